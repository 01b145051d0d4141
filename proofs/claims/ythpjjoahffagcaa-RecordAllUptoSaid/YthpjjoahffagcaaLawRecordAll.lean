/-
  The walk of RecordAll.
-/
import Derived.Test.YthpjjoahffagcaaRdQ
namespace Go.Proofs.Ythpjjoahffagcaa
open Go.RowKit

theorem info_int : (Try.prog.info? 3).map (fun i => (i.zero, i.size, i.bytes)) = some (some (.int .i64 0), 1, 8) := by kernel_rfl

/-- What loop 1 keeps. -/
structure RA (w wr : World) (Aa : Option Addr) (ca : Nat) (Ae : Option Addr) (ce : Nat) (Ar : Option Addr) (cr : Nat) (rs : List Rec) : Prop where
  all : OB wr w.heap.size (.slice Aa (joinE rs).length ca) (joinE rs)
  ends : wr.ownsRow w.heap.size 3 1 (.slice Ae rs.length ce) rs.length ((endsL rs).map (Value.int .i64))
  row : ORV w wr (.slice Ar rs.length cr) rs
  bel : Below w.heap.size w wr
  ok : ∀ r ∈ rs, r.right = true
theorem RA.nil (w : World) : RA w w none 0 none 0 none 0 [] := ⟨OB.nil _ _, ⟨rfl, .inl ⟨rfl, rfl⟩⟩, ORV.nil _ _, gr_refl _, fun r h => by cases h⟩
theorem RA.below {w wr w4 : World} {Aa Ae Ar : Option Addr} {ca ce cr : Nat} {rs : List Rec} (h : RA w wr Aa ca Ae ce Ar cr rs) (hb : Below wr.heap.size wr w4) : RA w w4 Aa ca Ae ce Ar cr rs := by
  obtain ⟨us, r1, r2, r3⟩ := h.row
  exact ⟨h.all.below hb, own_keep h.ends hb, ⟨us, own_keep r1 hb, r2, r3⟩, gr_trans h.bel hb, h.ok⟩

set_option maxRecDepth 100000 in
set_option maxHeartbeats 4000000 in
theorem RecordAll_any (A : Option Addr) (n c : Nat) (l : List Rec) (cut : Int) (w : World) (hr : RW w A n l) (hnc : n ≤ c) (hc : c ≤ 4398046511000) (hin : ∀ r ∈ l, recIn r) :
    Calls Try.prog 5 #[.slice A n c, .int .i64 cut] w fun e w' => e = .returned (.bool true) ∧ Below w.heap.size w w' := by
  obtain ⟨i0, hi0, hz0, hz1, hz2⟩ := info_parts info_u8
  obtain ⟨i1, hi1, hy0, hy1, hy2⟩ := info_parts info_record
  obtain ⟨i2, hi2, hx0, hx1, hx2⟩ := info_parts info_int
  have HHI : Hid (∀ r ∈ l, recIn r) := Lib.hid hin
  have HRW := Lib.hid hr
  have hlen := hr.len
  obtain ⟨n', l', hn6, hnc', HR', HIN, hcase⟩ : ∃ (n' : Nat) (l' : List Rec), n' ≤ 6 ∧ n' ≤ c ∧ Hid (RW w A n' l') ∧ Hid (∀ r ∈ l', recIn r) ∧ ((n ≤ 6 ∧ n = n') ∨ (6 < n ∧ (6 : Int) = (n' : Int))) := by
    rcases Nat.lt_or_ge 6 n with h | h
    · exact ⟨6, l.take 6, Nat.le_refl _, by omega, Lib.hid (hr.pre (by omega)), Lib.hid (fun r h => hin r (List.mem_of_mem_take h)), .inr ⟨h, rfl⟩⟩
    · exact ⟨n, l, h, by omega, Lib.hid hr, Lib.hid hin, .inl ⟨h, rfl⟩⟩
  clear hr hin HHI HRW hlen
  have HCASE : ∃ t : Bool, decide ((6 : Int) < (n : Int)) = t ∧ (t = false → n = n') ∧ (t = true → (6 : Int) = (n' : Int)) := by
    rcases hcase with ⟨h1, h2⟩ | ⟨h1, h2⟩
    · exact ⟨false, decide_eq_false (by omega), (fun _ => h2), (fun h => by cases h)⟩
    · exact ⟨true, decide_eq_true (by omega), (fun h => by cases h), (fun _ => h2)⟩
  obtain ⟨t, ht, e1, e2⟩ := HCASE
  clear hcase
  cases t
  case' false =>
    have e3 := (e1 rfl).symm
    subst e3
    clear e1 e2
    go_enter Try.func5, Try.ntmps5
    go_wp2_with fail
    clear ht
  case' true =>
    have e3 := e2 rfl
    clear e1 e2
    have hcut := fun W => run_cut_h (P := Try.prog) W 41 38 i1 Try.underlying41 hi1 3 hy1 A n c 6 n' e3 (by omega)
    clear e3
    go_enter Try.func5, Try.ntmps5
    go_wp2_with fail
    clear hcut ht
  all_goals
    go_loopw [5, 6, 7, 8, 9, 10] (fun va ve vr i _ _ wr => ∃ (k : Nat) (Aa : Option Addr) (ca : Nat) (Ae : Option Addr) (ce : Nat) (Ar : Option Addr) (cr : Nat) (rs : List Rec), k ≤ n' ∧ i = .int .i64 k ∧ rs.length ≤ k ∧ va = .slice Aa (joinE rs).length ca ∧ ve = .slice Ae rs.length ce ∧ vr = .slice Ar rs.length cr ∧ Hid (RA w wr Aa ca Ae ce Ar cr rs)) (fun _ _ _ i _ _ _ => n' - (intOf i).toNat)
    case atStart => exact ⟨0, none, 0, none, 0, none, 0, [], Nat.zero_le _, rfl, Nat.le_refl _, rfl, rfl, rfl, Lib.hid (RA.nil w)⟩
    case round =>
      obtain ⟨k, Aa, ca, Ae, ce, Ar, cr, rs, hk, rfl, hrs, rfl, rfl, rfl, HRA⟩ := hrel
      by_cases hlt : k < n'
      · have t1 : decide ((k : Int) < (n' : Int)) = true := decide_eq_true (by omega)
        have t2 : decide (k < n') = true := decide_eq_true hlt
        have j0 : (0 : Int) ≤ (k : Int) := Int.natCast_nonneg _
        have j1 : (k : Int) < (n' : Int) := by omega
        have hb := HRA.out.bel
        have hx := HIN.out _ (rec_mem (k := k) (by rw [HR'.out.len]; exact hlt))
        obtain ⟨gp, op, Dp, dp, rfl, q0, q1, q2, q3, q4, q5⟩ := HR'.out.at_ (i := k) hlt
        generalize l'.getD k rec0 = x at *
        obtain ⟨xk, xt, xc⟩ := x
        dsimp only at q0 q1 q2 q3 q4 q5 hx
        have y0 := keep_of_below hb q0
        have y1 := keep_of_below hb q1
        have y2 := keep_of_below hb q2
        have HVC : Hid (VC w (.slice Dp xc.length dp) xc) := Lib.hid ⟨Dp, dp, rfl, q3, q4, q5⟩
        have HX := Lib.hid hx
        have HCR := Lib.hid (q3.below hb)
        have HQ := Lib.hid (And.intro q0 (And.intro q1 q2))
        clear q0 q1 q2 q3 q4 q5 hx hb
        go_wp2_with fail
        refine (Encode_any xk xt Dp xc.length dp xc wr HCR.out HX.out.2.2.2.1 (fun c hc => (HX.out.2.2.2.2 c hc).2)).mono ?_
        rintro e w1 ⟨v1, rfl, ho1, hb1⟩
        have HRA1 := Lib.hid (HRA.out.below hb1)
        clear y0 y1 y2 HRA HCR hb1
        cases hr : (Rec.mk xk xt xc).right with
        | false =>
          have e1 : encE ⟨xk, xt, xc⟩ = 2 := by unfold encE; rw [hr]; rfl
          rw [e1]
          clear ho1 hr e1
          go_wp2_with fail
          go_roundw
          case rel => exact ⟨k + 1, Aa, ca, Ae, ce, Ar, cr, rs, by omega, by go_num, by omega, rfl, rfl, rfl, HRA1⟩
          case measure => simp [intOf]; omega
        | true =>
          have e1 : encE ⟨xk, xt, xc⟩ = 0 := by unfold encE; rw [hr]; rfl
          have e2 : encL ⟨xk, xt, xc⟩ = encR ⟨xk, xt, xc⟩ := by unfold encL; rw [hr]; rfl
          rw [e1]
          rw [e2] at ho1
          have HOK : Hid (∀ r ∈ rs ++ [⟨xk, xt, xc⟩], r.right = true) := Lib.hid (fun r h => by
            rcases List.mem_append.1 h with h | h
            · exact HRA1.out.ok r h
            · rw [List.mem_singleton.1 h]; exact hr)
          have hle := joinE_le _ HOK.out
          rw [List.length_append, List.length_singleton, joinE_snoc, List.length_append] at hle
          obtain ⟨A1, c1, rfl, br1, hn1, hm1⟩ := ho1.form
          clear e1 e2 ho1 hr
          have hra := HRA1.out.all
          have HJ : Hid (joinE (rs ++ [⟨xk, xt, xc⟩]) = joinE rs ++ encR ⟨xk, xt, xc⟩) := Lib.hid (joinE_snoc _ _)
          have HES := Lib.hid (endsL_snoc rs ⟨xk, xt, xc⟩)
          obtain ⟨us, r1, r2, r3⟩ := HRA1.out.row
          have HR1 := Lib.hid r1
          have HR2 := Lib.hid r2
          have HR3 := Lib.hid r3
          have HE1 := Lib.hid HRA1.out.ends
          have HB1 := Lib.hid HRA1.out.bel
          generalize hL : (joinE rs).length = L at *
          generalize hE : (encR ⟨xk, xt, xc⟩).length = E at *
          have HL := Lib.hid hL
          have HE := Lib.hid hE
          have HBR := Lib.hid br1
          have HRA2 := Lib.hid hra
          have hsz := HB1.out.size
          clear hL hE r1 r2 r3 HRA1 br1 hra
          go_upto_region 12 with (at_builtin; refine wpList_append_Rd _ rfl (.tmp 39) (.tmp 40) _ rfl w.heap.size 5 i0 _ 1 1 Try.underlying26 hi0 hz0 hz1 hz2 rfl (.slice Aa L ca) L ((joinE rs).map bv) rfl (by have := HRA2.out; unfold OB at this; rw [HL.out] at this; exact this) A1 E c1 ((encR ⟨xk, xt, xc⟩).map bv) rfl HBR.out (one_bv _) (by omega) (by simp only [maxLen]; omega) hsz ?_; intro v8 w8 ho8 hg8 _ _; have HO8 := Lib.hid ho8; have HG8 := Lib.hid hg8; obtain ⟨A8, c8, rfl, _, _⟩ := own_form ho8; clear ho8 hg8)
          have HB8 := Lib.hid (gr_own HB1.out HRA2.out HG8.out)
          have HE8 := Lib.hid (own_other HE1.out HRA2.out (by decide) HG8.out)
          have HR8 := Lib.hid (own_other HR1.out HRA2.out (by decide) HG8.out)
          have HN : ∃ N, N = L + E := ⟨_, rfl⟩
          obtain ⟨N, hN⟩ := HN
          have HO8' : Hid (w8.ownsRow w.heap.size 5 1 (.slice A8 N c8) N ((joinE rs).map bv ++ (encR ⟨xk, xt, xc⟩).map bv)) := Lib.hid (by rw [hN]; exact HO8.out)
          have HNN := Lib.hid hN
          rw [← hN]
          clear hN HB1 HE1 HR1 HG8 HO8 hsz HRA2 HBR
          have hb9 := gr_alloc (gr_refl w8) (.cells #[.int .i64 (N : Int)] 3)
          have HB9 := Lib.hid (gr_trans HB8.out hb9)
          have HE9 := Lib.hid (own_keep HE8.out hb9)
          have HR9 := Lib.hid (own_keep HR8.out hb9)
          have HO9 := Lib.hid (own_keep HO8'.out hb9)
          have hsz := HB9.out.size
          clear hb9 HB8 HE8 HR8 HO8'
          go_upto_region 13 with (at_builtin; refine wpList_append_Rd _ rfl (.tmp 42) (.tmp 45) _ rfl w.heap.size 3 i2 _ 1 8 Try.underlying48 hi2 hx0 hx1 hx2 rfl (.slice Ae rs.length ce) rs.length ((endsL rs).map (Value.int .i64)) rfl HE9.out (some ⟨w8.heap.size, 0, none⟩) 1 1 [.int .i64 (N : Int)] rfl (Rd.new w8 _ #[.int .i64 (N : Int)] 1 1 rfl) (by simp [Value.oneCell']) (by omega) (by simp only [maxLen]; omega) hsz ?_; intro va wa hoa hga _ _; have HOA := Lib.hid hoa; have HGA := Lib.hid hga; obtain ⟨Aa, ca', rfl, _, _⟩ := own_form hoa; clear hoa hga)
          have HBA := Lib.hid (gr_own HB9.out HE9.out HGA.out)
          have HLA := Lib.hid (own_other HO9.out HE9.out (by decide) HGA.out)
          have HRA := Lib.hid (own_other HR9.out HE9.out (by decide) HGA.out)
          clear HB9 HE9 HR9 HO9 HGA hsz
          have y0 := keep_of_below HBA.out HQ.out.1
          have y1 := keep_of_below HBA.out HQ.out.2.1
          have y2 := keep_of_below HBA.out HQ.out.2.2
          have hbb := gr_alloc (gr_refl wa) (.cells #[.int .u8 (xk : Int), .int .i64 xt, .slice Dp xc.length dp] 38)
          have HBB := Lib.hid (gr_trans HBA.out hbb)
          have HEB := Lib.hid (own_keep HOA.out hbb)
          have HRB := Lib.hid (own_keep HRA.out hbb)
          have HLB := Lib.hid (own_keep HLA.out hbb)
          have hsz := HBB.out.size
          clear hbb HBA HOA HRA HLA
          go_wp2_with (at_builtin; refine wpList_append_Rd _ rfl (.tmp 47) (.tmp 52) _ rfl w.heap.size 38 i1 _ 3 40 Try.underlying41 hi1 hy0 hy1 hy2 rfl (.slice Ar rs.length cr) rs.length (rcs us) rfl HRB.out (some ⟨wa.heap.size, 0, none⟩) 1 1 [.int .u8 (xk : Int), .int .i64 xt, .slice Dp xc.length dp] rfl (Rd.new wa _ #[.int .u8 (xk : Int), .int .i64 xt, .slice Dp xc.length dp] 1 3 rfl) (by simp [Value.oneCell']) (by omega) (by simp only [maxLen]; omega) hsz ?_; intro vc wc hoc hgc _ _; have HOC := Lib.hid hoc; have HGC := Lib.hid hgc; obtain ⟨Ac, cc, rfl, _, _⟩ := own_form hoc; clear hoc hgc)
          have HBC := Lib.hid (gr_own HBB.out HRB.out HGC.out)
          have HLC := Lib.hid (own_other HLB.out HRB.out (by decide) HGC.out)
          have HEC := Lib.hid (own_other HEB.out HRB.out (by decide) HGC.out)
          clear y0 y1 y2
          go_roundw
          case rel =>
            have hlj : (joinE (rs ++ [⟨xk, xt, xc⟩])).length = N := by rw [HJ.out, List.length_append, HL.out, HE.out, HNN.out]
            refine ⟨k + 1, A8, c8, Aa, ca', Ac, cc, rs ++ [⟨xk, xt, xc⟩], by omega, by go_num, by rw [List.length_append]; simp; omega, by rw [hlj], by rw [List.length_append]; rfl, by rw [List.length_append]; rfl, Lib.hid ⟨?_, ?_, ?_, HBC.out, HOK.out⟩⟩
            · rw [hlj]
              exact OB.of_own HLC.out (by rw [HJ.out, List.map_append])
            · rw [HES.out, hlj, List.map_append, List.length_append]
              exact HEC.out
            · rw [List.length_append]
              exact ORV.push HR2.out HR3.out HVC.out HOC.out
          case measure => simp [intOf]; omega
      · obtain rfl : k = n' := by omega
        have t1 : decide ((k : Int) < (k : Int)) = false := decide_eq_false (by omega)
        have HOK := Lib.hid HRA.out.ok
        have hle := joinE_le rs HOK.out
        obtain ⟨hj1, hj2⟩ := all_join HOK.out
        have HSZ : Hid (∀ r ∈ rs, r.cs.length ≤ 9223372036854775807 ∧ ∀ c ∈ r.cs, c.2.2.length ≤ 9223372036854775807) := Lib.hid (fun r hr => by
          obtain ⟨_, _, _, g4, g5⟩ := right_good (HOK.out r hr)
          refine ⟨by omega, fun c hc => ?_⟩
          have h1 := g5 c hc
          unfold chG at h1
          omega)
        have hall := HRA.out.all
        have HBT := fun q => all_between HOK.out (cut := q)
        have HIS := fun q => all_inside HOK.out (cut := q)
        have HBT' : Hid (∀ q, bE rs q rs.length = true → allR ((joinE rs).take q) = rs.take (nE rs q rs.length) ∧ allE ((joinE rs).take q) = 0) := Lib.hid HBT
        have HIS' : Hid (∀ q, q ≤ (joinE rs).length → bE rs q rs.length = false → allR ((joinE rs).take q) = [] ∧ allE ((joinE rs).take q) = 150) := Lib.hid HIS
        have HNE : Hid (∀ q, nE rs q rs.length ≤ rs.length) := Lib.hid (fun q => (nE_good rs q rs.length).1)
        have HNS : Hid (∀ q j, nE rs q (j + 1) = if jl rs (j + 1) ≤ q then j + 1 else nE rs q j) := Lib.hid (fun _ _ => rfl)
        have HBS : Hid (∀ q j, bE rs q (j + 1) = (bE rs q j || jl rs (j + 1) == q)) := Lib.hid (fun _ _ => rfl)
        have HEA : Hid (∀ j, j < rs.length → (endsL rs).getD j 0 = ((jl rs (j + 1) : Nat) : Int)) := Lib.hid (fun j hj => endsL_at rs hj)
        have HJL : Hid (∀ j, j < rs.length → jl rs (j + 1) ≤ (joinE rs).length) := Lib.hid (fun j hj => by
          have := jl_mono rs rs.length (j + 1) (by omega) (Nat.le_refl _)
          unfold jl at this ⊢
          rw [List.take_length] at this
          exact this)
        obtain ⟨A0, c0, e0, br0, g1, g2⟩ := hall.form
        injection e0 with e0 _ e0'
        subst e0 e0'
        have HFN : ∃ fn fb fj, Hid (fn = nE rs ∧ fb = bE rs ∧ fj = jl rs) := ⟨_, _, _, Lib.hid ⟨rfl, rfl, rfl⟩⟩
        clear hall HBT HIS
        generalize hL : (joinE rs).length = L at *
        have HL := Lib.hid hL
        have HR0 := Lib.hid br0
        have HG := Lib.hid (And.intro g1 g2)
        clear hL br0 g1 g2
        go_wp2_with fail
        refine (All_any Aa L ca (joinE rs) wr HR0.out (by omega) HG.out.1 (by have := HG.out.2; simp only [maxLen] at this; omega)).mono ?_
        rw [hj1, hj2]
        clear hj1 hj2
        rintro e w1 ⟨v1, rfl, om1, hb1⟩
        obtain ⟨A1, c1, rfl, rw1, _, _⟩ := om1.rw
        have HRA1 := Lib.hid (HRA.out.below hb1)
        have HM1 := Lib.hid rw1
        clear om1 hb1 rw1 HR0 HRA
        go_wp2_with fail
        refine (SameRecords_eq A1 Ar rs.length c1 cr rs w1 HM1.out (HRA1.out.row.rw rfl HRA1.out.bel) (by omega) HSZ.out).mono ?_
        rintro e w2 ⟨rfl, hb2⟩
        have HRA2 := Lib.hid (HRA1.out.below hb2)
        clear hb2 HRA1 HM1
        have hp := Pick_any cut ((L : Int) + 1) w2 (by omega) (by omega)
        obtain ⟨q, hq, hqL⟩ : ∃ q : Nat, cut % ((L : Int) + 1) = (q : Int) ∧ q ≤ L := by
          have h1 := Int.emod_nonneg cut (b := (L : Int) + 1) (by omega)
          have h2 := Int.emod_lt_of_pos cut (b := (L : Int) + 1) (by omega)
          exact ⟨(cut % ((L : Int) + 1)).toNat, by omega, by omega⟩
        rw [hq] at hp
        have HP := Lib.hid hp
        clear hp hq
        go_wp2_with fail
        refine HP.out.mono ?_
        rintro e w3 ⟨rfl, rfl⟩
        clear HP
        have b0 : (((q : Int)) == 0) = bE rs q 0 := by
          show _ = (q == 0)
          cases q <;> rfl
        have HQL := Lib.hid hqL
        have HN0 : Hid (nE rs q 0 = 0) := Lib.hid rfl
        clear hqL t1
        go_upto_region 20 with fail
        clear b0
        go_loopw [13, 14, 15] (fun x b i wr => ∃ j : Nat, j ≤ rs.length ∧ x = .int .i64 (nE rs q j : Int) ∧ b = .bool (bE rs q j) ∧ i = .int .i64 j ∧ Hid (w2 = wr)) (fun _ _ i _ => rs.length - (intOf i).toNat)
        case atStart => exact ⟨0, Nat.zero_le _, by rw [HN0.out]; rfl, rfl, rfl, Lib.hid rfl⟩
        case round =>
          obtain ⟨j, hj, rfl, rfl, rfl, HWR⟩ := hrel
          obtain rfl := HWR.out
          clear HWR
          by_cases hlt : j < rs.length
          · have t1 : decide ((j : Int) < (rs.length : Int)) = true := decide_eq_true (by omega)
            have t2 : decide (j < rs.length) = true := decide_eq_true hlt
            have j0 : (0 : Int) ≤ (j : Int) := Int.natCast_nonneg _
            have j1 : (j : Int) < (rs.length : Int) := by omega
            have HN1 := HNS.out q j
            have HB1 := HBS.out q j
            have HE1 := HEA.out j hlt
            obtain ⟨ge, oe, rfl, qe⟩ := (IR.of_own HRA2.out.ends).at_ (k := j) hlt
            rw [HE1] at qe
            clear HE1
            generalize jl rs (j + 1) = J at *
            have HN1 := Lib.hid HN1
            have HB1 := Lib.hid HB1
            cases h3 : decide (J ≤ q)
            all_goals
              have h3' : decide ((J : Int) ≤ (q : Int)) = decide (J ≤ q) := by rw [Bool.eq_iff_iff]; simp
              rw [h3] at h3'
              cases h4 : bE rs q j
              all_goals
                cases h5 : (J == q)
                all_goals
                  have h5' : ((J : Int) == (q : Int)) = (J == q) := by rw [Bool.eq_iff_iff]; simp; omega
                  rw [h5] at h5'
                  go_wp2_with fail
                  go_roundw
                  case rel =>
                    refine ⟨j + 1, by omega, ?_, by rw [HB1.out, h4, h5]; rfl, by go_num, Lib.hid (by trivial)⟩
                    rw [HN1.out]
                    first
                      | (rw [if_pos (of_decide_eq_true h3)]; go_num)
                      | rw [if_neg (of_decide_eq_false h3)]
                  case measure => simp [intOf]; omega
          · obtain rfl : j = rs.length := by omega
            have t1 : decide ((rs.length : Int) < (rs.length : Int)) = false := decide_eq_false (by omega)
            have hcut := fun W => run_cut_h (P := Try.prog) W 26 5 i0 Try.underlying26 hi0 1 hz1 Aa L ca (q : Int) q rfl (by have := HG.out; have := HQL.out; omega)
            have HB2 := Lib.hid (OB.formN HRA2.out.all HL.out)
            have HNL := HNE.out q
            obtain ⟨_, _, e0, br3, _, _⟩ := HB2.out
            injection e0 with e0 _ e0'
            subst e0 e0'
            have HBR := Lib.hid (br3.pre HQL.out)
            have HNH := Lib.hid HNL
            have HX := Lib.hid (All_any Aa q ca ((joinE rs).take q) w2 HBR.out (by have := HQL.out; omega) (by have := HG.out.1; have := HQL.out; omega) (by have := HG.out.2; simp only [maxLen] at this; omega))
            clear HB2 br3 HNL
            cases hbe : bE rs q rs.length with
            | true =>
              obtain ⟨a1, a2⟩ := HBT'.out q hbe
              rw [a1, a2] at HX
              have HHX := Lib.hid HX.out
              have hcut2 := fun W => run_cut_h (P := Try.prog) W 41 38 i1 Try.underlying41 hi1 3 hy1 Ar rs.length cr (nE rs q rs.length : Int) (nE rs q rs.length) rfl (by obtain ⟨_, r1, _, _⟩ := HRA2.out.row; obtain ⟨_, _, e9, h9, _⟩ := own_form r1; injection e9 with _ _ e9; have := HNH.out; omega)
              generalize nE rs q rs.length = N at *
              clear HX a1 a2 hbe
              go_wp2_with fail
              refine HHX.out.mono ?_
              rintro e w3 ⟨v3, rfl, om3, hb3⟩
              obtain ⟨A3, c3, rfl, rw3, _, _⟩ := om3.rw
              have hl3 : (rs.take N).length = N := by rw [List.length_take]; have := HNH.out; omega
              rw [hl3] at rw3 ⊢
              have HM3 := Lib.hid rw3
              have HRA3 := Lib.hid (HRA2.out.below hb3)
              clear om3 hb3 rw3 HRA2 HHX hl3
              go_wp2_with fail
              refine (SameRecords_eq A3 Ar N c3 cr (rs.take N) w3 HM3.out ((HRA3.out.row.rw rfl HRA3.out.bel).pre HNH.out) (by have := HNH.out; omega) (fun r hr => HSZ.out r (List.mem_of_mem_take hr))).mono ?_
              rintro e w4 ⟨rfl, hb4⟩
              have HB4 := Lib.hid (gr_trans HRA3.out.bel hb4)
              clear hb4 HRA3 HM3
              go_wp2_with fail
              refine (awake05_any _).mono ?_
              rintro e w5 ⟨rfl, hb5⟩
              go_wp2
              go_ret
              exact ⟨rfl, gr_trans HB4.out hb5⟩
            | false =>
              obtain ⟨a1, a2⟩ := HIS'.out q HQL.out hbe
              rw [a1, a2] at HX
              have HHX := Lib.hid HX.out
              clear HX a1 a2 hbe
              go_wp2_with fail
              refine HHX.out.mono ?_
              rintro e w3 ⟨v3, rfl, om3, hb3⟩
              obtain ⟨A3, c3, rfl, _, _, _⟩ := om3.rw
              have HB4 := Lib.hid (gr_trans HRA2.out.bel hb3)
              clear om3 hb3 HRA2 HHX
              go_wp2_with fail
              refine (awake05_any _).mono ?_
              rintro e w5 ⟨rfl, hb5⟩
              go_wp2
              go_ret
              exact ⟨rfl, gr_trans HB4.out hb5⟩

end Go.Proofs.Ythpjjoahffagcaa
