/-
  The document's Take.
-/
import Derived.Test.YtfgkadkmgciamaaRoY
namespace Go.Proofs.Ytfgkadkmgciamaa
open Go Go.RowKit

theorem held_list (l : List Gr) (ow tb : Str) (pv : Int) : ∃ ks : List Str, ∀ x, x ∈ ks ↔ Held l ow tb pv x := by
  refine ⟨(ow :: l.map (·.gt)).filter (fun x => @decide (Held l ow tb pv x) (Classical.propDecidable _)), fun x => ?_⟩
  rw [List.mem_filter]
  constructor
  · rintro ⟨_, h⟩
    exact @of_decide_eq_true _ (Classical.propDecidable _) h
  · intro h
    refine ⟨?_, @decide_eq_true _ (Classical.propDecidable _) h⟩
    cases h with
    | own => exact List.mem_cons_self ..
    | step h1 h2 h3 h4 h5 => exact List.mem_cons_of_mem _ (List.mem_map.2 ⟨_, h2, rfl⟩)
theorem filt_takeG {l : List Gr} {j : Nat} {x : Gr} (p : Gr → Bool) (h : l[j]? = some x) : (l.take (j + 1)).filter p = (l.take j).filter p ++ (if p x then [x] else []) := by
  rw [take_snoc h, List.filter_append]
  congr 1
  by_cases hp : p x = true <;> simp [hp]

set_option maxRecDepth 100000 in
set_option maxHeartbeats 4000000 in
theorem refTake_any (A : Option Addr) (n c : Nat) (l : List Gr) (ow : Str) (g : Gr) (w : World) (h : ER EG 5 w A n l) (hn : n ≤ 2199023255552) :
    Calls Try.prog 17 #[.slice A n c, .string ⟨ow.toArray⟩, .agg #[.string ⟨g.tb.toArray⟩, .int .u8 g.pv, .string ⟨g.gt.toArray⟩, .string ⟨g.gb.toArray⟩, .bool g.op]] w fun e w' => TakeP l ow g w.heap.size e w' ∧ Below w.heap.size w w' := by
  obtain ⟨i0, z, hi0, hz0, hzs, hz1, hz2⟩ := info_Gr'
  obtain ⟨ks, hks⟩ := held_list (restL l g) ow g.tb g.pv
  have HKS := Lib.hid hks
  have HA := Lib.hid (gr_alloc (gr_refl w) (.cells #[.string ⟨g.tb.toArray⟩, .int .u8 g.pv, .string ⟨g.gt.toArray⟩, .string ⟨g.gb.toArray⟩, .bool g.op] 30))
  have HCA := Lib.hid (heap_alloc_new w (.cells #[.string ⟨g.tb.toArray⟩, .int .u8 g.pv, .string ⟨g.gt.toArray⟩, .string ⟨g.gb.toArray⟩, .bool g.op] 30))
  have HS := Lib.hid (h.below HA.out)
  have HL := Lib.hid h.1
  clear h hks
  go_enter Try.func17, Try.ntmps17
  go_upto_region 1 with fail
  generalize w.alloc (.cells #[.string ⟨g.tb.toArray⟩, .int .u8 g.pv, .string ⟨g.gt.toArray⟩, .string ⟨g.gb.toArray⟩, .bool g.op] 30) = w1 at *
  have HWH : Hid (w.heap.size < w1.heap.size) := Lib.hid (Array.getElem?_eq_some_iff.1 HCA.out).1
  go_wp2_with fail
  go_loopw [8, 9] (fun v i wr => ∃ (j : Nat), j ≤ n ∧ i = .int .i64 (j : Int) ∧ EO EG 5 30 wr w1.heap.size v (restL (l.take j) g) ∧ Below w1.heap.size w1 wr) (fun _ i _ => n - (intOf i).toNat)
  case atStart => exact ⟨0, Nat.zero_le _, rfl, by simpa [restL] using EO.nil _ _, gr_refl w1⟩
  case round =>
    obtain ⟨j, hj, rfl, heo, hb⟩ := hrel
    obtain ⟨Av, cv, rfl, _, _, _⟩ := heo.form
    obtain ⟨L, hLL⟩ : ∃ L, L = (restL (l.take j) g).length := ⟨_, rfl⟩
    have hLn : L ≤ n := by
      rw [hLL]
      refine Nat.le_trans (restL_len _ _) ?_
      rw [List.length_take, HL.out]
      omega
    rw [← hLL] at heo ⊢
    have HLL := Lib.hid hLL
    have HEO := Lib.hid heo
    have HB := Lib.hid hb
    have HCW := Lib.hid ((hb.block w.heap.size HWH.out).trans HCA.out)
    clear hLL heo
    by_cases hlt : j < n
    · have t1 : decide ((j : Int) < (n : Int)) = true := decide_eq_true (by omega)
      have t2 : decide (j < n) = true := decide_eq_true hlt
      have i0' : (0 : Int) ≤ (j : Int) := Int.natCast_nonneg _
      have i1' : (j : Int) < (n : Int) := by omega
      obtain ⟨ga, o, x, rfl, hx, q0, q1, q2, q3, q4⟩ := (HS.out.below hb).atGr hlt
      have HT := Lib.hid (restL_take (g := g) hx)
      obtain ⟨r, hr⟩ : ∃ r, r = alikeB x g := ⟨_, rfl⟩
      have HAL := Lib.hid (fun W => refAlike_any x g W)
      rw [← hr] at HT HAL
      have hmx : L + 1 ≤ maxLen := by simp only [maxLen]; omega
      obtain ⟨c0, c1, c2, c3, c4⟩ := cells5 HCW.out
      have Q0 := Lib.hid q0
      have C0 := Lib.hid c0
      have Q1 := Lib.hid q1
      have C1 := Lib.hid c1
      have Q2 := Lib.hid q2
      have C2 := Lib.hid c2
      have Q3 := Lib.hid q3
      have C3 := Lib.hid c3
      have Q4 := Lib.hid q4
      have C4 := Lib.hid c4
      clear hx hr hb q0 q1 q2 q3 q4 c0 c1 c2 c3 c4
      go_upto_region 5 with fail
      refine' wp_region_mono (by kernel_rfl) (by kernel_rfl) (by kernel_rfl) (by kernel_rfl) (by kernel_rfl) (by kernel_rfl)
        [MP.is (.slice (some ⟨ga, o, none⟩) n c), MP.is (.int .i64 (j : Int)), MP.is (.pointer (some ⟨ga, o + j * 5, none⟩)), MP.is (.agg #[.string ⟨x.tb.toArray⟩, .int .u8 x.pv, .string ⟨x.gt.toArray⟩, .string ⟨x.gb.toArray⟩, .bool x.op]), MP.is (.agg #[.string ⟨g.tb.toArray⟩, .int .u8 g.pv, .string ⟨g.gt.toArray⟩, .string ⟨g.gb.toArray⟩, .bool g.op]), MP.is (.bool r), MP.is (.bool (!r))] ?hAA2 ?hst2 ?hend2
      case hAA2 =>
        intro f
        conv => lhs; simp only [putA, dstOf, List.size_toArray, List.length_cons, List.length_nil, Nat.zero_add, Nat.reduceAdd, List.getElem?_toArray, List.getElem?_cons_zero, List.getElem?_cons_succ, Option.bind_some, Act.put, List.setIfInBounds_toArray, List.set_cons_zero, List.set_cons_succ]
        first | done | exact rfl
      case hst2 =>
        change Steps _ _ _ _ _ [0, 1, 2, 3, 4, 5, 6]
        refine Steps.cons rfl ?_ ?_
        · intro f wz hB h K Q hK
          try simp only [List.getElem_toArray, List.getElem_cons_zero]
          go_simp
          exact hK _ _ (gr_refl _) rfl
        refine Steps.cons rfl ?_ ?_
        · intro f wz hB h K Q hK
          try simp only [List.getElem_toArray, List.getElem_cons_succ, List.getElem_cons_zero]
          go_simp
          exact hK _ _ (gr_refl _) rfl
        refine Steps.cons rfl ?_ ?_
        · intro f wz hB h K Q hK
          have h0 : (MP.is (.slice (some ⟨ga, o, none⟩) n c)).p (f 0) wz := h 0 (by kernel_rfl)
          have e0 : f 0 = (.slice (some ⟨ga, o, none⟩) n c) := h0
          have h1 : (MP.is (.int .i64 (j : Int))).p (f 1) wz := h 1 (by kernel_rfl)
          have e1 : f 1 = (.int .i64 (j : Int)) := h1
          simp only [e0, e1] at hK ⊢
          clear e0 e1
          try simp only [List.getElem_toArray, List.getElem_cons_succ, List.getElem_cons_zero]
          go_simp
          exact hK _ _ (gr_refl _) rfl
        refine Steps.cons rfl ?_ ?_
        · intro f wz hB h K Q hK
          have h2 : (MP.is (.pointer (some ⟨ga, o + j * 5, none⟩))).p (f 2) wz := h 2 (by kernel_rfl)
          have e2 : f 2 = (.pointer (some ⟨ga, o + j * 5, none⟩)) := h2
          simp only [e2] at hK ⊢
          clear e2
          try simp only [List.getElem_toArray, List.getElem_cons_succ, List.getElem_cons_zero]
          have y0 := keep_of_below (bel_drew hB) Q0.out
          have y1 := keep_of_below (bel_drew hB) Q1.out
          have y2 := keep_of_below (bel_drew hB) Q2.out
          have y3 := keep_of_below (bel_drew hB) Q3.out
          have y4 := keep_of_below (bel_drew hB) Q4.out
          have y5 := keep_of_below (bel_drew hB) C0.out
          have y6 := keep_of_below (bel_drew hB) C1.out
          have y7 := keep_of_below (bel_drew hB) C2.out
          have y8 := keep_of_below (bel_drew hB) C3.out
          have y9 := keep_of_below (bel_drew hB) C4.out
          go_simp
          exact hK _ _ (gr_refl _) rfl
        refine Steps.cons rfl ?_ ?_
        · intro f wz hB h K Q hK
          try simp only [List.getElem_toArray, List.getElem_cons_succ, List.getElem_cons_zero]
          have y0 := keep_of_below (bel_drew hB) Q0.out
          have y1 := keep_of_below (bel_drew hB) Q1.out
          have y2 := keep_of_below (bel_drew hB) Q2.out
          have y3 := keep_of_below (bel_drew hB) Q3.out
          have y4 := keep_of_below (bel_drew hB) Q4.out
          have y5 := keep_of_below (bel_drew hB) C0.out
          have y6 := keep_of_below (bel_drew hB) C1.out
          have y7 := keep_of_below (bel_drew hB) C2.out
          have y8 := keep_of_below (bel_drew hB) C3.out
          have y9 := keep_of_below (bel_drew hB) C4.out
          go_simp
          exact hK _ _ (gr_refl _) rfl
        refine Steps.cons rfl ?_ ?_
        · intro f wz hB h K Q hK
          have h3 : (MP.is (.agg #[.string ⟨x.tb.toArray⟩, .int .u8 x.pv, .string ⟨x.gt.toArray⟩, .string ⟨x.gb.toArray⟩, .bool x.op])).p (f 3) wz := h 3 (by kernel_rfl)
          have e3 : f 3 = (.agg #[.string ⟨x.tb.toArray⟩, .int .u8 x.pv, .string ⟨x.gt.toArray⟩, .string ⟨x.gb.toArray⟩, .bool x.op]) := h3
          have h4 : (MP.is (.agg #[.string ⟨g.tb.toArray⟩, .int .u8 g.pv, .string ⟨g.gt.toArray⟩, .string ⟨g.gb.toArray⟩, .bool g.op])).p (f 4) wz := h 4 (by kernel_rfl)
          have e4 : f 4 = (.agg #[.string ⟨g.tb.toArray⟩, .int .u8 g.pv, .string ⟨g.gt.toArray⟩, .string ⟨g.gb.toArray⟩, .bool g.op]) := h4
          simp only [e3, e4] at hK ⊢
          clear e3 e4
          try simp only [List.getElem_toArray, List.getElem_cons_succ, List.getElem_cons_zero]
          go_simp
          refine (HAL.out wz).mono ?_
          rintro e w5 ⟨rfl, hb5⟩
          exact hK _ _ hb5 rfl
        refine Steps.cons rfl ?_ ?_
        · intro f wz hB h K Q hK
          have h5 : (MP.is (.bool r)).p (f 5) wz := h 5 (by kernel_rfl)
          have e5 : f 5 = (.bool r) := h5
          simp only [e5] at hK ⊢
          clear e5
          try simp only [List.getElem_toArray, List.getElem_cons_succ, List.getElem_cons_zero]
          go_simp
          exact hK _ _ (gr_refl _) rfl
        exact Steps.nil
      intro f w4 hB4 hR
      have e0 : f 0 = (.slice (some ⟨ga, o, none⟩) n c) := hR 0 (by decide)
      have e1 : f 1 = (.int .i64 (j : Int)) := hR 1 (by decide)
      have e2 : f 2 = (.pointer (some ⟨ga, o + j * 5, none⟩)) := hR 2 (by decide)
      have e3 : f 3 = (.agg #[.string ⟨x.tb.toArray⟩, .int .u8 x.pv, .string ⟨x.gt.toArray⟩, .string ⟨x.gb.toArray⟩, .bool x.op]) := hR 3 (by decide)
      have e4 : f 4 = (.agg #[.string ⟨g.tb.toArray⟩, .int .u8 g.pv, .string ⟨g.gt.toArray⟩, .string ⟨g.gb.toArray⟩, .bool g.op]) := hR 4 (by decide)
      have e5 : f 5 = (.bool r) := hR 5 (by decide)
      have e6 : f 6 = (.bool (!r)) := hR 6 (by decide)
      simp only [e0, e1, e2, e3, e4, e5, e6]
      clear e0 e1 e2 e3 e4 e5 e6 hR
      have hd := bel_drew hB4
      have HB4 := Lib.hid (gr_trans HB.out hd)
      have HE4 := Lib.hid (HEO.out.below hd)
      have q0 := keep_of_below hd Q0.out
      have q1 := keep_of_below hd Q1.out
      have q2 := keep_of_below hd Q2.out
      have q3 := keep_of_below hd Q3.out
      have q4 := keep_of_below hd Q4.out
      clear hd hB4
      cases r
      · have HOW : Hid (w4.ownsRow w1.heap.size 30 5 (.slice Av L cv) L ((restL (l.take j) g).flatMap EG)) := Lib.hid (by have := HE4.out; unfold EO at this; rw [← HLL.out] at this; exact this)
        go_wp2_with (at_builtin; refine wpList_append_Rd _ rfl (.tmp 26) (.tmp 31) _ rfl w1.heap.size 30 i0 _ 5 64 Try.underlying22 hi0 hz0 hz1 hz2 hzs (.slice Av L cv) L _ rfl (ownsRow_off (S := fun _ => False) HOW.out (Off.of_below (gr_alloc (gr_refl w4) _)) (fun _ _ h => h)) (some ⟨w4.heap.size, 0, none⟩) 1 1 (EG x) rfl (rd_new1 _ _ _ _ rfl) (EG_one x) (by omega) hmx (gr_alloc HB4.out _).size ?_; intro v6 w6 hown6 hg6 _ _; have hb6 : Below w1.heap.size w1 w6 := (gr_alloc HB4.out _).grown hg6 (gr_alloc HB4.out _).size (fun j hj => (HOW.out.lt j hj).1))
        have HR6 := Lib.hid (EO.snoc hown6 HLL.out.symm)
        have HB6 := Lib.hid hb6
        clear hown6 hg6 hb6 q0 q1 q2 q3 q4
        go_wp2_with fail
        go_roundw
        case rel => exact ⟨j + 1, by omega, by go_num, by rw [HT.out]; exact HR6.out, HB6.out⟩
        case measure => simp [intOf]; omega
      · go_wp2_with fail
        go_roundw
        case rel => exact ⟨j + 1, by omega, by go_num, by rw [HT.out]; simpa using HE4.out, HB4.out⟩
        case measure => simp [intOf]; omega
    · obtain rfl : j = n := by omega
      have t1 : decide ((j : Int) < (j : Int)) = false := decide_eq_false (by omega)
      have hfull : l.take j = l := List.take_of_length_le (by rw [HL.out]; omega)
      have HF1 : Hid (EO EG 5 30 wr w1.heap.size (.slice Av L cv) (restL l g)) := Lib.hid (by have := HEO.out; rwa [hfull] at this)
      have HLR : Hid (L = (restL l g).length) := Lib.hid (by have := HLL.out; rwa [hfull] at this)
      have HBW := Lib.hid (HA.out.trans (hb.mono HA.out.size))
      clear hfull HEO HLL hb
      by_cases hq : L = j
      · have t2 : ((L : Int) == (j : Int)) = true := beq_iff_eq.2 (by omega)
        have HQ : Hid ((restL l g).length = l.length) := Lib.hid (by rw [← HLR.out, HL.out, hq])
        clear hq
        go_wp2_with fail
        go_ret2
        exact ⟨.inl ⟨rfl, HQ.out⟩, HBW.out⟩
      · have t2 : ((L : Int) == (j : Int)) = false := beq_eq_false_iff_ne.2 (by omega)
        have HQ : Hid ((restL l g).length ≠ l.length) := Lib.hid (by rw [← HLR.out, HL.out]; exact hq)
        obtain ⟨d0, d1, d2, d3, d4⟩ := cells5 HCW.out
        have HER : Hid (ER EG 5 wr Av L (restL l g)) := Lib.hid (by
          obtain ⟨A', c', e, her, _⟩ := HF1.out.form
          injection e with e1 e2 e3
          subst e1
          rw [HLR.out]
          exact her)
        clear hq
        go_wp2_with fail
        refine (refHolding_any Av L cv (restL l g) ow g.tb g.pv wr HER.out (by omega)).mono ?_
        rintro e w2 ⟨rfl, heo2, hb2⟩
        have HBO := Lib.hid heo2
        have HER2 := Lib.hid (HER.out.below hb2)
        have HBW2 := Lib.hid (HBW.out.trans (hb2.mono HBW.out.size))
        have HC2 := Lib.hid ((hb2.block w.heap.size (Array.getElem?_eq_some_iff.1 HCW.out).1).trans HCW.out)
        generalize wr.heap.size = bg at *
        clear heo2 hb2 d0 d1 d2 d3 d4
        go_wp2_with fail
        clear HB
        go_loopw [11, 12] (fun v i wr => ∃ (k : Nat), k ≤ L ∧ i = .int .i64 (k : Int) ∧ EO EG 5 30 wr w2.heap.size v (((restL l g).take k).filter (fun h => !(h.tb == g.tb && h.pv == g.pv && !(ks.contains h.gb)))) ∧ Below w2.heap.size w2 wr) (fun _ i _ => L - (intOf i).toNat)
        case atStart => exact ⟨0, Nat.zero_le _, rfl, by simpa using EO.nil _ _, gr_refl w2⟩
        case round =>
          obtain ⟨k, hk, rfl, heo, hb⟩ := hrel
          obtain ⟨Ao, co, rfl, _, _, _⟩ := heo.form
          obtain ⟨M, hMM⟩ : ∃ M, M = (((restL l g).take k).filter (fun h => !(h.tb == g.tb && h.pv == g.pv && !(ks.contains h.gb)))).length := ⟨_, rfl⟩
          have hMn : M ≤ L := by
            rw [hMM]
            refine Nat.le_trans (List.length_filter_le _ _) ?_
            rw [List.length_take]
            omega
          rw [← hMM] at heo ⊢
          have HMM := Lib.hid hMM
          have HEO := Lib.hid heo
          have HB := Lib.hid hb
          clear hMM heo
          by_cases hlt : k < L
          · have t3 : decide ((k : Int) < (L : Int)) = true := decide_eq_true (by omega)
            have t4 : decide (k < L) = true := decide_eq_true hlt
            have i2' : (0 : Int) ≤ (k : Int) := Int.natCast_nonneg _
            have i3' : (k : Int) < (L : Int) := by omega
            obtain ⟨ga, o, x, rfl, hx, q0, q1, q2, q3, q4⟩ := (HER2.out.below hb).atGr hlt
            have HT := Lib.hid (filt_takeG (fun h => !(h.tb == g.tb && h.pv == g.pv && !(ks.contains h.gb))) hx)
            obtain ⟨b, hbk, hbi⟩ := holdB_at (ow := ow) (tb := g.tb) (pv := g.pv) hx
            have p0 := (HBO.out.below hb).cellB hbk
            obtain ⟨c0, c1, c2, c3, c4⟩ := cells5 ((hb.block w.heap.size (Array.getElem?_eq_some_iff.1 HC2.out).1).trans HC2.out)
            obtain ⟨s0, hs0⟩ : ∃ r, r = (x.tb == g.tb) := ⟨_, rfl⟩
            obtain ⟨s1, hs1⟩ : ∃ r, r = (x.pv == g.pv) := ⟨_, rfl⟩
            have e0 : (x.tb == g.tb) = s0 := hs0.symm
            have e1 : (x.pv == g.pv) = s1 := hs1.symm
            have hpx : (!(x.tb == g.tb && x.pv == g.pv && !(ks.contains x.gb))) = (b || !s0 || !s1) := by
              rw [← hs0, ← hs1]
              cases hq0 : s0
              · simp
              · cases hq1 : s1
                · simp
                · rw [hq0] at hs0
                  rw [hq1] at hs1
                  have e2 : ks.contains x.gb = b := Bool.eq_iff_iff.2 (by
                    rw [List.contains_iff_mem, HKS.out x.gb, hbi]
                    exact ⟨fun h => ⟨beq_iff_eq.1 hs0.symm, beq_iff_eq.1 hs1.symm, h⟩, fun h => h.2.2⟩)
                  rw [e2]
                  cases b <;> rfl
            rw [hpx] at HT
            have hmx : M + 1 ≤ maxLen := by simp only [maxLen]; omega
            have Q0 := Lib.hid q0
            have Q1 := Lib.hid q1
            have Q2 := Lib.hid q2
            have Q3 := Lib.hid q3
            have Q4 := Lib.hid q4
            clear hx hbk hbi hpx hs0 hs1 hb
            cases b
            · cases s0
              · go_upto_if 74 with (go_quiet (fail))
                have hd := gr_drewN (gr_refl wr) nq
                have HB4 := Lib.hid (gr_trans HB.out hd)
                have HE4 := Lib.hid (HEO.out.below hd)
                clear q0 q1 q2 q3 q4 c0 c1 c2 c3 c4 p0
                have q0 := keep_of_below hd Q0.out
                have q1 := keep_of_below hd Q1.out
                have q2 := keep_of_below hd Q2.out
                have q3 := keep_of_below hd Q3.out
                have q4 := keep_of_below hd Q4.out
                clear hd
                generalize wr.drewN nq = w4 at *
                have HOW : Hid (w4.ownsRow w2.heap.size 30 5 (.slice Ao M co) M ((((restL l g).take k).filter (fun h => !(h.tb == g.tb && h.pv == g.pv && !(ks.contains h.gb)))).flatMap EG)) := Lib.hid (by have := HE4.out; unfold EO at this; rw [← HMM.out] at this; exact this)
                go_wp2_with (at_builtin; refine wpList_append_Rd _ rfl (.tmp 75) (.tmp 80) _ rfl w2.heap.size 30 i0 _ 5 64 Try.underlying22 hi0 hz0 hz1 hz2 hzs (.slice Ao M co) M _ rfl (ownsRow_off (S := fun _ => False) HOW.out (Off.of_below (gr_alloc (gr_refl w4) _)) (fun _ _ h => h)) (some ⟨w4.heap.size, 0, none⟩) 1 1 (EG x) rfl (rd_new1 _ _ _ _ rfl) (EG_one x) (by omega) hmx (gr_alloc HB4.out _).size ?_; intro v6 w6 hown6 hg6 _ _; have hb6 : Below w2.heap.size w2 w6 := (gr_alloc HB4.out _).grown hg6 (gr_alloc HB4.out _).size (fun j hj => (HOW.out.lt j hj).1))
                have HR6 := Lib.hid (EO.snoc hown6 HMM.out.symm)
                have HB6 := Lib.hid hb6
                clear hown6 hg6 hb6 q0 q1 q2 q3 q4
                go_wp2_with fail
                go_roundw
                case rel => exact ⟨k + 1, by omega, by go_num, by rw [HT.out]; exact HR6.out, HB6.out⟩
                case measure => simp [intOf]; omega
              · cases s1
                · have tp : ¬ x.pv = g.pv := fun h => by rw [h] at e1; simp at e1
                  go_upto_if 74 with (go_quiet (fail))
                  have hd := gr_drewN (gr_refl wr) nq
                  have HB4 := Lib.hid (gr_trans HB.out hd)
                  have HE4 := Lib.hid (HEO.out.below hd)
                  clear q0 q1 q2 q3 q4 c0 c1 c2 c3 c4 p0
                  have q0 := keep_of_below hd Q0.out
                  have q1 := keep_of_below hd Q1.out
                  have q2 := keep_of_below hd Q2.out
                  have q3 := keep_of_below hd Q3.out
                  have q4 := keep_of_below hd Q4.out
                  clear hd
                  generalize wr.drewN nq = w4 at *
                  have HOW : Hid (w4.ownsRow w2.heap.size 30 5 (.slice Ao M co) M ((((restL l g).take k).filter (fun h => !(h.tb == g.tb && h.pv == g.pv && !(ks.contains h.gb)))).flatMap EG)) := Lib.hid (by have := HE4.out; unfold EO at this; rw [← HMM.out] at this; exact this)
                  go_wp2_with (at_builtin; refine wpList_append_Rd _ rfl (.tmp 75) (.tmp 80) _ rfl w2.heap.size 30 i0 _ 5 64 Try.underlying22 hi0 hz0 hz1 hz2 hzs (.slice Ao M co) M _ rfl (ownsRow_off (S := fun _ => False) HOW.out (Off.of_below (gr_alloc (gr_refl w4) _)) (fun _ _ h => h)) (some ⟨w4.heap.size, 0, none⟩) 1 1 (EG x) rfl (rd_new1 _ _ _ _ rfl) (EG_one x) (by omega) hmx (gr_alloc HB4.out _).size ?_; intro v6 w6 hown6 hg6 _ _; have hb6 : Below w2.heap.size w2 w6 := (gr_alloc HB4.out _).grown hg6 (gr_alloc HB4.out _).size (fun j hj => (HOW.out.lt j hj).1))
                  have HR6 := Lib.hid (EO.snoc hown6 HMM.out.symm)
                  have HB6 := Lib.hid hb6
                  clear hown6 hg6 hb6 q0 q1 q2 q3 q4
                  go_wp2_with fail
                  go_roundw
                  case rel => exact ⟨k + 1, by omega, by go_num, by rw [HT.out]; exact HR6.out, HB6.out⟩
                  case measure => simp [intOf]; omega
                · have tp : x.pv = g.pv := beq_iff_eq.1 e1
                  go_wp2_with (go_quiet (fail))
                  have hd := gr_drewN (gr_refl wr) nq
                  have HB4 := Lib.hid (gr_trans HB.out hd)
                  have HE4 := Lib.hid (HEO.out.below hd)
                  clear hd
                  go_roundw
                  case rel => exact ⟨k + 1, by omega, by go_num, by rw [HT.out]; simpa using HE4.out, HB4.out⟩
                  case measure => simp [intOf]; omega
            · go_upto_if 74 with (go_quiet (fail))
              have hd := gr_drewN (gr_refl wr) nq
              have HB4 := Lib.hid (gr_trans HB.out hd)
              have HE4 := Lib.hid (HEO.out.below hd)
              clear q0 q1 q2 q3 q4 c0 c1 c2 c3 c4 p0
              have q0 := keep_of_below hd Q0.out
              have q1 := keep_of_below hd Q1.out
              have q2 := keep_of_below hd Q2.out
              have q3 := keep_of_below hd Q3.out
              have q4 := keep_of_below hd Q4.out
              clear hd
              generalize wr.drewN nq = w4 at *
              have HOW : Hid (w4.ownsRow w2.heap.size 30 5 (.slice Ao M co) M ((((restL l g).take k).filter (fun h => !(h.tb == g.tb && h.pv == g.pv && !(ks.contains h.gb)))).flatMap EG)) := Lib.hid (by have := HE4.out; unfold EO at this; rw [← HMM.out] at this; exact this)
              go_wp2_with (at_builtin; refine wpList_append_Rd _ rfl (.tmp 75) (.tmp 80) _ rfl w2.heap.size 30 i0 _ 5 64 Try.underlying22 hi0 hz0 hz1 hz2 hzs (.slice Ao M co) M _ rfl (ownsRow_off (S := fun _ => False) HOW.out (Off.of_below (gr_alloc (gr_refl w4) _)) (fun _ _ h => h)) (some ⟨w4.heap.size, 0, none⟩) 1 1 (EG x) rfl (rd_new1 _ _ _ _ rfl) (EG_one x) (by omega) hmx (gr_alloc HB4.out _).size ?_; intro v6 w6 hown6 hg6 _ _; have hb6 : Below w2.heap.size w2 w6 := (gr_alloc HB4.out _).grown hg6 (gr_alloc HB4.out _).size (fun j hj => (HOW.out.lt j hj).1))
              have HR6 := Lib.hid (EO.snoc hown6 HMM.out.symm)
              have HB6 := Lib.hid hb6
              clear hown6 hg6 hb6 q0 q1 q2 q3 q4
              go_wp2_with fail
              go_roundw
              case rel => exact ⟨k + 1, by omega, by go_num, by rw [HT.out]; exact HR6.out, HB6.out⟩
              case measure => simp [intOf]; omega
          · obtain rfl : k = L := by omega
            have t3 : decide ((k : Int) < (k : Int)) = false := decide_eq_false (by omega)
            have HFI : Hid (EO EG 5 30 wr w2.heap.size (.slice Ao M co) ((restL l g).filter (fun h => !(h.tb == g.tb && h.pv == g.pv && !(ks.contains h.gb))))) := Lib.hid (by have := HEO.out; rwa [List.take_of_length_le (by rw [HLR.out]; omega)] at this)
            have HBF := Lib.hid (HBW2.out.trans (hb.mono HBW2.out.size))
            clear hb
            go_wp2_with fail
            go_ret2
            exact ⟨.inr ⟨_, _, rfl, HQ.out, ⟨ks, HKS.out, rfl⟩, HFI.out.lower HBW2.out.size⟩, HBF.out⟩

end Go.Proofs.Ytfgkadkmgciamaa
