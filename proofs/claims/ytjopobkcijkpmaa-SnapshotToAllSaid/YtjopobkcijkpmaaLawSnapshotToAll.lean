/-
  The walk of SnapshotToAll.
-/
import Derived.Test.YtjopobkcijkpmaaSnN
import Derived.Test.YtjopobkcijkpmaaOfr
import Derived.Deep.CutBlock
import Derived.Deep.DeepCutAuto
namespace Go.Proofs.Ytjopobkcijkpmaa
open Go.RowKit

/-- The base lowered. -/
theorem OR.lower {w : World} {base b n : Nat} {e : TypeId} {v : Value} {xs : List Value} (h : OR w base e v n xs) (hb : b ≤ base) : OR w b e v n xs := by
  refine ⟨h.1, ?_⟩
  rcases h.2 with h2 | ⟨g, off, cap, cur, e1, h2, h3⟩
  · exact .inl h2
  · exact .inr ⟨g, off, cap, cur, e1, by omega, h3⟩
theorem OR.int_at {w : World} {base n : Nat} {e : TypeId} {v : Value} {l : List Int} (h : OR w base e v n (l.map (Value.int .i64))) {k : Nat} (hk : k < n) : ∃ q o c, v = .slice (some ⟨q, o, none⟩) n c ∧ w.cell? ⟨q, o + k, none⟩ = some (.int .i64 (l.getD k 0)) := by
  obtain ⟨g, o, c, u, e1, hu, hc⟩ := h.at_ hk
  refine ⟨g, o, c, e1, ?_⟩
  rw [hc]
  rw [List.getElem?_map] at hu
  cases hl : l[k]? with
  | none => rw [hl] at hu; cases hu
  | some x => rw [hl] at hu; simp at hu; rw [← hu]; simp [List.getD, hl]
/-- What the walk keeps: the row of those that all saw, the row of the open ones, the table. -/
def TwoR (w wr : World) (g : Nat) (T : TabS) (v : Value) (ys : List Int) (Al : Option Addr) (nm cl : Nat) : Prop :=
  OR wr w.heap.size 3 v ys.length (ys.map (Value.int .i64)) ∧ OR wr w.heap.size 3 (.slice Al nm cl) nm (T.opn.map (Value.int .i64)) ∧ TSQ w wr g T (fun k => v.ownBlock = some k ∨ (Value.slice Al nm cl).ownBlock = some k) ∧ ∀ k, v.ownBlock = some k → (Value.slice Al nm cl).ownBlock = some k → False
theorem TwoR.below {w wr w' : World} {g : Nat} {T : TabS} {v : Value} {ys : List Int} {Al : Option Addr} {nm cl : Nat} (h : TwoR w wr g T v ys Al nm cl) (hb : Below wr.heap.size wr w') : TwoR w w' g T v ys Al nm cl :=
  ⟨h.1.below hb, h.2.1.below hb, h.2.2.1.below hb, h.2.2.2⟩
theorem TwoR.grown {w wr w' : World} {g : Nat} {T : TabS} {v v' : Value} {ys : List Int} {y : Int} {Al : Option Addr} {nm cl : Nat} (h : TwoR w wr g T v ys Al nm cl)
    (ho : OR w' w.heap.size 3 v' (ys.length + 1) (ys.map (Value.int .i64) ++ [.int .i64 y])) (hg : wr.grownBy w' v.ownBlock) (hv : v'.ownBlock = v.ownBlock ∨ v'.ownBlock = some wr.heap.size) :
    TwoR w w' g T v' (ys ++ [y]) Al nm cl := by
  have hoff : Off (fun k => v.ownBlock = some k) wr w' := Off.of_grown hg (fun _ e => e)
  refine ⟨?_, ?_, ?_, ?_⟩
  · rw [List.length_append, List.map_append]
    exact ho
  · exact h.2.1.off hoff (fun k e1 e2 => h.2.2.2 k e2 e1)
  · refine h.2.2.1.turned hoff (fun k e => .inl e) (fun k e => (h.1.lt k e).1) (fun k hk => ?_)
    rcases hk with hk | hk
    · rcases hv with e | e
      · exact .inl (.inl (e ▸ hk))
      · have hz := (ho.lt k hk).2
        rw [e] at hk
        cases hk
        exact .inr ⟨Nat.le_refl _, hz⟩
    · exact .inl (.inr hk)
  · intro k e1 e2
    rcases hv with e | e
    · exact h.2.2.2 k (e ▸ e1) e2
    · rw [e] at e1
      cases e1
      have := (h.2.1.lt _ e2).2
      omega

set_option maxRecDepth 100000 in
set_option maxHeartbeats 8000000 in
theorem SnapshotToAll_any (nx : Int) (A : Option Addr) (n c : Nat) (l : List Int) (w : World) (ha : IR w A n l) :
    Calls Try.prog 6 #[.int .i64 nx, .slice A n c] w fun e w' => e = .returned (.bool true) ∧ Below w.heap.size w w' := by
  obtain ⟨i0, hi0, hz0, hz1, hz2⟩ := info_parts info_int
  obtain ⟨pn, hpn, hp9⟩ : ∃ pn : Nat, nx % 9 = pn ∧ pn ≤ 9 := ⟨(nx % 9).toNat, by omega, by omega⟩
  have X := Pick_any nx 9 w (by omega) (by omega)
  rw [hpn] at X
  have HP9 := Lib.hid X
  have HN := Lib.hid (New_ts (w0 := w) (w := w) (1 + (pn : Int)) none 0 0 [] (gr_refl w) (IR.none_ _ _) (by omega) (by omega) (by omega) (fun k hk => absurd hk (by simp)))
  have HNW := Lib.hid (WkT.new pn hp9)
  clear X hpn
  go_enter Try.func6, Try.ntmps6
  go_wp2_with fail
  refine HP9.out.mono ?_
  clear HP9
  rintro e w' ⟨rfl, rfl⟩
  go_wp2_with fail
  refine HN.out.mono ?_
  clear HN
  rintro e w1 ⟨g, rfl, s1⟩
  go_wp2_with fail
  go_loopw [7, 8, 9, 10, 11, 12, 13, 14, 15] (fun v i _ _ _ _ _ _ _ wr => ∃ (k : Nat) (T : TabS) (ys : List Int), k ≤ n ∧ k ≤ 40 ∧ i = .int .i64 k ∧ Hid (WkT k T) ∧ Hid (∀ y ∈ ys, toAllB T y = true ∧ 1 ≤ y ∧ y ≤ 1000) ∧ ys.length ≤ 200 ∧ OR wr w.heap.size 3 v ys.length (ys.map (Value.int .i64)) ∧ TSQ w wr g T (fun k => v.ownBlock = some k)) (fun _ i _ _ _ _ _ _ _ _ => 40 - (intOf i).toNat)
  case atStart => exact ⟨0, _, [], by omega, by omega, rfl, HNW, Lib.hid (fun y hy => absurd hy (by simp)), by simp, OR.nil_ _ _ _, s1.more (gr_refl _) (fun k hk => by simp [Value.ownBlock] at hk)⟩
  case round =>
    clear s1 HNW
    obtain ⟨k, T, ys, hkn, hk40, rfl, HW, HY, hyl, ho, sq⟩ := hrel
    by_cases hlt : k < n ∧ k < 40
    · have t1 : decide ((k : Int) < (n : Int)) = true := by simp; omega
      have t2 : decide (k < n) = true := by simp; omega
      have t3 : decide ((k : Int) < 40) = true := by simp; omega
      have hi0' : (0 : Int) ≤ (k : Int) := Int.natCast_nonneg _
      have hi1' : (k : Int) < (n : Int) := by omega
      obtain ⟨Av, cv, rfl, _, _⟩ := ho.form
      obtain ⟨gw, ow, rfl, hcw⟩ := ha.at_ (k := k) hlt.1
      generalize l.getD k 0 = x at *
      have hc0 : wr.cell? ⟨gw, ow + k, none⟩ = some (.int .i64 x) := keep_of_below sq.1 hcw
      have hcw' := Lib.hid hcw
      obtain ⟨hlt1, hlt2⟩ := hlt
      obtain ⟨m, hm, hm2⟩ : ∃ m : Nat, x % 1000003 = m ∧ m < 1000003 := ⟨(x % 1000003).toNat, by omega, by omega⟩
      have X := fun W => Pick_any x 1000003 W (by omega) (by omega)
      rw [hm] at X
      have HPX := Lib.hid X
      have HO := Lib.hid (Open_ts sq.ts)
      have HB := Lib.hid (Begin_ts sq.ts)
      have hnn := HW.out.n
      have h16 := sq.ts.len
      clear X hm hcw
      generalize hny : ys.length = ny at *
      have HNY := Lib.hid hny
      clear hny
      go_wp2_with fail
      refine (HPX.out _).mono ?_
      rintro e w' ⟨rfl, rfl⟩
      clear HPX hc0
      go_wp2_with fail
      refine HO.out.mono ?_
      clear HO HB
      rintro e w2 ⟨v2, rfl, hol, hb2⟩
      obtain ⟨Al, cl, rfl, _, _⟩ := own_form hol
      have ho2 := ho.below hb2
      have sq2 : TSQ w w2 g T (fun k => (Value.slice Av ny cv).ownBlock = some k ∨ (Value.slice Al T.opn.length cl).ownBlock = some k) := sq.more hb2 (fun k hk => hk.elim .inl (fun e => .inr (hol.lt k e)))
      clear sq ho hb2
      generalize hnl : T.opn.length = nl at *
      go_upto_block 2 with fail
      go_cut [10] (fun s10 wx => ∃ T', Hid (WkT (k + 1) T' ∧ ∀ y ∈ ys, toAllB T' y = true) ∧ OR wx w.heap.size 3 (.slice Av ny cv) ny (ys.map (Value.int .i64)) ∧ TSQ w wx g T' (fun k => (Value.slice Av ny cv).ownBlock = some k))
      case first =>
        have hcase : (((m : Int) % 3 == 0) = true ∧ (m : Int) % 3 = 0) ∨ ((((m : Int) % 3 == 0) = false ∧ ¬ (m : Int) % 3 = 0) ∧ ((nl : Int) == 0) = true ∧ nl = 0) ∨ ((((m : Int) % 3 == 0) = false ∧ ¬ (m : Int) % 3 = 0) ∧ (((nl : Int) == 0) = false ∧ ¬ nl = 0 ∧ ¬ (nl : Int) = 0) ∧ ((m : Int) % 3 == 1) = true) ∨ ((((m : Int) % 3 == 0) = false ∧ ¬ (m : Int) % 3 = 0) ∧ (((nl : Int) == 0) = false ∧ ¬ nl = 0 ∧ ¬ (nl : Int) = 0) ∧ ((m : Int) % 3 == 1) = false) := by
          by_cases h0 : (m : Int) % 3 = 0
          · exact .inl ⟨beq_iff_eq.2 h0, h0⟩
          · by_cases h1 : nl = 0
            · exact .inr (.inl ⟨⟨beq_eq_false_iff_ne.2 h0, h0⟩, beq_iff_eq.2 (by omega), h1⟩)
            · by_cases h2 : (m : Int) % 3 = 1
              · exact .inr (.inr (.inl ⟨⟨beq_eq_false_iff_ne.2 h0, h0⟩, ⟨beq_eq_false_iff_ne.2 (by omega), h1, by omega⟩, beq_iff_eq.2 h2⟩))
              · exact .inr (.inr (.inr ⟨⟨beq_eq_false_iff_ne.2 h0, h0⟩, ⟨beq_eq_false_iff_ne.2 (by omega), h1, by omega⟩, beq_eq_false_iff_ne.2 h2⟩))
        have HBG := Lib.hid (Begin_tq sq2)
        have HWB : Hid (WkT (k + 1) (begT T) ∧ ∀ y ∈ ys, toAllB (begT T) y = true) := Lib.hid ⟨HW.out.beg, fun y hy => HW.out.wf.beg_all (HY.out y hy).1⟩
        have HWC : Hid (∀ tx, WkT (k + 1) (comT T tx) ∧ ∀ y ∈ ys, toAllB (comT T tx) y = true) := Lib.hid (fun tx => ⟨HW.out.com' tx, fun y hy => com_all tx (HY.out y hy).1⟩)
        have HWA : Hid (∀ tx, WkT (k + 1) (aboT T tx) ∧ ∀ y ∈ ys, toAllB (aboT T tx) y = true) := Lib.hid (fun tx => ⟨(HW.out.abo tx).mono (by omega), fun y hy => abo_all tx (HY.out y hy).1⟩)
        have HST : Hid (∀ W : World, Off (fun k => ¬ ((Value.slice Av ny cv).ownBlock = some k ∨ (Value.slice Al nl cl).ownBlock = some k)) w2 W → OR W w.heap.size 3 (.slice Av ny cv) ny (ys.map (Value.int .i64))) := Lib.hid (fun W hW => ho2.off hW (fun k e x => x (.inl e)))
        rcases hcase with ⟨r1, r2⟩ | ⟨⟨r1, r2⟩, r3, r4⟩ | ⟨⟨r1, r2⟩, ⟨r3, r4, r5⟩, r6⟩ | ⟨⟨r1, r2⟩, ⟨r3, r4, r5⟩, r6⟩
        · go_wp2_with fail
          refine HBG.out.mono ?_
          rintro e w3 ⟨rfl, s3, o3⟩
          go_wp2_with fail
          go_meet
          exact ⟨_, HWB, HST.out _ o3, s3.sub (fun k e => .inl e)⟩
        · go_wp2_with fail
          refine HBG.out.mono ?_
          rintro e w3 ⟨rfl, s3, o3⟩
          go_wp2_with fail
          go_meet
          exact ⟨_, HWB, HST.out _ o3, s3.sub (fun k e => .inl e)⟩
        all_goals
          have hj0 : (0 : Int) ≤ (m : Int) / 3 % (nl : Int) := Int.emod_nonneg _ r5
          have hj1 : (m : Int) / 3 % (nl : Int) < (nl : Int) := Int.emod_lt_of_pos _ (by omega)
          have hj2 : m / 3 % nl < nl := Nat.mod_lt _ (by omega)
          obtain ⟨ql, cl', el, hcl⟩ := own_int hol (k := m / 3 % nl) (by rw [hnl]; exact hj2)
          cases el
          have hyb := sq2.ts.oi _ (getD_mem (l := T.opn) (k := m / 3 % nl) (by rw [hnl]; exact hj2))
          have HCM := Lib.hid (Commit_tq (T.opn.getD (m / 3 % nl) 0) sq2 (by omega) (by omega) HW.out.wf.la (by have := HW.out.l; omega))
          have HAB := Lib.hid (Abort_tq (T.opn.getD (m / 3 % nl) 0) sq2 (by omega) (by omega))
          generalize T.opn.getD (m / 3 % nl) 0 = tx at *
          clear hol ho2 sq2
          go_wp2_with fail
        · refine HCM.out.mono ?_
          rintro e w3 ⟨rfl, s3, o3⟩
          go_wp2_with fail
          go_meet
          exact ⟨_, Lib.hid (HWC.out _), HST.out _ o3, s3.sub (fun k e => .inl e)⟩
        · refine HAB.out.mono ?_
          rintro e w3 ⟨rfl, s3, o3⟩
          go_wp2_with fail
          go_meet
          exact ⟨_, Lib.hid (HWA.out _), HST.out _ o3, s3.sub (fun k e => .inl e)⟩
      case rest =>
        clear ho2 sq2 hol hm2 ha hnn h16 hnl
        obtain ⟨T', HWA, ho, sq⟩ := hcut
        obtain ⟨nN, hnN, hnN2⟩ : ∃ nN : Nat, T'.next = nN ∧ nN ≤ 100 := ⟨T'.next.toNat, by have := sq.ts.pos; omega, by have := HWA.out.1.n; omega⟩
        have HYA : Hid (∀ y ∈ ys, toAllB T' y = true ∧ 1 ≤ y ∧ y ≤ 1000) := Lib.hid (fun y hy => ⟨HWA.out.2 y hy, (HY.out y hy).2⟩)
        have HNN := Lib.hid hnN
        clear hnN HY HW
        go_wp2_with fail
        go_loopw [11] (fun j wr => ∃ q : Nat, q ≤ ny ∧ j = .int .i64 q ∧ OR wr w.heap.size 3 (.slice Av ny cv) ny (ys.map (Value.int .i64)) ∧ TSQ w wr g T' (fun k => (Value.slice Av ny cv).ownBlock = some k)) (fun j _ => ny - (intOf j).toNat)
        case atStart => exact ⟨0, by omega, rfl, ho, sq⟩
        case round =>
          clear ho sq
          obtain ⟨j, hj, rfl, ho, sq⟩ := hrel
          by_cases hlt : j < ny
          · have t1 : decide ((j : Int) < (ny : Int)) = true := by simp; omega
            have t2 : decide (j < ny) = true := by simp; omega
            have hi0'' : (0 : Int) ≤ (j : Int) := Int.natCast_nonneg _
            have hi1'' : (j : Int) < (ny : Int) := by omega
            obtain ⟨gv, ov, cv', e1, hcu⟩ := ho.int_at hlt
            cases e1
            have hyj := HYA.out _ (getD_mem (l := ys) (k := j) (by rw [HNY.out]; exact hlt))
            have X := ToAll_tb (ys.getD j 0) sq.ts (by omega) (by omega)
            rw [hyj.1] at X
            have HT := Lib.hid X
            clear X hyj
            generalize ys.getD j 0 = y at *
            go_wp2_with fail
            refine HT.out.mono ?_
            rintro e w4 ⟨rfl, hb4⟩
            go_wp2_with fail
            go_roundw
            case rel => exact ⟨j + 1, by omega, by go_num, ho.below hb4, sq.below hb4⟩
            case measure => simp [intOf]; omega
          · have t1 : decide ((j : Int) < (ny : Int)) = false := by simp; omega
            have t2 : decide (j < ny) = false := by simp; omega
            have HO := Lib.hid (Open_ts sq.ts)
            have hsz := sq.1.size
            go_wp2_with fail
            refine HO.out.mono ?_
            rintro e w5 ⟨v5, rfl, hol, hb5⟩
            obtain ⟨Al2, cl2, rfl, _, _⟩ := own_form hol
            have tr : TwoR w w5 g T' (.slice Av ny cv) ys Al2 T'.opn.length cl2 := by
              refine ⟨by rw [HNY.out]; exact ho.below hb5, (OR.of_own hol).lower hsz, sq.more hb5 (fun k hk => hk.elim .inl (fun e => .inr (hol.lt k e))), fun k e1 e2 => ?_⟩
              have h1 := (ho.lt k e1).2
              have h2 := (hol.lt k e2).1
              omega
            clear hol ho sq hb5 HO
            have h16 := tr.2.2.1.ts.len
            generalize hnm : T'.opn.length = nm at *
            have HNM := Lib.hid hnm
            have hN1 : 1 ≤ nN := by have := tr.2.2.1.ts.pos; have := HNN.out; omega
            clear hnm
            rw [← HNY.out] at hyl
            go_wp2_with fail
            go_loopw [7, 13, 14, 15] (fun v i _ _ wr => ∃ (q : Nat) (ys' : List Int), 1 ≤ q ∧ q ≤ nN ∧ i = .int .i64 q ∧ Hid (∀ y ∈ ys', toAllB T' y = true ∧ 1 ≤ y ∧ y ≤ 1000) ∧ ys'.length ≤ 200 + q ∧ TwoR w wr g T' v ys' Al2 nm cl2) (fun _ i _ _ _ => nN - (intOf i).toNat)
            case atStart => exact ⟨1, ys, by omega, hN1, rfl, HYA, by omega, tr⟩
            case round =>
              clear tr HYA HNY hyl
              obtain ⟨q, ys', hq1, hqn, rfl, HY', hyl', tr⟩ := hrel
              obtain ⟨wo, rfl⟩ : ∃ wo : World, wo = wr := ⟨_, rfl⟩
              have X := Next_ts tr.2.2.1.ts
              rw [HNN.out] at X
              have HNX := Lib.hid X
              clear X
              obtain ⟨Av', cv'', rfl, _, _⟩ := tr.1.form
              generalize hn2 : ys'.length = n2 at *
              have HN2 := Lib.hid hn2
              clear hn2
              by_cases hltq : q < nN
              · have t3 : decide ((q : Int) < (nN : Int)) = true := by simp; omega
                have t4 : decide (q < nN) = true := by simp; omega
                go_wp2_with fail
                refine HNX.out.mono ?_
                rintro e w6 ⟨rfl, rfl⟩
                clear HNX
                go_wp2_with fail
                go_loopw [14, 15] (fun b j wr => ∃ r : Nat, r ≤ nm ∧ j = .int .i64 r ∧ b = .bool (eachB T' (T'.opn.take r) q) ∧ TwoR w wr g T' (.slice Av' n2 cv'') ys' Al2 nm cl2) (fun _ j _ => nm - (intOf j).toNat)
                case atStart => exact ⟨0, by omega, rfl, by simp [eachB], tr⟩
                case round =>
                  clear tr
                  obtain ⟨r, hr, rfl, rfl, tr⟩ := hrel
                  by_cases hltr : r < nm
                  · have t5 : decide ((r : Int) < (nm : Int)) = true := by simp; omega
                    have t6 : decide (r < nm) = true := by simp; omega
                    have hr0 : (0 : Int) ≤ (r : Int) := Int.natCast_nonneg _
                    have hr1 : (r : Int) < (nm : Int) := by omega
                    obtain ⟨gl, ol, cl', e1, hcl⟩ := tr.2.1.int_at hltr
                    cases e1
                    have HES := Lib.hid (each_snoc T' T'.opn q (j := r) (by rw [HNM.out]; exact hltr))
                    have hxb := tr.2.2.1.ts.oi _ (getD_mem (l := T'.opn) (k := r) (by rw [HNM.out]; exact hltr))
                    rw [HNN.out] at hxb
                    have HV := Lib.hid (Visible_tb (T'.opn.getD r 0) q tr.2.2.1.ts (by omega) (by omega) (by omega) (by omega))
                    generalize T'.opn.getD r 0 = x at *
                    generalize eachB T' (T'.opn.take r) q = bE at *
                    generalize hbf : eachB T' (T'.opn.take (r + 1)) q = bF at HES
                    have HBF := Lib.hid hbf
                    clear hbf
                    generalize visB T' x q = bV at *
                    cases bE
                    · obtain rfl : bF = false := by simpa using HES.out
                      clear HES HV
                      go_wp2_with fail
                      go_roundw
                      case rel => exact ⟨r + 1, by omega, by go_num, by rw [HBF.out], tr⟩
                      case measure => simp [intOf]; omega
                    · cases bV
                      · obtain rfl : bF = false := by simpa using HES.out
                        clear HES
                        go_wp2_with fail
                        refine HV.out.mono ?_
                        rintro e w7 ⟨rfl, hb7⟩
                        go_wp2_with fail
                        go_roundw
                        case rel => exact ⟨r + 1, by omega, by go_num, by rw [HBF.out], tr.below hb7⟩
                        case measure => simp [intOf]; omega
                      · have HB : Hid (bF = (x != q)) := Lib.hid (by simpa using HES.out)
                        clear HES
                        go_wp2_with fail
                        refine HV.out.mono ?_
                        rintro e w7 ⟨rfl, hb7⟩
                        have hcl7 : w7.cell? ⟨gl, ol + r, none⟩ = some (.int .i64 x) := keep_of_below hb7 hcl
                        go_wp2_with fail
                        go_roundw
                        case rel => exact ⟨r + 1, by omega, by go_num, by rw [HBF.out, HB.out], tr.below hb7⟩
                        case measure => simp [intOf]; omega
                  · obtain rfl : r = nm := by omega
                    have t5 : decide ((r : Int) < (r : Int)) = false := by simp
                    have t6 : decide (r < r) = false := by simp
                    have HTL : Hid (T'.opn.take r = T'.opn) := Lib.hid (List.take_of_length_le (by rw [HNM.out]; exact Nat.le_refl _))
                    rw [HTL.out]
                    have hcase : (toAllB T' q = true ∧ eachB T' T'.opn q = true ∧ ((0 < r ∧ decide ((0 : Int) < (r : Int)) = true) ∨ (decide (0 < r) = false ∧ decide ((0 : Int) < (r : Int)) = false))) ∨ (toAllB T' q = false ∧ ((0 < r ∧ decide ((0 : Int) < (r : Int)) = true ∧ eachB T' T'.opn q = false) ∨ (decide (0 < r) = false ∧ decide ((0 : Int) < (r : Int)) = false))) := by
                      have hr0 : (0 < r ∧ decide ((0 : Int) < (r : Int)) = true) ∨ (decide (0 < r) = false ∧ decide ((0 : Int) < (r : Int)) = false) := by
                        rcases Nat.eq_zero_or_pos r with h | h
                        · exact .inr ⟨by simp; omega, by simp; omega⟩
                        · exact .inl ⟨h, by simp; omega⟩
                      cases hA : toAllB T' q
                      · refine .inr ⟨rfl, hr0.imp (fun h => ⟨h.1, h.2, ?_⟩) id⟩
                        cases hE : eachB T' T'.opn q
                        · rfl
                        · have := HWA.out.1.wf.of_each (by rw [HNM.out]; exact h.1) hE
                          rw [hA] at this
                          exact absurd this (by simp)
                      · exact .inl ⟨rfl, HWA.out.1.wf.each_of hA, hr0⟩
                    have HTA := Lib.hid (fun (W : World) (hW : TwoR w W g T' (.slice Av' n2 cv'') ys' Al2 r cl2) => ToAll_tb q hW.2.2.1.ts (by omega) (by omega))
                    have HQA : Hid (toAllB T' q = true → ∀ y ∈ ys' ++ [(q : Int)], toAllB T' y = true ∧ 1 ≤ y ∧ y ≤ 1000) := Lib.hid (fun h y hy => by
                      rcases List.mem_append.1 hy with hy | hy
                      · exact HY'.out y hy
                      · rw [List.mem_singleton.1 hy]
                        exact ⟨h, by omega, by omega⟩)
                    generalize eachB T' T'.opn q = bE at *
                    generalize toAllB T' q = bA at *
                    clear hltr hr
                    rcases hcase with ⟨rfl, rfl, hr0⟩ | ⟨rfl, hr0⟩
                    · rcases hr0 with ⟨p1, p2⟩ | ⟨p1, p2⟩
                      · go_wp2_with fail
                        refine (HTA.out _ tr).mono ?_
                        rintro e w7 ⟨rfl, hb7⟩
                        have tr7 := tr.below hb7
                        clear tr hb7
                        go_wp2_with fail
                        refine (HTA.out _ tr7).mono ?_
                        rintro e w8 ⟨rfl, hb7⟩
                        have tr8 := tr7.below hb7
                        clear tr7 hb7
                        go_wp2_with fail
                        refine (HTA.out _ tr8).mono ?_
                        rintro e w9 ⟨rfl, hb7⟩
                        have tr9 := tr8.below hb7
                        clear tr8 hb7
                        have HOA : Hid (OR w9 w.heap.size 3 (.slice Av' n2 cv'') n2 (ys'.map (Value.int .i64))) := Lib.hid (by have h := tr9.1; rw [HN2.out] at h; exact h)
                        have HTA2 := Lib.hid (fun o => tr9.below (gr_alloc (gr_refl w9) o))
                        have hsz9 := tr9.2.2.1.1.size
                        clear tr9
                        go_wp2_with (at_builtin; refine wpList_append_OR _ rfl (.tmp 146) (.tmp 148) _ rfl w.heap.size 3 i0 _ 8 Try.underlying22 hi0 hz0 hz1 hz2 rfl (.slice Av' n2 cv'') n2 _ rfl (HOA.out.alloc _) ⟨w9.heap.size, 0, none⟩ 1 1 [.int .i64 q] rfl rfl (World.news_of_block (heap_alloc_new w9 _)) (by simp [Value.oneCell']) (by omega) (by simp only [maxLen]; omega) (by omega) (by rw [World.size_alloc]; omega) ?_; intro v4 w10 ho10 hg10 hv10)
                        go_roundw
                        case rel => exact ⟨q + 1, ys' ++ [(q : Int)], by omega, by omega, by go_num, Lib.hid (HQA.out (by simp)), by rw [List.length_append, HN2.out]; simp; omega, (HTA2.out _).grown (by rw [HN2.out]; exact ho10) hg10 hv10⟩
                        case measure => simp [intOf]; omega
                      · go_wp2_with fail
                        refine (HTA.out _ tr).mono ?_
                        rintro e w7 ⟨rfl, hb7⟩
                        have tr7 := tr.below hb7
                        clear tr hb7
                        go_wp2_with fail
                        refine (HTA.out _ tr7).mono ?_
                        rintro e w8 ⟨rfl, hb7⟩
                        have tr8 := tr7.below hb7
                        clear tr7 hb7
                        have HOA : Hid (OR w8 w.heap.size 3 (.slice Av' n2 cv'') n2 (ys'.map (Value.int .i64))) := Lib.hid (by have h := tr8.1; rw [HN2.out] at h; exact h)
                        have HTA2 := Lib.hid (fun o => tr8.below (gr_alloc (gr_refl w8) o))
                        have hsz9 := tr8.2.2.1.1.size
                        clear tr8
                        go_wp2_with (at_builtin; refine wpList_append_OR _ rfl (.tmp 146) (.tmp 148) _ rfl w.heap.size 3 i0 _ 8 Try.underlying22 hi0 hz0 hz1 hz2 rfl (.slice Av' n2 cv'') n2 _ rfl (HOA.out.alloc _) ⟨w8.heap.size, 0, none⟩ 1 1 [.int .i64 q] rfl rfl (World.news_of_block (heap_alloc_new w8 _)) (by simp [Value.oneCell']) (by omega) (by simp only [maxLen]; omega) (by omega) (by rw [World.size_alloc]; omega) ?_; intro v4 w10 ho10 hg10 hv10)
                        go_roundw
                        case rel => exact ⟨q + 1, ys' ++ [(q : Int)], by omega, by omega, by go_num, Lib.hid (HQA.out (by simp)), by rw [List.length_append, HN2.out]; simp; omega, (HTA2.out _).grown (by rw [HN2.out]; exact ho10) hg10 hv10⟩
                        case measure => simp [intOf]; omega
                    · rcases hr0 with ⟨p1, p2, rfl⟩ | ⟨p1, p2⟩
                      · go_wp2_with fail
                        refine (HTA.out _ tr).mono ?_
                        rintro e w7 ⟨rfl, hb7⟩
                        have tr7 := tr.below hb7
                        clear tr hb7
                        go_wp2_with fail
                        refine (HTA.out _ tr7).mono ?_
                        rintro e w8 ⟨rfl, hb7⟩
                        have tr8 := tr7.below hb7
                        clear tr7 hb7
                        go_wp2_with fail
                        go_roundw
                        case rel => exact ⟨q + 1, ys', by omega, by omega, by go_num, HY', by rw [HN2.out]; omega, tr8⟩
                        case measure => simp [intOf]; omega
                      · go_wp2_with fail
                        refine (HTA.out _ tr).mono ?_
                        rintro e w7 ⟨rfl, hb7⟩
                        have tr7 := tr.below hb7
                        clear tr hb7
                        go_wp2_with fail
                        refine (HTA.out _ tr7).mono ?_
                        rintro e w8 ⟨rfl, hb7⟩
                        have tr8 := tr7.below hb7
                        clear tr7 hb7
                        go_wp2_with fail
                        go_roundw
                        case rel => exact ⟨q + 1, ys', by omega, by omega, by go_num, HY', by rw [HN2.out]; omega, tr8⟩
                        case measure => simp [intOf]; omega
              · have t3 : decide ((q : Int) < (nN : Int)) = false := by simp; omega
                have t4 : decide (q < nN) = false := by simp; omega
                go_wp2_with fail
                refine HNX.out.mono ?_
                rintro e w6 ⟨rfl, rfl⟩
                clear HNX
                by_cases h200 : 200 < n2
                · have t7 : decide ((200 : Int) < (n2 : Int)) = true := by simp; omega
                  have t8 : decide (200 < n2) = true := by simp; omega
                  have ho' : OR wo w.heap.size 3 (.slice Av' n2 cv'') n2 (ys'.map (Value.int .i64)) := by have h := tr.1; rw [HN2.out] at h; exact h
                  obtain ⟨gv, ov, cv3, e1, _⟩ := ho'.int_at (k := 0) (by omega)
                  cases e1
                  have hcc : n2 ≤ cv'' := by assumption
                  have hcut : ∀ W : World, (Instr.slice 22 (.slice (some ⟨gv, ov, none⟩) n2 cv'') (some (.int .i64 ((n2 : Int) - 100))) none none).run Try.prog W = .ok (.slice (some ⟨gv, ov + (n2 - 100), none⟩) 100 (cv'' - (n2 - 100))) W := fun W => by
                    have h := run_cut_l (P := Try.prog) W 22 3 i0 Try.underlying22 hi0 1 hz1 (some ⟨gv, ov, none⟩) n2 cv'' ((n2 : Int) - 100) (n2 - 100) (by omega) (by omega)
                    rw [h]
                    have h1 : cutA (some ⟨gv, ov, none⟩) cv'' (n2 - 100) 1 = some ⟨gv, ov + (n2 - 100), none⟩ := by
                      unfold cutA
                      rw [if_neg (by omega)]
                      simp [Addr.add]
                      omega
                    rw [h1, show n2 - (n2 - 100) = 100 from by omega]
                  have hoc := ho'.cut (k := n2 - 100) (by omega)
                  rw [show n2 - (n2 - 100) = 100 from by omega, ← List.map_drop] at hoc
                  have HLD : Hid ((ys'.drop (n2 - 100)).length = 100) := Lib.hid (by rw [List.length_drop, HN2.out]; omega)
                  have HOC := Lib.hid hoc
                  clear hoc ho'
                  have hle1 : n2 - 100 ≤ cv'' := by omega
                  go_wp2_with fail
                  go_roundw
                  case rel => exact ⟨k + 1, T', ys'.drop (n2 - 100), by omega, by omega, by go_num, Lib.hid HWA.out.1, Lib.hid (fun y hy => HY'.out y (List.mem_of_mem_drop hy)), by rw [HLD.out]; omega, by rw [HLD.out]; exact HOC.out, tr.2.2.1.sub (fun k e => .inl e)⟩
                  case measure => simp [intOf]; omega
                · have t7 : decide ((200 : Int) < (n2 : Int)) = false := by simp; omega
                  have t8 : decide (200 < n2) = false := by simp; omega
                  go_wp2_with fail
                  go_roundw
                  case rel => exact ⟨k + 1, T', ys', by omega, by omega, by go_num, Lib.hid HWA.out.1, HY', by rw [HN2.out]; omega, tr.1, tr.2.2.1.sub (fun k e => .inl e)⟩
                  case measure => simp [intOf]; omega
    · have hend : (decide ((k : Int) < (n : Int)) = false ∧ decide (k < n) = false) ∨ (k < n ∧ decide ((k : Int) < 40) = false ∧ decide ((k : Int) < (n : Int)) = true ∧ decide (k < n) = true) := by
        rcases Nat.lt_or_ge k n with h | h
        · exact .inr ⟨h, by simp; omega, by simp; omega, by simp; omega⟩
        · exact .inl ⟨by simp; omega, by simp; omega⟩
      clear hlt
      rcases hend with ⟨t1, t2⟩ | ⟨t0, t1, t2, t3⟩
      all_goals
        go_wp2_with fail
        refine (awake14_any _).mono ?_
        rintro e z1 ⟨rfl, hz⟩
        go_wp2_with fail
        go_ret
        exact ⟨rfl, gr_trans sq.1 hz⟩

end Go.Proofs.Ytjopobkcijkpmaa
