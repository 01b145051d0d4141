/-
  The document's Give.
-/
import Derived.Test.YtfgkadkmgciamaaRoX
namespace Go.Proofs.Ytfgkadkmgciamaa
open Go Go.RowKit

set_option maxRecDepth 100000 in
set_option maxHeartbeats 4000000 in
theorem refGive_any (A : Option Addr) (n c : Nat) (l : List Gr) (ow : Str) (g : Gr) (w : World) (h : ER EG 5 w A n l) (hn : n ≤ 2199023255552) :
    Calls Try.prog 16 #[.slice A n c, .string ⟨ow.toArray⟩, .agg #[.string ⟨g.tb.toArray⟩, .int .u8 g.pv, .string ⟨g.gt.toArray⟩, .string ⟨g.gb.toArray⟩, .bool g.op]] w fun e w' => GiveP l ow g w.heap.size e w' ∧ Below w.heap.size w w' := by
  obtain ⟨i0, z, hi0, hz0, hzs, hz1, hz2⟩ := info_Gr'
  have HA := Lib.hid (gr_alloc (gr_refl w) (.cells #[.string ⟨g.tb.toArray⟩, .int .u8 g.pv, .string ⟨g.gt.toArray⟩, .string ⟨g.gb.toArray⟩, .bool g.op] 30))
  have HCA := Lib.hid (heap_alloc_new w (.cells #[.string ⟨g.tb.toArray⟩, .int .u8 g.pv, .string ⟨g.gt.toArray⟩, .string ⟨g.gb.toArray⟩, .bool g.op] 30))
  have HS := Lib.hid (h.below HA.out)
  have HL := Lib.hid h.1
  have HM := Lib.hid (fun W (hW : Below w.heap.size w W) => refOptional_any A n c l g.gb g.tb g.pv W (h.below hW) (by omega))
  obtain ⟨r0, hr0⟩ : ∃ r, r = (g.gt == ow) := ⟨_, rfl⟩
  obtain ⟨r1, hr1⟩ : ∃ r, r = decide (g.pv < 1) := ⟨_, rfl⟩
  obtain ⟨r2, hr2⟩ : ∃ r, r = decide (4 < g.pv) := ⟨_, rfl⟩
  obtain ⟨r3, hr3⟩ : ∃ r, r = (g.gb == ow) := ⟨_, rfl⟩
  obtain ⟨r4, hr4⟩ : ∃ r, r = mayGiveL l g.gb g.tb g.pv := ⟨_, rfl⟩
  rw [← hr4] at HM
  have HE : Hid (giveE l ow g = if r0 || r1 || r2 then 2 else if !r3 && !r4 then 312 else 0) := Lib.hid (by
    unfold giveE
    rw [hr0, hr1, hr2, hr3, hr4]
    by_cases a0 : g.gt = ow <;> by_cases a1 : g.pv < 1 <;> by_cases a2 : 4 < g.pv <;> by_cases a3 : g.gb = ow <;> cases a4 : mayGiveL l g.gb g.tb g.pv <;> simp [a0, a1, a2, a3])
  have t0 : (g.gt == ow) = r0 := hr0.symm
  have t1 : decide (g.pv < 1) = r1 := hr1.symm
  have t2 : decide (4 < g.pv) = r2 := hr2.symm
  have t3 : (g.gb == ow) = r3 := hr3.symm
  clear h hr0 hr1 hr2 hr3 hr4
  go_enter Try.func16, Try.ntmps16
  go_upto_region 1 with fail
  generalize w.alloc (.cells #[.string ⟨g.tb.toArray⟩, .int .u8 g.pv, .string ⟨g.gt.toArray⟩, .string ⟨g.gb.toArray⟩, .bool g.op] 30) = w1 at *
  obtain ⟨c0, c1, c2, c3, c4⟩ := cells5 HCA.out
  have HWH : Hid (w.heap.size < w1.heap.size) := Lib.hid (Array.getElem?_eq_some_iff.1 HCA.out).1
  cases r0
  · cases r1
    · cases r2
      · cases r3
        · go_wp2_with fail
          refine (HM.out w1 HA.out).mono ?_
          rintro e w2 ⟨rfl, rfl⟩
          cases r4
          · go_wp2_with fail
            go_ret2
            exact ⟨.inl ⟨by rw [HE.out]; rfl, by rw [HE.out]; decide⟩, HA.out⟩
          · have HE0 : Hid (giveE l ow g = 0) := Lib.hid (by rw [HE.out]; rfl)
            go_wp2_with fail
            refine (CopyGrants_any A n c l w1 HS.out (by omega)).mono ?_
            rintro e w2 ⟨v2, rfl, ho, hb2⟩
            obtain ⟨Av, cv, rfl, _, _, _⟩ := ho.form
            have HO := Lib.hid ho
            have HBW2 := Lib.hid (HA.out.trans (hb2.mono HA.out.size))
            have HSZ2 := Lib.hid hb2.size
            have HC2 := Lib.hid ((hb2.block w.heap.size HWH.out).trans HCA.out)
            clear ho hb2 c0 c1 c2 c3 c4 t0 t1 t2 t3
            rw [HL.out] at HO ⊢
            go_wp2_with fail
            go_loopw [9] (fun i wr => ∃ (j : Nat), j ≤ n ∧ i = .int .i64 (j : Int) ∧ Below w2.heap.size w2 wr ∧ Hid (∀ (q : Nat) (y : Gr), q < j → l[q]? = some y → alikeB y g = false)) (fun i _ => n - (intOf i).toNat)
            case atStart => exact ⟨0, Nat.zero_le _, rfl, gr_refl w2, Lib.hid (fun q y hq => absurd hq (Nat.not_lt_zero q))⟩
            case round =>
              obtain ⟨j, hj, rfl, hb, HBF⟩ := hrel
              have HB := Lib.hid hb
              have HO3 := Lib.hid (HO.out.below hb)
              have HC3 := Lib.hid ((hb.block w.heap.size (Array.getElem?_eq_some_iff.1 HC2.out).1).trans HC2.out)
              have HBW3 := Lib.hid (HBW2.out.trans (hb.mono HBW2.out.size))
              clear hb
              by_cases hlt : j < n
              · have t1 : decide ((j : Int) < (n : Int)) = true := decide_eq_true (by omega)
                have t2 : decide (j < n) = true := decide_eq_true hlt
                have i0' : (0 : Int) ≤ (j : Int) := Int.natCast_nonneg _
                have i1' : (j : Int) < (n : Int) := by omega
                obtain ⟨gn, cn, e9, hgn, hgl, _, _⟩ := HO3.out.block (by rw [HL.out]; omega)
                rw [HL.out] at e9
                injection e9 with e8 _ e9
                subst e8 e9
                have HGN := Lib.hid hgn
                obtain ⟨x, hx⟩ : ∃ x, l[j]? = some x := ⟨l[j]'(by rw [HL.out]; exact hlt), List.getElem?_eq_getElem _⟩
                have HX := Lib.hid hx
                have HW5 := Lib.hid (HO3.out.cellsG hx)
                obtain ⟨r, hr⟩ : ∃ r, r = alikeB x g := ⟨_, rfl⟩
                have HR := Lib.hid hr
                have HAL := Lib.hid (fun W => refAlike_any x g W)
                rw [← hr] at HAL
                clear hr hx hgn hgl
                obtain ⟨q0, q1, q2, q3, q4⟩ := HW5.out
                obtain ⟨c0, c1, c2, c3, c4⟩ := cells5 HC3.out
                have Q0 := Lib.hid q0
                have Q1 := Lib.hid q1
                have Q2 := Lib.hid q2
                have Q3 := Lib.hid q3
                have Q4 := Lib.hid q4
                have C0 := Lib.hid c0
                have C1 := Lib.hid c1
                have C2 := Lib.hid c2
                have C3 := Lib.hid c3
                have C4 := Lib.hid c4
                clear q0 q1 q2 q3 q4 c0 c1 c2 c3 c4
                go_upto_region 9 with fail
                refine' wp_region_mono (by kernel_rfl) (by kernel_rfl) (by kernel_rfl) (by kernel_rfl) (by kernel_rfl) (by kernel_rfl)
                  [MP.is (.slice (some ⟨gn, 0, none⟩) n cv), MP.is (.int .i64 (j : Int)), MP.is (.pointer (some ⟨gn, j * 5, none⟩)), MP.is (.agg #[.string ⟨x.tb.toArray⟩, .int .u8 x.pv, .string ⟨x.gt.toArray⟩, .string ⟨x.gb.toArray⟩, .bool x.op]), MP.is (.agg #[.string ⟨g.tb.toArray⟩, .int .u8 g.pv, .string ⟨g.gt.toArray⟩, .string ⟨g.gb.toArray⟩, .bool g.op]), MP.is (.bool r)] ?hAA1 ?hst1 ?hend1
                case hAA1 =>
                  intro f
                  conv => lhs; simp only [putA, dstOf, List.size_toArray, List.length_cons, List.length_nil, Nat.zero_add, Nat.reduceAdd, List.getElem?_toArray, List.getElem?_cons_zero, List.getElem?_cons_succ, Option.bind_some, Act.put, List.setIfInBounds_toArray, List.set_cons_zero, List.set_cons_succ]
                  first | done | exact rfl
                case hst1 =>
                  change Steps _ _ _ _ _ [0, 1, 2, 3, 4, 5]
                  refine Steps.cons rfl ?_ ?_
                  · intro f wz hB h K Q hK
                    try simp only [List.getElem_toArray, List.getElem_cons_zero]
                    go_simp
                    exact hK _ _ (gr_refl _) rfl
                  refine Steps.cons rfl ?_ ?_
                  · intro f wz hB h K Q hK
                    try simp only [List.getElem_toArray, List.getElem_cons_succ, List.getElem_cons_zero]
                    go_simp
                    exact hK _ _ (gr_refl _) rfl
                  refine Steps.cons rfl ?_ ?_
                  · intro f wz hB h K Q hK
                    have h0 : (MP.is (.slice (some ⟨gn, 0, none⟩) n cv)).p (f 0) wz := h 0 (by kernel_rfl)
                    have e0 : f 0 = (.slice (some ⟨gn, 0, none⟩) n cv) := h0
                    have h1 : (MP.is (.int .i64 (j : Int))).p (f 1) wz := h 1 (by kernel_rfl)
                    have e1 : f 1 = (.int .i64 (j : Int)) := h1
                    simp only [e0, e1] at hK ⊢
                    clear e0 e1
                    try simp only [List.getElem_toArray, List.getElem_cons_succ, List.getElem_cons_zero]
                    go_simp
                    exact hK _ _ (gr_refl _) rfl
                  refine Steps.cons rfl ?_ ?_
                  · intro f wz hB h K Q hK
                    have h2 : (MP.is (.pointer (some ⟨gn, j * 5, none⟩))).p (f 2) wz := h 2 (by kernel_rfl)
                    have e2 : f 2 = (.pointer (some ⟨gn, j * 5, none⟩)) := h2
                    simp only [e2] at hK ⊢
                    clear e2
                    try simp only [List.getElem_toArray, List.getElem_cons_succ, List.getElem_cons_zero]
                    have y0 := keep_of_below (bel_drew hB) Q0.out
                    have y1 := keep_of_below (bel_drew hB) Q1.out
                    have y2 := keep_of_below (bel_drew hB) Q2.out
                    have y3 := keep_of_below (bel_drew hB) Q3.out
                    have y4 := keep_of_below (bel_drew hB) Q4.out
                    have y5 := keep_of_below (bel_drew hB) C0.out
                    have y6 := keep_of_below (bel_drew hB) C1.out
                    have y7 := keep_of_below (bel_drew hB) C2.out
                    have y8 := keep_of_below (bel_drew hB) C3.out
                    have y9 := keep_of_below (bel_drew hB) C4.out
                    go_simp
                    exact hK _ _ (gr_refl _) rfl
                  refine Steps.cons rfl ?_ ?_
                  · intro f wz hB h K Q hK
                    try simp only [List.getElem_toArray, List.getElem_cons_succ, List.getElem_cons_zero]
                    have y0 := keep_of_below (bel_drew hB) Q0.out
                    have y1 := keep_of_below (bel_drew hB) Q1.out
                    have y2 := keep_of_below (bel_drew hB) Q2.out
                    have y3 := keep_of_below (bel_drew hB) Q3.out
                    have y4 := keep_of_below (bel_drew hB) Q4.out
                    have y5 := keep_of_below (bel_drew hB) C0.out
                    have y6 := keep_of_below (bel_drew hB) C1.out
                    have y7 := keep_of_below (bel_drew hB) C2.out
                    have y8 := keep_of_below (bel_drew hB) C3.out
                    have y9 := keep_of_below (bel_drew hB) C4.out
                    go_simp
                    exact hK _ _ (gr_refl _) rfl
                  refine Steps.cons rfl ?_ ?_
                  · intro f wz hB h K Q hK
                    have h3 : (MP.is (.agg #[.string ⟨x.tb.toArray⟩, .int .u8 x.pv, .string ⟨x.gt.toArray⟩, .string ⟨x.gb.toArray⟩, .bool x.op])).p (f 3) wz := h 3 (by kernel_rfl)
                    have e3 : f 3 = (.agg #[.string ⟨x.tb.toArray⟩, .int .u8 x.pv, .string ⟨x.gt.toArray⟩, .string ⟨x.gb.toArray⟩, .bool x.op]) := h3
                    have h4 : (MP.is (.agg #[.string ⟨g.tb.toArray⟩, .int .u8 g.pv, .string ⟨g.gt.toArray⟩, .string ⟨g.gb.toArray⟩, .bool g.op])).p (f 4) wz := h 4 (by kernel_rfl)
                    have e4 : f 4 = (.agg #[.string ⟨g.tb.toArray⟩, .int .u8 g.pv, .string ⟨g.gt.toArray⟩, .string ⟨g.gb.toArray⟩, .bool g.op]) := h4
                    simp only [e3, e4] at hK ⊢
                    clear e3 e4
                    try simp only [List.getElem_toArray, List.getElem_cons_succ, List.getElem_cons_zero]
                    go_simp
                    refine (HAL.out wz).mono ?_
                    rintro e w5 ⟨rfl, hb5⟩
                    exact hK _ _ hb5 rfl
                  exact Steps.nil
                intro f w5 hB5 hR
                have e0 : f 0 = (.slice (some ⟨gn, 0, none⟩) n cv) := hR 0 (by decide)
                have e1 : f 1 = (.int .i64 (j : Int)) := hR 1 (by decide)
                have e2 : f 2 = (.pointer (some ⟨gn, j * 5, none⟩)) := hR 2 (by decide)
                have e3 : f 3 = (.agg #[.string ⟨x.tb.toArray⟩, .int .u8 x.pv, .string ⟨x.gt.toArray⟩, .string ⟨x.gb.toArray⟩, .bool x.op]) := hR 3 (by decide)
                have e4 : f 4 = (.agg #[.string ⟨g.tb.toArray⟩, .int .u8 g.pv, .string ⟨g.gt.toArray⟩, .string ⟨g.gb.toArray⟩, .bool g.op]) := hR 4 (by decide)
                have e5 : f 5 = (.bool r) := hR 5 (by decide)
                simp only [e0, e1, e2, e3, e4, e5]
                clear e0 e1 e2 e3 e4 e5 hR
                have hd := bel_drew hB5
                have HB5 := Lib.hid (gr_trans HB.out hd)
                have HBW5 := Lib.hid (HBW3.out.trans (hd.mono HBW3.out.size))
                have HO5 := Lib.hid (HO3.out.below hd)
                have HC5 := Lib.hid ((hd.block w.heap.size (Array.getElem?_eq_some_iff.1 HC3.out).1).trans HC3.out)
                clear hd hB5
                cases r
                · go_wp2_with fail
                  go_roundw
                  case rel => exact ⟨j + 1, by omega, by go_num, HB5.out, Lib.hid (fun q y hq hy => by
                    by_cases e : q = j
                    · subst e
                      rw [HX.out] at hy
                      injection hy with hy
                      subst hy
                      exact HR.out.symm
                    · exact HBF.out q y (by omega) hy)⟩
                  case measure => simp [intOf]; omega
                · have HGL := Lib.hid (giveL_at HX.out HR.out.symm HBF.out)
                  have y0 := HO5.out.cellG HX.out
                  have f0 := own_frozen HO5.out (j * 5 + 4)
                  obtain ⟨c0, c1, c2, c3, c4⟩ := cells5 HC5.out
                  have HFIN : Hid (∀ W, W = w5.setCell ⟨gn, j * 5 + 4, none⟩ (.bool (x.op || g.op)) → EO EG 5 30 W w.heap.size (.slice (some ⟨gn, 0, none⟩) n cv) (giveL l g) ∧ Below w.heap.size w W) := Lib.hid (by
                    rintro W rfl
                    have hset : EO EG 5 30 (w5.setCell ⟨gn, j * 5 + 4, none⟩ (.bool (x.op || g.op))) w1.heap.size (.slice (some ⟨gn, 0, none⟩) n cv) (l.set j { x with op := x.op || g.op }) := by
                      have h1 := HO5.out
                      unfold EO at h1 ⊢
                      rw [HL.out] at h1
                      rw [List.length_set, HL.out, ← flat_set EG_len l j 4 x { x with op := x.op || g.op } (.bool (x.op || g.op)) HX.out (by decide) rfl]
                      exact own_setK h1 _ _
                    rw [← HGL.out] at hset
                    exact ⟨hset.lower (Nat.le_of_lt HWH.out), HBW5.out.trans (((Off.refl (· = gn) w5).setCell (g := gn) (j := j * 5 + 4) (.bool (x.op || g.op)) rfl).below (fun k hk => by rw [hk]; exact Nat.le_trans (Nat.le_of_lt HWH.out) HGN.out) HBW5.out.size)⟩)
                  clear c0 c1 c2 c3
                  cases hxo : x.op
                  · cases hgo : g.op
                    all_goals
                      rw [hxo] at y0
                      rw [hgo] at c4
                      simp only [hxo, hgo, Bool.or_false, Bool.or_true] at HFIN
                      clear hxo hgo
                      go_wp2_with fail
                      go_ret2
                      exact ⟨.inr ⟨_, rfl, HE0.out, (HFIN.out _ rfl).1⟩, (HFIN.out _ rfl).2⟩
                  · rw [hxo] at y0
                    simp only [hxo, Bool.true_or] at HFIN
                    clear hxo c4
                    go_wp2_with fail
                    go_ret2
                    exact ⟨.inr ⟨_, rfl, HE0.out, (HFIN.out _ rfl).1⟩, (HFIN.out _ rfl).2⟩
              · obtain rfl : j = n := by omega
                have t1 : decide ((j : Int) < (j : Int)) = false := decide_eq_false (by omega)
                have HG2 : Hid (giveL l g = l ++ [g]) := Lib.hid (giveL_none fun x hx => by
                  obtain ⟨q, hq⟩ := List.getElem?_of_mem hx
                  exact HBF.out q x (by rw [← HL.out]; exact (List.getElem?_eq_some_iff.1 hq).1) hq)
                have HOW : Hid (wr.ownsRow w1.heap.size 30 5 (.slice Av j cv) j (l.flatMap EG)) := Lib.hid (by have := HO3.out; unfold EO at this; rw [HL.out] at this; exact this)
                obtain ⟨c0, c1, c2, c3, c4⟩ := cells5 HC3.out
                have HSZ : Hid (w1.heap.size ≤ wr.heap.size) := Lib.hid (Nat.le_trans HSZ2.out HB.out.size)
                go_wp2_with (at_builtin; refine wpList_append_Rd _ rfl (.tmp 67) (.tmp 69) _ rfl w1.heap.size 30 i0 _ 5 64 Try.underlying22 hi0 hz0 hz1 hz2 hzs (.slice Av j cv) j _ rfl (ownsRow_off (S := fun _ => False) HOW.out (Off.of_below (gr_alloc (gr_refl wr) _)) (fun _ _ h => h)) (some ⟨wr.heap.size, 0, none⟩) 1 1 (EG g) rfl (rd_new1 _ _ _ _ rfl) (EG_one g) (by omega) (by simp only [maxLen]; omega) (Nat.le_trans HSZ.out (gr_alloc (gr_refl wr) _).size) ?_; intro v6 w6 hown6 hg6 _ _; have hb6 : Below w.heap.size w w6 := (gr_alloc HBW3.out _).grown hg6 (gr_alloc HBW3.out _).size (fun k hk => Nat.le_trans (Nat.le_of_lt HWH.out) (HOW.out.lt k hk).1))
                have HR6 := Lib.hid ((EO.snoc hown6 HL.out).lower (Nat.le_of_lt HWH.out))
                rw [← HG2.out] at HR6
                have HB6 := Lib.hid hb6
                clear hown6 hg6 hb6 c0 c1 c2 c3 c4
                go_wp2_with fail
                go_ret2
                exact ⟨.inr ⟨_, rfl, HE0.out, HR6.out⟩, HB6.out⟩
        · have HE0 : Hid (giveE l ow g = 0) := Lib.hid (by rw [HE.out]; rfl)
          go_wp2_with fail
          refine (CopyGrants_any A n c l w1 HS.out (by omega)).mono ?_
          rintro e w2 ⟨v2, rfl, ho, hb2⟩
          obtain ⟨Av, cv, rfl, _, _, _⟩ := ho.form
          have HO := Lib.hid ho
          have HBW2 := Lib.hid (HA.out.trans (hb2.mono HA.out.size))
          have HSZ2 := Lib.hid hb2.size
          have HC2 := Lib.hid ((hb2.block w.heap.size HWH.out).trans HCA.out)
          clear ho hb2 c0 c1 c2 c3 c4 t0 t1 t2 t3
          rw [HL.out] at HO ⊢
          go_wp2_with fail
          go_loopw [9] (fun i wr => ∃ (j : Nat), j ≤ n ∧ i = .int .i64 (j : Int) ∧ Below w2.heap.size w2 wr ∧ Hid (∀ (q : Nat) (y : Gr), q < j → l[q]? = some y → alikeB y g = false)) (fun i _ => n - (intOf i).toNat)
          case atStart => exact ⟨0, Nat.zero_le _, rfl, gr_refl w2, Lib.hid (fun q y hq => absurd hq (Nat.not_lt_zero q))⟩
          case round =>
            obtain ⟨j, hj, rfl, hb, HBF⟩ := hrel
            have HB := Lib.hid hb
            have HO3 := Lib.hid (HO.out.below hb)
            have HC3 := Lib.hid ((hb.block w.heap.size (Array.getElem?_eq_some_iff.1 HC2.out).1).trans HC2.out)
            have HBW3 := Lib.hid (HBW2.out.trans (hb.mono HBW2.out.size))
            clear hb
            by_cases hlt : j < n
            · have t1 : decide ((j : Int) < (n : Int)) = true := decide_eq_true (by omega)
              have t2 : decide (j < n) = true := decide_eq_true hlt
              have i0' : (0 : Int) ≤ (j : Int) := Int.natCast_nonneg _
              have i1' : (j : Int) < (n : Int) := by omega
              obtain ⟨gn, cn, e9, hgn, hgl, _, _⟩ := HO3.out.block (by rw [HL.out]; omega)
              rw [HL.out] at e9
              injection e9 with e8 _ e9
              subst e8 e9
              have HGN := Lib.hid hgn
              obtain ⟨x, hx⟩ : ∃ x, l[j]? = some x := ⟨l[j]'(by rw [HL.out]; exact hlt), List.getElem?_eq_getElem _⟩
              have HX := Lib.hid hx
              have HW5 := Lib.hid (HO3.out.cellsG hx)
              obtain ⟨r, hr⟩ : ∃ r, r = alikeB x g := ⟨_, rfl⟩
              have HR := Lib.hid hr
              have HAL := Lib.hid (fun W => refAlike_any x g W)
              rw [← hr] at HAL
              clear hr hx hgn hgl
              obtain ⟨q0, q1, q2, q3, q4⟩ := HW5.out
              obtain ⟨c0, c1, c2, c3, c4⟩ := cells5 HC3.out
              have Q0 := Lib.hid q0
              have Q1 := Lib.hid q1
              have Q2 := Lib.hid q2
              have Q3 := Lib.hid q3
              have Q4 := Lib.hid q4
              have C0 := Lib.hid c0
              have C1 := Lib.hid c1
              have C2 := Lib.hid c2
              have C3 := Lib.hid c3
              have C4 := Lib.hid c4
              clear q0 q1 q2 q3 q4 c0 c1 c2 c3 c4
              go_upto_region 9 with fail
              refine' wp_region_mono (by kernel_rfl) (by kernel_rfl) (by kernel_rfl) (by kernel_rfl) (by kernel_rfl) (by kernel_rfl)
                [MP.is (.slice (some ⟨gn, 0, none⟩) n cv), MP.is (.int .i64 (j : Int)), MP.is (.pointer (some ⟨gn, j * 5, none⟩)), MP.is (.agg #[.string ⟨x.tb.toArray⟩, .int .u8 x.pv, .string ⟨x.gt.toArray⟩, .string ⟨x.gb.toArray⟩, .bool x.op]), MP.is (.agg #[.string ⟨g.tb.toArray⟩, .int .u8 g.pv, .string ⟨g.gt.toArray⟩, .string ⟨g.gb.toArray⟩, .bool g.op]), MP.is (.bool r)] ?hAA1b ?hst1b ?hend1b
              case hAA1b =>
                intro f
                conv => lhs; simp only [putA, dstOf, List.size_toArray, List.length_cons, List.length_nil, Nat.zero_add, Nat.reduceAdd, List.getElem?_toArray, List.getElem?_cons_zero, List.getElem?_cons_succ, Option.bind_some, Act.put, List.setIfInBounds_toArray, List.set_cons_zero, List.set_cons_succ]
                first | done | exact rfl
              case hst1b =>
                change Steps _ _ _ _ _ [0, 1, 2, 3, 4, 5]
                refine Steps.cons rfl ?_ ?_
                · intro f wz hB h K Q hK
                  try simp only [List.getElem_toArray, List.getElem_cons_zero]
                  go_simp
                  exact hK _ _ (gr_refl _) rfl
                refine Steps.cons rfl ?_ ?_
                · intro f wz hB h K Q hK
                  try simp only [List.getElem_toArray, List.getElem_cons_succ, List.getElem_cons_zero]
                  go_simp
                  exact hK _ _ (gr_refl _) rfl
                refine Steps.cons rfl ?_ ?_
                · intro f wz hB h K Q hK
                  have h0 : (MP.is (.slice (some ⟨gn, 0, none⟩) n cv)).p (f 0) wz := h 0 (by kernel_rfl)
                  have e0 : f 0 = (.slice (some ⟨gn, 0, none⟩) n cv) := h0
                  have h1 : (MP.is (.int .i64 (j : Int))).p (f 1) wz := h 1 (by kernel_rfl)
                  have e1 : f 1 = (.int .i64 (j : Int)) := h1
                  simp only [e0, e1] at hK ⊢
                  clear e0 e1
                  try simp only [List.getElem_toArray, List.getElem_cons_succ, List.getElem_cons_zero]
                  go_simp
                  exact hK _ _ (gr_refl _) rfl
                refine Steps.cons rfl ?_ ?_
                · intro f wz hB h K Q hK
                  have h2 : (MP.is (.pointer (some ⟨gn, j * 5, none⟩))).p (f 2) wz := h 2 (by kernel_rfl)
                  have e2 : f 2 = (.pointer (some ⟨gn, j * 5, none⟩)) := h2
                  simp only [e2] at hK ⊢
                  clear e2
                  try simp only [List.getElem_toArray, List.getElem_cons_succ, List.getElem_cons_zero]
                  have y0 := keep_of_below (bel_drew hB) Q0.out
                  have y1 := keep_of_below (bel_drew hB) Q1.out
                  have y2 := keep_of_below (bel_drew hB) Q2.out
                  have y3 := keep_of_below (bel_drew hB) Q3.out
                  have y4 := keep_of_below (bel_drew hB) Q4.out
                  have y5 := keep_of_below (bel_drew hB) C0.out
                  have y6 := keep_of_below (bel_drew hB) C1.out
                  have y7 := keep_of_below (bel_drew hB) C2.out
                  have y8 := keep_of_below (bel_drew hB) C3.out
                  have y9 := keep_of_below (bel_drew hB) C4.out
                  go_simp
                  exact hK _ _ (gr_refl _) rfl
                refine Steps.cons rfl ?_ ?_
                · intro f wz hB h K Q hK
                  try simp only [List.getElem_toArray, List.getElem_cons_succ, List.getElem_cons_zero]
                  have y0 := keep_of_below (bel_drew hB) Q0.out
                  have y1 := keep_of_below (bel_drew hB) Q1.out
                  have y2 := keep_of_below (bel_drew hB) Q2.out
                  have y3 := keep_of_below (bel_drew hB) Q3.out
                  have y4 := keep_of_below (bel_drew hB) Q4.out
                  have y5 := keep_of_below (bel_drew hB) C0.out
                  have y6 := keep_of_below (bel_drew hB) C1.out
                  have y7 := keep_of_below (bel_drew hB) C2.out
                  have y8 := keep_of_below (bel_drew hB) C3.out
                  have y9 := keep_of_below (bel_drew hB) C4.out
                  go_simp
                  exact hK _ _ (gr_refl _) rfl
                refine Steps.cons rfl ?_ ?_
                · intro f wz hB h K Q hK
                  have h3 : (MP.is (.agg #[.string ⟨x.tb.toArray⟩, .int .u8 x.pv, .string ⟨x.gt.toArray⟩, .string ⟨x.gb.toArray⟩, .bool x.op])).p (f 3) wz := h 3 (by kernel_rfl)
                  have e3 : f 3 = (.agg #[.string ⟨x.tb.toArray⟩, .int .u8 x.pv, .string ⟨x.gt.toArray⟩, .string ⟨x.gb.toArray⟩, .bool x.op]) := h3
                  have h4 : (MP.is (.agg #[.string ⟨g.tb.toArray⟩, .int .u8 g.pv, .string ⟨g.gt.toArray⟩, .string ⟨g.gb.toArray⟩, .bool g.op])).p (f 4) wz := h 4 (by kernel_rfl)
                  have e4 : f 4 = (.agg #[.string ⟨g.tb.toArray⟩, .int .u8 g.pv, .string ⟨g.gt.toArray⟩, .string ⟨g.gb.toArray⟩, .bool g.op]) := h4
                  simp only [e3, e4] at hK ⊢
                  clear e3 e4
                  try simp only [List.getElem_toArray, List.getElem_cons_succ, List.getElem_cons_zero]
                  go_simp
                  refine (HAL.out wz).mono ?_
                  rintro e w5 ⟨rfl, hb5⟩
                  exact hK _ _ hb5 rfl
                exact Steps.nil
              intro f w5 hB5 hR
              have e0 : f 0 = (.slice (some ⟨gn, 0, none⟩) n cv) := hR 0 (by decide)
              have e1 : f 1 = (.int .i64 (j : Int)) := hR 1 (by decide)
              have e2 : f 2 = (.pointer (some ⟨gn, j * 5, none⟩)) := hR 2 (by decide)
              have e3 : f 3 = (.agg #[.string ⟨x.tb.toArray⟩, .int .u8 x.pv, .string ⟨x.gt.toArray⟩, .string ⟨x.gb.toArray⟩, .bool x.op]) := hR 3 (by decide)
              have e4 : f 4 = (.agg #[.string ⟨g.tb.toArray⟩, .int .u8 g.pv, .string ⟨g.gt.toArray⟩, .string ⟨g.gb.toArray⟩, .bool g.op]) := hR 4 (by decide)
              have e5 : f 5 = (.bool r) := hR 5 (by decide)
              simp only [e0, e1, e2, e3, e4, e5]
              clear e0 e1 e2 e3 e4 e5 hR
              have hd := bel_drew hB5
              have HB5 := Lib.hid (gr_trans HB.out hd)
              have HBW5 := Lib.hid (HBW3.out.trans (hd.mono HBW3.out.size))
              have HO5 := Lib.hid (HO3.out.below hd)
              have HC5 := Lib.hid ((hd.block w.heap.size (Array.getElem?_eq_some_iff.1 HC3.out).1).trans HC3.out)
              clear hd hB5
              cases r
              · go_wp2_with fail
                go_roundw
                case rel => exact ⟨j + 1, by omega, by go_num, HB5.out, Lib.hid (fun q y hq hy => by
                  by_cases e : q = j
                  · subst e
                    rw [HX.out] at hy
                    injection hy with hy
                    subst hy
                    exact HR.out.symm
                  · exact HBF.out q y (by omega) hy)⟩
                case measure => simp [intOf]; omega
              · have HGL := Lib.hid (giveL_at HX.out HR.out.symm HBF.out)
                have y0 := HO5.out.cellG HX.out
                have f0 := own_frozen HO5.out (j * 5 + 4)
                obtain ⟨c0, c1, c2, c3, c4⟩ := cells5 HC5.out
                have HFIN : Hid (∀ W, W = w5.setCell ⟨gn, j * 5 + 4, none⟩ (.bool (x.op || g.op)) → EO EG 5 30 W w.heap.size (.slice (some ⟨gn, 0, none⟩) n cv) (giveL l g) ∧ Below w.heap.size w W) := Lib.hid (by
                  rintro W rfl
                  have hset : EO EG 5 30 (w5.setCell ⟨gn, j * 5 + 4, none⟩ (.bool (x.op || g.op))) w1.heap.size (.slice (some ⟨gn, 0, none⟩) n cv) (l.set j { x with op := x.op || g.op }) := by
                    have h1 := HO5.out
                    unfold EO at h1 ⊢
                    rw [HL.out] at h1
                    rw [List.length_set, HL.out, ← flat_set EG_len l j 4 x { x with op := x.op || g.op } (.bool (x.op || g.op)) HX.out (by decide) rfl]
                    exact own_setK h1 _ _
                  rw [← HGL.out] at hset
                  exact ⟨hset.lower (Nat.le_of_lt HWH.out), HBW5.out.trans (((Off.refl (· = gn) w5).setCell (g := gn) (j := j * 5 + 4) (.bool (x.op || g.op)) rfl).below (fun k hk => by rw [hk]; exact Nat.le_trans (Nat.le_of_lt HWH.out) HGN.out) HBW5.out.size)⟩)
                clear c0 c1 c2 c3
                cases hxo : x.op
                · cases hgo : g.op
                  all_goals
                    rw [hxo] at y0
                    rw [hgo] at c4
                    simp only [hxo, hgo, Bool.or_false, Bool.or_true] at HFIN
                    clear hxo hgo
                    go_wp2_with fail
                    go_ret2
                    exact ⟨.inr ⟨_, rfl, HE0.out, (HFIN.out _ rfl).1⟩, (HFIN.out _ rfl).2⟩
                · rw [hxo] at y0
                  simp only [hxo, Bool.true_or] at HFIN
                  clear hxo c4
                  go_wp2_with fail
                  go_ret2
                  exact ⟨.inr ⟨_, rfl, HE0.out, (HFIN.out _ rfl).1⟩, (HFIN.out _ rfl).2⟩
            · obtain rfl : j = n := by omega
              have t1 : decide ((j : Int) < (j : Int)) = false := decide_eq_false (by omega)
              have HG2 : Hid (giveL l g = l ++ [g]) := Lib.hid (giveL_none fun x hx => by
                obtain ⟨q, hq⟩ := List.getElem?_of_mem hx
                exact HBF.out q x (by rw [← HL.out]; exact (List.getElem?_eq_some_iff.1 hq).1) hq)
              have HOW : Hid (wr.ownsRow w1.heap.size 30 5 (.slice Av j cv) j (l.flatMap EG)) := Lib.hid (by have := HO3.out; unfold EO at this; rw [HL.out] at this; exact this)
              obtain ⟨c0, c1, c2, c3, c4⟩ := cells5 HC3.out
              have HSZ : Hid (w1.heap.size ≤ wr.heap.size) := Lib.hid (Nat.le_trans HSZ2.out HB.out.size)
              go_wp2_with (at_builtin; refine wpList_append_Rd _ rfl (.tmp 67) (.tmp 69) _ rfl w1.heap.size 30 i0 _ 5 64 Try.underlying22 hi0 hz0 hz1 hz2 hzs (.slice Av j cv) j _ rfl (ownsRow_off (S := fun _ => False) HOW.out (Off.of_below (gr_alloc (gr_refl wr) _)) (fun _ _ h => h)) (some ⟨wr.heap.size, 0, none⟩) 1 1 (EG g) rfl (rd_new1 _ _ _ _ rfl) (EG_one g) (by omega) (by simp only [maxLen]; omega) (Nat.le_trans HSZ.out (gr_alloc (gr_refl wr) _).size) ?_; intro v6 w6 hown6 hg6 _ _; have hb6 : Below w.heap.size w w6 := (gr_alloc HBW3.out _).grown hg6 (gr_alloc HBW3.out _).size (fun k hk => Nat.le_trans (Nat.le_of_lt HWH.out) (HOW.out.lt k hk).1))
              have HR6 := Lib.hid ((EO.snoc hown6 HL.out).lower (Nat.le_of_lt HWH.out))
              rw [← HG2.out] at HR6
              have HB6 := Lib.hid hb6
              clear hown6 hg6 hb6 c0 c1 c2 c3 c4
              go_wp2_with fail
              go_ret2
              exact ⟨.inr ⟨_, rfl, HE0.out, HR6.out⟩, HB6.out⟩
      · go_wp2_with fail
        go_ret2
        exact ⟨.inl ⟨by rw [HE.out]; rfl, by rw [HE.out]; simp⟩, HA.out⟩
    · go_wp2_with fail
      go_ret2
      exact ⟨.inl ⟨by rw [HE.out]; rfl, by rw [HE.out]; simp⟩, HA.out⟩
  · go_wp2_with fail
    go_ret2
    exact ⟨.inl ⟨by rw [HE.out]; rfl, by rw [HE.out]; simp⟩, HA.out⟩

end Go.Proofs.Ytfgkadkmgciamaa
