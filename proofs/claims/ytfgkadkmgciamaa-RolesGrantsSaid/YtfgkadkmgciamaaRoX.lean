/-
  The document's Sound.
-/
import Derived.Test.YtfgkadkmgciamaaRoW
namespace Go.Proofs.Ytfgkadkmgciamaa
open Go Go.RowKit

/-- A slice of bools, read. -/
def MP.hb (n : Nat) (bs : List Bool) : MP := ⟨fun v w => ∃ b, v = .slice (some ⟨b, 0, none⟩) n n ∧ ∀ (i : Nat) (x : Bool), bs[i]? = some x → w.cell? ⟨b, i, none⟩ = some (.bool x), fun _ _ _ hb h => by
  obtain ⟨b, e, q⟩ := h
  exact ⟨b, e, fun i x hx => keep_of_below hb (q i x hx)⟩⟩
def MP.pb (j : Nat) (r : Bool) : MP := ⟨fun v w => ∃ b, v = .pointer (some ⟨b, j, none⟩) ∧ w.cell? ⟨b, j, none⟩ = some (.bool r), fun _ _ _ hb h => by
  obtain ⟨b, e, q⟩ := h
  exact ⟨b, e, keep_of_below hb q⟩⟩

set_option maxRecDepth 100000 in
set_option maxHeartbeats 4000000 in
theorem refSound_any (A B : Option Addr) (n c m d : Nat) (l : List Gr) (t : List Tb) (w : World) (h : ER EG 5 w A n l) (ht : ER ET 3 w B m t) (hn : n ≤ 2199023255552) (hm : m ≤ 9223372036854775807) :
    Calls Try.prog 10 #[.slice A n c, .slice B m d] w fun e w' => ∃ r, e = .returned (.bool r) ∧ SoundP l t r ∧ Below w.heap.size w w' := by
  have HS := Lib.hid h
  have HT := Lib.hid ht
  have HL := Lib.hid h.1
  have HTL := Lib.hid ht.1
  clear h ht
  go_enter Try.func10, Try.ntmps10
  go_wp2_with fail
  go_loopw [5, 6, 7] (fun i _ _ wr => ∃ (j : Nat), j ≤ n ∧ i = .int .i64 (j : Int) ∧ Below w.heap.size w wr ∧ Hid (∀ g ∈ l.take j, OkG l t g)) (fun i _ _ _ => n - (intOf i).toNat)
  case atStart => exact ⟨0, Nat.zero_le _, rfl, gr_refl w, Lib.hid (fun g hg => by simp at hg)⟩
  case round =>
    obtain ⟨j, hj, rfl, hb, HOK⟩ := hrel
    have HB := Lib.hid hb
    by_cases hlt : j < n
    · have t1 : decide ((j : Int) < (n : Int)) = true := decide_eq_true (by omega)
      have t2 : decide (j < n) = true := decide_eq_true hlt
      have i0' : (0 : Int) ≤ (j : Int) := Int.natCast_nonneg _
      have i1' : (j : Int) < (n : Int) := by omega
      obtain ⟨ga, o, g, rfl, hx, q0, q1, q2, q3, q4⟩ := (HS.out.below hb).atGr hlt
      have HX := Lib.hid hx
      have HXM := Lib.hid (List.mem_of_getElem? hx)
      clear hx hb
      go_wp2_with fail
      generalize wr = wo at *
      go_loopw [6, 7] (fun v i wr => ∃ (k : Nat), k ≤ m ∧ i = .int .i64 (k : Int) ∧ Below wo.heap.size wo wr ∧ ((v = .bool false ∧ Hid (∀ (q : Nat) (y : Tb), q < k → t[q]? = some y → y.1 ≠ g.tb)) ∨ (v = .bool true ∧ Hid (OkG l t g)))) (fun _ i _ => m - (intOf i).toNat)
      case atStart => exact ⟨0, Nat.zero_le _, rfl, gr_refl wo, .inl ⟨rfl, Lib.hid (fun q y hq => absurd hq (Nat.not_lt_zero q))⟩⟩
      case round =>
        obtain ⟨k, hk, rfl, hbz, hv⟩ := hrel
        have HBZ := Lib.hid hbz
        rcases hv with ⟨rfl, HBF⟩ | ⟨rfl, HYES⟩
        · by_cases hlk : k < m
          · have t3 : decide ((k : Int) < (m : Int)) = true := decide_eq_true (by omega)
            have t4 : decide (k < m) = true := decide_eq_true hlk
            have i2' : (0 : Int) ≤ (k : Int) := Int.natCast_nonneg _
            have i3' : (k : Int) < (m : Int) := by omega
            obtain ⟨gt, ot, x, rfl, hxt, y0, y1, y2⟩ := ((HT.out.below HB.out).below hbz).atTb hlk
            have HXT := Lib.hid hxt
            obtain ⟨s0, hs0⟩ : ∃ r, r = (x.1 == g.tb) := ⟨_, rfl⟩
            have e0 : (x.1 == g.tb) = s0 := hs0.symm
            have H0 := Lib.hid hs0
            have hq0 := keep_of_below hbz q0
            have hq1 := keep_of_below hbz q1
            have Y1 := Lib.hid y1
            have Q0 := Lib.hid hq0
            have Q1 := Lib.hid hq1
            clear hxt hs0 q0 q1 q2 q3 q4 hbz
            cases s0
            · go_wp2_with (go_quiet (fail))
              have HBY := Lib.hid (HBZ.out.trans ((gr_drewN (gr_refl wr) nq).mono HBZ.out.size))
              go_roundw
              case rel => exact ⟨k + 1, by omega, by go_num, HBY.out, .inl ⟨rfl, Lib.hid (fun q y hq hy => by
                by_cases e : q = k
                · subst e
                  rw [HXT.out] at hy
                  injection hy with hy
                  subst hy
                  intro e
                  have := H0.out
                  rw [e] at this
                  simp at this
                · exact HBF.out q y (by omega) hy)⟩⟩
              case measure => simp [intOf]; omega
            · obtain ⟨r, hrj, hri⟩ := holdB_at (ow := x.2.1) (tb := g.tb) (pv := g.pv) HX.out
              have HRJ := Lib.hid hrj
              have HRI := Lib.hid hri
              clear hrj hri
              go_upto_region 10 with (go_quiet (fail))
              have hd := gr_drewN (gr_refl wr) nq
              have HBY := Lib.hid (HBZ.out.trans (hd.mono HBZ.out.size))
              have Y1' := Lib.hid (keep_of_below hd Y1.out)
              have Q0' := Lib.hid (keep_of_below hd Q0.out)
              have Q1' := Lib.hid (keep_of_below hd Q1.out)
              clear hd y0 y1 y2 hq0 hq1
              generalize wr.drewN nq = wp at *
              have HERp := Lib.hid ((HS.out.below HB.out).below HBY.out)
              refine' wp_region_mono (by kernel_rfl) (by kernel_rfl) (by kernel_rfl) (by kernel_rfl) (by kernel_rfl) (by kernel_rfl)
                [MP.is (.slice (some ⟨ga, o, none⟩) n c), MP.is (.slice (some ⟨gt, ot, none⟩) m d), MP.is (.int .i64 (k : Int)), MP.is (.pointer (some ⟨gt, ot + k * 3, none⟩)), MP.is (.pointer (some ⟨gt, ot + k * 3 + 1, none⟩)), MP.is (.string ⟨x.2.1.toArray⟩), MP.is (.slice (some ⟨ga, o, none⟩) n c), MP.is (.int .i64 (j : Int)), MP.is (.pointer (some ⟨ga, o + j * 5, none⟩)), MP.is (.pointer (some ⟨ga, o + j * 5, none⟩)), MP.is (.string ⟨g.tb.toArray⟩), MP.is (.slice (some ⟨ga, o, none⟩) n c), MP.is (.int .i64 (j : Int)), MP.is (.pointer (some ⟨ga, o + j * 5, none⟩)), MP.is (.pointer (some ⟨ga, o + j * 5 + 1, none⟩)), MP.is (.int .u8 g.pv), MP.hb n (holdB l x.2.1 g.tb g.pv), MP.is (.int .i64 (j : Int)), MP.pb j r, MP.is (.bool r), MP.is (.bool (!r))] ?hAA1 ?hst1 ?hend1
              case hAA1 =>
                intro f
                conv => lhs; simp only [putA, dstOf, List.size_toArray, List.length_cons, List.length_nil, Nat.zero_add, Nat.reduceAdd, List.getElem?_toArray, List.getElem?_cons_zero, List.getElem?_cons_succ, Option.bind_some, Act.put, List.setIfInBounds_toArray, List.set_cons_zero, List.set_cons_succ]
                first | done | exact rfl
              case hst1 =>
                change Steps _ _ _ _ _ [0, 1, 2, 3, 4, 5, 6, 7, 8, 9, 10, 11, 12, 13, 14, 15, 16, 17, 18, 19, 20]
                refine Steps.cons rfl ?_ ?_
                · intro f wz hB h K Q hK
                  try simp only [List.getElem_toArray, List.getElem_cons_zero]
                  go_simp
                  exact hK _ _ (gr_refl _) rfl
                refine Steps.cons rfl ?_ ?_
                · intro f wz hB h K Q hK
                  try simp only [List.getElem_toArray, List.getElem_cons_succ, List.getElem_cons_zero]
                  go_simp
                  exact hK _ _ (gr_refl _) rfl
                refine Steps.cons rfl ?_ ?_
                · intro f wz hB h K Q hK
                  try simp only [List.getElem_toArray, List.getElem_cons_succ, List.getElem_cons_zero]
                  go_simp
                  exact hK _ _ (gr_refl _) rfl
                refine Steps.cons rfl ?_ ?_
                · intro f wz hB h K Q hK
                  have h1 : (MP.is (.slice (some ⟨gt, ot, none⟩) m d)).p (f 1) wz := h 1 (by kernel_rfl)
                  have e1 : f 1 = (.slice (some ⟨gt, ot, none⟩) m d) := h1
                  have h2 : (MP.is (.int .i64 (k : Int))).p (f 2) wz := h 2 (by kernel_rfl)
                  have e2 : f 2 = (.int .i64 (k : Int)) := h2
                  simp only [e1, e2] at hK ⊢
                  clear e1 e2
                  try simp only [List.getElem_toArray, List.getElem_cons_succ, List.getElem_cons_zero]
                  go_simp
                  exact hK _ _ (gr_refl _) rfl
                refine Steps.cons rfl ?_ ?_
                · intro f wz hB h K Q hK
                  have h3 : (MP.is (.pointer (some ⟨gt, ot + k * 3, none⟩))).p (f 3) wz := h 3 (by kernel_rfl)
                  have e3 : f 3 = (.pointer (some ⟨gt, ot + k * 3, none⟩)) := h3
                  simp only [e3] at hK ⊢
                  clear e3
                  try simp only [List.getElem_toArray, List.getElem_cons_succ, List.getElem_cons_zero]
                  go_simp
                  exact hK _ _ (gr_refl _) rfl
                refine Steps.cons rfl ?_ ?_
                · intro f wz hB h K Q hK
                  have h4 : (MP.is (.pointer (some ⟨gt, ot + k * 3 + 1, none⟩))).p (f 4) wz := h 4 (by kernel_rfl)
                  have e4 : f 4 = (.pointer (some ⟨gt, ot + k * 3 + 1, none⟩)) := h4
                  simp only [e4] at hK ⊢
                  clear e4
                  try simp only [List.getElem_toArray, List.getElem_cons_succ, List.getElem_cons_zero]
                  have y0 := keep_of_below (bel_drew hB) Y1'.out
                  have y1 := keep_of_below (bel_drew hB) Q0'.out
                  have y2 := keep_of_below (bel_drew hB) Q1'.out
                  go_simp
                  exact hK _ _ (gr_refl _) rfl
                refine Steps.cons rfl ?_ ?_
                · intro f wz hB h K Q hK
                  try simp only [List.getElem_toArray, List.getElem_cons_succ, List.getElem_cons_zero]
                  go_simp
                  exact hK _ _ (gr_refl _) rfl
                refine Steps.cons rfl ?_ ?_
                · intro f wz hB h K Q hK
                  try simp only [List.getElem_toArray, List.getElem_cons_succ, List.getElem_cons_zero]
                  go_simp
                  exact hK _ _ (gr_refl _) rfl
                refine Steps.cons rfl ?_ ?_
                · intro f wz hB h K Q hK
                  have h6 : (MP.is (.slice (some ⟨ga, o, none⟩) n c)).p (f 6) wz := h 6 (by kernel_rfl)
                  have e6 : f 6 = (.slice (some ⟨ga, o, none⟩) n c) := h6
                  have h7 : (MP.is (.int .i64 (j : Int))).p (f 7) wz := h 7 (by kernel_rfl)
                  have e7 : f 7 = (.int .i64 (j : Int)) := h7
                  simp only [e6, e7] at hK ⊢
                  clear e6 e7
                  try simp only [List.getElem_toArray, List.getElem_cons_succ, List.getElem_cons_zero]
                  go_simp
                  exact hK _ _ (gr_refl _) rfl
                refine Steps.cons rfl ?_ ?_
                · intro f wz hB h K Q hK
                  have h8 : (MP.is (.pointer (some ⟨ga, o + j * 5, none⟩))).p (f 8) wz := h 8 (by kernel_rfl)
                  have e8 : f 8 = (.pointer (some ⟨ga, o + j * 5, none⟩)) := h8
                  simp only [e8] at hK ⊢
                  clear e8
                  try simp only [List.getElem_toArray, List.getElem_cons_succ, List.getElem_cons_zero]
                  go_simp
                  exact hK _ _ (gr_refl _) rfl
                refine Steps.cons rfl ?_ ?_
                · intro f wz hB h K Q hK
                  have h9 : (MP.is (.pointer (some ⟨ga, o + j * 5, none⟩))).p (f 9) wz := h 9 (by kernel_rfl)
                  have e9 : f 9 = (.pointer (some ⟨ga, o + j * 5, none⟩)) := h9
                  simp only [e9] at hK ⊢
                  clear e9
                  try simp only [List.getElem_toArray, List.getElem_cons_succ, List.getElem_cons_zero]
                  have y0 := keep_of_below (bel_drew hB) Y1'.out
                  have y1 := keep_of_below (bel_drew hB) Q0'.out
                  have y2 := keep_of_below (bel_drew hB) Q1'.out
                  go_simp
                  exact hK _ _ (gr_refl _) rfl
                refine Steps.cons rfl ?_ ?_
                · intro f wz hB h K Q hK
                  try simp only [List.getElem_toArray, List.getElem_cons_succ, List.getElem_cons_zero]
                  go_simp
                  exact hK _ _ (gr_refl _) rfl
                refine Steps.cons rfl ?_ ?_
                · intro f wz hB h K Q hK
                  try simp only [List.getElem_toArray, List.getElem_cons_succ, List.getElem_cons_zero]
                  go_simp
                  exact hK _ _ (gr_refl _) rfl
                refine Steps.cons rfl ?_ ?_
                · intro f wz hB h K Q hK
                  have h11 : (MP.is (.slice (some ⟨ga, o, none⟩) n c)).p (f 11) wz := h 11 (by kernel_rfl)
                  have e11 : f 11 = (.slice (some ⟨ga, o, none⟩) n c) := h11
                  have h12 : (MP.is (.int .i64 (j : Int))).p (f 12) wz := h 12 (by kernel_rfl)
                  have e12 : f 12 = (.int .i64 (j : Int)) := h12
                  simp only [e11, e12] at hK ⊢
                  clear e11 e12
                  try simp only [List.getElem_toArray, List.getElem_cons_succ, List.getElem_cons_zero]
                  go_simp
                  exact hK _ _ (gr_refl _) rfl
                refine Steps.cons rfl ?_ ?_
                · intro f wz hB h K Q hK
                  have h13 : (MP.is (.pointer (some ⟨ga, o + j * 5, none⟩))).p (f 13) wz := h 13 (by kernel_rfl)
                  have e13 : f 13 = (.pointer (some ⟨ga, o + j * 5, none⟩)) := h13
                  simp only [e13] at hK ⊢
                  clear e13
                  try simp only [List.getElem_toArray, List.getElem_cons_succ, List.getElem_cons_zero]
                  go_simp
                  exact hK _ _ (gr_refl _) rfl
                refine Steps.cons rfl ?_ ?_
                · intro f wz hB h K Q hK
                  have h14 : (MP.is (.pointer (some ⟨ga, o + j * 5 + 1, none⟩))).p (f 14) wz := h 14 (by kernel_rfl)
                  have e14 : f 14 = (.pointer (some ⟨ga, o + j * 5 + 1, none⟩)) := h14
                  simp only [e14] at hK ⊢
                  clear e14
                  try simp only [List.getElem_toArray, List.getElem_cons_succ, List.getElem_cons_zero]
                  have y0 := keep_of_below (bel_drew hB) Y1'.out
                  have y1 := keep_of_below (bel_drew hB) Q0'.out
                  have y2 := keep_of_below (bel_drew hB) Q1'.out
                  go_simp
                  exact hK _ _ (gr_refl _) rfl
                refine Steps.cons rfl ?_ ?_
                · intro f wz hB h K Q hK
                  have h0 : (MP.is (.slice (some ⟨ga, o, none⟩) n c)).p (f 0) wz := h 0 (by kernel_rfl)
                  have e0 : f 0 = (.slice (some ⟨ga, o, none⟩) n c) := h0
                  have h5 : (MP.is (.string ⟨x.2.1.toArray⟩)).p (f 5) wz := h 5 (by kernel_rfl)
                  have e5 : f 5 = (.string ⟨x.2.1.toArray⟩) := h5
                  have h10 : (MP.is (.string ⟨g.tb.toArray⟩)).p (f 10) wz := h 10 (by kernel_rfl)
                  have e10 : f 10 = (.string ⟨g.tb.toArray⟩) := h10
                  have h15 : (MP.is (.int .u8 g.pv)).p (f 15) wz := h 15 (by kernel_rfl)
                  have e15 : f 15 = (.int .u8 g.pv) := h15
                  simp only [e0, e5, e10, e15] at hK ⊢
                  clear e0 e5 e10 e15
                  try simp only [List.getElem_toArray, List.getElem_cons_succ, List.getElem_cons_zero]
                  go_simp
                  refine (refHolding_any (some ⟨ga, o, none⟩) n c l x.2.1 g.tb g.pv wz (HERp.out.below (bel_drew hB)) hn).mono ?_
                  rintro e w5 ⟨rfl, heo5, hb5⟩
                  exact hK _ _ hb5 ⟨_, rfl, fun i x hx => heo5.cellB hx⟩
                refine Steps.cons rfl ?_ ?_
                · intro f wz hB h K Q hK
                  try simp only [List.getElem_toArray, List.getElem_cons_succ, List.getElem_cons_zero]
                  go_simp
                  exact hK _ _ (gr_refl _) rfl
                refine Steps.cons rfl ?_ ?_
                · intro f wz hB h K Q hK
                  have h16 : (MP.hb n (holdB l x.2.1 g.tb g.pv)).p (f 16) wz := h 16 (by kernel_rfl)
                  obtain ⟨b16, e16, q16⟩ := h16
                  have h17 : (MP.is (.int .i64 (j : Int))).p (f 17) wz := h 17 (by kernel_rfl)
                  have e17 : f 17 = (.int .i64 (j : Int)) := h17
                  simp only [e16, e17] at hK ⊢
                  clear e16 e17
                  try simp only [List.getElem_toArray, List.getElem_cons_succ, List.getElem_cons_zero]
                  go_simp
                  exact hK _ _ (gr_refl _) ⟨_, rfl, q16 _ _ HRJ.out⟩
                refine Steps.cons rfl ?_ ?_
                · intro f wz hB h K Q hK
                  have h18 : (MP.pb j r).p (f 18) wz := h 18 (by kernel_rfl)
                  obtain ⟨b18, e18, q18⟩ := h18
                  simp only [e18] at hK ⊢
                  clear e18
                  try simp only [List.getElem_toArray, List.getElem_cons_succ, List.getElem_cons_zero]
                  have y0 := keep_of_below (bel_drew hB) Y1'.out
                  have y1 := keep_of_below (bel_drew hB) Q0'.out
                  have y2 := keep_of_below (bel_drew hB) Q1'.out
                  go_simp
                  exact hK _ _ (gr_refl _) rfl
                refine Steps.cons rfl ?_ ?_
                · intro f wz hB h K Q hK
                  have h19 : (MP.is (.bool r)).p (f 19) wz := h 19 (by kernel_rfl)
                  have e19 : f 19 = (.bool r) := h19
                  simp only [e19] at hK ⊢
                  clear e19
                  try simp only [List.getElem_toArray, List.getElem_cons_succ, List.getElem_cons_zero]
                  go_simp
                  exact hK _ _ (gr_refl _) rfl
                exact Steps.nil
              intro f w5 hB5 hR
              have e0 : f 0 = (.slice (some ⟨ga, o, none⟩) n c) := hR 0 (by decide)
              have e1 : f 1 = (.slice (some ⟨gt, ot, none⟩) m d) := hR 1 (by decide)
              have e2 : f 2 = (.int .i64 (k : Int)) := hR 2 (by decide)
              have e3 : f 3 = (.pointer (some ⟨gt, ot + k * 3, none⟩)) := hR 3 (by decide)
              have e4 : f 4 = (.pointer (some ⟨gt, ot + k * 3 + 1, none⟩)) := hR 4 (by decide)
              have e5 : f 5 = (.string ⟨x.2.1.toArray⟩) := hR 5 (by decide)
              have e6 : f 6 = (.slice (some ⟨ga, o, none⟩) n c) := hR 6 (by decide)
              have e7 : f 7 = (.int .i64 (j : Int)) := hR 7 (by decide)
              have e8 : f 8 = (.pointer (some ⟨ga, o + j * 5, none⟩)) := hR 8 (by decide)
              have e9 : f 9 = (.pointer (some ⟨ga, o + j * 5, none⟩)) := hR 9 (by decide)
              have e10 : f 10 = (.string ⟨g.tb.toArray⟩) := hR 10 (by decide)
              have e11 : f 11 = (.slice (some ⟨ga, o, none⟩) n c) := hR 11 (by decide)
              have e12 : f 12 = (.int .i64 (j : Int)) := hR 12 (by decide)
              have e13 : f 13 = (.pointer (some ⟨ga, o + j * 5, none⟩)) := hR 13 (by decide)
              have e14 : f 14 = (.pointer (some ⟨ga, o + j * 5 + 1, none⟩)) := hR 14 (by decide)
              have e15 : f 15 = (.int .u8 g.pv) := hR 15 (by decide)
              obtain ⟨b165, e16, q165⟩ := (show (MP.hb n (holdB l x.2.1 g.tb g.pv)).p (f 16) w5 from hR 16 (by decide))
              have e17 : f 17 = (.int .i64 (j : Int)) := hR 17 (by decide)
              obtain ⟨b185, e18, q185⟩ := (show (MP.pb j r).p (f 18) w5 from hR 18 (by decide))
              have e19 : f 19 = (.bool r) := hR 19 (by decide)
              have e20 : f 20 = (.bool (!r)) := hR 20 (by decide)
              simp only [e0, e1, e2, e3, e4, e5, e6, e7, e8, e9, e10, e11, e12, e13, e14, e15, e16, e17, e18, e19, e20]
              clear e0 e1 e2 e3 e4 e5 e6 e7 e8 e9 e10 e11 e12 e13 e14 e15 e16 e17 e18 e19 e20 hR
              have HB5 := Lib.hid (HBY.out.trans ((bel_drew hB5).mono HBY.out.size))
              clear hB5
              have HEX : Hid (r = true ↔ OkG l t g) := Lib.hid (by
                have e9 : x.1 = g.tb := beq_iff_eq.1 H0.out.symm
                rw [HRI.out]
                constructor
                · rintro ⟨_, _, h3⟩
                  exact ⟨k, x, HXT.out, e9, HBF.out, h3⟩
                · rintro ⟨k2, x2, h1, h2, h3, h4⟩
                  have ek : k2 = k := by
                    rcases Nat.lt_trichotomy k2 k with hh | hh | hh
                    · exact absurd h2 (HBF.out k2 x2 hh h1)
                    · exact hh
                    · exact absurd e9 (h3 k x hh HXT.out)
                  subst ek
                  rw [HXT.out] at h1
                  injection h1 with h1
                  subst h1
                  exact ⟨rfl, rfl, h4⟩)
              have HBW := Lib.hid (HB.out.trans (HB5.out.mono HB.out.size))
              cases r
              · go_wp2_with fail
                go_ret
                exact ⟨false, rfl, ⟨fun h => (by cases h), fun h => by have := HEX.out.2 (h g HXM.out); cases this⟩, HBW.out⟩
              · go_wp2_with fail
                go_roundw
                case rel => exact ⟨k + 1, by omega, by go_num, HB5.out, .inr ⟨rfl, Lib.hid (HEX.out.1 rfl)⟩⟩
                case measure => simp [intOf]; omega
          · obtain rfl : k = m := by omega
            have t3 : decide ((k : Int) < (k : Int)) = false := decide_eq_false (by omega)
            have HBW := Lib.hid (HB.out.trans (hbz.mono HB.out.size))
            have HNO : Hid (¬ OkG l t g) := Lib.hid (by
              rintro ⟨k2, x2, h1, h2, _⟩
              exact HBF.out k2 x2 (by rw [← HTL.out]; exact (List.getElem?_eq_some_iff.1 h1).1) h1 h2)
            clear hbz q0 q1 q2 q3 q4
            go_wp2_with fail
            go_ret
            exact ⟨false, rfl, ⟨fun h => (by cases h), fun h => absurd (h g HXM.out) HNO.out⟩, HBW.out⟩
        · have HBW := Lib.hid (HB.out.trans (hbz.mono HB.out.size))
          have HOK2 : Hid (∀ g ∈ l.take (j + 1), OkG l t g) := Lib.hid (fun y hy => by
            rw [take_snoc HX.out] at hy
            rcases List.mem_append.1 hy with hy | hy
            · exact HOK.out y hy
            · rw [List.mem_singleton.1 hy]; exact HYES.out)
          clear hbz q0 q1 q2 q3 q4
          by_cases hlk : k < m
          · have t3 : decide ((k : Int) < (m : Int)) = true := decide_eq_true (by omega)
            have t4 : decide (k < m) = true := decide_eq_true hlk
            go_wp2_with fail
            go_roundw
            case rel => exact ⟨j + 1, by omega, by go_num, HBW.out, HOK2⟩
            case measure => simp [intOf]; omega
          · have t3 : decide ((k : Int) < (m : Int)) = false := decide_eq_false (by omega)
            have t4 : decide (k < m) = false := decide_eq_false hlk
            go_wp2_with fail
            go_roundw
            case rel => exact ⟨j + 1, by omega, by go_num, HBW.out, HOK2⟩
            case measure => simp [intOf]; omega
    · obtain rfl : j = n := by omega
      have t1 : decide ((j : Int) < (j : Int)) = false := decide_eq_false (by omega)
      go_wp2_with fail
      go_ret
      exact ⟨true, rfl, ⟨fun _ g hg => HOK.out g (by rw [List.take_of_length_le (by rw [HL.out]; omega)]; exact hg), fun _ => rfl⟩, HB.out⟩

end Go.Proofs.Ytfgkadkmgciamaa
