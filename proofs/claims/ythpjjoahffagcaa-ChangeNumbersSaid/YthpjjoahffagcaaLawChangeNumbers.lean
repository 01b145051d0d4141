/-
  The walk of ChangeNumbers.
-/
import Derived.Test.YthpjjoahffagcaaDfH
import Derived.Test.YthpjjoahffagcaaMpb
namespace Go.Proofs.Ythpjjoahffagcaa
open Go.RowKit

theorem diff_num : ∃ a b : List UInt8, diffL (atL []) (atL [3, 12]) = [(3, a), (12, b)] ∧ a.length = 1 ∧ b.length = 1 := by
  have h : unlTo (atL []) (atL [3, 12]) 4080 = [3, 12] := by
    rw [unl_at [] [3, 12] (by simp) (by simp)]
    decide +kernel
  rw [diffL_of h]
  refine ⟨((atL [3, 12]).drop 3).take 1, ((atL [3, 12]).drop 12).take 1, by simp [dstep, dput], ?_, ?_⟩
  all_goals
    rw [List.length_take, List.length_drop, atL_len]
    rfl
theorem diff_same : diffL (atL [3]) (atL [3]) = [] := by
  have h : unlTo (atL [3]) (atL [3]) 4080 = [] := by
    rw [unl_at [3] [3] (by simp) (by simp)]
    decide +kernel
  rw [diffL_of h]
  simp [dput]
def zL (n : Nat) : List UInt8 := List.replicate n 0
theorem zL_len (n : Nat) : (zL n).length = n := List.length_replicate
def ps7 : List Pc := [(4080, [1]), (-1, [1]), (5, []), (9223372036854775807, [1]), (-9223372036854775808, [1]), (1, zL 4080), (0, zL 4081)]
theorem ps7_bad : ∀ i, i < 7 → ¬ pcOk (ps7.getD i (0, [])) := by
  intro i hi
  obtain rfl | rfl | rfl | rfl | rfl | rfl | rfl : i = 0 ∨ i = 1 ∨ i = 2 ∨ i = 3 ∨ i = 4 ∨ i = 5 ∨ i = 6 := by omega
  all_goals
    intro h
    unfold pcOk ps7 at h
    simp [zL_len] at h
theorem apply_bad (l : List UInt8) (p q : Pc) (h : ¬ pcOk q) : applyL l [p, q] = none := by
  unfold applyL
  split
  · unfold applyL
    rw [if_neg h]
  · rfl
theorem ps7_hi : ∀ i, i < 7 → (ps7.getD i (0, [])).1 ≤ 9223372036854775807 := by
  intro i hi
  obtain rfl | rfl | rfl | rfl | rfl | rfl | rfl : i = 0 ∨ i = 1 ∨ i = 2 ∨ i = 3 ∨ i = 4 ∨ i = 5 ∨ i = 6 := by omega
  all_goals
    unfold ps7
    simp
def MP.i1 : MP := ⟨fun v w => ∃ A c, v = .slice A 1 c ∧ IR w A 1 [1], fun _ _ _ hb ⟨A, c, e, h⟩ => ⟨A, c, e, h.below hb⟩⟩
def MP.tup (n : Nat) (l : List UInt8) : MP := ⟨fun v w => ∃ u, v = .tuple #[u, .int .i64 0] ∧ VN w u n l, fun _ _ _ hb ⟨u, e, h⟩ => ⟨u, e, h.below hb⟩⟩
theorem apply_num : ∃ m : List UInt8, applyL (atL [1]) [(0, zL 4080), (0, [9])] = some m ∧ m.length = 4080 ∧ m.getD 0 0 = 9 ∧ m.getD 1 0 = 0 := by
  have hz : (zL 4080).length = 4080 := zL_len _
  refine ⟨splice (splice (atL [1]) 0 (zL 4080)) 0 [9], ?_, ?_, ?_, ?_⟩
  · unfold applyL
    rw [if_pos (by unfold pcOk; simp only [hz]; decide)]
    unfold applyL
    rw [if_pos (by unfold pcOk; decide)]
    rfl
  · rw [length_splice _ _ _ (by rw [length_splice _ _ _ (by rw [atL_len, hz]; decide), atL_len]; decide), length_splice _ _ _ (by rw [atL_len, hz]; decide), atL_len]
  · rw [List.getD, splice_get _ _ _ _ (by rw [length_splice _ _ _ (by rw [atL_len, hz]; decide), atL_len]; decide), if_neg (by decide), if_pos (by decide)]
    rfl
  · rw [List.getD, splice_get _ _ _ _ (by rw [length_splice _ _ _ (by rw [atL_len, hz]; decide), atL_len]; decide), if_neg (by decide), if_neg (by decide), splice_get _ _ _ _ (by rw [atL_len, hz]; decide), if_neg (by decide), if_pos (by rw [hz]; decide), show (zL 4080)[1 - 0]? = some 0 from List.getElem?_replicate_of_lt (by decide)]
    rfl

set_option maxRecDepth 100000 in
set_option maxHeartbeats 4000000 in
theorem ChangeNumbers_any (w : World) : Calls Try.prog 3 #[] w fun e w' => e = .returned (.bool true) ∧ Below w.heap.size w w' := by
  have mk79 := run_mk_bytes 4079 (by omega) 4079 rfl
  have mk80 := run_mk_bytes 4080 (by omega) 4080 rfl
  have mk81 := run_mk_bytes 4081 (by omega) 4081 rfl
  go_enter Try.func3, Try.ntmps3
  go_wp2_with fail
  refine (at_any none 0 0 [] w (IR.none_ _ _) (by omega) (by simp)).mono ?_
  rintro e w1 ⟨rfl, hB1, hb1⟩
  go_wp2_with fail
  have hi : IR (w1.alloc (.cells #[.int .i64 3, .int .i64 12] 3)) (some ⟨w1.heap.size, 0, none⟩) 2 [3, 12] := IR.litAt w1 _ _ _ _ _ rfl rfl rfl
  refine (at_any _ 2 2 [3, 12] _ hi (by omega) (by simp)).mono ?_
  rintro e w2 ⟨rfl, hB2, hb2⟩
  have hb2' : Below w1.heap.size w1 w2 := gr_trans (gr_alloc (gr_refl w1) _) hb2
  have ha1 := (hB1.kept hb2').readsAll
  have ha2 := hB2.readsAll
  rw [atL_len] at ha1 ha2
  have hbw := gr_trans hb1 hb2'
  clear hi hB1 hB2 hb1 hb2 hb2'
  generalize (w1.alloc (.cells #[.int .i64 3, .int .i64 12] 3)).heap.size = g2 at *
  go_wp2_with fail
  refine (Diff_any _ _ _ _ _ _ _ ha1 ha2 (by omega)).mono ?_
  rintro e w3 ⟨v3, rfl, ho3, hb3⟩
  obtain ⟨la, lb, hd3, hla, hlb⟩ := diff_num
  rw [hd3] at ho3
  have HLA := Lib.hid hla
  have HLB := Lib.hid hlb
  have hbw3 := gr_trans hbw hb3
  clear ha1 ha2 hd3 hla hlb hbw hb3
  obtain ⟨A3, c3, rfl, hp3, _, _⟩ := ho3.form (n := 2) rfl
  clear ho3
  go_wp2_with fail
  have hi : IR (w3.alloc (.cells #[.int .i64 3] 3)) (some ⟨w3.heap.size, 0, none⟩) 1 [3] := IR.litAt w3 _ _ _ _ _ rfl rfl rfl
  refine (at_any _ 1 1 [3] _ hi (by omega) (by simp)).mono ?_
  rintro e w4 ⟨rfl, hB4, hb4⟩
  have hb4' : Below w3.heap.size w3 w4 := gr_trans (gr_alloc (gr_refl w3) _) hb4
  have hp4 := hp3.below hb4'
  have hbw4 := gr_trans hbw3 hb4'
  clear hi hb4 hp3 hbw3 hb4'
  generalize (w3.alloc (.cells #[.int .i64 3] 3)).heap.size = g4 at *
  go_wp2_with fail
  have hi : IR (w4.alloc (.cells #[.int .i64 3] 3)) (some ⟨w4.heap.size, 0, none⟩) 1 [3] := IR.litAt w4 _ _ _ _ _ rfl rfl rfl
  refine (at_any _ 1 1 [3] _ hi (by omega) (by simp)).mono ?_
  rintro e w5 ⟨rfl, hB5, hb5⟩
  have hb5' : Below w4.heap.size w4 w5 := gr_trans (gr_alloc (gr_refl w4) _) hb5
  have hp5 := hp4.below hb5'
  have hbw5 := gr_trans hbw4 hb5'
  have ha1 := (hB4.kept hb5').readsAll
  have ha2 := hB5.readsAll
  rw [atL_len] at ha1 ha2
  clear hi hb5 hp4 hbw4 hb5' hB4 hB5
  generalize (w4.alloc (.cells #[.int .i64 3] 3)).heap.size = g5 at *
  go_wp2_with fail
  refine (Diff_any _ _ _ _ _ _ _ ha1 ha2 (by omega)).mono ?_
  rintro e w6 ⟨v6, rfl, ho6, hb6⟩
  rw [diff_same] at ho6
  have hbw6 := gr_trans hbw5 hb6
  have hp6 := hp5.below hb6
  obtain ⟨A6, c6, rfl, _, _, _⟩ := ho6.form (n := 0) rfl
  clear ha1 ha2 hbw5 hb6 hp5 ho6
  go_wp2_with fail
  refine' wp_region_mono (by kernel_rfl) (by kernel_rfl) (by kernel_rfl) (by kernel_rfl) (by kernel_rfl) (by kernel_rfl)
    [MP.vb 4080 (atL []), MP.vb 4079 (List.replicate 4079 0), MP.is (.tuple #[.slice none 0 0, .int .i64 2]), MP.is (.tuple #[.slice none 0 0, .int .i64 2]), MP.is (.slice none 0 0), MP.is (.int .i64 2), MP.is (.slice none 0 0), MP.is (.int .i64 2)] ?hAA ?hst ?hend
  case hAA =>
    intro f
    simp only [putA, dstOf, List.size_toArray, List.length_cons, List.length_nil, Nat.zero_add, Nat.reduceAdd, List.getElem?_toArray, List.getElem?_cons_zero, List.getElem?_cons_succ, Option.bind_some, Act.put, List.setIfInBounds_toArray, List.set_cons_zero, List.set_cons_succ]
    exact rfl
  case hst =>
    change Steps _ _ _ _ _ [0, 1, 2, 3, 4, 5, 6, 7]
    refine Steps.cons rfl ?_ ?_
    · intro f w hB h K Q hK
      try simp only [List.getElem_toArray, List.getElem_cons_zero]
      go_simp
      refine (at_any none 0 0 [] _ (IR.none_ _ _) (by omega) (by simp)).mono ?_
      rintro e w1 ⟨rfl, hB1, hb1⟩
      exact hK _ _ hb1 (hB1.vn (atL_len _) (by simp [maxLen]))
    refine Steps.cons rfl ?_ ?_
    · intro f w hB h K Q hK
      try simp only [List.getElem_toArray, List.getElem_cons_succ, List.getElem_cons_zero]
      go_simp
      exact hK _ _ (gr_alloc (gr_refl _) _) (VN.zero _ 4079 (by simp [maxLen]))
    refine Steps.cons rfl ?_ ?_
    · intro f w hB h K Q hK
      have h0 : (MP.vb 4080 (atL [])).p (f 0) w := h 0 (by kernel_rfl)
      obtain ⟨A0, c0, e0, r0, n0, m0⟩ := h0
      have h1 : (MP.vb 4079 (List.replicate 4079 0)).p (f 1) w := h 1 (by kernel_rfl)
      obtain ⟨A1, c1, e1, r1, n1, m1⟩ := h1
      simp only [e0, e1] at hK ⊢
      clear e0 e1
      try simp only [List.getElem_toArray, List.getElem_cons_succ, List.getElem_cons_zero]
      go_simp
      refine (Diff_bad _ _ 4080 4079 _ _ _ (.inr (by omega)) (by omega) (by omega)).mono ?_
      rintro e w1 ⟨rfl, hb1⟩
      exact hK _ _ hb1 rfl
    refine Steps.cons rfl ?_ ?_
    · intro f w hB h K Q hK
      have h2 : (MP.is (.tuple #[.slice none 0 0, .int .i64 2])).p (f 2) w := h 2 (by kernel_rfl)
      have e2 : f 2 = (.tuple #[.slice none 0 0, .int .i64 2]) := h2
      simp only [e2] at hK ⊢
      clear e2
      try simp only [List.getElem_toArray, List.getElem_cons_succ, List.getElem_cons_zero]
      go_simp
      exact hK _ _ (gr_refl _) rfl
    refine Steps.cons rfl ?_ ?_
    · intro f w hB h K Q hK
      have h3 : (MP.is (.tuple #[.slice none 0 0, .int .i64 2])).p (f 3) w := h 3 (by kernel_rfl)
      have e3 : f 3 = (.tuple #[.slice none 0 0, .int .i64 2]) := h3
      simp only [e3] at hK ⊢
      clear e3
      try simp only [List.getElem_toArray, List.getElem_cons_succ, List.getElem_cons_zero]
      go_simp
      exact hK _ _ (gr_refl _) rfl
    refine Steps.cons rfl ?_ ?_
    · intro f w hB h K Q hK
      have h3 : (MP.is (.tuple #[.slice none 0 0, .int .i64 2])).p (f 3) w := h 3 (by kernel_rfl)
      have e3 : f 3 = (.tuple #[.slice none 0 0, .int .i64 2]) := h3
      simp only [e3] at hK ⊢
      clear e3
      try simp only [List.getElem_toArray, List.getElem_cons_succ, List.getElem_cons_zero]
      go_simp
      exact hK _ _ (gr_refl _) rfl
    refine Steps.cons rfl ?_ ?_
    · intro f w hB h K Q hK
      have h4 : (MP.is (.slice none 0 0)).p (f 4) w := h 4 (by kernel_rfl)
      have e4 : f 4 = (.slice none 0 0) := h4
      simp only [e4] at hK ⊢
      clear e4
      try simp only [List.getElem_toArray, List.getElem_cons_succ, List.getElem_cons_zero]
      go_simp
      exact hK _ _ (gr_refl _) rfl
    refine Steps.cons rfl ?_ ?_
    · intro f w hB h K Q hK
      have h5 : (MP.is (.int .i64 2)).p (f 5) w := h 5 (by kernel_rfl)
      have e5 : f 5 = (.int .i64 2) := h5
      simp only [e5] at hK ⊢
      clear e5
      try simp only [List.getElem_toArray, List.getElem_cons_succ, List.getElem_cons_zero]
      go_simp
      exact hK _ _ (gr_refl _) rfl
    exact Steps.nil
  case hend =>
    intro f w2 hB2 hR
    obtain ⟨A0a, c0a, e0, r0a, n0a, m0a⟩ := (show (MP.vb 4080 (atL [])).p (f 0) w2 from hR 0 (by decide))
    obtain ⟨A1a, c1a, e1, r1a, n1a, m1a⟩ := (show (MP.vb 4079 (List.replicate 4079 0)).p (f 1) w2 from hR 1 (by decide))
    have e2 : f 2 = (.tuple #[.slice none 0 0, .int .i64 2]) := hR 2 (by decide)
    have e3 : f 3 = (.tuple #[.slice none 0 0, .int .i64 2]) := hR 3 (by decide)
    have e4 : f 4 = (.slice none 0 0) := hR 4 (by decide)
    have e5 : f 5 = (.int .i64 2) := hR 5 (by decide)
    have e6 : f 6 = (.slice none 0 0) := hR 6 (by decide)
    have e7 : f 7 = (.int .i64 2) := hR 7 (by decide)
    simp only [e0, e1, e2, e3, e4, e5, e6, e7]
    clear e0 e1 e2 e3 e4 e5 e6 e7 hR
    have hp7 := hp6.below (bel_drew hB2)
    have hbw7 : Below w.heap.size w w2 := gr_trans hbw6 (bel_drew hB2)
    clear r0a n0a m0a r1a n1a m1a hB2 hp6 hbw6
    go_wp2_with fail
    refine (Diff_bad none none 0 0 0 0 _ (.inr (by omega)) (by omega) (by omega)).mono ?_
    rintro e w7 ⟨rfl, hb7⟩
    have hp8 := hp7.below hb7
    have hbw8 := gr_trans hbw7 hb7
    obtain ⟨gp, op, Bp, cp, rfl, q1, q2, q3, q4, q5⟩ := hp8.at_ (i := 1) (by omega)
    have q1' : w7.cell? ⟨gp, op + 2, none⟩ = some (.int .i64 12) := q1
    have HS1 := Lib.hid (Size_any _ 2 c3 _ _ hp8 (by omega))
    have HZ1 : Hid (sizeL [(3, la), (12, lb)] = 10) := Lib.hid (by simp [sizeL, lenI, HLA.out, HLB.out, wrap64])
    have HZ0 : Hid (sizeL [] = 0) := Lib.hid (by simp [sizeL, lenI, wrap64])
    clear q1 q2 q3 q4 q5 hp7 hp8 hbw7 hb7
    go_wp2_with fail
    refine HS1.out.mono ?_
    rintro e w8 ⟨rfl, hb8⟩
    rw [HZ1.out]
    have hbw9 := gr_trans hbw8 hb8
    have HS0 := Lib.hid (Size_any none 0 0 [] w8 (PR.none_ _ _) (by omega))
    clear HS1 HZ1 q1' hbw8 hb8
    go_wp2_with fail
    refine HS0.out.mono ?_
    rintro e w9 ⟨rfl, hb9⟩
    rw [HZ0.out]
    have hbwa := gr_trans hbw9 hb9
    clear HS0 HZ0 hbw9 hb9
    go_wp2_with fail
    refine' wp_region_mono (by kernel_rfl) (by kernel_rfl) (by kernel_rfl) (by kernel_rfl) (by kernel_rfl) (by kernel_rfl)
      [MP.vb 1 [1], MP.pc 4080 1 [1], MP.vb 1 [1], MP.pc (-1) 1 [1], MP.is (.agg #[.int .i64 5, .slice none 0 0]), MP.vb 1 [1], MP.pc 9223372036854775807 1 [1], MP.vb 1 [1], MP.pc (-9223372036854775808) 1 [1], MP.vb 4080 (zL 4080), MP.pc 1 4080 (zL 4080), MP.vb 4081 (zL 4081), MP.pc 0 4081 (zL 4081), MP.ps 7 ps7, MP.is (.int .i64 7), MP.is (.int .i64 0)] ?hAA ?hst ?hend
    case hAA =>
      intro f
      simp only [putA, dstOf, List.size_toArray, List.length_cons, List.length_nil, Nat.zero_add, Nat.reduceAdd, List.getElem?_toArray, List.getElem?_cons_zero, List.getElem?_cons_succ, Option.bind_some, Act.put, List.setIfInBounds_toArray, List.set_cons_zero, List.set_cons_succ]
      exact rfl
    case hst =>
      change Steps _ _ _ _ _ [0, 1, 2, 3, 4, 5, 6, 7, 8, 9, 10, 11, 12, 13, 14, 15]
      refine Steps.cons rfl ?_ ?_
      · intro f w hB h K Q hK
        try simp only [List.getElem_toArray, List.getElem_cons_zero]
        go_simp
        exact hK _ _ (gr_alloc (gr_refl _) _) (VN.lit _ [1] _ 1 rfl (by simp [maxLen]) rfl)
      refine Steps.cons rfl ?_ ?_
      · intro f w hB h K Q hK
        have h0 : (MP.vb 1 [1]).p (f 0) w := h 0 (by kernel_rfl)
        obtain ⟨A0, c0, e0, r0, n0, m0⟩ := h0
        simp only [e0] at hK ⊢
        clear e0
        try simp only [List.getElem_toArray, List.getElem_cons_succ, List.getElem_cons_zero]
        go_simp
        exact hK _ _ (gr_refl _) ⟨_, rfl, _, _, rfl, r0, n0, m0⟩
      refine Steps.cons rfl ?_ ?_
      · intro f w hB h K Q hK
        try simp only [List.getElem_toArray, List.getElem_cons_succ, List.getElem_cons_zero]
        go_simp
        exact hK _ _ (gr_alloc (gr_refl _) _) (VN.lit _ [1] _ 1 rfl (by simp [maxLen]) rfl)
      refine Steps.cons rfl ?_ ?_
      · intro f w hB h K Q hK
        have h2 : (MP.vb 1 [1]).p (f 2) w := h 2 (by kernel_rfl)
        obtain ⟨A2, c2, e2, r2, n2, m2⟩ := h2
        simp only [e2] at hK ⊢
        clear e2
        try simp only [List.getElem_toArray, List.getElem_cons_succ, List.getElem_cons_zero]
        go_simp
        exact hK _ _ (gr_refl _) ⟨_, rfl, _, _, rfl, r2, n2, m2⟩
      refine Steps.cons rfl ?_ ?_
      · intro f w hB h K Q hK
        try simp only [List.getElem_toArray, List.getElem_cons_succ, List.getElem_cons_zero]
        go_simp
        exact hK _ _ (gr_refl _) rfl
      refine Steps.cons rfl ?_ ?_
      · intro f w hB h K Q hK
        try simp only [List.getElem_toArray, List.getElem_cons_succ, List.getElem_cons_zero]
        go_simp
        exact hK _ _ (gr_alloc (gr_refl _) _) (VN.lit _ [1] _ 1 rfl (by simp [maxLen]) rfl)
      refine Steps.cons rfl ?_ ?_
      · intro f w hB h K Q hK
        have h5 : (MP.vb 1 [1]).p (f 5) w := h 5 (by kernel_rfl)
        obtain ⟨A5, c5, e5, r5, n5, m5⟩ := h5
        simp only [e5] at hK ⊢
        clear e5
        try simp only [List.getElem_toArray, List.getElem_cons_succ, List.getElem_cons_zero]
        go_simp
        exact hK _ _ (gr_refl _) ⟨_, rfl, _, _, rfl, r5, n5, m5⟩
      refine Steps.cons rfl ?_ ?_
      · intro f w hB h K Q hK
        try simp only [List.getElem_toArray, List.getElem_cons_succ, List.getElem_cons_zero]
        go_simp
        exact hK _ _ (gr_alloc (gr_refl _) _) (VN.lit _ [1] _ 1 rfl (by simp [maxLen]) rfl)
      refine Steps.cons rfl ?_ ?_
      · intro f w hB h K Q hK
        have h7 : (MP.vb 1 [1]).p (f 7) w := h 7 (by kernel_rfl)
        obtain ⟨A7, c7, e7, r7, n7, m7⟩ := h7
        simp only [e7] at hK ⊢
        clear e7
        try simp only [List.getElem_toArray, List.getElem_cons_succ, List.getElem_cons_zero]
        go_simp
        exact hK _ _ (gr_refl _) ⟨_, rfl, _, _, rfl, r7, n7, m7⟩
      refine Steps.cons rfl ?_ ?_
      · intro f w hB h K Q hK
        try simp only [List.getElem_toArray, List.getElem_cons_succ, List.getElem_cons_zero]
        go_simp
        exact hK _ _ (gr_alloc (gr_refl _) _) (VN.zero _ 4080 (by simp [maxLen]))
      refine Steps.cons rfl ?_ ?_
      · intro f w hB h K Q hK
        have h9 : (MP.vb 4080 (zL 4080)).p (f 9) w := h 9 (by kernel_rfl)
        obtain ⟨A9, c9, e9, r9, n9, m9⟩ := h9
        simp only [e9] at hK ⊢
        clear e9
        try simp only [List.getElem_toArray, List.getElem_cons_succ, List.getElem_cons_zero]
        go_simp
        exact hK _ _ (gr_refl _) ⟨_, rfl, _, _, rfl, r9, n9, m9⟩
      refine Steps.cons rfl ?_ ?_
      · intro f w hB h K Q hK
        try simp only [List.getElem_toArray, List.getElem_cons_succ, List.getElem_cons_zero]
        go_simp
        exact hK _ _ (gr_alloc (gr_refl _) _) (VN.zero _ 4081 (by simp [maxLen]))
      refine Steps.cons rfl ?_ ?_
      · intro f w hB h K Q hK
        have h11 : (MP.vb 4081 (zL 4081)).p (f 11) w := h 11 (by kernel_rfl)
        obtain ⟨A11, c11, e11, r11, n11, m11⟩ := h11
        simp only [e11] at hK ⊢
        clear e11
        try simp only [List.getElem_toArray, List.getElem_cons_succ, List.getElem_cons_zero]
        go_simp
        exact hK _ _ (gr_refl _) ⟨_, rfl, _, _, rfl, r11, n11, m11⟩
      refine Steps.cons rfl ?_ ?_
      · intro f w hB h K Q hK
        have h1 : (MP.pc 4080 1 [1]).p (f 1) w := h 1 (by kernel_rfl)
        obtain ⟨u1, e1, r1⟩ := h1
        have h3 : (MP.pc (-1) 1 [1]).p (f 3) w := h 3 (by kernel_rfl)
        obtain ⟨u3, e3, r3⟩ := h3
        have h4 : (MP.is (.agg #[.int .i64 5, .slice none 0 0])).p (f 4) w := h 4 (by kernel_rfl)
        have e4 : f 4 = (.agg #[.int .i64 5, .slice none 0 0]) := h4
        have h6 : (MP.pc 9223372036854775807 1 [1]).p (f 6) w := h 6 (by kernel_rfl)
        obtain ⟨u6, e6, r6⟩ := h6
        have h8 : (MP.pc (-9223372036854775808) 1 [1]).p (f 8) w := h 8 (by kernel_rfl)
        obtain ⟨u8, e8, r8⟩ := h8
        have h10 : (MP.pc 1 4080 (zL 4080)).p (f 10) w := h 10 (by kernel_rfl)
        obtain ⟨u10, e10, r10⟩ := h10
        have h12 : (MP.pc 0 4081 (zL 4081)).p (f 12) w := h 12 (by kernel_rfl)
        obtain ⟨u12, e12, r12⟩ := h12
        simp only [e1, e3, e4, e6, e8, e10, e12] at hK ⊢
        clear e1 e3 e4 e6 e8 e10 e12
        try simp only [List.getElem_toArray, List.getElem_cons_succ, List.getElem_cons_zero]
        go_simp
        refine hK _ _ (gr_alloc (gr_refl _) _) (PN.lit _ [(4080, u1), (-1, u3), (5, .slice none 0 0), (9223372036854775807, u6), (-9223372036854775808, u8), (1, u10), (0, u12)] ps7 _ 7 rfl rfl (by simp [maxLen]) rfl (fun i p q hp hq => ?_))
        obtain rfl | rfl | rfl | rfl | rfl | rfl | rfl | h9 : i = 0 ∨ i = 1 ∨ i = 2 ∨ i = 3 ∨ i = 4 ∨ i = 5 ∨ i = 6 ∨ 7 ≤ i := by omega
        · cases hp; cases hq; exact ⟨rfl, r1.vb⟩
        · cases hp; cases hq; exact ⟨rfl, r3.vb⟩
        · cases hp; cases hq; exact ⟨rfl, (VN.nil _).vb⟩
        · cases hp; cases hq; exact ⟨rfl, r6.vb⟩
        · cases hp; cases hq; exact ⟨rfl, r8.vb⟩
        · cases hp; cases hq; exact ⟨rfl, r10.vb⟩
        · cases hp; cases hq; exact ⟨rfl, r12.vb⟩
        · rw [List.getElem?_eq_none h9] at hp
          cases hp
      refine Steps.cons rfl ?_ ?_
      · intro f w hB h K Q hK
        have h13 : (MP.ps 7 ps7).p (f 13) w := h 13 (by kernel_rfl)
        obtain ⟨A13, c13, e13, r13, n13, m13⟩ := h13
        simp only [e13] at hK ⊢
        clear e13
        try simp only [List.getElem_toArray, List.getElem_cons_succ, List.getElem_cons_zero]
        go_simp
        exact hK _ _ (gr_refl _) rfl
      refine Steps.cons rfl ?_ ?_
      · intro f w hB h K Q hK
        try simp only [List.getElem_toArray, List.getElem_cons_succ, List.getElem_cons_zero]
        go_simp
        exact hK _ _ (gr_refl _) rfl
      exact Steps.nil
    case hend =>
      intro f w2 hB2 hR
      obtain ⟨A0b, c0b, e0, r0b, n0b, m0b⟩ := (show (MP.vb 1 [1]).p (f 0) w2 from hR 0 (by decide))
      obtain ⟨u1b, e1, r1b⟩ := (show (MP.pc 4080 1 [1]).p (f 1) w2 from hR 1 (by decide))
      obtain ⟨A2b, c2b, e2, r2b, n2b, m2b⟩ := (show (MP.vb 1 [1]).p (f 2) w2 from hR 2 (by decide))
      obtain ⟨u3b, e3, r3b⟩ := (show (MP.pc (-1) 1 [1]).p (f 3) w2 from hR 3 (by decide))
      have e4 : f 4 = (.agg #[.int .i64 5, .slice none 0 0]) := hR 4 (by decide)
      obtain ⟨A5b, c5b, e5, r5b, n5b, m5b⟩ := (show (MP.vb 1 [1]).p (f 5) w2 from hR 5 (by decide))
      obtain ⟨u6b, e6, r6b⟩ := (show (MP.pc 9223372036854775807 1 [1]).p (f 6) w2 from hR 6 (by decide))
      obtain ⟨A7b, c7b, e7, r7b, n7b, m7b⟩ := (show (MP.vb 1 [1]).p (f 7) w2 from hR 7 (by decide))
      obtain ⟨u8b, e8, r8b⟩ := (show (MP.pc (-9223372036854775808) 1 [1]).p (f 8) w2 from hR 8 (by decide))
      obtain ⟨A9b, c9b, e9, r9b, n9b, m9b⟩ := (show (MP.vb 4080 (zL 4080)).p (f 9) w2 from hR 9 (by decide))
      obtain ⟨u10b, e10, r10b⟩ := (show (MP.pc 1 4080 (zL 4080)).p (f 10) w2 from hR 10 (by decide))
      obtain ⟨A11b, c11b, e11, r11b, n11b, m11b⟩ := (show (MP.vb 4081 (zL 4081)).p (f 11) w2 from hR 11 (by decide))
      obtain ⟨u12b, e12, r12b⟩ := (show (MP.pc 0 4081 (zL 4081)).p (f 12) w2 from hR 12 (by decide))
      obtain ⟨A13b, c13b, e13, r13b, n13b, m13b⟩ := (show (MP.ps 7 ps7).p (f 13) w2 from hR 13 (by decide))
      have e14 : f 14 = (.int .i64 7) := hR 14 (by decide)
      have e15 : f 15 = (.int .i64 0) := hR 15 (by decide)
      simp only [e0, e1, e2, e3, e4, e5, e6, e7, e8, e9, e10, e11, e12, e13, e14, e15]
      clear e0 e1 e2 e3 e4 e5 e6 e7 e8 e9 e10 e11 e12 e13 e14 e15 hR
      have hbwb : Below w.heap.size w w2 := gr_trans hbwa (bel_drew hB2)
      have hps := r13b
      clear r0b n0b m0b r1b r2b n2b m2b r3b r5b n5b m5b r6b r7b n7b m7b r8b r9b n9b m9b r10b r11b n11b m11b r12b r13b hB2 hbwa
      obtain ⟨gq, oq, _, _, rfl, _, _, _, _, _⟩ := hps.at_ (i := 0) (by omega)
      have HPS := Lib.hid hps
      clear hps
      go_wp2_with fail
      go_loopw [11, 12, 13, 96] (fun _ _ _ i wr => ∃ j : Nat, j ≤ 7 ∧ i = .int .i64 j ∧ Below w2.heap.size w2 wr) (fun _ _ _ i _ => 7 - (intOf i).toNat)
      case atStart => exact ⟨0, by omega, rfl, gr_refl _⟩
      case round =>
        obtain ⟨j, hj7, rfl, hbr⟩ := hrel
        by_cases hlt : j < 7
        · have t1 : decide ((j : Int) < 7) = true := by simp; omega
          have j0 : (0 : Int) ≤ (j : Int) := Int.natCast_nonneg _
          have j1 : (j : Int) < 7 := by omega
          obtain ⟨g', o', B, c, e', q1, q2, q3, q4, q5⟩ := (HPS.out.below hbr).at_ (i := j) hlt
          injection e' with e'
          injection e' with e1 e2
          subst e1 e2
          have HBAD := Lib.hid (apply_bad (atL []) (1, [1]) (ps7.getD j (0, [])) (ps7_bad j hlt))
          have HHI := Lib.hid (ps7_hi j hlt)
          generalize hp : ps7.getD j (0, []) = p at *
          obtain ⟨pa, pl⟩ := p
          obtain ⟨pn, hpn⟩ : ∃ pn, pl.length = pn := ⟨_, rfl⟩
          simp only [hpn] at q1 q2 q3 q4
          clear hp hpn
          have HV := Lib.hid (And.intro q3 (And.intro q4 q5))
          clear q3 q4 q5
          go_wp2_with fail
          have hc := heap_alloc_new wr (.cells #[.int .i64 pa, .slice B pn c] 29)
          have k1 : (wr.alloc (.cells #[.int .i64 pa, .slice B pn c] 29)).cell? ⟨wr.heap.size, 0, none⟩ = some (.int .i64 pa) := by rw [cell_of_row _ wr.heap.size 0 _ _ _ hc]; rfl
          have k2 : (wr.alloc (.cells #[.int .i64 pa, .slice B pn c] 29)).cell? ⟨wr.heap.size, 1, none⟩ = some (.slice B pn c) := by rw [cell_of_row _ wr.heap.size 1 _ _ _ hc]; rfl
          have hbr2 := gr_alloc hbr (.cells #[.int .i64 pa, .slice B pn c] 29)
          have HV2 := Lib.hid (HV.out.1.below (gr_alloc (gr_refl wr) (.cells #[.int .i64 pa, .slice B pn c] 29)))
          have K1 := Lib.hid k1
          have K2 := Lib.hid k2
          clear hc q1 q2 k1 k2 hbr
          generalize wr.alloc (.cells #[.int .i64 pa, .slice B pn c] 29) = wb at *
          generalize wr.heap.size = gb at *
          refine' wp_region_mono (by kernel_rfl) (by kernel_rfl) (by kernel_rfl) (by kernel_rfl) (by kernel_rfl) (by kernel_rfl)
            [MP.vb 4080 (atL []), MP.vb 1 [1], MP.pc 1 1 [1], MP.pc pa pn pl, MP.ps 2 [(1, [1]), (pa, pl)], MP.is (.tuple #[.slice none 0 0, .int .i64 2]), MP.is (.tuple #[.slice none 0 0, .int .i64 2]), MP.is (.slice none 0 0), MP.is (.int .i64 2), MP.is (.slice none 0 0), MP.is (.int .i64 2)] ?hAA ?hst ?hend
          case hAA =>
            intro f
            simp only [putA, dstOf, List.size_toArray, List.length_cons, List.length_nil, Nat.zero_add, Nat.reduceAdd, List.getElem?_toArray, List.getElem?_cons_zero, List.getElem?_cons_succ, Option.bind_some, Act.put, List.setIfInBounds_toArray, List.set_cons_zero, List.set_cons_succ]
            exact rfl
          case hst =>
            change Steps _ _ _ _ _ [0, 1, 2, 3, 4, 5, 6, 7, 8, 9, 10]
            refine Steps.cons rfl ?_ ?_
            · intro f w hB h K Q hK
              try simp only [List.getElem_toArray, List.getElem_cons_zero]
              go_simp
              refine (at_any none 0 0 [] _ (IR.none_ _ _) (by omega) (by simp)).mono ?_
              rintro e w1 ⟨rfl, hB1, hb1⟩
              exact hK _ _ hb1 (hB1.vn (atL_len _) (by simp [maxLen]))
            refine Steps.cons rfl ?_ ?_
            · intro f w hB h K Q hK
              try simp only [List.getElem_toArray, List.getElem_cons_succ, List.getElem_cons_zero]
              go_simp
              exact hK _ _ (gr_alloc (gr_refl _) _) (VN.lit _ [1] _ 1 rfl (by simp [maxLen]) rfl)
            refine Steps.cons rfl ?_ ?_
            · intro f w hB h K Q hK
              have h1 : (MP.vb 1 [1]).p (f 1) w := h 1 (by kernel_rfl)
              obtain ⟨A1, c1, e1, r1, n1, m1⟩ := h1
              simp only [e1] at hK ⊢
              clear e1
              try simp only [List.getElem_toArray, List.getElem_cons_succ, List.getElem_cons_zero]
              go_simp
              exact hK _ _ (gr_refl _) ⟨_, rfl, _, _, rfl, r1, n1, m1⟩
            refine Steps.cons rfl ?_ ?_
            · intro f w hB h K Q hK
              try simp only [List.getElem_toArray, List.getElem_cons_succ, List.getElem_cons_zero]
              have q1 := keep_of_below hB K1.out
              have q2 := keep_of_below hB K2.out
              go_simp
              exact hK _ _ (gr_refl _) ⟨_, rfl, _, _, rfl, HV2.out.drew.below hB, HV.out.2.1, HV.out.2.2⟩
            refine Steps.cons rfl ?_ ?_
            · intro f w hB h K Q hK
              have h2 : (MP.pc 1 1 [1]).p (f 2) w := h 2 (by kernel_rfl)
              obtain ⟨u2, e2, r2⟩ := h2
              have h3 : (MP.pc pa pn pl).p (f 3) w := h 3 (by kernel_rfl)
              obtain ⟨u3, e3, r3⟩ := h3
              simp only [e2, e3] at hK ⊢
              clear e2 e3
              try simp only [List.getElem_toArray, List.getElem_cons_succ, List.getElem_cons_zero]
              go_simp
              exact hK _ _ (gr_alloc (gr_refl _) _) (PN.lit2 _ r2 r3)
            refine Steps.cons rfl ?_ ?_
            · intro f w hB h K Q hK
              have h0 : (MP.vb 4080 (atL [])).p (f 0) w := h 0 (by kernel_rfl)
              obtain ⟨A0, c0, e0, r0, n0, m0⟩ := h0
              have h4 : (MP.ps 2 [(1, [1]), (pa, pl)]).p (f 4) w := h 4 (by kernel_rfl)
              obtain ⟨A4, c4, e4, r4, n4, m4⟩ := h4
              simp only [e0, e4] at hK ⊢
              clear e0 e4
              try simp only [List.getElem_toArray, List.getElem_cons_succ, List.getElem_cons_zero]
              go_simp
              refine (Apply_any _ _ _ 2 _ _ _ _ r0 r4 (by omega) (by intro q hq; simp at hq; rcases hq with rfl | rfl <;> first | exact HHI.out | simp)).mono ?_
              rintro e w1 ⟨hb1, hap⟩
              rw [HBAD.out] at hap
              subst hap
              exact hK _ _ hb1 rfl
            refine Steps.cons rfl ?_ ?_
            · intro f w hB h K Q hK
              have h5 : (MP.is (.tuple #[.slice none 0 0, .int .i64 2])).p (f 5) w := h 5 (by kernel_rfl)
              have e5 : f 5 = (.tuple #[.slice none 0 0, .int .i64 2]) := h5
              simp only [e5] at hK ⊢
              clear e5
              try simp only [List.getElem_toArray, List.getElem_cons_succ, List.getElem_cons_zero]
              go_simp
              exact hK _ _ (gr_refl _) rfl
            refine Steps.cons rfl ?_ ?_
            · intro f w hB h K Q hK
              have h6 : (MP.is (.tuple #[.slice none 0 0, .int .i64 2])).p (f 6) w := h 6 (by kernel_rfl)
              have e6 : f 6 = (.tuple #[.slice none 0 0, .int .i64 2]) := h6
              simp only [e6] at hK ⊢
              clear e6
              try simp only [List.getElem_toArray, List.getElem_cons_succ, List.getElem_cons_zero]
              go_simp
              exact hK _ _ (gr_refl _) rfl
            refine Steps.cons rfl ?_ ?_
            · intro f w hB h K Q hK
              have h6 : (MP.is (.tuple #[.slice none 0 0, .int .i64 2])).p (f 6) w := h 6 (by kernel_rfl)
              have e6 : f 6 = (.tuple #[.slice none 0 0, .int .i64 2]) := h6
              simp only [e6] at hK ⊢
              clear e6
              try simp only [List.getElem_toArray, List.getElem_cons_succ, List.getElem_cons_zero]
              go_simp
              exact hK _ _ (gr_refl _) rfl
            refine Steps.cons rfl ?_ ?_
            · intro f w hB h K Q hK
              have h7 : (MP.is (.slice none 0 0)).p (f 7) w := h 7 (by kernel_rfl)
              have e7 : f 7 = (.slice none 0 0) := h7
              simp only [e7] at hK ⊢
              clear e7
              try simp only [List.getElem_toArray, List.getElem_cons_succ, List.getElem_cons_zero]
              go_simp
              exact hK _ _ (gr_refl _) rfl
            refine Steps.cons rfl ?_ ?_
            · intro f w hB h K Q hK
              have h8 : (MP.is (.int .i64 2)).p (f 8) w := h 8 (by kernel_rfl)
              have e8 : f 8 = (.int .i64 2) := h8
              simp only [e8] at hK ⊢
              clear e8
              try simp only [List.getElem_toArray, List.getElem_cons_succ, List.getElem_cons_zero]
              go_simp
              exact hK _ _ (gr_refl _) rfl
            exact Steps.nil
          case hend =>
            intro f w2 hB2 hR
            obtain ⟨A0d, c0d, e0, r0d, n0d, m0d⟩ := (show (MP.vb 4080 (atL [])).p (f 0) w2 from hR 0 (by decide))
            obtain ⟨A1d, c1d, e1, r1d, n1d, m1d⟩ := (show (MP.vb 1 [1]).p (f 1) w2 from hR 1 (by decide))
            obtain ⟨u2d, e2, r2d⟩ := (show (MP.pc 1 1 [1]).p (f 2) w2 from hR 2 (by decide))
            obtain ⟨u3d, e3, r3d⟩ := (show (MP.pc pa pn pl).p (f 3) w2 from hR 3 (by decide))
            obtain ⟨A4d, c4d, e4, r4d, n4d, m4d⟩ := (show (MP.ps 2 [(1, [1]), (pa, pl)]).p (f 4) w2 from hR 4 (by decide))
            have e5 : f 5 = (.tuple #[.slice none 0 0, .int .i64 2]) := hR 5 (by decide)
            have e6 : f 6 = (.tuple #[.slice none 0 0, .int .i64 2]) := hR 6 (by decide)
            have e7 : f 7 = (.slice none 0 0) := hR 7 (by decide)
            have e8 : f 8 = (.int .i64 2) := hR 8 (by decide)
            have e9 : f 9 = (.slice none 0 0) := hR 9 (by decide)
            have e10 : f 10 = (.int .i64 2) := hR 10 (by decide)
            simp only [e0, e1, e2, e3, e4, e5, e6, e7, e8, e9, e10]
            clear e0 e1 e2 e3 e4 e5 e6 e7 e8 e9 e10 hR
            have hbr3 := gr_trans hbr2 (bel_drew hB2)
            clear r0d n0d m0d r1d n1d m1d r2d r3d r4d n4d m4d hB2 hbr2
            go_wp2_with fail
            go_roundw
            case rel => exact ⟨j + 1, by omega, by go_num, hbr3⟩
            case measure => simp [intOf]; omega
        · obtain rfl : j = 7 := by omega
          have t1 : decide ((7 : Int) < 7) = false := by simp
          have hbwc := gr_trans hbwb hbr
          clear HPS hbr hbwb
          go_wp2_with fail
          refine (Apply_bad _ 4081 4081 _ _ (by omega) (by omega)).mono ?_
          rintro e w' ⟨rfl, rfl⟩
          have hbwd := gr_alloc hbwc (.cells (zeroB 4081) 5)
          clear hbwc
          go_wp2_with fail
          generalize wr.alloc (.cells (zeroB 4081) 5) = we at *
          obtain ⟨mm, hap, hml, hm0, hm1⟩ := apply_num
          have HAP := Lib.hid hap
          clear hap
          refine' wp_region_mono (by kernel_rfl) (by kernel_rfl) (by kernel_rfl) (by kernel_rfl) (by kernel_rfl) (by kernel_rfl)
            [MP.i1, MP.vb 4080 (atL [1]), MP.vb 4080 (zL 4080), MP.pc 0 4080 (zL 4080), MP.vb 1 [9], MP.pc 0 1 [9], MP.ps 2 [(0, zL 4080), (0, [9])], MP.tup 4080 mm, MP.tup 4080 mm, MP.vb 4080 mm, MP.is (.int .i64 0), MP.vb 4080 mm, MP.is (.int .i64 0)] ?hAA ?hst ?hend
          case hAA =>
            intro f
            simp only [putA, dstOf, List.size_toArray, List.length_cons, List.length_nil, Nat.zero_add, Nat.reduceAdd, List.getElem?_toArray, List.getElem?_cons_zero, List.getElem?_cons_succ, Option.bind_some, Act.put, List.setIfInBounds_toArray, List.set_cons_zero, List.set_cons_succ]
            exact rfl
          case hst =>
            change Steps _ _ _ _ _ [0, 1, 2, 3, 4, 5, 6, 7, 8, 9, 10, 11, 12]
            refine Steps.cons rfl ?_ ?_
            · intro f w hB h K Q hK
              try simp only [List.getElem_toArray, List.getElem_cons_zero]
              go_simp
              exact hK _ _ (gr_alloc (gr_refl _) _) ⟨_, _, rfl, IR.litAt _ _ [1] _ _ _ rfl rfl rfl⟩
            refine Steps.cons rfl ?_ ?_
            · intro f w hB h K Q hK
              have h0 : (MP.i1).p (f 0) w := h 0 (by kernel_rfl)
              obtain ⟨A0, c0, e0, r0⟩ := h0
              simp only [e0] at hK ⊢
              clear e0
              try simp only [List.getElem_toArray, List.getElem_cons_succ, List.getElem_cons_zero]
              go_simp
              refine (at_any _ 1 _ [1] _ r0 (by omega) (by simp)).mono ?_
              rintro e w1 ⟨rfl, hB1, hb1⟩
              exact hK _ _ hb1 (hB1.vn (atL_len _) (by simp [maxLen]))
            refine Steps.cons rfl ?_ ?_
            · intro f w hB h K Q hK
              try simp only [List.getElem_toArray, List.getElem_cons_succ, List.getElem_cons_zero]
              go_simp
              exact hK _ _ (gr_alloc (gr_refl _) _) (VN.zero _ 4080 (by simp [maxLen]))
            refine Steps.cons rfl ?_ ?_
            · intro f w hB h K Q hK
              have h2 : (MP.vb 4080 (zL 4080)).p (f 2) w := h 2 (by kernel_rfl)
              obtain ⟨A2, c2, e2, r2, n2, m2⟩ := h2
              simp only [e2] at hK ⊢
              clear e2
              try simp only [List.getElem_toArray, List.getElem_cons_succ, List.getElem_cons_zero]
              go_simp
              exact hK _ _ (gr_refl _) ⟨_, rfl, _, _, rfl, r2, n2, m2⟩
            refine Steps.cons rfl ?_ ?_
            · intro f w hB h K Q hK
              try simp only [List.getElem_toArray, List.getElem_cons_succ, List.getElem_cons_zero]
              go_simp
              exact hK _ _ (gr_alloc (gr_refl _) _) (VN.lit _ [9] _ 1 rfl (by simp [maxLen]) rfl)
            refine Steps.cons rfl ?_ ?_
            · intro f w hB h K Q hK
              have h4 : (MP.vb 1 [9]).p (f 4) w := h 4 (by kernel_rfl)
              obtain ⟨A4, c4, e4, r4, n4, m4⟩ := h4
              simp only [e4] at hK ⊢
              clear e4
              try simp only [List.getElem_toArray, List.getElem_cons_succ, List.getElem_cons_zero]
              go_simp
              exact hK _ _ (gr_refl _) ⟨_, rfl, _, _, rfl, r4, n4, m4⟩
            refine Steps.cons rfl ?_ ?_
            · intro f w hB h K Q hK
              have h3 : (MP.pc 0 4080 (zL 4080)).p (f 3) w := h 3 (by kernel_rfl)
              obtain ⟨u3, e3, r3⟩ := h3
              have h5 : (MP.pc 0 1 [9]).p (f 5) w := h 5 (by kernel_rfl)
              obtain ⟨u5, e5, r5⟩ := h5
              simp only [e3, e5] at hK ⊢
              clear e3 e5
              try simp only [List.getElem_toArray, List.getElem_cons_succ, List.getElem_cons_zero]
              go_simp
              exact hK _ _ (gr_alloc (gr_refl _) _) (PN.lit2 _ r3 r5)
            refine Steps.cons rfl ?_ ?_
            · intro f w hB h K Q hK
              have h1 : (MP.vb 4080 (atL [1])).p (f 1) w := h 1 (by kernel_rfl)
              obtain ⟨A1, c1, e1, r1, n1, m1⟩ := h1
              have h6 : (MP.ps 2 [(0, zL 4080), (0, [9])]).p (f 6) w := h 6 (by kernel_rfl)
              obtain ⟨A6, c6, e6, r6, n6, m6⟩ := h6
              simp only [e1, e6] at hK ⊢
              clear e1 e6
              try simp only [List.getElem_toArray, List.getElem_cons_succ, List.getElem_cons_zero]
              go_simp
              refine (Apply_any _ _ _ 2 _ _ _ _ r1 r6 (by omega) (by intro q hq; simp at hq; rcases hq with rfl | rfl <;> simp)).mono ?_
              rintro e w1 ⟨hb1, hap⟩
              rw [HAP.out] at hap
              obtain ⟨v9, rfl, ho9⟩ := hap
              obtain ⟨A9, c9, e9, r9, n9, m9⟩ := ho9.vn hml
              exact hK _ _ hb1 ⟨v9, rfl, A9, c9, e9, r9, n9, m9⟩
            refine Steps.cons rfl ?_ ?_
            · intro f w hB h K Q hK
              have h7 : (MP.tup 4080 mm).p (f 7) w := h 7 (by kernel_rfl)
              obtain ⟨_, e7, A7, c7, rfl, r7, n7, m7⟩ := h7
              simp only [e7] at hK ⊢
              clear e7
              try simp only [List.getElem_toArray, List.getElem_cons_succ, List.getElem_cons_zero]
              go_simp
              exact hK _ _ (gr_refl _) ⟨_, rfl, A7, c7, rfl, r7, n7, m7⟩
            refine Steps.cons rfl ?_ ?_
            · intro f w hB h K Q hK
              have h8 : (MP.tup 4080 mm).p (f 8) w := h 8 (by kernel_rfl)
              obtain ⟨_, e8, A8, c8, rfl, r8, n8, m8⟩ := h8
              simp only [e8] at hK ⊢
              clear e8
              try simp only [List.getElem_toArray, List.getElem_cons_succ, List.getElem_cons_zero]
              go_simp
              exact hK _ _ (gr_refl _) ⟨A8, c8, rfl, r8, n8, m8⟩
            refine Steps.cons rfl ?_ ?_
            · intro f w hB h K Q hK
              have h8 : (MP.tup 4080 mm).p (f 8) w := h 8 (by kernel_rfl)
              obtain ⟨_, e8, A8, c8, rfl, r8, n8, m8⟩ := h8
              simp only [e8] at hK ⊢
              clear e8
              try simp only [List.getElem_toArray, List.getElem_cons_succ, List.getElem_cons_zero]
              go_simp
              exact hK _ _ (gr_refl _) rfl
            refine Steps.cons rfl ?_ ?_
            · intro f w hB h K Q hK
              have h9 : (MP.vb 4080 mm).p (f 9) w := h 9 (by kernel_rfl)
              obtain ⟨A9, c9, e9, r9, n9, m9⟩ := h9
              simp only [e9] at hK ⊢
              clear e9
              try simp only [List.getElem_toArray, List.getElem_cons_succ, List.getElem_cons_zero]
              go_simp
              exact hK _ _ (gr_refl _) ⟨A9, c9, rfl, r9, n9, m9⟩
            refine Steps.cons rfl ?_ ?_
            · intro f w hB h K Q hK
              have h10 : (MP.is (.int .i64 0)).p (f 10) w := h 10 (by kernel_rfl)
              have e10 : f 10 = (.int .i64 0) := h10
              simp only [e10] at hK ⊢
              clear e10
              try simp only [List.getElem_toArray, List.getElem_cons_succ, List.getElem_cons_zero]
              go_simp
              exact hK _ _ (gr_refl _) rfl
            exact Steps.nil
          case hend =>
            intro f w2 hB2 hR
            obtain ⟨A0e, c0e, e0, r0e⟩ := (show (MP.i1).p (f 0) w2 from hR 0 (by decide))
            obtain ⟨A1e, c1e, e1, r1e, n1e, m1e⟩ := (show (MP.vb 4080 (atL [1])).p (f 1) w2 from hR 1 (by decide))
            obtain ⟨A2e, c2e, e2, r2e, n2e, m2e⟩ := (show (MP.vb 4080 (zL 4080)).p (f 2) w2 from hR 2 (by decide))
            obtain ⟨u3e, e3, r3e⟩ := (show (MP.pc 0 4080 (zL 4080)).p (f 3) w2 from hR 3 (by decide))
            obtain ⟨A4e, c4e, e4, r4e, n4e, m4e⟩ := (show (MP.vb 1 [9]).p (f 4) w2 from hR 4 (by decide))
            obtain ⟨u5e, e5, r5e⟩ := (show (MP.pc 0 1 [9]).p (f 5) w2 from hR 5 (by decide))
            obtain ⟨A6e, c6e, e6, r6e, n6e, m6e⟩ := (show (MP.ps 2 [(0, zL 4080), (0, [9])]).p (f 6) w2 from hR 6 (by decide))
            obtain ⟨_, e7, A7e, c7e, rfl, r7e, n7e, m7e⟩ := (show (MP.tup 4080 mm).p (f 7) w2 from hR 7 (by decide))
            obtain ⟨_, e8, A8e, c8e, rfl, r8e, n8e, m8e⟩ := (show (MP.tup 4080 mm).p (f 8) w2 from hR 8 (by decide))
            obtain ⟨A9e, c9e, e9, r9e, n9e, m9e⟩ := (show (MP.vb 4080 mm).p (f 9) w2 from hR 9 (by decide))
            have e10 : f 10 = (.int .i64 0) := hR 10 (by decide)
            obtain ⟨A11e, c11e, e11, r11e, n11e, m11e⟩ := (show (MP.vb 4080 mm).p (f 11) w2 from hR 11 (by decide))
            have e12 : f 12 = (.int .i64 0) := hR 12 (by decide)
            simp only [e0, e1, e2, e3, e4, e5, e6, e7, e8, e9, e10, e11, e12]
            clear e0 e1 e2 e3 e4 e5 e6 e7 e8 e9 e10 e11 e12 hR
            have hbwf := gr_trans hbwd (bel_drew hB2)
            obtain ⟨gb, ob, rfl, b0⟩ := r11e.at_ (k := 0) (by omega)
            obtain ⟨gb', ob', e', b1⟩ := r11e.at_ (k := 1) (by omega)
            injection e' with e'
            injection e' with e1 e2
            subst e1 e2
            rw [hm0] at b0
            rw [hm1] at b1
            have b0' : w2.cell? ⟨gb, ob, none⟩ = some (.int .u8 9) := b0
            have b1' : w2.cell? ⟨gb, ob + 1, none⟩ = some (.int .u8 0) := b1
            clear r0e r1e n1e m1e r2e n2e m2e r3e r4e n4e m4e r5e r6e n6e m6e r7e n7e m7e r8e n8e m8e r9e n9e m9e r11e n11e m11e b0 b1 hbwd hB2 hm0 hm1 hml HAP
            go_wp2_with fail
            refine (awake08_any _).mono ?_
            rintro e w9 ⟨rfl, hb9⟩
            go_wp2
            go_ret
            exact ⟨rfl, gr_trans hbwf hb9⟩

end Go.Proofs.Ythpjjoahffagcaa
