/-
  chancerylaw05.awake.
-/
import Derived.Test.YthpjjoahffagcaaRdK
namespace Go.Proofs.Ythpjjoahffagcaa
open Go.RowKit

def atomR9 : List UInt8 := atomL ++ [9]
theorem dec_a0 : (decR (atomL ++ [9])).kind = 1 := by decide +kernel
theorem dec_a1 : (decR (atomL ++ [9])).tx = 1 := by decide +kernel
theorem dec_a2 : (decR (atomL ++ [9])).cs = [(2, [], [(3, [7])])] := by decide +kernel
theorem dec_aN : decN (atomL ++ [9]) = 27 := by decide +kernel
theorem dec_aE : decE (atomL ++ [9]) = 0 := by decide +kernel
theorem same_atom : decide ((1 : Int) = 1 ∧ (1 : Int) = 1 ∧ ([(2, [], [(3, [7])])] : List Ch) = [(2, [], [(3, [7])])]) = true := by decide +kernel
def MP.atm : MP := ⟨fun v w => ∃ A, v = .agg #[.int .u8 1, .int .i64 1, .slice A 1 1] ∧ CR w A 1 [(2, [], [(3, [7])])], fun _ _ _ hb ⟨A, e, h⟩ => ⟨A, e, h.below hb⟩⟩

set_option maxRecDepth 100000 in
set_option maxHeartbeats 2000000 in
theorem awake05_any (w : World) : Calls Try.prog 14 #[] w fun e w' => e = .returned (.bool true) ∧ Below w.heap.size w w' := by
  obtain ⟨i0, hi0, hz0, hz1, hz2⟩ := info_parts info_u8
  go_enter Try.func14, Try.ntmps14
  go_wp2_with fail
  refine (commit_any w).mono ?_
  rintro e w1 ⟨rfl, hb1⟩
  go_wp2_with fail
  refine (Encode_any 2 5 none 0 0 [] w1 (CR.none_ _ _) (by omega) (by simp)).mono ?_
  rw [show encL ⟨((2 : Nat)), 5, []⟩ = commitL from by decide +kernel, show encE ⟨((2 : Nat)), 5, []⟩ = 0 from by decide +kernel]
  rintro e w2 ⟨v2, rfl, ho2, hb2⟩
  obtain ⟨A2, c2, rfl, br2, _, _⟩ := ho2.formN (n := 15) rfl
  have hbw2 := gr_trans hb1 hb2
  clear ho2 hb1 hb2
  go_wp2_with fail
  refine (atom_any w2).mono ?_
  rintro e w3 ⟨A3, rfl, hc3, hb3⟩
  go_wp2_with fail
  refine (Encode_any 1 1 A3 1 1 [(2, [], [(3, [7])])] w3 hc3 (by omega) (by simp)).mono ?_
  rw [show encL ⟨((1 : Nat)), 1, [(2, [], [(3, [7])])]⟩ = atomL from by decide +kernel, show encE ⟨((1 : Nat)), 1, [(2, [], [(3, [7])])]⟩ = 0 from by decide +kernel]
  rintro e w4 ⟨v4, rfl, ho4, hb4⟩
  obtain ⟨A4, c4, rfl, br4, _, _⟩ := ho4.formN (n := 27) rfl
  have br24 := br2.below (gr_trans hb3 hb4)
  have hbw4 := gr_trans hbw2 (gr_trans hb3 hb4)
  clear ho4 hb3 hb4 br2 hc3 hbw2
  go_wp2_with fail
  refine (atomBytes_any w4).mono ?_
  rintro e w5 ⟨rfl, ho5, hb5⟩
  have HO5 := Lib.hid (ho5.below (gr_alloc (gr_refl w5) (.cells #[.int .u8 9] 5)))
  have HR5 : Hid (BR (w5.alloc (.cells #[.int .u8 9] 5)) (some ⟨w5.heap.size, 0, none⟩) 1 [9]) := Lib.hid (BR.lit w5 _ [9] _ rfl)
  have HB5 := Lib.hid (gr_trans hb5 (gr_alloc (gr_refl w5) (.cells #[.int .u8 9] 5)))
  clear ho5 hb5
  go_wp2_with (at_builtin; refine wpList_append_B _ rfl (.tmp 19) (.tmp 20) rfl rfl HO5.out rfl (HR5.out) (by decide) HB5.out.size ?_; intro A6 c6 w6 L6 HL6 hq6 o6 bb6 nb6)
  have e6 := HL6.out
  subst e6
  obtain ⟨A7, c7, e7, br7, hn7, hm7⟩ := o6.formN (n := 28) rfl
  have hq7 : (atomL ++ [9]).length = 28 := rfl
  simp only [hq7] at e7
  rw [show atomL.length + 1 = 28 from rfl]
  injection e7 with e7 _ e8
  subst e7 e8
  have hb6 := HB5.out.trans bb6
  have br46 := br4.below hb6
  have br26 := br24.below hb6
  have hbw6 := gr_trans hbw4 hb6
  clear o6 bb6 nb6 HL6 hq6 HO5 HR5 HB5 br4 br24 hbw4 hb6
  refine (Decode_any _ 28 _ (atomL ++ [9]) w6 br7 (by omega) hn7 (by simp only [maxLen] at hm7; omega)).mono ?_
  rw [dec_a0, dec_a1, dec_a2, dec_aN, dec_aE]
  rintro e w8 ⟨v8, rfl, ho8, hb8⟩
  obtain ⟨A8, c8, rfl, hc8, _, _⟩ := ho8.cr
  have br48 := br46.below hb8
  have br28 := br26.below hb8
  have hbw8 := gr_trans hbw6 hb8
  clear ho8 hb8 br46 br26 br7 hbw6 hq7
  go_wp2_with fail
  have HX := Lib.hid (B3.new w8 (.int .u8 1) (.int .i64 1) (.slice A8 1 c8) (t := 38) (by decide))
  have HC := Lib.hid (hc8.below (gr_alloc (gr_refl w8) (.cells #[.int .u8 1, .int .i64 1, .slice A8 1 c8] 38)))
  have BR2 := Lib.hid (br28.below (gr_alloc (gr_refl w8) (.cells #[.int .u8 1, .int .i64 1, .slice A8 1 c8] 38)))
  have BR4 := Lib.hid (br48.below (gr_alloc (gr_refl w8) (.cells #[.int .u8 1, .int .i64 1, .slice A8 1 c8] 38)))
  have hbw9 := gr_alloc hbw8 (.cells #[.int .u8 1, .int .i64 1, .slice A8 1 c8] 38)
  clear hbw8 hc8 br28 br48
  generalize w8.alloc (.cells #[.int .u8 1, .int .i64 1, .slice A8 1 c8] 38) = w9 at *
  generalize w8.heap.size = g8 at *
  refine' wp_region_mono (by kernel_rfl) (by kernel_rfl) (by kernel_rfl) (by kernel_rfl) (by kernel_rfl) (by kernel_rfl)
    [MP.is (.int .i64 0), MP.is (.int .i64 0), MP.is (.int .i64 0), MP.is (.int .i64 0), MP.is (.int .i64 0), MP.is (.bool true), MP.is (.bool true), MP.is (.slice A2 15 c2), MP.vb 15 commitL, MP.is (.bool true), MP.is (.bool true), MP.is (.bool true), MP.is (.slice A4 27 c4), MP.vb 27 atomL, MP.is (.bool true), MP.is (.bool true), MP.is (.bool true), MP.is (.agg #[.int .u8 1, .int .i64 1, .slice A8 1 c8]), MP.atm, MP.is (.bool true), MP.is (.bool true), MP.is (.bool true), MP.is (.int .i64 27), MP.is (.bool true), MP.is (.bool true), MP.is (.bool true)] ?hAA ?hst ?hend
  case hAA =>
    intro f
    simp only [putA, dstOf, List.size_toArray, List.length_cons, List.length_nil, Nat.zero_add, Nat.reduceAdd, List.getElem?_toArray, List.getElem?_cons_zero, List.getElem?_cons_succ, Option.bind_some, Act.put, List.setIfInBounds_toArray, List.set_cons_zero, List.set_cons_succ]
    exact rfl
  case hst =>
    change Steps _ _ _ _ _ [0, 1, 2, 3, 4, 5, 6, 7, 8, 9, 10, 11, 12, 13, 14, 15, 16, 17, 18, 19, 20, 21, 22, 23, 24, 25]
    refine Steps.cons rfl ?_ ?_
    · intro f w hB h K Q hK
      try simp only [List.getElem_toArray, List.getElem_cons_zero]
      go_simp
      exact hK _ _ (gr_refl _) rfl
    refine Steps.cons rfl ?_ ?_
    · intro f w hB h K Q hK
      try simp only [List.getElem_toArray, List.getElem_cons_succ, List.getElem_cons_zero]
      go_simp
      exact hK _ _ (gr_refl _) rfl
    refine Steps.cons rfl ?_ ?_
    · intro f w hB h K Q hK
      have h0 : (MP.is (.int .i64 0)).p (f 0) w := h 0 (by kernel_rfl)
      have e0 : f 0 = (.int .i64 0) := h0
      have h1 : (MP.is (.int .i64 0)).p (f 1) w := h 1 (by kernel_rfl)
      have e1 : f 1 = (.int .i64 0) := h1
      simp only [e0, e1] at hK ⊢
      clear e0 e1
      try simp only [List.getElem_toArray, List.getElem_cons_succ, List.getElem_cons_zero]
      go_simp
      exact hK _ _ (gr_refl _) rfl
    refine Steps.cons rfl ?_ ?_
    · intro f w hB h K Q hK
      try simp only [List.getElem_toArray, List.getElem_cons_succ, List.getElem_cons_zero]
      go_simp
      exact hK _ _ (gr_refl _) rfl
    refine Steps.cons rfl ?_ ?_
    · intro f w hB h K Q hK
      have h2 : (MP.is (.int .i64 0)).p (f 2) w := h 2 (by kernel_rfl)
      have e2 : f 2 = (.int .i64 0) := h2
      have h3 : (MP.is (.int .i64 0)).p (f 3) w := h 3 (by kernel_rfl)
      have e3 : f 3 = (.int .i64 0) := h3
      simp only [e2, e3] at hK ⊢
      clear e2 e3
      try simp only [List.getElem_toArray, List.getElem_cons_succ, List.getElem_cons_zero]
      go_simp
      exact hK _ _ (gr_refl _) rfl
    refine Steps.cons rfl ?_ ?_
    · intro f w hB h K Q hK
      have h4 : (MP.is (.int .i64 0)).p (f 4) w := h 4 (by kernel_rfl)
      have e4 : f 4 = (.int .i64 0) := h4
      simp only [e4] at hK ⊢
      clear e4
      try simp only [List.getElem_toArray, List.getElem_cons_succ, List.getElem_cons_zero]
      go_simp
      exact hK _ _ (gr_refl _) rfl
    refine Steps.cons rfl ?_ ?_
    · intro f w hB h K Q hK
      have h5 : (MP.is (.bool true)).p (f 5) w := h 5 (by kernel_rfl)
      have e5 : f 5 = (.bool true) := h5
      simp only [e5] at hK ⊢
      clear e5
      try simp only [List.getElem_toArray, List.getElem_cons_succ, List.getElem_cons_zero]
      go_simp
      exact hK _ _ (gr_refl _) rfl
    refine Steps.cons rfl ?_ ?_
    · intro f w hB h K Q hK
      have h6 : (MP.is (.bool true)).p (f 6) w := h 6 (by kernel_rfl)
      have e6 : f 6 = (.bool true) := h6
      simp only [e6] at hK ⊢
      clear e6
      try simp only [List.getElem_toArray, List.getElem_cons_succ, List.getElem_cons_zero]
      go_simp
      exact hK _ _ (gr_refl _) rfl
    refine Steps.cons rfl ?_ ?_
    · intro f w hB h K Q hK
      have h6 : (MP.is (.bool true)).p (f 6) w := h 6 (by kernel_rfl)
      have e6 : f 6 = (.bool true) := h6
      simp only [e6] at hK ⊢
      clear e6
      try simp only [List.getElem_toArray, List.getElem_cons_succ, List.getElem_cons_zero]
      go_simp
      refine (commitBytes_any _).mono ?_
      rintro e w1 ⟨rfl, hB1, hb1⟩
      exact hK _ _ hb1 (hB1.vn rfl)
    refine Steps.cons rfl ?_ ?_
    · intro f w hB h K Q hK
      have h6 : (MP.is (.bool true)).p (f 6) w := h 6 (by kernel_rfl)
      have e6 : f 6 = (.bool true) := h6
      have h7 : (MP.is (.slice A2 15 c2)).p (f 7) w := h 7 (by kernel_rfl)
      have e7 : f 7 = (.slice A2 15 c2) := h7
      have h8 : (MP.vb 15 commitL).p (f 8) w := h 8 (by kernel_rfl)
      obtain ⟨A8, c8, e8, r8, n8, m8⟩ := h8
      simp only [e6, e7, e8] at hK ⊢
      clear e6 e7 e8
      try simp only [List.getElem_toArray, List.getElem_cons_succ, List.getElem_cons_zero]
      go_simp
      refine (SameBytes_any _ _ _ _ _ _ _ _ _ (BR2.out.below (bel_drew hB)) r8).mono ?_
      rintro e w1 ⟨rfl, rfl⟩
      exact hK _ _ (gr_refl _) rfl
    refine Steps.cons rfl ?_ ?_
    · intro f w hB h K Q hK
      have h6 : (MP.is (.bool true)).p (f 6) w := h 6 (by kernel_rfl)
      have e6 : f 6 = (.bool true) := h6
      have h9 : (MP.is (.bool true)).p (f 9) w := h 9 (by kernel_rfl)
      have e9 : f 9 = (.bool true) := h9
      simp only [e6, e9] at hK ⊢
      clear e6 e9
      try simp only [List.getElem_toArray, List.getElem_cons_succ, List.getElem_cons_zero]
      go_simp
      exact hK _ _ (gr_refl _) rfl
    refine Steps.cons rfl ?_ ?_
    · intro f w hB h K Q hK
      have h10 : (MP.is (.bool true)).p (f 10) w := h 10 (by kernel_rfl)
      have e10 : f 10 = (.bool true) := h10
      simp only [e10] at hK ⊢
      clear e10
      try simp only [List.getElem_toArray, List.getElem_cons_succ, List.getElem_cons_zero]
      go_simp
      exact hK _ _ (gr_refl _) rfl
    refine Steps.cons rfl ?_ ?_
    · intro f w hB h K Q hK
      have h11 : (MP.is (.bool true)).p (f 11) w := h 11 (by kernel_rfl)
      have e11 : f 11 = (.bool true) := h11
      simp only [e11] at hK ⊢
      clear e11
      try simp only [List.getElem_toArray, List.getElem_cons_succ, List.getElem_cons_zero]
      go_simp
      exact hK _ _ (gr_refl _) rfl
    refine Steps.cons rfl ?_ ?_
    · intro f w hB h K Q hK
      have h11 : (MP.is (.bool true)).p (f 11) w := h 11 (by kernel_rfl)
      have e11 : f 11 = (.bool true) := h11
      simp only [e11] at hK ⊢
      clear e11
      try simp only [List.getElem_toArray, List.getElem_cons_succ, List.getElem_cons_zero]
      go_simp
      refine (atomBytes_any _).mono ?_
      rintro e w1 ⟨rfl, hB1, hb1⟩
      exact hK _ _ hb1 (hB1.vn rfl)
    refine Steps.cons rfl ?_ ?_
    · intro f w hB h K Q hK
      have h11 : (MP.is (.bool true)).p (f 11) w := h 11 (by kernel_rfl)
      have e11 : f 11 = (.bool true) := h11
      have h12 : (MP.is (.slice A4 27 c4)).p (f 12) w := h 12 (by kernel_rfl)
      have e12 : f 12 = (.slice A4 27 c4) := h12
      have h13 : (MP.vb 27 atomL).p (f 13) w := h 13 (by kernel_rfl)
      obtain ⟨A13, c13, e13, r13, n13, m13⟩ := h13
      simp only [e11, e12, e13] at hK ⊢
      clear e11 e12 e13
      try simp only [List.getElem_toArray, List.getElem_cons_succ, List.getElem_cons_zero]
      go_simp
      refine (SameBytes_any _ _ _ _ _ _ _ _ _ (BR4.out.below (bel_drew hB)) r13).mono ?_
      rintro e w1 ⟨rfl, rfl⟩
      exact hK _ _ (gr_refl _) rfl
    refine Steps.cons rfl ?_ ?_
    · intro f w hB h K Q hK
      have h11 : (MP.is (.bool true)).p (f 11) w := h 11 (by kernel_rfl)
      have e11 : f 11 = (.bool true) := h11
      have h14 : (MP.is (.bool true)).p (f 14) w := h 14 (by kernel_rfl)
      have e14 : f 14 = (.bool true) := h14
      simp only [e11, e14] at hK ⊢
      clear e11 e14
      try simp only [List.getElem_toArray, List.getElem_cons_succ, List.getElem_cons_zero]
      go_simp
      exact hK _ _ (gr_refl _) rfl
    refine Steps.cons rfl ?_ ?_
    · intro f w hB h K Q hK
      have h15 : (MP.is (.bool true)).p (f 15) w := h 15 (by kernel_rfl)
      have e15 : f 15 = (.bool true) := h15
      simp only [e15] at hK ⊢
      clear e15
      try simp only [List.getElem_toArray, List.getElem_cons_succ, List.getElem_cons_zero]
      go_simp
      exact hK _ _ (gr_refl _) rfl
    refine Steps.cons rfl ?_ ?_
    · intro f w hB h K Q hK
      have h16 : (MP.is (.bool true)).p (f 16) w := h 16 (by kernel_rfl)
      have e16 : f 16 = (.bool true) := h16
      simp only [e16] at hK ⊢
      clear e16
      try simp only [List.getElem_toArray, List.getElem_cons_succ, List.getElem_cons_zero]
      have k := HX.out.nb (NB.below (bel_drew hB))
      have k0 := k.c0
      have k1 := k.c1
      have k2 := k.c2
      clear k
      go_simp
      exact hK _ _ (gr_refl _) rfl
    refine Steps.cons rfl ?_ ?_
    · intro f w hB h K Q hK
      have h16 : (MP.is (.bool true)).p (f 16) w := h 16 (by kernel_rfl)
      have e16 : f 16 = (.bool true) := h16
      simp only [e16] at hK ⊢
      clear e16
      try simp only [List.getElem_toArray, List.getElem_cons_succ, List.getElem_cons_zero]
      go_simp
      refine (atom_any _).mono ?_
      rintro e w1 ⟨B9, rfl, hc9, hb1⟩
      exact hK _ _ hb1 ⟨B9, rfl, hc9⟩
    refine Steps.cons rfl ?_ ?_
    · intro f w hB h K Q hK
      have h16 : (MP.is (.bool true)).p (f 16) w := h 16 (by kernel_rfl)
      have e16 : f 16 = (.bool true) := h16
      have h17 : (MP.is (.agg #[.int .u8 1, .int .i64 1, .slice A8 1 c8])).p (f 17) w := h 17 (by kernel_rfl)
      have e17 : f 17 = (.agg #[.int .u8 1, .int .i64 1, .slice A8 1 c8]) := h17
      have h18 : (MP.atm).p (f 18) w := h 18 (by kernel_rfl)
      obtain ⟨A18, e18, r18⟩ := h18
      simp only [e16, e17, e18] at hK ⊢
      clear e16 e17 e18
      try simp only [List.getElem_toArray, List.getElem_cons_succ, List.getElem_cons_zero]
      go_simp
      refine (SameRecord_any 1 1 1 1 _ _ _ _ _ _ _ _ _ (HC.out.below (bel_drew hB)) r18 (by decide) (by decide) (by simp) (by simp)).mono ?_
      rw [same_atom]
      rintro e w1 ⟨rfl, hb1⟩
      exact hK _ _ hb1 rfl
    refine Steps.cons rfl ?_ ?_
    · intro f w hB h K Q hK
      have h16 : (MP.is (.bool true)).p (f 16) w := h 16 (by kernel_rfl)
      have e16 : f 16 = (.bool true) := h16
      have h19 : (MP.is (.bool true)).p (f 19) w := h 19 (by kernel_rfl)
      have e19 : f 19 = (.bool true) := h19
      simp only [e16, e19] at hK ⊢
      clear e16 e19
      try simp only [List.getElem_toArray, List.getElem_cons_succ, List.getElem_cons_zero]
      go_simp
      exact hK _ _ (gr_refl _) rfl
    refine Steps.cons rfl ?_ ?_
    · intro f w hB h K Q hK
      have h20 : (MP.is (.bool true)).p (f 20) w := h 20 (by kernel_rfl)
      have e20 : f 20 = (.bool true) := h20
      simp only [e20] at hK ⊢
      clear e20
      try simp only [List.getElem_toArray, List.getElem_cons_succ, List.getElem_cons_zero]
      go_simp
      exact hK _ _ (gr_refl _) rfl
    refine Steps.cons rfl ?_ ?_
    · intro f w hB h K Q hK
      have h21 : (MP.is (.bool true)).p (f 21) w := h 21 (by kernel_rfl)
      have e21 : f 21 = (.bool true) := h21
      simp only [e21] at hK ⊢
      clear e21
      try simp only [List.getElem_toArray, List.getElem_cons_succ, List.getElem_cons_zero]
      go_simp
      exact hK _ _ (gr_refl _) rfl
    refine Steps.cons rfl ?_ ?_
    · intro f w hB h K Q hK
      have h21 : (MP.is (.bool true)).p (f 21) w := h 21 (by kernel_rfl)
      have e21 : f 21 = (.bool true) := h21
      have h22 : (MP.is (.int .i64 27)).p (f 22) w := h 22 (by kernel_rfl)
      have e22 : f 22 = (.int .i64 27) := h22
      simp only [e21, e22] at hK ⊢
      clear e21 e22
      try simp only [List.getElem_toArray, List.getElem_cons_succ, List.getElem_cons_zero]
      go_simp
      exact hK _ _ (gr_refl _) rfl
    refine Steps.cons rfl ?_ ?_
    · intro f w hB h K Q hK
      have h21 : (MP.is (.bool true)).p (f 21) w := h 21 (by kernel_rfl)
      have e21 : f 21 = (.bool true) := h21
      have h23 : (MP.is (.bool true)).p (f 23) w := h 23 (by kernel_rfl)
      have e23 : f 23 = (.bool true) := h23
      simp only [e21, e23] at hK ⊢
      clear e21 e23
      try simp only [List.getElem_toArray, List.getElem_cons_succ, List.getElem_cons_zero]
      go_simp
      exact hK _ _ (gr_refl _) rfl
    refine Steps.cons rfl ?_ ?_
    · intro f w hB h K Q hK
      have h24 : (MP.is (.bool true)).p (f 24) w := h 24 (by kernel_rfl)
      have e24 : f 24 = (.bool true) := h24
      simp only [e24] at hK ⊢
      clear e24
      try simp only [List.getElem_toArray, List.getElem_cons_succ, List.getElem_cons_zero]
      go_simp
      exact hK _ _ (gr_refl _) rfl
    exact Steps.nil
  case hend =>
    intro f w2 hB2 hR
    have hbwf := gr_trans hbw9 (bel_drew hB2)
    have e0 : f 0 = (.int .i64 0) := hR 0 (by decide)
    have e1 : f 1 = (.int .i64 0) := hR 1 (by decide)
    have e2 : f 2 = (.int .i64 0) := hR 2 (by decide)
    have e3 : f 3 = (.int .i64 0) := hR 3 (by decide)
    have e4 : f 4 = (.int .i64 0) := hR 4 (by decide)
    have e5 : f 5 = (.bool true) := hR 5 (by decide)
    have e6 : f 6 = (.bool true) := hR 6 (by decide)
    have e7 : f 7 = (.slice A2 15 c2) := hR 7 (by decide)
    obtain ⟨A8z, c8z, e8, r8z, n8z, m8z⟩ := (show (MP.vb 15 commitL).p (f 8) w2 from hR 8 (by decide))
    have e9 : f 9 = (.bool true) := hR 9 (by decide)
    have e10 : f 10 = (.bool true) := hR 10 (by decide)
    have e11 : f 11 = (.bool true) := hR 11 (by decide)
    have e12 : f 12 = (.slice A4 27 c4) := hR 12 (by decide)
    obtain ⟨A13z, c13z, e13, r13z, n13z, m13z⟩ := (show (MP.vb 27 atomL).p (f 13) w2 from hR 13 (by decide))
    have e14 : f 14 = (.bool true) := hR 14 (by decide)
    have e15 : f 15 = (.bool true) := hR 15 (by decide)
    have e16 : f 16 = (.bool true) := hR 16 (by decide)
    have e17 : f 17 = (.agg #[.int .u8 1, .int .i64 1, .slice A8 1 c8]) := hR 17 (by decide)
    obtain ⟨A18z, e18, r18z⟩ := (show (MP.atm).p (f 18) w2 from hR 18 (by decide))
    have e19 : f 19 = (.bool true) := hR 19 (by decide)
    have e20 : f 20 = (.bool true) := hR 20 (by decide)
    have e21 : f 21 = (.bool true) := hR 21 (by decide)
    have e22 : f 22 = (.int .i64 27) := hR 22 (by decide)
    have e23 : f 23 = (.bool true) := hR 23 (by decide)
    have e24 : f 24 = (.bool true) := hR 24 (by decide)
    have e25 : f 25 = (.bool true) := hR 25 (by decide)
    simp only [e0, e1, e2, e3, e4, e5, e6, e7, e8, e9, e10, e11, e12, e13, e14, e15, e16, e17, e18, e19, e20, e21, e22, e23, e24, e25]
    clear e0 e1 e2 e3 e4 e5 e6 e7 e8 e9 e10 e11 e12 e13 e14 e15 e16 e17 e18 e19 e20 e21 e22 e23 e24 e25 hR
    go_wp2
    go_ret
    exact ⟨rfl, hbwf⟩

end Go.Proofs.Ythpjjoahffagcaa
