/-
  The walk of OctetsNumbers.
-/
import Derived.Test.YtecndamoomkhnaaLawOctetsTells
namespace Go.Proofs.Ytecndamoomkhnaa
open Go.RowKit

def badPlaces : List Int := [1, -1, 2, 9223372036854775807, -9223372036854775808]

theorem bad_none (j : Nat) (hj : j < 5) : numAt [1, 2] (badPlaces.getD j 0) 2 = none ∧ numAt [1, 2] (badPlaces.getD j 0) 4 = none ∧ partAt [1, 2] (badPlaces.getD j 0) = none ∧
    -9223372036854775808 ≤ badPlaces.getD j 0 ∧ badPlaces.getD j 0 ≤ 9223372036854775807 := by
  match j, hj with
  | 0, _ => decide
  | 1, _ => decide
  | 2, _ => decide
  | 3, _ => decide
  | 4, _ => decide

set_option maxHeartbeats 2000000 in
set_option maxRecDepth 100000 in
theorem OctetsNumbers_walk (w : World) :
    Calls Try.prog 12 #[] w fun e w' => e = .returned (.bool true) ∧ Below w.heap.size w w' := by
  have mk7 := run_mk_bytes 7 (by omega) 7 rfl
  have mk1 := run_mk_bytes 65536 (by omega) 65536 rfl
  have mk2 := run_mk_bytes 65535 (by omega) 65535 rfl
  go_enter Try.func12, Try.ntmps12
  go_wp2_with fail
  refine (U16_any _ 2 2 [1, 2] _ 0 (BR.litAt _ _ [1, 2] #[_, _] _ _ rfl rfl rfl) (by omega) (by omega) (by omega)).mono ?_
  rintro e w1 ⟨rfl, rfl⟩
  have e1 : numAt [1, 2] 0 2 = some 513 := by decide
  rw [e1]
  clear e1
  go_wp2_with fail
  refine (U64_any _ 7 7 (List.replicate 7 0) _ 0 (BR.zero _ _ 7 _ (by simp)) (by omega) (by omega) (by omega)).mono ?_
  rintro e w1 ⟨rfl, rfl⟩
  have e1 : numAt (List.replicate 7 0) 0 8 = none := by decide
  rw [e1]
  clear e1
  go_wp2_with fail
  refine (U64_any _ 8 8 [1, 0, 0, 0, 0, 0, 0, 128] _ 0 (BR.litAt _ _ [1, 0, 0, 0, 0, 0, 0, 128] #[_, _, _, _, _, _, _, _] _ _ (by simp) rfl rfl) (by omega) (by omega) (by omega)).mono ?_
  rintro e w1 ⟨rfl, rfl⟩
  have e1 : numAt [1, 0, 0, 0, 0, 0, 0, 128] 0 8 = some 9223372036854775809 := by decide
  rw [e1]
  clear e1
  go_wp2_with fail
  go_loopw [63] (fun i wr => ∃ j : Nat, j ≤ 5 ∧ i = .int .i64 j ∧ IR wr (some ⟨w.heap.size + 1 + 1 + 1, 0, none⟩) 5 badPlaces ∧ Below w.heap.size w wr) (fun i _ => 5 - (intOf i).toNat)
  case atStart => exact ⟨0, by omega, rfl, IR.litAt _ _ badPlaces #[_, _, _, _, _] _ _ (by simp) rfl rfl, gr_alloc (gr_alloc (gr_alloc (gr_alloc (gr_refl _) _) _) _) _⟩
  case round =>
    obtain ⟨j, hj, rfl, hI, hb⟩ := hrel
    by_cases hlt : j < 5
    · obtain ⟨z1, z2, z3, z4, z5⟩ := bad_none j hlt
      obtain ⟨g, o, e0, hc⟩ := hI.at_ hlt
      cases e0
      have hlt' : decide ((j : Int) < 5) = true := by simp; omega
      generalize badPlaces.getD j 0 = x at *
      have Z1 := Lib.hid z1
      have Z2 := Lib.hid z2
      have Z3 := Lib.hid z3
      clear z1 z2 z3
      rw [Nat.zero_add] at hc
      go_wp2_with fail
      refine (U16_any _ 2 2 [1, 2] _ x (BR.litAt _ _ [1, 2] #[_, _] _ _ rfl rfl rfl) (by omega) z4 z5).mono ?_
      rintro e w1 ⟨rfl, rfl⟩
      rw [Z1.out]
      go_wp2_with fail
      refine (U32_any _ 2 2 [1, 2] _ x (BR.litAt _ _ [1, 2] #[_, _] _ _ (by simp) rfl rfl) (by omega) z4 z5).mono ?_
      rintro e w1 ⟨rfl, rfl⟩
      rw [Z2.out]
      go_wp2_with fail
      refine (Part_any _ 2 2 [1, 2] _ x (BR.litAt _ _ [1, 2] #[_, _] _ _ (by simp) rfl rfl) (by omega) (by omega) (by omega) z4 z5).mono ?_
      rw [Z3.out]
      rintro e w1 ⟨v1, rfl, ho1, hb1⟩
      have ho1' : OB w1 _ v1 [] := ho1
      obtain ⟨A1, c1, rfl, r1, _, _⟩ := ho1'.formN (n := 0) rfl
      have hb2 := gr_trans (gr_alloc (gr_alloc (gr_alloc (gr_refl wr) _) _) _) hb1
      have hI2 := hI.below hb2
      clear hI hc ho1 ho1' hb1
      go_wp2_with fail
      go_roundw
      case rel => exact ⟨j + 1, by omega, by go_num, hI2, gr_trans hb hb2⟩
      case measure => simp [intOf]; omega
    · have hlt' : decide ((j : Int) < 5) = false := by simp; omega
      clear hI
      go_wp2_with fail
      refine (Part_any _ 4 4 [2, 0, 5, 6] _ 0 (BR.litAt _ _ [2, 0, 5, 6] #[_, _, _, _] _ _ rfl rfl rfl) (by omega) (by omega) (by omega) (by omega) (by omega)).mono ?_
      have e1 : partAt [2, 0, 5, 6] 0 = some ([5, 6], 4) := by decide
      rw [e1]
      clear e1
      rintro e w1 ⟨v1, rfl, ho1, hb1⟩
      have ho1' : OB w1 _ v1 [5, 6] := ho1
      have hb2 := gr_trans (gr_alloc hb _) hb1
      clear ho1 hb1 hb
      go_wp2_with fail
      refine (Part_any _ 4 4 [3, 0, 5, 6] _ 0 (BR.litAt _ _ [3, 0, 5, 6] #[_, _, _, _] _ _ rfl rfl rfl) (by omega) (by omega) (by omega) (by omega) (by omega)).mono ?_
      have e1 : partAt [3, 0, 5, 6] 0 = none := by decide
      rw [e1]
      clear e1
      rintro e w2 ⟨v2, rfl, ho2, hb3⟩
      have ho3 := OB.below ho1' (gr_trans (gr_alloc (gr_refl _) _) hb3)
      have hb4 := gr_trans (gr_alloc hb2 _) hb3
      clear ho2 ho1' hb2 hb3
      go_wp2_with fail
      refine (Part_any _ 4 4 [2, 0, 5, 6] _ 1 (BR.litAt _ _ [2, 0, 5, 6] #[_, _, _, _] _ _ rfl rfl rfl) (by omega) (by omega) (by omega) (by omega) (by omega)).mono ?_
      have e1 : partAt [2, 0, 5, 6] 1 = none := by decide
      rw [e1]
      clear e1
      rintro e w3 ⟨v3, rfl, ho4, hb5⟩
      have ho4' : OB w3 _ v3 [] := ho4
      have ho5 := OB.below ho3 (gr_trans (gr_alloc (gr_refl _) _) hb5)
      have hb6 := gr_trans (gr_alloc hb4 _) hb5
      clear ho3 ho4 hb4 hb5
      obtain ⟨A3, c3, rfl, r3, _, _⟩ := ho4'.formN (n := 0) rfl
      clear ho4' r3
      go_wp2_with fail
      refine (AddPart_long _ _ 0 0 65536 65536 _ (by omega) (by omega)).mono ?_
      rintro e w4 ⟨rfl, rfl⟩
      go_wp2_with fail
      refine (AddPart_fits _ _ 0 0 65535 65535 [] (List.replicate 65535 0) _ (BR.none_ _ _) (BR.zero _ _ 65535 _ (by simp)) (by omega) (by omega)).mono ?_
      rintro e w4 ⟨v4, rfl, ho6, hb7⟩
      have ho7 := OB.below ho5 (gr_trans (gr_alloc (gr_alloc (gr_refl _) _) _) hb7)
      have hb8 := gr_trans (gr_alloc (gr_alloc hb6 _) _) hb7
      obtain ⟨A4, c4, rfl, r4, _, _⟩ := ho6.formN (n := 65537) (by simp only [List.length_append, List.length_nil, leB_length, List.length_replicate])
      clear ho6 ho5 hb6 hb7 r4 mk7 mk1 mk2
      obtain ⟨A1, c1, rfl, r1, _, _⟩ := ho7.formN (n := 2) rfl
      clear ho7
      go_wp2_with fail
      refine (SameBytes_any A1 _ 2 2 c1 2 [5, 6] [5, 6] _ (r1.alloc _) (BR.litAt _ _ [5, 6] #[_, _] _ _ rfl rfl rfl)).mono ?_
      rintro e w' ⟨rfl, rfl⟩
      go_wp2_with fail
      refine (Cmp_any _ _ 1 2 1 2 [2] [1, 0] _ (BR.alloc (BR.litAt _ _ [2] #[_] _ _ (by simp) rfl rfl) _) (BR.litAt _ _ [1, 0] #[_, _] _ _ (by simp) rfl rfl)).mono ?_
      have e1 : Lib.compareBytes [2] [1, 0] = 1 := by decide
      rw [e1]
      clear e1
      rintro e w' ⟨rfl, rfl⟩
      go_wp2_with fail
      refine (Cmp_any _ _ 0 0 0 0 [] [] _ (BR.none_ _ _) (BR.none_ _ _)).mono ?_
      have e1 : Lib.compareBytes [] [] = 0 := by decide
      rw [e1]
      rintro e w' ⟨rfl, rfl⟩
      go_wp2_with fail
      refine (Same_any _ _ 0 0 0 0 [] [] _ (BR.none_ _ _) (BR.none_ _ _)).mono ?_
      rw [e1]
      clear e1
      rintro e w' ⟨rfl, rfl⟩
      go_wp2_with fail
      refine (awake01_any _).mono ?_
      rintro e w5 ⟨rfl, hb9⟩
      go_wp2
      go_ret
      exact ⟨rfl, gr_trans (gr_alloc (gr_alloc (gr_alloc (gr_alloc (gr_alloc hb8 _) _) _) _) _) hb9⟩

end Go.Proofs.Ytecndamoomkhnaa
