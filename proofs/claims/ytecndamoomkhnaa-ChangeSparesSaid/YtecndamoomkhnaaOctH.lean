/-
  Contract: chancerylaw01.awake.
-/
import Derived.Test.YtecndamoomkhnaaOctG
namespace Go.Proofs.Ytecndamoomkhnaa
open Go.RowKit

set_option maxHeartbeats 400000 in
theorem awake01_any (w : World) : Calls Try.prog 20 #[] w fun e w' => e = .returned (.bool true) ∧ Below w.heap.size w w' := by
  go_enter Try.func20, Try.ntmps20
  go_wp2_with fail
  refine (U32_any _ 4 4 [1, 0, 0, 128] _ 0 (BR.litAt _ _ [1, 0, 0, 128] #[_, _, _, _] _ _ rfl rfl rfl) (by omega) (by omega) (by omega)).mono ?_
  rintro e w1 ⟨rfl, rfl⟩
  have e1 : numAt [1, 0, 0, 128] 0 4 = some 2147483649 := by decide
  rw [e1]
  clear e1
  go_wp2_with fail
  refine (AddPart_fits _ _ 0 0 2 2 [] [5, 6] _ (BR.none_ _ _) (BR.litAt _ _ [5, 6] #[_, _] _ _ (by simp) rfl rfl) (by omega) (by omega)).mono ?_
  rintro e w1 ⟨v1, rfl, ho1, hb1⟩
  have e1 : ([] ++ leB 2 2 ++ [5, 6] : List UInt8) = [2, 0, 5, 6] := by decide
  rw [e1] at ho1
  clear e1
  have hb := gr_trans (gr_alloc (gr_alloc (gr_refl w) _) _) hb1
  clear hb1
  obtain ⟨A1, c1, rfl, hr1, hc1, hm1⟩ := ho1.formN (n := 4) rfl
  clear ho1
  go_wp2_with fail
  refine (SameBytes_any _ _ 4 4 _ _ [2, 0, 5, 6] [2, 0, 5, 6] _ (hr1.alloc _) (BR.litAt _ _ [2, 0, 5, 6] #[_, _, _, _] _ _ rfl rfl rfl)).mono ?_
  rintro e w2 ⟨rfl, rfl⟩
  go_wp2_with fail
  refine (Add32_any _ 1 1 [9] _ 258 (BR.litAt _ _ [9] #[_] _ _ (by simp) rfl rfl) (by omega) (by omega)).mono ?_
  rintro e w2 ⟨v2, rfl, ho2, hb2⟩
  have e1 : ([9] ++ leB 258 4 : List UInt8) = [9, 2, 1, 0, 0] := by decide
  rw [e1] at ho2
  clear e1
  have hb3 := gr_trans (gr_alloc (gr_alloc hb _) _) hb2
  clear hb2 hb
  obtain ⟨A2, c2, rfl, hr2, hc2, hm2⟩ := ho2.formN (n := 5) rfl
  clear ho2
  go_wp2_with fail
  refine (SameBytes_any _ _ 5 5 _ _ [9, 2, 1, 0, 0] [9, 2, 1, 0, 0] _ (hr2.alloc _) (BR.litAt _ _ [9, 2, 1, 0, 0] #[_, _, _, _, _] _ _ rfl rfl rfl)).mono ?_
  rintro e w3 ⟨rfl, rfl⟩
  go_wp2_with fail
  refine (Cmp_any _ _ 1 2 _ _ [1] [1, 0] _ (BR.alloc (BR.litAt _ _ [1] #[_] _ _ (by simp) rfl rfl) _) (BR.litAt _ _ [1, 0] #[_, _] _ _ (by simp) rfl rfl)).mono ?_
  rintro e w3 ⟨rfl, rfl⟩
  have e1 : Lib.compareBytes [1] [1, 0] = -1 := by decide
  rw [e1]
  clear e1
  go_wp2
  go_ret
  exact ⟨rfl, gr_alloc (gr_alloc (gr_alloc hb3 _) _) _⟩

end Go.Proofs.Ytecndamoomkhnaa
