/-
  chancerylow.Pick.
-/
import Derived.Test.YthpjjoahffagcaaOctG
namespace Go.Proofs.Ythpjjoahffagcaa
open Go.RowKit

theorem tmod_pos (x n : Int) (hn : 0 < n) : -n < x.tmod n ∧ x.tmod n < n ∧ (x.tmod n < 0 → x % n = x.tmod n + n) ∧ (0 ≤ x.tmod n → x % n = x.tmod n) := by
  have h1 := Int.lt_tmod_of_pos x hn
  have h2 := Int.tmod_lt_of_pos x hn
  have h3 : x % n = (x.tmod n) % n := by
    conv => lhs; rw [← Int.tmod_add_mul_tdiv x n]
    rw [Int.add_mul_emod_self_left]
  refine ⟨h1, h2, fun h => ?_, fun h => ?_⟩
  · rw [h3, ← Int.add_emod_right, Int.emod_eq_of_lt (by omega) (by omega)]
  · rw [h3, Int.emod_eq_of_lt h h2]

set_option maxHeartbeats 400000 in
theorem Pick_any (x n : Int) (w : World) (hn : 0 < n) (hn2 : n ≤ 9223372036854775807) :
    Calls Try.prog 24 #[.int .i64 x, .int .i64 n] w fun e w' => e = .returned (.int .i64 (x % n)) ∧ w = w' := by
  go_enter Try.func24, Try.ntmps24
  obtain ⟨t1, t2, t3, t4⟩ := tmod_pos x n hn
  have T3 := Lib.hid t3
  have T4 := Lib.hid t4
  clear t3 t4
  go_wp2
  · have h : x.tmod n < 0 := by assumption
    go_ret
    exact ⟨ret_i (by first | rw [IntWalk.wrap64_in _ (by omega), T3.out h] | rw [T3.out h]), rfl⟩
  · have h : 0 ≤ x.tmod n := by assumption
    go_ret
    exact ⟨ret_i (T4.out h).symm, rfl⟩

end Go.Proofs.Ythpjjoahffagcaa
