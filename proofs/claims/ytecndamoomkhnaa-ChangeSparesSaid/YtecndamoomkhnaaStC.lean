/-
  Contracts: stamp.Of, stamp.Parts, chancerylow.Pick, chancerylow.Made.
-/
import Derived.Test.YtecndamoomkhnaaStB
namespace Go.Proofs.Ytecndamoomkhnaa
open Go.RowKit

theorem ret_i {k : IntKind} {a b : Int} (h : a = b) : Ending.returned (.int k a) = .returned (.int k b) := by rw [h]

theorem tmod_pos (x n : Int) (hn : 0 < n) : -n < x.tmod n ∧ x.tmod n < n ∧ (x.tmod n < 0 → x % n = x.tmod n + n) ∧ (0 ≤ x.tmod n → x % n = x.tmod n) := by
  have h1 := Int.lt_tmod_of_pos x hn
  have h2 := Int.tmod_lt_of_pos x hn
  have h3 : x % n = (x.tmod n) % n := by
    conv => lhs; rw [← Int.tmod_add_mul_tdiv x n]
    rw [Int.add_mul_emod_self_left]
  refine ⟨h1, h2, fun h => ?_, fun h => ?_⟩
  · rw [h3, ← Int.add_emod_right, Int.emod_eq_of_lt (by omega) (by omega)]
  · rw [h3, Int.emod_eq_of_lt h h2]

set_option maxHeartbeats 400000 in
theorem Parts_any (v : Nat) (w : World) (hv : v < 18446744073709551616) :
    Calls Try.prog 39 #[.int .u64 v] w fun e w' => e = .returned (.tuple #[.int .i64 ((v / 4294967296 : Nat) : Int), .int .i64 ((v % 4294967296 : Nat) : Int)]) ∧ w = w' := by
  have HV := Lib.hid hv
  clear hv
  go_enter Try.func39, Try.ntmps39
  have hd : v / 4294967296 < 4294967296 := by have := HV.out; omega
  go_wp2
  go_ret2
  exact ⟨rfl, rfl⟩

set_option maxHeartbeats 400000 in
theorem Of_any (a b : Int) (w : World) :
    Calls Try.prog 40 #[.int .i64 a, .int .i64 b] w fun e w' => e = .returned (.int .u64 (a % 4294967296 * 4294967296 + b % 4294967296)) ∧ w = w' := by
  go_enter Try.func40, Try.ntmps40
  go_wp2
  go_ret
  refine ⟨ret_i ?_, rfl⟩
  have h1 := Int.emod_nonneg a (show (4294967296 : Int) ≠ 0 by decide)
  have h2 := Int.emod_lt_of_pos a (show (0 : Int) < 4294967296 by decide)
  have h3 := Int.emod_nonneg b (show (4294967296 : Int) ≠ 0 by decide)
  have h4 := Int.emod_lt_of_pos b (show (0 : Int) < 4294967296 by decide)
  generalize a % 4294967296 = x at *
  generalize b % 4294967296 = y at *
  obtain ⟨x, rfl⟩ := Int.eq_ofNat_of_zero_le h1
  obtain ⟨y, rfl⟩ := Int.eq_ofNat_of_zero_le h3
  have e : ((x : Int) * 4294967296) = ((x * 4294967296 : Nat) : Int) := by simp
  rw [e, u64_or_nat _ _ (by omega) (by omega), nat_join 32 _ _ (by omega) (by omega)]
  simp

set_option maxHeartbeats 400000 in
theorem Pick_any (x n : Int) (w : World) (hn : 0 < n) (hn2 : n ≤ 9223372036854775807) :
    Calls Try.prog 29 #[.int .i64 x, .int .i64 n] w fun e w' => e = .returned (.int .i64 (x % n)) ∧ w = w' := by
  go_enter Try.func29, Try.ntmps29
  obtain ⟨t1, t2, t3, t4⟩ := tmod_pos x n hn
  have T3 := Lib.hid t3
  have T4 := Lib.hid t4
  clear t3 t4
  go_wp2
  · have h : x.tmod n < 0 := by assumption
    go_ret
    exact ⟨ret_i (by first | rw [IntWalk.wrap64_in _ (by omega), T3.out h] | rw [T3.out h]), rfl⟩
  · have h : 0 ≤ x.tmod n := by assumption
    go_ret
    exact ⟨ret_i (T4.out h).symm, rfl⟩

set_option maxHeartbeats 400000 in
theorem Made_any (seed : Int) (n : Nat) (w : World) (hn : n ≤ 140737488355328) :
    Calls Try.prog 41 #[.int .i64 seed, .int .i64 n] w fun e w' => ∃ l, e = .returned (.slice (some ⟨w.heap.size, 0, none⟩) n n) ∧ l.length = n ∧ BB w' w.heap.size l ∧ Below w.heap.size w w' := by
  have mk := run_mk_bytes n (by omega) n rfl
  go_enter Try.func41, Try.ntmps41
  go_wp2
  go_loopw [6, 7] (fun x i wr => ∃ (j : Nat) (q : Int) (l : List UInt8), j ≤ n ∧ i = .int .i64 j ∧ x = .int .u64 q ∧ Hid (l.length = n) ∧ BB wr w.heap.size l ∧ Below w.heap.size w wr) (fun _ i _ => n - (intOf i).toNat)
  case atStart => exact ⟨0, _, List.replicate n 0, by omega, rfl, rfl, Lib.hid (by simp), BB.zero w n, gr_alloc (gr_refl _) _⟩
  case round =>
    obtain ⟨j, q, l, hj, rfl, rfl, hl, hB, hb⟩ := hrel
    by_cases hlt : j < n
    · have hc := hB.cell (j := j) (by rw [hl.out]; exact hlt)
      have hf := hB.frozen j
      by_cases hm : ((j : Int) % 64 == 0) = true
      · go_wp2
        go_roundw
        case rel =>
          refine ⟨j + 1, _, _, by omega, by go_num, rfl, ?_, hB.setInt j _ ?_ ?_, hb.setCell (Nat.le_refl _) _⟩
          · exact Lib.hid (by rw [List.length_set]; exact hl.out)
          · exact Int.emod_nonneg _ (by decide)
          · exact Int.emod_lt_of_pos _ (by decide)
        case measure => simp [intOf]; omega
      · have hm' : ((j : Int) % 64 == 0) = false := by simpa using hm
        clear hm
        go_wp2
        go_roundw
        case rel =>
          refine ⟨j + 1, _, _, by omega, by go_num, rfl, ?_, hB.setInt j _ ?_ ?_, hb.setCell (Nat.le_refl _) _⟩
          · exact Lib.hid (by rw [List.length_set]; exact hl.out)
          · exact Int.emod_nonneg _ (by decide)
          · exact Int.emod_lt_of_pos _ (by decide)
        case measure => simp [intOf]; omega
    · go_wp2
      go_ret
      exact ⟨l, rfl, hl.out, hB, hb⟩

end Go.Proofs.Ytecndamoomkhnaa
