/-
  Chapter 03: OverBytes, a write's bytes.
-/
import Derived.Test.YtjopobkcijkpmaaDpM
namespace Go.Proofs.Ytjopobkcijkpmaa
open Go Go.RowKit

set_option maxRecDepth 100000 in
set_option maxHeartbeats 1000000 in
theorem OverBytes_any (g n c : Nat) (cs0 : Array Value) (w : World) (hh : w.heap[g]? = some (.cells cs0 5 (0, 0))) (hs : n + 3 ≤ cs0.size) (hc : n + 3 ≤ c) (hcm : c ≤ maxLen) :
    Calls Try.prog 82 #[.slice (some ⟨g, 0, none⟩) n c] w fun e w' => e = .returned (.tuple #[]) ∧ Off (· = g) w w' := by
  obtain ⟨i0, hi0, hz0, hz1, hz2⟩ := info_parts info_u8
  obtain ⟨m, hm⟩ : ∃ m, m = n + 3 := ⟨_, rfl⟩
  have hcut := fun W => run_cut_h (P := Try.prog) W 33 5 i0 Try.underlying33 hi0 1 hz1 (some ⟨g, 0, none⟩) n c ((n : Int) + 3) m (by omega) (by omega)
  have HH : Hid (∃ cs, w.heap[g]? = some (.cells cs 5 (0, 0)) ∧ m ≤ cs.size ∧ Off (· = g) w w) := Lib.hid ⟨cs0, hh, by omega, Off.refl _ _⟩
  have hcm' : c ≤ 9223372036854775807 := by simpa [maxLen] using hcm
  have hnc : n ≤ 9223372036854775804 := by omega
  clear hh hs
  go_enter Try.func82, Try.ntmps82
  go_wp2_with fail
  go_loopw [3] (fun i wr => ∃ (j : Nat), j ≤ m ∧ i = .int .i64 (j : Int) ∧ Hid (∃ cs, wr.heap[g]? = some (.cells cs 5 (0, 0)) ∧ m ≤ cs.size ∧ Off (· = g) w wr)) (fun i _ => m - (intOf i).toNat)
  case atStart => exact ⟨0, Nat.zero_le _, rfl, HH⟩
  case round =>
    clear HH
    obtain ⟨j, hj, rfl, HJ⟩ := hrel
    by_cases hlt : j < m
    · have t1 : decide ((j : Int) < (m : Int)) = true := decide_eq_true (by omega)
      have t1' : decide (j < m) = true := decide_eq_true hlt
      have j0 : (0 : Int) ≤ (j : Int) := Int.natCast_nonneg _
      have j1 : (j : Int) < (m : Int) := by omega
      obtain ⟨cs, h1, h2, h3⟩ := HJ.out
      obtain ⟨u0, y1⟩ : ∃ u, wr.cell? ⟨g, j, none⟩ = some u := ⟨cs[j]'(by omega), by rw [cell_of_row wr g j _ _ _ h1, Array.getElem?_eq_getElem (by omega)]⟩
      have f1 : wr.frozen? ⟨g, j, none⟩ = false := by simp [World.frozen?, h1]
      have HN : Hid (∀ u, ∃ cs, (wr.setCell ⟨g, j, none⟩ u).heap[g]? = some (.cells cs 5 (0, 0)) ∧ m ≤ cs.size ∧ Off (· = g) w (wr.setCell ⟨g, j, none⟩ u)) := Lib.hid (fun u => ⟨cs.setIfInBounds j u, by
        simp only [World.setCell, Array.getElem?_modify, if_pos, h1]
        simp, by simpa using h2, h3.setCell _ rfl⟩)
      clear h1 h2 h3 HJ
      go_wp2_with fail
      refine (markByte_any 9 j wr).mono ?_
      rintro e w2 ⟨rfl, rfl⟩
      go_wp2_with fail
      go_roundw
      case rel => exact ⟨j + 1, by omega, by go_num, Lib.hid (HN.out _)⟩
      case measure => simp [intOf]; omega
    · obtain rfl : j = m := by omega
      have t1 : decide ((j : Int) < (j : Int)) = false := decide_eq_false (by omega)
      obtain ⟨cs, h1, h2, h3⟩ := HJ.out
      have HO := Lib.hid h3
      clear h1 h2 h3 HJ
      go_wp2_with fail
      go_end0
      exact ⟨rfl, HO.out⟩

/-- How many bytes a write has. -/
def dataN (sh : Bool) : Nat := if sh then 4095 else 4096
set_option maxRecDepth 100000 in
set_option maxHeartbeats 1000000 in
theorem data_true (kd on bt sd : Int) (nn er : Int) (K : Option Addr) (nk ck : Nat) (torn cut : Int) (w : World) :
    Calls Try.prog 79 #[.agg #[.int .i64 kd, .int .i64 on, .int .i64 bt, .int .i64 sd, .bool true, .int .i64 nn, .int .i64 er, .slice K nk ck, .int .i64 torn, .int .i64 cut]] w fun e w' => e = .returned (.slice (some ⟨w.heap.size + 1, 0, none⟩) 4095 4095) ∧ BB w' (w.heap.size + 1) (madeL sd 4095) ∧ Below w.heap.size w w' := by
  have HM := Lib.hid (fun (W : World) => Made_any sd 4095 W (by omega))
  have HZ := Lib.hid (show (w.alloc (.cells #[.int .i64 kd, .int .i64 on, .int .i64 bt, .int .i64 sd, .bool true, .int .i64 nn, .int .i64 er, .slice K nk ck, .int .i64 torn, .int .i64 cut] 72)).heap.size = w.heap.size + 1 from World.size_alloc _ _)
  have HA := Lib.hid (gr_alloc (gr_refl w) (.cells #[.int .i64 kd, .int .i64 on, .int .i64 bt, .int .i64 sd, .bool true, .int .i64 nn, .int .i64 er, .slice K nk ck, .int .i64 torn, .int .i64 cut] 72))
  have HC := Lib.hid (heap_alloc_new w (.cells #[.int .i64 kd, .int .i64 on, .int .i64 bt, .int .i64 sd, .bool true, .int .i64 nn, .int .i64 er, .slice K nk ck, .int .i64 torn, .int .i64 cut] 72))
  go_enter Try.func79, Try.ntmps79
  go_upto_region 1 with fail
  generalize w.alloc (.cells #[.int .i64 kd, .int .i64 on, .int .i64 bt, .int .i64 sd, .bool true, .int .i64 nn, .int .i64 er, .slice K nk ck, .int .i64 torn, .int .i64 cut] 72) = w1 at *
  have c3 : w1.cell? ⟨w.heap.size, 3, none⟩ = some (.int .i64 sd) := by rw [cell_of_row w1 _ 3 _ _ _ HC.out]; rfl
  have c4 : w1.cell? ⟨w.heap.size, 4, none⟩ = some (.bool true) := by rw [cell_of_row w1 _ 4 _ _ _ HC.out]; rfl
  go_wp2_with fail
  refine (HM.out w1).mono ?_
  rintro e w2 ⟨rfl, hB, hb⟩
  rw [HZ.out] at hB
  have HB := Lib.hid hB
  have HB2 := Lib.hid (gr_trans HA.out hb)
  clear hB hb c3 c4
  go_wp2_with fail
  go_ret
  refine ⟨?_, HB.out, HB2.out⟩
  rw [HZ.out]
  rfl
set_option maxRecDepth 100000 in
set_option maxHeartbeats 1000000 in
theorem data_false (kd on bt sd : Int) (nn er : Int) (K : Option Addr) (nk ck : Nat) (torn cut : Int) (w : World) :
    Calls Try.prog 79 #[.agg #[.int .i64 kd, .int .i64 on, .int .i64 bt, .int .i64 sd, .bool false, .int .i64 nn, .int .i64 er, .slice K nk ck, .int .i64 torn, .int .i64 cut]] w fun e w' => e = .returned (.slice (some ⟨w.heap.size + 1, 0, none⟩) 4096 4096) ∧ BB w' (w.heap.size + 1) (madeL sd 4096) ∧ Below w.heap.size w w' := by
  have HM := Lib.hid (fun (W : World) => Made_any sd 4096 W (by omega))
  have HZ := Lib.hid (show (w.alloc (.cells #[.int .i64 kd, .int .i64 on, .int .i64 bt, .int .i64 sd, .bool false, .int .i64 nn, .int .i64 er, .slice K nk ck, .int .i64 torn, .int .i64 cut] 72)).heap.size = w.heap.size + 1 from World.size_alloc _ _)
  have HA := Lib.hid (gr_alloc (gr_refl w) (.cells #[.int .i64 kd, .int .i64 on, .int .i64 bt, .int .i64 sd, .bool false, .int .i64 nn, .int .i64 er, .slice K nk ck, .int .i64 torn, .int .i64 cut] 72))
  have HC := Lib.hid (heap_alloc_new w (.cells #[.int .i64 kd, .int .i64 on, .int .i64 bt, .int .i64 sd, .bool false, .int .i64 nn, .int .i64 er, .slice K nk ck, .int .i64 torn, .int .i64 cut] 72))
  go_enter Try.func79, Try.ntmps79
  go_upto_region 1 with fail
  generalize w.alloc (.cells #[.int .i64 kd, .int .i64 on, .int .i64 bt, .int .i64 sd, .bool false, .int .i64 nn, .int .i64 er, .slice K nk ck, .int .i64 torn, .int .i64 cut] 72) = w1 at *
  have c3 : w1.cell? ⟨w.heap.size, 3, none⟩ = some (.int .i64 sd) := by rw [cell_of_row w1 _ 3 _ _ _ HC.out]; rfl
  have c4 : w1.cell? ⟨w.heap.size, 4, none⟩ = some (.bool false) := by rw [cell_of_row w1 _ 4 _ _ _ HC.out]; rfl
  go_wp2_with fail
  refine (HM.out w1).mono ?_
  rintro e w2 ⟨rfl, hB, hb⟩
  rw [HZ.out] at hB
  have HB := Lib.hid hB
  have HB2 := Lib.hid (gr_trans HA.out hb)
  clear hB hb c3 c4
  go_wp2_with fail
  go_ret
  refine ⟨?_, HB.out, HB2.out⟩
  rw [HZ.out]
  rfl
theorem data_any (kd on bt sd : Int) (sh : Bool) (nn er : Int) (K : Option Addr) (nk ck : Nat) (torn cut : Int) (w : World) :
    Calls Try.prog 79 #[.agg #[.int .i64 kd, .int .i64 on, .int .i64 bt, .int .i64 sd, .bool sh, .int .i64 nn, .int .i64 er, .slice K nk ck, .int .i64 torn, .int .i64 cut]] w fun e w' => e = .returned (.slice (some ⟨w.heap.size + 1, 0, none⟩) (dataN sh) (dataN sh)) ∧ BB w' (w.heap.size + 1) (madeL sd (dataN sh)) ∧ Below w.heap.size w w' := by
  cases sh
  · exact data_false kd on bt sd nn er K nk ck torn cut w
  · exact data_true kd on bt sd nn er K nk ck torn cut w

end Go.Proofs.Ytjopobkcijkpmaa
