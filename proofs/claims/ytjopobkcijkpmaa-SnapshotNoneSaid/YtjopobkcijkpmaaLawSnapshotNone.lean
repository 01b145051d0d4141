/-
  The walk of SnapshotNone.
-/
import Derived.Test.YtjopobkcijkpmaaSnK
namespace Go.Proofs.Ytjopobkcijkpmaa
open Go.RowKit

def noneT (g k : Nat) : Option Addr := if k = 0 then none else some ⟨g, 0, none⟩

set_option maxRecDepth 100000 in
set_option maxHeartbeats 2000000 in
theorem SnapshotNone_any (tx wt : Int) (w : World) :
    Calls Try.prog 14 #[.int .i64 tx, .int .i64 wt] w fun e w' => e = .returned (.bool true) ∧ Below w.heap.size w w' := by
  go_enter Try.func14, Try.ntmps14
  go_wp2_with fail
  have hW0 : Below w.heap.size w ((w.alloc (.cells #[.pointer none, .int .i64 0, .int .i64 0, .int .i64 0, .map none, .slice none 0 0, .slice none 0 0] 106)).alloc (.cells #[.pointer none, .pointer (some ⟨w.heap.size, 0, none⟩)] 48)) := gr_alloc (gr_alloc (gr_refl w) _) _
  have f0 : ((w.alloc (.cells #[.pointer none, .int .i64 0, .int .i64 0, .int .i64 0, .map none, .slice none 0 0, .slice none 0 0] 106)).alloc (.cells #[.pointer none, .pointer (some ⟨w.heap.size, 0, none⟩)] 48)).cell? ⟨w.heap.size, 0, none⟩ = some (.pointer none) := by go_simp
  have f1 : ((w.alloc (.cells #[.pointer none, .int .i64 0, .int .i64 0, .int .i64 0, .map none, .slice none 0 0, .slice none 0 0] 106)).alloc (.cells #[.pointer none, .pointer (some ⟨w.heap.size, 0, none⟩)] 48)).cell? ⟨w.heap.size + 1, 0, none⟩ = some (.pointer none) := by go_simp
  have f2 : ((w.alloc (.cells #[.pointer none, .int .i64 0, .int .i64 0, .int .i64 0, .map none, .slice none 0 0, .slice none 0 0] 106)).alloc (.cells #[.pointer none, .pointer (some ⟨w.heap.size, 0, none⟩)] 48)).cell? ⟨w.heap.size + 1, 1, none⟩ = some (.pointer (some ⟨w.heap.size, 0, none⟩)) := by go_simp
  generalize ((w.alloc (.cells #[.pointer none, .int .i64 0, .int .i64 0, .int .i64 0, .map none, .slice none 0 0, .slice none 0 0] 106)).alloc (.cells #[.pointer none, .pointer (some ⟨w.heap.size, 0, none⟩)] 48)) = W0 at *
  have HF := Lib.hid (And.intro f0 (And.intro f1 f2))
  clear f0 f1 f2
  go_loopw [15] (fun i wr => ∃ k : Nat, k ≤ 2 ∧ i = .int .i64 k ∧ W0 = wr) (fun i _ => 2 - (intOf i).toNat)
  case atStart => exact ⟨0, by omega, rfl, rfl⟩
  case round =>
    obtain ⟨k, hk, rfl, rfl⟩ := hrel
    by_cases hlt : k < 2
    · have hlt' : decide ((k : Int) < 2) = true := by simp; omega
      have hp : W0.cell? ⟨w.heap.size + 1, k, none⟩ = some (.pointer (noneT w.heap.size k)) := by
        obtain rfl | rfl : k = 0 ∨ k = 1 := by omega
        · exact HF.out.2.1
        · exact HF.out.2.2
      have hu : UnT (noneT w.heap.size k) W0 := by
        unfold noneT
        by_cases e : k = 0
        · rw [if_pos e]; exact .inl rfl
        · rw [if_neg e]; exact .inr ⟨_, rfl, HF.out.1⟩
      generalize noneT w.heap.size k = p at *
      go_wp2_with (first
        | ((with_reducible refine (Begin_un p _ hu).mono ?_); rintro e w' ⟨rfl, rfl⟩)
        | ((with_reducible refine (Commit_un p _ tx hu).mono ?_); rintro e w' ⟨rfl, rfl⟩)
        | ((with_reducible refine (Abort_un p _ tx hu).mono ?_); rintro e w' ⟨rfl, rfl⟩)
        | ((with_reducible refine (Kill_un p _ tx hu).mono ?_); rintro e w' ⟨rfl, rfl⟩)
        | ((with_reducible refine (Conflict_un p _ tx wt hu).mono ?_); rintro e w' ⟨rfl, rfl⟩)
        | ((with_reducible refine (IsOpen_un p _ tx hu).mono ?_); rintro e w' ⟨rfl, rfl⟩)
        | ((with_reducible refine (Visible_un p _ tx wt hu).mono ?_); rintro e w' ⟨rfl, rfl⟩)
        | ((with_reducible refine (ToAll_un p _ wt hu).mono ?_); rintro e w' ⟨rfl, rfl⟩)
        | ((with_reducible refine (Open_un p _ hu).mono ?_); rintro e w' ⟨rfl, rfl⟩)
        | ((with_reducible refine (Dead_un p _ hu).mono ?_); rintro e w' ⟨rfl, rfl⟩)
        | ((with_reducible refine (Bury_un p _ hu).mono ?_); rintro e w' ⟨rfl, rfl⟩)
        | ((with_reducible refine (Next_un p _ hu).mono ?_); rintro e w' ⟨rfl, rfl⟩))
      go_roundw
      case rel => exact ⟨k + 1, by omega, by go_num, by first | rfl | trivial⟩
      case measure => simp [intOf]; omega
    · have hlt' : decide ((k : Int) < 2) = false := by simp; omega
      go_wp2_with fail
      refine (awake14_any _).mono ?_
      rintro e w1 ⟨rfl, hb1⟩
      go_wp2
      go_ret
      exact ⟨rfl, gr_trans hW0 hb1⟩

end Go.Proofs.Ytjopobkcijkpmaa
