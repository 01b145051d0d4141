/-
  The walk of DiskNone.
-/
import Derived.Test.YtjopobkcijkpmaaDkL
namespace Go.Proofs.Ytjopobkcijkpmaa
open Go.RowKit

def nonePtr (g k : Nat) : Option Addr := if k = 0 then none else some ⟨g, 0, none⟩

set_option maxRecDepth 100000 in
set_option maxHeartbeats 2000000 in
theorem DiskNone_any (b n : Int) (A : Option Addr) (m c : Nat) (K : Option Addr) (nk ck : Nat) (torn cut : Int) (w : World) :
    Calls Try.prog 10 #[.int .i64 b, .int .i64 n, .slice A m c, .agg #[.slice K nk ck, .int .i64 torn, .int .i64 cut]] w fun e w' => e = .returned (.bool true) ∧ Below w.heap.size w w' := by
  go_enter Try.func10, Try.ntmps10
  go_wp2_with fail
  have hW0 : Below w.heap.size w (((w.alloc (.cells #[.slice K nk ck, .int .i64 torn, .int .i64 cut] 25)).alloc (.cells #[.pointer none, .slice none 0 0, .slice none 0 0, .bool false, .int .i64 0, .int .i64 0, .int .i64 0] 83)).alloc (.cells #[.pointer none, .pointer (some ⟨w.heap.size + 1, 0, none⟩)] 27)) := gr_alloc (gr_alloc (gr_alloc (gr_refl w) _) _) _
  have f0 : (((w.alloc (.cells #[.slice K nk ck, .int .i64 torn, .int .i64 cut] 25)).alloc (.cells #[.pointer none, .slice none 0 0, .slice none 0 0, .bool false, .int .i64 0, .int .i64 0, .int .i64 0] 83)).alloc (.cells #[.pointer none, .pointer (some ⟨w.heap.size + 1, 0, none⟩)] 27)).cell? ⟨w.heap.size + 1, 0, none⟩ = some (.pointer none) := by go_simp
  have f1 : (((w.alloc (.cells #[.slice K nk ck, .int .i64 torn, .int .i64 cut] 25)).alloc (.cells #[.pointer none, .slice none 0 0, .slice none 0 0, .bool false, .int .i64 0, .int .i64 0, .int .i64 0] 83)).alloc (.cells #[.pointer none, .pointer (some ⟨w.heap.size + 1, 0, none⟩)] 27)).cell? ⟨w.heap.size + 1 + 1, 0, none⟩ = some (.pointer none) := by go_simp
  have f2 : (((w.alloc (.cells #[.slice K nk ck, .int .i64 torn, .int .i64 cut] 25)).alloc (.cells #[.pointer none, .slice none 0 0, .slice none 0 0, .bool false, .int .i64 0, .int .i64 0, .int .i64 0] 83)).alloc (.cells #[.pointer none, .pointer (some ⟨w.heap.size + 1, 0, none⟩)] 27)).cell? ⟨w.heap.size + 1 + 1, 1, none⟩ = some (.pointer (some ⟨w.heap.size + 1, 0, none⟩)) := by go_simp
  have f3 : (((w.alloc (.cells #[.slice K nk ck, .int .i64 torn, .int .i64 cut] 25)).alloc (.cells #[.pointer none, .slice none 0 0, .slice none 0 0, .bool false, .int .i64 0, .int .i64 0, .int .i64 0] 83)).alloc (.cells #[.pointer none, .pointer (some ⟨w.heap.size + 1, 0, none⟩)] 27)).heap[w.heap.size]? = some (.cells #[.slice K nk ck, .int .i64 torn, .int .i64 cut] 25 (0, 0)) :=
    (Below.heap_alloc _ _ _ (by simp; omega)).trans ((Below.heap_alloc _ _ _ (by simp)).trans (heap_alloc_new w _))
  generalize (((w.alloc (.cells #[.slice K nk ck, .int .i64 torn, .int .i64 cut] 25)).alloc (.cells #[.pointer none, .slice none 0 0, .slice none 0 0, .bool false, .int .i64 0, .int .i64 0, .int .i64 0] 83)).alloc (.cells #[.pointer none, .pointer (some ⟨w.heap.size + 1, 0, none⟩)] 27)) = W0 at *
  have HF := Lib.hid (And.intro f0 (And.intro f1 (And.intro f2 f3)))
  clear f0 f1 f2 f3
  go_loopw [21] (fun i wr => ∃ k : Nat, k ≤ 2 ∧ i = .int .i64 k ∧ Below W0.heap.size W0 wr) (fun i _ => 2 - (intOf i).toNat)
  case atStart => exact ⟨0, by omega, rfl, gr_refl _⟩
  case round =>
    obtain ⟨k, hk, rfl, hb⟩ := hrel
    by_cases hlt : k < 2
    · have hlt' : decide ((k : Int) < 2) = true := by simp; omega
      have hp : wr.cell? ⟨w.heap.size + 1 + 1, k, none⟩ = some (.pointer (nonePtr (w.heap.size + 1) k)) := by
        obtain rfl | rfl : k = 0 ∨ k = 1 := by omega
        · exact keep_of_below hb HF.out.2.1
        · exact keep_of_below hb HF.out.2.2.1
      have hu : Unm (nonePtr (w.heap.size + 1) k) wr := by
        unfold nonePtr
        by_cases e : k = 0
        · rw [if_pos e]; exact .inl rfl
        · rw [if_neg e]; exact .inr ⟨_, rfl, keep_of_below hb HF.out.1⟩
      generalize nonePtr (w.heap.size + 1) k = p at *
      have hx3 := (hb.block _ (Array.getElem?_eq_some_iff.1 HF.out.2.2.2).1).trans HF.out.2.2.2
      go_wp2_with fail
      refine (Read_un p _ b hu).mono ?_
      rintro e w1 ⟨rfl, hb1⟩
      have hu1 := hu.below hb1
      have hx4 := (hb1.block _ (Array.getElem?_eq_some_iff.1 hx3).1).trans hx3
      have y0 : w1.cell? ⟨w.heap.size, 0, none⟩ = some (.slice K nk ck) := by rw [cell_of_row _ _ 0 _ _ _ hx4]; rfl
      have y1 : w1.cell? ⟨w.heap.size, 1, none⟩ = some (.int .i64 torn) := by rw [cell_of_row _ _ 1 _ _ _ hx4]; rfl
      have y2 : w1.cell? ⟨w.heap.size, 2, none⟩ = some (.int .i64 cut) := by rw [cell_of_row _ _ 2 _ _ _ hx4]; rfl
      clear hp hu hx3 hx4
      go_wp2_with fail
      refine (Durable_un p _ b hu1).mono ?_
      rintro e w' ⟨rfl, rfl⟩
      go_wp2_with fail
      refine (Write_un p _ b A m c hu1).mono ?_
      rintro e w' ⟨rfl, rfl⟩
      go_wp2_with fail
      refine (Sync_un p _ hu1).mono ?_
      rintro e w' ⟨rfl, rfl⟩
      go_wp2_with fail
      refine (Arm_un p _ n hu1).mono ?_
      rintro e w' ⟨rfl, rfl⟩
      go_wp2_with fail
      refine (Fail_un p _ n 4 hu1).mono ?_
      rintro e w' ⟨rfl, rfl⟩
      go_wp2_with fail
      refine (Crash_un p _ K nk ck torn cut hu1).mono ?_
      rintro e w2 ⟨rfl, hb2⟩
      have hu2 := hu1.below hb2
      clear y0 y1 y2 hu1
      go_wp2_with fail
      refine (Blocks_un p _ hu2).mono ?_
      rintro e w' ⟨rfl, rfl⟩
      go_wp2_with fail
      refine (Pending_un p _ hu2).mono ?_
      rintro e w' ⟨rfl, rfl⟩
      go_wp2_with fail
      refine (Copy_un p _ hu2).mono ?_
      rintro e w' ⟨rfl, rfl⟩
      go_wp2_with fail
      go_roundw
      case rel => exact ⟨k + 1, by omega, by go_num, gr_trans (gr_trans hb hb1) hb2⟩
      case measure => simp [intOf]; omega
    · have hlt' : decide ((k : Int) < 2) = false := by simp; omega
      go_wp2_with fail
      refine (awake03_any _).mono ?_
      rintro e w1 ⟨rfl, hb1⟩
      go_wp2
      go_ret
      exact ⟨rfl, gr_trans (gr_trans hW0 hb) hb1⟩

end Go.Proofs.Ytjopobkcijkpmaa
