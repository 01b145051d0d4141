/-
  The walk of PoolNone.
-/
import Derived.Test.YtmdgnjmhbjdlmaaPkA5
namespace Go.Proofs.Ytmdgnjmhbjdlmaa
open Go Go.RowKit

set_option maxRecDepth 100000 in
set_option maxHeartbeats 4000000 in
theorem PoolNone_any (page lsn : Int) (A : Option Addr) (n c : Nat) (w : World) :
    Calls Try.prog 6 #[.int .i64 page, .int .i64 lsn, .slice A n c] w fun e w' => e = .returned (.bool true) ∧ Below w.heap.size w w' := by
  have b2 := gr_alloc (gr_refl w) (.cells #[.pointer none, .pointer none, .int .i64 0, .int .i64 0, .int .i64 0, .int .i64 0, .nilFunc, .bool false, .slice none 0 0, .map none, .int .i64 0, .int .i64 0] 64)
  have x2 := heap_alloc_new w (.cells #[.pointer none, .pointer none, .int .i64 0, .int .i64 0, .int .i64 0, .int .i64 0, .nilFunc, .bool false, .slice none 0 0, .map none, .int .i64 0, .int .i64 0] 64)
  have s2 : (w.alloc (.cells #[.pointer none, .pointer none, .int .i64 0, .int .i64 0, .int .i64 0, .int .i64 0, .nilFunc, .bool false, .slice none 0 0, .map none, .int .i64 0, .int .i64 0] 64)).heap.size = w.heap.size + 1 := World.size_alloc _ _
  generalize hw2 : w.alloc (.cells #[.pointer none, .pointer none, .int .i64 0, .int .i64 0, .int .i64 0, .int .i64 0, .nilFunc, .bool false, .slice none 0 0, .map none, .int .i64 0, .int .i64 0] 64) = w2 at *
  have b3 := gr_alloc (gr_refl w2) (.cells #[.pointer none, .pointer (some ⟨w.heap.size, 0, none⟩)] 23)
  have x3 := heap_alloc_new w2 (.cells #[.pointer none, .pointer (some ⟨w.heap.size, 0, none⟩)] 23)
  rw [s2] at x3
  have X2 := Lib.hid ((b3.block _ (Array.getElem?_eq_some_iff.1 x2).1).trans x2)
  have X3 := Lib.hid x3
  have HB3 := Lib.hid (gr_trans b2 b3)
  generalize hw3 : w2.alloc (.cells #[.pointer none, .pointer (some ⟨w.heap.size, 0, none⟩)] 23) = w3 at *
  have HW : Hid ((w.alloc (.cells #[.pointer none, .pointer none, .int .i64 0, .int .i64 0, .int .i64 0, .int .i64 0, .nilFunc, .bool false, .slice none 0 0, .map none, .int .i64 0, .int .i64 0] 64)).alloc (.cells #[.pointer none, .pointer (some ⟨w.heap.size, 0, none⟩)] 23) = w3) := Lib.hid (by rw [hw2, hw3])
  clear b2 b3 x2 x3 s2 hw2 hw3
  go_enter Try.func6, Try.ntmps6
  go_wp2_with fail
  rw [HW.out]
  clear HW
  go_loopw [17] (fun x wr => ∃ j : Nat, j ≤ 2 ∧ x = .int .i64 (j : Int) ∧ Hid (Below w3.heap.size w3 wr)) (fun x _ => 2 - (RowKit.intOf x).toNat)
  case atStart => exact ⟨0, by omega, rfl, Lib.hid (gr_refl w3)⟩
  case round =>
    obtain ⟨j, hj, rfl, HBr⟩ := hrel
    by_cases hlt : j < 2
    · have t1 : decide ((j : Int) < 2) = true := decide_eq_true (by omega)
      obtain ⟨p, hc, hu⟩ : ∃ p, wr.cell? ⟨w.heap.size + 1, j, none⟩ = some (.pointer p) ∧ UnP p wr := by
        have e3 := (HBr.out.block _ (Array.getElem?_eq_some_iff.1 X3.out).1).trans X3.out
        have e2 := (HBr.out.block _ (Array.getElem?_eq_some_iff.1 X2.out).1).trans X2.out
        obtain h0 | h1 : j = 0 ∨ j = 1 := by omega
        · subst h0
          exact ⟨none, by rw [cell_of_row _ _ 0 _ _ _ e3]; rfl, .inl rfl⟩
        · subst h1
          exact ⟨some ⟨w.heap.size, 0, none⟩, by rw [cell_of_row _ _ 1 _ _ _ e3]; rfl, .inr ⟨_, rfl, by rw [cell_of_row _ _ 0 _ _ _ e2]; rfl⟩⟩
      have HU := Lib.hid hu
      have i1 : (0 : Int) ≤ (j : Int) := Int.natCast_nonneg _
      have i2 : (j : Int) < 2 := by omega
      have HLT := Lib.hid hlt
      clear hu hlt
      go_wp2_with fail
      refine (Get_un HU.out page).mono ?_
      rintro e w4 ⟨rfl, rfl⟩
      go_wp2_with fail
      refine (Set_un HU.out page lsn (.slice A n c)).mono ?_
      rintro e w4 ⟨rfl, rfl⟩
      go_wp2_with fail
      refine (Flush_un HU.out).mono ?_
      rintro e w4 ⟨rfl, rfl⟩
      go_wp2_with fail
      refine (Pages_un HU.out).mono ?_
      rintro e w4 ⟨rfl, rfl⟩
      go_wp2_with fail
      refine (Count_un HU.out).mono ?_
      rintro e w4 ⟨rfl, rfl⟩
      go_wp2_with fail
      refine (Held_un HU.out).mono ?_
      rintro e w4 ⟨rfl, rfl⟩
      go_wp2_with fail
      refine (Dirty_un HU.out).mono ?_
      rintro e w5 ⟨A5, c5, rfl, hb5⟩
      have HB5 := Lib.hid (HBr.out.trans (hb5.mono HBr.out.size))
      clear hb5 hc
      go_wp2_with fail
      go_roundw
      case rel => exact ⟨j + 1, HLT.out, by go_num, HB5⟩
      case measure => simp [RowKit.intOf]; have := HLT.out; omega
    · obtain rfl : j = 2 := by omega
      go_wp2_with fail
      refine (awake09_any wr).mono ?_
      rintro e w5 ⟨rfl, hb5⟩
      have HB5 := Lib.hid (gr_trans (HB3.out.trans (HBr.out.mono HB3.out.size)) hb5)
      clear hb5
      go_wp2_with fail
      go_ret
      exact ⟨rfl, HB5.out⟩
end Go.Proofs.Ytmdgnjmhbjdlmaa
