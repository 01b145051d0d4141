/-
  The walk of JournalNone.
-/
import Derived.Test.YtlopcmmbkfjidaaPkE7
namespace Go.Proofs.Ytlopcmmbkfjidaa
open Go Go.RowKit

set_option maxRecDepth 100000 in
theorem JAppend_un {p : Option Addr} {w : World} (h : UnJ p w) (k tx : Int) (A : Option Addr) (n d : Nat) :
    Calls Try.prog 7 #[.pointer p, .agg #[.int .u8 k, .int .i64 tx, .slice A n d]] w fun e w' => e = .returned (.tuple #[.int .i64 0, .int .i64 1]) ∧ Below w.heap.size w w' := by
  have hb := gr_alloc (gr_refl w) (.cells #[.int .u8 k, .int .i64 tx, .slice A n d] 25)
  have HS := Lib.hid (stands_un (h.below hb))
  have HB := Lib.hid hb
  clear h hb
  go_enter Try.func7, Try.ntmps7
  go_wp2_with fail
  refine HS.out.mono ?_
  rintro e w2 ⟨rfl, rfl⟩
  go_wp2_with fail
  go_ret2
  exact ⟨rfl, HB.out⟩
set_option maxRecDepth 100000 in
theorem JFlush_un {p : Option Addr} {w : World} (h : UnJ p w) :
    Calls Try.prog 9 #[.pointer p] w fun e w' => e = .returned (.int .i64 1) ∧ w = w' := by
  have HS := Lib.hid (stands_un h)
  clear h
  go_enter Try.func9, Try.ntmps9
  go_wp2_with fail
  refine HS.out.mono ?_
  rintro e w2 ⟨rfl, rfl⟩
  go_wp2_with fail
  go_ret
  exact ⟨rfl, rfl⟩
set_option maxRecDepth 100000 in
theorem JFree_un {p : Option Addr} {w : World} (h : UnJ p w) :
    Calls Try.prog 10 #[.pointer p] w fun e w' => e = .returned (.int .i64 1) ∧ w = w' := by
  have HS := Lib.hid (stands_un h)
  clear h
  go_enter Try.func10, Try.ntmps10
  go_wp2_with fail
  refine HS.out.mono ?_
  rintro e w2 ⟨rfl, rfl⟩
  go_wp2_with fail
  go_ret
  exact ⟨rfl, rfl⟩

set_option maxRecDepth 100000 in
set_option maxHeartbeats 4000000 in
theorem JournalNone_any (k tx : Int) (A : Option Addr) (n d : Nat) (w : World) :
    Calls Try.prog 3 #[.agg #[.int .u8 k, .int .i64 tx, .slice A n d]] w fun e w' => e = .returned (.bool true) ∧ Below w.heap.size w w' := by
  have b1 := gr_alloc (gr_refl w) (.cells #[.int .u8 k, .int .i64 tx, .slice A n d] 25)
  have x1 := heap_alloc_new w (.cells #[.int .u8 k, .int .i64 tx, .slice A n d] 25)
  have s1 : (w.alloc (.cells #[.int .u8 k, .int .i64 tx, .slice A n d] 25)).heap.size = w.heap.size + 1 := World.size_alloc _ _
  generalize hw1 : w.alloc (.cells #[.int .u8 k, .int .i64 tx, .slice A n d] 25) = w1 at *
  have b2 := gr_alloc (gr_refl w1) (.cells #[.pointer none, .int .i64 0, .int .i64 0, .int .i64 0, .pointer none, .int .i64 0, .int .i64 0, .int .i64 0, .slice none 0 0, .int .i64 0, .int .i64 0, .bool false] 32)
  have x2 := heap_alloc_new w1 (.cells #[.pointer none, .int .i64 0, .int .i64 0, .int .i64 0, .pointer none, .int .i64 0, .int .i64 0, .int .i64 0, .slice none 0 0, .int .i64 0, .int .i64 0, .bool false] 32)
  have s2 : (w1.alloc (.cells #[.pointer none, .int .i64 0, .int .i64 0, .int .i64 0, .pointer none, .int .i64 0, .int .i64 0, .int .i64 0, .slice none 0 0, .int .i64 0, .int .i64 0, .bool false] 32)).heap.size = w.heap.size + 1 + 1 := by rw [World.size_alloc, s1]
  rw [s1] at x2
  have x1' := (b2.block _ (Array.getElem?_eq_some_iff.1 x1).1).trans x1
  generalize hw2 : w1.alloc (.cells #[.pointer none, .int .i64 0, .int .i64 0, .int .i64 0, .pointer none, .int .i64 0, .int .i64 0, .int .i64 0, .slice none 0 0, .int .i64 0, .int .i64 0, .bool false] 32) = w2 at *
  have b3 := gr_alloc (gr_refl w2) (.cells #[.pointer none, .pointer (some ⟨w.heap.size + 1, 0, none⟩)] 26)
  have x3 := heap_alloc_new w2 (.cells #[.pointer none, .pointer (some ⟨w.heap.size + 1, 0, none⟩)] 26)
  rw [s2] at x3
  have X1 := Lib.hid ((b3.block _ (Array.getElem?_eq_some_iff.1 x1').1).trans x1')
  have X2 := Lib.hid ((b3.block _ (Array.getElem?_eq_some_iff.1 x2).1).trans x2)
  have X3 := Lib.hid x3
  have HB3 := Lib.hid (gr_trans (gr_trans b1 b2) b3)
  generalize hw3 : w2.alloc (.cells #[.pointer none, .pointer (some ⟨w.heap.size + 1, 0, none⟩)] 26) = w3 at *
  have HW : Hid (((w.alloc (.cells #[.int .u8 k, .int .i64 tx, .slice A n d] 25)).alloc (.cells #[.pointer none, .int .i64 0, .int .i64 0, .int .i64 0, .pointer none, .int .i64 0, .int .i64 0, .int .i64 0, .slice none 0 0, .int .i64 0, .int .i64 0, .bool false] 32)).alloc (.cells #[.pointer none, .pointer (some ⟨w.heap.size + 1, 0, none⟩)] 26) = w3) := Lib.hid (by rw [hw1, hw2, hw3])
  clear b1 b2 b3 x1 x2 x3 x1' s1 s2 hw1 hw2 hw3
  go_enter Try.func3, Try.ntmps3
  go_wp2_with fail
  rw [HW.out]
  clear HW
  go_loopw [5, 6, 7, 8, 9, 15] (fun _ _ _ _ _ x wr => ∃ j : Nat, j ≤ 2 ∧ x = .int .i64 (j : Int) ∧ Hid (Below w3.heap.size w3 wr)) (fun _ _ _ _ _ x _ => 2 - (intOf x).toNat)
  case atStart => exact ⟨0, by omega, rfl, Lib.hid (gr_refl w3)⟩
  case round =>
    obtain ⟨j, hj, rfl, HBr⟩ := hrel
    by_cases hlt : j < 2
    · have t1 : decide ((j : Int) < 2) = true := decide_eq_true (by omega)
      obtain ⟨p, hc, hu⟩ : ∃ p, wr.cell? ⟨w.heap.size + 1 + 1, j, none⟩ = some (.pointer p) ∧ UnJ p wr := by
        have e3 := (HBr.out.block _ (Array.getElem?_eq_some_iff.1 X3.out).1).trans X3.out
        have e2 := (HBr.out.block _ (Array.getElem?_eq_some_iff.1 X2.out).1).trans X2.out
        obtain h0 | h1 : j = 0 ∨ j = 1 := by omega
        · subst h0
          exact ⟨none, by rw [cell_of_row _ _ 0 _ _ _ e3]; rfl, .inl rfl⟩
        · subst h1
          exact ⟨some ⟨w.heap.size + 1, 0, none⟩, by rw [cell_of_row _ _ 1 _ _ _ e3]; rfl, .inr ⟨_, rfl, by rw [cell_of_row _ _ 4 _ _ _ e2]; rfl⟩⟩
      have HU := Lib.hid hu
      have e1 := (HBr.out.block _ (Array.getElem?_eq_some_iff.1 X1.out).1).trans X1.out
      have c0 : wr.cell? ⟨w.heap.size, 0, none⟩ = some (.int .u8 k) := by rw [cell_of_row _ _ 0 _ _ _ e1]; rfl
      have c1 : wr.cell? ⟨w.heap.size, 1, none⟩ = some (.int .i64 tx) := by rw [cell_of_row _ _ 1 _ _ _ e1]; rfl
      have c2 : wr.cell? ⟨w.heap.size, 2, none⟩ = some (.slice A n d) := by rw [cell_of_row _ _ 2 _ _ _ e1]; rfl
      have i1 : (0 : Int) ≤ (j : Int) := Int.natCast_nonneg _
      have i2 : (j : Int) < 2 := by omega
      have HLT := Lib.hid hlt
      clear hu e1 hlt
      go_wp2_with fail
      refine (JAppend_un HU.out k tx A n d).mono ?_
      rintro e w4 ⟨rfl, hb4⟩
      have HU4 := Lib.hid (HU.out.below hb4)
      have HB4 := Lib.hid (HBr.out.trans (hb4.mono HBr.out.size))
      clear hb4 c0 c1 c2 hc
      go_wp2_with fail
      refine (At_un HU4.out).mono ?_
      rintro e w5 ⟨rfl, rfl⟩
      go_wp2_with fail
      refine (JFlush_un HU4.out).mono ?_
      rintro e w5 ⟨rfl, rfl⟩
      go_wp2_with fail
      refine (JFree_un HU4.out).mono ?_
      rintro e w5 ⟨rfl, rfl⟩
      go_wp2_with fail
      refine (Last_un HU4.out).mono ?_
      rintro e w5 ⟨rfl, rfl⟩
      go_wp2_with fail
      refine (Synced_un HU4.out).mono ?_
      rintro e w5 ⟨rfl, rfl⟩
      go_wp2_with fail
      refine (Room_un HU4.out).mono ?_
      rintro e w5 ⟨rfl, rfl⟩
      go_wp2_with fail
      refine (Broken_un HU4.out).mono ?_
      rintro e w5 ⟨rfl, rfl⟩
      go_wp2_with fail
      go_roundw
      case rel => exact ⟨j + 1, HLT.out, by go_num, HB4⟩
      case measure => simp [intOf]; have := HLT.out; omega
    · obtain rfl : j = 2 := by omega
      go_wp2_with fail
      refine (awake06_any wr).mono ?_
      rintro e w5 ⟨rfl, hb5⟩
      have HB5 := Lib.hid (gr_trans (HB3.out.trans (HBr.out.mono HB3.out.size)) hb5)
      clear hb5
      go_wp2_with fail
      go_ret
      exact ⟨rfl, HB5.out⟩
end Go.Proofs.Ytlopcmmbkfjidaa
