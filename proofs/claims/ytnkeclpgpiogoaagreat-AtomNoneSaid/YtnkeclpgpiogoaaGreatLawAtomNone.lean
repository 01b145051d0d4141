/-
  The walk of AtomNone.
-/
import Derived.Test.YtnkeclpgpiogoaaGreatPkB10
namespace Go.Proofs.YtnkeclpgpiogoaaGreat
open Go Go.RowKit
set_option maxRecDepth 100000 in
theorem unm_two (w : World) (z : Obj) (cs : Array Value) (t ta : TypeId) (hz : z = .cells cs t) (h0 : cs[0]? = some (.pointer none)) :
  Below w.heap.size w ((w.alloc z).alloc (.cells #[.pointer none, .pointer (some ⟨w.heap.size, 0, none⟩)] ta)) ∧
  ∀ wr, Below ((w.alloc z).alloc (.cells #[.pointer none, .pointer (some ⟨w.heap.size, 0, none⟩)] ta)).heap.size ((w.alloc z).alloc (.cells #[.pointer none, .pointer (some ⟨w.heap.size, 0, none⟩)] ta)) wr → ∀ j, j < 2 → ∃ p, wr.cell? ⟨w.heap.size + 1, j, none⟩ = some (.pointer p) ∧ Unm0 p wr := by
 subst hz
 have b2 := gr_alloc (gr_refl w) (.cells cs t)
 have x2 := heap_alloc_new w (.cells cs t)
 have s2 : (w.alloc (.cells cs t)).heap.size = w.heap.size + 1 := World.size_alloc _ _
 generalize w.alloc (.cells cs t) = w2 at *
 have b3 := gr_alloc (gr_refl w2) (.cells #[.pointer none, .pointer (some ⟨w.heap.size, 0, none⟩)] ta)
 have x3 := heap_alloc_new w2 (.cells #[.pointer none, .pointer (some ⟨w.heap.size, 0, none⟩)] ta)
 rw [s2] at x3
 have X2 := (b3.block _ (Array.getElem?_eq_some_iff.1 x2).1).trans x2
 generalize w2.alloc (.cells #[.pointer none, .pointer (some ⟨w.heap.size, 0, none⟩)] ta) = w3 at *
 refine ⟨gr_trans b2 b3, fun wr hb j hj => ?_⟩
 have e3 := (hb.block _ (Array.getElem?_eq_some_iff.1 x3).1).trans x3
 have e2 := (hb.block _ (Array.getElem?_eq_some_iff.1 X2).1).trans X2
 obtain h0' | h1 : j = 0 ∨ j = 1 := by omega
 ·subst h0'
  exact ⟨none, by rw [cell_of_row _ _ 0 _ _ _ e3]; rfl, .inl rfl⟩
 ·subst h1
  exact ⟨some ⟨w.heap.size, 0, none⟩, by rw [cell_of_row _ _ 1 _ _ _ e3]; rfl, .inr ⟨_, rfl, by rw [cell_of_row _ _ 0 _ _ _ e2]; exact h0⟩⟩
set_option maxRecDepth 100000 in
set_option maxHeartbeats 4000000 in
theorem AtomNone_any (page tx : Int) (A : Option Addr) (n c : Nat) (w : World) :
  Calls Tryz.prog 7 #[.int .i64 page, .int .i64 tx, .slice A n c] w fun e w' => e = .returned (.bool true) ∧ Below w.heap.size w w' := by
 have HT := Lib.hid (unm_two w (.cells #[.pointer none, .pointer none, .pointer none, .map none, .bool false] 88) _ _ 24 rfl rfl)
 have HTX := Lib.hid (fun W => unm_two W (.cells #[.pointer none, .pointer none, .map none, .int .u32 0, .int .i32 0, .int .u32 0, .bool false] 105) _ _ 27 rfl rfl)
 go_enter Tryz.func7, Tryz.ntmps7
 go_wp2_with fail
 generalize ((w.alloc (.cells #[.pointer none, .pointer none, .pointer none, .map none, .bool false] 88)).alloc (.cells #[.pointer none, .pointer (some ⟨w.heap.size, 0, none⟩)] 24)) = w3 at *
 go_loopw [22] (fun x wr => ∃ j : Nat, j ≤ 2 ∧ x = .int .i64 (j : Int) ∧ Hid (Below w3.heap.size w3 wr)) (fun x _ => 2 - (RowKit.intOf x).toNat)
 case atStart => exact ⟨0, by omega, rfl, Lib.hid (gr_refl w3)⟩
 case round =>
  obtain ⟨j, hj, rfl, HBr⟩ := hrel
  by_cases hlt : j < 2
  ·have t1 : decide ((j : Int) < 2) = true := decide_eq_true (by omega)
   obtain ⟨p, hc, hu⟩ := HT.out.2 wr HBr.out j hlt
   have HU := Lib.hid hu
   have i1 : (0 : Int) ≤ (j : Int) := Int.natCast_nonneg _
   have i2 : (j : Int) < 2 := by omega
   have HLT := Lib.hid hlt
   clear hu hlt
   go_wp2_with fail
   refine (Begin_un HU.out).mono ?_
   rintro e w4 ⟨rfl, rfl⟩
   go_wp2_with fail
   refine (Fresh_un HU.out).mono ?_
   rintro e w4 ⟨rfl, rfl⟩
   go_wp2_with fail
   refine (Imaged_un HU.out).mono ?_
   rintro e w4 ⟨rfl, rfl⟩
   go_wp2_with fail
   refine (ABroken_un HU.out).mono ?_
   rintro e w4 ⟨rfl, rfl⟩
   go_wp2_with fail
   go_roundw
   case rel => exact ⟨j + 1, HLT.out, by go_num, HBr⟩
   case measure => simp [RowKit.intOf]; have := HLT.out; omega
  ·obtain rfl : j = 2 := by omega
   have HW := Lib.hid (gr_trans HT.out.1 HBr.out)
   have HTY := Lib.hid (HTX.out wr)
   clear HT HBr HTX
   rw [show ((2 : Nat) : Int) = 2 from rfl]
   go_wp2_with fail
   generalize ((wr.alloc (.cells #[.pointer none, .pointer none, .map none, .int .u32 0, .int .i32 0, .int .u32 0, .bool false] 105)).alloc (.cells #[.pointer none, .pointer (some ⟨wr.heap.size, 0, none⟩)] 27)) = w5 at *
   go_loopw [50] (fun x wq => ∃ j : Nat, j ≤ 2 ∧ x = .int .i64 (j : Int) ∧ Hid (Below w5.heap.size w5 wq)) (fun x _ => 2 - (RowKit.intOf x).toNat)
   case atStart => exact ⟨0, by omega, rfl, Lib.hid (gr_refl w5)⟩
   case round =>
    obtain ⟨j, hj, rfl, HBq⟩ := hrel
    by_cases hlt : j < 2
    ·have t1 : decide ((j : Int) < 2) = true := decide_eq_true (by omega)
     obtain ⟨p, hc, hu⟩ := HTY.out.2 wr HBq.out j hlt
     have HU := Lib.hid hu
     have i1 : (0 : Int) ≤ (j : Int) := Int.natCast_nonneg _
     have i2 : (j : Int) < 2 := by omega
     have HLT := Lib.hid hlt
     clear hu hlt
     go_wp2_with fail
     refine (AGet_un HU.out page).mono ?_
     rintro e w4 ⟨rfl, rfl⟩
     go_wp2_with fail
     refine (Done_un HU.out tx).mono ?_
     rintro e w4 ⟨rfl, rfl⟩
     go_wp2_with fail
     refine (ASet_un HU.out page A n c).mono ?_
     rintro e w4 ⟨rfl, rfl⟩
     go_wp2_with fail
     refine (XPages_un HU.out).mono ?_
     rintro e w4 ⟨rfl, rfl⟩
     go_wp2_with fail
     refine (Changed_un HU.out).mono ?_
     rintro e w4 ⟨rfl, rfl⟩
     go_wp2_with fail
     refine (Over_un HU.out).mono ?_
     rintro e w4 ⟨rfl, rfl⟩
     go_wp2_with fail
     go_roundw
     case rel =>
      exact ⟨j + 1, HLT.out, by go_num, HBq⟩
     case measure => simp [RowKit.intOf]; have := HLT.out; omega
    ·obtain rfl : j = 2 := by omega
     have HW5 := Lib.hid (gr_trans HW.out (gr_trans HTY.out.1 HBq.out))
     clear HTY HBq
     go_wp2_with fail
     refine (awake10_any wr).mono ?_
     rintro e w7 ⟨rfl, hb7⟩
     have HB7 := Lib.hid (gr_trans HW5.out hb7)
     clear hb7
     go_wp2_with fail
     go_ret
     exact ⟨rfl, HB7.out⟩
end Go.Proofs.YtnkeclpgpiogoaaGreat
