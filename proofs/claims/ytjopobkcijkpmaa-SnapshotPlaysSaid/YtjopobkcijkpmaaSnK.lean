/-
  Contract: chapter 14's awake.
-/
import Derived.Test.YtjopobkcijkpmaaSnJ
namespace Go.Proofs.Ytjopobkcijkpmaa
open Go.RowKit

def aw0 : TabS := newT 5 [2]
def aw1 : TabS := begT aw0
def aw2 : TabS := begT aw1
def aw3 : TabS := comT aw2 5
def aw4 : TabS := begT aw3

theorem rise_aw : Rise 0 5 [2] := by
  intro k hk
  obtain rfl : k = 0 := by simp at hk; omega
  simp

set_option maxRecDepth 100000 in
set_option maxHeartbeats 2000000 in
theorem awake14_any (w : World) :
    Calls Try.prog 38 #[] w fun e w' => e = .returned (.bool true) ∧ Below w.heap.size w w' := by
  have HIR : Hid (IR (w.alloc (.cells #[.int .i64 2] 3)) (some ⟨w.heap.size, 0, none⟩) 1 [2]) := Lib.hid (IR.litAt w _ [2] #[.int .i64 2] w.heap.size 1 rfl rfl rfl)
  go_enter Try.func38, Try.ntmps38
  go_wp2_with fail
  refine (New_ts (w0 := w) 5 _ 1 1 [2] (gr_alloc (gr_refl w) _) HIR.out (by omega) (by omega) (by omega) rise_aw).mono ?_
  rw [show newT 5 [2] = aw0 from rfl]
  rintro e w1 ⟨g, rfl, s⟩
  have X := Begin_ts s
  rw [show begN aw0 = 5 from by decide, show begE aw0 = 0 from by decide, show begT aw0 = aw1 from rfl] at X
  have HX := Lib.hid X
  clear X s
  go_wp2_with fail
  refine HX.out.mono ?_
  clear HX
  rintro e w2 ⟨rfl, s⟩
  have X := Begin_ts s
  rw [show begN aw1 = 6 from by decide, show begE aw1 = 0 from by decide, show begT aw1 = aw2 from rfl] at X
  have HX := Lib.hid X
  clear X s
  go_wp2_with fail
  refine HX.out.mono ?_
  clear HX
  rintro e w3 ⟨rfl, s⟩
  have X := Conflict_ts 6 5 s (by omega) (by omega) (by omega) (by omega)
  rw [show confE aw2 6 5 = 7 from by decide] at X
  have HX := Lib.hid X
  clear X s
  go_wp2_with fail
  refine HX.out.mono ?_
  clear HX
  rintro e w4 ⟨rfl, s⟩
  have X := Commit_ts 5 s (by omega) (by omega) (by decide) (by decide)
  rw [show askT aw2 5 = 0 from by decide, show comT aw2 5 = aw3 from rfl] at X
  have HX := Lib.hid X
  clear X s
  go_wp2_with fail
  refine HX.out.mono ?_
  clear HX
  rintro e w5 ⟨rfl, s⟩
  have X := Begin_ts s
  rw [show begN aw3 = 7 from by decide, show begE aw3 = 0 from by decide, show begT aw3 = aw4 from rfl] at X
  have HX := Lib.hid X
  clear X s
  go_wp2_with fail
  refine HX.out.mono ?_
  clear HX
  rintro e w6 ⟨rfl, s⟩
  have X := Conflict_ts 6 5 s (by omega) (by omega) (by omega) (by omega)
  rw [show confE aw4 6 5 = 8 from by decide] at X
  have HX := Lib.hid X
  clear X s
  go_wp2_with fail
  refine HX.out.mono ?_
  clear HX
  rintro e w7 ⟨rfl, s⟩
  have X := Visible_ts 7 5 s (by omega) (by omega) (by omega) (by omega)
  rw [show visB aw4 7 5 = true from by decide] at X
  have HX := Lib.hid X
  clear X s
  go_wp2_with fail
  refine HX.out.mono ?_
  clear HX
  rintro e w8 ⟨rfl, s⟩
  have X := Visible_ts 6 5 s (by omega) (by omega) (by omega) (by omega)
  rw [show visB aw4 6 5 = false from by decide] at X
  have HX := Lib.hid X
  clear X s
  go_wp2_with fail
  refine HX.out.mono ?_
  clear HX
  rintro e w9 ⟨rfl, s⟩
  have X := Visible_ts 6 1 s (by omega) (by omega) (by omega) (by omega)
  rw [show visB aw4 6 1 = true from by decide] at X
  have HX := Lib.hid X
  clear X s
  go_wp2_with fail
  refine HX.out.mono ?_
  clear HX
  rintro e w10 ⟨rfl, s⟩
  have X := Visible_ts 6 2 s (by omega) (by omega) (by omega) (by omega)
  rw [show visB aw4 6 2 = false from by decide] at X
  have HX := Lib.hid X
  clear X s
  go_wp2_with fail
  refine HX.out.mono ?_
  clear HX
  rintro e w11 ⟨rfl, s⟩
  go_wp2_with fail
  go_ret
  exact ⟨rfl, s.1⟩

end Go.Proofs.Ytjopobkcijkpmaa
