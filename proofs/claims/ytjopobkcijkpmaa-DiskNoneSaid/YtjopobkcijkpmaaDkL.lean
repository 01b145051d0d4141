/-
  Contracts: the calls upon a disk that New did not make.
-/
import Derived.Test.YtjopobkcijkpmaaDkK
namespace Go.Proofs.Ytjopobkcijkpmaa
open Go.RowKit

/-- None, or one of noughts. -/
def Unm (p : Option Addr) (w : World) : Prop := p = none ∨ ∃ g, p = some ⟨g, 0, none⟩ ∧ w.cell? ⟨g, 0, none⟩ = some (.pointer none)
theorem Unm.below {p : Option Addr} {w w' : World} (h : Unm p w) (hb : Below w.heap.size w w') : Unm p w' := by
  rcases h with h | ⟨g, e, h⟩
  · exact .inl h
  · exact .inr ⟨g, e, keep_of_below hb h⟩
theorem made_un {p : Option Addr} {w : World} (h : Unm p w) :
    Calls Try.prog 60 #[.pointer p] w fun e w' => e = .returned (.bool false) ∧ w = w' := by
  rcases h with rfl | ⟨g, rfl, h⟩
  · exact made_nil w
  · exact made_no g w h

set_option maxHeartbeats 400000 in
theorem asked_un (p : Option Addr) (w : World) (b : Int) (h : Unm p w) :
    Calls Try.prog 62 #[.pointer p, .int .i64 b] w fun e w' => e = .returned (.int .i64 1) ∧ w = w' := by
  have HM := Lib.hid (made_un h)
  clear h
  go_enter Try.func62, Try.ntmps62
  go_wp2_with fail
  refine HM.out.mono ?_
  rintro e w' ⟨rfl, rfl⟩
  go_wp2_with fail
  go_ret
  exact ⟨rfl, rfl⟩

set_option maxHeartbeats 400000 in
theorem Blocks_un (p : Option Addr) (w : World) (h : Unm p w) :
    Calls Try.prog 41 #[.pointer p] w fun e w' => e = .returned (.int .i64 0) ∧ w = w' := by
  have HM := Lib.hid (made_un h)
  clear h
  go_enter Try.func41, Try.ntmps41
  go_wp2_with fail
  refine HM.out.mono ?_
  rintro e w' ⟨rfl, rfl⟩
  go_wp2_with fail
  go_ret
  exact ⟨rfl, rfl⟩

set_option maxHeartbeats 400000 in
theorem Pending_un (p : Option Addr) (w : World) (h : Unm p w) :
    Calls Try.prog 22 #[.pointer p] w fun e w' => e = .returned (.int .i64 0) ∧ w = w' := by
  have HM := Lib.hid (made_un h)
  clear h
  go_enter Try.func22, Try.ntmps22
  go_wp2_with fail
  refine HM.out.mono ?_
  rintro e w' ⟨rfl, rfl⟩
  go_wp2_with fail
  go_ret
  exact ⟨rfl, rfl⟩

set_option maxHeartbeats 400000 in
theorem Sync_un (p : Option Addr) (w : World) (h : Unm p w) :
    Calls Try.prog 17 #[.pointer p] w fun e w' => e = .returned (.int .i64 1) ∧ w = w' := by
  have HM := Lib.hid (made_un h)
  clear h
  go_enter Try.func17, Try.ntmps17
  go_wp2_with fail
  refine HM.out.mono ?_
  rintro e w' ⟨rfl, rfl⟩
  go_wp2_with fail
  go_ret
  exact ⟨rfl, rfl⟩

set_option maxHeartbeats 400000 in
theorem Arm_un (p : Option Addr) (w : World) (n : Int) (h : Unm p w) :
    Calls Try.prog 43 #[.pointer p, .int .i64 n] w fun e w' => e = .returned (.int .i64 1) ∧ w = w' := by
  have HM := Lib.hid (made_un h)
  clear h
  go_enter Try.func43, Try.ntmps43
  go_wp2_with fail
  refine HM.out.mono ?_
  rintro e w' ⟨rfl, rfl⟩
  go_wp2_with fail
  go_ret
  exact ⟨rfl, rfl⟩

set_option maxHeartbeats 400000 in
theorem Fail_un (p : Option Addr) (w : World) (n e' : Int) (h : Unm p w) :
    Calls Try.prog 44 #[.pointer p, .int .i64 n, .int .i64 e'] w fun e w' => e = .returned (.int .i64 1) ∧ w = w' := by
  have HM := Lib.hid (made_un h)
  clear h
  go_enter Try.func44, Try.ntmps44
  go_wp2_with fail
  refine HM.out.mono ?_
  rintro e w' ⟨rfl, rfl⟩
  go_wp2_with fail
  go_ret
  exact ⟨rfl, rfl⟩

set_option maxHeartbeats 400000 in
theorem Copy_un (p : Option Addr) (w : World) (h : Unm p w) :
    Calls Try.prog 40 #[.pointer p] w fun e w' => e = .returned (.pointer none) ∧ w = w' := by
  have HM := Lib.hid (made_un h)
  clear h
  go_enter Try.func40, Try.ntmps40
  go_wp2_with fail
  refine HM.out.mono ?_
  rintro e w' ⟨rfl, rfl⟩
  go_wp2_with fail
  go_ret
  exact ⟨rfl, rfl⟩

set_option maxHeartbeats 400000 in
theorem Durable_un (p : Option Addr) (w : World) (b : Int) (h : Unm p w) :
    Calls Try.prog 25 #[.pointer p, .int .i64 b] w fun e w' => e = .returned (.tuple #[.slice none 0 0, .int .i64 1]) ∧ w = w' := by
  have HM := Lib.hid (asked_un p w b h)
  clear h
  go_enter Try.func25, Try.ntmps25
  go_wp2_with fail
  refine HM.out.mono ?_
  rintro e w' ⟨rfl, rfl⟩
  go_wp2_with fail
  go_ret2
  exact ⟨rfl, rfl⟩

set_option maxHeartbeats 400000 in
theorem Write_un (p : Option Addr) (w : World) (b : Int) (A : Option Addr) (n c : Nat) (h : Unm p w) :
    Calls Try.prog 20 #[.pointer p, .int .i64 b, .slice A n c] w fun e w' => e = .returned (.int .i64 1) ∧ w = w' := by
  have HM := Lib.hid (asked_un p w b h)
  clear h
  go_enter Try.func20, Try.ntmps20
  go_wp2_with fail
  refine HM.out.mono ?_
  rintro e w' ⟨rfl, rfl⟩
  go_wp2_with fail
  go_ret
  exact ⟨rfl, rfl⟩

set_option maxHeartbeats 400000 in
theorem Crash_un (p : Option Addr) (w : World) (K : Option Addr) (nk ck : Nat) (torn cut : Int) (h : Unm p w) :
    Calls Try.prog 23 #[.pointer p, .agg #[.slice K nk ck, .int .i64 torn, .int .i64 cut]] w fun e w' => e = .returned (.int .i64 1) ∧ Below w.heap.size w w' := by
  have hb1 := gr_alloc (gr_refl w) (.cells #[.slice K nk ck, .int .i64 torn, .int .i64 cut] 25)
  have HM := Lib.hid (made_un (h.below hb1))
  clear h
  go_enter Try.func23, Try.ntmps23
  go_wp2_with fail
  refine HM.out.mono ?_
  rintro e w' ⟨rfl, rfl⟩
  go_wp2_with fail
  go_ret
  exact ⟨rfl, hb1⟩

set_option maxHeartbeats 400000 in
theorem Read_un (p : Option Addr) (w : World) (b : Int) (h : Unm p w) :
    Calls Try.prog 24 #[.pointer p, .int .i64 b] w fun e w' => e = .returned (.tuple #[.slice none 0 0, .int .i64 1]) ∧ Below w.heap.size w w' := by
  have hb3 : Below w.heap.size w (((w.alloc (.cells #[.int .i64 b] 3)).alloc (.cells #[.slice none 0 0] 33)).alloc (.cells #[.int .i64 0] 28)) := gr_alloc (gr_alloc (gr_alloc (gr_refl w) _) _) _
  have HM := Lib.hid (asked_un p _ b (h.below hb3))
  clear h
  go_enter Try.func24, Try.ntmps24
  go_wp2_with fail
  refine HM.out.mono ?_
  rintro e w' ⟨rfl, rfl⟩
  go_wp2_with fail
  exact bodyPost_ret (v := .tuple #[.slice none 0 0, .int .i64 1]) (by simp [results, Try.results24, go_sem]) rfl ⟨rfl, gr_alloc (gr_alloc (gr_alloc (gr_refl w) _) _) _⟩

end Go.Proofs.Ytjopobkcijkpmaa
