/-
  Words for memory: what turns in a set of blocks alone; a disk's own block. Contracts: atomic.Int64's Store and Load, disk's made, disarm, stops, operation.
-/
import Derived.Test.YtjopobkcijkpmaaLow
import Derived.Test.YtjopobkcijkpmaaOff
import Derived.Laws.LoneSync
import Derived.Laws.Pointers
import Derived.LaidEqlPtr
import Derived.RangeFuncBox
namespace Go.Proofs.Ytjopobkcijkpmaa
open Go.RowKit

/-- A disk's own block. -/
def DB (w : World) (g : Nat) (dv pv : Value) (dn : Bool) (po fa wi : Int) : Prop :=
  w.heap[g]? = some (.cells #[.pointer (some ⟨g, 0, none⟩), dv, pv, .bool dn, .int .i64 po, .int .i64 fa, .int .i64 wi] 83 (0, 0))

section
variable {w w' : World} {g : Nat} {dv pv : Value} {dn : Bool} {po fa wi : Int}
theorem DB.lt (h : DB w g dv pv dn po fa wi) : g < w.heap.size := (Array.getElem?_eq_some_iff.1 h).1
theorem DB.off {S : Nat → Prop} (h : DB w g dv pv dn po fa wi) (ho : Off S w w') (hg : ¬ S g) : DB w' g dv pv dn po fa wi := (ho.block g h.lt hg).trans h
theorem DB.below (h : DB w g dv pv dn po fa wi) (hb : Below w.heap.size w w') : DB w' g dv pv dn po fa wi := (hb.block g h.lt).trans h
theorem DB.frozen (h : DB w g dv pv dn po fa wi) (j : Nat) : w.frozen? ⟨g, j, none⟩ = false := by unfold DB at h; simp [World.frozen?, h]
theorem DB.c0 (h : DB w g dv pv dn po fa wi) : w.cell? ⟨g, 0, none⟩ = some (.pointer (some ⟨g, 0, none⟩)) := by rw [cell_of_row w g 0 _ _ _ h]; rfl
theorem DB.c1 (h : DB w g dv pv dn po fa wi) : w.cell? ⟨g, 1, none⟩ = some dv := by rw [cell_of_row w g 1 _ _ _ h]; rfl
theorem DB.c2 (h : DB w g dv pv dn po fa wi) : w.cell? ⟨g, 2, none⟩ = some pv := by rw [cell_of_row w g 2 _ _ _ h]; rfl
theorem DB.c3 (h : DB w g dv pv dn po fa wi) : w.cell? ⟨g, 3, none⟩ = some (.bool dn) := by rw [cell_of_row w g 3 _ _ _ h]; rfl
theorem DB.c4 (h : DB w g dv pv dn po fa wi) : w.cell? ⟨g, 4, none⟩ = some (.int .i64 po) := by rw [cell_of_row w g 4 _ _ _ h]; rfl
theorem DB.c5 (h : DB w g dv pv dn po fa wi) : w.cell? ⟨g, 5, none⟩ = some (.int .i64 fa) := by rw [cell_of_row w g 5 _ _ _ h]; rfl
theorem DB.c6 (h : DB w g dv pv dn po fa wi) : w.cell? ⟨g, 6, none⟩ = some (.int .i64 wi) := by rw [cell_of_row w g 6 _ _ _ h]; rfl
theorem DB.s2 (h : DB w g dv pv dn po fa wi) (v : Value) : DB (w.setCell ⟨g, 2, none⟩ v) g dv v dn po fa wi := by unfold DB at h ⊢; simp only [World.setCell, Array.getElem?_modify, if_pos, h]; rfl
theorem DB.s3 (h : DB w g dv pv dn po fa wi) (b : Bool) : DB (w.setCell ⟨g, 3, none⟩ (.bool b)) g dv pv b po fa wi := by unfold DB at h ⊢; simp only [World.setCell, Array.getElem?_modify, if_pos, h]; rfl
theorem DB.s4 (h : DB w g dv pv dn po fa wi) (n : Int) : DB (w.setCell ⟨g, 4, none⟩ (.int .i64 n)) g dv pv dn n fa wi := by unfold DB at h ⊢; simp only [World.setCell, Array.getElem?_modify, if_pos, h]; rfl
theorem DB.s5 (h : DB w g dv pv dn po fa wi) (n : Int) : DB (w.setCell ⟨g, 5, none⟩ (.int .i64 n)) g dv pv dn po n wi := by unfold DB at h ⊢; simp only [World.setCell, Array.getElem?_modify, if_pos, h]; rfl
theorem DB.s6 (h : DB w g dv pv dn po fa wi) (n : Int) : DB (w.setCell ⟨g, 6, none⟩ (.int .i64 n)) g dv pv dn po fa n := by unfold DB at h ⊢; simp only [World.setCell, Array.getElem?_modify, if_pos, h]; rfl
end

set_option maxHeartbeats 400000 in
theorem aStore_any (a : Addr) (v : Int) (u : Value) (w : World) (hc : w.cell? a = some u) (hz : w.frozen? a = false) :
    Calls Try.prog 67 #[.pointer (some a), .int .i64 v] w fun e w' => (∃ x, e = .returned x) ∧ w.setCell a (.int .i64 v) = w' := by
  obtain ⟨g, o, rfl⟩ : ∃ g o, a = ⟨g, o, none⟩ := by
    obtain ⟨g, o, sp⟩ := a
    have := World.cell?_spot hc
    dsimp only at this
    subst this
    exact ⟨g, o, rfl⟩
  have hs := run_call_store (P := Try.prog) Try.func97 (by kernel_rfl) (by kernel_rfl) (by kernel_rfl) (by kernel_rfl) (k := .i64) (y := v) hc hz
  go_enter Try.func67, Try.ntmps67
  go_wp2_with fail
  go_end0
  exact ⟨⟨_, rfl⟩, rfl⟩

set_option maxHeartbeats 400000 in
theorem aLoad_any (a : Addr) (v : Int) (w : World) (hc : w.cell? a = some (.int .i64 v)) :
    Calls Try.prog 75 #[.pointer (some a)] w fun e w' => e = .returned (.int .i64 v) ∧ w = w' := by
  obtain ⟨g, o, rfl⟩ : ∃ g o, a = ⟨g, o, none⟩ := by
    obtain ⟨g, o, sp⟩ := a
    have := World.cell?_spot hc
    dsimp only at this
    subst this
    exact ⟨g, o, rfl⟩
  have hs := run_call_load (P := Try.prog) Try.func101 (by kernel_rfl) (by kernel_rfl) (by kernel_rfl) .i64 (by kernel_rfl) hc
  go_enter Try.func75, Try.ntmps75
  go_wp2_with fail
  go_ret
  exact ⟨rfl, rfl⟩

theorem info_disk : (Try.prog.info? 83).map (fun i => (i.size, i.bytes)) = some (7, 88) := by kernel_rfl
theorem eql_self (W : World) (a : Addr) : (binOp .eql 27 (.pointer (some a)) (.pointer (some a))).run Try.prog W = .ok (.bool true) W := by
  obtain ⟨j, hj⟩ : ∃ j, Try.prog.info? 83 = some j := by
    have := info_disk
    cases h : Try.prog.info? 83 with
    | none => rw [h] at this; cases this
    | some j => exact ⟨j, rfl⟩
  exact run_eql_ptr_same W a Try.underlying27 hj
theorem eql_nil (W : World) (a : Addr) : (binOp .eql 27 (.pointer none) (.pointer (some a))).run Try.prog W = .ok (.bool false) W := by
  have h : ∀ d : Nat, (Op.equalIn (d + 1) 27 (.pointer none) (.pointer (some a))).run Try.prog W = .ok false W := fun d => by
    simp [Op.equalIn, run_underlying Try.underlying27]
  simp only [binOp]
  simp [Op.equal, Op.maxDepth, h 9999]

set_option maxHeartbeats 400000 in
theorem made_yes (g : Nat) (w : World) (h0 : w.cell? ⟨g, 0, none⟩ = some (.pointer (some ⟨g, 0, none⟩))) :
    Calls Try.prog 60 #[.pointer (some ⟨g, 0, none⟩)] w fun e w' => e = .returned (.bool true) ∧ w = w' := by
  have hq := fun W => eql_self W ⟨g, 0, none⟩
  go_enter Try.func60, Try.ntmps60
  go_wp2_with fail
  go_ret
  exact ⟨rfl, rfl⟩

set_option maxHeartbeats 400000 in
theorem made_nil (w : World) :
    Calls Try.prog 60 #[.pointer none] w fun e w' => e = .returned (.bool false) ∧ w = w' := by
  go_enter Try.func60, Try.ntmps60
  go_wp2_with fail
  go_ret
  exact ⟨rfl, rfl⟩

set_option maxHeartbeats 400000 in
theorem made_no (g : Nat) (w : World) (h0 : w.cell? ⟨g, 0, none⟩ = some (.pointer none)) :
    Calls Try.prog 60 #[.pointer (some ⟨g, 0, none⟩)] w fun e w' => e = .returned (.bool false) ∧ w = w' := by
  have hq := fun W => eql_nil W ⟨g, 0, none⟩
  go_enter Try.func60, Try.ntmps60
  go_wp2_with fail
  go_ret
  exact ⟨rfl, rfl⟩

set_option maxHeartbeats 400000 in
theorem disarm_any (g : Nat) (dv pv : Value) (dn : Bool) (po fa wi : Int) (w : World) (h : DB w g dv pv dn po fa wi) :
    Calls Try.prog 64 #[.pointer (some ⟨g, 0, none⟩)] w fun e w' => (∃ x, e = .returned x) ∧ DB w' g dv pv dn (-1) (-1) 0 ∧ Off (· = g) w w' := by
  go_enter Try.func64, Try.ntmps64
  go_wp2_with fail
  refine (aStore_any ⟨g, 4, none⟩ (-1) _ w h.c4 (h.frozen 4)).mono ?_
  rintro e w1 ⟨⟨x, rfl⟩, rfl⟩
  have h1 := h.s4 (-1)
  have o1 : Off (· = g) w (w.setCell ⟨g, 4, none⟩ (.int .i64 (-1))) := (Off.refl _ w).setCell _ rfl
  generalize w.setCell ⟨g, 4, none⟩ (.int .i64 (-1)) = w1 at *
  go_wp2_with fail
  refine (aStore_any ⟨g, 5, none⟩ (-1) _ w1 h1.c5 (h1.frozen 5)).mono ?_
  rintro e w2 ⟨⟨y, rfl⟩, rfl⟩
  have h2 := h1.s5 (-1)
  have o2 : Off (· = g) w (w1.setCell ⟨g, 5, none⟩ (.int .i64 (-1))) := o1.setCell _ rfl
  generalize w1.setCell ⟨g, 5, none⟩ (.int .i64 (-1)) = w2 at *
  have c6 := h2.c6
  have z6 := h2.frozen 6
  have H3 := Lib.hid (h2.s6 0)
  have o3 : Off (· = g) w (w2.setCell ⟨g, 6, none⟩ (.int .i64 0)) := o2.setCell _ rfl
  go_wp2_with fail
  go_end0
  exact ⟨⟨_, rfl⟩, H3.out, o3⟩

/-- What is left of what is armed, and whether it stops this one. -/
def stL (n : Int) : Int := if n = -1 then -1 else n - 1
def stB (n : Int) : Bool := n == 0

set_option maxHeartbeats 400000 in
theorem stops_any (g j : Nat) (n : Int) (w : World) (hc : w.cell? ⟨g, j, none⟩ = some (.int .i64 n)) (hz : w.frozen? ⟨g, j, none⟩ = false) (h1 : -1 ≤ n) (h2 : n ≤ 9223372036854775807) :
    Calls Try.prog 95 #[.pointer (some ⟨g, j, none⟩)] w fun e w' => e = .returned (.bool (stB n)) ∧ ((n = -1 ∧ w = w') ∨ (n ≠ -1 ∧ w.setCell ⟨g, j, none⟩ (.int .i64 (stL n)) = w')) := by
  by_cases hn : n = -1
  · subst hn
    go_enter Try.func95, Try.ntmps95
    go_wp2_with fail
    refine (aLoad_any _ _ w hc).mono ?_
    rintro e w' ⟨rfl, rfl⟩
    go_wp2_with fail
    go_ret
    exact ⟨rfl, .inl (by simp)⟩
  · have t1 : (n == -1) = false := beq_eq_false_iff_ne.2 hn
    have hst : stL n = n - 1 := if_neg hn
    have HST := Lib.hid hst
    clear hst
    go_enter Try.func95, Try.ntmps95
    go_wp2_with fail
    refine (aLoad_any _ _ w hc).mono ?_
    rintro e w' ⟨rfl, rfl⟩
    go_wp2_with fail
    refine (aStore_any _ _ _ w hc hz).mono ?_
    rintro e w' ⟨⟨x, rfl⟩, rfl⟩
    go_wp2_with fail
    go_ret
    exact ⟨rfl, .inr ⟨hn, by rw [HST.out]⟩⟩

/-- An operation: what it is answered, whether the disk is down behind it, what is left of what was armed. -/
def opE (dn : Bool) (po fa wi : Int) : Int := if dn then 6 else if stB po then 6 else if stB fa then wi else 0
def opD (dn : Bool) (po : Int) : Bool := dn || stB po
def opL (dn : Bool) (n : Int) : Int := if dn then n else stL n

set_option maxRecDepth 100000 in
set_option maxHeartbeats 1000000 in
theorem operation_any (g : Nat) (dv pv : Value) (dn : Bool) (po fa wi : Int) (w : World) (h : DB w g dv pv dn po fa wi) (h1 : -1 ≤ po) (h2 : po ≤ 9223372036854775807) (h3 : -1 ≤ fa) (h4 : fa ≤ 9223372036854775807) :
    Calls Try.prog 61 #[.pointer (some ⟨g, 0, none⟩)] w fun e w' => e = .returned (.int .i64 (opE dn po fa wi)) ∧ DB w' g dv pv (opD dn po) (opL dn po) (opL dn fa) wi ∧ Off (· = g) w w' := by
  cases dn with
  | true =>
    have c3 := h.c3
    go_enter Try.func61, Try.ntmps61
    go_wp2_with fail
    go_ret
    exact ⟨rfl, h, Off.refl _ _⟩
  | false =>
    have c3 := h.c3
    have hS1 : ∀ w1 : World, DB w1 g dv pv false po fa wi → Calls Try.prog 95 #[.pointer (some ⟨g, 4, none⟩)] w1 fun e w2 => e = .returned (.bool (stB po)) ∧ DB w2 g dv pv false (stL po) fa wi ∧ Off (· = g) w1 w2 := by
      intro w1 hw1
      refine (stops_any g 4 po w1 hw1.c4 (hw1.frozen 4) h1 h2).mono ?_
      rintro e w2 ⟨rfl, ⟨rfl, rfl⟩ | ⟨hn, rfl⟩⟩
      · exact ⟨rfl, hw1, Off.refl _ _⟩
      · exact ⟨rfl, hw1.s4 _, (Off.refl _ w1).setCell _ rfl⟩
    have hS2 : ∀ w1 : World, DB w1 g dv pv false (stL po) fa wi → Calls Try.prog 95 #[.pointer (some ⟨g, 5, none⟩)] w1 fun e w2 => e = .returned (.bool (stB fa)) ∧ DB w2 g dv pv false (stL po) (stL fa) wi ∧ Off (· = g) w1 w2 := by
      intro w1 hw1
      refine (stops_any g 5 fa w1 hw1.c5 (hw1.frozen 5) h3 h4).mono ?_
      rintro e w2 ⟨rfl, ⟨rfl, rfl⟩ | ⟨hn, rfl⟩⟩
      · exact ⟨rfl, hw1, Off.refl _ _⟩
      · exact ⟨rfl, hw1.s5 _, (Off.refl _ w1).setCell _ rfl⟩
    have HS1 := Lib.hid hS1
    have HS2 := Lib.hid hS2
    have hd : DB w.drew g dv pv false po fa wi := h
    have HE : Hid (opE false po fa wi = if stB po then 6 else if stB fa then wi else 0) := Lib.hid rfl
    have HD : Hid (opD false po = stB po) := Lib.hid rfl
    have HL1 : Hid (opL false po = stL po) := Lib.hid rfl
    have HL2 : Hid (opL false fa = stL fa) := Lib.hid rfl
    clear hS1 hS2
    generalize opE false po fa wi = oe at *
    generalize opD false po = od at *
    generalize opL false po = o1 at *
    generalize opL false fa = o2 at *
    generalize hb1 : stB po = b1 at *
    generalize hb2 : stB fa = b2 at *
    clear hb1 hb2
    go_enter Try.func61, Try.ntmps61
    go_wp2_with fail
    go_region_with (first | ((with_reducible refine (HS1.out _ (by exact hd)).mono ?_); rintro e w1 ⟨rfl, hd1, ho1⟩) | ((with_reducible refine (HS2.out _ (by exact hd1)).mono ?_); rintro e w2 ⟨rfl, hd2, ho2⟩))
    have ho12 := (show Off (· = g) w w1 from ⟨ho1.os, ho1.tape, ho1.output, ho1.size, ho1.block⟩).trans ho2
    have e3 := hd2.c3
    have z3 := hd2.frozen 3
    have e6 := hd2.c6
    have HX := Lib.hid (hd2.s3 true)
    have ho3 : Off (· = g) w (w2.setCell ⟨g, 3, none⟩ (.bool true)) := ho12.setCell _ rfl
    cases b1 with
    | true =>
      go_wp2_with fail
      go_ret
      exact ⟨ret_i (by rw [HE.out]; rfl), by rw [HD.out, HL1.out, HL2.out]; exact HX.out, ho3⟩
    | false =>
      cases b2 with
      | true =>
        go_wp2_with fail
        go_ret
        exact ⟨ret_i (by rw [HE.out]; rfl), by rw [HD.out, HL1.out, HL2.out]; exact hd2, ho12⟩
      | false =>
        go_wp2_with fail
        go_ret
        exact ⟨ret_i (by rw [HE.out]; rfl), by rw [HD.out, HL1.out, HL2.out]; exact hd2, ho12⟩

end Go.Proofs.Ytjopobkcijkpmaa
