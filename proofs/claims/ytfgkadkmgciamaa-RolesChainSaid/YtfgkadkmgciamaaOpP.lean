/-
  Arguments opened: steps (a grant with a bool), a grant by value, who is asked about. No law is proved here.
-/
import Derived.Test.YtfgkadkmgciamaaOpM
import Derived.Test.YtfgkadkmgciamaaRoU
namespace Go.Proofs.Ytfgkadkmgciamaa
open Go.ChangeShapes Go.WideShapes Go.ChangeAt Go.RowKit Go.Deep Go.Joins

theorem cells_step : Try.prog.cellsOf 32 = 6 := by kernel_rfl
theorem bytes_step : Try.prog.bytesOf 32 = 72 := by kernel_rfl

section
variable {H : Type} {enc : TypeId × Value → H} {W : World} {base : Nat} {held : Bool}
set_option maxRecDepth 100000 in
theorem el_step {fuel : Nat} {cs : List Value} {x : DataW H × List MemPlace} (h : DataW.trod enc Try.prog W base (fun _ => true) held fuel 32 cs = some x) (hl : cs.length = 6) : ∃ s : Stp, cs = EP s ∧ s.1.gt.length ≤ maxLen ∧ s.1.gb.length ≤ maxLen := by
  obtain ⟨xs, k', hk, hxy, _, hxl, hf⟩ := DataW.trod_struct Try.underlying32 h
  obtain ⟨v0, r0, rfl, h0⟩ := list_cons cs hl
  obtain ⟨v1, r1, rfl, h1⟩ := list_cons r0 h0
  obtain ⟨v2, r2, rfl, h2⟩ := list_cons r1 h1
  obtain ⟨v3, r3, rfl, h3⟩ := list_cons r2 h2
  obtain ⟨v4, r4, rfl, h4⟩ := list_cons r3 h3
  obtain ⟨v5, r5, rfl, h5⟩ := list_cons r4 h4
  obtain rfl : r5 = [] := List.length_eq_zero_iff.1 h5
  obtain ⟨y0, q0, rfl, k0⟩ := list_cons xs hxl
  obtain ⟨y1, q1, rfl, k1⟩ := list_cons q0 k0
  obtain rfl : q1 = [] := List.length_eq_zero_iff.1 k1
  have f0 := hf 0 _ rfl
  have f1 := hf 1 _ rfl
  simp [cells_gr, cells_bool] at f0 f1
  obtain ⟨g, e, l0, l1⟩ := el_gr f0 rfl
  obtain ⟨o, e4, _⟩ := DataW.trod_bool Try.underlying4 f1
  injection e4 with e4
  subst e4
  exact ⟨(g, o), by rw [EP, ← e]; rfl, l0, l1⟩
theorem op_steps {fuel : Nat} {cs : List Value} {x : DataW H × List MemPlace} (h : DataW.trod enc Try.prog W base (fun _ => true) held fuel 27 cs = some x) (hw : Wt 27 x.1) :
    ∃ A n c l, cs = [.slice A n c] ∧ ER EP 6 W A n l ∧ n ≤ c ∧ n * 72 ≤ 140737488351232 ∧ c ≤ maxLen ∧ ∀ s ∈ l, s.1.gt.length ≤ maxLen ∧ s.1.gb.length ≤ maxLen :=
  op_rows Try.underlying27 cells_step bytes_step (by decide) EP_len (fun _ _ _ h hl => el_step h hl) h hw
end

end Go.Proofs.Ytfgkadkmgciamaa
