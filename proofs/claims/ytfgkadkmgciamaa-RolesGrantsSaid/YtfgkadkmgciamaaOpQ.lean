/-
  Arguments opened: a grant by value, who is asked about. No law is proved here.
-/
import Derived.Test.YtfgkadkmgciamaaOpM
namespace Go.Proofs.Ytfgkadkmgciamaa
open Go.ChangeShapes Go.WideShapes Go.ChangeAt Go.RowKit Go.Deep Go.Joins

theorem cells_asked : Try.prog.cellsOf 43 = 4 := by kernel_rfl

section
variable {H : Type} {enc : TypeId × Value → H} {W : World} {base : Nat} {held : Bool}
set_option maxRecDepth 100000 in
theorem op_grant {r : _root_.Go.Reach} {b0 : Nat} {v : Value} {d : DataW H} {p : List MemPlace} (hv : Value.okWide Try.prog W r b0 30 v) (h : DataW.Trod enc Try.prog W base (fun _ => true) held 30 v d p) :
    ∃ g : Gr, v = .agg #[.string ⟨g.tb.toArray⟩, .int .u8 g.pv, .string ⟨g.gt.toArray⟩, .string ⟨g.gb.toArray⟩, .bool g.op] ∧ g.gt.length ≤ maxLen ∧ g.gb.length ≤ maxLen := by
  obtain ⟨cs, rfl, hsz⟩ := okWide_struct Try.underlying30 hv
  obtain ⟨fuel, hf⟩ := h
  obtain ⟨g, e, h1, h2⟩ := el_gr (cs := cs.toList) (by simpa [Value.cells] using hf) (by rw [Array.length_toList, hsz]; exact cells_gr)
  have e2 : cs = #[.string ⟨g.tb.toArray⟩, .int .u8 g.pv, .string ⟨g.gt.toArray⟩, .string ⟨g.gb.toArray⟩, .bool g.op] := Array.ext' e
  exact ⟨g, by rw [e2], h1, h2⟩
set_option maxRecDepth 100000 in
theorem op_asked {r : _root_.Go.Reach} {b0 : Nat} {v : Value} {d : DataW H} {p : List MemPlace} (hv : Value.okWide Try.prog W r b0 43 v) (h : DataW.Trod enc Try.prog W base (fun _ => true) held 43 v d p) (hw : Wt 43 d) :
    ∃ A n c cl ow tb pv, v = .agg #[.slice A n c, .string ⟨(ow : Str).toArray⟩, .string ⟨(tb : Str).toArray⟩, .int .u8 pv] ∧ ER ES 1 W A n cl ∧ n * 16 ≤ 140737488351232 ∧ ow.length ≤ maxLen := by
  obtain ⟨v0, v1, v2, v3, y0, y1, y2, y3, m, rfl, rfl, rfl, h0, h1, h2, h3⟩ := open_agg4 Try.underlying43 (by kernel_rfl) cells_asked hv h
  have hw0 : Wt 40 y0.1 := Wt.agg hw Try.underlying43 (j := 0) rfl rfl
  obtain ⟨A, n, c, cl, e0, her, _, hm, _, _⟩ := op_strs h0 hw0
  injection e0 with e0
  obtain ⟨s1, rfl, l1⟩ := el_str h1
  obtain ⟨s2, rfl, _⟩ := el_str h2
  obtain ⟨q, e3, _, _⟩ := DataW.trod_int Try.underlying28 h3
  injection e3 with e3
  subst e0 e3
  exact ⟨A, n, c, cl, s1, s2, q, rfl, her, hm, l1⟩
end

end Go.Proofs.Ytfgkadkmgciamaa
