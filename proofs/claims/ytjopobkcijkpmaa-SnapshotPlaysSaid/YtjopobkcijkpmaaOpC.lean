/-
  An argument opened: calls of chapter 14's script.
-/
import Derived.Test.YtjopobkcijkpmaaOpB
import Derived.Deep.SlicePairs
namespace Go.Proofs.Ytjopobkcijkpmaa
open Go.ChangeShapes Go.WideShapes Go.ChangeAt Go.RowKit Go.Deep Go.Joins

/-- The calls of a script in memory. -/
def O2 (w : World) (A : Option Addr) (n : Nat) (ps : List (Int × Int)) : Prop := ∀ i, i < n → ∃ g o, A = some ⟨g, o, none⟩ ∧ w.cell? ⟨g, o + i * 2, none⟩ = some (.int .i64 (ps.getD i (0, 0)).1) ∧ w.cell? ⟨g, o + i * 2 + 1, none⟩ = some (.int .i64 (ps.getD i (0, 0)).2)
theorem cells_op : Try.prog.cellsOf 96 = 2 := by kernel_rfl

section
variable {H : Type} {enc : TypeId × Value → H} {W : World} {base : Nat} {spare : Nat → Bool} {held : Bool}
theorem op_ops {fuel : Nat} {cs : List Value} {x : DataW H × List MemPlace} (h : DataW.trod enc Try.prog W base spare held fuel 88 cs = some x) (hsp : ∀ k, spare k = true) :
    ∃ A n c ps, cs = [.slice A n c] ∧ O2 W A n ps ∧ n ≤ c ∧ c ≤ maxLen ∧ (∀ p ∈ ps, -9223372036854775808 ≤ p.2 ∧ p.2 ≤ 9223372036854775807) ∧ ps.length = n := by
  have hu := Try.underlying96
  rcases open_slice_pairs Try.underlying88 hu cells_op rfl rfl cells_int cells_int h with ⟨rfl, rfl⟩ | ⟨a, n, c, m, k, V0, V1, D0, D1, P0, P1, rfl, _, hl, hm, hmm, rfl, he⟩
  · exact ⟨none, 0, 0, [], rfl, fun i hi => by omega, Nat.le_refl _, by simp [maxLen], (fun p hp => by cases hp), rfl⟩
  · rw [hsp] at hmm
    simp only [if_true] at hmm
    subst hmm
    have hone : ∀ i, i < n → ∃ q : Int × Int, V0 i = .int .i64 q.1 ∧ V1 i = .int .i64 q.2 ∧ -9223372036854775808 ≤ q.2 ∧ q.2 ≤ 9223372036854775807 := by
      intro i hi
      obtain ⟨c0, c1, t0, t1⟩ := he i (by omega)
      obtain ⟨z, e0, _, hz⟩ := DataW.trod_int Try.underlying3 t0
      obtain ⟨y, e1, _, hy⟩ := DataW.trod_int Try.underlying3 t1
      injection e0 with e0
      injection e1 with e1
      have hb := bounds_i64 hy
      exact ⟨(z, y), e0, e1, hb.1, hb.2⟩
    let q : Nat → Int × Int := fun i => if h : i < n then Classical.choose (hone i h) else (0, 0)
    have hq : ∀ i, i < n → V0 i = .int .i64 (q i).1 ∧ V1 i = .int .i64 (q i).2 ∧ -9223372036854775808 ≤ (q i).2 ∧ (q i).2 ≤ 9223372036854775807 := by
      intro i hi
      have := Classical.choose_spec (hone i hi)
      simp only [q, dif_pos hi]
      exact this
    refine ⟨some a, n, _, (List.range n).map q, rfl, fun i hi => ?_, hl, hm, ?_, by simp⟩
    · obtain ⟨c0, c1, _, _⟩ := he i (by omega)
      obtain ⟨e0, e1, _⟩ := hq i hi
      rw [e0] at c0
      rw [e1] at c1
      obtain ⟨g, o, sp⟩ := a
      obtain ⟨b0, _, _, _⟩ := he 0 (by omega)
      have hsp0 : sp = none := by simpa [Addr.add] using World.cell?_spot b0
      subst hsp0
      rw [Addr.add_lit] at c0 c1
      refine ⟨g, o, rfl, ?_, ?_⟩
      · rw [c0]
        simp [List.getD, hi]
      · rw [Nat.add_assoc, c1]
        simp [List.getD, hi]
    · intro p hp
      obtain ⟨i, hi, rfl⟩ := List.mem_map.1 hp
      exact (hq i (List.mem_range.1 hi)).2.2
end

end Go.Proofs.Ytjopobkcijkpmaa
