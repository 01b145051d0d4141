/-
  A map keyed by strings in memory: made, looked up, stored into, counted.
-/
import Derived.Test.YtfgkadkmgciamaaRoE
import Derived.Maps.OwnSet
import Derived.Maps.OwnOps
import Derived.Sort.KeysCollected
namespace Go.Proofs.Ytfgkadkmgciamaa
open Go Go.RowKit Go.Maps Go.WideMaps

theorem kStr : Keyed Try.prog 9 := string_keyed Try.underlying9
theorem zeroInt (w : World) : (zeroValue 3).run Try.prog w = .ok (.int .i64 0) w := by kernel_rfl
theorem keyStr (s : Str) (h : s.length ≤ maxLen) : keyOf Try.prog 9 (.string ⟨s.toArray⟩) = some (.string s) := by
  have := keyOf_string_mk (P := Try.prog) Try.underlying9 (s := ⟨s.toArray⟩) (by simpa [ByteArray.size] using h)
  simpa using this

/-- A map of which the keys are known. -/
def MS (w : World) (b : Nat) (ks : List Str) : Prop :=
  ∃ D : DataW Unit, w.ownsMap Try.prog 9 (plainElem Try.prog 3) b ks.length D ∧ (∀ x, Maps.has D (.string x) = ks.contains x) ∧ Maps.size D = ks.length ∧ ks.Nodup ∧ ∀ x ∈ ks, x.length ≤ maxLen
section
variable {w w' : World} {b : Nat} {ks : List Str}
theorem MS.keep (h : MS w b ks) (hk : w'.heap[b]? = w.heap[b]?) : MS w' b ks := by
  obtain ⟨D, ⟨es, clock, hb, Ft, hs, hD⟩, r⟩ := h
  exact ⟨D, ⟨es, clock, hk.trans hb, Ft, hs, hD⟩, r⟩
theorem MS.lt (h : MS w b ks) : b < w.heap.size := by
  obtain ⟨D, hown, _⟩ := h
  exact hown.lt
theorem MS.below (h : MS w b ks) (hb : Below w.heap.size w w') : MS w' b ks := h.keep (hb.block b h.lt)
theorem MS.off {S : Nat → Prop} (h : MS w b ks) (ho : Off S w w') (hS : ¬ S b) : MS w' b ks := h.keep (ho.block b h.lt hS)
theorem MS.made (w : World) : MS (w.alloc (.map #[] 0)) w.heap.size [] :=
  ⟨.map [], World.ownsMap_made _ _ _ _, fun x => by simp [Maps.has], by simp [Maps.size], List.nodup_nil, fun x h => by cases h⟩
theorem MS.look (h : MS w b ks) (s : Str) (hs : s.length ≤ maxLen) : ∃ c, (Instr.lookup 65 (.map (some b)) (.string ⟨s.toArray⟩) true).run Try.prog w = .ok (.tuple #[.int .i64 c, .bool (ks.contains s)]) w := by
  obtain ⟨D, hown, hk, _⟩ := h
  obtain ⟨v, ps, hrun, hv⟩ := hown.look_ok kStr Try.underlying65 (zeroInt w) (zd := .lit (.int .i64 0)) (zp := []) (plainElem_int Try.underlying3 (by decide)) (keyStr s hs)
  obtain ⟨c, rfl, _, _⟩ := plainElem_int_inv Try.underlying3 hv
  exact ⟨c, by rw [← hk s]; exact hrun⟩
theorem MS.put (h : MS w b ks) (s : Str) (hs : s.length ≤ maxLen) (hn : ks.contains s = false) (hl : ks.length < maxLen) (v : Int) (hv : (Lit.int .i64 v).wf = true) :
    ∃ w', (Instr.mapUpdate 65 (.map (some b)) (.string ⟨s.toArray⟩) (.int .i64 v)).run Try.prog w = .ok () w' ∧ MS w' b (ks ++ [s]) ∧ w.grownBy w' (some b) := by
  obtain ⟨D, hown, hk, hz, hnd, hle⟩ := h
  obtain ⟨w', hrun, r1, r2⟩ := hown.store kStr Try.underlying65 hl (keyStr s hs) (plainElem_int Try.underlying3 hv)
  have hkl : WideAt.IsKeyLit (.string s) := by trivial
  have hns : s ∉ ks := fun hm => by rw [List.contains_iff_mem.2 hm] at hn; cases hn
  refine ⟨w', hrun, ⟨_, by rw [List.length_append]; exact r1, fun x => ?_, ?_, ?_, ?_⟩, r2.grown⟩
  · by_cases e : x = s
    · subst e
      rw [has_put_same hown.isMap hkl, eq_comm, List.contains_iff_mem]
      simp
    · have e2 : (Lit.string x) ≠ (Lit.string s) := fun h => e (by injection h)
      rw [has_put_other e2, hk x]
      refine Bool.eq_iff_iff.2 ?_
      simp only [List.contains_iff_mem, List.mem_append, List.mem_singleton]
      exact ⟨.inl, fun h => h.resolve_right e⟩
  · rw [size_put (hown.tidy kStr), hk s, hn, hz, List.length_append]
    rfl
  · exact List.nodup_append.2 ⟨hnd, by simp, fun a ha b hb => by
      rw [List.mem_singleton] at hb
      rintro rfl
      exact hns (hb ▸ ha)⟩
  · intro x hx
    rcases List.mem_append.1 hx with hx | hx
    · exact hle x hx
    · rw [List.mem_singleton] at hx
      rw [hx]
      exact hs
theorem MS.len (h : MS w b ks) (ty : TypeId) : (Builtin.len_ #[65] ty #[.map (some b)]).run Try.prog w = .ok (.int .i64 ks.length) w := by
  obtain ⟨D, hown, hk, hz, _⟩ := h
  rw [hown.len Try.underlying65 ty, hz]
end

end Go.Proofs.Ytfgkadkmgciamaa
