/-
  A map of marks in memory: what is looked up, what is stored.
-/
import Derived.Test.YtjopobkcijkpmaaDkA
import Derived.Maps.Own
namespace Go.Proofs.Ytjopobkcijkpmaa
open Go.RowKit Go.ChangeMaps Go.MapKept Go.Maps

theorem kInt : Keyed Try.prog 3 := int_keyed Try.underlying3
theorem key_of {k : Int} (h1 : -9223372036854775808 ≤ k) (h2 : k ≤ 9223372036854775807) : keyOf Try.prog 3 (.int .i64 k) = some (.int .i64 k) := keyOf_int_mk Try.underlying3 (WalkArith.wf_i64 ⟨h1, h2⟩)

/-- A mark in memory. -/
def mkV (q : Int × Int) : Value := .agg #[.int .u8 q.1, .int .i64 q.2]
theorem zero_mark (w : World) : (zeroValue 119).run Try.prog w = .ok (mkV (0, 0)) w := by kernel_rfl

/-- Block b is a map of marks: of k it tells f k. -/
def MI (w : World) (b : Nat) (f : Int → Option (Int × Int)) : Prop :=
  ∃ (es : Array MapEntry) (clock : Nat), w.heap[b]? = some (.map es clock) ∧
    (∀ (i : Nat) (x : MapEntry), es[i]? = some x → ∃ k q, x.key = .int .i64 k ∧ keyOf Try.prog 3 (.int .i64 k) = some (.int .i64 k) ∧ x.val = mkV q ∧ f k = some q) ∧
    (∀ (i j : Nat) (x y : MapEntry), es[i]? = some x → es[j]? = some y → x.key = y.key → i = j) ∧
    (∀ k q, f k = some q → ∃ (i : Nat) (x : MapEntry), es[i]? = some x ∧ x.key = .int .i64 k)

section
variable {w w' : World} {b : Nat} {f : Int → Option (Int × Int)}
theorem MI.lt (h : MI w b f) : b < w.heap.size := by
  obtain ⟨es, clock, hb, _⟩ := h
  exact (Array.getElem?_eq_some_iff.1 hb).1
theorem MI.keep (h : MI w b f) (hk : w'.heap[b]? = w.heap[b]?) : MI w' b f := by
  obtain ⟨es, clock, hb, r⟩ := h
  exact ⟨es, clock, hk.trans hb, r⟩
theorem MI.below (h : MI w b f) (hb : Below w.heap.size w w') : MI w' b f := h.keep (hb.block b h.lt)
theorem MI.off {S : Nat → Prop} (h : MI w b f) (ho : Off S w w') (hS : ¬ S b) : MI w' b f := h.keep (ho.block b h.lt hS)
theorem MI.made (w : World) : MI (w.alloc (.map #[] 0)) w.heap.size (fun _ => none) :=
  ⟨#[], 0, heap_alloc_new w _, fun i x h => by simp at h, fun i j x y h => by simp at h, fun k q h => by cases h⟩
theorem MI.notCells (h : MI w b f) {cs : Array Value} {t : TypeId} {fr : Nat × Nat} (hc : w.heap[b]? = some (.cells cs t fr)) : False := by
  obtain ⟨es, clock, hb, _⟩ := h
  rw [hb] at hc
  cases hc

theorem MI.find (h : MI w b f) {k : Int} (h1 : -9223372036854775808 ≤ k) (h2 : k ≤ 9223372036854775807) :
    ∃ (es : Array MapEntry) (clock : Nat), w.heap[b]? = some (.map es clock) ∧
      (((Instr.findKey 3 (.int .i64 k) es.toList).run Try.prog w = .ok none w ∧ f k = none ∧ ∀ (i : Nat) (x : MapEntry), es[i]? = some x → x.key ≠ .int .i64 k) ∨
       ∃ (j : Nat) (e : MapEntry) (q : Int × Int), (Instr.findKey 3 (.int .i64 k) es.toList).run Try.prog w = .ok (some (j, mkV q)) w ∧ es[j]? = some e ∧ e.key = .int .i64 k ∧ f k = some q) ∧
    (∀ (i : Nat) (x : MapEntry), es[i]? = some x → ∃ k q, x.key = .int .i64 k ∧ keyOf Try.prog 3 (.int .i64 k) = some (.int .i64 k) ∧ x.val = mkV q ∧ f k = some q) ∧
    (∀ (i j : Nat) (x y : MapEntry), es[i]? = some x → es[j]? = some y → x.key = y.key → i = j) ∧
    (∀ k q, f k = some q → ∃ (i : Nat) (x : MapEntry), es[i]? = some x ∧ x.key = .int .i64 k) := by
  obtain ⟨es, clock, hb, hr, hd, hf⟩ := h
  refine ⟨es, clock, hb, ?_, hr, hd, hf⟩
  rcases kInt.find w (key_of h1 h2) es.toList (fun e he => by
    obtain ⟨i, hi, rfl⟩ := List.getElem_of_mem he
    obtain ⟨k', q, e1, e2, _⟩ := hr i _ (by rw [← Array.getElem?_toList]; exact List.getElem?_eq_getElem hi)
    exact ⟨_, by rw [e1]; exact e2⟩) with ⟨g1, g2⟩ | ⟨j, e, g1, g2, g3⟩
  · have hne : ∀ (i : Nat) (x : MapEntry), es[i]? = some x → x.key ≠ .int .i64 k := fun i x hx => g2 x (List.mem_of_getElem? (by rw [Array.getElem?_toList]; exact hx))
    refine .inl ⟨g1, ?_, hne⟩
    cases hq : f k with
    | none => rfl
    | some q =>
      obtain ⟨i, x, hx, e⟩ := hf k q hq
      exact absurd e (hne i x hx)
  · rw [Array.getElem?_toList] at g2
    obtain ⟨k', q, e1, e2, e3, e4⟩ := hr j e g2
    rw [g3] at e1
    injection e1 with _ e1
    subst e1
    exact .inr ⟨j, e, q, by rw [g1, e3], g2, g3, e4⟩

/-- Looked up. -/
theorem MI.look (h : MI w b f) (c : Bool) {k : Int} (h1 : -9223372036854775808 ≤ k) (h2 : k ≤ 9223372036854775807) :
    (Instr.lookup 104 (.map (some b)) (.int .i64 k) c).run Try.prog w = .ok (if c then .tuple #[mkV ((f k).getD (0, 0)), .bool (f k).isSome] else mkV ((f k).getD (0, 0))) w := by
  obtain ⟨es, clock, hb, hc, _⟩ := h.find h1 h2
  rcases hc with ⟨g1, g2, _⟩ | ⟨j, e, q, g1, _, _, g4⟩
  · rw [g2]
    simp [Instr.lookup, run_underlying Try.underlying104, MapKept.run_getObj_map hb, kInt.check w _ (key_of h1 h2), g1, zero_mark w, Result.andThen]
  · rw [g4]
    simp [Instr.lookup, run_underlying Try.underlying104, MapKept.run_getObj_map hb, kInt.check w _ (key_of h1 h2), g1, Result.andThen]

/-- f, but for k. -/
def upd (f : Int → Option (Int × Int)) (k : Int) (q : Int × Int) (j : Int) : Option (Int × Int) := if j = k then some q else f j

/-- Stored. -/
theorem MI.put (h : MI w b f) {k : Int} (h1 : -9223372036854775808 ≤ k) (h2 : k ≤ 9223372036854775807) (q : Int × Int) :
    ∃ w', (Instr.mapUpdate 104 (.map (some b)) (.int .i64 k) (mkV q)).run Try.prog w = .ok () w' ∧ MI w' b (upd f k q) ∧ w.grownBy w' (some b) := by
  obtain ⟨es, clock, hb, hc, hr, hd, hf⟩ := h.find h1 h2
  have hgr : ∀ o : Obj, w.grownBy (setBlock w b o) (some b) := fun o => ⟨rfl, rfl, rfl, by simp [setBlock], fun i _ hi => heap_setBlock_other hb _ (fun e => hi (by rw [e]))⟩
  rcases hc with ⟨g1, g2, g3⟩ | ⟨j, e, q', g1, g2, g3, g4⟩
  · refine ⟨_, by simp [Instr.mapUpdate, run_underlying Try.underlying104, MapKept.run_getObj_map hb, kInt.check w false (key_of h1 h2), g1, MapKept.run_setObj_map _ hb, Result.andThen]; rfl, ?_, hgr (.map (es.push ⟨.int .i64 k, mkV q, clock⟩) (clock + 1))⟩
    refine ⟨_, _, heap_setBlock_same hb _, fun i x hx => ?_, fun i i' x y hx hy he => ?_, fun k' q' hk' => ?_⟩
    · rw [Array.getElem?_push] at hx
      split at hx
      · cases hx
        exact ⟨k, q, rfl, key_of h1 h2, rfl, by unfold upd; rw [if_pos rfl]⟩
      · obtain ⟨k', q', e1, e2, e3, e4⟩ := hr i x hx
        exact ⟨k', q', e1, e2, e3, by unfold upd; rw [if_neg (fun e => g3 i x hx (by rw [e1, e]))]; exact e4⟩
    · rw [Array.getElem?_push] at hx hy
      split at hx <;> split at hy
      · omega
      · cases hx
        exact absurd he.symm (g3 i' y hy)
      · cases hy
        exact absurd he (g3 i x hx)
      · exact hd i i' x y hx hy he
    · unfold upd at hk'
      by_cases e : k' = k
      · subst e
        exact ⟨es.size, _, by rw [Array.getElem?_push, if_pos rfl], rfl⟩
      · rw [if_neg e] at hk'
        obtain ⟨i, x, hx, ex⟩ := hf k' q' hk'
        have hi := (Array.getElem?_eq_some_iff.1 hx).1
        exact ⟨i, x, by rw [Array.getElem?_push, if_neg (by omega)]; exact hx, ex⟩
  · refine ⟨_, by simp [Instr.mapUpdate, run_underlying Try.underlying104, MapKept.run_getObj_map hb, kInt.check w false (key_of h1 h2), g1, g2, g3, kInt.stays w (key_of h1 h2), MapKept.run_setObj_map _ hb, Result.andThen]; rfl, ?_, hgr (.map (es.modify j fun e' => { e' with key := .int .i64 k, val := mkV q }) clock)⟩
    have hkey : ∀ (i : Nat) (x : MapEntry), (es.modify j fun e' => { e' with key := .int .i64 k, val := mkV q })[i]? = some x → (i = j ∧ x.key = .int .i64 k ∧ x.val = mkV q) ∨ (i ≠ j ∧ es[i]? = some x) := by
      intro i x hx
      rw [Array.getElem?_modify] at hx
      split at hx
      · rename_i e'
        subst e'
        rw [g2] at hx
        simp at hx
        subst hx
        exact .inl ⟨rfl, rfl, rfl⟩
      · rename_i e'
        exact .inr ⟨fun e => e' e.symm, hx⟩
    have hold : ∀ (i : Nat) (x : MapEntry), i ≠ j → es[i]? = some x → x.key ≠ .int .i64 k := fun i x hi hx he => hi (hd i j x e hx g2 (by rw [he, g3]))
    refine ⟨_, _, heap_setBlock_same hb _, fun i x hx => ?_, fun i i' x y hx hy he => ?_, fun k' q'' hk' => ?_⟩
    · rcases hkey i x hx with ⟨_, e1, e2⟩ | ⟨hi, hx'⟩
      · exact ⟨k, q, e1, key_of h1 h2, e2, by unfold upd; rw [if_pos rfl]⟩
      · obtain ⟨k', q', e1, e2, e3, e4⟩ := hr i x hx'
        exact ⟨k', q', e1, e2, e3, by unfold upd; rw [if_neg (fun e => hold i x hi hx' (by rw [e1, e]))]; exact e4⟩
    · rcases hkey i x hx with ⟨r1, e1, _⟩ | ⟨hi, hx'⟩ <;> rcases hkey i' y hy with ⟨r2, e2, _⟩ | ⟨hi', hy'⟩
      · omega
      · exact absurd (he.symm.trans e1) (hold i' y hi' hy')
      · exact absurd (he.trans e2) (hold i x hi hx')
      · exact hd i i' x y hx' hy' he
    · unfold upd at hk'
      by_cases e' : k' = k
      · subst e'
        refine ⟨j, { e with key := .int .i64 k', val := mkV q }, ?_, rfl⟩
        rw [Array.getElem?_modify, if_pos rfl, g2]
        rfl
      · rw [if_neg e'] at hk'
        obtain ⟨i, x, hx, ex⟩ := hf k' q'' hk'
        have hij : i ≠ j := fun h => by
          subst h
          rw [g2] at hx
          cases hx
          rw [g3] at ex
          injection ex with _ ex
          exact e' ex.symm
        exact ⟨i, x, by rw [Array.getElem?_modify, if_neg (Ne.symm hij)]; exact hx, ex⟩
end

end Go.Proofs.Ytjopobkcijkpmaa
