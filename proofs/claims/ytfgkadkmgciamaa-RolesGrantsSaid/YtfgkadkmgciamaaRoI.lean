/-
  Plain laws of an insertion sort; a row's cells exchanged.
-/
import Derived.Test.YtfgkadkmgciamaaRoH
namespace Go.Proofs.Ytfgkadkmgciamaa
open Go Go.RowKit

theorem bytesLess_lt : ∀ (x y : List UInt8), Op.bytesLess x y = decide (x < y)
  | [], [] => by simp [Op.bytesLess]
  | _ :: _, [] => by simp [Op.bytesLess]
  | [], _ :: _ => by simp [Op.bytesLess]
  | a :: x, b :: y => by
    rw [Op.bytesLess, bytesLess_lt x y]
    by_cases h : a = b
    · subst h
      have : ¬ a < a := UInt8.lt_irrefl a
      simp [this]
    · by_cases h2 : a < b <;> simp [List.cons_lt_cons_iff, h, h2]
theorem run_lssS (T : TypeId) (a b : Str) (w : World) : Sem.run Try.prog (binOp .lss T (.string ⟨a.toArray⟩) (.string ⟨b.toArray⟩)) w = .ok (.bool (decide (a < b))) w := by
  simp [binOp, Op.stringOp, bytesLess_lt]

/-- One is on its way down: what stands ahead of it, and behind it up to i, is in order, and it is no greater than what stands behind it. -/
def Ins (s : List Str) (i k : Nat) : Prop := ∃ a x b r, s = a ++ x :: (b ++ r) ∧ a.length = k ∧ k + b.length = i ∧ (a ++ b).Pairwise (fun p q => p ≤ q) ∧ ∀ y ∈ b, x ≤ y
section
variable {s : List Str} {i k : Nat}
theorem Ins.start (hi : i < s.length) (hs : (s.take i).Pairwise (fun p q => p ≤ q)) : Ins s i i :=
  ⟨s.take i, s[i], [], s.drop (i + 1), by rw [List.nil_append, ← List.drop_eq_getElem_cons hi, List.take_append_drop], by rw [List.length_take]; omega, rfl, by rw [List.append_nil]; exact hs, fun y hy => by cases hy⟩
theorem Ins.stop0 (h : Ins s i 0) : (s.take (i + 1)).Pairwise (fun p q => p ≤ q) := by
  obtain ⟨a, x, b, r, rfl, ha, hb, hs, hx⟩ := h
  have : a = [] := List.eq_nil_of_length_eq_zero ha
  subst this
  rw [List.nil_append] at hs ⊢
  rw [Nat.zero_add] at hb
  rw [List.take_succ_cons, List.take_left' hb]
  exact List.pairwise_cons.2 ⟨hx, hs⟩
theorem Ins.step (h : Ins s i (k + 1)) : ∃ y x, s[k]? = some y ∧ s[k + 1]? = some x ∧ (x < y → Ins ((s.set (k + 1) y).set k x) i k ∧ ((s.set (k + 1) y).set k x).Perm s) ∧ (¬ x < y → (s.take (i + 1)).Pairwise (fun p q => p ≤ q)) := by
  obtain ⟨a, x, b, r, rfl, ha, hb, hs, hx⟩ := h
  obtain ⟨a', y, rfl⟩ : ∃ a' y, a = a' ++ [y] := by
    have hne : a ≠ [] := fun e => by rw [e] at ha; cases ha
    exact ⟨a.dropLast, a.getLast hne, (List.dropLast_concat_getLast hne).symm⟩
  have ha' : a'.length = k := by simpa using ha
  have e1 : (a' ++ [y]) ++ x :: (b ++ r) = a' ++ (y :: x :: (b ++ r)) := by simp
  have g1 : (a' ++ (y :: x :: (b ++ r)))[k]? = some y := by rw [List.getElem?_append_right (by omega), ha', Nat.sub_self]; rfl
  have g2 : (a' ++ (y :: x :: (b ++ r)))[k + 1]? = some x := by rw [List.getElem?_append_right (by omega), ha', show k + 1 - k = 1 by omega]; rfl
  have e2 : ((a' ++ (y :: x :: (b ++ r))).set (k + 1) y).set k x = a' ++ (x :: y :: (b ++ r)) := by
    rw [List.set_append_right _ _ (by omega), ha', show k + 1 - k = 1 by omega, List.set_append_right _ _ (by omega), ha', Nat.sub_self]
    rfl
  rw [e1]
  refine ⟨y, x, g1, g2, fun hlt => ⟨?_, ?_⟩, fun hle => ?_⟩
  · rw [e2]
    refine ⟨a', x, y :: b, r, by simp, ha', by rw [List.length_cons]; omega, by simpa using hs, fun z hz => ?_⟩
    rcases List.mem_cons.1 hz with rfl | hz
    · exact List.le_of_lt hlt
    · exact hx z hz
  · rw [e2]
    exact (List.Perm.swap y x _).append_left a'
  · have hyx : y ≤ x := List.not_lt.1 hle
    have hp := hs
    rw [List.append_assoc, List.singleton_append] at hp
    have e3 : (a' ++ (y :: x :: (b ++ r))).take (i + 1) = a' ++ (y :: x :: b) := by
      have : a' ++ (y :: x :: (b ++ r)) = (a' ++ (y :: x :: b)) ++ r := by simp
      rw [this]
      exact List.take_left' (by simp; omega)
    rw [e3]
    obtain ⟨p1, p2, p3⟩ := List.pairwise_append.1 hp
    obtain ⟨p4, p5⟩ := List.pairwise_cons.1 p2
    refine List.pairwise_append.2 ⟨p1, List.pairwise_cons.2 ⟨fun z hz => ?_, List.pairwise_cons.2 ⟨hx, p5⟩⟩, fun u hu z hz => ?_⟩
    · rcases List.mem_cons.1 hz with rfl | hz
      · exact hyx
      · exact p4 z hz
    · rcases List.mem_cons.1 hz with rfl | hz
      · exact p3 u hu _ (List.mem_cons_self ..)
      · rcases List.mem_cons.1 hz with rfl | hz
        · exact List.le_trans (p3 u hu y (List.mem_cons_self ..)) hyx
        · exact p3 u hu z (List.mem_cons_of_mem _ hz)
end

/-- A row's cell set anew. -/
theorem own_set {w : World} {base : Nat} {T : TypeId} {g n cap : Nat} {xs : List Value} (h : w.ownsRow base T 1 (.slice (some ⟨g, 0, none⟩) n cap) n xs) (j : Nat) (u : Value) :
    (w.setCell ⟨g, j, none⟩ u).ownsRow base T 1 (.slice (some ⟨g, 0, none⟩) n cap) n (xs.set j u) := by
  obtain ⟨h1, h2⟩ := h
  rcases h2 with ⟨e, _⟩ | ⟨g', cap', cur, e, hb, hg, hnc, hm, hcu, ht⟩
  · cases e
  · cases e
    refine ⟨by rw [List.length_set]; exact h1, .inr ⟨g, cap, cur.setIfInBounds j u, rfl, hb, ?_, hnc, hm, ?_, ?_⟩⟩
    · simp only [World.setCell, Array.getElem?_modify, if_pos, hg]
      simp
    · simpa using hcu
    · rw [Array.toList_setIfInBounds, List.take_set, ht]
theorem own_frozen {w : World} {base : Nat} {T : TypeId} {k g n cap m : Nat} {xs : List Value} (h : w.ownsRow base T k (.slice (some ⟨g, 0, none⟩) n cap) m xs) (j : Nat) : w.frozen? ⟨g, j, none⟩ = false := by
  rcases h.2 with ⟨e, _⟩ | ⟨g', cap', cur, e, hb, hg, _⟩
  · cases e
  · cases e
    simp [World.frozen?, hg]
theorem EO.block {α : Type} {enc : α → List Value} {k : Nat} {T : TypeId} {w : World} {base : Nat} {v : Value} {l : List α} (h : EO enc k T w base v l) (h0 : 0 < l.length) : ∃ g c, v = .slice (some ⟨g, 0, none⟩) l.length c ∧ base ≤ g ∧ g < w.heap.size ∧ l.length ≤ c ∧ c ≤ maxLen := by
  rcases h.2 with ⟨e, e0⟩ | ⟨g', cap', cur, e, hb, hg, h1, h2, _⟩
  · omega
  · exact ⟨g', cap', e, hb, (Array.getElem?_eq_some_iff.1 hg).1, h1, h2⟩
theorem flatES (l : List Str) : l.flatMap ES = l.map encStr := by
  induction l with
  | nil => rfl
  | cons x l ih => rw [List.flatMap_cons, ih]; rfl
theorem EO.setS {w : World} {base g cap n : Nat} {l : List Str} (h : EO ES 1 9 w base (.slice (some ⟨g, 0, none⟩) n cap) l) (hn : l.length = n) (j : Nat) (s : Str) : EO ES 1 9 (w.setCell ⟨g, j, none⟩ (.string ⟨s.toArray⟩)) base (.slice (some ⟨g, 0, none⟩) n cap) (l.set j s) := by
  unfold EO at h ⊢
  rw [flatES] at h ⊢
  rw [List.length_set, List.map_set, hn]
  rw [hn] at h
  exact own_set h j _

end Go.Proofs.Ytfgkadkmgciamaa
