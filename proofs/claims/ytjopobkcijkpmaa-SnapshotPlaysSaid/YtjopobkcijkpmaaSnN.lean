/-
  Plain laws of a table: what all see, everybody who begins later sees.
-/
import Derived.Test.YtjopobkcijkpmaaSnM
namespace Go.Proofs.Ytjopobkcijkpmaa
open Go.RowKit

section
variable {T : TabS} {y : Int}
theorem toAll_parts (h : toAllB T y = true) : ((ofT T y).1 = 1 ∨ (ofT T y).1 = 3) ∧ ∀ x ∈ T.opn, shB ((T.who x).getD (0, 0)).2 (ofT T y) = true := by
  unfold toAllB at h
  have h2 := Bool.and_eq_true_iff.1 h
  refine ⟨?_, fun x hx => List.all_eq_true.1 h2.2 x hx⟩
  have := h2.1
  simpa using this
theorem toAll_of (h1 : (ofT T y).1 = 1 ∨ (ofT T y).1 = 3) (h2 : ∀ x ∈ T.opn, shB ((T.who x).getD (0, 0)).2 (ofT T y) = true) : toAllB T y = true := by
  unfold toAllB
  refine Bool.and_eq_true_iff.2 ⟨?_, List.all_eq_true.2 h2⟩
  rcases h1 with h | h <;> simp [h]
theorem WfT.not_new (h : WfT T) (h1 : (ofT T y).1 = 1 ∨ (ofT T y).1 = 3) : y < T.next := by
  by_cases hn : y < T.next
  · exact hn
  · have e := h.nw y (by omega)
    unfold ofT at h1
    rw [e] at h1
    dsimp only at h1
    have hf := h.fn
    rw [if_neg (by omega)] at h1
    simp at h1
theorem WfT.seen (h : WfT T) (h1 : (ofT T y).1 = 1 ∨ (ofT T y).1 = 3) : shB T.last (ofT T y) = true := by
  unfold shB
  rcases h1 with h1 | h1
  · simp [h1]
  · have hp : (ofT T y).2 ≤ T.last := by
      cases e : T.who y with
      | none =>
        unfold ofT at h1
        rw [e] at h1
        dsimp only at h1
        split at h1 <;> simp at h1
      | some q =>
        rw [ofT_of e] at h1 ⊢
        obtain ⟨q1, q2⟩ := q
        dsimp only at h1
        subst h1
        exact h.cm y q2 e
    simp [h1, hp]
theorem WfT.beg_all (h : WfT T) (hy : toAllB T y = true) : toAllB (begT T) y = true := by
  unfold begT
  split
  · exact hy
  · obtain ⟨h1, h2⟩ := toAll_parts hy
    have hn := h.not_new h1
    have he : ofT { T with next := T.next + 1, who := upd T.who T.next (2, T.last), opn := T.opn ++ [T.next] } y = ofT T y := by
      unfold ofT
      dsimp only
      rw [upd_ne _ _ (by omega)]
    refine toAll_of (by rw [he]; exact h1) (fun x hx => ?_)
    rw [he]
    dsimp only at hx ⊢
    rcases List.mem_append.1 hx with hx | hx
    · rw [upd_ne _ _ (by have := h.lt x hx; omega)]
      exact h2 x hx
    · rw [List.mem_singleton.1 hx, upd_same]
      exact h.seen h1
theorem end_all (tx L : Int) (q : Int × Int) (ha : askT T tx = 0) (hy : toAllB T y = true) : toAllB (endT { T with last := L } tx q) y = true := by
  obtain ⟨h1, h2⟩ := toAll_parts hy
  obtain ⟨p, e⟩ := ask_who ha
  have hne : y ≠ tx := by
    rintro rfl
    rw [ofT_of e] at h1
    simp at h1
  have he : ofT (endT { T with last := L } tx q) y = ofT T y := by
    unfold ofT endT
    dsimp only
    rw [upd_ne _ _ hne]
  refine toAll_of (by rw [he]; exact h1) (fun x hx => ?_)
  rw [he]
  unfold endT at hx ⊢
  dsimp only at hx ⊢
  rw [upd_ne _ _ (but_ne hx)]
  exact h2 x (but_mem hx)
theorem com_all (tx : Int) (hy : toAllB T y = true) : toAllB (comT T tx) y = true := by
  unfold comT
  split
  · exact hy
  · rename_i hn
    exact end_all tx _ _ (by simpa using hn) hy
theorem abo_all (tx : Int) (hy : toAllB T y = true) : toAllB (aboT T tx) y = true := by
  unfold aboT
  split
  · exact hy
  · rename_i hn
    exact end_all tx T.last _ (by simpa using hn) hy

/-- Each of these sees it, and is not it. -/
def eachB (T : TabS) (l : List Int) (k : Int) : Bool := l.all (fun x => visB T x k && x != k)
theorem WfT.each_of (h : WfT T) {k : Int} (hy : toAllB T k = true) : eachB T T.opn k = true := by
  obtain ⟨h1, h2⟩ := toAll_parts hy
  refine List.all_eq_true.2 (fun x hx => ?_)
  obtain ⟨p, e⟩ := h.op x hx
  have h3 := h2 x hx
  rw [e] at h3
  have hne : x ≠ k := by
    rintro rfl
    rw [ofT_of e] at h1
    simp at h1
  have ho : (ofT T x).2 = p := by rw [ofT_of e]
  simp only [Option.getD_some] at h3
  simp [visB, isO, h.ask hx, ho, h3, hne]
theorem WfT.of_each (h : WfT T) {k : Int} (hl : 0 < T.opn.length) (hy : eachB T T.opn k = true) : toAllB T k = true := by
  have hx : ∀ x ∈ T.opn, shB ((T.who x).getD (0, 0)).2 (ofT T k) = true := by
    intro x hx
    have h3 := List.all_eq_true.1 hy x hx
    obtain ⟨p, e⟩ := h.op x hx
    have ho : (ofT T x).2 = p := by rw [ofT_of e]
    have h4 := Bool.and_eq_true_iff.1 h3
    have hne : x ≠ k := by simpa using h4.2
    have h5 := h4.1
    simp [visB, ho, Ne.symm hne] at h5
    rw [e]
    exact h5.2
  refine toAll_of ?_ hx
  have hm := hx _ (getD_mem (k := 0) hl)
  unfold shB at hm
  rcases Bool.or_eq_true_iff.1 hm with hm | hm
  · exact .inl (by simpa using hm)
  · exact .inr (by have := (Bool.and_eq_true_iff.1 hm).1; simpa using this)
theorem each_snoc (T : TabS) (l : List Int) (k : Int) {j : Nat} (hj : j < l.length) : eachB T (l.take (j + 1)) k = (eachB T (l.take j) k && visB T (l.getD j 0) k && (l.getD j 0 != k)) := by
  unfold eachB
  rw [all_snoc _ _ _ hj 0, Bool.and_assoc]
end

end Go.Proofs.Ytjopobkcijkpmaa
