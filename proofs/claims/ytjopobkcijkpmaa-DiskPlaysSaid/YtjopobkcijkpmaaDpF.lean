/-
  The reference of chapter 03: blocks in the making; what a round of left makes of them.
-/
import Derived.Test.YtjopobkcijkpmaaDpE
namespace Go.Proofs.Ytjopobkcijkpmaa
open Go.RowKit

/-- A list of blocks in the making: a row of one's own, since w0. -/
structure LO (G : Nat → Prop) (w0 w : World) (Av : Value) (us : List Value) (bs : List (List UInt8)) : Prop where
  bel : Below w0.heap.size w0 w
  row : w.ownsRow w0.heap.size 33 1 Av bs.length us
  bv : ∀ (i : Nat) (u : Value) (l : List UInt8), us[i]? = some u → bs[i]? = some l → VG (fun k => G k ∨ (w0.heap.size ≤ k ∧ Av.ownBlock ≠ some k)) w u l
section
variable {G : Nat → Prop} {w0 w w2 : World} {Av : Value} {us : List Value} {bs : List (List UInt8)}
theorem VG.below {G : Nat → Prop} {w w' : World} {u : Value} {l : List UInt8} (h : VG G w u l) (hb : Below w.heap.size w w') : VG G w' u l := h.off (S := fun _ => False) (Off.of_below hb) (fun _ h => h.elim)
theorem LO.below (h : LO G w0 w Av us bs) (hb : Below w.heap.size w w2) : LO G w0 w2 Av us bs :=
  ⟨gr_trans h.bel hb, ownsRow_off h.row (Off.of_below (S := fun _ => False) hb) (fun _ _ h => h), fun i u l h1 h2 => (h.bv i u l h1 h2).below hb⟩
theorem LO.ul (h : LO G w0 w Av us bs) : us.length = bs.length := by have := h.row.1; simpa using this
/-- A block is laid. -/
theorem LO.lay (h : LO G w0 w Av us bs) (hG : ∀ k, G k → k < w0.heap.size) {O c i : Nat} {u : Value} {l : List UInt8} (hA : Av = .slice (some ⟨O, 0, none⟩) bs.length c) (hi : i < bs.length)
    (hv : VG (fun k => G k ∨ (w0.heap.size ≤ k ∧ Av.ownBlock ≠ some k)) w u l) : LO G w0 (w.setCell ⟨O, i, none⟩ u) Av (us.set i u) (bs.set i l) := by
  have od : Off (· = O) w (w.setCell ⟨O, i, none⟩ u) := (Off.refl _ w).setCell _ rfl
  have hO : Av.ownBlock = some O := by rw [hA]; rfl
  have hOb : w0.heap.size ≤ O := (h.row.lt O hO).1
  have hS : ∀ k, k = O → ¬ (G k ∨ (w0.heap.size ≤ k ∧ Av.ownBlock ≠ some k)) := by
    rintro k rfl (hg | ⟨_, hn⟩)
    · have := hG _ hg; omega
    · exact hn hO
  refine ⟨h.bel.setCell hOb _, ?_, fun j v m hj hm => ?_⟩
  · rcases h.row.2 with ⟨e, h0⟩ | ⟨q, cap, cur, e, hb, hq, hnc, hm, hcs, ht⟩
    · rw [hA] at e; cases e
    · rw [hA] at e
      cases e
      refine ⟨by have := h.row.1; simpa using this, .inr ⟨O, c, cur.setIfInBounds i u, by rw [hA]; simp, hb, ?_, by simpa using hnc, hm, by simpa using hcs, ?_⟩⟩
      · simp only [World.setCell, Array.getElem?_modify, if_pos, hq]
        simp
      · rw [Array.toList_setIfInBounds, List.take_set, List.length_set, ht]
  · rw [List.getElem?_set] at hj hm
    by_cases e : i = j
    · subst e
      rw [if_pos rfl] at hj hm
      rw [if_pos (by rw [h.ul]; exact hi)] at hj
      rw [if_pos hi] at hm
      cases hj
      cases hm
      exact hv.off od hS
    · rw [if_neg e] at hj hm
      exact (h.bv j v m hj hm).off od hS
/-- Where a block lies in the row. -/
theorem LO.at_ (h : LO G w0 w Av us bs) {i : Nat} (hi : i < bs.length) : ∃ O c u, Av = .slice (some ⟨O, 0, none⟩) bs.length c ∧ w.cell? ⟨O, i, none⟩ = some u ∧ w.frozen? ⟨O, i, none⟩ = false ∧ VG (fun k => G k ∨ (w0.heap.size ≤ k ∧ Av.ownBlock ≠ some k)) w u (bs.getD i []) := by
  obtain ⟨O, c, e⟩ := own_plain h.row (by omega)
  have hu : us[i]? = some (us[i]'(by rw [h.ul]; exact hi)) := List.getElem?_eq_getElem _
  refine ⟨O, c, _, e, by rw [show (⟨O, i, none⟩ : Addr) = (⟨O, 0, none⟩ : Addr).add i from by by_cases h0 : i = 0 <;> simp [Addr.add, h0]]; exact h.row.cells (g := O) (by rw [e]; rfl) i _ hu, ?_, h.bv i _ _ hu (by simp [List.getD, List.getElem?_eq_getElem hi])⟩
  rcases h.row.2 with ⟨e2, h0⟩ | ⟨q, cap, cur, e2, hb, hq, hnc, hm, hcs, ht⟩
  · rw [e] at e2; cases e2
  · rw [e] at e2
    cases e2
    simp [World.frozen?, hq]
/-- New bytes lie elsewhere than the row. -/
theorem LO.fresh (h : LO G w0 w Av us bs) {base c : Nat} {A : Option Addr} {l : List UInt8} (hb : w0.heap.size ≤ base) (ho : OB w base (.slice A 4096 c) l) (hl : l.length = 4096) : VG (fun k => G k ∨ (w0.heap.size ≤ k ∧ Av.ownBlock ≠ some k)) w (.slice A 4096 c) l := by
  obtain ⟨A', c', e, hr, hc, hm⟩ := ho.formN hl
  injection e with e1 _ e3
  subst e1 e3
  refine ⟨hl, A, c, rfl, hr, fun ad ea => .inr ⟨?_, fun hk => ?_⟩, hc, hm⟩
  · have := own_plain (n := l.length) ho (by omega)
    obtain ⟨g, c2, e⟩ := this
    rw [ea] at e
    injection e with e _ _
    injection e with e
    subst e
    exact Nat.le_trans hb (ho.lt g (by rw [ea]; rfl)).1
  · have ho' : w.ownsRow base 5 1 (.slice A 4096 c) 4096 (l.map Proofs.Ytjopobkcijkpmaa.bv) := by have := ho; unfold OB at this; rw [hl] at this; exact this
    obtain ⟨cur, fr, h1⟩ := own_at ho' ea
    obtain ⟨cur2, h2⟩ := own_blk h.row hk
    rw [h1] at h2
    injection h2 with h2
    injection h2 with _ h3 _
    exact absurd h3 (by decide)
end
theorem VG.shut {G : Nat → Prop} {w0 w : World} {P : Nat → Prop} {u : Value} {l : List UInt8} (h : VG (fun k => G k ∨ (w0.heap.size ≤ k ∧ P k)) w u l) : VG (plusG G w0 w) w u l := by
  obtain ⟨h0, A, c, e, h1, h2, h3⟩ := h
  refine ⟨h0, A, c, e, h1, fun ad ea => ?_, h3⟩
  rcases h2 ad ea with h | ⟨h, _⟩
  · exact .inl h
  · refine .inr ⟨h, ?_⟩
    obtain ⟨g, o, e2, hc⟩ := Rd.plain h1 (by omega) (by omega)
    rw [ea] at e2
    cases e2
    have hl : 0 < (l.map bv).length := by rw [List.length_map, h0]; omega
    exact World.block_lt_of_cell? w _ (hc 0 _ (List.getElem?_eq_getElem hl))
theorem BR.cutE {w : World} {A : Option Addr} {n : Nat} {l : List UInt8} (h : BR w A n l) {k c : Nat} (hk : k ≤ n) (hc : n ≤ c) : BR w (cutA A c k 1) (n - k) (l.drop k) := by
  have := h.cut hk (Nat.le_refl n) hc
  rwa [List.take_of_length_le (by rw [List.length_drop, h.len]; omega)] at this
/-- n bytes of one's own. -/
def MP.obx (base n : Nat) (l : List UInt8) : MP := ⟨fun v w => ∃ A c, v = .slice A n c ∧ w.ownsRow base 5 1 (.slice A n c) n (l.map bv), fun _ _ _ hb ⟨A, c, e, h⟩ => ⟨A, c, e, ownsRow_off h (Off.of_below (S := fun _ => False) hb) (fun _ _ h => h)⟩⟩

end Go.Proofs.Ytjopobkcijkpmaa
