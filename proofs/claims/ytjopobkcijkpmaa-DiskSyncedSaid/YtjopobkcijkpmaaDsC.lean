/-
  DiskSynced's memory: the disk, the crash's variable, and the rows that each block may hold; what each step does to them.
-/
import Derived.Test.YtjopobkcijkpmaaDsB
namespace Go.Proofs.Ytjopobkcijkpmaa
open Go.RowKit

/-- The crash's variable. -/
def CB (w : World) (cb : Nat) (K : Option Addr) (nk ck : Nat) (torn cut : Int) : Prop := w.heap[cb]? = some (.cells #[.slice K nk ck, .int .i64 torn, .int .i64 cut] 25 (0, 0))
section
variable {w w' : World} {cb : Nat} {K : Option Addr} {nk ck : Nat} {torn cut : Int}
theorem CB.lt (h : CB w cb K nk ck torn cut) : cb < w.heap.size := (Array.getElem?_eq_some_iff.1 h).1
theorem CB.off {S : Nat → Prop} (h : CB w cb K nk ck torn cut) (ho : Off S w w') (hg : ¬ S cb) : CB w' cb K nk ck torn cut := (ho.block cb h.lt hg).trans h
theorem CB.below (h : CB w cb K nk ck torn cut) (hb : Below w.heap.size w w') : CB w' cb K nk ck torn cut := (hb.block cb h.lt).trans h
theorem CB.c0 (h : CB w cb K nk ck torn cut) : w.cell? ⟨cb, 0, none⟩ = some (.slice K nk ck) := by rw [cell_of_row w cb 0 _ _ _ h]; rfl
theorem CB.c1 (h : CB w cb K nk ck torn cut) : w.cell? ⟨cb, 1, none⟩ = some (.int .i64 torn) := by rw [cell_of_row w cb 1 _ _ _ h]; rfl
theorem CB.c2 (h : CB w cb K nk ck torn cut) : w.cell? ⟨cb, 2, none⟩ = some (.int .i64 cut) := by rw [cell_of_row w cb 2 _ _ _ h]; rfl
theorem CB.frozen (h : CB w cb K nk ck torn cut) (j : Nat) : w.frozen? ⟨cb, j, none⟩ = false := by unfold CB at h; simp [World.frozen?, h]
theorem CB.s2 (h : CB w cb K nk ck torn cut) (x : Int) : CB (w.setCell ⟨cb, 2, none⟩ (.int .i64 x)) cb K nk ck torn x := by unfold CB at h ⊢; simp only [World.setCell, Array.getElem?_modify, if_pos, h]; rfl
end

theorem UL.off {w w' : World} {S : Nat → Prop} {us : List Value} {ls : List (List UInt8)} (h : UL w us ls) (ho : Off S w w') (hS : ∀ k cs fr, S k → w.heap[k]? = some (.cells cs 5 fr) → False) : UL w' us ls := by
  refine ⟨h.1, fun i u l hu hl => ⟨(h.2 i u l hu hl).1, ?_⟩⟩
  have hb := (h.2 i u l hu hl).2
  refine ownsRow_off hb ho (fun k e hs => ?_)
  rcases hb.2 with ⟨e2, _⟩ | ⟨q, cap, cur, e2, _, hq, _⟩
  · rw [e2] at e; simp [Value.ownBlock] at e
  · rw [e2] at e
    simp [Value.ownBlock] at e
    subst e
    exact hS _ _ _ hs hq

/-- An own row's block. -/
theorem OR.blk {w : World} {base n : Nat} {e : TypeId} {v : Value} {xs : List Value} (h : OR w base e v n xs) {k : Nat} (hk : v.ownBlock = some k) : ∃ cur, w.heap[k]? = some (.cells cur e (0, 0)) := by
  rcases h.2 with ⟨rfl, _⟩ | ⟨g, off, cap, cur, rfl, _, h3, _⟩
  · simp [Value.ownBlock] at hk
  · simp [Value.ownBlock] at hk
    subst hk
    exact ⟨cur, h3⟩

structure SY (w0 w : World) (g : Nat) (D : DiskS) (cb : Nat) (K : Option Addr) (nk ck : Nat) (torn cut : Int) (mb : Nat) (vs : Nat → Value) (may : Nat → List (List UInt8)) : Prop where
  dq : DSQ w0 w g D (fun k => k = cb ∨ mblk mb vs k)
  ms : Mays w0 w mb vs may
  cx : CB w cb K nk ck torn cut
  cw : w0.heap.size ≤ cb

section
variable {w0 w w' w1 w2 : World} {g : Nat} {D D' : DiskS} {cb : Nat} {K : Option Addr} {nk ck : Nat} {torn cut : Int} {mb : Nat} {vs : Nat → Value} {may : Nat → List (List UInt8)}
theorem Mays.off {S : Nat → Prop} (h : Mays w0 w mb vs may) (ho : Off S w w') (hS : ∀ k, mblk mb vs k → ¬ S k) (hU : ∀ k cs fr, S k → w.heap[k]? = some (.cells cs 5 fr) → False) : Mays w0 w' mb vs may :=
  ⟨h.vr.off ho (hS mb (.inl rfl)), fun b hb => by
    obtain ⟨us, h1, h2⟩ := h.row b hb
    exact ⟨us, h1.off ho (fun k e => hS k (.inr ⟨b, hb, e⟩)), h2.off ho hU⟩, h.ap, h.mw⟩
theorem Mays.below (h : Mays w0 w mb vs may) (hb : Below w.heap.size w w') : Mays w0 w' mb vs may := h.off (S := fun _ => False) (Off.of_below hb) (fun _ _ h => h) (fun _ _ _ h => h.elim)
theorem SY.below (h : SY w0 w g D cb K nk ck torn cut mb vs may) (hb : Below w.heap.size w w') : SY w0 w' g D cb K nk ck torn cut mb vs may := ⟨h.dq.below hb, h.ms.below hb, h.cx.below hb, h.cw⟩
/-- The disk has been called. -/
theorem SY.called (h : SY w0 w g D cb K nk ck torn cut mb vs may) (hd : DSQ w0 w' g D' (fun k => k = cb ∨ mblk mb vs k)) (ho : Off (fun k => ¬ (k = cb ∨ mblk mb vs k)) w w') (hk : KB w w') : SY w0 w' g D' cb K nk ck torn cut mb vs may := by
  refine ⟨hd, ⟨h.ms.vr.off ho (fun e => e (.inr (.inl rfl))), fun b hb => ?_, h.ms.ap, h.ms.mw⟩, h.cx.off ho (fun e => e (.inl rfl)), h.cw⟩
  obtain ⟨us, h1, h2⟩ := h.ms.row b hb
  exact ⟨us, h1.off ho (fun k e hn => hn (.inr (.inr ⟨b, hb, e⟩))), h2.kb hk⟩
theorem SY.ne_cm (h : SY w0 w g D cb K nk ck torn cut mb vs may) : cb ≠ mb := by
  rintro rfl
  exact cells_ne h.cx h.ms.vr (by decide)
theorem SY.ne_cr (h : SY w0 w g D cb K nk ck torn cut mb vs may) {b : Nat} (hb : b < 4) : (vs b).ownBlock ≠ some cb := by
  intro e
  obtain ⟨us, h1, _⟩ := h.ms.row b hb
  obtain ⟨cur, hc⟩ := h1.blk e
  exact cells_ne h.cx hc (by decide)
theorem Mays.ne_mr (h : Mays w0 w mb vs may) {b : Nat} (hb : b < 4) : (vs b).ownBlock ≠ some mb := by
  intro e
  obtain ⟨us, h1, _⟩ := h.row b hb
  obtain ⟨cur, hc⟩ := h1.blk e
  exact cells_ne h.vr hc (by decide)

/-- A row has been appended to, and stored. -/
theorem SY.push (h : SY w0 w g D cb K nk ck torn cut mb vs may) {b : Nat} (hb : b < 4) (hg : w.grownBy w2 (vs b).ownBlock) {v' : Value} {us' : List Value} {ls' : List (List UInt8)}
    (ho' : OR w2 w0.heap.size 33 v' ls'.length us') (hu' : UL w us' ls') (hv : v'.ownBlock = (vs b).ownBlock ∨ v'.ownBlock = some w.heap.size) :
    MB w2 mb vs ∧ SY w0 (w2.setCell ⟨mb, b, none⟩ v') g D cb K nk ck torn cut mb (fun j => if j = b then v' else vs j) (fun j => if j = b then ls' else may j) := by
  obtain ⟨us, r1, r2⟩ := h.ms.row b hb
  have o2 : Off (fun k => (vs b).ownBlock = some k) w w2 := Off.of_grown hg (fun _ e => e)
  have hmb := h.ms.vr.off o2 (h.ms.ne_mr hb)
  have o3 : Off (fun k => k = mb) w2 (w2.setCell ⟨mb, b, none⟩ v') := (Off.refl (fun k => k = mb) w2).setCell _ rfl
  have t2 : ∀ k cs fr, (vs b).ownBlock = some k → w.heap[k]? = some (.cells cs 5 fr) → False := fun k cs fr e hc => by
    obtain ⟨cur, hk⟩ := r1.blk e
    exact cells_ne hk hc (by decide)
  have t3 : ∀ k cs fr, k = mb → w2.heap[k]? = some (.cells cs 5 fr) → False := fun k cs fr e hc => by
    subst e
    exact cells_ne hmb hc (by decide)
  have hmlt := h.ms.vr.lt
  have hv0 : v'.ownBlock ≠ some mb := by
    rcases hv with e | e
    · rw [e]; exact h.ms.ne_mr hb
    · rw [e]
      intro e2
      injection e2 with e2
      omega
  refine ⟨hmb, ⟨?_, ⟨hmb.set hb v', fun c hc => ?_, ?_, h.ms.mw⟩, (h.cx.off o2 (h.ne_cr hb)).off o3 h.ne_cm, h.cw⟩⟩
  · have d2 : DSQ w0 w2 g D (fun k => k = cb ∨ mblk mb vs k ∨ v'.ownBlock = some k) := h.dq.turned o2 (fun k e => .inr (.inr ⟨b, hb, e⟩)) (fun k m e hB => t2 k _ _ e hB) (fun k e => (r1.lt k e).1) (fun k hk => by
      rcases hk with hk | hk | hk
      · exact .inl (.inl hk)
      · exact .inl (.inr hk)
      · rcases hv with e | e
        · exact .inl (.inr (.inr ⟨b, hb, e ▸ hk⟩))
        · have hz := (ho'.lt k hk).2
          rw [e] at hk
          injection hk with hk
          exact .inr ⟨by omega, hz⟩)
    refine d2.turned o3 (fun k e => .inr (.inl (.inl e))) (fun k m e hB => t3 k _ _ e hB) (fun k e => by rw [e]; exact h.ms.mw) (fun k hk => .inl ?_)
    rcases hk with hk | hk | ⟨c, hc, hk⟩
    · exact .inl hk
    · exact .inr (.inl (.inl hk))
    · dsimp only at hk
      split at hk
      · exact .inr (.inr hk)
      · exact .inr (.inl (.inr ⟨c, hc, hk⟩))
  · by_cases e : c = b
    · subst e
      simp only [if_pos]
      exact ⟨us', ho'.off o3 (fun k e1 e2 => hv0 (by rw [e1, e2])), (hu'.off o2 t2).off o3 t3⟩
    · simp only [if_neg e]
      obtain ⟨uc, q1, q2⟩ := h.ms.row c hc
      have q3 := q1.off o2 (fun k e1 e2 => h.ms.ap c hc b hb e k e1 e2)
      exact ⟨uc, q3.off o3 (fun k e1 e2 => h.ms.ne_mr hc (by rw [e1, e2])), (q2.off o2 t2).off o3 t3⟩
  · intro c hc d hd hne k e1 e2
    by_cases ec : c = b
    · subst ec
      rw [if_pos rfl] at e1
      rw [if_neg (Ne.symm hne)] at e2
      rcases hv with e | e
      · exact h.ms.ap c hc d hd hne k (e ▸ e1) e2
      · rw [e] at e1
        injection e1 with e1
        obtain ⟨ud, q1, _⟩ := h.ms.row d hd
        have := (q1.lt k e2).2
        omega
    · rw [if_neg ec] at e1
      by_cases ed : d = b
      · subst ed
        rw [if_pos rfl] at e2
        rcases hv with e | e
        · exact h.ms.ap c hc d hd hne k e1 (e ▸ e2)
        · rw [e] at e2
          injection e2 with e2
          obtain ⟨uc, q1, _⟩ := h.ms.row c hc
          have := (q1.lt k e1).2
          omega
      · rw [if_neg ed] at e2
        exact h.ms.ap c hc d hd hne k e1 e2
end

end Go.Proofs.Ytjopobkcijkpmaa
