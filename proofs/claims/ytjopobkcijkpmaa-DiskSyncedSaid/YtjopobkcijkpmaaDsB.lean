/-
  A disk beside blocks that it does not hold. Rows of blocks' contents in memory.
-/
import Derived.Test.YtjopobkcijkpmaaDsA
import Derived.Test.YtjopobkcijkpmaaOfr
namespace Go.Proofs.Ytjopobkcijkpmaa
open Go.RowKit

/-- One disk, made since w0, apart from the blocks of Q. -/
def DSQ (w0 w : World) (g : Nat) (D : DiskS) (Q : Nat → Prop) : Prop := Below w0.heap.size w0 w ∧ ∃ F, IsD w (fun k => w0.heap.size ≤ k) w0.heap.size g F D ∧ ∀ k, Q k → ¬ F k ∧ k < w.heap.size

section
variable {w0 w w' : World} {g : Nat} {D D' : DiskS} {F Q : Nat → Prop}
theorem DSQ.st (h : DSQ w0 w g D Q) : St w0 w g D := by
  obtain ⟨h1, F, h2, _⟩ := h
  exact ⟨h1, F, h2⟩
theorem DSQ.sub {R : Nat → Prop} (h : DSQ w0 w g D Q) (hR : ∀ k, R k → Q k) : DSQ w0 w g D R := by
  obtain ⟨h1, F, h2, h3⟩ := h
  exact ⟨h1, F, h2, fun k hk => h3 k (hR k hk)⟩
theorem DSQ.more {R : Nat → Prop} (h : DSQ w0 w g D Q) (hb : Below w.heap.size w w') (hR : ∀ k, R k → Q k ∨ (w.heap.size ≤ k ∧ k < w'.heap.size)) : DSQ w0 w' g D R := by
  obtain ⟨h1, F, h2, h3⟩ := h
  refine ⟨gr_trans h1 hb, F, h2.below hb, fun k hk => ?_⟩
  rcases hR k hk with hq | hq
  · exact ⟨(h3 k hq).1, Nat.lt_of_lt_of_le (h3 k hq).2 hb.size⟩
  · exact ⟨fun hf => by have := (h2.foot_lt k hf).2; omega, hq.2⟩
theorem DSQ.below (h : DSQ w0 w g D Q) (hb : Below w.heap.size w w') : DSQ w0 w' g D Q := h.more hb (fun _ hk => .inl hk)
theorem St.moreD {R : Nat → Prop} (h : St w0 w g D) (hb : Below w.heap.size w w') (hR : ∀ k, R k → w.heap.size ≤ k ∧ k < w'.heap.size) : DSQ w0 w' g D R := by
  obtain ⟨h1, F, h2⟩ := h
  exact DSQ.more (Q := fun _ => False) ⟨h1, F, h2, fun k hk => hk.elim⟩ hb (fun k hk => .inr (hR k hk))
/-- A block of Q, of no bytes, is turned by somebody else. -/
theorem DSQ.turned (h : DSQ w0 w g D Q) {S : Nat → Prop} (ho : Off S w w') (hS : ∀ k, S k → Q k) (hB : ∀ k m, S k → BB w k m → False) {R : Nat → Prop} (hb0 : ∀ k, S k → w0.heap.size ≤ k) (hR : ∀ k, R k → Q k ∨ (w.heap.size ≤ k ∧ k < w'.heap.size)) : DSQ w0 w' g D R := by
  obtain ⟨h1, F, h2, h3⟩ := h
  refine ⟨h1.trans (ho.below hb0 h1.size), F, h2.off ho (fun k hf hs => (h3 k (hS k hs)).1 hf) hB, fun k hk => ?_⟩
  rcases hR k hk with hq | hq
  · exact ⟨(h3 k hq).1, Nat.lt_of_lt_of_le (h3 k hq).2 ho.size⟩
  · exact ⟨fun hf => by have := (h2.foot_lt k hf).2; omega, hq.2⟩
theorem DSQ.post (h1 : Below w0.heap.size w0 w) (h2 : IsD w (fun k => w0.heap.size ≤ k) w0.heap.size g F D) (h3 : ∀ k, Q k → ¬ F k ∧ k < w.heap.size) (hp : DPost w (fun k => w0.heap.size ≤ k) w0.heap.size g F D' w') : DSQ w0 w' g D' Q ∧ Off (fun k => ¬ Q k) w w' ∧ KB w w' := by
  have hk := (St.post h1 h2 hp).2
  obtain ⟨ho, F', h4, h5⟩ := hp
  refine ⟨⟨h1.trans (ho.below (fun k hk => (h2.foot_lt k hk).1) h1.size), F', h4.mono (fun k _ hk => ?_), fun k hk => ?_⟩, ho.mono (fun k _ hf hq => (h3 k hq).1 hf), hk⟩
  · rcases hk with hk | hk
    · exact hk
    · exact Nat.le_trans h1.size hk
  · have := h3 k hk
    exact ⟨fun hf => by rcases h5 k hf with h | h; exact this.1 h; omega, Nat.lt_of_lt_of_le this.2 ho.size⟩

theorem Write_dq (b : Int) (A : Option Addr) (n c : Nat) (m : List UInt8) (h : DSQ w0 w g D Q) (hm : OB w w0.heap.size (.slice A n c) m) (hn : m.length = n) (hpl : D.pending.length ≤ 1000000) :
    Calls Try.prog 20 #[.pointer (some ⟨g, 0, none⟩), .int .i64 b, .slice A n c] w fun e w' => e = .returned (.int .i64 (writeE D b n)) ∧ DSQ w0 w' g (writeD D b m) Q ∧ Off (fun k => ¬ Q k) w w' ∧ KB w w' := by
  obtain ⟨h1, F, h2, h3⟩ := h
  obtain ⟨A', c', e', hr, hcn, hcm⟩ := hm.formN hn
  injection e' with e1 e2 e3
  subst e1 e3
  refine (Write_any w _ _ g F D b A n c m h2 hr (fun ad e hf => ?_) (by unfold maxLen at hcm; omega) hpl).mono ?_
  · subst e
    rcases hm.2 with ⟨e, _⟩ | ⟨q, cap, cur, e, _, hg, _⟩
    · cases e
    · injection e with e
      injection e with e
      subst e
      exact h2.foot_ty q _ _ hf hg
  · rintro e w' ⟨rfl, hp⟩
    exact ⟨rfl, DSQ.post h1 h2 h3 hp⟩
theorem Sync_dq (h : DSQ w0 w g D Q) (hpl : D.pending.length ≤ 1000000) :
    Calls Try.prog 17 #[.pointer (some ⟨g, 0, none⟩)] w fun e w' => e = .returned (.int .i64 (opC D)) ∧ DSQ w0 w' g (syncD D) Q ∧ Off (fun k => ¬ Q k) w w' ∧ KB w w' := by
  obtain ⟨h1, F, h2, h3⟩ := h
  refine (Sync_any w _ _ g F D h2 hpl).mono ?_
  rintro e w' ⟨rfl, hp⟩
  exact ⟨rfl, DSQ.post h1 h2 h3 hp⟩
theorem Crash_dq (K : Option Addr) (nk ck : Nat) (keep : List Bool) (torn cut : Int) (h : DSQ w0 w g D Q) (hK : LR w K nk keep) (hA : ∀ ad, K = some ad → 0 < nk → ad.block < w0.heap.size) (hnk : nk ≤ 9223372036854775807) (hpl : D.pending.length ≤ 1000000) :
    Calls Try.prog 23 #[.pointer (some ⟨g, 0, none⟩), .agg #[.slice K nk ck, .int .i64 torn, .int .i64 cut]] w fun e w' => e = .returned (.int .i64 (crashE cut)) ∧ DSQ w0 w' g (crashD D keep torn cut) Q ∧ Off (fun k => ¬ Q k) w w' ∧ KB w w' := by
  obtain ⟨h1, F, h2, h3⟩ := h
  refine (Crash_any w _ _ g F D K nk ck keep torn cut h2 hK (fun ad e h0 hf => ?_) hnk hpl).mono ?_
  · have := hA ad e h0
    have := (h2.foot_lt _ hf).1
    omega
  · rintro e w' ⟨rfl, hp⟩
    exact ⟨rfl, DSQ.post h1 h2 h3 hp⟩
end

/-- Blocks' contents: each in bytes of its own. -/
def UL (w : World) (us : List Value) (ls : List (List UInt8)) : Prop := us.length = ls.length ∧ ∀ (i : Nat) (u : Value) (l : List UInt8), us[i]? = some u → ls[i]? = some l → l.length = 4096 ∧ OB w 0 u l
section
variable {w w' : World} {us vs : List Value} {ls ms : List (List UInt8)}
theorem UL.kb (h : UL w us ls) (hk : KB w w') : UL w' us ls := ⟨h.1, fun i u l hu hl => ⟨(h.2 i u l hu hl).1, hk.ob (h.2 i u l hu hl).2⟩⟩
theorem UL.below (h : UL w us ls) (hb : Below w.heap.size w w') : UL w' us ls := h.kb (KB.of_below hb)
theorem UL.app (h : UL w us ls) (h2 : UL w vs ms) : UL w (us ++ vs) (ls ++ ms) := by
  refine ⟨by rw [List.length_append, List.length_append, h.1, h2.1], fun i u l hu hl => ?_⟩
  rcases Nat.lt_or_ge i us.length with hi | hi
  · rw [List.getElem?_append_left hi] at hu
    rw [List.getElem?_append_left (by rw [← h.1]; exact hi)] at hl
    exact h.2 i u l hu hl
  · rw [List.getElem?_append_right hi] at hu
    rw [List.getElem?_append_right (by rw [← h.1]; exact hi), ← h.1] at hl
    exact h2.2 _ u l hu hl
theorem UL.one {u : Value} {l : List UInt8} (hl : l.length = 4096) (h : OB w 0 u l) : UL w [u] [l] := ⟨rfl, fun i u' l' hu hl' => by
  cases i with
  | zero => simp at hu hl'; subst hu hl'; exact ⟨hl, h⟩
  | succ i => simp at hu⟩
theorem UL.drop (h : UL w us ls) (k : Nat) : UL w (us.drop k) (ls.drop k) := ⟨by rw [List.length_drop, List.length_drop, h.1], fun i u l hu hl => by
  rw [List.getElem?_drop] at hu hl
  exact h.2 _ u l hu hl⟩
theorem UL.oneCell (h : UL w us ls) : ∀ u ∈ us, u.oneCell' = true := by
  intro u hu
  obtain ⟨i, hi, rfl⟩ := List.getElem_of_mem hu
  have hl : i < ls.length := by rw [← h.1]; exact hi
  have := (h.2 i _ _ (List.getElem?_eq_getElem hi) (List.getElem?_eq_getElem hl)).2
  obtain ⟨A, c, e, _⟩ := this.form
  rw [e]
  rfl
end

/-- The variable of four rows. -/
def MB (w : World) (mb : Nat) (vs : Nat → Value) : Prop := w.heap[mb]? = some (.cells #[vs 0, vs 1, vs 2, vs 3] 32 (0, 0))
section
variable {w w' : World} {mb : Nat} {vs : Nat → Value}
theorem MB.lt (h : MB w mb vs) : mb < w.heap.size := (Array.getElem?_eq_some_iff.1 h).1
theorem MB.off {S : Nat → Prop} (h : MB w mb vs) (ho : Off S w w') (hg : ¬ S mb) : MB w' mb vs := (ho.block mb h.lt hg).trans h
theorem MB.below (h : MB w mb vs) (hb : Below w.heap.size w w') : MB w' mb vs := (hb.block mb h.lt).trans h
theorem MB.frozen (h : MB w mb vs) (j : Nat) : w.frozen? ⟨mb, j, none⟩ = false := by unfold MB at h; simp [World.frozen?, h]
theorem MB.cell (h : MB w mb vs) {b : Nat} (hb : b < 4) : w.cell? ⟨mb, b, none⟩ = some (vs b) := by
  rw [cell_of_row w mb b _ _ _ h]
  obtain rfl | rfl | rfl | rfl : b = 0 ∨ b = 1 ∨ b = 2 ∨ b = 3 := by omega
  all_goals rfl
theorem MB.set (h : MB w mb vs) {b : Nat} (hb : b < 4) (v : Value) : MB (w.setCell ⟨mb, b, none⟩ v) mb (fun j => if j = b then v else vs j) := by
  unfold MB at h ⊢
  simp only [World.setCell, Array.getElem?_modify, if_pos, h]
  obtain rfl | rfl | rfl | rfl : b = 0 ∨ b = 1 ∨ b = 2 ∨ b = 3 := by omega
  all_goals rfl
end

/-- The rows that each block may hold. -/
structure Mays (w0 w : World) (mb : Nat) (vs : Nat → Value) (may : Nat → List (List UInt8)) : Prop where
  vr : MB w mb vs
  row : ∀ b, b < 4 → ∃ us, OR w w0.heap.size 33 (vs b) (may b).length us ∧ UL w us (may b)
  ap : ∀ b, b < 4 → ∀ c, c < 4 → b ≠ c → ∀ k, (vs b).ownBlock = some k → (vs c).ownBlock = some k → False
  mw : w0.heap.size ≤ mb
/-- Their blocks. -/
def mblk (mb : Nat) (vs : Nat → Value) (k : Nat) : Prop := k = mb ∨ ∃ b, b < 4 ∧ (vs b).ownBlock = some k

end Go.Proofs.Ytjopobkcijkpmaa
