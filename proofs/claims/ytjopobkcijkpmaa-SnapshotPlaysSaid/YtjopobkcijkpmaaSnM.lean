/-
  Contracts: the calls upon a table beside blocks that it does not hold; a row of ints of its own.
-/
import Derived.Test.YtjopobkcijkpmaaSnL
namespace Go.Proofs.Ytjopobkcijkpmaa
open Go.RowKit

/-- One table, made since w0, apart from the blocks of Q. -/
def TSQ (w0 w : World) (g : Nat) (T : TabS) (Q : Nat → Prop) : Prop := Below w0.heap.size w0 w ∧ ∃ F, IsT w w0.heap.size g F T ∧ ∀ k, Q k → ¬ F k ∧ k < w.heap.size

section
variable {w0 w w' : World} {base g : Nat} {T : TabS} {F Q : Nat → Prop}
theorem TSQ.ts (h : TSQ w0 w g T Q) : TSt w0 w g T := by
  obtain ⟨h1, F, h2, _⟩ := h
  exact ⟨h1, F, h2⟩
theorem TSQ.sub {R : Nat → Prop} (h : TSQ w0 w g T Q) (hR : ∀ k, R k → Q k) : TSQ w0 w g T R := by
  obtain ⟨h1, F, h2, h3⟩ := h
  exact ⟨h1, F, h2, fun k hk => h3 k (hR k hk)⟩
/-- What is made later is apart. -/
theorem TSQ.more {R : Nat → Prop} (h : TSQ w0 w g T Q) (hb : Below w.heap.size w w') (hR : ∀ k, R k → Q k ∨ (w.heap.size ≤ k ∧ k < w'.heap.size)) : TSQ w0 w' g T R := by
  obtain ⟨h1, F, h2, h3⟩ := h
  refine ⟨gr_trans h1 hb, F, h2.below hb, fun k hk => ?_⟩
  rcases hR k hk with hq | hq
  · exact ⟨(h3 k hq).1, Nat.lt_of_lt_of_le (h3 k hq).2 hb.size⟩
  · exact ⟨fun hf => by have := (h2.foot_lt k hf).2; omega, hq.2⟩
theorem TSQ.below (h : TSQ w0 w g T Q) (hb : Below w.heap.size w w') : TSQ w0 w' g T Q := h.more hb (fun _ hk => .inl hk)
theorem TSt.more {R : Nat → Prop} (h : TSt w0 w g T) (hb : Below w.heap.size w w') (hR : ∀ k, R k → w.heap.size ≤ k ∧ k < w'.heap.size) : TSQ w0 w' g T R := by
  obtain ⟨h1, F, h2⟩ := h
  exact TSQ.more (Q := fun _ => False) ⟨h1, F, h2, fun k hk => hk.elim⟩ hb (fun k hk => .inr (hR k hk))
/-- A block of Q is turned by somebody else. -/
theorem TSQ.turned (h : TSQ w0 w g T Q) {S : Nat → Prop} (ho : Off S w w') (hS : ∀ k, S k → Q k) {R : Nat → Prop} (hb0 : ∀ k, S k → w0.heap.size ≤ k) (hR : ∀ k, R k → Q k ∨ (w.heap.size ≤ k ∧ k < w'.heap.size)) : TSQ w0 w' g T R := by
  obtain ⟨h1, F, h2, h3⟩ := h
  refine ⟨h1.trans (ho.below hb0 h1.size), F, h2.off ho (fun k hf hs => (h3 k (hS k hs)).1 hf), fun k hk => ?_⟩
  rcases hR k hk with hq | hq
  · exact ⟨(h3 k hq).1, Nat.lt_of_lt_of_le (h3 k hq).2 ho.size⟩
  · exact ⟨fun hf => by have := (h2.foot_lt k hf).2; omega, hq.2⟩
theorem TSQ.post {T' : TabS} (h1 : Below w0.heap.size w0 w) (h2 : IsT w w0.heap.size g F T) (h3 : ∀ k, Q k → ¬ F k ∧ k < w.heap.size) (hp : TPost w w0.heap.size g F T' w') : TSQ w0 w' g T' Q ∧ Off (fun k => ¬ Q k) w w' := by
  obtain ⟨ho, F', h4, h5⟩ := hp
  refine ⟨⟨h1.trans (ho.below (fun k hk => (h2.foot_lt k hk).1) h1.size), F', h4, fun k hk => ?_⟩, ho.mono (fun k _ hf hq => (h3 k hq).1 hf)⟩
  have := h3 k hk
  exact ⟨fun hf => by rcases h5 k hf with h | h; exact this.1 h; omega, Nat.lt_of_lt_of_le this.2 ho.size⟩
theorem row_stays {v : Value} {n : Nat} {e : TypeId} {xs : List Value} {base : Nat} (h : w.ownsRow base e 1 v n xs) (ho : Off (fun k => ¬ Q k) w w') (hQ : ∀ k, v.ownBlock = some k → Q k) : w'.ownsRow base e 1 v n xs := ownsRow_off h ho (fun k e x => x (hQ k e))

theorem Begin_tq (h : TSQ w0 w g T Q) : Calls Try.prog 31 #[.pointer (some ⟨g, 0, none⟩)] w fun e w' => e = .returned (.tuple #[.int .i64 (begN T), .int .i64 (begE T)]) ∧ TSQ w0 w' g (begT T) Q ∧ Off (fun k => ¬ Q k) w w' := by
  obtain ⟨h1, F, h2, h3⟩ := h
  refine (Begin_any w _ g F T h2 h1.size).mono ?_
  rintro e w' ⟨rfl, hp⟩
  exact ⟨rfl, TSQ.post h1 h2 h3 hp⟩
theorem Commit_tq (tx : Int) (h : TSQ w0 w g T Q) (h1 : -9223372036854775808 ≤ tx) (h2 : tx ≤ 9223372036854775807) (hl0 : 0 ≤ T.last) (hl1 : T.last ≤ 1000000) : Calls Try.prog 32 #[.pointer (some ⟨g, 0, none⟩), .int .i64 tx] w fun e w' => e = .returned (.int .i64 (askT T tx)) ∧ TSQ w0 w' g (comT T tx) Q ∧ Off (fun k => ¬ Q k) w w' := by
  obtain ⟨k1, F, k2, k3⟩ := h
  refine (Commit_any w _ g F T tx k2 h1 h2 hl0 hl1).mono ?_
  rintro e w' ⟨rfl, hp⟩
  exact ⟨rfl, TSQ.post k1 k2 k3 hp⟩
theorem Abort_tq (tx : Int) (h : TSQ w0 w g T Q) (h1 : -9223372036854775808 ≤ tx) (h2 : tx ≤ 9223372036854775807) : Calls Try.prog 33 #[.pointer (some ⟨g, 0, none⟩), .int .i64 tx] w fun e w' => e = .returned (.int .i64 (askT T tx)) ∧ TSQ w0 w' g (aboT T tx) Q ∧ Off (fun k => ¬ Q k) w w' := by
  obtain ⟨k1, F, k2, k3⟩ := h
  refine (Abort_any w _ g F T tx k2 h1 h2).mono ?_
  rintro e w' ⟨rfl, hp⟩
  exact ⟨rfl, TSQ.post k1 k2 k3 hp⟩
theorem Visible_tb (tx wt : Int) (h : TSt w0 w g T) (h1 : -9223372036854775808 ≤ tx) (h2 : tx ≤ 9223372036854775807) (h3 : -9223372036854775808 ≤ wt) (h4 : wt ≤ 9223372036854775807) : Calls Try.prog 35 #[.pointer (some ⟨g, 0, none⟩), .int .i64 tx, .int .i64 wt] w fun e w' => e = .returned (.bool (visB T tx wt)) ∧ Below w.heap.size w w' := by
  obtain ⟨k1, F, k2⟩ := h
  exact Visible_any w _ g F T tx wt k2 h1 h2 h3 h4
theorem ToAll_tb (wt : Int) (h : TSt w0 w g T) (h3 : -9223372036854775808 ≤ wt) (h4 : wt ≤ 9223372036854775807) : Calls Try.prog 37 #[.pointer (some ⟨g, 0, none⟩), .int .i64 wt] w fun e w' => e = .returned (.bool (toAllB T wt)) ∧ Below w.heap.size w w' := by
  obtain ⟨k1, F, k2⟩ := h
  exact ToAll_any w _ g F T wt k2 h3 h4
theorem TSt.len (h : TSt w0 w g T) : T.opn.length ≤ 16 := by
  obtain ⟨_, F, m, ov, dv, hd, _⟩ := h
  exact hd.o2
theorem TSt.pos (h : TSt w0 w g T) : 1 ≤ T.next := by
  obtain ⟨_, F, m, ov, dv, hd, _⟩ := h
  exact hd.n1
theorem TSt.oi (h : TSt w0 w g T) : ∀ x ∈ T.opn, 1 ≤ x ∧ x < T.next := by
  obtain ⟨_, F, m, ov, dv, hd, _⟩ := h
  exact hd.oi
end

/-- A row of ints of one's own, an int of it. -/
theorem own_int {w : World} {base n : Nat} {v : Value} {l : List Int} (h : w.ownsRow base 3 1 v n (l.map (Value.int .i64))) {k : Nat} (hk : k < l.length) : ∃ q c, v = .slice (some ⟨q, 0, none⟩) n c ∧ w.cell? ⟨q, k, none⟩ = some (.int .i64 (l.getD k 0)) := by
  rcases h.2 with ⟨_, e⟩ | ⟨q, cap, cur, e, _⟩
  · have := h.1
    rw [List.length_map] at this
    omega
  · have hc := h.cells (g := q) (by rw [e]; rfl) k (.int .i64 (l.getD k 0)) (by simp [List.getD, List.getElem?_eq_getElem hk])
    rw [add_plain] at hc
    exact ⟨q, cap, e, hc⟩

end Go.Proofs.Ytjopobkcijkpmaa
