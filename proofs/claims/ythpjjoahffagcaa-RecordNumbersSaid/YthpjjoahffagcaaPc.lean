/-
  Words for memory: pieces (a place and its bytes), rows of them; what holds of cells holds on where only other objects turn. No statement of the program is proved here.
-/
import Derived.Test.YthpjjoahffagcaaMem
import Derived.RangeFuncBox
import Derived.RangeFuncNested
namespace Go.Proofs.Ythpjjoahffagcaa
open Go.RowKit

/-- Every block of cells lies as it lay. -/
def CK (w w' : World) : Prop := ∀ (k : Nat) (c : Array Value) (t : TypeId) (f : Nat × Nat), w.heap[k]? = some (.cells c t f) → w'.heap[k]? = some (.cells c t f)

section
variable {w w' w'' : World}
theorem CK.refl (w : World) : CK w w := fun _ _ _ _ h => h
theorem CK.trans (h : CK w w') (k : CK w' w'') : CK w w'' := fun _ _ _ _ e => k _ _ _ _ (h _ _ _ _ e)
theorem CK.of_grownBy {row : Option Nat} (hg : w.grownBy w' row) (hr : ∀ r, row = some r → ∃ o : Obj, w.heap[r]? = some o ∧ o.isCells = false) : CK w w' := by
  intro k c t f h
  have hlt : k < w.heap.size := (Array.getElem?_eq_some_iff.1 h).1
  rw [hg.block k hlt (fun e => by
    obtain ⟨o, ho, hc⟩ := hr k e.symm
    rw [h] at ho
    cases ho
    cases hc), h]
theorem CK.of_below (hb : Below w.heap.size w w') : CK w w' := fun k _ _ _ h => (hb.block k (Array.getElem?_eq_some_iff.1 h).1).trans h
theorem CK.cell (h : CK w w') {p : Addr} {u : Value} (hc : w.cell? p = some u) : w'.cell? p = some u := by
  unfold World.cell? at hc ⊢
  cases ho : w.heap[p.block]? with
  | none => rw [ho] at hc; cases hc
  | some o =>
    rw [ho] at hc
    cases o with
    | cells c t f => rw [h _ _ _ _ ho]; exact hc
    | _ => cases hc
theorem CK.frozen (h : CK w w') {p : Addr} {u : Value} (hc : w.cell? p = some u) : w'.frozen? p = w.frozen? p := by
  unfold World.cell? at hc
  unfold World.frozen?
  cases ho : w.heap[p.block]? with
  | none => rw [ho] at hc; cases hc
  | some o =>
    rw [ho] at hc
    cases o with
    | cells c t f => rw [h _ _ _ _ ho]
    | _ => cases hc
theorem CK.rd (h : CK w w') {size n : Nat} {A : Option Addr} {xs : List Value} (hr : Rd w size A n xs) : Rd w' size A n xs := hr.keep fun _ _ hc => h.cell hc
theorem CK.br (h : CK w w') {n : Nat} {A : Option Addr} {l : List UInt8} (hr : BR w A n l) : BR w' A n l := h.rd hr
theorem CK.own (h : CK w w') {base : Nat} {e : TypeId} {size : Nat} {v : Value} {n : Nat} {xs : List Value} (ho : w.ownsRow base e size v n xs) : w'.ownsRow base e size v n xs := by
  refine ⟨ho.1, ?_⟩
  rcases ho.2 with h0 | ⟨g, cap, cur, hv, hb, hg, r⟩
  · exact .inl h0
  · exact .inr ⟨g, cap, cur, hv, hb, h _ _ _ _ hg, r⟩
theorem CK.ob (h : CK w w') {base : Nat} {v : Value} {l : List UInt8} (ho : OB w base v l) : OB w' base v l := CK.own h ho
theorem CK.bb (h : CK w w') {g : Nat} {l : List UInt8} (hB : BB w g l) : BB w' g l := h _ _ _ _ hB
end

/-- The cells of pieces. -/
def pcs : List (Int × Value) → List Value
  | [] => []
  | p :: ps => .int .i64 p.1 :: p.2 :: pcs ps

theorem pcs_length (ps : List (Int × Value)) : (pcs ps).length = ps.length * 2 := by
  induction ps with
  | nil => rfl
  | cons p ps ih => simp only [pcs, List.length_cons, ih]; omega
theorem pcs_append (ps qs : List (Int × Value)) : pcs (ps ++ qs) = pcs ps ++ pcs qs := by
  induction ps with
  | nil => rfl
  | cons p ps ih => simp only [pcs, List.cons_append, ih]
theorem pcs_at : ∀ (ps : List (Int × Value)) (i : Nat) (p : Int × Value), ps[i]? = some p → (pcs ps)[i * 2]? = some (.int .i64 p.1) ∧ (pcs ps)[i * 2 + 1]? = some p.2
  | [], i, p, h => by simp at h
  | q :: ps, 0, p, h => by
    simp at h
    subst h
    exact ⟨rfl, rfl⟩
  | q :: ps, i + 1, p, h => by
    have ih := pcs_at ps i p (by simpa using h)
    have e1 : (i + 1) * 2 = i * 2 + 2 := by omega
    have e2 : (i + 1) * 2 + 1 = i * 2 + 1 + 2 := by omega
    rw [e2, e1]
    simpa [pcs] using ih
theorem one_pcs (ps : List (Int × Value)) (h : ∀ p ∈ ps, p.2.oneCell' = true) : ∀ u ∈ pcs ps, u.oneCell' = true := by
  induction ps with
  | nil => intro u hu; cases hu
  | cons p ps ih =>
    intro u hu
    simp only [pcs, List.mem_cons] at hu
    rcases hu with rfl | rfl | hu
    · rfl
    · exact h p (List.mem_cons_self ..)
    · exact ih (fun q hq => h q (List.mem_cons_of_mem _ hq)) u hu

/-- The value u is a slice of the bytes l. -/
def VB (w : World) (u : Value) (l : List UInt8) : Prop := ∃ A c, u = .slice A l.length c ∧ BR w A l.length l ∧ l.length ≤ c ∧ c ≤ maxLen

theorem VB.ck {w w' : World} {u : Value} {l : List UInt8} (h : VB w u l) (hk : CK w w') : VB w' u l := by
  obtain ⟨A, c, e, r, h1, h2⟩ := h
  exact ⟨A, c, e, hk.br r, h1, h2⟩
theorem VB.below {w w' : World} {u : Value} {l : List UInt8} (h : VB w u l) (hb : Below w.heap.size w w') : VB w' u l := h.ck (CK.of_below hb)
theorem OB.vb {w : World} {base : Nat} {u : Value} {l : List UInt8} (h : OB w base u l) : VB w u l := by
  obtain ⟨A, c, e, r, h1, h2⟩ := h.form
  exact ⟨A, c, e, r, h1, h2⟩
theorem VB.one {w : World} {u : Value} {l : List UInt8} (h : VB w u l) : u.oneCell' = true := by
  obtain ⟨A, c, rfl, _⟩ := h
  rfl

abbrev Pc := Int × List UInt8

/-- The slice value '.slice A n c' holds the pieces ps. -/
def PR (w : World) (A : Option Addr) (n : Nat) (ps : List Pc) : Prop :=
  ∃ us : List (Int × Value), Rd w 2 A n (pcs us) ∧ us.length = ps.length ∧ ∀ (i : Nat) (p : Pc) (q : Int × Value), ps[i]? = some p → us[i]? = some q → q.1 = p.1 ∧ VB w q.2 p.2

section
variable {w w' : World} {A : Option Addr} {n : Nat} {ps : List Pc}
theorem PR.len (h : PR w A n ps) : ps.length = n := by
  obtain ⟨us, hr, hl, _⟩ := h
  have := hr.1
  rw [pcs_length] at this
  omega
theorem PR.ck (h : PR w A n ps) (hk : CK w w') : PR w' A n ps := by
  obtain ⟨us, hr, hl, hv⟩ := h
  exact ⟨us, hk.rd hr, hl, fun i p q hp hq => ⟨(hv i p q hp hq).1, (hv i p q hp hq).2.ck hk⟩⟩
theorem PR.below (h : PR w A n ps) (hb : Below w.heap.size w w') : PR w' A n ps := h.ck (CK.of_below hb)
theorem PR.none_ (w : World) (A : Option Addr) : PR w A 0 [] := ⟨[], ⟨rfl, fun h => absurd h (by omega)⟩, rfl, fun i p q h => by simp at h⟩
theorem PR.at_ (h : PR w A n ps) {i : Nat} (hi : i < n) : ∃ g o B c, A = some ⟨g, o, none⟩ ∧ w.cell? ⟨g, o + i * 2, none⟩ = some (.int .i64 (ps.getD i (0, [])).1) ∧
    w.cell? ⟨g, o + i * 2 + 1, none⟩ = some (.slice B (ps.getD i (0, [])).2.length c) ∧ BR w B (ps.getD i (0, [])).2.length (ps.getD i (0, [])).2 ∧ (ps.getD i (0, [])).2.length ≤ c ∧ c ≤ maxLen := by
  have hn := h.len
  obtain ⟨us, hr, hl, hv⟩ := h
  obtain ⟨g, o, e, hc⟩ := Rd.plain hr (by omega) (by omega)
  have hip : ps[i]? = some (ps.getD i (0, [])) := by simp [List.getD, List.getElem?_eq_getElem (show i < ps.length by omega)]
  have hiu : us[i]? = some (us[i]'(by omega)) := List.getElem?_eq_getElem (by omega)
  obtain ⟨e1, B, c, e2, r, h1, h2⟩ := hv i _ _ hip hiu
  obtain ⟨c1, c2⟩ := pcs_at us i _ hiu
  refine ⟨g, o, B, c, e, ?_, ?_, r, h1, h2⟩
  · rw [← e1]; exact hc _ _ c1
  · rw [← e2]; exact hc _ _ c2
end

/-- A row of the call's own that holds the pieces ps, each one's bytes in a block of its own from base on, no two in one block. -/
def OP (w : World) (base : Nat) (v : Value) (ps : List Pc) : Prop :=
  ∃ us : List (Int × Value), w.ownsRow base 29 2 v ps.length (pcs us) ∧ us.length = ps.length ∧ (∀ (i : Nat) (p : Pc) (q : Int × Value), ps[i]? = some p → us[i]? = some q → q.1 = p.1 ∧ OB w base q.2 p.2) ∧
    us.Pairwise (fun q r => ∀ k, q.2.ownBlock = some k → r.2.ownBlock ≠ some k)

section
variable {w w' : World} {base : Nat} {v : Value} {ps : List Pc}
theorem OP.nil (w : World) (base : Nat) : OP w base (.slice none 0 0) [] := ⟨[], ⟨rfl, .inl ⟨rfl, rfl⟩⟩, rfl, fun i p q h => by simp at h, List.Pairwise.nil⟩
theorem OP.ck (h : OP w base v ps) (hk : CK w w') : OP w' base v ps := by
  obtain ⟨us, ho, hl, hv, hd⟩ := h
  exact ⟨us, hk.own ho, hl, fun i p q hp hq => ⟨(hv i p q hp hq).1, hk.ob (hv i p q hp hq).2⟩, hd⟩
theorem OP.below (h : OP w base v ps) (hb : Below w.heap.size w w') : OP w' base v ps := h.ck (CK.of_below hb)
theorem OP.form (h : OP w base v ps) {n : Nat} (hn : ps.length = n) : ∃ A c, v = .slice A n c ∧ PR w A n ps ∧ n ≤ c ∧ c ≤ maxLen := by
  subst hn
  obtain ⟨us, ho, hl, hv, _⟩ := h
  have hvv : ∀ (i : Nat) (p : Pc) (q : Int × Value), ps[i]? = some p → us[i]? = some q → q.1 = p.1 ∧ VB w q.2 p.2 := fun i p q hp hq => ⟨(hv i p q hp hq).1, (hv i p q hp hq).2.vb⟩
  rcases ho.2 with ⟨rfl, h0⟩ | ⟨g, cap, cur, rfl, hb, hg, hn, hm, hc, ht⟩
  · exact ⟨none, 0, by rw [h0], ⟨us, ⟨ho.1, fun h => by omega⟩, hl, hvv⟩, by omega, Nat.zero_le _⟩
  · exact ⟨_, cap, rfl, ⟨us, ⟨ho.1, fun _ => ⟨_, rfl, ho.cells (g := g) rfl⟩⟩, hl, hvv⟩, hn, hm⟩
theorem OP.lower {b : Nat} (h : OP w base v ps) (hb : b ≤ base) : OP w b v ps := by
  obtain ⟨us, ho, hl, hv, hd⟩ := h
  refine ⟨us, ?_, hl, fun i p q hp hq => ⟨(hv i p q hp hq).1, (hv i p q hp hq).2.lower hb⟩, hd⟩
  refine ⟨ho.1, ?_⟩
  rcases ho.2 with h | ⟨g, cap, cur, rfl, hg, r⟩
  · exact .inl h
  · exact .inr ⟨g, cap, cur, rfl, by omega, r⟩
end

theorem info_piece : (Try.prog.info? 29).map (fun i => (i.zero, i.size, i.bytes)) = some (some (.agg #[.int .i64 0, .slice none 0 0]), 2, 32) := by kernel_rfl

end Go.Proofs.Ythpjjoahffagcaa
