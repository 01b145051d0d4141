/-
  Plain laws of RolesChain: Give and Take keep every privilege led back to the owner.
-/
import Derived.Test.YtfgkadkmgciamaaRoT
namespace Go.Proofs.Ytfgkadkmgciamaa
open Go Go.RowKit

/-- Whoever gave a privilege that stands, holds it. -/
def Rooted (l : List Gr) (ow : Str) : Prop := ∀ x ∈ l, Held l ow x.tb x.pv x.gb
theorem Held.mono {l l' : List Gr} {ow tb : Str} {pv : Int} {x : Str} (h : Held l ow tb pv x) (hs : ∀ y ∈ l, y.tb = tb → y.pv = pv → y.op = true → ∃ z ∈ l', z.tb = tb ∧ z.pv = pv ∧ z.op = true ∧ z.gb = y.gb ∧ z.gt = y.gt) : Held l' ow tb pv x := by
  induction h with
  | own => exact .own
  | @step g hh hm h1 h2 h3 ih =>
    obtain ⟨z, hz, z1, z2, z3, z4, z5⟩ := hs g hm h1 h2 h3
    rw [← z5]
    exact .step (by rw [z4]; exact ih) hz z1 z2 z3
theorem alikeB_iff {a b : Gr} : alikeB a b = true ↔ a.tb = b.tb ∧ a.pv = b.pv ∧ a.gt = b.gt ∧ a.gb = b.gb := by
  unfold alikeB
  simp [Bool.and_eq_true, and_assoc]
/-- What was given stands behind a Give, with no less. -/
theorem giveL_old {g : Gr} : ∀ {l : List Gr} {x : Gr}, x ∈ l → ∃ z ∈ giveL l g, z.tb = x.tb ∧ z.pv = x.pv ∧ z.gt = x.gt ∧ z.gb = x.gb ∧ (x.op = true → z.op = true)
  | h :: t, x, hx => by
    unfold giveL
    by_cases ha : alikeB h g = true
    · rw [if_pos ha]
      rcases List.mem_cons.1 hx with rfl | hx
      · exact ⟨_, List.mem_cons_self .., rfl, rfl, rfl, rfl, fun e => by simp [e]⟩
      · exact ⟨x, List.mem_cons_of_mem _ hx, rfl, rfl, rfl, rfl, id⟩
    · rw [if_neg ha]
      rcases List.mem_cons.1 hx with rfl | hx
      · exact ⟨x, List.mem_cons_self .., rfl, rfl, rfl, rfl, id⟩
      · obtain ⟨z, hz, e⟩ := giveL_old (g := g) hx
        exact ⟨z, List.mem_cons_of_mem _ hz, e⟩
/-- What stands behind a Give stood before, or is what was given. -/
theorem giveL_new {g : Gr} : ∀ {l : List Gr} {z : Gr}, z ∈ giveL l g → (∃ x ∈ l, z.tb = x.tb ∧ z.pv = x.pv ∧ z.gt = x.gt ∧ z.gb = x.gb) ∨ (z.tb = g.tb ∧ z.pv = g.pv ∧ z.gt = g.gt ∧ z.gb = g.gb)
  | [], z, hz => by
    obtain rfl := List.mem_singleton.1 hz
    exact .inr ⟨rfl, rfl, rfl, rfl⟩
  | h :: t, z, hz => by
    unfold giveL at hz
    by_cases ha : alikeB h g = true
    · rw [if_pos ha] at hz
      rcases List.mem_cons.1 hz with rfl | hz
      · exact .inl ⟨h, List.mem_cons_self .., rfl, rfl, rfl, rfl⟩
      · exact .inl ⟨z, List.mem_cons_of_mem _ hz, rfl, rfl, rfl, rfl⟩
    · rw [if_neg ha] at hz
      rcases List.mem_cons.1 hz with rfl | hz
      · exact .inl ⟨z, List.mem_cons_self .., rfl, rfl, rfl, rfl⟩
      · rcases giveL_new hz with ⟨x, hx, e⟩ | e
        · exact .inl ⟨x, List.mem_cons_of_mem _ hx, e⟩
        · exact .inr e
/-- What was given stands. -/
theorem giveL_has (g : Gr) : ∀ (l : List Gr), ∃ z ∈ giveL l g, z.tb = g.tb ∧ z.pv = g.pv ∧ z.gt = g.gt
  | [] => ⟨g, List.mem_singleton.2 rfl, rfl, rfl, rfl⟩
  | h :: t => by
    unfold giveL
    by_cases ha : alikeB h g = true
    · rw [if_pos ha]
      obtain ⟨a1, a2, a3, _⟩ := alikeB_iff.1 ha
      exact ⟨_, List.mem_cons_self .., a1, a2, a3⟩
    · rw [if_neg ha]
      obtain ⟨z, hz, e⟩ := giveL_has g t
      exact ⟨z, List.mem_cons_of_mem _ hz, e⟩
theorem giveL_hasL (l : List Gr) (g : Gr) (ow : Str) : hasL (giveL l g) [g.gt] ow g.tb g.pv = true := by
  obtain ⟨z, hz, h1, h2, h3⟩ := giveL_has g l
  unfold hasL
  rw [List.any_eq_true.2 ⟨z, hz, by simp [h1, h2, h3]⟩, Bool.or_true]
theorem giveL_ge (l : List Gr) (g : Gr) : l.length ≤ (giveL l g).length := by
  rcases giveL_len (g := g) l with h | h <;> omega
theorem Rooted.give {l : List Gr} {ow : Str} {g : Gr} (h : Rooted l ow) (he : giveE l ow g = 0) : Rooted (giveL l g) ow := by
  have hm : ∀ {tb : Str} {pv : Int} {x : Str}, Held l ow tb pv x → Held (giveL l g) ow tb pv x := fun hh => hh.mono fun y hy y1 y2 y3 => by
    obtain ⟨z, hz, z1, z2, z3, z4, z5⟩ := giveL_old (g := g) hy
    exact ⟨z, hz, z1.trans y1, z2.trans y2, z5 y3, z4, z3⟩
  have hg : Held l ow g.tb g.pv g.gb := by
    unfold giveE at he
    split at he
    · cases he
    · split at he
      · cases he
      · rename_i hno
        by_cases ho : g.gb = ow
        · rw [ho]; exact .own
        · cases hq : mayGiveL l g.gb g.tb g.pv with
          | false => exact absurd ⟨ho, hq⟩ hno
          | true =>
            obtain ⟨y, hy, hp⟩ := List.any_eq_true.1 hq
            simp only [Bool.and_eq_true, beq_iff_eq] at hp
            obtain ⟨⟨⟨h1, h2⟩, h3⟩, h4⟩ := hp
            rw [← h4]
            have := h y hy
            rw [h1, h2] at this
            exact .step this hy h1 h2 h3
  intro z hz
  rcases giveL_new hz with ⟨x, hx, e1, e2, _, e4⟩ | ⟨e1, e2, _, e4⟩
  · rw [e1, e2, e4]; exact hm (h x hx)
  · rw [e1, e2, e4]; exact hm hg
theorem Tk.sub {l : List Gr} {ow : Str} {g : Gr} {out : List Gr} (h : Tk l ow g out) : ∀ x ∈ out, x ∈ l ∧ alikeB x g = false := by
  obtain ⟨ks, _, rfl⟩ := h
  intro x hx
  obtain ⟨h1, h2⟩ := List.mem_filter.1 (List.mem_filter.1 hx).1
  exact ⟨h1, by simpa using h2⟩
theorem Tk.len {l : List Gr} {ow : Str} {g : Gr} {out : List Gr} (h : Tk l ow g out) : out.length ≤ (restL l g).length := by
  obtain ⟨ks, _, rfl⟩ := h
  exact List.length_filter_le _ _
theorem Rooted.take {l : List Gr} {ow : Str} {g : Gr} {out : List Gr} (h : Rooted l ow) (ht : Tk l ow g out) : Rooted out ow := by
  obtain ⟨ks, hk, rfl⟩ := ht
  intro x hx
  obtain ⟨hx1, hx2⟩ := List.mem_filter.1 hx
  obtain ⟨hxl, _⟩ := List.mem_filter.1 hx1
  by_cases hs : x.tb = g.tb ∧ x.pv = g.pv
  · obtain ⟨s1, s2⟩ := hs
    have hkx : x.gb ∈ ks := by
      simp only [s1, s2, beq_self_eq_true, Bool.true_and, Bool.not_not, List.contains_iff_mem] at hx2
      exact hx2
    have hh := (hk _).1 hkx
    rw [s1, s2]
    clear hx hx1 hx2 hxl hkx s1 s2
    generalize x.gb = y at hh
    induction hh with
    | own => exact .own
    | @step z hh hm h1 h2 h3 ih =>
      refine .step ih (List.mem_filter.2 ⟨hm, ?_⟩) h1 h2 h3
      simp only [h1, h2, beq_self_eq_true, Bool.true_and, Bool.not_not, List.contains_iff_mem]
      exact (hk _).2 hh
  · refine (h x hxl).mono fun y hy y1 y2 y3 => ⟨y, List.mem_filter.2 ⟨List.mem_filter.2 ⟨hy, ?_⟩, ?_⟩, y1, y2, y3, rfl, rfl⟩
    · cases ha : alikeB y g with
      | false => rfl
      | true =>
        obtain ⟨a1, a2, _, _⟩ := alikeB_iff.1 ha
        exact absurd ⟨y1.symm.trans a1, y2.symm.trans a2⟩ hs
    · by_cases b1 : y.tb = g.tb
      · have b2 : ¬ y.pv = g.pv := fun b2 => hs ⟨y1.symm.trans b1, y2.symm.trans b2⟩
        simp [b2]
      · simp [b1]

/-- The first table of a name. -/
theorem first_tb {n : Str} : ∀ {t : List Tb}, n ∈ t.map (·.1) → ∃ (k : Nat) (x : Tb), t[k]? = some x ∧ x.1 = n ∧ ∀ (j : Nat) (y : Tb), j < k → t[j]? = some y → y.1 ≠ n
  | [], h => by simp at h
  | a :: t, h => by
    by_cases e : a.1 = n
    · exact ⟨0, a, rfl, e, fun j y hj => by omega⟩
    · have h2 : n ∈ t.map (·.1) := by
        rw [List.map_cons] at h
        rcases List.mem_cons.1 h with h | h
        · exact absurd h.symm e
        · exact h
      obtain ⟨k, x, h1, h3, h4⟩ := first_tb h2
      refine ⟨k + 1, x, by simpa using h1, h3, fun j y hj hy => ?_⟩
      cases j with
      | zero =>
        obtain rfl : a = y := by simpa using hy
        exact e
      | succ j => exact h4 j y (by omega) (by simpa using hy)
/-- Every one of a list leads back to the owner, and its table is told. -/
structure CH (ow : Str) (k : Nat) (gs : List Gr) (ts : List Tb) : Prop where
  root : Rooted gs ow
  own : ∀ y ∈ ts, y.2.1 = ow
  tab : ∀ x ∈ gs, x.tb ∈ ts.map (·.1)
  fit : FitG gs
  len : gs.length ≤ k
  tlen : ts.length = k
theorem CH.start (ow : Str) : CH ow 0 [] [] := ⟨(fun _ h => nomatch h), (fun _ h => nomatch h), (fun _ h => nomatch h), (fun _ h => nomatch h), Nat.le_refl _, rfl⟩
section
variable {ow : Str} {k : Nat} {gs : List Gr} {ts : List Tb} {g : Gr}
theorem CH.sound (h : CH ow k gs ts) {r : Bool} (hs : SoundP gs ts r) : r = true := by
  refine hs.2 fun x hx => ?_
  obtain ⟨j, y, h1, h2, h3⟩ := first_tb (h.tab x hx)
  refine ⟨j, y, h1, h2, h3, ?_⟩
  rw [h.own y (List.mem_of_getElem? h1)]
  exact h.root x hx
theorem CH.fitT (h : CH ow k gs ts) (ho : ow.length ≤ maxLen) : FitT ts := fun x hx => by rw [h.own x hx]; exact ho
/-- A table more. -/
theorem CH.more (h : CH ow k gs ts) (n : Str) (c : Option Addr × Nat × Nat) : CH ow (k + 1) gs (ts ++ [(n, ow, c)]) := by
  refine ⟨h.root, fun y hy => ?_, fun x hx => ?_, h.fit, Nat.le_succ_of_le h.len, by rw [List.length_append, h.tlen]; rfl⟩
  · rcases List.mem_append.1 hy with hy | hy
    · exact h.own y hy
    · rw [List.mem_singleton.1 hy]
  · rw [List.map_append]
    exact List.mem_append.2 (.inl (h.tab x hx))
theorem CH.give (h : CH ow k gs ts) (n : (Option Addr × Nat × Nat)) (hg : g.gt.length ≤ maxLen ∧ g.gb.length ≤ maxLen) (he : giveE gs ow g = 0) : CH ow (k + 1) (giveL gs g) (ts ++ [(g.tb, ow, n)]) := by
  have h0 := h.more g.tb n
  refine ⟨h.root.give he, h0.own, fun x hx => ?_, fun x hx => ?_, ?_, h0.tlen⟩
  · rcases giveL_new hx with ⟨y, hy, e, _⟩ | ⟨e, _⟩
    · rw [e]; exact h0.tab y hy
    · rw [e, List.map_append]
      exact List.mem_append.2 (.inr (List.mem_singleton.2 rfl))
  · rcases giveL_new hx with ⟨y, hy, _, _, e1, e2⟩ | ⟨_, _, e1, e2⟩
    · rw [e1, e2]; exact h.fit y hy
    · rw [e1, e2]; exact hg
  · have := h.len
    rcases giveL_len (g := g) gs with e | e <;> omega
theorem CH.take (h : CH ow k gs ts) (n : Str × (Option Addr × Nat × Nat)) {out : List Gr} (ht : Tk gs ow g out) : CH ow (k + 1) out (ts ++ [(n.1, ow, n.2)]) := by
  have h0 := h.more n.1 n.2
  exact ⟨h.root.take ht, h0.own, fun x hx => h0.tab x (ht.sub x hx).1, fun x hx => h.fit x (ht.sub x hx).1, Nat.le_trans ht.len (Nat.le_trans (restL_len _ _) h0.len), h0.tlen⟩
end
theorem GiveP.q {l : List Gr} {ow : Str} {g : Gr} {base : Nat} {e : Ending} {w' : World} (h : GiveP l ow g base e w') : ∃ v r out, e = .returned (.tuple #[v, .int .i64 r]) ∧ (r = 0 → giveE l ow g = 0 ∧ out = giveL l g) ∧ EO EG 5 30 w' base v out := by
  rcases h with ⟨rfl, h⟩ | ⟨v, rfl, h, h2⟩
  · exact ⟨_, _, [], rfl, fun e => absurd e h, EO.nil _ _⟩
  · exact ⟨v, _, _, rfl, fun _ => ⟨h, rfl⟩, h2⟩
theorem TakeP.q {l : List Gr} {ow : Str} {g : Gr} {base : Nat} {e : Ending} {w' : World} (h : TakeP l ow g base e w') : ∃ v r out, e = .returned (.tuple #[v, .int .i64 r]) ∧ (r = 0 → (restL l g).length ≠ l.length ∧ Tk l ow g out) ∧ EO EG 5 30 w' base v out := by
  rcases h with ⟨rfl, _⟩ | ⟨v, out, rfl, h, h2, h3⟩
  · exact ⟨_, _, [], rfl, fun e => absurd e (by decide), EO.nil _ _⟩
  · exact ⟨v, _, out, rfl, fun _ => ⟨h, h2⟩, h3⟩
theorem EO.er {α : Type} {enc : α → List Value} {k : Nat} {T : TypeId} {w : World} {base : Nat} {A : Option Addr} {n c : Nat} {l : List α} (h : EO enc k T w base (.slice A n c) l) (hn : l.length = n) : ER enc k w A n l := by
  obtain ⟨A', c', e, h1, _⟩ := h.form
  injection e with e1 e2 e3
  subst e1 hn
  exact h1
theorem ET_one (x : Tb) : ∀ u ∈ ET x, u.oneCell' = true := by
  intro u hu
  simp only [ET, List.mem_cons, List.not_mem_nil, or_false] at hu
  rcases hu with rfl | rfl | rfl <;> rfl
theorem info_Tb' : ∃ i z, Try.prog.info? 35 = some i ∧ i.zero = some z ∧ z.cells.size = 3 ∧ i.size = 3 ∧ i.bytes = 56 := by
  have h : (match Try.prog.info? 35 with | some i => (match i.zero with | some z => z.cells.size == 3 | none => false) && i.size == 3 && i.bytes == 56 | none => false) = true := by kernel_rfl
  cases hi : Try.prog.info? 35 with
  | none => rw [hi] at h; cases h
  | some i =>
    rw [hi] at h
    cases hz : i.zero with
    | none => simp [hz] at h
    | some z => simp [hz] at h; exact ⟨i, z, rfl, hz, h.1.1, h.1.2, h.2⟩

/-- A step: a grant, and whether it is taken. -/
abbrev Stp := Gr × Bool
def EP (s : Stp) : List Value := EG s.1 ++ [.bool s.2]
theorem EP_len (s : Stp) : (EP s).length = 6 := rfl
theorem ER.atStp {w : World} {A : Option Addr} {n : Nat} {l : List Stp} (h : ER EP 6 w A n l) {i : Nat} (hi : i < n) : ∃ g o x, A = some ⟨g, o, none⟩ ∧ l[i]? = some x ∧ w.cell? ⟨g, o + i * 6, none⟩ = some (.string ⟨x.1.tb.toArray⟩) ∧ w.cell? ⟨g, o + i * 6 + 1, none⟩ = some (.int .u8 x.1.pv) ∧ w.cell? ⟨g, o + i * 6 + 2, none⟩ = some (.string ⟨x.1.gt.toArray⟩) ∧ w.cell? ⟨g, o + i * 6 + 3, none⟩ = some (.string ⟨x.1.gb.toArray⟩) ∧ w.cell? ⟨g, o + i * 6 + 4, none⟩ = some (.bool x.1.op) ∧ w.cell? ⟨g, o + i * 6 + 5, none⟩ = some (.bool x.2) := by
  obtain ⟨g, o, x, e, h1, hc⟩ := h.get EP_len (by decide) hi
  exact ⟨g, o, x, e, h1, by simpa using hc 0 _ rfl, by simpa [Nat.add_assoc] using hc 1 _ rfl, by simpa [Nat.add_assoc] using hc 2 _ rfl, by simpa [Nat.add_assoc] using hc 3 _ rfl, by simpa [Nat.add_assoc] using hc 4 _ rfl, by simpa [Nat.add_assoc] using hc 5 _ rfl⟩

end Go.Proofs.Ytfgkadkmgciamaa
