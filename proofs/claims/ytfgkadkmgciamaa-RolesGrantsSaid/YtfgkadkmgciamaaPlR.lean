/-
  Plain laws of roles: what a role reaches; who holds a privilege.
-/
import Derived.Test.YtfgkadkmgciamaaBase
import Derived.Sort.EncStr
namespace Go.Proofs.Ytfgkadkmgciamaa

/-- A string, as its bytes. -/
abbrev Str := List UInt8
/-- A member: a role, and what it has. -/
abbrev Mb := Str × Str
/-- A grant. -/
structure Gr where
  tb : Str
  pv : Int
  gt : Str
  gb : Str
  op : Bool

/-- What a role reaches. -/
inductive Reach (l : List Mb) (r : Str) : Str → Prop
  | refl : Reach l r r
  | step {m : Mb} : Reach l r m.1 → m ∈ l → Reach l r m.2

theorem Reach.trans {l : List Mb} {a b c : Str} (h : Reach l a b) (k : Reach l b c) : Reach l a c := by
  induction k with
  | refl => exact h
  | step _ hm ih => exact .step ih hm
theorem Reach.mono {l l' : List Mb} {a b : Str} (h : Reach l a b) (hs : ∀ m, m ∈ l → m ∈ l') : Reach l' a b := by
  induction h with
  | refl => exact .refl
  | step _ hm ih => exact .step ih (hs _ hm)
theorem Reach.sub {l : List Mb} {r x : Str} (h : Reach l r x) {S : Str → Prop} (h0 : S r) (hc : ∀ m ∈ l, S m.1 → S m.2) : S x := by
  induction h with
  | refl => exact h0
  | step _ hm ih => exact hc _ hm ih
/-- A member more: what is reached is reached without it, or through it. -/
theorem Reach.more {l : List Mb} {m : Mb} {a b : Str} (h : Reach (l ++ [m]) a b) : Reach l a b ∨ (Reach l a m.1 ∧ Reach l m.2 b) := by
  induction h with
  | refl => exact .inl .refl
  | @step x hx hm ih =>
    rcases List.mem_append.1 hm with hm | hm
    · rcases ih with ih | ⟨i1, i2⟩
      · exact .inl (.step ih hm)
      · exact .inr ⟨i1, .step i2 hm⟩
    · obtain rfl : x = m := by simpa using hm
      rcases ih with ih | ⟨i1, _⟩
      · exact .inr ⟨ih, .refl⟩
      · exact .inr ⟨i1, .refl⟩

/-- Two that are not one never reach each other. -/
def Acyc (l : List Mb) : Prop := ∀ a b, Reach l a b → Reach l b a → a = b
theorem Acyc.nil : Acyc [] := fun a b h _ => by
  induction h with
  | refl => rfl
  | step _ hm _ => cases hm
theorem Acyc.sub {l l' : List Mb} (h : Acyc l) (hs : ∀ m, m ∈ l' → m ∈ l) : Acyc l' := fun a b h1 h2 => h a b (h1.mono hs) (h2.mono hs)
theorem Acyc.more {l : List Mb} {m : Mb} (h : Acyc l) (hm : ¬ Reach l m.2 m.1) : Acyc (l ++ [m]) := fun a b h1 h2 => by
  rcases h1.more with h1 | ⟨i1, i2⟩ <;> rcases h2.more with h2 | ⟨j1, j2⟩
  · exact h a b h1 h2
  · exact absurd ((j2.trans h1).trans j1) hm
  · exact absurd ((i2.trans h2).trans i1) hm
  · exact absurd (i2.trans j1) hm

/-- Rising, no two alike. -/
abbrev Rise (ss : List Str) : Prop := ss.Pairwise (fun a b => a < b)
theorem lt_irr (a : Str) : ¬ a < a := List.lt_irrefl a
theorem Rise.unique : ∀ (a b : List Str), Rise a → Rise b → (∀ x, x ∈ a ↔ x ∈ b) → a = b
  | [], [], _, _, _ => rfl
  | [], y :: b, _, _, h => by have := (h y).2 (List.mem_cons_self ..); cases this
  | x :: a, [], _, _, h => by have := (h x).1 (List.mem_cons_self ..); cases this
  | x :: a, y :: b, ha, hb, h => by
    obtain ⟨ha1, ha2⟩ := List.pairwise_cons.1 ha
    obtain ⟨hb1, hb2⟩ := List.pairwise_cons.1 hb
    have e : x = y := by
      rcases List.mem_cons.1 ((h x).1 (List.mem_cons_self ..)) with h1 | h1
      · exact h1
      · rcases List.mem_cons.1 ((h y).2 (List.mem_cons_self ..)) with h2 | h2
        · exact h2.symm
        · exact absurd (List.lt_trans (hb1 x h1) (ha1 y h2)) (lt_irr _)
    subst e
    rw [Rise.unique a b ha2 hb2 fun z => ⟨fun hz => ?_, fun hz => ?_⟩]
    · rcases List.mem_cons.1 ((h z).1 (List.mem_cons_of_mem _ hz)) with h1 | h1
      · subst h1; exact absurd (ha1 z hz) (lt_irr _)
      · exact h1
    · rcases List.mem_cons.1 ((h z).2 (List.mem_cons_of_mem _ hz)) with h1 | h1
      · subst h1; exact absurd (hb1 z hz) (lt_irr _)
      · exact h1
/-- Sorted, and no two alike. -/
theorem Rise.of_sorted {ss : List Str} (h : ss.Pairwise (fun a b => a ≤ b)) (hn : ss.Nodup) : Rise ss := by
  refine (h.and hn).imp fun {a b} hab => ?_
  by_cases h1 : a < b
  · exact h1
  · exact absurd (List.le_antisymm hab.1 (List.not_lt.1 h1)) hab.2

/-- The closure of a role. -/
def Clos (l : List Mb) (r : Str) (ss : List Str) : Prop := Rise ss ∧ ∀ x, x ∈ ss ↔ Reach l r x
theorem Clos.unique {l : List Mb} {r : Str} {a b : List Str} (ha : Clos l r a) (hb : Clos l r b) : a = b :=
  Rise.unique a b ha.1 hb.1 fun x => (ha.2 x).trans (hb.2 x).symm

/-- Who holds a privilege on a table that may be given on. -/
inductive Held (l : List Gr) (ow tb : Str) (pv : Int) : Str → Prop
  | own : Held l ow tb pv ow
  | step {g : Gr} : Held l ow tb pv g.gb → g ∈ l → g.tb = tb → g.pv = pv → g.op = true → Held l ow tb pv g.gt
theorem Held.sub {l : List Gr} {ow tb : Str} {pv : Int} {x : Str} (h : Held l ow tb pv x) {S : Str → Prop} (h0 : S ow) (hc : ∀ g ∈ l, g.tb = tb → g.pv = pv → g.op = true → S g.gb → S g.gt) : S x := by
  induction h with
  | own => exact h0
  | step _ hm h1 h2 h3 ih => exact hc _ hm h1 h2 h3 ih

/-- May a role give a privilege on? -/
def mayGiveL (l : List Gr) (role tb : Str) (pv : Int) : Bool := l.any fun g => g.tb == tb && g.pv == pv && g.op && g.gt == role
def hasL (l : List Gr) (cl : List Str) (ow tb : Str) (pv : Int) : Bool := cl.contains ow || l.any fun g => g.tb == tb && g.pv == pv && cl.contains g.gt
def mayL (l : List Gr) (cl : List Str) (ow tb : Str) (pv : Int) : Str × Bool :=
  if cl.contains ow then (ow, true) else match cl.find? (fun r => mayGiveL l r tb pv) with
    | some r => (r, true)
    | none => ([], false)
def alikeB (a b : Gr) : Bool := a.tb == b.tb && a.pv == b.pv && a.gt == b.gt && a.gb == b.gb
def giveE (l : List Gr) (ow : Str) (g : Gr) : Int :=
  if g.gt = ow ∨ g.pv < 1 ∨ 4 < g.pv then 2 else if g.gb ≠ ow ∧ mayGiveL l g.gb g.tb g.pv = false then 312 else 0
def giveL : List Gr → Gr → List Gr
  | [], g => [g]
  | h :: t, g => if alikeB h g then { h with op := h.op || g.op } :: t else h :: giveL t g
def restL (l : List Gr) (g : Gr) : List Gr := l.filter fun h => !alikeB h g

end Go.Proofs.Ytfgkadkmgciamaa
