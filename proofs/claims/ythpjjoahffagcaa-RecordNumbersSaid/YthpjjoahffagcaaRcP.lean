/-
  Plain: a record's bytes, and how they are read.
-/
import Derived.Test.YthpjjoahffagcaaRecA
import Derived.Test.YthpjjoahffagcaaOctF
namespace Go.Proofs.Ythpjjoahffagcaa

/-- A record: its kind, its transaction, its changes. -/
structure Rec where
  kind : Nat
  tx : Int
  cs : List Ch

def encP (p : Pc) : List UInt8 := leB p.1.toNat 2 ++ (leB p.2.length 2 ++ p.2)
def encPs : List Pc → List UInt8
  | [] => []
  | p :: ps => encP p ++ encPs ps
def encC (c : Ch) : List UInt8 := leB c.1.toNat 4 ++ (if 0 < c.2.1.length then 1 :: c.2.1 else 0 :: (leB c.2.2.length 2 ++ encPs c.2.2))
def encCs : List Ch → List UInt8
  | [] => []
  | c :: cs => encC c ++ encCs cs
/-- The bytes behind the length. -/
def encB (r : Rec) : List UInt8 := UInt8.ofNat r.kind :: (leB r.tx.toNat 8 ++ (leB r.cs.length 2 ++ encCs r.cs))
def encR (r : Rec) : List UInt8 := leB (encB r).length 4 ++ encB r
def Rec.right (r : Rec) : Bool := rightR (r.kind : Int) r.tx r.cs

/-! Reading: the place, or none from the first field on that is not there. -/
def pNum (b : List UInt8) (k : Nat) : Option Nat → Nat × Option Nat
  | none => (0, none)
  | some a => if a + k ≤ b.length then (leN ((b.drop a).take k), some (a + k)) else (0, none)
def pImage (b : List UInt8) : Option Nat → List UInt8 × Option Nat
  | none => ([], none)
  | some a => if a + 4080 ≤ b.length then ((b.drop a).take 4080, some (a + 4080)) else ([], none)
def pPart (b : List UInt8) : Option Nat → List UInt8 × Option Nat
  | none => ([], none)
  | some a => match partAt b (a : Int) with
    | none => ([], none)
    | some (l, e) => (l, some e)
def toI (v : Nat) : Int := if v < 9223372036854775808 then v else (v : Int) - 18446744073709551616
def pPieces (b : List UInt8) : Nat → List Pc → Option Nat → List Pc × Option Nat
  | 0, acc, s => (acc, s)
  | _ + 1, acc, none => (acc, none)
  | n + 1, acc, some a => pPieces b n (acc ++ [(((pNum b 2 (some a)).1 : Int), (pPart b (pNum b 2 (some a)).2).1)]) (pPart b (pNum b 2 (some a)).2).2
def pChange (b : List UInt8) (s : Option Nat) : Ch × Option Nat :=
  let p := pNum b 4 s
  let f := pNum b 1 p.2
  if f.1 = 1 then (((p.1 : Int), (pImage b f.2).1, []), (pImage b f.2).2)
  else if f.1 = 0 then
    let m := pNum b 2 f.2
    (((p.1 : Int), [], (pPieces b m.1 [] m.2).1), (pPieces b m.1 [] m.2).2)
  else (((p.1 : Int), [], []), none)
def pChanges (b : List UInt8) : Nat → List Ch → Option Nat → List Ch × Option Nat
  | 0, acc, s => (acc, s)
  | _ + 1, acc, none => (acc, none)
  | n + 1, acc, some a => pChanges b n (acc ++ [(pChange b (some a)).1]) (pChange b (some a)).2
def pRecord (b : List UInt8) : Rec × Option Nat :=
  let k := pNum b 1 (some 0)
  let t := pNum b 8 k.2
  let n := pNum b 2 t.2
  (⟨k.1, toI t.1, (pChanges b n.1 [] n.2).1⟩, (pChanges b n.1 [] n.2).2)

/-! What is read is what was written. -/
/-- From a to e stands l. -/
def Seg (b : List UInt8) (a e : Nat) (l : List UInt8) : Prop := e = a + l.length ∧ e ≤ b.length ∧ (b.drop a).take l.length = l
theorem Seg.app {b l m : List UInt8} {a e f : Nat} (h : Seg b a e l) (k : Seg b e f m) : Seg b a f (l ++ m) := by
  obtain ⟨h1, h2, h3⟩ := h
  obtain ⟨k1, k2, k3⟩ := k
  refine ⟨by rw [List.length_append]; omega, k2, ?_⟩
  rw [List.length_append, List.take_add, h3, List.drop_drop, ← h1, k3]
theorem Seg.split {b l m : List UInt8} {a f : Nat} (h : Seg b a f (l ++ m)) : Seg b a (a + l.length) l ∧ Seg b (a + l.length) f m := by
  obtain ⟨h1, h2, h3⟩ := h
  rw [List.length_append] at h1 h3
  rw [List.take_add, List.drop_drop] at h3
  have hl : ((b.drop a).take l.length).length = l.length := by rw [List.length_take, List.length_drop]; omega
  have h4 := List.append_inj h3 hl
  exact ⟨⟨rfl, by omega, h4.1⟩, ⟨by omega, h2, h4.2⟩⟩
theorem Seg.nil (b : List UInt8) {a : Nat} (h : a ≤ b.length) : Seg b a a [] := ⟨rfl, h, rfl⟩
theorem Seg.all (b : List UInt8) : Seg b 0 b.length b := ⟨by simp, Nat.le_refl _, by simp⟩
theorem Seg.whole {b l : List UInt8} (h : Seg b 0 b.length l) : b = l := by
  obtain ⟨h1, _, h3⟩ := h
  rw [List.drop_zero, List.take_of_length_le (by omega)] at h3
  exact h3
theorem Seg.le {b l : List UInt8} {a e : Nat} (h : Seg b a e l) : e ≤ b.length := h.2.1

theorem leB_leN : ∀ (l : List UInt8), leB (leN l) l.length = l
  | [] => rfl
  | x :: l => by
    show UInt8.ofNat (x.toNat + 256 * leN l) :: leB ((x.toNat + 256 * leN l) / 256) l.length = x :: l
    have h1 : (x.toNat + 256 * leN l) / 256 = leN l := by have := x.toNat_lt; omega
    have h2 : UInt8.ofNat (x.toNat + 256 * leN l) = x := by
      apply UInt8.toNat_inj.1
      rw [UInt8.toNat_ofNat']
      have := x.toNat_lt
      omega
    rw [h1, h2, leB_leN l]

theorem pNum_c {b : List UInt8} {a e v k : Nat} (h : Seg b a e (leB v k)) (hv : v < 256 ^ k) : pNum b k (some a) = (v, some e) := by
  obtain ⟨h1, h2, h3⟩ := h
  rw [leB_length] at h1 h3
  unfold pNum
  simp only
  rw [if_pos (by omega), h3, leN_leB, Nat.mod_eq_of_lt hv, h1]
theorem pNum_s {b : List UInt8} {a e k : Nat} (h : (pNum b k (some a)).2 = some e) : Seg b a e (leB (pNum b k (some a)).1 k) ∧ (pNum b k (some a)).1 < 256 ^ k := by
  unfold pNum at h ⊢
  simp only at h ⊢
  split at h
  · rename_i hle
    injection h with h
    rw [if_pos hle]
    have hl : ((b.drop a).take k).length = k := by rw [List.length_take, List.length_drop]; omega
    have h5 := leB_leN ((b.drop a).take k)
    have h6 := leN_lt ((b.drop a).take k)
    rw [hl] at h5 h6
    exact ⟨⟨by rw [leB_length]; exact h.symm, by omega, by rw [leB_length]; exact h5.symm⟩, h6⟩
  · cases h
theorem pNum_b {b : List UInt8} {k : Nat} {s : Option Nat} {e : Nat} (h : (pNum b k s).2 = some e) : ∃ a, s = some a := by
  cases s with
  | none => cases h
  | some a => exact ⟨a, rfl⟩
theorem pNum_lt (b : List UInt8) (k : Nat) (s : Option Nat) : (pNum b k s).1 < 256 ^ k := by
  cases s with
  | none => exact Nat.pos_of_ne_zero (by have := Nat.pow_pos (n := k) (show 0 < 256 by omega); omega)
  | some a =>
    unfold pNum
    simp only
    split
    · rename_i hle
      have hl : ((b.drop a).take k).length = k := by rw [List.length_take, List.length_drop]; omega
      have h6 := leN_lt ((b.drop a).take k)
      rw [hl] at h6
      exact h6
    · exact Nat.pow_pos (by omega)

theorem partAt_eq (b : List UInt8) (a : Nat) : partAt b (a : Int) = if a + 2 ≤ b.length ∧ a + 2 + leN ((b.drop a).take 2) ≤ b.length then some ((b.drop (a + 2)).take (leN ((b.drop a).take 2)), a + 2 + leN ((b.drop a).take 2)) else none := by
  unfold partAt numAt
  rw [Int.toNat_natCast]
  by_cases h : a + 2 ≤ b.length
  · rw [if_neg (by omega)]
    simp only
    by_cases h2 : a + 2 + leN ((b.drop a).take 2) ≤ b.length
    · rw [if_neg (by omega), if_pos ⟨h, h2⟩]
    · rw [if_pos (by omega), if_neg (fun hh => h2 hh.2)]
  · rw [if_pos (by omega), if_neg (fun hh => h hh.1)]
theorem pPart_c {b l : List UInt8} {a e : Nat} (h : Seg b a e (leB l.length 2 ++ l)) (hl : l.length < 65536) : pPart b (some a) = (l, some e) := by
  obtain ⟨h1, h2⟩ := h.split
  obtain ⟨a1, a2, a3⟩ := h1
  rw [leB_length] at a1 a2 a3 h2
  obtain ⟨b1, b2, b3⟩ := h2
  unfold pPart
  simp only
  have e1 : leN ((b.drop a).take 2) = l.length := by rw [a3, leN_leB, Nat.mod_eq_of_lt (by omega)]
  rw [partAt_eq, e1, if_pos ⟨a2, by omega⟩]
  simp only
  rw [b3, b1]
theorem pPart_s {b : List UInt8} {a e : Nat} (h : (pPart b (some a)).2 = some e) : Seg b a e (leB (pPart b (some a)).1.length 2 ++ (pPart b (some a)).1) ∧ (pPart b (some a)).1.length < 65536 := by
  unfold pPart at h ⊢
  simp only at h ⊢
  rw [partAt_eq] at h ⊢
  split at h
  · cases h
  · rename_i l e' he
    split at he
    · rename_i hc
      injection he with he
      injection he with he1 he2
      injection h with h
      subst h
      subst he1 he2
      simp only
      have hl : ((b.drop a).take 2).length = 2 := by rw [List.length_take, List.length_drop]; omega
      have h6 := leN_lt ((b.drop a).take 2)
      rw [hl] at h6
      have h7 : ((b.drop (a + 2)).take (leN ((b.drop a).take 2))).length = leN ((b.drop a).take 2) := by rw [List.length_take, List.length_drop]; omega
      have h5 := leB_leN ((b.drop a).take 2)
      rw [hl] at h5
      refine ⟨Seg.app (e := a + 2) ⟨by rw [leB_length], hc.1, ?_⟩ ⟨?_, by omega, ?_⟩, by omega⟩
      · rw [leB_length, h7, h5]
      · omega
      · rw [h7]
    · cases he
theorem pPart_b {b : List UInt8} {s : Option Nat} {e : Nat} (h : (pPart b s).2 = some e) : ∃ a, s = some a := by
  cases s with
  | none => cases h
  | some a => exact ⟨a, rfl⟩
theorem pImage_c {b l : List UInt8} {a e : Nat} (h : Seg b a e l) (hl : l.length = 4080) : pImage b (some a) = (l, some e) := by
  obtain ⟨h1, h2, h3⟩ := h
  rw [hl] at h1 h3
  unfold pImage
  simp only
  rw [if_pos (by omega), h3, h1]
theorem pImage_s {b : List UInt8} {a e : Nat} (h : (pImage b (some a)).2 = some e) : Seg b a e (pImage b (some a)).1 ∧ (pImage b (some a)).1.length = 4080 := by
  unfold pImage at h ⊢
  simp only at h ⊢
  split at h
  · rename_i hle
    injection h with h
    rw [if_pos hle]
    have hl : ((b.drop a).take 4080).length = 4080 := by rw [List.length_take, List.length_drop]; omega
    exact ⟨⟨by rw [hl]; exact h.symm, by omega, by rw [hl]⟩, hl⟩
  · cases h
theorem pImage_b {b : List UInt8} {s : Option Nat} {e : Nat} (h : (pImage b s).2 = some e) : ∃ a, s = some a := by
  cases s with
  | none => cases h
  | some a => exact ⟨a, rfl⟩

/-- A piece, a change that has bytes of its own. -/
def pcG (p : Pc) : Prop := 0 ≤ p.1 ∧ p.1 < 65536 ∧ p.2.length < 65536
theorem pPieces_c {b : List UInt8} : ∀ (ps : List Pc) (acc : List Pc) (a e : Nat), Seg b a e (encPs ps) → (∀ p ∈ ps, pcG p) → pPieces b ps.length acc (some a) = (acc ++ ps, some e)
  | [], acc, a, e, h, _ => by
    have := h.1
    unfold encPs at this
    simp at this
    simp [pPieces, this]
  | p :: ps, acc, a, e, h, hg => by
    obtain ⟨h1, h2⟩ := h.split
    have g := hg p (by simp)
    obtain ⟨h3, h4⟩ := h1.split
    have n1 := pNum_c h3 (show p.1.toNat < 256 ^ 2 by have := g.1; have := g.2.1; omega)
    have n2 := pPart_c h4 g.2.2
    show pPieces b (ps.length + 1) acc (some a) = _
    unfold pPieces
    rw [n1]
    simp only
    rw [n2]
    simp only
    have hp : ((((p.1.toNat : Nat) : Int), p.2) : Pc) = p := by
      rw [Int.toNat_of_nonneg g.1]
    rw [hp, pPieces_c ps _ _ e h2 (fun q hq => hg q (by simp [hq]))]
    simp
theorem pPieces_s {b : List UInt8} : ∀ (n : Nat) (acc qs : List Pc) (a e : Nat), a ≤ b.length → pPieces b n acc (some a) = (qs, some e) → ∃ ps, qs = acc ++ ps ∧ ps.length = n ∧ Seg b a e (encPs ps) ∧ ∀ p ∈ ps, pcG p
  | 0, acc, qs, a, e, ha, h => by
    unfold pPieces at h
    injection h with h1 h2
    injection h2 with h2
    subst h1 h2
    exact ⟨[], by simp, rfl, Seg.nil b ha, by simp⟩
  | n + 1, acc, qs, a, e, ha, h => by
    unfold pPieces at h
    have hs2 : ∀ s acc', pPieces b n acc' s = (qs, some e) → ∃ a', s = some a' := fun s acc' hh => by
      cases s with
      | some a' => exact ⟨a', rfl⟩
      | none =>
        cases n with
        | zero => unfold pPieces at hh; injection hh with _ hh; cases hh
        | succ n => unfold pPieces at hh; injection hh with _ hh; cases hh
    obtain ⟨a2, e2⟩ := hs2 _ _ h
    obtain ⟨a1, e1⟩ := pPart_b e2
    have s1 := pNum_s e1
    rw [e1] at e2
    have s2 := pPart_s e2
    rw [e1, e2] at h
    obtain ⟨ps, h1, h2, h3, h4⟩ := pPieces_s n _ qs a2 e s2.1.le h
    refine ⟨_ :: ps, by rw [h1, List.append_assoc]; rfl, by rw [List.length_cons, h2], ?_, ?_⟩
    · refine Seg.app (e := a2) (Seg.app (e := a1) ?_ s2.1) h3
      rw [Int.toNat_natCast]
      exact s1.1
    · intro p hp
      rcases List.mem_cons.1 hp with rfl | hp
      · refine ⟨Int.natCast_nonneg _, ?_, s2.2⟩
        have := s1.2
        simp only
        omega
      · exact h4 p hp

def chG (c : Ch) : Prop := 0 ≤ c.1 ∧ c.1 < 4294967296 ∧ (0 < c.2.1.length → c.2.1.length = 4080 ∧ c.2.2 = []) ∧ c.2.2.length < 65536 ∧ ∀ p ∈ c.2.2, pcG p
theorem pChange_c {b : List UInt8} {c : Ch} {a e : Nat} (h : Seg b a e (encC c)) (hg : chG c) : pChange b (some a) = (c, some e) := by
  obtain ⟨g1, g2, g3, g4, g5⟩ := hg
  obtain ⟨h1, h2⟩ := h.split
  have n1 := pNum_c h1 (show c.1.toNat < 256 ^ 4 by omega)
  unfold pChange
  simp only
  rw [n1]
  simp only
  have hpg : ((c.1.toNat : Nat) : Int) = c.1 := Int.toNat_of_nonneg g1
  rw [hpg]
  by_cases hi : 0 < c.2.1.length
  · rw [if_pos hi] at h2
    obtain ⟨g6, g7⟩ := g3 hi
    have h2' : Seg b (a + (leB c.1.toNat 4).length) e (leB 1 1 ++ c.2.1) := h2
    obtain ⟨h3, h4⟩ := h2'.split
    rw [pNum_c h3 (by omega)]
    simp only
    rw [if_pos trivial, pImage_c h4 g6, ← g7]
  · rw [if_neg hi] at h2
    have h2' : Seg b (a + (leB c.1.toNat 4).length) e (leB 0 1 ++ (leB c.2.2.length 2 ++ encPs c.2.2)) := h2
    obtain ⟨h3, h4⟩ := h2'.split
    obtain ⟨h5, h6⟩ := h4.split
    rw [pNum_c h3 (by omega)]
    simp only
    rw [if_neg (by omega), if_pos trivial, pNum_c h5 (by omega)]
    simp only
    rw [pPieces_c c.2.2 [] _ e h6 g5]
    have h0 : c.2.1 = [] := List.eq_nil_of_length_eq_zero (by omega)
    rw [← h0]
    rfl
theorem pChange_s {b : List UInt8} {c : Ch} {a e : Nat} (h : pChange b (some a) = (c, some e)) : Seg b a e (encC c) ∧ chG c := by
  unfold pChange at h
  simp only at h
  split at h
  · rename_i hf
    injection h with h1 h2
    obtain ⟨a2, e2⟩ := pImage_b h2
    obtain ⟨a1, e1⟩ := pNum_b e2
    have s1 := pNum_s e1
    rw [e1] at e2 hf h1 h2
    have s2 := pNum_s e2
    rw [e2] at h1 h2
    have s3 := pImage_s h2
    rw [hf] at s2
    subst h1
    refine ⟨?_, Int.natCast_nonneg _, by have := s1.2; simp only; omega, fun _ => ⟨s3.2, rfl⟩, by simp, by simp⟩
    unfold encC
    simp only
    rw [if_pos (by rw [s3.2]; omega), Int.toNat_natCast]
    exact Seg.app (e := a1) s1.1 (Seg.app (e := a2) s2.1 s3.1)
  · rename_i hf
    split at h
    · rename_i hf0
      injection h with h1 h2
      have hs : ∀ n s, (pPieces b n [] s).2 = some e → ∃ a', s = some a' := fun n s hh => by
        cases s with
        | some a' => exact ⟨a', rfl⟩
        | none => cases n <;> (unfold pPieces at hh; cases hh)
      obtain ⟨a3, e3⟩ := hs _ _ h2
      obtain ⟨a2, e2⟩ := pNum_b e3
      obtain ⟨a1, e1⟩ := pNum_b e2
      have s1 := pNum_s e1
      rw [e1] at e2 e3 hf0 h1 h2
      have s2 := pNum_s e2
      rw [e2] at e3 h1 h2
      have s3 := pNum_s e3
      rw [e3] at h1 h2
      rw [hf0] at s2
      obtain ⟨ps, q1, q2, q3, q4⟩ := pPieces_s _ [] (pPieces b (pNum b 2 (some a2)).1 [] (some a3)).1 a3 e s3.1.le (Prod.ext rfl h2)
      rw [q1] at h1
      rw [← q2] at s3
      subst h1
      refine ⟨?_, Int.natCast_nonneg _, by have := s1.2; simp only; omega, fun hh => by simp at hh, by have := s3.2; simp only [List.nil_append]; omega, by simpa using q4⟩
      unfold encC
      simp only [List.nil_append]
      rw [if_neg (by simp), Int.toNat_natCast]
      exact Seg.app (e := a1) s1.1 (Seg.app (e := a2) s2.1 (Seg.app (e := a3) s3.1 q3))
    · injection h with h1 h2
      cases h2
theorem pChanges_c {b : List UInt8} : ∀ (cs : List Ch) (acc : List Ch) (a e : Nat), Seg b a e (encCs cs) → (∀ c ∈ cs, chG c) → pChanges b cs.length acc (some a) = (acc ++ cs, some e)
  | [], acc, a, e, h, _ => by
    have := h.1
    unfold encCs at this
    simp at this
    simp [pChanges, this]
  | c :: cs, acc, a, e, h, hg => by
    obtain ⟨h1, h2⟩ := h.split
    have n1 := pChange_c h1 (hg c (by simp))
    show pChanges b (cs.length + 1) acc (some a) = _
    unfold pChanges
    rw [n1]
    simp only
    rw [pChanges_c cs _ _ e h2 (fun q hq => hg q (by simp [hq]))]
    simp
theorem pChanges_s {b : List UInt8} : ∀ (n : Nat) (acc qs : List Ch) (a e : Nat), a ≤ b.length → pChanges b n acc (some a) = (qs, some e) → ∃ cs, qs = acc ++ cs ∧ cs.length = n ∧ Seg b a e (encCs cs)
  | 0, acc, qs, a, e, ha, h => by
    unfold pChanges at h
    injection h with h1 h2
    injection h2 with h2
    subst h1 h2
    exact ⟨[], by simp, rfl, Seg.nil b ha⟩
  | n + 1, acc, qs, a, e, ha, h => by
    unfold pChanges at h
    have hs2 : ∀ s acc', pChanges b n acc' s = (qs, some e) → ∃ a', s = some a' := fun s acc' hh => by
      cases s with
      | some a' => exact ⟨a', rfl⟩
      | none =>
        cases n with
        | zero => unfold pChanges at hh; injection hh with _ hh; cases hh
        | succ n => unfold pChanges at hh; injection hh with _ hh; cases hh
    obtain ⟨a2, e2⟩ := hs2 _ _ h
    have s1 := pChange_s (Prod.ext rfl e2 : pChange b (some a) = ((pChange b (some a)).1, some a2))
    rw [e2] at h
    obtain ⟨cs, h1, h2, h3⟩ := pChanges_s n _ qs a2 e s1.1.le h
    exact ⟨_ :: cs, by rw [h1, List.append_assoc]; rfl, by rw [List.length_cons, h2], Seg.app (e := a2) s1.1 h3⟩

theorem rpFrom_good : ∀ (ps : List Pc) (s : Int), 0 ≤ s → rpFrom s ps = true → (∀ p ∈ ps, pcG p) ∧ (ps = [] ∨ s + ps.length ≤ 4080)
  | [], _, _, _ => ⟨by simp, .inl rfl⟩
  | p :: ps, s, hs, h => by
    unfold rpFrom at h
    split at h
    · cases h
    · rename_i hc
      obtain ⟨h1, h2⟩ := rpFrom_good ps (p.1 + p.2.length) (by omega) h
      refine ⟨fun q hq => ?_, .inr ?_⟩
      · rcases List.mem_cons.1 hq with rfl | hq
        · exact ⟨by omega, by omega, by omega⟩
        · exact h1 q hq
      · rw [List.length_cons]
        rcases h2 with rfl | h2
        · simp
          omega
        · omega
theorem rcFrom_good : ∀ (cs : List Ch) (s : Int), -1 ≤ s → rcFrom s cs = true → ∀ c ∈ cs, chG c
  | [], _, _, _ => by simp
  | c :: cs, s, hs, h => by
    unfold rcFrom at h
    split at h
    · cases h
    · rename_i hc
      split at h
      · rename_i hi
        split at h
        · cases h
        · rename_i hn
          intro q hq
          rcases List.mem_cons.1 hq with rfl | hq
          · have h0 : q.2.2 = [] := List.eq_nil_of_length_eq_zero (by omega)
            exact ⟨by omega, by omega, fun _ => ⟨by omega, h0⟩, by rw [h0]; simp, by rw [h0]; simp⟩
          · exact rcFrom_good cs c.1 (by omega) h q hq
      · rename_i hi
        split at h
        · rename_i hr
          obtain ⟨g1, g2⟩ := rpFrom_good _ 0 (Int.le_refl _) hr
          intro q hq
          rcases List.mem_cons.1 hq with rfl | hq
          · refine ⟨by omega, by omega, fun hh => absurd hh hi, ?_, g1⟩
            rcases g2 with e | g2
            · rw [e]; simp
            · omega
          · exact rcFrom_good cs c.1 (by omega) h q hq
        · cases h

theorem right_good {r : Rec} (h : r.right = true) : r.kind < 4 ∧ 0 ≤ r.tx ∧ r.tx ≤ 4611686018427387904 ∧ r.cs.length ≤ 16 ∧ ∀ c ∈ r.cs, chG c := by
  unfold Rec.right rightR at h
  split at h
  · cases h
  · rename_i ht
    split at h
    · rename_i hk
      have h0 : r.cs = [] := List.eq_nil_of_length_eq_zero (of_decide_eq_true h)
      exact ⟨by omega, by omega, by omega, by rw [h0]; simp, by rw [h0]; simp⟩
    · split at h
      · rename_i hk
        rw [Bool.and_eq_true] at h
        have := of_decide_eq_true h.1
        exact ⟨by omega, by omega, by omega, this.2, rcFrom_good _ _ (Int.le_refl _) h.2⟩
      · cases h

/-- A right record is read back from its bytes. -/
theorem pRecord_c {r : Rec} (h : r.right = true) : pRecord (encB r) = (r, some (encB r).length) := by
  obtain ⟨g1, g2, g3, g4, g5⟩ := right_good h
  have h0 : Seg (encB r) 0 (encB r).length (leB r.kind 1 ++ (leB r.tx.toNat 8 ++ (leB r.cs.length 2 ++ encCs r.cs))) := Seg.all _
  obtain ⟨h1, h2⟩ := h0.split
  obtain ⟨h3, h4⟩ := h2.split
  obtain ⟨h5, h6⟩ := h4.split
  unfold pRecord
  simp only
  rw [pNum_c h1 (by omega)]
  simp only
  rw [pNum_c h3 (by omega)]
  simp only
  rw [pNum_c h5 (by omega)]
  simp only
  rw [pChanges_c r.cs [] _ _ h6 g5]
  have ht : toI r.tx.toNat = r.tx := by
    unfold toI
    rw [if_pos (by omega)]
    omega
  rw [ht]
  rfl
/-- What was read wholly as a right record are its bytes. -/
theorem pRecord_s {b : List UInt8} {r : Rec} (h : pRecord b = (r, some b.length)) (hr : r.right = true) : b = encB r := by
  obtain ⟨g1, g2, g3, g4, g5⟩ := right_good hr
  unfold pRecord at h
  simp only at h
  injection h with h1 h2
  have hs : ∀ n s, (pChanges b n [] s).2 = some b.length → ∃ a', s = some a' := fun n s hh => by
    cases s with
    | some a' => exact ⟨a', rfl⟩
    | none => cases n <;> (unfold pChanges at hh; cases hh)
  obtain ⟨a3, e3⟩ := hs _ _ h2
  obtain ⟨a2, e2⟩ := pNum_b e3
  obtain ⟨a1, e1⟩ := pNum_b e2
  have s1 := pNum_s e1
  rw [e1] at e2 e3 h1 h2
  have s2 := pNum_s e2
  rw [e2] at e3 h1 h2
  have s3 := pNum_s e3
  rw [e3] at h1 h2
  obtain ⟨cs, q1, q2, q3⟩ := pChanges_s _ [] (pChanges b (pNum b 2 (some a2)).1 [] (some a3)).1 a3 _ s3.1.le (Prod.ext rfl h2)
  rw [q1] at h1
  rw [← q2] at s3
  have hk : (pNum b 1 (some 0)).1 = r.kind := by rw [← h1]
  have ht : toI (pNum b 8 (some a1)).1 = r.tx := by rw [← h1]
  have hc : cs = r.cs := by rw [← h1]; rfl
  have ht2 : r.tx.toNat = (pNum b 8 (some a1)).1 := by
    unfold toI at ht
    have := s2.2
    split at ht <;> omega
  refine Seg.whole ?_
  show Seg b 0 b.length (leB r.kind 1 ++ (leB r.tx.toNat 8 ++ (leB r.cs.length 2 ++ encCs r.cs)))
  rw [ht2, ← hc, ← hk]
  exact Seg.app (e := a1) s1.1 (Seg.app (e := a2) s2.1 (Seg.app (e := a3) s3.1 q3))

/-! What Decode and All tell. -/
/-- The record of a body. -/
noncomputable def bodyR (b : List UInt8) : Option Rec := @ite _ (∃ r : Rec, r.right = true ∧ b = encB r) (Classical.propDecidable _) (some (pRecord b).1) none

end Go.Proofs.Ythpjjoahffagcaa
