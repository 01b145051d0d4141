/-
  Plain laws of the pieces of two pages: laid upon the old page they make the new one; they rise, eight bytes at least between two; there are as many of them, of the same lengths, back. No program in sight.
-/
import Derived.Test.YtecndamoomkhnaaDfG
namespace Go.Proofs.Ytecndamoomkhnaa

theorem get_of_getD {a b : List UInt8} {i : Nat} (ha : i < a.length) (hb : i < b.length) (h : a.getD i 0 = b.getD i 0) : a[i]? = b[i]? := by
  rw [List.getElem?_eq_getElem ha, List.getElem?_eq_getElem hb]
  simpa [List.getD, List.getElem?_eq_getElem ha, List.getElem?_eq_getElem hb] using h

theorem sub_get (b : List UInt8) (f e j : Nat) : ((b.drop f).take (e - f))[j]? = if j < e - f then b[f + j]? else none := by
  rw [List.getElem?_take]
  split
  · rw [List.getElem?_drop]
  · rfl
theorem sub_len (b : List UInt8) (f e : Nat) (hb : b.length = 4080) (he : e ≤ 4080) : ((b.drop f).take (e - f)).length = e - f := by
  rw [List.length_take, List.length_drop]; omega

/-- The page m is b below i and a from i on, but for f to e. -/
def Mid (a b m : List UInt8) (i f e : Nat) : Prop := m.length = 4080 ∧ ∀ x, ¬ (f ≤ x ∧ x < e) → m[x]? = if x < i then b[x]? else a[x]?

/-- 'put' laid upon such a page. -/
theorem put_mid {a b m : List UInt8} {ps : List Pc} {i f e : Nat} (hb : b.length = 4080) (hm : Mid a b m i f e) (hei : e ≤ i) (hi : i ≤ 4080) (hfe : 0 < e → f < e) (hp : applyL a ps = some m) :
    ∃ m', applyL a (dput b ps f e) = some m' ∧ m'.length = 4080 ∧ ∀ x, m'[x]? = if x < i then b[x]? else a[x]? := by
  unfold dput
  split
  · rename_i h0
    exact ⟨m, hp, hm.1, fun x => hm.2 x (by omega)⟩
  · rename_i h0
    have hl := sub_len b f e hb (by omega)
    have h1 := hfe (by omega)
    refine ⟨splice m f ((b.drop f).take (e - f)), ?_, ?_, fun x => ?_⟩
    · rw [applyL_append, hp]
      show applyL m _ = _
      unfold applyL
      rw [if_pos ⟨by dsimp only; omega, by dsimp only; omega, by dsimp only; omega⟩]
      rfl
    · rw [length_splice _ _ _ (by rw [hl, hm.1]; omega)]; exact hm.1
    · rw [splice_get _ _ _ _ (by rw [hl, hm.1]; omega), hl]
      by_cases c1 : x < f
      · rw [if_pos c1]; exact hm.2 x (by omega)
      · rw [if_neg c1]
        by_cases c2 : x < f + (e - f)
        · rw [if_pos c2, sub_get, if_pos (by omega), if_pos (by omega)]
          congr 1
          omega
        · rw [if_neg c2]; exact hm.2 x (by omega)

theorem dfo_mid {a b : List UInt8} (ha : a.length = 4080) (hb : b.length = 4080) : ∀ i, i ≤ 4080 → (dfo a b i).2.2 ≤ i ∧ (0 < (dfo a b i).2.2 → (dfo a b i).2.1 < (dfo a b i).2.2) ∧ ∃ m, applyL a (dfo a b i).1 = some m ∧ Mid a b m i (dfo a b i).2.1 (dfo a b i).2.2
  | 0, _ => ⟨Nat.le_refl _, fun h => absurd h (Nat.lt_irrefl _), a, rfl, ha, fun x _ => by rw [if_neg (by omega)]⟩
  | i + 1, hi => by
    obtain ⟨h1, h2, m, hm, hmid⟩ := dfo_mid ha hb i (by omega)
    by_cases h : a.getD i 0 = b.getD i 0
    · rw [dfo_eq h]
      refine ⟨by omega, h2, m, hm, hmid.1, fun x hx => ?_⟩
      rw [hmid.2 x hx]
      by_cases c : x = i
      · subst c
        rw [if_neg (by omega), if_pos (by omega)]
        exact get_of_getD (by omega) (by omega) h
      · by_cases c2 : x < i
        · rw [if_pos c2, if_pos (by omega)]
        · rw [if_neg c2, if_neg (by omega)]
    · rw [dfo_ne h]
      unfold dstep
      split
      · obtain ⟨m', hp', hl', hx'⟩ := put_mid hb hmid h1 (by omega) h2 hm
        refine ⟨Nat.le_refl _, fun _ => by dsimp only; omega, m', hp', hl', fun x hx => ?_⟩
        dsimp only at hx
        rw [hx' x]
        by_cases c2 : x < i
        · rw [if_pos c2, if_pos (by omega)]
        · rw [if_neg c2, if_neg (by omega)]
      · rename_i hn
        refine ⟨Nat.le_refl _, fun _ => by dsimp only; omega, m, hm, hmid.1, fun x hx => ?_⟩
        dsimp only at hx
        rw [hmid.2 x (by omega)]
        by_cases c2 : x < i
        · rw [if_pos c2, if_pos (by omega)]
        · rw [if_neg c2, if_neg (by omega)]

/-- The pieces of two pages, laid upon the old one, make the new one. -/
theorem apply_diff {a b : List UInt8} (ha : a.length = 4080) (hb : b.length = 4080) : applyL a (diffL a b) = some b := by
  obtain ⟨h1, h2, m, hm, hmid⟩ := dfo_mid ha hb 4080 (Nat.le_refl _)
  obtain ⟨m', hp', hl', hx'⟩ := put_mid hb hmid h1 (Nat.le_refl _) h2 hm
  rw [diffL_dfo]
  unfold dfoP
  rw [hp']
  refine congrArg some ?_
  apply List.ext_getElem?
  intro x
  rw [hx' x]
  split
  · rfl
  · rw [List.getElem?_eq_none (by omega), List.getElem?_eq_none (by omega)]

theorem unl_nil {a : List UInt8} (m : Nat) : unlTo a a m = [] := by
  unfold unlTo
  rw [List.filter_eq_nil_iff]
  intro x _
  simp

theorem diff_nil {a b : List UInt8} (ha : a.length = 4080) (hb : b.length = 4080) : diffL a b = [] ↔ a = b := by
  constructor
  · intro h
    have := apply_diff ha hb
    rw [h] at this
    simpa [applyL] using this
  · rintro rfl
    rw [diffL_dfo]
    unfold dfoP dfo
    rw [unl_nil]
    rfl

/-- Where the pieces lie. -/
def shape (ps : List Pc) : List (Int × Nat) := ps.map fun p => (p.1, p.2.length)

theorem unl_swap (a b : List UInt8) (m : Nat) : unlTo a b m = unlTo b a m := by
  unfold unlTo
  refine List.filter_congr fun i _ => ?_
  exact bne_comm

theorem shape_put {a b : List UInt8} (ha : a.length = 4080) (hb : b.length = 4080) {ps qs : List Pc} (h : shape ps = shape qs) (f e : Nat) (he : e ≤ 4080) : shape (dput b ps f e) = shape (dput a qs f e) := by
  unfold dput
  split
  · exact h
  · unfold shape at *
    rw [List.map_append, List.map_append, h]
    simp only [List.map_cons, List.map_nil, sub_len b f e hb he, sub_len a f e ha he]

theorem shape_fold {a b : List UInt8} (ha : a.length = 4080) (hb : b.length = 4080) : ∀ (xs : List Nat) (s t : List Pc × Nat × Nat), (∀ x ∈ xs, x < 4080) → s.2 = t.2 → s.2.2 ≤ 4080 → shape s.1 = shape t.1 →
    (xs.foldl (dstep b) s).2 = (xs.foldl (dstep a) t).2 ∧ (xs.foldl (dstep b) s).2.2 ≤ 4080 ∧ shape (xs.foldl (dstep b) s).1 = shape (xs.foldl (dstep a) t).1
  | [], s, t, _, h1, h2, h3 => ⟨h1, h2, h3⟩
  | x :: xs, (ps, f, e), (qs, f', e'), hx, h1, h2, h3 => by
    dsimp only at h1 h2 h3
    cases h1
    rw [List.foldl_cons, List.foldl_cons]
    have hx0 := hx x (List.mem_cons_self ..)
    refine shape_fold ha hb xs _ _ (fun y hy => hx y (List.mem_cons_of_mem _ hy)) ?_ ?_ ?_
    · unfold dstep; dsimp only; split <;> rfl
    · unfold dstep; dsimp only; split <;> dsimp only <;> omega
    · unfold dstep; dsimp only; split
      · exact shape_put ha hb h3 f e h2
      · exact h3

theorem shape_diff {a b : List UInt8} (ha : a.length = 4080) (hb : b.length = 4080) : shape (diffL a b) = shape (diffL b a) := by
  rw [diffL_dfo, diffL_dfo]
  unfold dfoP dfo
  rw [unl_swap b a]
  obtain ⟨h1, h2, h3⟩ := shape_fold ha hb (unlTo a b 4080) ([], 0, 0) ([], 0, 0) (fun x hx => by
    unfold unlTo at hx
    exact List.mem_range.1 (List.mem_filter.1 hx).1) rfl (Nat.zero_le _) rfl
  have := shape_put ha hb h3 (List.foldl (dstep b) ([], 0, 0) (unlTo a b 4080)).2.1 (List.foldl (dstep b) ([], 0, 0) (unlTo a b 4080)).2.2 h2
  rw [this, h1]

theorem size_shape {ps qs : List Pc} (h : shape ps = shape qs) : sizeL ps = sizeL qs := by
  have hl : ps.length = qs.length := by have := congrArg List.length h; simpa [shape] using this
  have hs : ∀ ps : List Pc, lenI ps = ((shape ps).map fun p => (p.2 : Int)).sum := by
    intro ps
    induction ps with
    | nil => rfl
    | cons p ps ih => simp only [lenI, ih]; simp [shape]
  unfold sizeL
  rw [hl, hs ps, hs qs, h]

/-- The last byte of a piece. -/
def pEnd (p : Pc) : Int := p.1 + p.2.length - 1

/-- What holds of the i-th piece of two pages. -/
def Good (a b : List UInt8) (ps : List Pc) : Prop := ∀ i, i < ps.length → pcOk (ps.getD i (0, [])) ∧ a.getD (ps.getD i (0, [])).1.toNat 0 ≠ b.getD (ps.getD i (0, [])).1.toNat 0 ∧
  a.getD (pEnd (ps.getD i (0, []))).toNat 0 ≠ b.getD (pEnd (ps.getD i (0, []))).toNat 0 ∧ (0 < i → 8 < (ps.getD i (0, [])).1 - pEnd (ps.getD (i - 1) (0, [])))

theorem Good.snoc {a b : List UInt8} {ps : List Pc} (h : Good a b ps) (p : Pc) (h1 : pcOk p) (h2 : a.getD p.1.toNat 0 ≠ b.getD p.1.toNat 0) (h3 : a.getD (pEnd p).toNat 0 ≠ b.getD (pEnd p).toNat 0)
    (h4 : 0 < ps.length → 8 < p.1 - pEnd (ps.getD (ps.length - 1) (0, []))) : Good a b (ps ++ [p]) := by
  intro i hi
  rw [List.length_append, List.length_singleton] at hi
  have old : ∀ j, j < ps.length → (ps ++ [p]).getD j (0, []) = ps.getD j (0, []) := fun j hj => by simp [List.getD, List.getElem?_append_left hj]
  rcases Nat.lt_or_ge i ps.length with c | c
  · rw [old i c, old (i - 1) (by omega)]
    exact h i c
  · obtain rfl : i = ps.length := by omega
    have new : (ps ++ [p]).getD ps.length (0, []) = p := by simp [List.getD]
    rw [new]
    refine ⟨h1, h2, h3, fun h0 => ?_⟩
    rw [old _ (by omega)]
    exact h4 h0

/-- .. as long as a piece is being made. -/
def Making (a b : List UInt8) (s : List Pc × Nat × Nat) : Prop := Good a b s.1 ∧ s.2.2 ≤ 4080 ∧ (s.2.2 = 0 → s.1 = []) ∧
  (0 < s.2.2 → s.2.1 < s.2.2 ∧ a.getD s.2.1 0 ≠ b.getD s.2.1 0 ∧ a.getD (s.2.2 - 1) 0 ≠ b.getD (s.2.2 - 1) 0 ∧ (0 < s.1.length → 8 < (s.2.1 : Int) - pEnd (s.1.getD (s.1.length - 1) (0, []))))

theorem Making.put {a b : List UInt8} {s : List Pc × Nat × Nat} (hb : b.length = 4080) (h : Making a b s) : Good a b (dput b s.1 s.2.1 s.2.2) ∧ (0 < s.2.2 → 0 < (dput b s.1 s.2.1 s.2.2).length ∧ pEnd ((dput b s.1 s.2.1 s.2.2).getD ((dput b s.1 s.2.1 s.2.2).length - 1) (0, [])) = (s.2.2 : Int) - 1) ∧ (s.2.2 = 0 → dput b s.1 s.2.1 s.2.2 = []) := by
  obtain ⟨ps, f, e⟩ := s
  obtain ⟨h1, h2, h3, h4⟩ := h
  dsimp only at *
  unfold dput
  split
  · rename_i h0
    exact ⟨h1, fun h => by omega, fun _ => h3 h0⟩
  · rename_i h0
    obtain ⟨g1, g2, g3, g4⟩ := h4 (by omega)
    have hl := sub_len b f e hb h2
    have hpe : pEnd ((f : Int), (b.drop f).take (e - f)) = (e : Int) - 1 := by unfold pEnd; dsimp only; rw [hl]; omega
    refine ⟨h1.snoc _ ⟨by dsimp only; omega, by dsimp only; omega, by dsimp only; omega⟩ g2 ?_ g4, fun _ => ⟨by simp, ?_⟩, fun h => absurd h h0⟩
    · rw [hpe]
      have : ((e : Int) - 1).toNat = e - 1 := by omega
      rw [this]
      exact g3
    · rw [List.length_append, List.length_singleton, Nat.add_sub_cancel]
      have new : (ps ++ [((f : Int), (b.drop f).take (e - f))]).getD ps.length (0, []) = ((f : Int), (b.drop f).take (e - f)) := by simp [List.getD]
      rw [new, hpe]

theorem making {a b : List UInt8} (hb : b.length = 4080) : ∀ i, i ≤ 4080 → Making a b (dfo a b i) ∧ (dfo a b i).2.2 ≤ i
  | 0, _ => ⟨⟨fun i hi => absurd hi (Nat.not_lt_zero _), Nat.zero_le _, fun _ => rfl, fun h => absurd h (Nat.lt_irrefl _)⟩, Nat.le_refl _⟩
  | i + 1, hi => by
    obtain ⟨ih, ihe⟩ := making (a := a) hb i (by omega)
    by_cases h : a.getD i 0 = b.getD i 0
    · rw [dfo_eq h]
      exact ⟨ih, by omega⟩
    · obtain ⟨p1, p2, p3⟩ := ih.put hb
      rw [dfo_ne h]
      unfold dstep
      split
      · rename_i hc
        refine ⟨⟨p1, hi, fun h0 => absurd h0 (by dsimp only; omega), fun _ => ⟨by dsimp only; omega, h, h, fun hl => ?_⟩⟩, Nat.le_refl _⟩
        dsimp only
        rcases Nat.eq_zero_or_pos (dfo a b i).2.2 with h0 | h0
        · rw [p3 h0] at hl
          exact absurd hl (Nat.lt_irrefl _)
        · dsimp only at hl
          rw [(p2 h0).2]
          omega
      · rename_i hc
        obtain ⟨q1, q2, q3, q4⟩ := ih
        obtain ⟨g1, g2, g3, g4⟩ := q4 (by omega)
        exact ⟨⟨q1, hi, fun h0 => absurd h0 (by dsimp only; omega), fun _ => ⟨by dsimp only; omega, g2, h, g4⟩⟩, Nat.le_refl _⟩

theorem good_diff {a b : List UInt8} (hb : b.length = 4080) : Good a b (diffL a b) := by
  rw [diffL_dfo]
  exact ((making hb 4080 (Nat.le_refl _)).1.put hb).1

end Go.Proofs.Ytecndamoomkhnaa
