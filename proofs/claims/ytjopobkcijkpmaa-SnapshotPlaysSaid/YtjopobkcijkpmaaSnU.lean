/-
  Plain laws: each call leaves the two tables beside one another.
-/
import Derived.Test.YtjopobkcijkpmaaSnT
namespace Go.Proofs.Ytjopobkcijkpmaa
open Go.RowKit

section
variable {T : TabS} {R : RefS}
theorem Sim.beg (h : Sim T R) : Sim (begT T) (begR R) := by
  unfold begT begR
  rw [h.begF]
  split
  · exact h
  · rename_i hf
    have hn2 : R.next < 4611686018427387904 := by
      have := h.n2
      have hne : R.next ≠ 4611686018427387904 := fun e => hf (by unfold begRF; simp [e])
      omega
    have hnew : ∀ o ∈ R.ones, o.1 < R.next := fun o ho => (h.rg o ho).2
    have hfn : ∀ x, fnd (R.ones ++ [(R.next, 1, R.last)]) x = if x = R.next then some (1, R.last) else fnd R.ones x := by
      intro x
      unfold fnd
      rw [List.find?_append]
      by_cases e : x = R.next
      · rw [if_pos e, List.find?_eq_none.2 (fun o ho => by have := hnew o ho; simp; omega)]
        simp [e]
      · rw [if_neg e]
        have : List.find? (fun o : Int × Int × Int => o.1 == x) [(R.next, 1, R.last)] = none := by
          rw [List.find?_eq_none]
          intro o ho
          simp at ho
          subst ho
          simp
          omega
        rw [this, Option.or_none]
    refine ⟨h.fi, by dsimp only; rw [h.ne], h.la, ?_, fun x => ?_, fun o ho => ?_, fun o ho e => ?_, fun o ho => ?_, ?_, ?_, by dsimp only; omega, h.l0, by have := h.n1; dsimp only; omega⟩
    · show Ris _
      unfold Ris
      rw [List.pairwise_append]
      refine ⟨h.ri, by simp, fun a ha b hb => ?_⟩
      simp at hb
      subst hb
      exact hnew a ha
    · dsimp only
      rw [hfn]
      by_cases e : x = R.next
      · rw [if_pos e, e, h.ne, upd_same]
        exact ⟨T.last, rfl, fun _ => h.la.symm⟩
      · rw [if_neg e, upd_ne _ _ (by rw [← h.ne]; exact e)]
        exact h.wh x
    · rcases List.mem_append.1 ho with ho | ho
      · exact h.ws o ho
      · simp at ho; subst ho; simp
    · rcases List.mem_append.1 ho with ho | ho
      · exact h.cm o ho e
      · simp at ho; subst ho; simp at e
    · dsimp only
      rcases List.mem_append.1 ho with ho | ho
      · have := h.rg o ho; omega
      · simp at ho
        subst ho
        have h1 := h.n1
        dsimp only
        omega
    · dsimp only
      unfold allR
      rw [List.filter_append, List.map_append, h.op, h.ne]
      rfl
    · dsimp only
      unfold allR
      rw [List.filter_append, List.map_append, h.de]
      simp [allR]

theorem set_map {l : List (Int × Int × Int)} (hr : Ris l) {i : Nat} (hi : i < l.length) {x : Int} (hx : (l[i]).1 = x) (o : Int × Int × Int) : l.set i o = l.map (fun a => if a.1 = x then o else a) := by
  refine List.ext_getElem (by simp) (fun j h1 h2 => ?_)
  rw [List.getElem_set, List.getElem_map]
  by_cases e : i = j
  · subst e
    rw [if_pos rfl, if_pos hx]
  · rw [if_neg e, if_neg]
    intro e2
    have h1' : j < l.length := by simpa using h1
    rcases Nat.lt_or_ge i j with h | h
    · have := List.pairwise_iff_getElem.1 hr i j hi h1' h
      omega
    · have := List.pairwise_iff_getElem.1 hr j i h1' hi (by omega)
      omega
theorem fnd_map {l : List (Int × Int × Int)} (f : Int × Int × Int → Int × Int × Int) (hf : ∀ o ∈ l, (f o).1 = o.1) (x : Int) : fnd (l.map f) x = (l.find? (fun o => o.1 == x)).map (fun o => (f o).2) := by
  unfold fnd
  rw [List.find?_map]
  have : l.find? ((fun o => o.1 == x) ∘ f) = l.find? (fun o => o.1 == x) := by
    induction l with
    | nil => rfl
    | cons a l ih =>
      have h1 := hf a (by simp)
      have h2 := ih (fun o ho => hf o (List.mem_cons_of_mem _ ho))
      rw [List.find?_cons, List.find?_cons, Function.comp_apply, h1, h2]
  rw [this]
  cases l.find? (fun o => o.1 == x) <;> rfl
theorem all_map {l : List (Int × Int × Int)} (f : Int × Int × Int → Int × Int × Int) (hf : ∀ o ∈ l, (f o).1 = o.1) (t : Int) : allR (l.map f) t = (l.filter (fun o => (f o).2.1 == t)).map (·.1) := by
  unfold allR
  rw [List.filter_map, List.map_map]
  refine List.map_congr_left (fun o ho => hf o (List.mem_filter.1 ho).1)
theorem ris_map {l : List (Int × Int × Int)} (f : Int × Int × Int → Int × Int × Int) (hf : ∀ o ∈ l, (f o).1 = o.1) (h : Ris l) : Ris (l.map f) := by
  unfold Ris
  rw [List.pairwise_map]
  refine List.Pairwise.imp_of_mem ?_ h
  intro a b ha hb hab
  rw [hf a ha, hf b hb]
  exact hab

/-- An open number becomes something else. -/
theorem Sim.ended (h : Sim T R) {x : Int} (hx : isR R.ones x 1 = true) (t p L : Int) (ht : 2 ≤ t) (ht4 : t ≤ 4) (hL : R.last ≤ L) (hp : t ≤ 2 → p = L) (D : List Int)
    (hD : D = (R.ones.filter (fun o => (if o.1 = x then (x, t, L) else o).2.1 == 3)).map (·.1)) :
    Sim { endT { T with last := L } x (t + 1, p) with dead := D } { R with ones := R.ones.map (fun a => if a.1 = x then (x, t, L) else a), last := L } := by
  have hf : ∀ o ∈ R.ones, ((fun a : Int × Int × Int => if a.1 = x then (x, t, L) else a) o).1 = o.1 := by
    intro o _
    dsimp only
    split
    · rename_i e; exact e.symm
    · rfl
  have hl0 := h.l0
  have hin : ∃ q, fnd R.ones x = some q ∧ q.1 = 1 := by
    unfold isR at hx
    cases hq : fnd R.ones x with
    | none => rw [hq] at hx; cases hx
    | some q => rw [hq] at hx; exact ⟨q, rfl, by simpa using hx⟩
  obtain ⟨q, hq, hq1⟩ := hin
  unfold endT
  refine ⟨h.fi, h.ne, rfl, ris_map _ hf h.ri, fun y => ?_, fun o ho => ?_, fun o ho e => ?_, fun o ho => ?_, ?_, ?_, h.n2, by dsimp only; omega, h.n1⟩
  · dsimp only
    rw [fnd_map _ hf]
    by_cases e : y = x
    · subst e
      rw [upd_same]
      have hfd : ∃ o, R.ones.find? (fun o => o.1 == y) = some o ∧ o.1 = y := by
        unfold fnd at hq
        cases ho : R.ones.find? (fun o => o.1 == y) with
        | none => rw [ho] at hq; cases hq
        | some o => exact ⟨o, rfl, by have := List.find?_some ho; simpa using this⟩
      obtain ⟨o, ho, ho1⟩ := hfd
      rw [ho]
      simp only [Option.map_some]
      rw [if_pos ho1]
      exact ⟨p, rfl, fun h2 => hp h2⟩
    · rw [upd_ne _ _ e]
      have hw := h.wh y
      unfold fnd at hw
      cases ho : R.ones.find? (fun o => o.1 == y) with
      | none => rw [ho] at hw; exact hw
      | some o =>
        rw [ho] at hw
        have ho1 : o.1 = y := by have := List.find?_some ho; simpa using this
        simp only [Option.map_some] at hw ⊢
        rw [if_neg (by omega)]
        exact hw
  · obtain ⟨a, ha, rfl⟩ := List.mem_map.1 ho
    split
    · dsimp only; omega
    · exact h.ws a ha
  · obtain ⟨a, ha, rfl⟩ := List.mem_map.1 ho
    dsimp only at e ⊢
    split at e
    · rename_i e2
      rw [if_pos e2]
      exact Int.le_refl _
    · rename_i e2
      rw [if_neg e2]
      have := h.cm a ha e
      omega
  · obtain ⟨a, ha, rfl⟩ := List.mem_map.1 ho
    have := h.rg a ha
    have h2 := hf a ha
    dsimp only at h2 ⊢
    rw [h2]
    exact this
  · dsimp only
    rw [all_map _ hf, h.op]
    unfold butL allR
    rw [List.filter_map, List.filter_filter]
    congr 1
    refine List.filter_congr (fun o ho => ?_)
    dsimp only [Function.comp]
    by_cases e : o.1 = x
    · rw [if_pos e]
      have ht1 : ((x, t, L).2.1 == 1) = false := beq_eq_false_iff_ne.2 (by dsimp only; omega)
      rw [ht1]
      simp [e]
    · rw [if_neg e]
      simp [e]
  · dsimp only
    rw [all_map _ hf]
    exact hD

theorem Sim.stay (h : Sim T R) {x : Int} (hx : isR R.ones x 1 = true) (t L : Int) (ht : t ≠ 3) : T.dead = (R.ones.filter (fun o => (if o.1 = x then (x, t, L) else o).2.1 == 3)).map (·.1) := by
  rw [h.de]
  unfold allR
  congr 1
  refine List.filter_congr (fun o ho => ?_)
  by_cases e : o.1 = x
  · rw [if_pos e]
    have h2 := h.ri.fnd ho
    rw [e] at h2
    unfold isR at hx
    rw [h2] at hx
    have e1 : o.2.1 = 1 := by simpa using hx
    have b1 : (o.2.1 == 3) = false := by rw [e1]; rfl
    have b2 : ((x, t, L).2.1 == 3) = false := beq_eq_false_iff_ne.2 ht
    rw [b1, b2]
  · rw [if_neg e]
theorem Sim.kill (h : Sim T R) {x : Int} (hx : isR R.ones x 1 = true) (L : Int) : srtL (T.dead ++ [x]) = (R.ones.filter (fun o => (if o.1 = x then (x, 3, L) else o).2.1 == 3)).map (·.1) := by
  have hnx : x ∉ T.dead := by
    rw [h.de]
    intro hm
    have := h.ri.isR hm
    unfold isR at this hx
    cases hq : fnd R.ones x with
    | none => rw [hq] at hx; cases hx
    | some q =>
      rw [hq] at hx this
      have e1 : q.1 = 1 := by simpa using hx
      have e2 : q.1 = 3 := by simpa using this
      omega
  have hnd : T.dead.Nodup := by
    rw [h.de]
    exact (h.ri.all _).imp (fun h => by omega)
  refine rise_ext (srt_rise ?_) (h.ri.all _) (fun y => ?_)
  · rw [List.nodup_append]
    refine ⟨hnd, by simp, fun a ha b hb => ?_⟩
    simp at hb
    subst hb
    rintro rfl
    exact hnx ha
  · rw [srt_mem, List.mem_append, h.de, mem_all, List.mem_map]
    constructor
    · rintro (⟨p, hp⟩ | hy)
      · refine ⟨(y, 3, p), List.mem_filter.2 ⟨hp, ?_⟩, rfl⟩
        dsimp only
        split <;> rfl
      · simp at hy
        subst hy
        unfold isR at hx
        cases hq : fnd R.ones y with
        | none => rw [hq] at hx; cases hx
        | some q => exact ⟨(y, q), List.mem_filter.2 ⟨fnd_mem hq, by simp⟩, rfl⟩
    · rintro ⟨o, ho, rfl⟩
      obtain ⟨h1, h2⟩ := List.mem_filter.1 ho
      by_cases e : o.1 = x
      · right; simp [e]
      · left
        rw [if_neg e] at h2
        have e3 : o.2.1 = 3 := by simpa using h2
        exact ⟨o.2.2, by rw [← e3]; exact h1⟩

theorem endR_map (h : Sim T R) {x t : Int} (he : endRE R x t = 0) : isR R.ones x 1 = true ∧ endR R x t = { R with ones := R.ones.map (fun a => if a.1 = x then (x, t, endRL R t) else a), last := endRL R t } := by
  have hx : isR R.ones x 1 = true := by
    cases hx : isR R.ones x 1 with
    | true => rfl
    | false => unfold endRE at he; rw [if_pos hx] at he; cases he
  refine ⟨hx, ?_⟩
  unfold endR
  rw [if_neg (by simp [he])]
  rcases fnd_cases R.ones x with ⟨_, h2, _⟩ | ⟨i, hi, h1, h2, h3⟩
  · unfold isR at hx
    rw [h2] at hx
    cases hx
  · rw [h1, Int.toNat_natCast, set_map h.ri hi h3]
theorem Sim.com (h : Sim T R) (x : Int) : Sim (comT T x) (endR R x 2) := by
  have he := h.askE x 2 (by decide)
  by_cases e : askT T x = 0
  · unfold comT
    rw [if_neg (by simp [e])]
    obtain ⟨hx, h2⟩ := endR_map h (he.symm.trans e)
    rw [h2]
    have := h.ended hx 2 (T.last + 1) (T.last + 1) (by decide) (by decide) (by rw [h.la]; omega) (fun _ => rfl) T.dead (h.stay hx 2 _ (by decide))
    unfold endRL
    rw [if_pos rfl, h.la]
    exact this
  · unfold comT endR
    rw [if_pos e, if_pos (by rw [← he]; exact e)]
    exact h
theorem Sim.abo (h : Sim T R) (x : Int) : Sim (aboT T x) (endR R x 4) := by
  have he := h.askE x 4 (by decide)
  by_cases e : askT T x = 0
  · unfold aboT
    rw [if_neg (by simp [e])]
    obtain ⟨hx, h2⟩ := endR_map h (he.symm.trans e)
    rw [h2]
    have := h.ended hx 4 0 T.last (by decide) (by decide) (by rw [h.la]; omega) (fun h => absurd h (by decide)) T.dead (h.stay hx 4 _ (by decide))
    unfold endRL
    rw [if_neg (by decide), h.la]
    exact this
  · unfold aboT endR
    rw [if_pos e, if_pos (by rw [← he]; exact e)]
    exact h
theorem Sim.kil (h : Sim T R) (x : Int) : Sim (kilT T x) (endR R x 3) := by
  have he := h.kilE x
  by_cases e : Proofs.Ytjopobkcijkpmaa.kilE T x = 0
  · unfold kilT
    rw [if_neg (by simp [e])]
    obtain ⟨hx, h2⟩ := endR_map h (he.symm.trans e)
    rw [h2]
    have := h.ended hx 3 0 T.last (by decide) (by decide) (by rw [h.la]; omega) (fun h => absurd h (by decide)) _ (h.kill hx _)
    unfold endRL
    rw [if_neg (by decide), h.la]
    exact this
  · unfold kilT endR
    rw [if_pos e, if_pos (by rw [← he]; exact e)]
    exact h

theorem burW_at (f : Int → Option (Int × Int)) (l : List Int) (x : Int) : burW f l x = if x ∈ l then some (5, 0) else f x := by
  unfold burW
  induction l generalizing f with
  | nil => simp
  | cons a l ih =>
    rw [List.foldl_cons, ih]
    by_cases e : x ∈ l
    · rw [if_pos e, if_pos (List.mem_cons_of_mem _ e)]
    · rw [if_neg e]
      by_cases e2 : x = a
      · subst e2
        rw [upd_same, if_pos (by simp)]
      · rw [upd_ne _ _ e2, if_neg (by simp [e, e2])]
theorem Sim.bury (h : Sim T R) : Sim (burT T) (buryR R) := by
  have hf : ∀ o ∈ R.ones, (buryO o).1 = o.1 := by
    intro o _
    unfold buryO
    split <;> rfl
  unfold burT buryR
  refine ⟨h.fi, h.ne, h.la, ris_map _ hf h.ri, fun y => ?_, fun o ho => ?_, fun o ho e => ?_, fun o ho => ?_, ?_, ?_, h.n2, h.l0, h.n1⟩
  · dsimp only
    rw [fnd_map _ hf, burW_at]
    have hw := h.wh y
    unfold fnd at hw
    cases ho : R.ones.find? (fun o => o.1 == y) with
    | none =>
      rw [ho] at hw
      rw [if_neg]
      · exact hw
      · rw [h.de]
        intro hm
        obtain ⟨p, hp⟩ := mem_all.1 hm
        have := List.find?_eq_none.1 ho _ hp
        simp at this
    | some o =>
      rw [ho] at hw
      have ho1 : o.1 = y := by have := List.find?_some ho; simpa using this
      have hom := List.mem_of_find?_eq_some ho
      simp only [Option.map_some] at hw ⊢
      by_cases e : o.2.1 = 3
      · have hd : y ∈ T.dead := by
          rw [h.de, mem_all]
          exact ⟨o.2.2, by rw [← ho1, ← e]; exact hom⟩
        rw [if_pos hd]
        unfold buryO
        rw [if_pos e]
        exact ⟨0, rfl, fun h => by simp at h⟩
      · have hd : y ∉ T.dead := by
          rw [h.de]
          intro hm
          have h2 := h.ri.isR hm
          have h3 := h.ri.fnd hom
          rw [ho1] at h3
          unfold isR at h2
          rw [h3] at h2
          exact e (by simpa using h2)
        rw [if_neg hd]
        unfold buryO
        rw [if_neg e]
        exact hw
  · obtain ⟨a, ha, rfl⟩ := List.mem_map.1 ho
    unfold buryO
    split
    · dsimp only; omega
    · exact h.ws a ha
  · obtain ⟨a, ha, rfl⟩ := List.mem_map.1 ho
    unfold buryO at e ⊢
    split at e
    · dsimp only at e; omega
    · rename_i e2
      rw [if_neg e2]
      exact h.cm a ha e
  · obtain ⟨a, ha, rfl⟩ := List.mem_map.1 ho
    rw [hf a ha]
    exact h.rg a ha
  · dsimp only
    rw [all_map _ hf, h.op]
    unfold allR
    congr 1
    refine List.filter_congr (fun o ho => ?_)
    unfold buryO
    split
    · rename_i e
      rw [e]
      rfl
    · rfl
  · dsimp only
    rw [all_map _ hf]
    have : R.ones.filter (fun o => (buryO o).2.1 == 3) = [] := by
      rw [List.filter_eq_nil_iff]
      intro o ho
      unfold buryO
      split
      · simp
      · rename_i e; simpa using e
    rw [this]
    rfl
end

end Go.Proofs.Ytjopobkcijkpmaa
