/-
  Plain laws: the program's table tells what the document's tells.
-/
import Derived.Test.YtjopobkcijkpmaaSnS
namespace Go.Proofs.Ytjopobkcijkpmaa
open Go.RowKit

/-- A number's mark, as the program has it. -/
def MkR (a : Option (Int × Int)) (b : Option (Int × Int)) : Prop := match b with | none => a = none | some q => ∃ p, a = some (q.1 + 1, p) ∧ (q.1 ≤ 2 → p = q.2)
/-- The two tables beside one another. -/
structure Sim (T : TabS) (R : RefS) : Prop where
  fi : R.first = T.first
  ne : R.next = T.next
  la : R.last = T.last
  ri : Ris R.ones
  wh : ∀ x, MkR (T.who x) (fnd R.ones x)
  ws : ∀ o ∈ R.ones, 1 ≤ o.2.1 ∧ o.2.1 ≤ 4
  cm : ∀ o ∈ R.ones, o.2.1 = 2 → o.2.2 ≤ R.last
  rg : ∀ o ∈ R.ones, 1 ≤ o.1 ∧ o.1 < R.next
  op : T.opn = allR R.ones 1
  de : T.dead = allR R.ones 3
  n2 : R.next ≤ 4611686018427387904
  l0 : 0 ≤ R.last
  n1 : 1 ≤ R.next

section
variable {T : TabS} {R : RefS}
theorem Sim.of (h : Sim T R) (x : Int) : (fnd R.ones x = none ∧ ofT T x = if 1 ≤ x ∧ x < R.first then (1, 0) else (0, 0)) ∨ ∃ q p, fnd R.ones x = some q ∧ ofT T x = (q.1 + 1, p) ∧ (q.1 ≤ 2 → p = q.2) ∧ 1 ≤ q.1 ∧ q.1 ≤ 4 ∧ (q.1 = 2 → q.2 ≤ R.last) := by
  have hw := h.wh x
  cases hf : fnd R.ones x with
  | none =>
    rw [hf] at hw
    have hw : T.who x = none := hw
    refine .inl ⟨rfl, ?_⟩
    unfold ofT
    rw [hw, h.fi]
  | some q =>
    rw [hf] at hw
    obtain ⟨p, e, hp⟩ := hw
    have hm := fnd_mem hf
    exact .inr ⟨q, p, rfl, ofT_of e, hp, (h.ws _ hm).1, (h.ws _ hm).2, h.cm _ hm⟩
theorem Sim.ask (h : Sim T R) (x : Int) : isR R.ones x 1 = (askT T x == 0) := by
  unfold isR askT
  rcases h.of x with ⟨h1, h2⟩ | ⟨q, p, h1, h2, _⟩
  · rw [h1, h2]
    by_cases e : 1 ≤ x ∧ x < R.first
    · rw [if_pos e]; rfl
    · rw [if_neg e]; rfl
  · rw [h1, h2]
    by_cases e : q.1 = 1
    · simp [e]
    · rw [if_neg (by dsimp only; omega)]
      simp [e]
theorem Sim.isO (h : Sim T R) (x : Int) : Proofs.Ytjopobkcijkpmaa.isO T x = isR R.ones x 1 := by
  rw [h.ask x]
  rfl
theorem Sim.sh (h : Sim T R) (y p : Int) : shB p (ofT T y) = byR R y p := by
  unfold shB byR
  rcases h.of y with ⟨h1, h2⟩ | ⟨q, p', h1, h2, h3, h4, h5, h6⟩
  · rw [h1, h2]
    by_cases e : 1 ≤ y ∧ y < R.first
    · simp [e]
    · rw [if_neg e]
      dsimp only
      rw [Bool.and_eq_decide]
      simp
      omega
  · rw [h1, h2]
    by_cases e : q.1 = 2
    · rw [h3 (by omega)]
      simp [e]
    · have b1 : (q.1 + 1 == 1) = false := beq_eq_false_iff_ne.2 (by omega)
      have b2 : (q.1 + 1 == 3) = false := beq_eq_false_iff_ne.2 (by omega)
      have b3 : (q.1 == 2) = false := beq_eq_false_iff_ne.2 e
      dsimp only
      rw [b1, b2, b3]
      rfl
theorem Sim.pl (h : Sim T R) {x : Int} (hx : isR R.ones x 1 = true) : (ofT T x).2 = plR R x ∧ ((T.who x).getD (0, 0)).2 = plR R x := by
  unfold isR at hx
  unfold plR
  have hw := h.wh x
  cases hf : fnd R.ones x with
  | none => rw [hf] at hx; cases hx
  | some q =>
    rw [hf] at hx hw
    obtain ⟨p, e, hp⟩ := hw
    have e1 : q.1 = 1 := by simpa using hx
    have e2 := hp (by omega)
    rw [ofT_of e, e]
    simp [e2]
theorem Sim.vis (h : Sim T R) (x y : Int) : visB T x y = visR R x y := by
  unfold visB visR
  rw [h.isO]
  cases hx : isR R.ones x 1 with
  | false => rfl
  | true => rw [(h.pl hx).1, h.sh]
theorem Sim.byl (h : Sim T R) (y : Int) : byR R y R.last = ((ofT T y).1 == 1 || (ofT T y).1 == 3) := by
  unfold byR
  rcases h.of y with ⟨h1, h2⟩ | ⟨q, p', h1, h2, h3, h4, h5, h6⟩
  · rw [h1, h2]
    by_cases e : 1 ≤ y ∧ y < R.first
    · simp [e]
    · rw [if_neg e]
      dsimp only
      rw [Bool.and_eq_decide]
      simp
      omega
  · rw [h1, h2]
    by_cases e : q.1 = 2
    · simp [e, h6 e]
    · have b1 : (q.1 + 1 == 1) = false := beq_eq_false_iff_ne.2 (by omega)
      have b2 : (q.1 + 1 == 3) = false := beq_eq_false_iff_ne.2 (by omega)
      have b3 : (q.1 == 2) = false := beq_eq_false_iff_ne.2 e
      dsimp only
      rw [b1, b2, b3]
      rfl
theorem Sim.conf (h : Sim T R) (x y : Int) : confE T x y = confR R x y := by
  unfold confE confR
  have ha := h.ask x
  have h9 : askT T x = 0 ∨ askT T x = 9 := by unfold askT; split <;> simp
  rcases h9 with h9 | h9
  · rw [h9] at ha ⊢
    have hx : isR R.ones x 1 = true := ha
    rw [if_neg (show ¬ ((0 : Int) ≠ 0) by simp), if_neg (show ¬ (isR R.ones x 1 = false) by simp [hx])]
    have hy : (isR R.ones y 1 = true) ↔ (ofT T y).1 = 2 := by
      rw [h.ask y]
      unfold askT
      split <;> simp [*]
    by_cases e1 : (ofT T y).1 = 2 ∧ y ≠ x
    · rw [if_pos e1, if_pos ⟨e1.2, hy.2 e1.1⟩]
    · rw [if_neg e1, if_neg (show ¬ (y ≠ x ∧ isR R.ones y 1 = true) from fun e => e1 ⟨hy.1 e.2, e.1⟩)]
      have hv : visR R x y = (y == x || byR R y (plR R x)) := by unfold visR; rw [hx, Bool.true_and]
      have hs := h.sh y (plR R x)
      rw [← (h.pl hx).1] at hs
      by_cases e2 : (ofT T y).1 = 3 ∧ shB (ofT T x).2 (ofT T y) = false
      · rw [if_pos e2, if_pos]
        refine ⟨by rw [h.byl]; simp [e2.1], ?_⟩
        rw [hv, ← (h.pl hx).1, ← hs, e2.2, Bool.or_false]
        refine beq_eq_false_iff_ne.2 ?_
        rintro rfl
        have := hy.1 hx
        omega
      · rw [if_neg e2, if_neg]
        rintro ⟨k1, k2⟩
        rw [hv, ← (h.pl hx).1, ← hs] at k2
        have k3 := Bool.or_eq_false_iff.1 k2
        refine e2 ⟨?_, k3.2⟩
        rw [h.byl] at k1
        rcases Bool.or_eq_true_iff.1 k1 with k | k
        · have k4 := k3.2
          unfold shB at k4
          rw [k, Bool.true_or] at k4
          cases k4
        · simpa using k
  · rw [h9] at ha ⊢
    have hx : isR R.ones x 1 = false := ha
    rw [if_pos (by simp), if_pos hx]
theorem mem_all {l : List (Int × Int × Int)} {t x : Int} : x ∈ allR l t ↔ ∃ p, (x, t, p) ∈ l := by
  unfold allR
  rw [List.mem_map]
  constructor
  · rintro ⟨⟨a, b, c⟩, ho, rfl⟩
    obtain ⟨h1, h2⟩ := List.mem_filter.1 ho
    obtain rfl : b = t := by simpa using h2
    exact ⟨c, h1⟩
  · rintro ⟨p, hp⟩
    exact ⟨(x, t, p), List.mem_filter.2 ⟨hp, by simp⟩, rfl⟩
theorem Ris.isR {l : List (Int × Int × Int)} (h : Ris l) {x t : Int} (hx : x ∈ allR l t) : Proofs.Ytjopobkcijkpmaa.isR l x t = true := by
  obtain ⟨p, hp⟩ := mem_all.1 hx
  have := h.fnd hp
  unfold Proofs.Ytjopobkcijkpmaa.isR
  rw [this]
  simp
theorem Sim.toAll (h : Sim T R) (y : Int) : toAllB T y = toAllR R y := by
  unfold toAllB toAllR
  rw [h.byl, Bool.and_comm, h.op]
  congr 1
  refine (List.all_eq.trans ?_).trans List.all_eq.symm
  refine decide_eq_decide.2 (forall_congr' fun n => forall_congr' fun hn => ?_)
  rw [(h.pl (h.ri.isR hn)).2, h.sh]
theorem Sim.begF (h : Sim T R) : Proofs.Ytjopobkcijkpmaa.begF T = begRF R := by
  unfold Proofs.Ytjopobkcijkpmaa.begF begRF
  rw [← h.op, ← h.ne]
  congr 1
  have := h.n2
  by_cases e : R.next = 4611686018427387904
  · simp [e]
  · have e1 : ¬ 4611686018427387904 ≤ R.next := by omega
    simp [e, e1]
theorem Sim.begN (h : Sim T R) : Proofs.Ytjopobkcijkpmaa.begN T = begRN R := by
  unfold Proofs.Ytjopobkcijkpmaa.begN begRN
  rw [h.begF, h.ne]
theorem Sim.begE (h : Sim T R) : Proofs.Ytjopobkcijkpmaa.begE T = begRE R := by
  unfold Proofs.Ytjopobkcijkpmaa.begE begRE
  rw [h.begF]
theorem Sim.kilE (h : Sim T R) (x : Int) : Proofs.Ytjopobkcijkpmaa.kilE T x = endRE R x 3 := by
  unfold Proofs.Ytjopobkcijkpmaa.kilE endRE
  have ha := h.ask x
  have h9 : askT T x = 0 ∨ askT T x = 9 := by unfold askT; split <;> simp
  rw [h.de]
  rcases h9 with h9 | h9 <;> rw [h9] at ha ⊢
  · rw [if_neg (show ¬ ((0 : Int) ≠ 0) by simp), if_neg (show ¬ (isR R.ones x 1 = false) by simp [ha])]
    simp
  · rw [if_pos (by simp), if_pos (by simpa using ha)]
theorem Sim.askE (h : Sim T R) (x t : Int) (ht : t ≠ 3) : askT T x = endRE R x t := by
  unfold endRE
  have ha := h.ask x
  have h9 : askT T x = 0 ∨ askT T x = 9 := by unfold askT; split <;> simp
  rcases h9 with h9 | h9 <;> rw [h9] at ha ⊢
  · rw [if_neg (by simp [ha]), if_neg (fun e => ht e.1)]
  · rw [if_pos (by simpa using ha)]

theorem Sim.new (n : Int) (l : List Int) (h1 : 1 ≤ n) (h2 : n ≤ 4611686018427387904) (hr : Rise 0 n l) : Sim (newT n l) (newR n l) := by
  have hp : ∀ k, k < l.length → 0 < l.getD k 0 := by
    intro k
    induction k with
    | zero => intro hj; have := (hr 0 hj).1; rw [if_pos rfl] at this; exact this
    | succ j ih => intro hj; have := (hr (j + 1) hj).1; rw [if_neg (by omega), Nat.add_sub_cancel] at this; have := ih (by omega); omega
  have hadj : ∀ (k : Nat) (h : k + 1 < l.length), l[k] < l[k + 1] := by
    intro k hk
    have := (hr (k + 1) hk).1
    rw [if_neg (by omega), Nat.add_sub_cancel] at this
    simpa [List.getD, List.getElem?_eq_getElem hk, List.getElem?_eq_getElem (show k < l.length by omega)] using this
  have hris : l.Pairwise (· < ·) := by
    rw [List.pairwise_iff_getElem]
    intro i j hi hj hij
    induction j with
    | zero => omega
    | succ j ih =>
      have := hadj j hj
      rcases Nat.lt_or_ge i j with h | h
      · have := ih (by omega) h
        omega
      · obtain rfl : i = j := by omega
        exact this
  have hmem : ∀ o ∈ (newR n l).ones, o.2 = (3, 0) ∧ o.1 ∈ l := by
    intro o ho
    obtain ⟨x, hx, rfl⟩ := List.mem_map.1 ho
    exact ⟨rfl, hx⟩
  have hri : Ris (newR n l).ones := by
    unfold Ris newR
    rw [List.pairwise_map]
    exact hris
  refine ⟨rfl, rfl, rfl, hri, fun x => ?_, fun o ho => ?_, fun o ho e => ?_, fun o ho => ?_, ?_, ?_, h2, Int.le_refl _, h1⟩
  · show MkR (deadW l x) _
    unfold deadW
    by_cases e : x ∈ l
    · have := hri.fnd (o := (x, 3, 0)) (List.mem_map.2 ⟨x, e, rfl⟩)
      rw [this, if_pos e]
      exact ⟨0, rfl, fun h => by simp at h⟩
    · rw [if_neg e]
      cases hf : fnd (newR n l).ones x with
      | none => rfl
      | some q => exact absurd (hmem _ (fnd_mem hf)).2 e
  · rw [(hmem o ho).1]; decide
  · rw [(hmem o ho).1] at e; exact absurd e (by decide)
  · obtain ⟨i, hi, e⟩ := List.getElem_of_mem (hmem o ho).2
    have h1 := hp i hi
    have h2 := (hr i hi).2
    simp [List.getD, List.getElem?_eq_getElem hi] at h1 h2
    rw [e] at h1 h2
    exact ⟨by omega, h2⟩
  · show [] = allR (l.map _) 1
    unfold allR
    rw [List.filter_map]
    simp
  · show l = allR (l.map _) 3
    unfold allR
    rw [List.filter_map]
    simp only [Function.comp_def, beq_self_eq_true, List.map_map, List.map_id']
    exact (List.filter_eq_self.2 (fun _ _ => rfl)).symm
end

end Go.Proofs.Ytjopobkcijkpmaa
