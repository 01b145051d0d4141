/-
  Plain laws: the document's table beside the program's.
-/
import Derived.Test.YtjopobkcijkpmaaSnQ
namespace Go.Proofs.Ytjopobkcijkpmaa
open Go.RowKit

/-- The document's table. -/
structure RefS where
  ones : List (Int × Int × Int)
  first : Int
  next : Int
  last : Int

def fnd (l : List (Int × Int × Int)) (x : Int) : Option (Int × Int) := (l.find? (fun o => o.1 == x)).map (·.2)
def fndI (l : List (Int × Int × Int)) (x : Int) : Int := match l.findIdx? (fun o => o.1 == x) with | some i => (i : Int) | none => -1
def allR (l : List (Int × Int × Int)) (t : Int) : List Int := (l.filter (fun o => o.2.1 == t)).map (·.1)
def isR (l : List (Int × Int × Int)) (x t : Int) : Bool := match fnd l x with | some q => q.1 == t | none => false
def byR (R : RefS) (x p : Int) : Bool := match fnd R.ones x with | none => decide (1 ≤ x) && decide (x < R.first) | some q => q.1 == 2 && decide (q.2 ≤ p)
def plR (R : RefS) (x : Int) : Int := ((fnd R.ones x).getD (0, 0)).2
def visR (R : RefS) (x y : Int) : Bool := isR R.ones x 1 && (y == x || byR R y (plR R x))
def confR (R : RefS) (x y : Int) : Int := if isR R.ones x 1 = false then 9 else if y ≠ x ∧ isR R.ones y 1 = true then 7 else if byR R y R.last = true ∧ visR R x y = false then 8 else 0
def toAllR (R : RefS) (y : Int) : Bool := (allR R.ones 1).all (fun n => byR R y (plR R n)) && byR R y R.last
def begRF (R : RefS) : Bool := decide (16 ≤ (allR R.ones 1).length) || R.next == 4611686018427387904
def begR (R : RefS) : RefS := if begRF R then R else { R with ones := R.ones ++ [(R.next, 1, R.last)], next := R.next + 1 }
def begRN (R : RefS) : Int := if begRF R then 0 else R.next
def begRE (R : RefS) : Int := if begRF R then 5 else 0
def endRE (R : RefS) (x t : Int) : Int := if isR R.ones x 1 = false then 9 else if t = 3 ∧ 64 ≤ (allR R.ones 3).length then 5 else 0
def endRL (R : RefS) (t : Int) : Int := if t = 2 then R.last + 1 else R.last
def endR (R : RefS) (x t : Int) : RefS := if endRE R x t ≠ 0 then R else { R with ones := R.ones.set (fndI R.ones x).toNat (x, t, endRL R t), last := endRL R t }
def buryO (o : Int × Int × Int) : Int × Int × Int := if o.2.1 = 3 then (o.1, 4, o.2.2) else o
def buryR (R : RefS) : RefS := { R with ones := R.ones.map buryO }
def newR (n : Int) (l : List Int) : RefS := ⟨l.map (fun x => (x, 3, 0)), n, n, 0⟩

theorem fnd_cases (l : List (Int × Int × Int)) (x : Int) : (fndI l x = -1 ∧ fnd l x = none ∧ ∀ o ∈ l, o.1 ≠ x) ∨ ∃ (i : Nat) (h : i < l.length), fndI l x = i ∧ fnd l x = some (l[i]).2 ∧ (l[i]).1 = x := by
  unfold fndI fnd
  cases hf : l.findIdx? (fun o => o.1 == x) with
  | none =>
    have h := List.findIdx?_eq_none_iff.1 hf
    refine .inl ⟨rfl, ?_, fun o ho e => ?_⟩
    · rw [List.find?_eq_none.2 (fun o ho => by have := h o ho; simpa using this)]
      rfl
    · have := h o ho
      simp [e] at this
  | some i =>
    obtain ⟨h1, h2, h3⟩ := List.findIdx?_eq_some_iff_getElem.1 hf
    refine .inr ⟨i, h1, rfl, ?_, by simpa using h2⟩
    have : l.find? (fun o => o.1 == x) = some l[i] := by
      rw [List.find?_eq_some_iff_getElem]
      exact ⟨h2, i, h1, rfl, fun j hj => by have := h3 j hj; simpa using this⟩
    rw [this]
    rfl
theorem fnd_mem {l : List (Int × Int × Int)} {x : Int} {q : Int × Int} (h : fnd l x = some q) : (x, q) ∈ l := by
  rcases fnd_cases l x with ⟨_, h2, _⟩ | ⟨i, hi, _, h2, h3⟩
  · rw [h2] at h; cases h
  · rw [h2] at h
    cases h
    have := List.getElem_mem hi
    rw [← h3]
    exact this

/-- Rising. -/
def Ris (l : List (Int × Int × Int)) : Prop := l.Pairwise (fun a b => a.1 < b.1)
theorem Ris.fnd {l : List (Int × Int × Int)} (h : Ris l) {o : Int × Int × Int} (ho : o ∈ l) : fnd l o.1 = some o.2 := by
  induction l with
  | nil => cases ho
  | cons a l ih =>
    rcases List.mem_cons.1 ho with rfl | ho
    · simp [Proofs.Ytjopobkcijkpmaa.fnd]
    · have h1 := (List.pairwise_cons.1 h).1 o ho
      have h2 := ih (List.pairwise_cons.1 h).2 ho
      unfold Proofs.Ytjopobkcijkpmaa.fnd at h2 ⊢
      rw [List.find?_cons_of_neg (by simp; omega)]
      exact h2
theorem rise_ext : ∀ {a b : List Int}, a.Pairwise (· < ·) → b.Pairwise (· < ·) → (∀ x, x ∈ a ↔ x ∈ b) → a = b
  | [], [], _, _, _ => rfl
  | [], y :: b, _, _, h => by have := (h y).2 (by simp); cases this
  | x :: a, [], _, _, h => by have := (h x).1 (by simp); cases this
  | x :: a, y :: b, ha, hb, h => by
    have ha' := List.pairwise_cons.1 ha
    have hb' := List.pairwise_cons.1 hb
    have hxy : x = y := by
      rcases List.mem_cons.1 ((h x).1 (by simp)) with e | hx
      · exact e
      · rcases List.mem_cons.1 ((h y).2 (by simp)) with e | hy
        · exact e.symm
        · have := hb'.1 x hx
          have := ha'.1 y hy
          omega
    subst hxy
    rw [rise_ext ha'.2 hb'.2 (fun z => ?_)]
    have := h z
    constructor
    · intro hz
      rcases List.mem_cons.1 (this.1 (List.mem_cons_of_mem _ hz)) with e | hz'
      · have := ha'.1 z hz
        omega
      · exact hz'
    · intro hz
      rcases List.mem_cons.1 (this.2 (List.mem_cons_of_mem _ hz)) with e | hz'
      · have := hb'.1 z hz
        omega
      · exact hz'
theorem srt_rise {l : List Int} (h : l.Nodup) : (srtL l).Pairwise (· < ·) := by
  have h1 : (srtL l).Pairwise (fun x y => decide (x ≤ y) = true) := List.pairwise_mergeSort (by intro a b c h1 h2; simp at h1 h2 ⊢; omega) (by intro a b; simp; omega) l
  have h2 : (srtL l).Nodup := (List.mergeSort_perm l _).nodup_iff.2 h
  refine (h1.and h2).imp ?_
  rintro a b ⟨h3, h4⟩
  have := of_decide_eq_true h3
  omega
theorem Ris.all {l : List (Int × Int × Int)} (h : Ris l) (p : Int × Int × Int → Bool) : ((l.filter p).map (·.1)).Pairwise (· < ·) := by
  rw [List.pairwise_map]
  exact h.filter p

end Go.Proofs.Ytjopobkcijkpmaa
