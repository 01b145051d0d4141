/-
  What operations of a literal leave: bytes, pieces, in memory that only grows.
-/
import Derived.Test.YthpjjoahffagcaaRgm
import Derived.Test.YthpjjoahffagcaaPc
namespace Go.Proofs.Ythpjjoahffagcaa
open Go Go.RowKit

/-- n bytes, which read as l. -/
def VN (w : World) (v : Value) (n : Nat) (l : List UInt8) : Prop := ∃ A c, v = .slice A n c ∧ BR w A n l ∧ n ≤ c ∧ c ≤ maxLen
theorem VN.below {w w' : World} {v : Value} {n : Nat} {l : List UInt8} (h : VN w v n l) (hb : Below w.heap.size w w') : VN w' v n l := by
  obtain ⟨A, c, e, h1, h2⟩ := h
  exact ⟨A, c, e, h1.below hb, h2⟩
theorem VN.vb {w : World} {v : Value} {n : Nat} {l : List UInt8} (h : VN w v n l) : VB w v l := by
  obtain ⟨A, c, e, h1, h2, h3⟩ := h
  have := h1.len
  subst this
  exact ⟨A, c, e, h1, h2, h3⟩
theorem VB.vn {w : World} {v : Value} {n : Nat} {l : List UInt8} (h : VB w v l) (hn : l.length = n) : VN w v n l := by
  subst hn
  exact h
theorem OB.vn {w : World} {base : Nat} {v : Value} {n : Nat} {l : List UInt8} (h : OB w base v l) (hn : l.length = n) : VN w v n l := h.vb.vn hn
theorem VN.lit (w : World) (l : List UInt8) (cs : Array Value) (n : Nat) (hn : l.length = n) (hs : n ≤ maxLen) (h : cs.toList = l.map bv) : VN (w.alloc (.cells cs 5)) (.slice (some ⟨w.heap.size, 0, none⟩) n n) n l := by
  subst hn
  exact ⟨_, _, rfl, BR.lit w _ l cs h, Nat.le_refl _, hs⟩
theorem VN.zero (w : World) (n : Nat) (hs : n ≤ maxLen) : VN (w.alloc (.cells (zeroB n) 5)) (.slice (some ⟨w.heap.size, 0, none⟩) n n) n (List.replicate n 0) :=
  ⟨_, _, rfl, BR.zero w _ n _ rfl, Nat.le_refl _, hs⟩
theorem BB.vn {w : World} {g n : Nat} {l : List UInt8} (h : BB w g l) (hn : l.length = n) (hs : n ≤ maxLen) : VN w (.slice (some ⟨g, 0, none⟩) n n) n l := by
  subst hn
  exact ⟨_, _, rfl, h.readsAll, Nat.le_refl _, hs⟩
theorem VN.nil (w : World) : VN w (.slice none 0 0) 0 [] := ⟨_, _, rfl, BR.none_ _ _, Nat.le_refl _, by simp [maxLen]⟩

def MP.vb (n : Nat) (l : List UInt8) : MP := ⟨fun v w => VN w v n l, fun _ _ _ hb h => h.below hb⟩
/-- A piece as a value. -/
def PV (w : World) (v : Value) (a : Int) (n : Nat) (l : List UInt8) : Prop := ∃ u, v = .agg #[.int .i64 a, u] ∧ VN w u n l
theorem PV.below {w w' : World} {v : Value} {a : Int} {n : Nat} {l : List UInt8} (h : PV w v a n l) (hb : Below w.heap.size w w') : PV w' v a n l := by
  obtain ⟨u, e, h1⟩ := h
  exact ⟨u, e, h1.below hb⟩
def MP.pc (a : Int) (n : Nat) (l : List UInt8) : MP := ⟨fun v w => PV w v a n l, fun _ _ _ hb h => h.below hb⟩
/-- A slice of pieces. -/
def PN (w : World) (v : Value) (n : Nat) (ps : List Pc) : Prop := ∃ A c, v = .slice A n c ∧ PR w A n ps ∧ n ≤ c ∧ c ≤ maxLen
theorem PN.below {w w' : World} {v : Value} {n : Nat} {ps : List Pc} (h : PN w v n ps) (hb : Below w.heap.size w w') : PN w' v n ps := by
  obtain ⟨A, c, e, h1, h2⟩ := h
  exact ⟨A, c, e, h1.below hb, h2⟩
def MP.ps (n : Nat) (ps : List Pc) : MP := ⟨fun v w => PN w v n ps, fun _ _ _ hb h => h.below hb⟩
/-- A literal of pieces. -/
theorem PN.lit (w : World) (us : List (Int × Value)) (ps : List Pc) (cs : Array Value) (n : Nat) (hn : ps.length = n) (hu : us.length = n) (hs : n ≤ maxLen) (h : cs.toList = pcs us) (hv : ∀ (i : Nat) (p : Pc) (q : Int × Value), ps[i]? = some p → us[i]? = some q → q.1 = p.1 ∧ VB w q.2 p.2) :
    PN (w.alloc (.cells cs 29)) (.slice (some ⟨w.heap.size, 0, none⟩) n n) n ps := by
  refine ⟨_, _, rfl, ⟨us, ?_, by rw [hu, hn], fun i p q hp hq => ?_⟩, Nat.le_refl _, hs⟩
  · rw [← h]
    refine Rd.new w _ cs n 2 ?_
    rw [← Array.length_toList, h, pcs_length, hu]
  · obtain ⟨h1, h2⟩ := hv i p q hp hq
    exact ⟨h1, h2.below (gr_alloc (gr_refl w) _)⟩
/-- The same, of pieces that are there one by one. -/
theorem PN.lit1 (w : World) {a : Int} {n : Nat} {l : List UInt8} {u : Value} (h : VN w u n l) : PN (w.alloc (.cells #[.int .i64 a, u] 29)) (.slice (some ⟨w.heap.size, 0, none⟩) 1 1) 1 [(a, l)] := by
  refine PN.lit w [(a, u)] [(a, l)] _ 1 rfl rfl (by simp [maxLen]) rfl (fun i p q hp hq => ?_)
  obtain rfl | h2 : i = 0 ∨ 1 ≤ i := by omega
  · simp at hp hq
    subst hp hq
    exact ⟨rfl, h.vb⟩
  · rw [List.getElem?_eq_none (by simpa using h2)] at hp
    cases hp
theorem PN.lit2 (w : World) {a b : Int} {n m : Nat} {l k : List UInt8} {u v : Value} (h : VN w u n l) (h' : VN w v m k) : PN (w.alloc (.cells #[.int .i64 a, u, .int .i64 b, v] 29)) (.slice (some ⟨w.heap.size, 0, none⟩) 2 2) 2 [(a, l), (b, k)] := by
  refine PN.lit w [(a, u), (b, v)] [(a, l), (b, k)] _ 2 rfl rfl (by simp [maxLen]) rfl (fun i p q hp hq => ?_)
  obtain rfl | rfl | h2 : i = 0 ∨ i = 1 ∨ 2 ≤ i := by omega
  · simp at hp hq
    subst hp hq
    exact ⟨rfl, h.vb⟩
  · simp at hp hq
    subst hp hq
    exact ⟨rfl, h'.vb⟩
  · rw [List.getElem?_eq_none (by simpa using h2)] at hp
    cases hp

end Go.Proofs.Ythpjjoahffagcaa
