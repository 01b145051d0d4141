/-
  Texts of this claim, joined: RdF, RdG, RdH, Rf, DfA, DfB, DfC, DfD, DfE, RdI, RdJ, RdK, RdL, RdM, Row, Opn, OpR, RdN, RdO, RdP. No statement of the program is proved here.
-/
import Derived.Test.YtnkeclpgpiogoaaPkA2
import Derived.RangeFuncBound
import Derived.RangeFuncCalls
import Derived.RangeFuncLeaves
import Derived.OwnWalkIn
import Derived.TacticsInMore
import Derived.LoopNIn
import Derived.LoopIn
import Derived.Sort.QuietIn
import Derived.RegionIn
import Derived.BigRegionIn
import Derived.Stop.RegionWithIn
import Derived.Test.YtnkeclpgpiogoaaPkA1
import Derived.Deep.RegionHeldLaw
import Derived.Laws.EntriesVeiled
import Derived.Shelf.Abstract
import Derived.ProofKit
import Derived.OpenShut
import Derived.JoinedCond
import Derived.SizedLaws
import Derived.Deep.CondSized
import Derived.Deep.SlicePairs
import Derived.Lib.SmallJoins
import Derived.Deep.Slices
/-! RdF -/
namespace Go.Proofs.Ytnkeclpgpiogoaa
open Go.RowKit
/-! Plain: what Decode tells. -/
def said (b : List UInt8) : Nat := leN (b.take 4)
def body (b : List UInt8) : List UInt8 := (b.drop 4).take (said b)
def short (b : List UInt8) : Prop := b.length < 4 ∨ b.length < 4 + said b
def fine (b : List UInt8) : Prop := (pRecord (body b)).2 = some (said b) ∧ (pRecord (body b)).1.right = true
instance (b : List UInt8) : Decidable (short b) := by unfold short; infer_instance
instance (b : List UInt8) : Decidable (fine b) := by unfold fine; infer_instance
end Go.Proofs.Ytnkeclpgpiogoaa

/-! RdG -/
namespace Go.Proofs.Ytnkeclpgpiogoaa
open Go.RowKit
def NB (w w' : World) : Prop := ∀ (k : Nat) (cs : Array Value) (t : TypeId) (fr : Nat × Nat), t ≠ 5 → w.heap[k]? = some (.cells cs t fr) → w'.heap[k]? = some (.cells cs t fr)
theorem NB.below {w w' : World} (h : Below w.heap.size w w') : NB w w' := fun k _cs _t _fr _ hk => (h.block k (Array.getElem?_eq_some_iff.1 hk).1).trans hk
section
variable (w : World)
end
section
variable {w w' : World} {g : Nat} {x0 x1 x2 : Value} {t : TypeId}
end
end Go.Proofs.Ytnkeclpgpiogoaa

/-! RdH -/
namespace Go.Proofs.Ytnkeclpgpiogoaa
open Go.RowKit
def rcs : List (Int × Int × Value) → List Value
 | [] => []
 | p :: ps => .int .u8 p.1 :: .int .i64 p.2.1 :: p.2.2 :: rcs ps
theorem rcs_length (ps : List (Int × Int × Value)) : (rcs ps).length = ps.length * 3 := by
 induction ps with
 | nil => rfl
 | cons p ps ih => simp only [rcs, List.length_cons, ih]; omega
section
variable {w w' w4 : World} {base : Nat} {v v4 : Value} {rs : List Rec}
end
/-! Plain: All. -/
end Go.Proofs.Ytnkeclpgpiogoaa

/-! Rf -/
namespace Go.Proofs.Ytnkeclpgpiogoaa
open Go.RowKit
end Go.Proofs.Ytnkeclpgpiogoaa

/-! DfA -/
namespace Go.Proofs.Ytnkeclpgpiogoaa
open Go.RowKit
attribute [local go_sem] Oper.semAt_some
def unlTo (a b : List UInt8) (m : Nat) : List Nat := (List.range m).filter fun i => a.getD i 0 != b.getD i 0
def Kp2 (n₀ Ba Bb : Nat) (W W' : World) : Prop := Below n₀ W W' ∧ (∀ o, W.heap[Ba]? = some o → W'.heap[Ba]? = some o) ∧ (∀ o, W.heap[Bb]? = some o → W'.heap[Bb]? = some o)
theorem Kp2.trans {n₀ Ba Bb : Nat} {A B C : World} (h : Kp2 n₀ Ba Bb A B) (k : Kp2 n₀ Ba Bb B C) : Kp2 n₀ Ba Bb A C := ⟨h.1.trans k.1, fun o e => k.2.1 o (h.2.1 o e), fun o e => k.2.2 o (h.2.2 o e)⟩
end Go.Proofs.Ytnkeclpgpiogoaa

/-! DfB -/
namespace Go.Proofs.Ytnkeclpgpiogoaa
open Go.RowKit
section
variable {w w' w'' : World}
end
def dput (b : List UInt8) (ps : List Pc) (f e : Nat) : List Pc := if e = 0 then ps else ps ++ [((f : Int), (b.drop f).take (e - f))]
end Go.Proofs.Ytnkeclpgpiogoaa

/-! DfC -/
namespace Go.Proofs.Ytnkeclpgpiogoaa
open Go.RowKit Go.Shelf
attribute [local go_sem] Oper.semAt_some
def dstep (b : List UInt8) (s : List Pc × Nat × Nat) (x : Nat) : List Pc × Nat × Nat :=
 if s.2.2 = 0 ∨ 8 < x + 1 - s.2.2 then (dput b s.1 s.2.1 s.2.2, x, x + 1) else (s.1, s.2.1, x + 1)
def dst (a b : List UInt8) (k : Nat) : List Pc × Nat × Nat := ((unlTo a b 4080).take k).foldl (dstep b) ([], 0, 0)
def diffL (a b : List UInt8) : List Pc := dput b (dst a b (unlTo a b 4080).length).1 (dst a b (unlTo a b 4080).length).2.1 (dst a b (unlTo a b 4080).length).2.2
section
variable {n₀ : Nat} {w W W' : World} {A B : Option Addr} {ca cb : Nat} {s : List Pc × Nat × Nat}
end
end Go.Proofs.Ytnkeclpgpiogoaa

/-! DfD -/
namespace Go.Proofs.Ytnkeclpgpiogoaa
open Go.RowKit
def pcOk (p : Pc) : Prop := 0 ≤ p.1 ∧ 0 < p.2.length ∧ (p.2.length : Int) + p.1 ≤ 4080
instance (p : Pc) : Decidable (pcOk p) := by unfold pcOk; infer_instance
end Go.Proofs.Ytnkeclpgpiogoaa

/-! DfE -/
namespace Go.Proofs.Ytnkeclpgpiogoaa
open Go.RowKit
section
variable {w : World} {base g n cap : Nat} {l : List UInt8}
theorem OB.cur (h : OB w base (.slice (some ⟨g, 0, none⟩) n cap) l) (hn : l.length = n) : ∃ cur : Array Value, w.heap[g]? = some (.cells cur 5 (0, 0)) ∧ base ≤ g ∧ n ≤ cap ∧ cap ≤ maxLen ∧ cur.size = cap ∧ cur.toList.take n = l.map bv := by
 rcases h.2 with ⟨e, _⟩ | ⟨g', cap', cur, e, hb, hg, hnc, hm, hcu, ht⟩
 ·cases e
 ·injection e with e1 e2 e3
  injection e1 with e1
  injection e1 with e1
  subst e1 e3
  exact ⟨cur, hg, hb, by omega, hm, by simpa using hcu, by rw [← ht, hn]; simp⟩
theorem OB.cell (h : OB w base (.slice (some ⟨g, 0, none⟩) n cap) l) (hn : l.length = n) {j : Nat} (hj : j < n) : w.cell? ⟨g, j, none⟩ = some (.int .u8 ((l.getD j 0).toNat : Int)) := by
 obtain ⟨cur, hg, _, _, _, hz, ht⟩ := h.cur hn
 rw [cell_of_row w g j _ _ _ hg]
 have : cur.toList[j]? = (l.map bv)[j]? := by rw [← ht, List.getElem?_take, if_pos hj]
 rw [Array.getElem?_toList] at this
 rw [this, List.getElem?_map, List.getElem?_eq_getElem (by omega)]
 simp [bv, List.getD, List.getElem?_eq_getElem (show j < l.length by omega)]
theorem OB.frozen (h : OB w base (.slice (some ⟨g, 0, none⟩) n cap) l) (hn : l.length = n) (j : Nat) : w.frozen? ⟨g, j, none⟩ = false := by
 obtain ⟨cur, hg, _, _, _, hz, ht⟩ := h.cur hn
 simp [World.frozen?, hg]
theorem OB.setCell (h : OB w base (.slice (some ⟨g, 0, none⟩) n cap) l) (hn : l.length = n) (j : Nat) (x : UInt8) (_hj : j < n) : OB (w.setCell ⟨g, j, none⟩ (bv x)) base (.slice (some ⟨g, 0, none⟩) n cap) (l.set j x) := by
 obtain ⟨cur, hg, hb, hnc, hm, hz, ht⟩ := h.cur hn
 refine ⟨by simp, .inr ⟨g, cap, cur.setIfInBounds j (bv x), ?_, hb, ?_, ?_, hm, ?_, ?_⟩⟩
 ·rw [List.length_set, hn]
 ·simp only [World.setCell, Array.getElem?_modify, if_pos, hg]
  simp
 ·rw [List.length_set]; omega
 ·simp [hz]
 ·rw [List.length_set, hn, Nat.mul_one, Array.toList_setIfInBounds, List.take_set, ht, List.map_set]
theorem OB.setInt (h : OB w base (.slice (some ⟨g, 0, none⟩) n cap) l) (hn : l.length = n) (j : Nat) (x : UInt8) (hj : j < n) (v : Int) (hv : v = (x.toNat : Int)) : OB (w.setCell ⟨g, j, none⟩ (.int .u8 v)) base (.slice (some ⟨g, 0, none⟩) n cap) (l.set j x) := by
 subst hv
 exact h.setCell hn j x hj
end
end Go.Proofs.Ytnkeclpgpiogoaa

/-! RdI -/
namespace Go.Proofs.Ytnkeclpgpiogoaa
open Go.RowKit
end Go.Proofs.Ytnkeclpgpiogoaa

/-! RdJ -/
namespace Go.Proofs.Ytnkeclpgpiogoaa
open Go.RowKit
end Go.Proofs.Ytnkeclpgpiogoaa

/-! RdK -/
namespace Go.Proofs.Ytnkeclpgpiogoaa
open Go.RowKit
end Go.Proofs.Ytnkeclpgpiogoaa

/-! RdL -/
namespace Go.Proofs.Ytnkeclpgpiogoaa
open Go.RowKit
end Go.Proofs.Ytnkeclpgpiogoaa

/-! RdM -/
namespace Go.Proofs.Ytnkeclpgpiogoaa
open Go.RowKit
theorem encR_len (r : Rec) : (encR r).length = 4 + (encB r).length := by
 unfold encR
 rw [List.length_append, leB_length]
end Go.Proofs.Ytnkeclpgpiogoaa

/-! Row -/
namespace Go.Proofs.Ytnkeclpgpiogoaa
open Go.ChangeShapes Go.WideShapes Go.ChangeAt Go.RowKit
theorem own : ownKnob Try.prog.godebug = none := by kernel_rfl
theorem laidOut : laidOutB Try.prog = true := by kernel_rfl
section
variable {H : Type} {enc : TypeId × Value → H} {P : Program}
theorem trodAll_stays (hl : laidOutB P = true) {W W' : World} (hb : Below W.heap.size W W') :
  ∀ (ts : List TypeId) (vs : List Value) (ds : List (DataW H)) (ps : List MemPlace), (∀ t ∈ ts, P.readableRec t = true ∧ t < P.types.size) →
   DataW.TrodAll enc P W 0 (fun _ => true) true ts vs ds ps → (∀ x ∈ ps, x.block < W.heap.size) → DataW.TrodAll enc P W' 0 (fun b => decide (b < W.heap.size)) true ts vs ds ps
 | [], [], [], _ => fun _ h _ => h
 | t :: ts, v :: vs, d :: ds, ps => fun hr h hlt => by
  obtain ⟨p, q, h1, h2, rfl⟩ := h
  exact ⟨p, q, Below.trod hl (hr t (List.mem_cons_self ..)).1 (hr t (List.mem_cons_self ..)).2 h1 hb (fun x hx => hlt x (List.mem_append.2 (.inl hx))),
   trodAll_stays hl hb ts vs ds q (fun t ht => hr t (List.mem_cons_of_mem _ ht)) h2 (fun x hx => hlt x (List.mem_append.2 (.inr hx))), rfl⟩
 | [], _ :: _, _, _ => fun _ h _ => by cases h
 | [], [], _ :: _, _ => fun _ h _ => by cases h
 | _ :: _, [], _, _ => fun _ h _ => by cases h
 | _ :: _, _ :: _, [], _ => fun _ h _ => by cases h
theorem law_post {fn : Func} {s : ChangeSpec} {bt : TypeId} (hl : laidOutB P = true) (hrow : ∀ t ∈ fn.params.toList, P.readableRec t = true ∧ t < P.types.size)
  (hres : fn.resultTypes = #[bt]) (hbt : P.underlying bt = some .bool) (hv : s.vars = []) {W W' : World} {args : Array Value} {ds gs : List (DataW H)} {before : List MemPlace}
  (hW : DataW.Whole enc P fn.params.toList s.vars false W args.toList ds gs before) (hs : s.fn H (ds ++ gs) = { results := [.lit (.bool true)], args := ds })
  (hb : Below W.heap.size W W') : s.post enc P fn false true false false W args (.bool true) W' := by
 have hW' := hW
 obtain ⟨p, q, hA, hV, rfl, _, _⟩ := hW
 have hlt : ∀ x ∈ p, x.block < W.heap.size := fun x hx => hW'.lt x (List.mem_append.2 (.inl hx))
 refine ⟨ds, gs, p ++ q, [], p, [], hW', ?_, ?_, ?_, hb.frame _, fun h => by cases h⟩
 ·rw [hs, hres]
  exact trodAll_mk1 (shut_bool hbt _)
 ·rw [hs]
  exact trodAll_stays hl hb _ _ _ _ hrow hA hlt
 ·rw [hs, hv]
  rfl
end
end Go.Proofs.Ytnkeclpgpiogoaa

/-! Opn -/
namespace Go.Proofs.Ytnkeclpgpiogoaa
open Go.ChangeShapes Go.WideShapes Go.ChangeAt Go.RowKit Go.Deep
def Wt {H : Type} (t : TypeId) (d : DataW H) : Prop := ∀ n ∈ d.weights Try.prog t, n ≤ reachBytes
theorem reach_val : reachBytes = 140737488351232 := by decide
section
variable {H : Type} {enc : TypeId × Value → H} {W : World} {base : Nat} {spare : Nat → Bool} {held : Bool}
theorem weights_all {e : TypeId} {l : List (DataW H)} {d : DataW H} (hd : d ∈ l) : ∀ n ∈ d.weights Try.prog e, n ∈ DataW.weightsAll Try.prog e l := by
 induction l with
 | nil => cases hd
 | cons x r ih =>
  intro n hn
  simp only [DataW.weightsAll, List.mem_append]
  rcases List.mem_cons.1 hd with rfl | h
  ·exact .inl hn
  ·exact .inr (ih h n hn)
theorem Wt.slice {t e : TypeId} {l s : List (DataW H)} (h : Wt t (.slice l s)) (ht : Try.prog.underlying t = some (.slice e)) : (l.length + s.length) * Try.prog.bytesOf e ≤ 140737488351232 ∧ ∀ d ∈ l, Wt e d := by
 unfold Wt at h
 simp only [DataW.weights, ht] at h
 refine ⟨?_, fun d hd n hn => h n (List.mem_cons_of_mem _ (List.mem_append.2 (.inl (weights_all hd n hn))))⟩
 have := h _ (List.mem_cons_self ..)
 rw [reach_val] at this
 exact this
end
end Go.Proofs.Ytnkeclpgpiogoaa

/-! OpR -/
namespace Go.Proofs.Ytnkeclpgpiogoaa
open Go.ChangeShapes Go.WideShapes Go.ChangeAt Go.RowKit Go.Deep Go.Joins
section
variable {H : Type} {enc : TypeId × Value → H} {W : World} {base : Nat} {spare : Nat → Bool} {held : Bool}
end
end Go.Proofs.Ytnkeclpgpiogoaa

/-! RdN -/
namespace Go.Proofs.Ytnkeclpgpiogoaa
open Go.ChangeShapes Go.WideShapes Go.ChangeAt Go.RowKit Go.Deep Go.Joins
def VC (w : World) (u : Value) (cs : List Ch) : Prop := ∃ A c, u = .slice A cs.length c ∧ CR w A cs.length cs ∧ cs.length ≤ c ∧ c ≤ maxLen
theorem VC.below {w w' : World} {u : Value} {cs : List Ch} (h : VC w u cs) (hb : Below w.heap.size w w') : VC w' u cs := by
 obtain ⟨A, c, e, h1, h2⟩ := h
 exact ⟨A, c, e, h1.below hb, h2⟩
def RW (w : World) (A : Option Addr) (n : Nat) (rs : List Rec) : Prop :=
 ∃ us : List (Int × Int × Value), Rd w 3 A n (rcs us) ∧ us.length = rs.length ∧ ∀ (i : Nat) (p : Rec) (q : Int × Int × Value), rs[i]? = some p → us[i]? = some q → q.1 = (p.kind : Int) ∧ q.2.1 = p.tx ∧ VC w q.2.2 p.cs
section
variable {w w' : World} {A : Option Addr} {n : Nat} {rs : List Rec}
theorem RW.len (h : RW w A n rs) : rs.length = n := by
 obtain ⟨us, hr, hl, _⟩ := h
 have := hr.1
 rw [rcs_length] at this
 omega
theorem RW.below (h : RW w A n rs) (hb : Below w.heap.size w w') : RW w' A n rs := by
 obtain ⟨us, hr, hl, hv⟩ := h
 exact ⟨us, hr.below hb, hl, fun i p q hp hq => ⟨(hv i p q hp hq).1, (hv i p q hp hq).2.1, (hv i p q hp hq).2.2.below hb⟩⟩
end
section
variable {H : Type} {enc : TypeId × Value → H} {W : World} {base : Nat} {spare : Nat → Bool} {held : Bool}
end
end Go.Proofs.Ytnkeclpgpiogoaa

/-! RdO -/
namespace Go.Proofs.Ytnkeclpgpiogoaa
open Go.RowKit
end Go.Proofs.Ytnkeclpgpiogoaa

/-! RdP -/
namespace Go.Proofs.Ytnkeclpgpiogoaa
open Go.RowKit
def joinE : List Rec → List UInt8
 | [] => []
 | r :: rs => encR r ++ joinE rs
end Go.Proofs.Ytnkeclpgpiogoaa
