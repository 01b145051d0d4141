/-
  Texts of this claim, joined: PoT, Row, OpB, DpL, DpM, DpN, PsA, PsB, PsC, PsD, PsE, PsF. No statement of the program is proved here.
-/
import Derived.Test.YtmdgnjmhbjdlmaaGreatPkA7
import Derived.Test.YtmdgnjmhbjdlmaaGreatPkA4
import Derived.Test.YtmdgnjmhbjdlmaaGreatPkA1
import Derived.ProofKit
import Derived.OpenShut
import Derived.JoinedCond
import Derived.SizedLaws
import Derived.Deep.CondSized
import Derived.Lib.SmallJoins
import Derived.Deep.Grids
import Derived.Test.YtmdgnjmhbjdlmaaGreatPkA5
import Derived.Deep.Slices
/-! PoT -/
namespace Go.Proofs.YtmdgnjmhbjdlmaaGreat
open Go Go.RowKit
theorem holdR_pend (L : Option Int) (D : DiskS) (P : PoS) (f : FrS) : (holdR L D P f).1.pending.length ≤ D.pending.length + 1 ∧ (holdR L D P f).2.1.count ≤ P.count + 1 := by
 have hw := writeR_pend L D (spun P) (spun P).hand
 unfold holdR
 split
 ·exact ⟨Nat.le_succ _, Nat.le_succ _⟩
 ·split
  ·split
   ·exact hw
   ·exact hw
  ·exact ⟨Nat.le_succ _, Nat.le_succ _⟩
theorem getR_pend (L : Option Int) (D : DiskS) (P : PoS) (p : Int) : (getR L D P p).1.pending.length ≤ D.pending.length + 1 ∧ (getR L D P p).2.1.count ≤ P.count + 1 := by
 unfold getR
 split
 ·exact ⟨Nat.le_succ _, Nat.le_succ _⟩
 ·split
  ·exact ⟨Nat.le_succ _, Nat.le_succ _⟩
  ·dsimp only
   split
   ·exact ⟨Nat.le_succ _, Nat.le_succ _⟩
   ·split
    ·exact ⟨Nat.le_succ _, Nat.le_succ _⟩
    ·exact holdR_pend _ _ _ _
theorem setR_pend (L : Option Int) (D : DiskS) (P : PoS) (p : Int) (l : List UInt8) (n : Int) : (setR L D P p l n).1.pending.length ≤ D.pending.length + 1 ∧ (setR L D P p l n).2.1.count ≤ P.count + 1 := by
 unfold setR
 split
 ·exact ⟨Nat.le_succ _, Nat.le_succ _⟩
 ·split
  ·exact ⟨Nat.le_succ _, Nat.le_succ _⟩
  ·exact holdR_pend _ _ _ _
theorem flushF_pend (L : Option Int) : ∀ (l : List Nat) (D : DiskS) (P : PoS), (flushF L l D P).1.pending.length ≤ D.pending.length + l.length ∧ (flushF L l D P).2.1.count ≤ P.count + l.length
 | [], D, P => ⟨Nat.le_refl _, Nat.le_refl _⟩
 | p :: l, D, P => by
  have hw := writeR_pend L D P ((findP P p).getD 0)
  rw [flushF, List.length_cons]
  split
  ·omega
  ·have := flushF_pend L l (writeR L D P ((findP P p).getD 0)).1 (writeR L D P ((findP P p).getD 0)).2.1
   omega
theorem dirtyL_len {D : DiskS} {P : PoS} (h : PI D P) : (dirtyL P).length ≤ 256 := by
 have h1 := heldL_len P h.nd (fun f hf => (h.ok f hf).1)
 have h2 : (dirtyL P).length ≤ (heldL P).length := List.length_filter_le _ _
 have := h.len
 have := h.m2
 omega
theorem flushR_pend (L : Option Int) {D : DiskS} {P : PoS} (h : PI D P) : (flushR L D P).1.pending.length ≤ D.pending.length + 256 ∧ (flushR L D P).2.1.count ≤ P.count + 256 := by
 have h1 := flushF_pend L (dirtyL P) D P
 have h2 := dirtyL_len h
 unfold flushR
 split
 ·omega
 ·refine ⟨?_, by show (flushF L (dirtyL P) D P).2.1.count ≤ _; omega⟩
  show (syncD _).pending.length ≤ _
  unfold syncD opS
  split
  ·show (flushF L (dirtyL P) D P).1.pending.length ≤ _
   omega
  ·exact Nat.zero_le _
def NowM (w : World) (gn k : Nat) (now : Nat → List UInt8) (S : Nat → Prop) : Prop :=
 (∃ arr : Array Value, w.heap[gn]? = some (.cells arr 57 (0, 0)) ∧ arr.size = 8 ∧ ∀ j, j < k → ∃ g, arr[j]? = some (.slice (some ⟨g, 0, none⟩) 4080 4080) ∧ BB w g (now j) ∧ ¬ S g) ∧ ¬ S gn ∧ k ≤ 8
section
variable {w w' : World} {gn k : Nat} {now : Nat → List UInt8} {S S' : Nat → Prop}
theorem NowM.lt (h : NowM w gn k now S) : gn < w.heap.size := by
 obtain ⟨⟨arr, h1, _⟩, _⟩ := h
 exact (Array.getElem?_eq_some_iff.1 h1).1
theorem NowM.mv (h : NowM w gn k now S) (hm : Mv S S' w w') : NowM w' gn k now S' := by
 obtain ⟨⟨arr, h1, h2, h3⟩, h4, h5⟩ := h
 have hlt := (Array.getElem?_eq_some_iff.1 h1).1
 refine ⟨⟨arr, (hm.1.block gn hlt h4).trans h1, h2, fun j hj => ?_⟩, fun e => ?_, h5⟩
 ·obtain ⟨g, e1, e2, e3⟩ := h3 j hj
  refine ⟨g, e1, (hm.1.block g e2.lt e3).trans e2, fun e => ?_⟩
  rcases hm.2 g e with e | e
  ·exact e3 e
  ·have := e2.lt
   omega
 ·rcases hm.2 gn e with e | e
  ·exact h4 e
  ·omega
theorem NowM.below (h : NowM w gn k now S) (hb : Below w.heap.size w w') : NowM w' gn k now S := h.mv (Mv.of_below hb)
end
end Go.Proofs.YtmdgnjmhbjdlmaaGreat

/-! Row -/
namespace Go.Proofs.YtmdgnjmhbjdlmaaGreat
open Go.ChangeShapes Go.WideShapes Go.ChangeAt Go.RowKit
theorem own : ownKnob Tryz.prog.godebug = none := by kernel_rfl
theorem laidOut : laidOutB Tryz.prog = true := by kernel_rfl
section
variable {H : Type} {enc : TypeId × Value → H} {P : Program}
theorem trodAll_stays (hl : laidOutB P = true) {W W' : World} (hb : Below W.heap.size W W') :
  ∀ (ts : List TypeId) (vs : List Value) (ds : List (DataW H)) (ps : List MemPlace), (∀ t ∈ ts, P.readableRec t = true ∧ t < P.types.size) →
   DataW.TrodAll enc P W 0 (fun _ => true) true ts vs ds ps → (∀ x ∈ ps, x.block < W.heap.size) → DataW.TrodAll enc P W' 0 (fun b => decide (b < W.heap.size)) true ts vs ds ps
 | [], [], [], _ => fun _ h _ => h
 | t :: ts, v :: vs, d :: ds, ps => fun hr h hlt => by
  obtain ⟨p, q, h1, h2, rfl⟩ := h
  exact ⟨p, q, Below.trod hl (hr t (List.mem_cons_self ..)).1 (hr t (List.mem_cons_self ..)).2 h1 hb (fun x hx => hlt x (List.mem_append.2 (.inl hx))),
   trodAll_stays hl hb ts vs ds q (fun t ht => hr t (List.mem_cons_of_mem _ ht)) h2 (fun x hx => hlt x (List.mem_append.2 (.inr hx))), rfl⟩
 | [], _ :: _, _, _ => fun _ h _ => by cases h
 | [], [], _ :: _, _ => fun _ h _ => by cases h
 | _ :: _, [], _, _ => fun _ h _ => by cases h
 | _ :: _, _ :: _, [], _ => fun _ h _ => by cases h
theorem law_post {fn : Func} {s : ChangeSpec} {bt : TypeId} (hl : laidOutB P = true) (hrow : ∀ t ∈ fn.params.toList, P.readableRec t = true ∧ t < P.types.size)
  (hres : fn.resultTypes = #[bt]) (hbt : P.underlying bt = some .bool) (hv : s.vars = []) {W W' : World} {args : Array Value} {ds gs : List (DataW H)} {before : List MemPlace}
  (hW : DataW.Whole enc P fn.params.toList s.vars false W args.toList ds gs before) (hs : s.fn H (ds ++ gs) = { results := [.lit (.bool true)], args := ds })
  (hb : Below W.heap.size W W') : s.post enc P fn false true false false W args (.bool true) W' := by
 have hW' := hW
 obtain ⟨p, q, hA, hV, rfl, _, _⟩ := hW
 have hlt : ∀ x ∈ p, x.block < W.heap.size := fun x hx => hW'.lt x (List.mem_append.2 (.inl hx))
 refine ⟨ds, gs, p ++ q, [], p, [], hW', ?_, ?_, ?_, hb.frame _, fun h => by cases h⟩
 ·rw [hs, hres]
  exact trodAll_mk1 (shut_bool hbt _)
 ·rw [hs]
  exact trodAll_stays hl hb _ _ _ _ hrow hA hlt
 ·rw [hs, hv]
  rfl
end
theorem cells_u8 : Tryz.prog.cellsOf 5 = 1 := by kernel_rfl
theorem bytes_u8 : Tryz.prog.bytesOf 5 = 1 := by kernel_rfl
end Go.Proofs.YtmdgnjmhbjdlmaaGreat

/-! OpB -/
namespace Go.Proofs.YtmdgnjmhbjdlmaaGreat
open Go.ChangeShapes Go.WideShapes Go.ChangeAt Go.RowKit Go.Deep Go.Joins
def Wt {H : Type} (t : TypeId) (d : DataW H) : Prop := ∀ n ∈ d.weights Tryz.prog t, n ≤ reachBytes
theorem reach_val : reachBytes = 140737488351232 := by decide
section
variable {H : Type} {enc : TypeId × Value → H} {W : World} {base : Nat} {spare : Nat → Bool} {held : Bool}
theorem Wt.of_each {ts : List TypeId} {ds : List (DataW H)} {j : Nat} {t : TypeId} {d : DataW H} (hz : (DataW.weightsEach Tryz.prog ts ds).all (· ≤ reachBytes) = true) (ht : ts[j]? = some t) (hd : ds[j]? = some d) : Wt t d :=
 fun n hn => by simpa using List.all_eq_true.1 hz n (DataW.weights_mem_each ht hd n hn)
theorem weights_all {e : TypeId} {l : List (DataW H)} {d : DataW H} (hd : d ∈ l) : ∀ n ∈ d.weights Tryz.prog e, n ∈ DataW.weightsAll Tryz.prog e l := by
 induction l with
 | nil => cases hd
 | cons x r ih =>
  intro n hn
  simp only [DataW.weightsAll, List.mem_append]
  rcases List.mem_cons.1 hd with rfl | h
  ·exact .inl hn
  ·exact .inr (ih h n hn)
theorem Wt.slice {t e : TypeId} {l s : List (DataW H)} (h : Wt t (.slice l s)) (ht : Tryz.prog.underlying t = some (.slice e)) : (l.length + s.length) * Tryz.prog.bytesOf e ≤ 140737488351232 ∧ ∀ d ∈ l, Wt e d := by
 unfold Wt at h
 simp only [DataW.weights, ht] at h
 refine ⟨?_, fun d hd n hn => h n (List.mem_cons_of_mem _ (List.mem_append.2 (.inl (weights_all hd n hn))))⟩
 have := h _ (List.mem_cons_self ..)
 rw [reach_val] at this
 exact this
theorem Wt.agg {t : TypeId} {fs : Array Field} {l : List (DataW H)} (h : Wt t (.agg l)) (ht : Tryz.prog.underlying t = some (.struct fs)) {j : Nat} {f : Field} {d : DataW H} (hf : fs[j]? = some f) (hd : l[j]? = some d) : Wt f.type d := by
 intro n hn
 refine h n ?_
 simp only [DataW.weights, ht]
 exact DataW.weights_mem_each (j := j) (t := f.type) (by simp [hf]) hd n hn
theorem op_bytes {fuel : Nat} {cs : List Value} {x : DataW H × List MemPlace} (h : DataW.trod enc Tryz.prog W base spare held fuel 57 cs = some x) (hw : Wt 57 x.1) (hsp : ∀ k, spare k = true) :
  ∃ A n c l, cs = [.slice A n c] ∧ BR W A n l ∧ n ≤ c ∧ c ≤ 140737488351232 := by
 rcases open_ints Tryz.underlying57 Tryz.underlying5 cells_u8 h with ⟨rfl, rfl⟩ | ⟨a, n, c, zs, rfl, _, hl, hm, hz, rfl, hcell, hwz⟩
 ·exact ⟨none, 0, 0, [], rfl, BR.none_ _ _, Nat.le_refl _, by omega⟩
 ·have hc := (Wt.slice hw Tryz.underlying57).1
  rw [bytes_u8] at hc
  rw [hsp] at hz
  simp only [if_true] at hz
  simp only [lits, List.length_map, List.length_take, List.length_drop] at hc
  refine ⟨some a, n, c, (zs.take n).map fun z => UInt8.ofNat z.toNat, rfl, ⟨by simp; omega, fun _ => ⟨a, rfl, fun j u hu => ?_⟩⟩, hl, by omega⟩
  have hj : j < n := by
   rcases Nat.lt_or_ge j n with h | h
   ·exact h
   ·rw [List.getElem?_eq_none (by simp; omega)] at hu
    cases hu
  have hjz : j < zs.length := by omega
  rw [hcell j hjz]
  have hr := bounds_u8 (hwz zs[j] (List.getElem_mem hjz))
  simp [hj, List.getElem?_eq_getElem hjz, bv] at hu
  rw [← hu]
  simp [List.getD, List.getElem?_eq_getElem hjz]
  omega
theorem cells_int : Tryz.prog.cellsOf 3 = 1 := by kernel_rfl
theorem cells_bool : Tryz.prog.cellsOf 4 = 1 := by kernel_rfl
theorem bytes_bool : Tryz.prog.bytesOf 4 = 1 := by kernel_rfl
theorem cells_crash : Tryz.prog.cellsOf 47 = 3 := by kernel_rfl
theorem op_bools {fuel : Nat} {cs : List Value} {x : DataW H × List MemPlace} (h : DataW.trod enc Tryz.prog W base (fun _ => true) held fuel 45 cs = some x) (hw : Wt 45 x.1) :
  ∃ A n c l, cs = [.slice A n c] ∧ LR W A n l ∧ n ≤ c ∧ c ≤ 140737488351232 := by
 rcases open_bools Tryz.underlying45 Tryz.underlying4 cells_bool h with ⟨rfl, rfl⟩ | ⟨a, n, c, B, rfl, _, hl, hm, rfl, hcell⟩
 ·exact ⟨none, 0, 0, [], rfl, ⟨rfl, fun h => absurd h (by omega)⟩, Nat.le_refl _, by omega⟩
 ·have hc := (Wt.slice hw Tryz.underlying45).1
  rw [bytes_bool] at hc
  simp only [List.length_map, List.length_range] at hc
  refine ⟨some a, n, c, (List.range n).map B, rfl, ⟨by simp, fun _ => ⟨a, rfl, fun j u hu => ?_⟩⟩, hl, by omega⟩
  have hj : j < n := by
   rcases Nat.lt_or_ge j n with h | h
   ·exact h
   ·rw [List.getElem?_eq_none (by simp; omega)] at hu
    cases hu
  rw [hcell j (by omega)]
  simp [hj] at hu
  rw [← hu]
end
end Go.Proofs.YtmdgnjmhbjdlmaaGreat

/-! DpL -/
namespace Go.Proofs.YtmdgnjmhbjdlmaaGreat
open Go Go.RowKit
section
variable {w w1 w2 w2b w3 wf : World} {base g : Nat} {F G : Nat → Prop} {D D' : DiskS} {v v' : Value} {ok : Nat → Prop}
end
theorem crashD_len (D : DiskS) (keep : List Bool) (torn cut : Int) : (crashD D keep torn cut).blocks.length = D.blocks.length ∧ (crashD D keep torn cut).pending.length ≤ D.pending.length + 1 := by
 unfold crashD
 split
 ·exact ⟨rfl, Nat.le_succ _⟩
 ·exact ⟨crashTo_len _ _ _ _ _ _, Nat.zero_le _⟩
theorem armD_len (D : DiskS) (n : Int) : (armD D n).blocks.length = D.blocks.length ∧ (armD D n).pending.length ≤ D.pending.length + 1 := by
 unfold armD
 split <;> exact ⟨rfl, Nat.le_succ _⟩
theorem failD_len (D : DiskS) (n e : Int) : (failD D n e).blocks.length = D.blocks.length ∧ (failD D n e).pending.length ≤ D.pending.length + 1 := by
 unfold failD
 split <;> exact ⟨rfl, Nat.le_succ _⟩
end Go.Proofs.YtmdgnjmhbjdlmaaGreat

/-! DpM -/
namespace Go.Proofs.YtmdgnjmhbjdlmaaGreat
open Go Go.RowKit
end Go.Proofs.YtmdgnjmhbjdlmaaGreat

/-! DpN -/
namespace Go.Proofs.YtmdgnjmhbjdlmaaGreat
open Go Go.RowKit
set_option maxRecDepth 100000 in
set_option maxHeartbeats 1000000 in
theorem OverBytes_any (g n c : Nat) (cs0 : Array Value) (w : World) (hh : w.heap[g]? = some (.cells cs0 5 (0, 0))) (hs : n + 3 ≤ cs0.size) (hc : n + 3 ≤ c) (hcm : c ≤ maxLen) :
  Calls Tryz.prog 32 #[.slice (some ⟨g, 0, none⟩) n c] w fun e w' => e = .returned (.tuple #[]) ∧ Off (· = g) w w' := by
 obtain ⟨i0, hi0, hz0, hz1, hz2⟩ := info_parts info_u8
 obtain ⟨m, hm⟩ : ∃ m, m = n + 3 := ⟨_, rfl⟩
 have hcut := fun W => run_cut_h (P := Tryz.prog) W 57 5 i0 Tryz.underlying57 hi0 1 hz1 (some ⟨g, 0, none⟩) n c ((n : Int) + 3) m (by omega) (by omega)
 have HH : Hid (∃ cs, w.heap[g]? = some (.cells cs 5 (0, 0)) ∧ m ≤ cs.size ∧ Off (· = g) w w) := Lib.hid ⟨cs0, hh, by omega, Off.refl _ _⟩
 have hcm' : c ≤ 9223372036854775807 := by simpa [maxLen] using hcm
 have hnc : n ≤ 9223372036854775804 := by omega
 clear hh hs
 go_enter Tryz.func32, Tryz.ntmps32
 go_wp2_with fail
 go_loopw [3] (fun i wr => ∃ (j : Nat), j ≤ m ∧ i = .int .i64 (j : Int) ∧ Hid (∃ cs, wr.heap[g]? = some (.cells cs 5 (0, 0)) ∧ m ≤ cs.size ∧ Off (· = g) w wr)) (fun i _ => m - (intOf i).toNat)
 case atStart => exact ⟨0, Nat.zero_le _, rfl, HH⟩
 case round =>
  clear HH
  obtain ⟨j, hj, rfl, HJ⟩ := hrel
  by_cases hlt : j < m
  ·have t1 : decide ((j : Int) < (m : Int)) = true := decide_eq_true (by omega)
   have t1' : decide (j < m) = true := decide_eq_true hlt
   have j0 : (0 : Int) ≤ (j : Int) := Int.natCast_nonneg _
   have j1 : (j : Int) < (m : Int) := by omega
   obtain ⟨cs, h1, h2, h3⟩ := HJ.out
   obtain ⟨u0, y1⟩ : ∃ u, wr.cell? ⟨g, j, none⟩ = some u := ⟨cs[j]'(by omega), by rw [cell_of_row wr g j _ _ _ h1, Array.getElem?_eq_getElem (by omega)]⟩
   have f1 : wr.frozen? ⟨g, j, none⟩ = false := by simp [World.frozen?, h1]
   have HN : Hid (∀ u, ∃ cs, (wr.setCell ⟨g, j, none⟩ u).heap[g]? = some (.cells cs 5 (0, 0)) ∧ m ≤ cs.size ∧ Off (· = g) w (wr.setCell ⟨g, j, none⟩ u)) := Lib.hid (fun u => ⟨cs.setIfInBounds j u, by
    simp only [World.setCell, Array.getElem?_modify, if_pos, h1]
    simp, by simpa using h2, h3.setCell _ rfl⟩)
   clear h1 h2 h3 HJ
   go_wp2_with fail
   refine (markByte_any 9 j wr).mono ?_
   rintro e w2 ⟨rfl, rfl⟩
   go_wp2_with fail
   go_roundw
   case rel => exact ⟨j + 1, by omega, by go_num, Lib.hid (HN.out _)⟩
   case measure => simp [intOf]; omega
  ·obtain rfl : j = m := by omega
   have t1 : decide ((j : Int) < (j : Int)) = false := decide_eq_false (by omega)
   obtain ⟨cs, h1, h2, h3⟩ := HJ.out
   have HO := Lib.hid h3
   clear h1 h2 h3 HJ
   go_wp2_with fail
   go_end0
   exact ⟨rfl, HO.out⟩
end Go.Proofs.YtmdgnjmhbjdlmaaGreat

/-! PsA -/
namespace Go.Proofs.YtmdgnjmhbjdlmaaGreat
open Go Go.RowKit Go.Maps
theorem run_enter {P : Program} {f : FuncId} {fn : Func} {c : Code} (hf : P.funcs[f]? = some fn) (hname : (fn.name == "runtime.NumGoroutine") = false) (hb : fn.body = some c) (args : Array Value) (w : World) : (callFunc f args).run P w = .ok (.enter f args) w := by
 have h1 : fn.name ≠ "runtime.NumGoroutine" := by simpa using hname
 simp [callFunc, hf, h1, hb]
set_option maxRecDepth 100000 in
theorem wal_enter (args : Array Value) (w : World) : (callFunc 7 args).run Tryz.prog w = .ok (.enter 7 args) w :=
 run_enter (fn := Tryz.f7) rfl (by kernel_rfl) rfl args w
theorem wal_any {w : World} {gl : Nat} {s : Int} (hc : w.cell? ⟨gl, 0, none⟩ = some (.int .i64 s)) (n : Int) :
  Calls Tryz.prog 7 #[.int .i64 n, .pointer (some ⟨gl, 0, none⟩)] w fun e w' => e = .returned (.int .i64 (asksE (some s) n)) ∧ w = w' := by
 by_cases hlt : s < n
 ·have t1 : decide (n > s) = true := decide_eq_true hlt
  have t2 : decide (s < n) = true := decide_eq_true hlt
  have e : asksE (some s) n = 4 := if_pos hlt
  rw [e]
  go_enter Tryz.func7, Tryz.ntmps7
  go_wp2_with fail
  go_ret
  exact ⟨rfl, rfl⟩
 ·have t1 : decide (n > s) = false := decide_eq_false hlt
  have t2 : decide (s < n) = false := decide_eq_false hlt
  have e : asksE (some s) n = 0 := if_neg hlt
  rw [e]
  go_enter Tryz.func7, Tryz.ntmps7
  go_wp2_with fail
  go_ret
  exact ⟨rfl, rfl⟩
def walP (gl : Nat) : Value := .func (.func 7) #[] #[.pointer (some ⟨gl, 0, none⟩)]
def BoxI (w : World) (gl : Nat) (s : Int) : Prop := w.heap[gl]? = some (.cells #[.int .i64 s] 3 (0, 0))
section
variable {w w' : World} {gl : Nat} {s : Int}
theorem BoxI.lv (h : BoxI w gl s) {S : Nat → Prop} (hS : ¬ S gl) : LogV w (walP gl) (some s) S := by
 refine .inr ⟨_, _, s, rfl, rfl, wal_enter, fun n W _ ho => wal_any ?_ n⟩
 rw [cell_of_row W gl 0 _ _ _ ((ho.block gl (Array.getElem?_eq_some_iff.1 h).1 hS).trans h)]
 rfl
theorem BoxI.lt (h : BoxI w gl s) : gl < w.heap.size := (Array.getElem?_eq_some_iff.1 h).1
theorem BoxI.c0 (h : BoxI w gl s) : w.cell? ⟨gl, 0, none⟩ = some (.int .i64 s) := by rw [cell_of_row w gl 0 _ _ _ h]; rfl
theorem BoxI.fz (h : BoxI w gl s) : w.frozen? ⟨gl, 0, none⟩ = false := by unfold BoxI at h; simp [World.frozen?, h]
theorem BoxI.off {T : Nat → Prop} (h : BoxI w gl s) (ho : Off T w w') (hT : ¬ T gl) : BoxI w' gl s := (ho.block gl h.lt hT).trans h
theorem BoxI.set (h : BoxI w gl s) (x : Int) : BoxI (w.setCell ⟨gl, 0, none⟩ (.int .i64 x)) gl x := by
 unfold BoxI at h ⊢
 simp only [World.setCell, Array.getElem?_modify, if_pos, h]
 rfl
end
theorem PJ.relog {T : Nat → Prop} {w0 w w' : World} {gd gp : Nat} {wv : Value} {L L' : Option Int} {D : DiskS} {P : PoS} {S : Nat → Prop} (h : PJ w0 w gd gp wv L D P S) (ho : Off T w w') (hT : ∀ k, S k → ¬ T k) (hb : ∀ k, T k → w0.heap.size ≤ k) (hl : LogV w' wv L' S) : PJ w0 w' gd gp wv L' D P S := by
 obtain ⟨F, ok, tv, mb, q, hx, hs⟩ := h.ex
 exact ⟨h.bel.trans (ho.below hb h.bel.size), ⟨F, ok, tv, mb, q, hx.off ho (fun k e => hT k ((hs k).2 e)), hs⟩, h.sb, hl⟩
theorem PJ.disk_ {w0 w w' : World} {gd gp : Nat} {wv : Value} {L : Option Int} {D D' : DiskS} {P : PoS} {S F ok : Nat → Prop} {tv : Value} {mb : Nat} {q : List FV} (h : PJ w0 w gd gp wv L D P S) (hx : PX w w0.heap.size gp gd wv D P F ok tv mb q) (hs : ∀ k, S k ↔ PS gp F ok tv mb q k) (hp : DPost w ok w0.heap.size gd F D' w') (hl : D'.blocks.length = D.blocks.length) : ∃ S', PJ w0 w' gd gp wv L D' P S' ∧ Mv S S' w w' := by
 obtain ⟨F', ok', h1, h2, h3⟩ := hx.disk hp hl
 have := h.next h1 (h2.mono fun k _ e => (hs k).2 e) (fun k e => (h3 k e).imp (hs k).2 id)
 exact ⟨_, this.1, this.2⟩
section
variable {w0 w w' : World} {gd gp : Nat} {wv : Value} {L : Option Int} {D D' : DiskS} {P P' : PoS} {S S' : Nat → Prop}
theorem Arm_pj (h : PJ w0 w gd gp wv L D P S) (n : Int) (hn : n ≤ 9223372036854775807) :
  Calls Tryz.prog 35 #[.pointer (some ⟨gd, 0, none⟩), .int .i64 n] w fun e w' => e = .returned (.int .i64 (armE n)) ∧ ∃ S', PJ w0 w' gd gp wv L (armD D n) P S' ∧ Mv S S' w w' := by
 obtain ⟨F, ok, tv, mb, q, hx, hs⟩ := h.ex
 refine (Arm_any w ok _ gd F D n hx.dk hn).mono ?_
 rintro e w' ⟨rfl, hp⟩
 exact ⟨rfl, h.disk_ hx hs hp (armD_len D n).1⟩
theorem Fail_pj (h : PJ w0 w gd gp wv L D P S) (n er : Int) (hn : n ≤ 9223372036854775807) :
  Calls Tryz.prog 37 #[.pointer (some ⟨gd, 0, none⟩), .int .i64 n, .int .i64 er] w fun e w' => e = .returned (.int .i64 (failE n er)) ∧ ∃ S', PJ w0 w' gd gp wv L (failD D n er) P S' ∧ Mv S S' w w' := by
 obtain ⟨F, ok, tv, mb, q, hx, hs⟩ := h.ex
 refine (Fail_any w ok _ gd F D n er hx.dk hn).mono ?_
 rintro e w' ⟨rfl, hp⟩
 exact ⟨rfl, h.disk_ hx hs hp (failD_len D n er).1⟩
theorem Crash_pj (h : PJ w0 w gd gp wv L D P S) (K : Option Addr) (nk ck : Nat) (keep : List Bool) (torn cut : Int) (hK : LR w K nk keep) (hA : ∀ ad, K = some ad → 0 < nk → ¬ S ad.block) (hnk : nk ≤ 9223372036854775807) (hpl : D.pending.length ≤ 1000000) :
  Calls Tryz.prog 39 #[.pointer (some ⟨gd, 0, none⟩), .agg #[.slice K nk ck, .int .i64 torn, .int .i64 cut]] w fun e w' => e = .returned (.int .i64 (crashE cut)) ∧ ∃ S', PJ w0 w' gd gp wv L (crashD D keep torn cut) P S' ∧ Mv S S' w w' := by
 obtain ⟨F, ok, tv, mb, q, hx, hs⟩ := h.ex
 refine (Crash_any w ok _ gd F D K nk ck keep torn cut hx.dk hK (fun ad e h0 hf => hA ad e h0 ((hs _).2 (.inl hf))) hnk hpl).mono ?_
 rintro e w' ⟨rfl, hp⟩
 exact ⟨rfl, h.disk_ hx hs hp (crashD_len D keep torn cut).1⟩
end
theorem DN.hold {D : DiskS} (h : DN D) (L : Option Int) (P : PoS) (f : FrS) : DN (holdR L D P f).1 := by
 unfold holdR
 split
 ·exact h
 ·split
  ·split
   ·exact h.writeR _ _ _
   ·exact h.writeR _ _ _
  ·exact h
theorem DN.get {D : DiskS} (h : DN D) (L : Option Int) (P : PoS) (p : Int) : DN (getR L D P p).1 := by
 unfold getR
 split
 ·exact h
 ·split
  ·exact h
  ·dsimp only
   split
   ·exact h
   ·split
    ·exact h
    ·exact h.hold _ _ _
theorem DN.set {D : DiskS} (h : DN D) (L : Option Int) (P : PoS) (p : Int) (l : List UInt8) (n : Int) : DN (setR L D P p l n).1 := by
 unfold setR
 split
 ·exact h
 ·split
  ·exact h
  ·exact h.hold _ _ _
theorem DN.flushF (L : Option Int) : ∀ (ks : List Nat) {D : DiskS} (_ : DN D) (P : PoS), DN (flushF L ks D P).1
 | [], _, h, _ => h
 | k :: ks, D, h, P => by
  rw [flushF_cons]
  split
  ·exact h.writeR _ _ _
  ·exact DN.flushF L ks (h.writeR _ _ _) _
theorem DN.sync {D : DiskS} (h : DN D) : DN (syncD D) := by
 have hl := syncD_blocks D
 refine ⟨?_, ?_, ?_, ?_, by rw [hl]; exact h.bl⟩ <;> unfold syncD <;> split
 ·exact h.op.p1
 ·exact h.op.p1
 ·exact h.op.p2
 ·exact h.op.p2
 ·exact h.op.f1
 ·exact h.op.f1
 ·exact h.op.f2
 ·exact h.op.f2
theorem DN.flush {D : DiskS} (h : DN D) (L : Option Int) (P : PoS) : DN (flushR L D P).1 := by
 unfold flushR
 split
 ·exact DN.flushF L _ h P
 ·exact (DN.flushF L _ h P).sync
theorem DN.arm {D : DiskS} (h : DN D) {n : Int} (hn : n ≤ 9223372036854775807) : DN (armD D n) := by
 unfold armD
 split
 ·exact h
 ·exact ⟨by dsimp only; omega, hn, h.f1, h.f2, h.bl⟩
theorem DN.fail {D : DiskS} (h : DN D) {n : Int} (e : Int) (hn : n ≤ 9223372036854775807) : DN (failD D n e) := by
 unfold failD
 split
 ·exact h
 ·exact ⟨h.p1, h.p2, by dsimp only; omega, hn, h.bl⟩
theorem DN.crash {D : DiskS} (h : DN D) (keep : List Bool) (torn cut : Int) : DN (crashD D keep torn cut) := by
 have hl := (crashD_len D keep torn cut).1
 refine ⟨?_, ?_, ?_, ?_, by rw [hl]; exact h.bl⟩ <;> unfold crashD <;> split
 ·exact h.p1
 ·exact Int.le_refl _
 ·exact h.p2
 ·show (-1 : Int) ≤ _; omega
 ·exact h.f1
 ·exact Int.le_refl _
 ·exact h.f2
 ·show (-1 : Int) ≤ _; omega
structure QS (w0 w : World) (gd gp gl : Nat) (v : Value) (lim : Int) (G : Nat → Prop) (D : DiskS) (P : PoS) (S : Nat → Prop) : Prop where
 pj : PJ w0 w gd gp (walP gl) (some lim) D P S
 rp : RP G w v D P lim
 bx : BoxI w gl lim
 bn : ¬ S gl
 bg : ¬ G gl
 bb : w0.heap.size ≤ gl
 sg : ∀ k, S k → ¬ G k
 gw : ∀ k, G k → w0.heap.size ≤ k ∧ k < w.heap.size
 dn : DN D
section
variable {w0 w w1 w2 w3 w4 w' : World} {gd gp gl : Nat} {v v' : Value} {lim : Int} {G S S2 T : Nat → Prop} {D D' : DiskS} {P P' : PoS}
theorem QS.below (h : QS w0 w gd gp gl v lim G D P S) (hb : Below w.heap.size w w') : QS w0 w' gd gp gl v lim G D P S :=
 ⟨h.pj.below hb, h.rp.below hb, (hb.block _ h.bx.lt).trans h.bx, h.bn, h.bg, h.bb, h.sg, fun k e => ⟨(h.gw k e).1, Nat.lt_of_lt_of_le (h.gw k e).2 hb.size⟩, h.dn⟩
theorem QS.step (h : QS w0 w gd gp gl v lim G D P S) (hb1 : Below w.heap.size w w1) (hj : PJ w0 w2 gd gp (walP gl) (some lim) D' P' S2) (hm : Mv S S2 w1 w2) (hr : RP (plusG G w2 w3) w3 v' D' P' lim) (hb3 : Below w2.heap.size w2 w3) (ho : Off T w3 w4) (hT : ∀ k, T k → w.heap.size ≤ k ∧ ¬ S2 k ∧ ¬ plusG G w2 w3 k) (hdn : DN D') :
  QS w0 w4 gd gp gl v' lim (plusG G w2 w3) D' P' S2 ∧ Mv S S2 w w4 ∧ ∀ k, plusG G w2 w3 k → G k ∨ w.heap.size ≤ k := by
 have hgl := h.bx.lt
 have h1 := hb1.size
 have h2 := hm.1.size
 have h3 := hb3.size
 have h4 := ho.size
 have hw0 := h.pj.bel.size
 have hS2 : ∀ k, S2 k → S k ∨ w1.heap.size ≤ k := hm.2
 have hbn2 : ¬ S2 gl := fun e => by
  rcases hS2 gl e with e | e
  ·exact h.bn e
  ·omega
 have hbx1 : BoxI w1 gl lim := (hb1.block _ hgl).trans h.bx
 have hbx2 : BoxI w2 gl lim := hbx1.off hm.1 h.bn
 have hbx3 : BoxI w3 gl lim := (hb3.block _ hbx2.lt).trans hbx2
 have hbx4 : BoxI w4 gl lim := hbx3.off ho (fun e => by have := (hT gl e).1; omega)
 have hj3 := hj.below hb3
 refine ⟨⟨?_, hr.off ho (fun k e => (hT k e).2.2), hbx4, hbn2, ?_, h.bb, ?_, ?_, hdn⟩, ⟨?_, fun k e => ?_⟩, fun k e => ?_⟩
 ·exact hj3.relog ho (fun k e ht => (hT k ht).2.1 e) (fun k e => by have := (hT k e).1; omega) (hbx4.lv hbn2)
 ·rintro (e | e)
  ·exact h.bg e
  ·omega
 ·rintro k e (eg | eg)
  ·rcases hS2 k e with e' | e'
   ·exact h.sg k e' eg
   ·have := (h.gw k eg).2; omega
  ·have := hj.lt e; omega
 ·rintro k (e | e)
  ·have := h.gw k e; exact ⟨this.1, by omega⟩
  ·exact ⟨by omega, by omega⟩
 ·have o1 : Off S w w1 := Off.of_below hb1
  have o2 : Off S w w2 := o1.trans hm.1
  have o3 : Off S w w3 := o2.trans (Off.of_below hb3)
  have o4 : Off (fun k => S k ∨ T k) w w4 := (o3.mono (fun k _ e => .inl e)).trans (ho.mono (fun k _ e => .inr e))
  exact o4.mono (fun k hk e => e.resolve_right (fun e => by have := (hT k e).1; omega))
 ·rcases hS2 k e with e | e
  ·exact .inl e
  ·exact .inr (by omega)
 ·rcases e with e | e
  ·exact .inl e
  ·exact .inr (by omega)
end
end Go.Proofs.YtmdgnjmhbjdlmaaGreat

/-! PsB -/
namespace Go.Proofs.YtmdgnjmhbjdlmaaGreat
open Go Go.RowKit
def O9 (w : World) (g : Nat) (x0 x1 x2 x3 x4 x5 x6 x7 x8 : Value) : Prop := w.heap[g]? = some (.cells #[x0, x1, x2, x3, x4, x5, x6, x7, x8] 49 (0, 0))
section
variable {w w' : World} {g : Nat} {x0 x1 x2 x3 x4 x5 x6 x7 x8 : Value}
theorem O9.new (w : World) (x0 x1 x2 x3 x4 x5 x6 x7 x8 : Value) : O9 (w.alloc (.cells #[x0, x1, x2, x3, x4, x5, x6, x7, x8] 49)) w.heap.size x0 x1 x2 x3 x4 x5 x6 x7 x8 := heap_alloc_new w _
theorem O9.below (h : O9 w g x0 x1 x2 x3 x4 x5 x6 x7 x8) (hb : Below w.heap.size w w') : O9 w' g x0 x1 x2 x3 x4 x5 x6 x7 x8 := (hb.block _ (Array.getElem?_eq_some_iff.1 h).1).trans h
theorem O9.off {S : Nat → Prop} (h : O9 w g x0 x1 x2 x3 x4 x5 x6 x7 x8) (ho : Off S w w') (hg : ¬ S g) : O9 w' g x0 x1 x2 x3 x4 x5 x6 x7 x8 := (ho.block g (Array.getElem?_eq_some_iff.1 h).1 hg).trans h
theorem O9.c0 (h : O9 w g x0 x1 x2 x3 x4 x5 x6 x7 x8) : w.cell? ⟨g, 0, none⟩ = some x0 := by rw [cell_of_row w g 0 _ _ _ h]; rfl
theorem O9.c1 (h : O9 w g x0 x1 x2 x3 x4 x5 x6 x7 x8) : w.cell? ⟨g, 1, none⟩ = some x1 := by rw [cell_of_row w g 1 _ _ _ h]; rfl
theorem O9.c2 (h : O9 w g x0 x1 x2 x3 x4 x5 x6 x7 x8) : w.cell? ⟨g, 2, none⟩ = some x2 := by rw [cell_of_row w g 2 _ _ _ h]; rfl
theorem O9.c3 (h : O9 w g x0 x1 x2 x3 x4 x5 x6 x7 x8) : w.cell? ⟨g, 3, none⟩ = some x3 := by rw [cell_of_row w g 3 _ _ _ h]; rfl
theorem O9.c4 (h : O9 w g x0 x1 x2 x3 x4 x5 x6 x7 x8) : w.cell? ⟨g, 4, none⟩ = some x4 := by rw [cell_of_row w g 4 _ _ _ h]; rfl
theorem O9.c5 (h : O9 w g x0 x1 x2 x3 x4 x5 x6 x7 x8) : w.cell? ⟨g, 5, none⟩ = some x5 := by rw [cell_of_row w g 5 _ _ _ h]; rfl
theorem O9.c6 (h : O9 w g x0 x1 x2 x3 x4 x5 x6 x7 x8) : w.cell? ⟨g, 6, none⟩ = some x6 := by rw [cell_of_row w g 6 _ _ _ h]; rfl
theorem O9.c7 (h : O9 w g x0 x1 x2 x3 x4 x5 x6 x7 x8) : w.cell? ⟨g, 7, none⟩ = some x7 := by rw [cell_of_row w g 7 _ _ _ h]; rfl
theorem O9.c8 (h : O9 w g x0 x1 x2 x3 x4 x5 x6 x7 x8) : w.cell? ⟨g, 8, none⟩ = some x8 := by rw [cell_of_row w g 8 _ _ _ h]; rfl
end
theorem threeQ (w : World) (x0 x1 x2 x3 x4 x5 x6 x7 x8 x9 x10 x11 x12 x13 y0 y1 y2 y3 y4 y5 y6 y7 y8 : Value) : ∀ w1, w1 = ((w.alloc (.cells #[x0, x1, x2, x3, x4, x5, x6, x7, x8, x9, x10, x11, x12, x13] 42)).alloc (.cells #[y0, y1, y2, y3, y4, y5, y6, y7, y8] 49)).alloc (.cells #[.slice none 0 0, .slice none 0 0, .bool false, .int .i64 0, .int .i64 0, .int .i64 0, .int .i64 0, .int .i64 0, .int .i64 0, .int .i64 0, .int .i64 0, .int .i64 0, .slice none 0 0, .int .i64 0] 42) →
  B14 w1 w.heap.size x0 x1 x2 x3 x4 x5 x6 x7 x8 x9 x10 x11 x12 x13 ∧ O9 w1 (w.heap.size + 1) y0 y1 y2 y3 y4 y5 y6 y7 y8 ∧ B14 w1 (w.heap.size + 2) (.slice none 0 0) (.slice none 0 0) (.bool false) (.int .i64 0) (.int .i64 0) (.int .i64 0) (.int .i64 0) (.int .i64 0) (.int .i64 0) (.int .i64 0) (.int .i64 0) (.int .i64 0) (.slice none 0 0) (.int .i64 0) ∧ Below w.heap.size w w1 ∧ w1.heap.size = w.heap.size + 3 := by
 rintro w1 rfl
 have h := B14.new w x0 x1 x2 x3 x4 x5 x6 x7 x8 x9 x10 x11 x12 x13
 have hb := gr_alloc (gr_refl w) (.cells #[x0, x1, x2, x3, x4, x5, x6, x7, x8, x9, x10, x11, x12, x13] 42)
 have hs : (w.alloc (.cells #[x0, x1, x2, x3, x4, x5, x6, x7, x8, x9, x10, x11, x12, x13] 42)).heap.size = w.heap.size + 1 := World.size_alloc _ _
 generalize w.alloc (.cells #[x0, x1, x2, x3, x4, x5, x6, x7, x8, x9, x10, x11, x12, x13] 42) = w2 at *
 have h2 := O9.new w2 y0 y1 y2 y3 y4 y5 y6 y7 y8
 have hb2 := gr_alloc (gr_refl w2) (.cells #[y0, y1, y2, y3, y4, y5, y6, y7, y8] 49)
 have hs2 : (w2.alloc (.cells #[y0, y1, y2, y3, y4, y5, y6, y7, y8] 49)).heap.size = w.heap.size + 2 := by rw [World.size_alloc, hs]
 rw [hs] at h2
 have h1 := h.below hb2
 have hb3 := gr_trans hb hb2
 generalize w2.alloc (.cells #[y0, y1, y2, y3, y4, y5, y6, y7, y8] 49) = w3 at *
 rw [← hs2]
 exact ⟨h1.below (gr_alloc (gr_refl w3) _), h2.below (gr_alloc (gr_refl w3) _), B14.new w3 _ _ _ _ _ _ _ _ _ _ _ _ _ _, gr_alloc hb3 _, by rw [World.size_alloc, hs2]⟩
def DoesQ (w0 w : World) (gd gp gl : Nat) (lim : Int) (D' : DiskS) (P' : PoS) (S G : Nat → Prop) (e : Ending) (w' : World) : Prop :=
 ∃ v' G' S', e = .returned (.tuple #[v', .bool true]) ∧ QS w0 w' gd gp gl v' lim G' D' P' S' ∧ Mv S S' w w' ∧ ∀ k, G' k → G k ∨ w.heap.size ≤ k
set_option maxRecDepth 100000 in
set_option maxHeartbeats 8000000 in
theorem does_other {w0 w : World} {gd gp gl : Nat} {v : Value} {lim : Int} {G S : Nat → Prop} {D : DiskS} {P : PoS} (h : QS w0 w gd gp gl v lim G D P S) (kd : Int) (pg sd : Int) (sh : Bool) (nn er : Int) (K : Option Addr) (nk ck : Nat) (torn cut : Int) (hk : kd ≠ 1 ∧ kd ≠ 2 ∧ kd ≠ 3 ∧ kd ≠ 5 ∧ kd ≠ 6 ∧ kd ≠ 7) :
  Calls Tryz.prog 10 #[.pointer (some ⟨gd, 0, none⟩), .pointer (some ⟨gp, 0, none⟩), v, .agg #[.int .i64 kd, .int .i64 pg, .int .i64 sd, .bool sh, .int .i64 nn, .int .i64 er, .slice K nk ck, .int .i64 torn, .int .i64 cut]] w (DoesQ w0 w gd gp gl lim D P S G) := by
 have e1 : (kd == 1) = false := beq_eq_false_iff_ne.2 (by omega)
 have e2 : (kd == 2) = false := beq_eq_false_iff_ne.2 (by omega)
 have e3 : (kd == 3) = false := beq_eq_false_iff_ne.2 (by omega)
 have e5 : (kd == 5) = false := beq_eq_false_iff_ne.2 (by omega)
 have e6 : (kd == 6) = false := beq_eq_false_iff_ne.2 (by omega)
 have e7 : (kd == 7) = false := beq_eq_false_iff_ne.2 (by omega)
 clear hk
 obtain ⟨bA, bn, bc, wA, wn, wc, dn, po, fa, wi, fv, q, rfl, h1, h2, h3⟩ := h.rp
 obtain ⟨A, c, rfl, _, _, _⟩ := h2.form
 have HH := Lib.hid h
 have HK := Lib.hid h1
 have HFG := Lib.hid h2
 have HQF := Lib.hid h3
 have HT := Lib.hid (threeQ w (.slice bA bn bc) (.slice wA wn wc) (.bool dn) (.int .i64 po) (.int .i64 fa) (.int .i64 wi) (.int .i64 (P.base : Int)) (.int .i64 (P.pages : Int)) (.int .i64 (P.most : Int)) (.int .i64 (P.epoch : Int)) (.int .i64 (P.count : Int)) (.int .i64 lim) (.slice A q.length c) (.int .i64 (P.hand : Int)) (.int .i64 kd) (.int .i64 pg) (.int .i64 sd) (.bool sh) (.int .i64 nn) (.int .i64 er) (.slice K nk ck) (.int .i64 torn) (.int .i64 cut))
 obtain ⟨n, hn⟩ : ∃ n, n = q.length := ⟨_, rfl⟩
 have HN := Lib.hid hn
 rw [← hn] at HT ⊢
 clear h1 h2 h3 hn h
 go_enter Tryz.func10, Tryz.ntmps10
 go_upto_region 1 with fail
 obtain ⟨x1, xo, x3, hb, hs⟩ := HT.out _ rfl
 clear HT
 generalize ((w.alloc (.cells #[.slice bA bn bc, .slice wA wn wc, .bool dn, .int .i64 po, .int .i64 fa, .int .i64 wi, .int .i64 (P.base : Int), .int .i64 (P.pages : Int), .int .i64 (P.most : Int), .int .i64 (P.epoch : Int), .int .i64 (P.count : Int), .int .i64 lim, .slice A n c, .int .i64 (P.hand : Int)] 42)).alloc (.cells #[.int .i64 kd, .int .i64 pg, .int .i64 sd, .bool sh, .int .i64 nn, .int .i64 er, .slice K nk ck, .int .i64 torn, .int .i64 cut] 49)).alloc (.cells #[.slice none 0 0, .slice none 0 0, .bool false, .int .i64 0, .int .i64 0, .int .i64 0, .int .i64 0, .int .i64 0, .int .i64 0, .int .i64 0, .int .i64 0, .int .i64 0, .slice none 0 0, .int .i64 0] 42) = w1 at *
 have X1 := Lib.hid x1
 have XO := Lib.hid xo
 have X3 := Lib.hid x3
 have HB := Lib.hid hb
 have HS1 := Lib.hid hs
 have o0 := xo.c0
 clear x1 xo x3 hb hs
 go_upto_region 35 with fail
 clear o0
 have y0 := X1.out.c0
 have y1 := X1.out.c1
 have y2 := X1.out.c2
 have y3 := X1.out.c3
 have y4 := X1.out.c4
 have y5 := X1.out.c5
 have y6 := X1.out.c6
 have y7 := X1.out.c7
 have y8 := X1.out.c8
 have y9 := X1.out.c9
 have y10 := X1.out.c10
 have y11 := X1.out.c11
 have y12 := X1.out.c12
 have y13 := X1.out.c13
 have r0 := X3.out.c0
 have r1 := X3.out.c1
 have r2 := X3.out.c2
 have r3 := X3.out.c3
 have r4 := X3.out.c4
 have r5 := X3.out.c5
 have r6 := X3.out.c6
 have r7 := X3.out.c7
 have r8 := X3.out.c8
 have r9 := X3.out.c9
 have r10 := X3.out.c10
 have r11 := X3.out.c11
 have r12 := X3.out.c12
 have r13 := X3.out.c13
 have rz0 := X3.out.fz 0
 have rz1 := X3.out.fz 1
 have rz2 := X3.out.fz 2
 have rz3 := X3.out.fz 3
 have rz4 := X3.out.fz 4
 have rz5 := X3.out.fz 5
 have rz6 := X3.out.fz 6
 have rz7 := X3.out.fz 7
 have rz8 := X3.out.fz 8
 have rz9 := X3.out.fz 9
 have rz10 := X3.out.fz 10
 have rz11 := X3.out.fz 11
 have rz12 := X3.out.fz 12
 have rz13 := X3.out.fz 13
 have HSs1 := Lib.hid (X3.out.all (.slice bA bn bc) (.slice wA wn wc) (.bool dn) (.int .i64 po) (.int .i64 fa) (.int .i64 wi) (.int .i64 (P.base : Int)) (.int .i64 (P.pages : Int)) (.int .i64 (P.most : Int)) (.int .i64 (P.epoch : Int)) (.int .i64 (P.count : Int)) (.int .i64 lim) (.slice A n c) (.int .i64 (P.hand : Int)))
 go_wp2_with fail
 clear r0 r1 r2 r3 r4 r5 r6 r7 r8 r9 r10 r11 r12 r13 rz0 rz1 rz2 rz3 rz4 rz5 rz6 rz7 rz8 rz9 rz10 rz11 rz12 rz13
 obtain ⟨s1, s1o⟩ := HSs1.out _ rfl
 clear HSs1
 generalize ((((((((((((((w1.setCell ⟨w.heap.size + 2, 0, none⟩ (.slice bA bn bc)).setCell ⟨w.heap.size + 2, 1, none⟩ (.slice wA wn wc)).setCell ⟨w.heap.size + 2, 2, none⟩ (.bool dn)).setCell ⟨w.heap.size + 2, 3, none⟩ (.int .i64 po)).setCell ⟨w.heap.size + 2, 4, none⟩ (.int .i64 fa)).setCell ⟨w.heap.size + 2, 5, none⟩ (.int .i64 wi)).setCell ⟨w.heap.size + 2, 6, none⟩ (.int .i64 (P.base : Int))).setCell ⟨w.heap.size + 2, 7, none⟩ (.int .i64 (P.pages : Int))).setCell ⟨w.heap.size + 2, 8, none⟩ (.int .i64 (P.most : Int))).setCell ⟨w.heap.size + 2, 9, none⟩ (.int .i64 (P.epoch : Int))).setCell ⟨w.heap.size + 2, 10, none⟩ (.int .i64 (P.count : Int))).setCell ⟨w.heap.size + 2, 11, none⟩ (.int .i64 lim)).setCell ⟨w.heap.size + 2, 12, none⟩ (.slice A n c)).setCell ⟨w.heap.size + 2, 13, none⟩ (.int .i64 (P.hand : Int))) = wf at *
 clear y0 y1 y2 y3 y4 y5 y6 y7 y8 y9 y10 y11 y12 y13
 have z0 := s1.c0
 have z1 := s1.c1
 have z2 := s1.c2
 have z3 := s1.c3
 have z4 := s1.c4
 have z5 := s1.c5
 have z6 := s1.c6
 have z7 := s1.c7
 have z8 := s1.c8
 have z9 := s1.c9
 have z10 := s1.c10
 have z11 := s1.c11
 have z12 := s1.c12
 have z13 := s1.c13
 refine bodyPost_ret (v := .tuple #[.agg #[.slice bA bn bc, .slice wA wn wc, .bool dn, .int .i64 po, .int .i64 fa, .int .i64 wi, .int .i64 (P.base : Int), .int .i64 (P.pages : Int), .int .i64 (P.most : Int), .int .i64 (P.epoch : Int), .int .i64 (P.count : Int), .int .i64 lim, .slice A n c, .int .i64 (P.hand : Int)], .bool true]) (by simp [results, Tryz.results10, go_sem, z0, z1, z2, z3, z4, z5, z6, z7, z8, z9, z10, z11, z12, z13]) rfl ?_
 have hst := HH.out.step (S2 := S) (w2 := w1) (w3 := w1) (v' := .agg #[.slice bA bn bc, .slice wA wn wc, .bool dn, .int .i64 po, .int .i64 fa, .int .i64 wi, .int .i64 (P.base : Int), .int .i64 (P.pages : Int), .int .i64 (P.most : Int), .int .i64 (P.epoch : Int), .int .i64 (P.count : Int), .int .i64 lim, .slice A n c, .int .i64 (P.hand : Int)]) HB.out (HH.out.pj.below HB.out) (Mv.of_below (gr_refl w1)) (((show RP G w (.agg #[.slice bA bn bc, .slice wA wn wc, .bool dn, .int .i64 po, .int .i64 fa, .int .i64 wi, .int .i64 (P.base : Int), .int .i64 (P.pages : Int), .int .i64 (P.most : Int), .int .i64 (P.epoch : Int), .int .i64 (P.count : Int), .int .i64 lim, .slice A n c, .int .i64 (P.hand : Int)]) D P lim from ⟨bA, bn, bc, wA, wn, wc, dn, po, fa, wi, _, q, rfl, HK.out, by rw [HN.out]; exact HFG.out, HQF.out⟩).below HB.out).mono (fun k e => .inl e)) (gr_refl w1) s1o (fun k e => ⟨by omega, fun e2 => by have := HH.out.pj.lt e2; omega, fun e2 => by
  rcases e2 with e2 | e2
  ·have := (HH.out.gw k e2).2; omega
  ·omega⟩) HH.out.dn
 exact ⟨_, _, _, rfl, hst.1, hst.2.1, hst.2.2⟩
set_option maxRecDepth 100000 in
set_option maxHeartbeats 8000000 in
theorem does_flush {w0 w : World} {gd gp gl : Nat} {v : Value} {lim : Int} {G S : Nat → Prop} {D : DiskS} {P : PoS} (h : QS w0 w gd gp gl v lim G D P S) (pg sd : Int) (sh : Bool) (nn er : Int) (K : Option Addr) (nk ck : Nat) (torn cut : Int) (hpd : D.pending.length ≤ 899000) (hct : P.count ≤ 1152921504606840000) :
  Calls Tryz.prog 10 #[.pointer (some ⟨gd, 0, none⟩), .pointer (some ⟨gp, 0, none⟩), v, .agg #[.int .i64 3, .int .i64 pg, .int .i64 sd, .bool sh, .int .i64 nn, .int .i64 er, .slice K nk ck, .int .i64 torn, .int .i64 cut]] w (DoesQ w0 w gd gp gl lim (flushR (some lim) D P).1 (flushR (some lim) D P).2.1 S G) := by
 obtain ⟨⟨D3, P3, e3⟩, hr3⟩ : ∃ r, r = flushR (some lim) D P := ⟨_, rfl⟩
 rw [← hr3]
 have hdn := h.dn.flush (some lim) P
 have HFL := Lib.hid (fun W (hW : Below w.heap.size w W) => Flush_pj (h.pj.below hW) hpd hct)
 have HRF := Lib.hid (fun W v' (hr : RP G W v' D P lim) (hg : ∀ k, G k → k < W.heap.size) => rFlush_any hr hg h.pj.pi h.dn (by omega) hct)
 rw [← hr3] at HFL HRF hdn
 have HDN := Lib.hid hdn
 clear hr3 hdn hpd hct
 obtain ⟨bA, bn, bc, wA, wn, wc, dn, po, fa, wi, fv, q, rfl, h1, h2, h3⟩ := h.rp
 obtain ⟨A, c, rfl, _, _, _⟩ := h2.form
 have HH := Lib.hid h
 have HK := Lib.hid h1
 have HFG := Lib.hid h2
 have HQF := Lib.hid h3
 have HT := Lib.hid (threeQ w (.slice bA bn bc) (.slice wA wn wc) (.bool dn) (.int .i64 po) (.int .i64 fa) (.int .i64 wi) (.int .i64 (P.base : Int)) (.int .i64 (P.pages : Int)) (.int .i64 (P.most : Int)) (.int .i64 (P.epoch : Int)) (.int .i64 (P.count : Int)) (.int .i64 lim) (.slice A q.length c) (.int .i64 (P.hand : Int)) (.int .i64 3) (.int .i64 pg) (.int .i64 sd) (.bool sh) (.int .i64 nn) (.int .i64 er) (.slice K nk ck) (.int .i64 torn) (.int .i64 cut))
 obtain ⟨n, hn⟩ : ∃ n, n = q.length := ⟨_, rfl⟩
 have HN := Lib.hid hn
 rw [← hn] at HT ⊢
 clear h1 h2 h3 hn h
 go_enter Tryz.func10, Tryz.ntmps10
 go_upto_region 1 with fail
 obtain ⟨x1, xo, x3, hb, hs⟩ := HT.out _ rfl
 clear HT
 generalize ((w.alloc (.cells #[.slice bA bn bc, .slice wA wn wc, .bool dn, .int .i64 po, .int .i64 fa, .int .i64 wi, .int .i64 (P.base : Int), .int .i64 (P.pages : Int), .int .i64 (P.most : Int), .int .i64 (P.epoch : Int), .int .i64 (P.count : Int), .int .i64 lim, .slice A n c, .int .i64 (P.hand : Int)] 42)).alloc (.cells #[.int .i64 3, .int .i64 pg, .int .i64 sd, .bool sh, .int .i64 nn, .int .i64 er, .slice K nk ck, .int .i64 torn, .int .i64 cut] 49)).alloc (.cells #[.slice none 0 0, .slice none 0 0, .bool false, .int .i64 0, .int .i64 0, .int .i64 0, .int .i64 0, .int .i64 0, .int .i64 0, .int .i64 0, .int .i64 0, .int .i64 0, .slice none 0 0, .int .i64 0] 42) = w1 at *
 have X1 := Lib.hid x1
 have XO := Lib.hid xo
 have X3 := Lib.hid x3
 have HB := Lib.hid hb
 have HS1 := Lib.hid hs
 have o0 := xo.c0
 clear x1 xo x3 hb hs
 go_upto_region 17 with fail
 go_upto_region 18 with fail
 clear o0
 refine (HFL.out w1 HB.out).mono ?_
 rintro e w2 ⟨S2, rfl, hj, hm⟩
 have HJ := Lib.hid hj
 have HM := Lib.hid hm
 have hSk : ∀ k, w.heap.size ≤ k → k < w1.heap.size → ¬ S k := fun k h1 _ e => by have := HH.out.pj.lt e; omega
 have X1 := Lib.hid (X1.out.off hm.1 (hSk _ (Nat.le_refl _) (by have := HS1.out; omega)))
 have X3 := Lib.hid (X3.out.off hm.1 (hSk _ (by omega) (by have := HS1.out; omega)))
 have HRP2 : Hid (RP G w2 (.agg #[.slice bA bn bc, .slice wA wn wc, .bool dn, .int .i64 po, .int .i64 fa, .int .i64 wi, .int .i64 (P.base : Int), .int .i64 (P.pages : Int), .int .i64 (P.most : Int), .int .i64 (P.epoch : Int), .int .i64 (P.count : Int), .int .i64 lim, .slice A n c, .int .i64 (P.hand : Int)]) D P lim) := Lib.hid (((show RP G w (.agg #[.slice bA bn bc, .slice wA wn wc, .bool dn, .int .i64 po, .int .i64 fa, .int .i64 wi, .int .i64 (P.base : Int), .int .i64 (P.pages : Int), .int .i64 (P.most : Int), .int .i64 (P.epoch : Int), .int .i64 (P.count : Int), .int .i64 lim, .slice A n c, .int .i64 (P.hand : Int)]) D P lim from ⟨bA, bn, bc, wA, wn, wc, dn, po, fa, wi, _, q, rfl, HK.out, by rw [HN.out]; exact HFG.out, HQF.out⟩).below HB.out).off hm.1 HH.out.sg)
 have HS2 : Hid (w1.heap.size ≤ w2.heap.size) := Lib.hid hm.1.size
 clear hj hm hSk HFL XO
 have y0 := X1.out.c0
 have y1 := X1.out.c1
 have y2 := X1.out.c2
 have y3 := X1.out.c3
 have y4 := X1.out.c4
 have y5 := X1.out.c5
 have y6 := X1.out.c6
 have y7 := X1.out.c7
 have y8 := X1.out.c8
 have y9 := X1.out.c9
 have y10 := X1.out.c10
 have y11 := X1.out.c11
 have y12 := X1.out.c12
 have y13 := X1.out.c13
 go_upto_region 18 with fail
 go_upto_region 19 with fail
 refine (HRF.out w2 _ HRP2.out (fun k hk => by have := (HH.out.gw k hk).2; have := HB.out.size; have := HS2.out; omega)).mono ?_
 rintro e w3 ⟨v', rfl, hrp, hb3⟩
 have HRP3 := Lib.hid hrp
 obtain ⟨bA3, bn3, bc3, wA3, wn3, wc3, dn3, po3, fa3, wi3, fv3, q3, rfl, h1, h2, h3⟩ := hrp
 obtain ⟨A3, c3, rfl, _, _, _⟩ := h2.form
 obtain ⟨n3, hn3⟩ : ∃ n3, n3 = q3.length := ⟨_, rfl⟩
 rw [← hn3] at HRP3 ⊢
 have HB3 := Lib.hid hb3
 have X3 := Lib.hid (X3.out.below hb3)
 have hgr := gr_alloc (gr_refl w3) (.cells #[.slice bA3 bn3 bc3, .slice wA3 wn3 wc3, .bool dn3, .int .i64 po3, .int .i64 fa3, .int .i64 wi3, .int .i64 (P3.base : Int), .int .i64 (P3.pages : Int), .int .i64 (P3.most : Int), .int .i64 (P3.epoch : Int), .int .i64 (P3.count : Int), .int .i64 lim, .slice A3 n3 c3, .int .i64 (P3.hand : Int)] 42)
 have HB4 := Lib.hid hgr
 have X8 := Lib.hid (B14.new w3 (.slice bA3 bn3 bc3) (.slice wA3 wn3 wc3) (.bool dn3) (.int .i64 po3) (.int .i64 fa3) (.int .i64 wi3) (.int .i64 (P3.base : Int)) (.int .i64 (P3.pages : Int)) (.int .i64 (P3.most : Int)) (.int .i64 (P3.epoch : Int)) (.int .i64 (P3.count : Int)) (.int .i64 lim) (.slice A3 n3 c3) (.int .i64 (P3.hand : Int)))
 have X3 := Lib.hid (X3.out.below hgr)
 clear h1 h2 h3 hn3 hb3 hgr HRF y0 y1 y2 y3 y4 y5 y6 y7 y8 y9 y10 y11 y12 y13 X1
 go_upto_region 19 with fail
 generalize w3.alloc (.cells #[.slice bA3 bn3 bc3, .slice wA3 wn3 wc3, .bool dn3, .int .i64 po3, .int .i64 fa3, .int .i64 wi3, .int .i64 (P3.base : Int), .int .i64 (P3.pages : Int), .int .i64 (P3.most : Int), .int .i64 (P3.epoch : Int), .int .i64 (P3.count : Int), .int .i64 lim, .slice A3 n3 c3, .int .i64 (P3.hand : Int)] 42) = w4 at *
 have t1 : ((e3 : Int) == e3) = true := beq_self_eq_true _
 have y0 := X8.out.c0
 have y1 := X8.out.c1
 have y2 := X8.out.c2
 have y3 := X8.out.c3
 have y4 := X8.out.c4
 have y5 := X8.out.c5
 have y6 := X8.out.c6
 have y7 := X8.out.c7
 have y8 := X8.out.c8
 have y9 := X8.out.c9
 have y10 := X8.out.c10
 have y11 := X8.out.c11
 have y12 := X8.out.c12
 have y13 := X8.out.c13
 have r0 := X3.out.c0
 have r1 := X3.out.c1
 have r2 := X3.out.c2
 have r3 := X3.out.c3
 have r4 := X3.out.c4
 have r5 := X3.out.c5
 have r6 := X3.out.c6
 have r7 := X3.out.c7
 have r8 := X3.out.c8
 have r9 := X3.out.c9
 have r10 := X3.out.c10
 have r11 := X3.out.c11
 have r12 := X3.out.c12
 have r13 := X3.out.c13
 have rz0 := X3.out.fz 0
 have rz1 := X3.out.fz 1
 have rz2 := X3.out.fz 2
 have rz3 := X3.out.fz 3
 have rz4 := X3.out.fz 4
 have rz5 := X3.out.fz 5
 have rz6 := X3.out.fz 6
 have rz7 := X3.out.fz 7
 have rz8 := X3.out.fz 8
 have rz9 := X3.out.fz 9
 have rz10 := X3.out.fz 10
 have rz11 := X3.out.fz 11
 have rz12 := X3.out.fz 12
 have rz13 := X3.out.fz 13
 have HSs1 := Lib.hid (X3.out.all (.slice bA3 bn3 bc3) (.slice wA3 wn3 wc3) (.bool dn3) (.int .i64 po3) (.int .i64 fa3) (.int .i64 wi3) (.int .i64 (P3.base : Int)) (.int .i64 (P3.pages : Int)) (.int .i64 (P3.most : Int)) (.int .i64 (P3.epoch : Int)) (.int .i64 (P3.count : Int)) (.int .i64 lim) (.slice A3 n3 c3) (.int .i64 (P3.hand : Int)))
 go_wp2_with fail
 clear r0 r1 r2 r3 r4 r5 r6 r7 r8 r9 r10 r11 r12 r13 rz0 rz1 rz2 rz3 rz4 rz5 rz6 rz7 rz8 rz9 rz10 rz11 rz12 rz13
 obtain ⟨s1, s1o⟩ := HSs1.out _ rfl
 clear HSs1
 generalize ((((((((((((((w4.setCell ⟨w.heap.size + 2, 0, none⟩ (.slice bA3 bn3 bc3)).setCell ⟨w.heap.size + 2, 1, none⟩ (.slice wA3 wn3 wc3)).setCell ⟨w.heap.size + 2, 2, none⟩ (.bool dn3)).setCell ⟨w.heap.size + 2, 3, none⟩ (.int .i64 po3)).setCell ⟨w.heap.size + 2, 4, none⟩ (.int .i64 fa3)).setCell ⟨w.heap.size + 2, 5, none⟩ (.int .i64 wi3)).setCell ⟨w.heap.size + 2, 6, none⟩ (.int .i64 (P3.base : Int))).setCell ⟨w.heap.size + 2, 7, none⟩ (.int .i64 (P3.pages : Int))).setCell ⟨w.heap.size + 2, 8, none⟩ (.int .i64 (P3.most : Int))).setCell ⟨w.heap.size + 2, 9, none⟩ (.int .i64 (P3.epoch : Int))).setCell ⟨w.heap.size + 2, 10, none⟩ (.int .i64 (P3.count : Int))).setCell ⟨w.heap.size + 2, 11, none⟩ (.int .i64 lim)).setCell ⟨w.heap.size + 2, 12, none⟩ (.slice A3 n3 c3)).setCell ⟨w.heap.size + 2, 13, none⟩ (.int .i64 (P3.hand : Int))) = wf at *
 clear y0 y1 y2 y3 y4 y5 y6 y7 y8 y9 y10 y11 y12 y13
 have z0 := s1.c0
 have z1 := s1.c1
 have z2 := s1.c2
 have z3 := s1.c3
 have z4 := s1.c4
 have z5 := s1.c5
 have z6 := s1.c6
 have z7 := s1.c7
 have z8 := s1.c8
 have z9 := s1.c9
 have z10 := s1.c10
 have z11 := s1.c11
 have z12 := s1.c12
 have z13 := s1.c13
 refine bodyPost_ret (v := .tuple #[.agg #[.slice bA3 bn3 bc3, .slice wA3 wn3 wc3, .bool dn3, .int .i64 po3, .int .i64 fa3, .int .i64 wi3, .int .i64 (P3.base : Int), .int .i64 (P3.pages : Int), .int .i64 (P3.most : Int), .int .i64 (P3.epoch : Int), .int .i64 (P3.count : Int), .int .i64 lim, .slice A3 n3 c3, .int .i64 (P3.hand : Int)], .bool true]) (by simp [results, Tryz.results10, go_sem, z0, z1, z2, z3, z4, z5, z6, z7, z8, z9, z10, z11, z12, z13]) rfl ?_
 have hst := HH.out.step HB.out HJ.out HM.out HRP3.out HB3.out ((Off.of_below HB4.out).trans s1o) (fun k e => ⟨by omega, fun e2 => by
   have := HS1.out
   rcases HM.out.2 k e2 with e3 | e3
   ·have := HH.out.pj.lt e3; omega
   ·omega, fun e2 => by
   have := HS1.out
   have := HS2.out
   rcases e2 with e2 | e2
   ·have := (HH.out.gw k e2).2; omega
   ·omega⟩) HDN.out
 exact ⟨_, _, _, rfl, hst.1, hst.2.1, hst.2.2⟩
set_option maxRecDepth 100000 in
set_option maxHeartbeats 8000000 in
theorem does_arm {w0 w : World} {gd gp gl : Nat} {v : Value} {lim : Int} {G S : Nat → Prop} {D : DiskS} {P : PoS} (h : QS w0 w gd gp gl v lim G D P S) (pg sd : Int) (sh : Bool) (nn er : Int) (K : Option Addr) (nk ck : Nat) (torn cut : Int) (hn : nn ≤ 9223372036854775807) :
  Calls Tryz.prog 10 #[.pointer (some ⟨gd, 0, none⟩), .pointer (some ⟨gp, 0, none⟩), v, .agg #[.int .i64 5, .int .i64 pg, .int .i64 sd, .bool sh, .int .i64 nn, .int .i64 er, .slice K nk ck, .int .i64 torn, .int .i64 cut]] w (DoesQ w0 w gd gp gl lim (armD D nn) P S G) := by
 obtain ⟨D3, hD3⟩ : ∃ D3, D3 = armD D nn := ⟨_, rfl⟩
 obtain ⟨e3, he3⟩ : ∃ e3, e3 = armE nn := ⟨_, rfl⟩
 have hdn := h.dn.arm hn
 have HDC := Lib.hid (fun W (hW : Below w.heap.size w W) => Arm_pj (h.pj.below hW) nn hn)
 have HRC : Hid (∀ W {bA bn bc wA wn wc dn po fa wi}, RK G W (.agg #[.slice bA bn bc, .slice wA wn wc, .bool dn, .int .i64 po, .int .i64 fa, .int .i64 wi]) D → (∀ {W1 : World}, Off S W1 W → Below w.heap.size w W1 → (∀ k, G k → k < W.heap.size) → Calls Tryz.prog 36 #[.agg #[.slice bA bn bc, .slice wA wn wc, .bool dn, .int .i64 po, .int .i64 fa, .int .i64 wi], .int .i64 nn] W fun e w' => ∃ bA3 bn3 bc3 wA3 wn3 wc3 dn3 po3 fa3 wi3, e = .returned (.tuple #[.agg #[.slice bA3 bn3 bc3, .slice wA3 wn3 wc3, .bool dn3, .int .i64 po3, .int .i64 fa3, .int .i64 wi3], .int .i64 e3]) ∧ RK (plusG G W w') w' (.agg #[.slice bA3 bn3 bc3, .slice wA3 wn3 wc3, .bool dn3, .int .i64 po3, .int .i64 fa3, .int .i64 wi3]) D3 ∧ Below W.heap.size W w')) := Lib.hid (fun W bA bn bc wA wn wc dn po fa wi hrk W1 hO hW1 hg => (refArmed_any G _ D nn W hrk).mono (by
  rintro e w' ⟨v', rfl, h1, h2⟩
  rw [← hD3] at h1
  rw [← he3]
  obtain ⟨a1, a2, a3, a4, a5, a6, a7, a8, a9, a10, rfl⟩ := h1.open6
  exact ⟨a1, a2, a3, a4, a5, a6, a7, a8, a9, a10, rfl, h1.mono (fun k e => .inl e), h2⟩))
 rw [← hD3, ← he3] at HDC
 rw [← hD3] at hdn ⊢
 have HDN := Lib.hid hdn
 clear hdn hD3 he3
 clear hn
 obtain ⟨bA, bn, bc, wA, wn, wc, dn, po, fa, wi, fv, q, rfl, h1, h2, h3⟩ := h.rp
 obtain ⟨A, c, rfl, _, _, _⟩ := h2.form
 have HH := Lib.hid h
 have HK := Lib.hid h1
 have HFG := Lib.hid h2
 have HQF := Lib.hid h3
 have HT := Lib.hid (threeQ w (.slice bA bn bc) (.slice wA wn wc) (.bool dn) (.int .i64 po) (.int .i64 fa) (.int .i64 wi) (.int .i64 (P.base : Int)) (.int .i64 (P.pages : Int)) (.int .i64 (P.most : Int)) (.int .i64 (P.epoch : Int)) (.int .i64 (P.count : Int)) (.int .i64 lim) (.slice A q.length c) (.int .i64 (P.hand : Int)) (.int .i64 5) (.int .i64 pg) (.int .i64 sd) (.bool sh) (.int .i64 nn) (.int .i64 er) (.slice K nk ck) (.int .i64 torn) (.int .i64 cut))
 obtain ⟨n, hn⟩ : ∃ n, n = q.length := ⟨_, rfl⟩
 have HN := Lib.hid hn
 rw [← hn] at HT ⊢
 clear h1 h2 h3 hn h
 go_enter Tryz.func10, Tryz.ntmps10
 go_upto_region 1 with fail
 obtain ⟨x1, xo, x3, hb, hs⟩ := HT.out _ rfl
 clear HT
 generalize ((w.alloc (.cells #[.slice bA bn bc, .slice wA wn wc, .bool dn, .int .i64 po, .int .i64 fa, .int .i64 wi, .int .i64 (P.base : Int), .int .i64 (P.pages : Int), .int .i64 (P.most : Int), .int .i64 (P.epoch : Int), .int .i64 (P.count : Int), .int .i64 lim, .slice A n c, .int .i64 (P.hand : Int)] 42)).alloc (.cells #[.int .i64 5, .int .i64 pg, .int .i64 sd, .bool sh, .int .i64 nn, .int .i64 er, .slice K nk ck, .int .i64 torn, .int .i64 cut] 49)).alloc (.cells #[.slice none 0 0, .slice none 0 0, .bool false, .int .i64 0, .int .i64 0, .int .i64 0, .int .i64 0, .int .i64 0, .int .i64 0, .int .i64 0, .int .i64 0, .int .i64 0, .slice none 0 0, .int .i64 0] 42) = w1 at *
 have X1 := Lib.hid x1
 have XO := Lib.hid xo
 have X3 := Lib.hid x3
 have HB := Lib.hid hb
 have HS1 := Lib.hid hs
 have o0 := xo.c0
 clear x1 xo x3 hb hs
 have o1 := XO.out.c1
 have o4 := XO.out.c4
 have o5 := XO.out.c5
 have o6 := XO.out.c6
 have o7 := XO.out.c7
 have o8 := XO.out.c8
 go_upto_region 21 with fail
 go_upto_region 22 with fail
 clear o0 o1 o4 o5 o6 o7 o8
 refine (HDC.out w1 HB.out).mono ?_
 rintro e w2 ⟨rfl, S2, hj, hm⟩
 have HJ := Lib.hid hj
 have HM := Lib.hid hm
 have hSk : ∀ k, w.heap.size ≤ k → k < w1.heap.size → ¬ S k := fun k h1 _ e => by have := HH.out.pj.lt e; omega
 have X1 := Lib.hid (X1.out.off hm.1 (hSk _ (Nat.le_refl _) (by have := HS1.out; omega)))
 have XO := Lib.hid (XO.out.off hm.1 (hSk _ (by omega) (by have := HS1.out; omega)))
 have X3 := Lib.hid (X3.out.off hm.1 (hSk _ (by omega) (by have := HS1.out; omega)))
 have HRK2 : Hid (RK G w2 (.agg #[.slice bA bn bc, .slice wA wn wc, .bool dn, .int .i64 po, .int .i64 fa, .int .i64 wi]) D) := Lib.hid ((HK.out.below HB.out).off hm.1 HH.out.sg)
 have HFG2 : Hid (FG G w2 (.slice A n c) q) := Lib.hid (((show FG G w (.slice A n c) q by rw [HN.out]; exact HFG.out).below HB.out).off hm.1 HH.out.sg)
 have HS2 : Hid (w1.heap.size ≤ w2.heap.size) := Lib.hid hm.1.size
 have HMO := Lib.hid hm.1
 clear hj hm hSk HDC
 have y0 := X1.out.c0
 have y1 := X1.out.c1
 have y2 := X1.out.c2
 have y3 := X1.out.c3
 have y4 := X1.out.c4
 have y5 := X1.out.c5
 have o4 := XO.out.c4
 have o5 := XO.out.c5
 have o6 := XO.out.c6
 have o7 := XO.out.c7
 have o8 := XO.out.c8
 go_upto_region 22 with fail
 go_upto_region 23 with fail
 refine (HRC.out w2 HRK2.out HMO.out HB.out (fun k hk => by have := (HH.out.gw k hk).2; have := HB.out.size; have := HS2.out; omega)).mono ?_
 rintro e w3 ⟨bA3, bn3, bc3, wA3, wn3, wc3, dn3, po3, fa3, wi3, rfl, hrk, hb3⟩
 have HRK3 := Lib.hid hrk
 have HB3 := Lib.hid hb3
 have hgr := gr_alloc (gr_refl w3) (.cells #[.slice bA3 bn3 bc3, .slice wA3 wn3 wc3, .bool dn3, .int .i64 po3, .int .i64 fa3, .int .i64 wi3] 33)
 have HB4 := Lib.hid hgr
 have Z6 := Lib.hid (B6.new w3 (.slice bA3 bn3 bc3) (.slice wA3 wn3 wc3) (.bool dn3) (.int .i64 po3) (.int .i64 fa3) (.int .i64 wi3))
 have X1 := Lib.hid ((X1.out.below hb3).below hgr)
 have X3 := Lib.hid ((X3.out.below hb3).below hgr)
 clear hrk hb3 hgr HRC o4 o5 o6 o7 o8 y0 y1 y2 y3 y4 y5
 go_upto_region 23 with fail
 generalize w3.alloc (.cells #[.slice bA3 bn3 bc3, .slice wA3 wn3 wc3, .bool dn3, .int .i64 po3, .int .i64 fa3, .int .i64 wi3] 33) = w4 at *
 have y0 := X1.out.c0
 have yz0 := X1.out.fz 0
 have u0 := Z6.out.c0
 have y1 := X1.out.c1
 have yz1 := X1.out.fz 1
 have u1 := Z6.out.c1
 have y2 := X1.out.c2
 have yz2 := X1.out.fz 2
 have u2 := Z6.out.c2
 have y3 := X1.out.c3
 have yz3 := X1.out.fz 3
 have u3 := Z6.out.c3
 have y4 := X1.out.c4
 have yz4 := X1.out.fz 4
 have u4 := Z6.out.c4
 have y5 := X1.out.c5
 have yz5 := X1.out.fz 5
 have u5 := Z6.out.c5
 have HS6 := Lib.hid (X1.out.disk (.slice bA3 bn3 bc3) (.slice wA3 wn3 wc3) (.bool dn3) (.int .i64 po3) (.int .i64 fa3) (.int .i64 wi3))
 go_upto_region 24 with fail
 clear y0 yz0 u0 y1 yz1 u1 y2 yz2 u2 y3 yz3 u3 y4 yz4 u4 y5 yz5 u5
 obtain ⟨x1, o13⟩ := HS6.out _ rfl
 clear HS6
 generalize ((((((w4.setCell ⟨w.heap.size, 0, none⟩ (.slice bA3 bn3 bc3)).setCell ⟨w.heap.size, 1, none⟩ (.slice wA3 wn3 wc3)).setCell ⟨w.heap.size, 2, none⟩ (.bool dn3)).setCell ⟨w.heap.size, 3, none⟩ (.int .i64 po3)).setCell ⟨w.heap.size, 4, none⟩ (.int .i64 fa3)).setCell ⟨w.heap.size, 5, none⟩ (.int .i64 wi3)) = w5 at *
 have X1 := Lib.hid x1
 have X3 := Lib.hid (X3.out.off o13 (by omega))
 have HO5 := Lib.hid o13
 clear x1 o13
 have t1 : ((e3 : Int) == e3) = true := beq_self_eq_true _
 have y0 := X1.out.c0
 have y1 := X1.out.c1
 have y2 := X1.out.c2
 have y3 := X1.out.c3
 have y4 := X1.out.c4
 have y5 := X1.out.c5
 have y6 := X1.out.c6
 have y7 := X1.out.c7
 have y8 := X1.out.c8
 have y9 := X1.out.c9
 have y10 := X1.out.c10
 have y11 := X1.out.c11
 have y12 := X1.out.c12
 have y13 := X1.out.c13
 have r0 := X3.out.c0
 have r1 := X3.out.c1
 have r2 := X3.out.c2
 have r3 := X3.out.c3
 have r4 := X3.out.c4
 have r5 := X3.out.c5
 have r6 := X3.out.c6
 have r7 := X3.out.c7
 have r8 := X3.out.c8
 have r9 := X3.out.c9
 have r10 := X3.out.c10
 have r11 := X3.out.c11
 have r12 := X3.out.c12
 have r13 := X3.out.c13
 have rz0 := X3.out.fz 0
 have rz1 := X3.out.fz 1
 have rz2 := X3.out.fz 2
 have rz3 := X3.out.fz 3
 have rz4 := X3.out.fz 4
 have rz5 := X3.out.fz 5
 have rz6 := X3.out.fz 6
 have rz7 := X3.out.fz 7
 have rz8 := X3.out.fz 8
 have rz9 := X3.out.fz 9
 have rz10 := X3.out.fz 10
 have rz11 := X3.out.fz 11
 have rz12 := X3.out.fz 12
 have rz13 := X3.out.fz 13
 have HSs1 := Lib.hid (X3.out.all (.slice bA3 bn3 bc3) (.slice wA3 wn3 wc3) (.bool dn3) (.int .i64 po3) (.int .i64 fa3) (.int .i64 wi3) (.int .i64 (P.base : Int)) (.int .i64 (P.pages : Int)) (.int .i64 (P.most : Int)) (.int .i64 (P.epoch : Int)) (.int .i64 (P.count : Int)) (.int .i64 lim) (.slice A n c) (.int .i64 (P.hand : Int)))
 go_wp2_with fail
 clear r0 r1 r2 r3 r4 r5 r6 r7 r8 r9 r10 r11 r12 r13 rz0 rz1 rz2 rz3 rz4 rz5 rz6 rz7 rz8 rz9 rz10 rz11 rz12 rz13
 obtain ⟨s1, s1o⟩ := HSs1.out _ rfl
 clear HSs1
 generalize ((((((((((((((w5.setCell ⟨w.heap.size + 2, 0, none⟩ (.slice bA3 bn3 bc3)).setCell ⟨w.heap.size + 2, 1, none⟩ (.slice wA3 wn3 wc3)).setCell ⟨w.heap.size + 2, 2, none⟩ (.bool dn3)).setCell ⟨w.heap.size + 2, 3, none⟩ (.int .i64 po3)).setCell ⟨w.heap.size + 2, 4, none⟩ (.int .i64 fa3)).setCell ⟨w.heap.size + 2, 5, none⟩ (.int .i64 wi3)).setCell ⟨w.heap.size + 2, 6, none⟩ (.int .i64 (P.base : Int))).setCell ⟨w.heap.size + 2, 7, none⟩ (.int .i64 (P.pages : Int))).setCell ⟨w.heap.size + 2, 8, none⟩ (.int .i64 (P.most : Int))).setCell ⟨w.heap.size + 2, 9, none⟩ (.int .i64 (P.epoch : Int))).setCell ⟨w.heap.size + 2, 10, none⟩ (.int .i64 (P.count : Int))).setCell ⟨w.heap.size + 2, 11, none⟩ (.int .i64 lim)).setCell ⟨w.heap.size + 2, 12, none⟩ (.slice A n c)).setCell ⟨w.heap.size + 2, 13, none⟩ (.int .i64 (P.hand : Int))) = wf at *
 clear y0 y1 y2 y3 y4 y5 y6 y7 y8 y9 y10 y11 y12 y13
 have z0 := s1.c0
 have z1 := s1.c1
 have z2 := s1.c2
 have z3 := s1.c3
 have z4 := s1.c4
 have z5 := s1.c5
 have z6 := s1.c6
 have z7 := s1.c7
 have z8 := s1.c8
 have z9 := s1.c9
 have z10 := s1.c10
 have z11 := s1.c11
 have z12 := s1.c12
 have z13 := s1.c13
 refine bodyPost_ret (v := .tuple #[.agg #[.slice bA3 bn3 bc3, .slice wA3 wn3 wc3, .bool dn3, .int .i64 po3, .int .i64 fa3, .int .i64 wi3, .int .i64 (P.base : Int), .int .i64 (P.pages : Int), .int .i64 (P.most : Int), .int .i64 (P.epoch : Int), .int .i64 (P.count : Int), .int .i64 lim, .slice A n c, .int .i64 (P.hand : Int)], .bool true]) (by simp [results, Tryz.results10, go_sem, z0, z1, z2, z3, z4, z5, z6, z7, z8, z9, z10, z11, z12, z13]) rfl ?_
 have hall : Off (fun k => k = w.heap.size ∨ k = w.heap.size + 2) w3 wf := ((Off.of_below HB4.out).trans (HO5.out.mono (fun k _ e => .inl e))).trans (s1o.mono (fun k _ e => .inr e))
 have hrp3 : RP (plusG G w2 w3) w3 (.agg #[.slice bA3 bn3 bc3, .slice wA3 wn3 wc3, .bool dn3, .int .i64 po3, .int .i64 fa3, .int .i64 wi3, .int .i64 (P.base : Int), .int .i64 (P.pages : Int), .int .i64 (P.most : Int), .int .i64 (P.epoch : Int), .int .i64 (P.count : Int), .int .i64 lim, .slice A n c, .int .i64 (P.hand : Int)]) D3 P lim := ⟨bA3, bn3, bc3, wA3, wn3, wc3, dn3, po3, fa3, wi3, _, q, rfl, HRK3.out, (HFG2.out.below HB3.out).mono (fun k e => .inl e), HQF.out⟩
 have hst := HH.out.step HB.out HJ.out HM.out hrp3 HB3.out hall (fun k e => ⟨by omega, fun e2 => by
   have := HS1.out
   rcases HM.out.2 k e2 with e3 | e3
   ·have := HH.out.pj.lt e3; omega
   ·omega, fun e2 => by
   have := HS1.out
   have := HS2.out
   rcases e2 with e2 | e2
   ·have := (HH.out.gw k e2).2; omega
   ·omega⟩) HDN.out
 exact ⟨_, _, _, rfl, hst.1, hst.2.1, hst.2.2⟩
set_option maxRecDepth 100000 in
set_option maxHeartbeats 8000000 in
theorem does_fail {w0 w : World} {gd gp gl : Nat} {v : Value} {lim : Int} {G S : Nat → Prop} {D : DiskS} {P : PoS} (h : QS w0 w gd gp gl v lim G D P S) (pg sd : Int) (sh : Bool) (nn er : Int) (K : Option Addr) (nk ck : Nat) (torn cut : Int) (hn : nn ≤ 9223372036854775807) :
  Calls Tryz.prog 10 #[.pointer (some ⟨gd, 0, none⟩), .pointer (some ⟨gp, 0, none⟩), v, .agg #[.int .i64 6, .int .i64 pg, .int .i64 sd, .bool sh, .int .i64 nn, .int .i64 er, .slice K nk ck, .int .i64 torn, .int .i64 cut]] w (DoesQ w0 w gd gp gl lim (failD D nn er) P S G) := by
 obtain ⟨D3, hD3⟩ : ∃ D3, D3 = failD D nn er := ⟨_, rfl⟩
 obtain ⟨e3, he3⟩ : ∃ e3, e3 = failE nn er := ⟨_, rfl⟩
 have hdn := h.dn.fail er hn
 have HDC := Lib.hid (fun W (hW : Below w.heap.size w W) => Fail_pj (h.pj.below hW) nn er hn)
 have HRC : Hid (∀ W {bA bn bc wA wn wc dn po fa wi}, RK G W (.agg #[.slice bA bn bc, .slice wA wn wc, .bool dn, .int .i64 po, .int .i64 fa, .int .i64 wi]) D → (∀ {W1 : World}, Off S W1 W → Below w.heap.size w W1 → (∀ k, G k → k < W.heap.size) → Calls Tryz.prog 38 #[.agg #[.slice bA bn bc, .slice wA wn wc, .bool dn, .int .i64 po, .int .i64 fa, .int .i64 wi], .int .i64 nn, .int .i64 er] W fun e w' => ∃ bA3 bn3 bc3 wA3 wn3 wc3 dn3 po3 fa3 wi3, e = .returned (.tuple #[.agg #[.slice bA3 bn3 bc3, .slice wA3 wn3 wc3, .bool dn3, .int .i64 po3, .int .i64 fa3, .int .i64 wi3], .int .i64 e3]) ∧ RK (plusG G W w') w' (.agg #[.slice bA3 bn3 bc3, .slice wA3 wn3 wc3, .bool dn3, .int .i64 po3, .int .i64 fa3, .int .i64 wi3]) D3 ∧ Below W.heap.size W w')) := Lib.hid (fun W bA bn bc wA wn wc dn po fa wi hrk W1 hO hW1 hg => (refFailing_any G _ D nn er W hrk).mono (by
  rintro e w' ⟨v', rfl, h1, h2⟩
  rw [← hD3] at h1
  rw [← he3]
  obtain ⟨a1, a2, a3, a4, a5, a6, a7, a8, a9, a10, rfl⟩ := h1.open6
  exact ⟨a1, a2, a3, a4, a5, a6, a7, a8, a9, a10, rfl, h1.mono (fun k e => .inl e), h2⟩))
 rw [← hD3, ← he3] at HDC
 rw [← hD3] at hdn ⊢
 have HDN := Lib.hid hdn
 clear hdn hD3 he3
 clear hn
 obtain ⟨bA, bn, bc, wA, wn, wc, dn, po, fa, wi, fv, q, rfl, h1, h2, h3⟩ := h.rp
 obtain ⟨A, c, rfl, _, _, _⟩ := h2.form
 have HH := Lib.hid h
 have HK := Lib.hid h1
 have HFG := Lib.hid h2
 have HQF := Lib.hid h3
 have HT := Lib.hid (threeQ w (.slice bA bn bc) (.slice wA wn wc) (.bool dn) (.int .i64 po) (.int .i64 fa) (.int .i64 wi) (.int .i64 (P.base : Int)) (.int .i64 (P.pages : Int)) (.int .i64 (P.most : Int)) (.int .i64 (P.epoch : Int)) (.int .i64 (P.count : Int)) (.int .i64 lim) (.slice A q.length c) (.int .i64 (P.hand : Int)) (.int .i64 6) (.int .i64 pg) (.int .i64 sd) (.bool sh) (.int .i64 nn) (.int .i64 er) (.slice K nk ck) (.int .i64 torn) (.int .i64 cut))
 obtain ⟨n, hn⟩ : ∃ n, n = q.length := ⟨_, rfl⟩
 have HN := Lib.hid hn
 rw [← hn] at HT ⊢
 clear h1 h2 h3 hn h
 go_enter Tryz.func10, Tryz.ntmps10
 go_upto_region 1 with fail
 obtain ⟨x1, xo, x3, hb, hs⟩ := HT.out _ rfl
 clear HT
 generalize ((w.alloc (.cells #[.slice bA bn bc, .slice wA wn wc, .bool dn, .int .i64 po, .int .i64 fa, .int .i64 wi, .int .i64 (P.base : Int), .int .i64 (P.pages : Int), .int .i64 (P.most : Int), .int .i64 (P.epoch : Int), .int .i64 (P.count : Int), .int .i64 lim, .slice A n c, .int .i64 (P.hand : Int)] 42)).alloc (.cells #[.int .i64 6, .int .i64 pg, .int .i64 sd, .bool sh, .int .i64 nn, .int .i64 er, .slice K nk ck, .int .i64 torn, .int .i64 cut] 49)).alloc (.cells #[.slice none 0 0, .slice none 0 0, .bool false, .int .i64 0, .int .i64 0, .int .i64 0, .int .i64 0, .int .i64 0, .int .i64 0, .int .i64 0, .int .i64 0, .int .i64 0, .slice none 0 0, .int .i64 0] 42) = w1 at *
 have X1 := Lib.hid x1
 have XO := Lib.hid xo
 have X3 := Lib.hid x3
 have HB := Lib.hid hb
 have HS1 := Lib.hid hs
 have o0 := xo.c0
 clear x1 xo x3 hb hs
 have o1 := XO.out.c1
 have o4 := XO.out.c4
 have o5 := XO.out.c5
 have o6 := XO.out.c6
 have o7 := XO.out.c7
 have o8 := XO.out.c8
 go_upto_region 26 with fail
 go_upto_region 27 with fail
 clear o0 o1 o4 o5 o6 o7 o8
 refine (HDC.out w1 HB.out).mono ?_
 rintro e w2 ⟨rfl, S2, hj, hm⟩
 have HJ := Lib.hid hj
 have HM := Lib.hid hm
 have hSk : ∀ k, w.heap.size ≤ k → k < w1.heap.size → ¬ S k := fun k h1 _ e => by have := HH.out.pj.lt e; omega
 have X1 := Lib.hid (X1.out.off hm.1 (hSk _ (Nat.le_refl _) (by have := HS1.out; omega)))
 have XO := Lib.hid (XO.out.off hm.1 (hSk _ (by omega) (by have := HS1.out; omega)))
 have X3 := Lib.hid (X3.out.off hm.1 (hSk _ (by omega) (by have := HS1.out; omega)))
 have HRK2 : Hid (RK G w2 (.agg #[.slice bA bn bc, .slice wA wn wc, .bool dn, .int .i64 po, .int .i64 fa, .int .i64 wi]) D) := Lib.hid ((HK.out.below HB.out).off hm.1 HH.out.sg)
 have HFG2 : Hid (FG G w2 (.slice A n c) q) := Lib.hid (((show FG G w (.slice A n c) q by rw [HN.out]; exact HFG.out).below HB.out).off hm.1 HH.out.sg)
 have HS2 : Hid (w1.heap.size ≤ w2.heap.size) := Lib.hid hm.1.size
 have HMO := Lib.hid hm.1
 clear hj hm hSk HDC
 have y0 := X1.out.c0
 have y1 := X1.out.c1
 have y2 := X1.out.c2
 have y3 := X1.out.c3
 have y4 := X1.out.c4
 have y5 := X1.out.c5
 have o4 := XO.out.c4
 have o5 := XO.out.c5
 have o6 := XO.out.c6
 have o7 := XO.out.c7
 have o8 := XO.out.c8
 go_upto_region 27 with fail
 go_upto_region 28 with fail
 refine (HRC.out w2 HRK2.out HMO.out HB.out (fun k hk => by have := (HH.out.gw k hk).2; have := HB.out.size; have := HS2.out; omega)).mono ?_
 rintro e w3 ⟨bA3, bn3, bc3, wA3, wn3, wc3, dn3, po3, fa3, wi3, rfl, hrk, hb3⟩
 have HRK3 := Lib.hid hrk
 have HB3 := Lib.hid hb3
 have hgr := gr_alloc (gr_refl w3) (.cells #[.slice bA3 bn3 bc3, .slice wA3 wn3 wc3, .bool dn3, .int .i64 po3, .int .i64 fa3, .int .i64 wi3] 33)
 have HB4 := Lib.hid hgr
 have Z6 := Lib.hid (B6.new w3 (.slice bA3 bn3 bc3) (.slice wA3 wn3 wc3) (.bool dn3) (.int .i64 po3) (.int .i64 fa3) (.int .i64 wi3))
 have X1 := Lib.hid ((X1.out.below hb3).below hgr)
 have X3 := Lib.hid ((X3.out.below hb3).below hgr)
 clear hrk hb3 hgr HRC o4 o5 o6 o7 o8 y0 y1 y2 y3 y4 y5
 go_upto_region 28 with fail
 generalize w3.alloc (.cells #[.slice bA3 bn3 bc3, .slice wA3 wn3 wc3, .bool dn3, .int .i64 po3, .int .i64 fa3, .int .i64 wi3] 33) = w4 at *
 have y0 := X1.out.c0
 have yz0 := X1.out.fz 0
 have u0 := Z6.out.c0
 have y1 := X1.out.c1
 have yz1 := X1.out.fz 1
 have u1 := Z6.out.c1
 have y2 := X1.out.c2
 have yz2 := X1.out.fz 2
 have u2 := Z6.out.c2
 have y3 := X1.out.c3
 have yz3 := X1.out.fz 3
 have u3 := Z6.out.c3
 have y4 := X1.out.c4
 have yz4 := X1.out.fz 4
 have u4 := Z6.out.c4
 have y5 := X1.out.c5
 have yz5 := X1.out.fz 5
 have u5 := Z6.out.c5
 have HS6 := Lib.hid (X1.out.disk (.slice bA3 bn3 bc3) (.slice wA3 wn3 wc3) (.bool dn3) (.int .i64 po3) (.int .i64 fa3) (.int .i64 wi3))
 go_upto_region 29 with fail
 clear y0 yz0 u0 y1 yz1 u1 y2 yz2 u2 y3 yz3 u3 y4 yz4 u4 y5 yz5 u5
 obtain ⟨x1, o13⟩ := HS6.out _ rfl
 clear HS6
 generalize ((((((w4.setCell ⟨w.heap.size, 0, none⟩ (.slice bA3 bn3 bc3)).setCell ⟨w.heap.size, 1, none⟩ (.slice wA3 wn3 wc3)).setCell ⟨w.heap.size, 2, none⟩ (.bool dn3)).setCell ⟨w.heap.size, 3, none⟩ (.int .i64 po3)).setCell ⟨w.heap.size, 4, none⟩ (.int .i64 fa3)).setCell ⟨w.heap.size, 5, none⟩ (.int .i64 wi3)) = w5 at *
 have X1 := Lib.hid x1
 have X3 := Lib.hid (X3.out.off o13 (by omega))
 have HO5 := Lib.hid o13
 clear x1 o13
 have t1 : ((e3 : Int) == e3) = true := beq_self_eq_true _
 have y0 := X1.out.c0
 have y1 := X1.out.c1
 have y2 := X1.out.c2
 have y3 := X1.out.c3
 have y4 := X1.out.c4
 have y5 := X1.out.c5
 have y6 := X1.out.c6
 have y7 := X1.out.c7
 have y8 := X1.out.c8
 have y9 := X1.out.c9
 have y10 := X1.out.c10
 have y11 := X1.out.c11
 have y12 := X1.out.c12
 have y13 := X1.out.c13
 have r0 := X3.out.c0
 have r1 := X3.out.c1
 have r2 := X3.out.c2
 have r3 := X3.out.c3
 have r4 := X3.out.c4
 have r5 := X3.out.c5
 have r6 := X3.out.c6
 have r7 := X3.out.c7
 have r8 := X3.out.c8
 have r9 := X3.out.c9
 have r10 := X3.out.c10
 have r11 := X3.out.c11
 have r12 := X3.out.c12
 have r13 := X3.out.c13
 have rz0 := X3.out.fz 0
 have rz1 := X3.out.fz 1
 have rz2 := X3.out.fz 2
 have rz3 := X3.out.fz 3
 have rz4 := X3.out.fz 4
 have rz5 := X3.out.fz 5
 have rz6 := X3.out.fz 6
 have rz7 := X3.out.fz 7
 have rz8 := X3.out.fz 8
 have rz9 := X3.out.fz 9
 have rz10 := X3.out.fz 10
 have rz11 := X3.out.fz 11
 have rz12 := X3.out.fz 12
 have rz13 := X3.out.fz 13
 have HSs1 := Lib.hid (X3.out.all (.slice bA3 bn3 bc3) (.slice wA3 wn3 wc3) (.bool dn3) (.int .i64 po3) (.int .i64 fa3) (.int .i64 wi3) (.int .i64 (P.base : Int)) (.int .i64 (P.pages : Int)) (.int .i64 (P.most : Int)) (.int .i64 (P.epoch : Int)) (.int .i64 (P.count : Int)) (.int .i64 lim) (.slice A n c) (.int .i64 (P.hand : Int)))
 go_wp2_with fail
 clear r0 r1 r2 r3 r4 r5 r6 r7 r8 r9 r10 r11 r12 r13 rz0 rz1 rz2 rz3 rz4 rz5 rz6 rz7 rz8 rz9 rz10 rz11 rz12 rz13
 obtain ⟨s1, s1o⟩ := HSs1.out _ rfl
 clear HSs1
 generalize ((((((((((((((w5.setCell ⟨w.heap.size + 2, 0, none⟩ (.slice bA3 bn3 bc3)).setCell ⟨w.heap.size + 2, 1, none⟩ (.slice wA3 wn3 wc3)).setCell ⟨w.heap.size + 2, 2, none⟩ (.bool dn3)).setCell ⟨w.heap.size + 2, 3, none⟩ (.int .i64 po3)).setCell ⟨w.heap.size + 2, 4, none⟩ (.int .i64 fa3)).setCell ⟨w.heap.size + 2, 5, none⟩ (.int .i64 wi3)).setCell ⟨w.heap.size + 2, 6, none⟩ (.int .i64 (P.base : Int))).setCell ⟨w.heap.size + 2, 7, none⟩ (.int .i64 (P.pages : Int))).setCell ⟨w.heap.size + 2, 8, none⟩ (.int .i64 (P.most : Int))).setCell ⟨w.heap.size + 2, 9, none⟩ (.int .i64 (P.epoch : Int))).setCell ⟨w.heap.size + 2, 10, none⟩ (.int .i64 (P.count : Int))).setCell ⟨w.heap.size + 2, 11, none⟩ (.int .i64 lim)).setCell ⟨w.heap.size + 2, 12, none⟩ (.slice A n c)).setCell ⟨w.heap.size + 2, 13, none⟩ (.int .i64 (P.hand : Int))) = wf at *
 clear y0 y1 y2 y3 y4 y5 y6 y7 y8 y9 y10 y11 y12 y13
 have z0 := s1.c0
 have z1 := s1.c1
 have z2 := s1.c2
 have z3 := s1.c3
 have z4 := s1.c4
 have z5 := s1.c5
 have z6 := s1.c6
 have z7 := s1.c7
 have z8 := s1.c8
 have z9 := s1.c9
 have z10 := s1.c10
 have z11 := s1.c11
 have z12 := s1.c12
 have z13 := s1.c13
 refine bodyPost_ret (v := .tuple #[.agg #[.slice bA3 bn3 bc3, .slice wA3 wn3 wc3, .bool dn3, .int .i64 po3, .int .i64 fa3, .int .i64 wi3, .int .i64 (P.base : Int), .int .i64 (P.pages : Int), .int .i64 (P.most : Int), .int .i64 (P.epoch : Int), .int .i64 (P.count : Int), .int .i64 lim, .slice A n c, .int .i64 (P.hand : Int)], .bool true]) (by simp [results, Tryz.results10, go_sem, z0, z1, z2, z3, z4, z5, z6, z7, z8, z9, z10, z11, z12, z13]) rfl ?_
 have hall : Off (fun k => k = w.heap.size ∨ k = w.heap.size + 2) w3 wf := ((Off.of_below HB4.out).trans (HO5.out.mono (fun k _ e => .inl e))).trans (s1o.mono (fun k _ e => .inr e))
 have hrp3 : RP (plusG G w2 w3) w3 (.agg #[.slice bA3 bn3 bc3, .slice wA3 wn3 wc3, .bool dn3, .int .i64 po3, .int .i64 fa3, .int .i64 wi3, .int .i64 (P.base : Int), .int .i64 (P.pages : Int), .int .i64 (P.most : Int), .int .i64 (P.epoch : Int), .int .i64 (P.count : Int), .int .i64 lim, .slice A n c, .int .i64 (P.hand : Int)]) D3 P lim := ⟨bA3, bn3, bc3, wA3, wn3, wc3, dn3, po3, fa3, wi3, _, q, rfl, HRK3.out, (HFG2.out.below HB3.out).mono (fun k e => .inl e), HQF.out⟩
 have hst := HH.out.step HB.out HJ.out HM.out hrp3 HB3.out hall (fun k e => ⟨by omega, fun e2 => by
   have := HS1.out
   rcases HM.out.2 k e2 with e3 | e3
   ·have := HH.out.pj.lt e3; omega
   ·omega, fun e2 => by
   have := HS1.out
   have := HS2.out
   rcases e2 with e2 | e2
   ·have := (HH.out.gw k e2).2; omega
   ·omega⟩) HDN.out
 exact ⟨_, _, _, rfl, hst.1, hst.2.1, hst.2.2⟩
set_option maxRecDepth 100000 in
set_option maxHeartbeats 8000000 in
theorem does_crash {w0 w : World} {gd gp gl : Nat} {v : Value} {lim : Int} {G S : Nat → Prop} {D : DiskS} {P : PoS} (h : QS w0 w gd gp gl v lim G D P S) (pg sd : Int) (sh : Bool) (nn er : Int) (K : Option Addr) (nk ck : Nat) (torn cut : Int) (keep : List Bool) (hK : LR w K nk keep) (hA : ∀ ad, K = some ad → 0 < nk → ¬ S ad.block) (hnk : nk ≤ 9223372036854775807) (hpl : D.pending.length ≤ 1000000) :
  Calls Tryz.prog 10 #[.pointer (some ⟨gd, 0, none⟩), .pointer (some ⟨gp, 0, none⟩), v, .agg #[.int .i64 7, .int .i64 pg, .int .i64 sd, .bool sh, .int .i64 nn, .int .i64 er, .slice K nk ck, .int .i64 torn, .int .i64 cut]] w (DoesQ w0 w gd gp gl lim (crashD D keep torn cut) P S G) := by
 obtain ⟨D3, hD3⟩ : ∃ D3, D3 = crashD D keep torn cut := ⟨_, rfl⟩
 obtain ⟨e3, he3⟩ : ∃ e3, e3 = crashE cut := ⟨_, rfl⟩
 have hdn := h.dn.crash keep torn cut
 have HDC := Lib.hid (fun W (hW : Below w.heap.size w W) => Crash_pj (h.pj.below hW) K nk ck keep torn cut (Rd.below hK hW) hA hnk hpl)
 have HRC : Hid (∀ W {bA bn bc wA wn wc dn po fa wi}, RK G W (.agg #[.slice bA bn bc, .slice wA wn wc, .bool dn, .int .i64 po, .int .i64 fa, .int .i64 wi]) D → (∀ {W1 : World}, Off S W1 W → Below w.heap.size w W1 → (∀ k, G k → k < W.heap.size) → Calls Tryz.prog 40 #[.agg #[.slice bA bn bc, .slice wA wn wc, .bool dn, .int .i64 po, .int .i64 fa, .int .i64 wi], .agg #[.slice K nk ck, .int .i64 torn, .int .i64 cut]] W fun e w' => ∃ bA3 bn3 bc3 wA3 wn3 wc3 dn3 po3 fa3 wi3, e = .returned (.tuple #[.agg #[.slice bA3 bn3 bc3, .slice wA3 wn3 wc3, .bool dn3, .int .i64 po3, .int .i64 fa3, .int .i64 wi3], .int .i64 e3]) ∧ RK (plusG G W w') w' (.agg #[.slice bA3 bn3 bc3, .slice wA3 wn3 wc3, .bool dn3, .int .i64 po3, .int .i64 fa3, .int .i64 wi3]) D3 ∧ Below W.heap.size W w')) := Lib.hid (fun W bA bn bc wA wn wc dn po fa wi hrk W1 hO hW1 hg => (refCrash_any G _ D K nk ck keep torn cut W hrk hg (Rd.off (Rd.below hK hW1) hO hA) hnk h.dn.bl hpl).mono (by
  rintro e w' ⟨v', rfl, h1, h2⟩
  rw [← hD3] at h1
  rw [← he3]
  obtain ⟨a1, a2, a3, a4, a5, a6, a7, a8, a9, a10, rfl⟩ := h1.open6
  exact ⟨a1, a2, a3, a4, a5, a6, a7, a8, a9, a10, rfl, h1, h2⟩))
 rw [← hD3, ← he3] at HDC
 rw [← hD3] at hdn ⊢
 have HDN := Lib.hid hdn
 clear hdn hD3 he3
 clear hK hA hnk hpl
 obtain ⟨bA, bn, bc, wA, wn, wc, dn, po, fa, wi, fv, q, rfl, h1, h2, h3⟩ := h.rp
 obtain ⟨A, c, rfl, _, _, _⟩ := h2.form
 have HH := Lib.hid h
 have HK := Lib.hid h1
 have HFG := Lib.hid h2
 have HQF := Lib.hid h3
 have HT := Lib.hid (threeQ w (.slice bA bn bc) (.slice wA wn wc) (.bool dn) (.int .i64 po) (.int .i64 fa) (.int .i64 wi) (.int .i64 (P.base : Int)) (.int .i64 (P.pages : Int)) (.int .i64 (P.most : Int)) (.int .i64 (P.epoch : Int)) (.int .i64 (P.count : Int)) (.int .i64 lim) (.slice A q.length c) (.int .i64 (P.hand : Int)) (.int .i64 7) (.int .i64 pg) (.int .i64 sd) (.bool sh) (.int .i64 nn) (.int .i64 er) (.slice K nk ck) (.int .i64 torn) (.int .i64 cut))
 obtain ⟨n, hn⟩ : ∃ n, n = q.length := ⟨_, rfl⟩
 have HN := Lib.hid hn
 rw [← hn] at HT ⊢
 clear h1 h2 h3 hn h
 go_enter Tryz.func10, Tryz.ntmps10
 go_upto_region 1 with fail
 obtain ⟨x1, xo, x3, hb, hs⟩ := HT.out _ rfl
 clear HT
 generalize ((w.alloc (.cells #[.slice bA bn bc, .slice wA wn wc, .bool dn, .int .i64 po, .int .i64 fa, .int .i64 wi, .int .i64 (P.base : Int), .int .i64 (P.pages : Int), .int .i64 (P.most : Int), .int .i64 (P.epoch : Int), .int .i64 (P.count : Int), .int .i64 lim, .slice A n c, .int .i64 (P.hand : Int)] 42)).alloc (.cells #[.int .i64 7, .int .i64 pg, .int .i64 sd, .bool sh, .int .i64 nn, .int .i64 er, .slice K nk ck, .int .i64 torn, .int .i64 cut] 49)).alloc (.cells #[.slice none 0 0, .slice none 0 0, .bool false, .int .i64 0, .int .i64 0, .int .i64 0, .int .i64 0, .int .i64 0, .int .i64 0, .int .i64 0, .int .i64 0, .int .i64 0, .slice none 0 0, .int .i64 0] 42) = w1 at *
 have X1 := Lib.hid x1
 have XO := Lib.hid xo
 have X3 := Lib.hid x3
 have HB := Lib.hid hb
 have HS1 := Lib.hid hs
 have o0 := xo.c0
 clear x1 xo x3 hb hs
 have o1 := XO.out.c1
 have o4 := XO.out.c4
 have o5 := XO.out.c5
 have o6 := XO.out.c6
 have o7 := XO.out.c7
 have o8 := XO.out.c8
 go_upto_region 31 with fail
 go_upto_region 32 with fail
 clear o0 o1 o4 o5 o6 o7 o8
 refine (HDC.out w1 HB.out).mono ?_
 rintro e w2 ⟨rfl, S2, hj, hm⟩
 have HJ := Lib.hid hj
 have HM := Lib.hid hm
 have hSk : ∀ k, w.heap.size ≤ k → k < w1.heap.size → ¬ S k := fun k h1 _ e => by have := HH.out.pj.lt e; omega
 have X1 := Lib.hid (X1.out.off hm.1 (hSk _ (Nat.le_refl _) (by have := HS1.out; omega)))
 have XO := Lib.hid (XO.out.off hm.1 (hSk _ (by omega) (by have := HS1.out; omega)))
 have X3 := Lib.hid (X3.out.off hm.1 (hSk _ (by omega) (by have := HS1.out; omega)))
 have HRK2 : Hid (RK G w2 (.agg #[.slice bA bn bc, .slice wA wn wc, .bool dn, .int .i64 po, .int .i64 fa, .int .i64 wi]) D) := Lib.hid ((HK.out.below HB.out).off hm.1 HH.out.sg)
 have HFG2 : Hid (FG G w2 (.slice A n c) q) := Lib.hid (((show FG G w (.slice A n c) q by rw [HN.out]; exact HFG.out).below HB.out).off hm.1 HH.out.sg)
 have HS2 : Hid (w1.heap.size ≤ w2.heap.size) := Lib.hid hm.1.size
 have HMO := Lib.hid hm.1
 clear hj hm hSk HDC
 have y0 := X1.out.c0
 have y1 := X1.out.c1
 have y2 := X1.out.c2
 have y3 := X1.out.c3
 have y4 := X1.out.c4
 have y5 := X1.out.c5
 have o4 := XO.out.c4
 have o5 := XO.out.c5
 have o6 := XO.out.c6
 have o7 := XO.out.c7
 have o8 := XO.out.c8
 go_upto_region 32 with fail
 go_upto_region 33 with fail
 refine (HRC.out w2 HRK2.out HMO.out HB.out (fun k hk => by have := (HH.out.gw k hk).2; have := HB.out.size; have := HS2.out; omega)).mono ?_
 rintro e w3 ⟨bA3, bn3, bc3, wA3, wn3, wc3, dn3, po3, fa3, wi3, rfl, hrk, hb3⟩
 have HRK3 := Lib.hid hrk
 have HB3 := Lib.hid hb3
 have hgr := gr_alloc (gr_refl w3) (.cells #[.slice bA3 bn3 bc3, .slice wA3 wn3 wc3, .bool dn3, .int .i64 po3, .int .i64 fa3, .int .i64 wi3] 33)
 have HB4 := Lib.hid hgr
 have Z6 := Lib.hid (B6.new w3 (.slice bA3 bn3 bc3) (.slice wA3 wn3 wc3) (.bool dn3) (.int .i64 po3) (.int .i64 fa3) (.int .i64 wi3))
 have X1 := Lib.hid ((X1.out.below hb3).below hgr)
 have X3 := Lib.hid ((X3.out.below hb3).below hgr)
 clear hrk hb3 hgr HRC o4 o5 o6 o7 o8 y0 y1 y2 y3 y4 y5
 go_upto_region 33 with fail
 generalize w3.alloc (.cells #[.slice bA3 bn3 bc3, .slice wA3 wn3 wc3, .bool dn3, .int .i64 po3, .int .i64 fa3, .int .i64 wi3] 33) = w4 at *
 have y0 := X1.out.c0
 have yz0 := X1.out.fz 0
 have u0 := Z6.out.c0
 have y1 := X1.out.c1
 have yz1 := X1.out.fz 1
 have u1 := Z6.out.c1
 have y2 := X1.out.c2
 have yz2 := X1.out.fz 2
 have u2 := Z6.out.c2
 have y3 := X1.out.c3
 have yz3 := X1.out.fz 3
 have u3 := Z6.out.c3
 have y4 := X1.out.c4
 have yz4 := X1.out.fz 4
 have u4 := Z6.out.c4
 have y5 := X1.out.c5
 have yz5 := X1.out.fz 5
 have u5 := Z6.out.c5
 have HS6 := Lib.hid (X1.out.disk (.slice bA3 bn3 bc3) (.slice wA3 wn3 wc3) (.bool dn3) (.int .i64 po3) (.int .i64 fa3) (.int .i64 wi3))
 go_upto_region 34 with fail
 clear y0 yz0 u0 y1 yz1 u1 y2 yz2 u2 y3 yz3 u3 y4 yz4 u4 y5 yz5 u5
 obtain ⟨x1, o13⟩ := HS6.out _ rfl
 clear HS6
 generalize ((((((w4.setCell ⟨w.heap.size, 0, none⟩ (.slice bA3 bn3 bc3)).setCell ⟨w.heap.size, 1, none⟩ (.slice wA3 wn3 wc3)).setCell ⟨w.heap.size, 2, none⟩ (.bool dn3)).setCell ⟨w.heap.size, 3, none⟩ (.int .i64 po3)).setCell ⟨w.heap.size, 4, none⟩ (.int .i64 fa3)).setCell ⟨w.heap.size, 5, none⟩ (.int .i64 wi3)) = w5 at *
 have X1 := Lib.hid x1
 have X3 := Lib.hid (X3.out.off o13 (by omega))
 have HO5 := Lib.hid o13
 clear x1 o13
 have t1 : ((e3 : Int) == e3) = true := beq_self_eq_true _
 have y0 := X1.out.c0
 have y1 := X1.out.c1
 have y2 := X1.out.c2
 have y3 := X1.out.c3
 have y4 := X1.out.c4
 have y5 := X1.out.c5
 have y6 := X1.out.c6
 have y7 := X1.out.c7
 have y8 := X1.out.c8
 have y9 := X1.out.c9
 have y10 := X1.out.c10
 have y11 := X1.out.c11
 have y12 := X1.out.c12
 have y13 := X1.out.c13
 have r0 := X3.out.c0
 have r1 := X3.out.c1
 have r2 := X3.out.c2
 have r3 := X3.out.c3
 have r4 := X3.out.c4
 have r5 := X3.out.c5
 have r6 := X3.out.c6
 have r7 := X3.out.c7
 have r8 := X3.out.c8
 have r9 := X3.out.c9
 have r10 := X3.out.c10
 have r11 := X3.out.c11
 have r12 := X3.out.c12
 have r13 := X3.out.c13
 have rz0 := X3.out.fz 0
 have rz1 := X3.out.fz 1
 have rz2 := X3.out.fz 2
 have rz3 := X3.out.fz 3
 have rz4 := X3.out.fz 4
 have rz5 := X3.out.fz 5
 have rz6 := X3.out.fz 6
 have rz7 := X3.out.fz 7
 have rz8 := X3.out.fz 8
 have rz9 := X3.out.fz 9
 have rz10 := X3.out.fz 10
 have rz11 := X3.out.fz 11
 have rz12 := X3.out.fz 12
 have rz13 := X3.out.fz 13
 have HSs1 := Lib.hid (X3.out.all (.slice bA3 bn3 bc3) (.slice wA3 wn3 wc3) (.bool dn3) (.int .i64 po3) (.int .i64 fa3) (.int .i64 wi3) (.int .i64 (P.base : Int)) (.int .i64 (P.pages : Int)) (.int .i64 (P.most : Int)) (.int .i64 (P.epoch : Int)) (.int .i64 (P.count : Int)) (.int .i64 lim) (.slice A n c) (.int .i64 (P.hand : Int)))
 go_wp2_with fail
 clear r0 r1 r2 r3 r4 r5 r6 r7 r8 r9 r10 r11 r12 r13 rz0 rz1 rz2 rz3 rz4 rz5 rz6 rz7 rz8 rz9 rz10 rz11 rz12 rz13
 obtain ⟨s1, s1o⟩ := HSs1.out _ rfl
 clear HSs1
 generalize ((((((((((((((w5.setCell ⟨w.heap.size + 2, 0, none⟩ (.slice bA3 bn3 bc3)).setCell ⟨w.heap.size + 2, 1, none⟩ (.slice wA3 wn3 wc3)).setCell ⟨w.heap.size + 2, 2, none⟩ (.bool dn3)).setCell ⟨w.heap.size + 2, 3, none⟩ (.int .i64 po3)).setCell ⟨w.heap.size + 2, 4, none⟩ (.int .i64 fa3)).setCell ⟨w.heap.size + 2, 5, none⟩ (.int .i64 wi3)).setCell ⟨w.heap.size + 2, 6, none⟩ (.int .i64 (P.base : Int))).setCell ⟨w.heap.size + 2, 7, none⟩ (.int .i64 (P.pages : Int))).setCell ⟨w.heap.size + 2, 8, none⟩ (.int .i64 (P.most : Int))).setCell ⟨w.heap.size + 2, 9, none⟩ (.int .i64 (P.epoch : Int))).setCell ⟨w.heap.size + 2, 10, none⟩ (.int .i64 (P.count : Int))).setCell ⟨w.heap.size + 2, 11, none⟩ (.int .i64 lim)).setCell ⟨w.heap.size + 2, 12, none⟩ (.slice A n c)).setCell ⟨w.heap.size + 2, 13, none⟩ (.int .i64 (P.hand : Int))) = wf at *
 clear y0 y1 y2 y3 y4 y5 y6 y7 y8 y9 y10 y11 y12 y13
 have z0 := s1.c0
 have z1 := s1.c1
 have z2 := s1.c2
 have z3 := s1.c3
 have z4 := s1.c4
 have z5 := s1.c5
 have z6 := s1.c6
 have z7 := s1.c7
 have z8 := s1.c8
 have z9 := s1.c9
 have z10 := s1.c10
 have z11 := s1.c11
 have z12 := s1.c12
 have z13 := s1.c13
 refine bodyPost_ret (v := .tuple #[.agg #[.slice bA3 bn3 bc3, .slice wA3 wn3 wc3, .bool dn3, .int .i64 po3, .int .i64 fa3, .int .i64 wi3, .int .i64 (P.base : Int), .int .i64 (P.pages : Int), .int .i64 (P.most : Int), .int .i64 (P.epoch : Int), .int .i64 (P.count : Int), .int .i64 lim, .slice A n c, .int .i64 (P.hand : Int)], .bool true]) (by simp [results, Tryz.results10, go_sem, z0, z1, z2, z3, z4, z5, z6, z7, z8, z9, z10, z11, z12, z13]) rfl ?_
 have hall : Off (fun k => k = w.heap.size ∨ k = w.heap.size + 2) w3 wf := ((Off.of_below HB4.out).trans (HO5.out.mono (fun k _ e => .inl e))).trans (s1o.mono (fun k _ e => .inr e))
 have hrp3 : RP (plusG G w2 w3) w3 (.agg #[.slice bA3 bn3 bc3, .slice wA3 wn3 wc3, .bool dn3, .int .i64 po3, .int .i64 fa3, .int .i64 wi3, .int .i64 (P.base : Int), .int .i64 (P.pages : Int), .int .i64 (P.most : Int), .int .i64 (P.epoch : Int), .int .i64 (P.count : Int), .int .i64 lim, .slice A n c, .int .i64 (P.hand : Int)]) D3 P lim := ⟨bA3, bn3, bc3, wA3, wn3, wc3, dn3, po3, fa3, wi3, _, q, rfl, HRK3.out, (HFG2.out.below HB3.out).mono (fun k e => .inl e), HQF.out⟩
 have hst := HH.out.step HB.out HJ.out HM.out hrp3 HB3.out hall (fun k e => ⟨by omega, fun e2 => by
   have := HS1.out
   rcases HM.out.2 k e2 with e3 | e3
   ·have := HH.out.pj.lt e3; omega
   ·omega, fun e2 => by
   have := HS1.out
   have := HS2.out
   rcases e2 with e2 | e2
   ·have := (HH.out.gw k e2).2; omega
   ·omega⟩) HDN.out
 exact ⟨_, _, _, rfl, hst.1, hst.2.1, hst.2.2⟩
end Go.Proofs.YtmdgnjmhbjdlmaaGreat

/-! PsC -/
namespace Go.Proofs.YtmdgnjmhbjdlmaaGreat
open Go Go.RowKit
set_option maxRecDepth 100000 in
set_option maxHeartbeats 8000000 in
theorem does_get {w0 w : World} {gd gp gl : Nat} {v : Value} {lim : Int} {G S : Nat → Prop} {D : DiskS} {P : PoS} (h : QS w0 w gd gp gl v lim G D P S) (pg sd : Int) (sh : Bool) (nn er : Int) (K : Option Addr) (nk ck : Nat) (torn cut : Int) (hpd : D.pending.length ≤ 900000) (hct : P.count ≤ 1152921504606846976) :
  Calls Tryz.prog 10 #[.pointer (some ⟨gd, 0, none⟩), .pointer (some ⟨gp, 0, none⟩), v, .agg #[.int .i64 1, .int .i64 pg, .int .i64 sd, .bool sh, .int .i64 nn, .int .i64 er, .slice K nk ck, .int .i64 torn, .int .i64 cut]] w (DoesQ w0 w gd gp gl lim (getR (some lim) D P pg).1 (getR (some lim) D P pg).2.1 S G) := by
 obtain ⟨⟨D3, P3, er3⟩, hr3⟩ : ∃ r, r = getR (some lim) D P pg := ⟨_, rfl⟩
 obtain ⟨l, hl⟩ : ∃ l, l = getL (some lim) D P pg := ⟨_, rfl⟩
 rw [← hr3]
 have hdn := h.dn.get (some lim) P pg
 have HFL := Lib.hid (fun W (hW : Below w.heap.size w W) => Get_pj (h.pj.below hW) pg hpd hct)
 have HRF := Lib.hid (fun W v' (hr : RP G W v' D P lim) (hg : ∀ k, G k → k < W.heap.size) => rGet_any hr hg h.pj.pi h.dn (by omega) hct pg)
 rw [← hr3, ← hl] at HFL HRF
 rw [← hr3] at hdn
 have HDN := Lib.hid hdn
 clear hr3 hl hdn hpd hct
 obtain ⟨bA, bn, bc, wA, wn, wc, dn, po, fa, wi, fv, q, rfl, h1, h2, h3⟩ := h.rp
 obtain ⟨A, c, rfl, _, _, _⟩ := h2.form
 have HH := Lib.hid h
 have HK := Lib.hid h1
 have HFG := Lib.hid h2
 have HQF := Lib.hid h3
 have HT := Lib.hid (threeQ w (.slice bA bn bc) (.slice wA wn wc) (.bool dn) (.int .i64 po) (.int .i64 fa) (.int .i64 wi) (.int .i64 (P.base : Int)) (.int .i64 (P.pages : Int)) (.int .i64 (P.most : Int)) (.int .i64 (P.epoch : Int)) (.int .i64 (P.count : Int)) (.int .i64 lim) (.slice A q.length c) (.int .i64 (P.hand : Int)) (.int .i64 1) (.int .i64 pg) (.int .i64 sd) (.bool sh) (.int .i64 nn) (.int .i64 er) (.slice K nk ck) (.int .i64 torn) (.int .i64 cut))
 obtain ⟨n, hn⟩ : ∃ n, n = q.length := ⟨_, rfl⟩
 have HN := Lib.hid hn
 rw [← hn] at HT ⊢
 clear h1 h2 h3 hn h
 go_enter Tryz.func10, Tryz.ntmps10
 go_upto_region 1 with fail
 obtain ⟨x1, xo, x3, hb, hs⟩ := HT.out _ rfl
 clear HT
 generalize ((w.alloc (.cells #[.slice bA bn bc, .slice wA wn wc, .bool dn, .int .i64 po, .int .i64 fa, .int .i64 wi, .int .i64 (P.base : Int), .int .i64 (P.pages : Int), .int .i64 (P.most : Int), .int .i64 (P.epoch : Int), .int .i64 (P.count : Int), .int .i64 lim, .slice A n c, .int .i64 (P.hand : Int)] 42)).alloc (.cells #[.int .i64 1, .int .i64 pg, .int .i64 sd, .bool sh, .int .i64 nn, .int .i64 er, .slice K nk ck, .int .i64 torn, .int .i64 cut] 49)).alloc (.cells #[.slice none 0 0, .slice none 0 0, .bool false, .int .i64 0, .int .i64 0, .int .i64 0, .int .i64 0, .int .i64 0, .int .i64 0, .int .i64 0, .int .i64 0, .int .i64 0, .slice none 0 0, .int .i64 0] 42) = w1 at *
 have X1 := Lib.hid x1
 have XO := Lib.hid xo
 have X3 := Lib.hid x3
 have HB := Lib.hid hb
 have HS1 := Lib.hid hs
 have o0 := xo.c0
 clear x1 xo x3 hb hs
 have o1 := XO.out.c1
 go_upto_region 3 with fail
 go_upto_region 4 with fail
 clear o0 o1
 refine (HFL.out w1 HB.out).mono ?_
 rintro e w2 ⟨v6, S2, rfl, ob6, hj, hm, hv6⟩
 obtain ⟨A6, c6, rfl, hbr6, _, _⟩ := ob6.form
 have HJ := Lib.hid hj
 have HM := Lib.hid hm
 have HBR6 := Lib.hid hbr6
 have hSk : ∀ k, w.heap.size ≤ k → k < w1.heap.size → ¬ S k := fun k h1 _ e => by have := HH.out.pj.lt e; omega
 have X1 := Lib.hid (X1.out.off hm.1 (hSk _ (Nat.le_refl _) (by have := HS1.out; omega)))
 have XO := Lib.hid (XO.out.off hm.1 (hSk _ (by omega) (by have := HS1.out; omega)))
 have X3 := Lib.hid (X3.out.off hm.1 (hSk _ (by omega) (by have := HS1.out; omega)))
 have HRP2 : Hid (RP G w2 (.agg #[.slice bA bn bc, .slice wA wn wc, .bool dn, .int .i64 po, .int .i64 fa, .int .i64 wi, .int .i64 (P.base : Int), .int .i64 (P.pages : Int), .int .i64 (P.most : Int), .int .i64 (P.epoch : Int), .int .i64 (P.count : Int), .int .i64 lim, .slice A n c, .int .i64 (P.hand : Int)]) D P lim) := Lib.hid (((show RP G w (.agg #[.slice bA bn bc, .slice wA wn wc, .bool dn, .int .i64 po, .int .i64 fa, .int .i64 wi, .int .i64 (P.base : Int), .int .i64 (P.pages : Int), .int .i64 (P.most : Int), .int .i64 (P.epoch : Int), .int .i64 (P.count : Int), .int .i64 lim, .slice A n c, .int .i64 (P.hand : Int)]) D P lim from ⟨bA, bn, bc, wA, wn, wc, dn, po, fa, wi, _, q, rfl, HK.out, by rw [HN.out]; exact HFG.out, HQF.out⟩).below HB.out).off hm.1 HH.out.sg)
 have HS2 : Hid (w1.heap.size ≤ w2.heap.size) := Lib.hid hm.1.size
 have o1 := XO.out.c1
 clear hj hm hSk HFL ob6 hv6 hbr6
 have y0 := X1.out.c0
 have y1 := X1.out.c1
 have y2 := X1.out.c2
 have y3 := X1.out.c3
 have y4 := X1.out.c4
 have y5 := X1.out.c5
 have y6 := X1.out.c6
 have y7 := X1.out.c7
 have y8 := X1.out.c8
 have y9 := X1.out.c9
 have y10 := X1.out.c10
 have y11 := X1.out.c11
 have y12 := X1.out.c12
 have y13 := X1.out.c13
 go_upto_region 4 with fail
 go_upto_region 5 with fail
 refine (HRF.out w2 _ HRP2.out (fun k hk => by have := (HH.out.gw k hk).2; have := HB.out.size; have := HS2.out; omega)).mono ?_
 rintro e w3 ⟨v', A7, n7, c7, rfl, hrp, hbr7, _, _, hb3⟩
 have HRP3 := Lib.hid hrp
 have HBR7 := Lib.hid hbr7
 obtain ⟨bA3, bn3, bc3, wA3, wn3, wc3, dn3, po3, fa3, wi3, fv3, q3, rfl, h1, h2, h3⟩ := hrp
 obtain ⟨A3, c3, rfl, _, _, _⟩ := h2.form
 obtain ⟨n3, hn3⟩ : ∃ n3, n3 = q3.length := ⟨_, rfl⟩
 rw [← hn3] at HRP3 ⊢
 have HB3 := Lib.hid hb3
 have HBR6 := Lib.hid (HBR6.out.below hb3)
 have X3 := Lib.hid (X3.out.below hb3)
 have hgr := gr_alloc (gr_refl w3) (.cells #[.slice bA3 bn3 bc3, .slice wA3 wn3 wc3, .bool dn3, .int .i64 po3, .int .i64 fa3, .int .i64 wi3, .int .i64 (P3.base : Int), .int .i64 (P3.pages : Int), .int .i64 (P3.most : Int), .int .i64 (P3.epoch : Int), .int .i64 (P3.count : Int), .int .i64 lim, .slice A3 n3 c3, .int .i64 (P3.hand : Int)] 42)
 have HB4 := Lib.hid hgr
 have X8 := Lib.hid (B14.new w3 (.slice bA3 bn3 bc3) (.slice wA3 wn3 wc3) (.bool dn3) (.int .i64 po3) (.int .i64 fa3) (.int .i64 wi3) (.int .i64 (P3.base : Int)) (.int .i64 (P3.pages : Int)) (.int .i64 (P3.most : Int)) (.int .i64 (P3.epoch : Int)) (.int .i64 (P3.count : Int)) (.int .i64 lim) (.slice A3 n3 c3) (.int .i64 (P3.hand : Int)))
 have X3 := Lib.hid (X3.out.below hgr)
 have HSB : Hid (∀ W, Below w3.heap.size w3 W → Calls Tryz.prog 19 #[.slice A6 l.length c6, .slice A7 n7 c7] W fun e w' => e = .returned (.bool true) ∧ W = w') := Lib.hid (fun W hW => (SameBytes_any A6 A7 l.length n7 c6 c7 l l W (HBR6.out.below hW) (HBR7.out.below hW)).mono (fun e w' hx => ⟨by rw [hx.1]; simp, hx.2⟩))
 clear h1 h2 h3 hn3 hb3 hgr HRF hbr7 o1 XO y0 y1 y2 y3 y4 y5 y6 y7 y8 y9 y10 y11 y12 y13 X1
 go_upto_region 5 with fail
 have HBW4 : Hid (Below w3.heap.size w3 (w3.alloc (.cells #[.slice bA3 bn3 bc3, .slice wA3 wn3 wc3, .bool dn3, .int .i64 po3, .int .i64 fa3, .int .i64 wi3, .int .i64 (P3.base : Int), .int .i64 (P3.pages : Int), .int .i64 (P3.most : Int), .int .i64 (P3.epoch : Int), .int .i64 (P3.count : Int), .int .i64 lim, .slice A3 n3 c3, .int .i64 (P3.hand : Int)] 42))) := Lib.hid (gr_alloc (gr_refl w3) _)
 generalize w3.alloc (.cells #[.slice bA3 bn3 bc3, .slice wA3 wn3 wc3, .bool dn3, .int .i64 po3, .int .i64 fa3, .int .i64 wi3, .int .i64 (P3.base : Int), .int .i64 (P3.pages : Int), .int .i64 (P3.most : Int), .int .i64 (P3.epoch : Int), .int .i64 (P3.count : Int), .int .i64 lim, .slice A3 n3 c3, .int .i64 (P3.hand : Int)] 42) = w4 at *
 obtain ⟨g8, hg8⟩ : ∃ g, g = w3.heap.size := ⟨_, rfl⟩
 rw [← hg8] at X8 ⊢
 clear hg8
 have t1 : ((er3 : Int) == er3) = true := beq_self_eq_true _
 have Y0 := Lib.hid X8.out.c0
 have Y1 := Lib.hid X8.out.c1
 have Y2 := Lib.hid X8.out.c2
 have Y3 := Lib.hid X8.out.c3
 have Y4 := Lib.hid X8.out.c4
 have Y5 := Lib.hid X8.out.c5
 have Y6 := Lib.hid X8.out.c6
 have Y7 := Lib.hid X8.out.c7
 have Y8 := Lib.hid X8.out.c8
 have Y9 := Lib.hid X8.out.c9
 have Y10 := Lib.hid X8.out.c10
 have Y11 := Lib.hid X8.out.c11
 have Y12 := Lib.hid X8.out.c12
 have Y13 := Lib.hid X8.out.c13
 have HFIN : Hid (∀ wf, Off (fun k => k = w.heap.size + 2) w4 wf → DoesQ w0 w gd gp gl lim D3 P3 S G (.returned (.tuple #[.agg #[.slice bA3 bn3 bc3, .slice wA3 wn3 wc3, .bool dn3, .int .i64 po3, .int .i64 fa3, .int .i64 wi3, .int .i64 (P3.base : Int), .int .i64 (P3.pages : Int), .int .i64 (P3.most : Int), .int .i64 (P3.epoch : Int), .int .i64 (P3.count : Int), .int .i64 lim, .slice A3 n3 c3, .int .i64 (P3.hand : Int)], .bool true])) wf) := Lib.hid (fun wf s1o => by
  have hst := HH.out.step HB.out HJ.out HM.out HRP3.out HB3.out ((Off.of_below HB4.out).trans s1o) (fun k e => ⟨by omega, fun e2 => by
   have := HS1.out
   rcases HM.out.2 k e2 with e3 | e3
   ·have := HH.out.pj.lt e3; omega
   ·omega, fun e2 => by
   have := HS1.out
   have := HS2.out
   rcases e2 with e2 | e2
   ·have := (HH.out.gw k e2).2; omega
   ·omega⟩) HDN.out
  exact ⟨_, _, _, rfl, hst.1, hst.2.1, hst.2.2⟩)
 refine' wp_region_tailE (by kernel_rfl) (by kernel_rfl) (by kernel_rfl) (by kernel_rfl) (by kernel_rfl) (by kernel_rfl)
  [MP.is (.agg #[.slice bA3 bn3 bc3, .slice wA3 wn3 wc3, .bool dn3, .int .i64 po3, .int .i64 fa3, .int .i64 wi3, .int .i64 (P3.base : Int), .int .i64 (P3.pages : Int), .int .i64 (P3.most : Int), .int .i64 (P3.epoch : Int), .int .i64 (P3.count : Int), .int .i64 lim, .slice A3 n3 c3, .int .i64 (P3.hand : Int)]), MP.is (.int .i64 er3), MP.is (.int .i64 er3), MP.is (.bool true), MP.is (.bool true), MP.is (.slice A6 l.length c6), MP.is (.slice A7 n7 c7), MP.is (.bool true), MP.is (.bool true), MP.any, MP.any]
  (fun j => j == 9 || j == 10) 8 #[true, true, true, true, true, true, true, true, true, false, false] #[true, true, true, true, true, true, true, true, false, false, false] rfl (by kernel_rfl) (by kernel_rfl) (by kernel_rfl) ?hAA1 ?hst1 ?hend11 ?hend01
 case hAA1 =>
  intro f
  conv => lhs; simp only [putA, dstOf, List.size_toArray, List.length_cons, List.length_nil, Nat.zero_add, Nat.reduceAdd, List.getElem?_toArray, List.getElem?_cons_zero, List.getElem?_cons_succ, Option.bind_some, Act.put, List.setIfInBounds_toArray, List.set_cons_zero, List.set_cons_succ]
  first | done | exact rfl
 case hst1 =>
  refine Steps.of_list (l' := [0, 1, 2, 3, 4, 5, 6, 7, 8]) (by kernel_rfl) ?_
  refine Steps.cons rfl ?_ ?_
  ·intro f wz hB h K Q hK
   clear h
   try simp only [List.getElem_toArray, List.getElem_cons_zero]
   try rw [if_pos (by rfl)]
   have y0 := keep_of_below (bel_drew hB) Y0.out
   have y1 := keep_of_below (bel_drew hB) Y1.out
   have y2 := keep_of_below (bel_drew hB) Y2.out
   have y3 := keep_of_below (bel_drew hB) Y3.out
   have y4 := keep_of_below (bel_drew hB) Y4.out
   have y5 := keep_of_below (bel_drew hB) Y5.out
   have y6 := keep_of_below (bel_drew hB) Y6.out
   have y7 := keep_of_below (bel_drew hB) Y7.out
   have y8 := keep_of_below (bel_drew hB) Y8.out
   have y9 := keep_of_below (bel_drew hB) Y9.out
   have y10 := keep_of_below (bel_drew hB) Y10.out
   have y11 := keep_of_below (bel_drew hB) Y11.out
   have y12 := keep_of_below (bel_drew hB) Y12.out
   have y13 := keep_of_below (bel_drew hB) Y13.out
   go_simp
   exact hK _ _ (gr_refl _) rfl
  refine Steps.cons rfl ?_ ?_
  ·intro f wz hB h K Q hK
   clear h
   try rw [if_pos (by rfl)]
   go_simp
   exact hK _ _ (gr_refl _) rfl
  refine Steps.cons rfl ?_ ?_
  ·intro f wz hB h K Q hK
   clear h
   try rw [if_pos (by rfl)]
   go_simp
   exact hK _ _ (gr_refl _) rfl
  refine Steps.cons rfl ?_ ?_
  ·intro f wz hB h K Q hK
   have h1 : (MP.is (.int .i64 er3)).p (f 1) wz := h 1 (by kernel_rfl)
   have e1 : f 1 = (.int .i64 er3) := h1
   have h2 : (MP.is (.int .i64 er3)).p (f 2) wz := h 2 (by kernel_rfl)
   have e2 : f 2 = (.int .i64 er3) := h2
   simp only [e1, e2] at hK ⊢
   clear e1 e2
   clear h
   try rw [if_pos (by rfl)]
   go_simp
   exact hK _ _ (gr_refl _) rfl
  refine Steps.cons rfl ?_ ?_
  ·intro f wz hB h K Q hK
   have h3 : (MP.is (.bool true)).p (f 3) wz := h 3 (by kernel_rfl)
   have e3 : f 3 = (.bool true) := h3
   simp only [e3] at hK ⊢
   clear e3
   clear h
   try rw [if_pos (by rfl)]
   go_simp
   exact hK _ _ (gr_refl _) rfl
  refine Steps.cons rfl ?_ ?_
  ·intro f wz hB h K Q hK
   have h4 : (MP.is (.bool true)).p (f 4) wz := h 4 (by kernel_rfl)
   have e4 : f 4 = (.bool true) := h4
   simp only [e4] at hK ⊢
   clear e4
   clear h
   try rw [if_pos (by rfl)]
   go_simp
   exact hK _ _ (gr_refl _) rfl
  refine Steps.cons rfl ?_ ?_
  ·intro f wz hB h K Q hK
   have h4 : (MP.is (.bool true)).p (f 4) wz := h 4 (by kernel_rfl)
   have e4 : f 4 = (.bool true) := h4
   simp only [e4] at hK ⊢
   clear e4
   clear h
   try rw [if_pos (by rfl)]
   go_simp
   exact hK _ _ (gr_refl _) rfl
  refine Steps.cons rfl ?_ ?_
  ·intro f wz hB h K Q hK
   have h4 : (MP.is (.bool true)).p (f 4) wz := h 4 (by kernel_rfl)
   have e4 : f 4 = (.bool true) := h4
   have h5 : (MP.is (.slice A6 l.length c6)).p (f 5) wz := h 5 (by kernel_rfl)
   have e5 : f 5 = (.slice A6 l.length c6) := h5
   have h6 : (MP.is (.slice A7 n7 c7)).p (f 6) wz := h 6 (by kernel_rfl)
   have e6 : f 6 = (.slice A7 n7 c7) := h6
   simp only [e4, e5, e6] at hK ⊢
   clear e4 e5 e6
   clear h
   try rw [if_pos (by rfl)]
   go_simp
   refine (HSB.out _ (HBW4.out.trans ((bel_drew hB).mono HBW4.out.size))).mono ?_
   rintro e w5 ⟨rfl, rfl⟩
   exact hK _ _ (gr_refl _) rfl
  refine Steps.cons rfl ?_ ?_
  ·intro f wz hB h K Q hK
   have h4 : (MP.is (.bool true)).p (f 4) wz := h 4 (by kernel_rfl)
   have e4 : f 4 = (.bool true) := h4
   have h7 : (MP.is (.bool true)).p (f 7) wz := h 7 (by kernel_rfl)
   have e7 : f 7 = (.bool true) := h7
   simp only [e4, e7] at hK ⊢
   clear e4 e7
   clear h
   try rw [if_pos (by rfl)]
   go_simp
   exact hK _ _ (gr_refl _) rfl
  exact Steps.nil
 case hend11 =>
  intro f w7 hB7 hR
  conv => arg 7; simp only [putL, dstOf, List.size_toArray, List.length_cons, List.length_nil, Nat.zero_add, Nat.reduceAdd, List.getElem?_toArray, List.getElem?_cons_zero, List.getElem?_cons_succ, Option.bind_some, Act.put, List.setIfInBounds_toArray, List.set_cons_zero, List.set_cons_succ, Array.getD_eq_getD_getElem?, Option.getD_some, if_true, if_false, Bool.false_eq_true]
  have e0 : f 0 = (.agg #[.slice bA3 bn3 bc3, .slice wA3 wn3 wc3, .bool dn3, .int .i64 po3, .int .i64 fa3, .int .i64 wi3, .int .i64 (P3.base : Int), .int .i64 (P3.pages : Int), .int .i64 (P3.most : Int), .int .i64 (P3.epoch : Int), .int .i64 (P3.count : Int), .int .i64 lim, .slice A3 n3 c3, .int .i64 (P3.hand : Int)]) := hR 0 (by decide) rfl
  have e1 : f 1 = (.int .i64 er3) := hR 1 (by decide) rfl
  have e2 : f 2 = (.int .i64 er3) := hR 2 (by decide) rfl
  have e3 : f 3 = (.bool true) := hR 3 (by decide) rfl
  have e4 : f 4 = (.bool true) := hR 4 (by decide) rfl
  have e5 : f 5 = (.slice A6 l.length c6) := hR 5 (by decide) rfl
  have e6 : f 6 = (.slice A7 n7 c7) := hR 6 (by decide) rfl
  have e7 : f 7 = (.bool true) := hR 7 (by decide) rfl
  have e8 : f 8 = (.bool true) := hR 8 (by decide) rfl
  simp only [e0, e1, e2, e3, e4, e5, e6, e7, e8]
  clear e0 e1 e2 e3 e4 e5 e6 e7 e8 hR
  have HB7 : Hid (Below w4.heap.size w4 w7) := Lib.hid (Below.trans (gr_drewN (gr_refl w4) 1) hB7)
  have X3 := Lib.hid (X3.out.below HB7.out)
  clear hB7 HSB HBW4 Y0 Y1 Y2 Y3 Y4 Y5 Y6 Y7 Y8 Y9 Y10 Y11 Y12 Y13
  have r0 := X3.out.c0
  have r1 := X3.out.c1
  have r2 := X3.out.c2
  have r3 := X3.out.c3
  have r4 := X3.out.c4
  have r5 := X3.out.c5
  have r6 := X3.out.c6
  have r7 := X3.out.c7
  have r8 := X3.out.c8
  have r9 := X3.out.c9
  have r10 := X3.out.c10
  have r11 := X3.out.c11
  have r12 := X3.out.c12
  have r13 := X3.out.c13
  have rz0 := X3.out.fz 0
  have rz1 := X3.out.fz 1
  have rz2 := X3.out.fz 2
  have rz3 := X3.out.fz 3
  have rz4 := X3.out.fz 4
  have rz5 := X3.out.fz 5
  have rz6 := X3.out.fz 6
  have rz7 := X3.out.fz 7
  have rz8 := X3.out.fz 8
  have rz9 := X3.out.fz 9
  have rz10 := X3.out.fz 10
  have rz11 := X3.out.fz 11
  have rz12 := X3.out.fz 12
  have rz13 := X3.out.fz 13
  have HSs1 := Lib.hid (X3.out.all (.slice bA3 bn3 bc3) (.slice wA3 wn3 wc3) (.bool dn3) (.int .i64 po3) (.int .i64 fa3) (.int .i64 wi3) (.int .i64 (P3.base : Int)) (.int .i64 (P3.pages : Int)) (.int .i64 (P3.most : Int)) (.int .i64 (P3.epoch : Int)) (.int .i64 (P3.count : Int)) (.int .i64 lim) (.slice A3 n3 c3) (.int .i64 (P3.hand : Int)))
  refine wpAny_of_held (S := fun _ => True) _ _ _ _ ?_
  refine wpAnyH_ready (rs := [9]) (by kernel_rfl) (by simp) ?_
  refine AllReadyH.cons rfl (fun KK hK => ?_) (AllReadyH.nil)
  go_simp
  refine hK.out _ _ trivial (fun _ => ?_)
  clear hK KK
  try simp only [List.setIfInBounds_toArray, List.set_cons_zero, List.set_cons_succ]
  refine wpAnyH_ready (rs := [10]) (by kernel_rfl) (by simp) ?_
  refine AllReadyH.cons rfl (fun KK hK => ?_) (AllReadyH.nil)
  go_simp
  refine hK.out _ _ trivial (fun _ => ?_)
  clear hK KK
  try simp only [List.setIfInBounds_toArray, List.set_cons_zero, List.set_cons_succ]
  refine wpAnyH_done (by kernel_rfl) ?_ _
  go_wp2_with fail
  clear r0 r1 r2 r3 r4 r5 r6 r7 r8 r9 r10 r11 r12 r13 rz0 rz1 rz2 rz3 rz4 rz5 rz6 rz7 rz8 rz9 rz10 rz11 rz12 rz13
  obtain ⟨s1, s1o⟩ := HSs1.out _ rfl
  clear HSs1
  generalize ((((((((((((((w7.setCell ⟨w.heap.size + 2, 0, none⟩ (.slice bA3 bn3 bc3)).setCell ⟨w.heap.size + 2, 1, none⟩ (.slice wA3 wn3 wc3)).setCell ⟨w.heap.size + 2, 2, none⟩ (.bool dn3)).setCell ⟨w.heap.size + 2, 3, none⟩ (.int .i64 po3)).setCell ⟨w.heap.size + 2, 4, none⟩ (.int .i64 fa3)).setCell ⟨w.heap.size + 2, 5, none⟩ (.int .i64 wi3)).setCell ⟨w.heap.size + 2, 6, none⟩ (.int .i64 (P3.base : Int))).setCell ⟨w.heap.size + 2, 7, none⟩ (.int .i64 (P3.pages : Int))).setCell ⟨w.heap.size + 2, 8, none⟩ (.int .i64 (P3.most : Int))).setCell ⟨w.heap.size + 2, 9, none⟩ (.int .i64 (P3.epoch : Int))).setCell ⟨w.heap.size + 2, 10, none⟩ (.int .i64 (P3.count : Int))).setCell ⟨w.heap.size + 2, 11, none⟩ (.int .i64 lim)).setCell ⟨w.heap.size + 2, 12, none⟩ (.slice A3 n3 c3)).setCell ⟨w.heap.size + 2, 13, none⟩ (.int .i64 (P3.hand : Int))) = wf at *
  have z0 := s1.c0
  have z1 := s1.c1
  have z2 := s1.c2
  have z3 := s1.c3
  have z4 := s1.c4
  have z5 := s1.c5
  have z6 := s1.c6
  have z7 := s1.c7
  have z8 := s1.c8
  have z9 := s1.c9
  have z10 := s1.c10
  have z11 := s1.c11
  have z12 := s1.c12
  have z13 := s1.c13
  refine bodyPost_ret (v := .tuple #[.agg #[.slice bA3 bn3 bc3, .slice wA3 wn3 wc3, .bool dn3, .int .i64 po3, .int .i64 fa3, .int .i64 wi3, .int .i64 (P3.base : Int), .int .i64 (P3.pages : Int), .int .i64 (P3.most : Int), .int .i64 (P3.epoch : Int), .int .i64 (P3.count : Int), .int .i64 lim, .slice A3 n3 c3, .int .i64 (P3.hand : Int)], .bool true]) (by simp [results, Tryz.results10, go_sem, z0, z1, z2, z3, z4, z5, z6, z7, z8, z9, z10, z11, z12, z13]) rfl ?_
  exact HFIN.out wf ((Off.of_below HB7.out).trans s1o)
 case hend01 =>
  intro f w7 hB7 hR
  conv => arg 7; simp only [putL, dstOf, List.size_toArray, List.length_cons, List.length_nil, Nat.zero_add, Nat.reduceAdd, List.getElem?_toArray, List.getElem?_cons_zero, List.getElem?_cons_succ, Option.bind_some, Act.put, List.setIfInBounds_toArray, List.set_cons_zero, List.set_cons_succ, Array.getD_eq_getD_getElem?, Option.getD_some, if_true, if_false, Bool.false_eq_true]
  have e0 : f 0 = (.agg #[.slice bA3 bn3 bc3, .slice wA3 wn3 wc3, .bool dn3, .int .i64 po3, .int .i64 fa3, .int .i64 wi3, .int .i64 (P3.base : Int), .int .i64 (P3.pages : Int), .int .i64 (P3.most : Int), .int .i64 (P3.epoch : Int), .int .i64 (P3.count : Int), .int .i64 lim, .slice A3 n3 c3, .int .i64 (P3.hand : Int)]) := hR 0 (by decide) rfl
  have e1 : f 1 = (.int .i64 er3) := hR 1 (by decide) rfl
  have e2 : f 2 = (.int .i64 er3) := hR 2 (by decide) rfl
  have e3 : f 3 = (.bool true) := hR 3 (by decide) rfl
  have e4 : f 4 = (.bool true) := hR 4 (by decide) rfl
  have e5 : f 5 = (.slice A6 l.length c6) := hR 5 (by decide) rfl
  have e6 : f 6 = (.slice A7 n7 c7) := hR 6 (by decide) rfl
  have e7 : f 7 = (.bool true) := hR 7 (by decide) rfl
  simp only [e0, e1, e2, e3, e4, e5, e6, e7]
  clear e0 e1 e2 e3 e4 e5 e6 e7 hR
  have HB7 : Hid (Below w4.heap.size w4 w7) := Lib.hid (Below.trans (gr_drewN (gr_refl w4) 1) hB7)
  have X3 := Lib.hid (X3.out.below HB7.out)
  clear hB7 HSB HBW4 Y0 Y1 Y2 Y3 Y4 Y5 Y6 Y7 Y8 Y9 Y10 Y11 Y12 Y13
  have r0 := X3.out.c0
  have r1 := X3.out.c1
  have r2 := X3.out.c2
  have r3 := X3.out.c3
  have r4 := X3.out.c4
  have r5 := X3.out.c5
  have r6 := X3.out.c6
  have r7 := X3.out.c7
  have r8 := X3.out.c8
  have r9 := X3.out.c9
  have r10 := X3.out.c10
  have r11 := X3.out.c11
  have r12 := X3.out.c12
  have r13 := X3.out.c13
  have rz0 := X3.out.fz 0
  have rz1 := X3.out.fz 1
  have rz2 := X3.out.fz 2
  have rz3 := X3.out.fz 3
  have rz4 := X3.out.fz 4
  have rz5 := X3.out.fz 5
  have rz6 := X3.out.fz 6
  have rz7 := X3.out.fz 7
  have rz8 := X3.out.fz 8
  have rz9 := X3.out.fz 9
  have rz10 := X3.out.fz 10
  have rz11 := X3.out.fz 11
  have rz12 := X3.out.fz 12
  have rz13 := X3.out.fz 13
  have HSs1 := Lib.hid (X3.out.all (.slice bA3 bn3 bc3) (.slice wA3 wn3 wc3) (.bool dn3) (.int .i64 po3) (.int .i64 fa3) (.int .i64 wi3) (.int .i64 (P3.base : Int)) (.int .i64 (P3.pages : Int)) (.int .i64 (P3.most : Int)) (.int .i64 (P3.epoch : Int)) (.int .i64 (P3.count : Int)) (.int .i64 lim) (.slice A3 n3 c3) (.int .i64 (P3.hand : Int)))
  refine wpAny_of_held (S := fun _ => True) _ _ _ _ ?_
  refine wpAnyH_ready (rs := [8, 9]) (by kernel_rfl) (by simp) ?_
  refine AllReadyH.cons rfl (fun KK hK => ?_) (AllReadyH.cons rfl (fun KK hK => ?_) (AllReadyH.nil))
  ·try simp only [List.getElem_toArray, List.getElem_cons_succ, List.getElem_cons_zero]
   go_simp
   refine hK.out _ _ trivial (fun _ => ?_)
   clear hK KK
   try simp only [List.setIfInBounds_toArray, List.set_cons_zero, List.set_cons_succ]
   refine wpAnyH_ready (rs := [9]) (by kernel_rfl) (by simp) ?_
   refine AllReadyH.cons rfl (fun KK hK => ?_) (AllReadyH.nil)
   go_simp
   refine hK.out _ _ trivial (fun _ => ?_)
   clear hK KK
   try simp only [List.setIfInBounds_toArray, List.set_cons_zero, List.set_cons_succ]
   refine wpAnyH_ready (rs := [10]) (by kernel_rfl) (by simp) ?_
   refine AllReadyH.cons rfl (fun KK hK => ?_) (AllReadyH.nil)
   go_simp
   refine hK.out _ _ trivial (fun _ => ?_)
   clear hK KK
   try simp only [List.setIfInBounds_toArray, List.set_cons_zero, List.set_cons_succ]
   refine wpAnyH_done (by kernel_rfl) ?_ _
   go_wp2_with fail
   clear r0 r1 r2 r3 r4 r5 r6 r7 r8 r9 r10 r11 r12 r13 rz0 rz1 rz2 rz3 rz4 rz5 rz6 rz7 rz8 rz9 rz10 rz11 rz12 rz13
   obtain ⟨s1, s1o⟩ := HSs1.out _ rfl
   clear HSs1
   generalize ((((((((((((((w7.setCell ⟨w.heap.size + 2, 0, none⟩ (.slice bA3 bn3 bc3)).setCell ⟨w.heap.size + 2, 1, none⟩ (.slice wA3 wn3 wc3)).setCell ⟨w.heap.size + 2, 2, none⟩ (.bool dn3)).setCell ⟨w.heap.size + 2, 3, none⟩ (.int .i64 po3)).setCell ⟨w.heap.size + 2, 4, none⟩ (.int .i64 fa3)).setCell ⟨w.heap.size + 2, 5, none⟩ (.int .i64 wi3)).setCell ⟨w.heap.size + 2, 6, none⟩ (.int .i64 (P3.base : Int))).setCell ⟨w.heap.size + 2, 7, none⟩ (.int .i64 (P3.pages : Int))).setCell ⟨w.heap.size + 2, 8, none⟩ (.int .i64 (P3.most : Int))).setCell ⟨w.heap.size + 2, 9, none⟩ (.int .i64 (P3.epoch : Int))).setCell ⟨w.heap.size + 2, 10, none⟩ (.int .i64 (P3.count : Int))).setCell ⟨w.heap.size + 2, 11, none⟩ (.int .i64 lim)).setCell ⟨w.heap.size + 2, 12, none⟩ (.slice A3 n3 c3)).setCell ⟨w.heap.size + 2, 13, none⟩ (.int .i64 (P3.hand : Int))) = wf at *
   have z0 := s1.c0
   have z1 := s1.c1
   have z2 := s1.c2
   have z3 := s1.c3
   have z4 := s1.c4
   have z5 := s1.c5
   have z6 := s1.c6
   have z7 := s1.c7
   have z8 := s1.c8
   have z9 := s1.c9
   have z10 := s1.c10
   have z11 := s1.c11
   have z12 := s1.c12
   have z13 := s1.c13
   refine bodyPost_ret (v := .tuple #[.agg #[.slice bA3 bn3 bc3, .slice wA3 wn3 wc3, .bool dn3, .int .i64 po3, .int .i64 fa3, .int .i64 wi3, .int .i64 (P3.base : Int), .int .i64 (P3.pages : Int), .int .i64 (P3.most : Int), .int .i64 (P3.epoch : Int), .int .i64 (P3.count : Int), .int .i64 lim, .slice A3 n3 c3, .int .i64 (P3.hand : Int)], .bool true]) (by simp [results, Tryz.results10, go_sem, z0, z1, z2, z3, z4, z5, z6, z7, z8, z9, z10, z11, z12, z13]) rfl ?_
   exact HFIN.out wf ((Off.of_below HB7.out).trans s1o)
  ·try simp only [List.getElem_toArray, List.getElem_cons_succ, List.getElem_cons_zero]
   go_simp
   refine hK.out _ _ trivial (fun _ => ?_)
   clear hK KK
   try simp only [List.setIfInBounds_toArray, List.set_cons_zero, List.set_cons_succ]
   refine wpAnyH_ready (rs := [8]) (by kernel_rfl) (by simp) ?_
   refine AllReadyH.cons rfl (fun KK hK => ?_) (AllReadyH.nil)
   go_simp
   refine hK.out _ _ trivial (fun _ => ?_)
   clear hK KK
   try simp only [List.setIfInBounds_toArray, List.set_cons_zero, List.set_cons_succ]
   refine wpAnyH_ready (rs := [10]) (by kernel_rfl) (by simp) ?_
   refine AllReadyH.cons rfl (fun KK hK => ?_) (AllReadyH.nil)
   go_simp
   refine hK.out _ _ trivial (fun _ => ?_)
   clear hK KK
   try simp only [List.setIfInBounds_toArray, List.set_cons_zero, List.set_cons_succ]
   refine wpAnyH_done (by kernel_rfl) ?_ _
   go_wp2_with fail
   clear r0 r1 r2 r3 r4 r5 r6 r7 r8 r9 r10 r11 r12 r13 rz0 rz1 rz2 rz3 rz4 rz5 rz6 rz7 rz8 rz9 rz10 rz11 rz12 rz13
   obtain ⟨s1, s1o⟩ := HSs1.out _ rfl
   clear HSs1
   generalize ((((((((((((((w7.setCell ⟨w.heap.size + 2, 0, none⟩ (.slice bA3 bn3 bc3)).setCell ⟨w.heap.size + 2, 1, none⟩ (.slice wA3 wn3 wc3)).setCell ⟨w.heap.size + 2, 2, none⟩ (.bool dn3)).setCell ⟨w.heap.size + 2, 3, none⟩ (.int .i64 po3)).setCell ⟨w.heap.size + 2, 4, none⟩ (.int .i64 fa3)).setCell ⟨w.heap.size + 2, 5, none⟩ (.int .i64 wi3)).setCell ⟨w.heap.size + 2, 6, none⟩ (.int .i64 (P3.base : Int))).setCell ⟨w.heap.size + 2, 7, none⟩ (.int .i64 (P3.pages : Int))).setCell ⟨w.heap.size + 2, 8, none⟩ (.int .i64 (P3.most : Int))).setCell ⟨w.heap.size + 2, 9, none⟩ (.int .i64 (P3.epoch : Int))).setCell ⟨w.heap.size + 2, 10, none⟩ (.int .i64 (P3.count : Int))).setCell ⟨w.heap.size + 2, 11, none⟩ (.int .i64 lim)).setCell ⟨w.heap.size + 2, 12, none⟩ (.slice A3 n3 c3)).setCell ⟨w.heap.size + 2, 13, none⟩ (.int .i64 (P3.hand : Int))) = wf at *
   have z0 := s1.c0
   have z1 := s1.c1
   have z2 := s1.c2
   have z3 := s1.c3
   have z4 := s1.c4
   have z5 := s1.c5
   have z6 := s1.c6
   have z7 := s1.c7
   have z8 := s1.c8
   have z9 := s1.c9
   have z10 := s1.c10
   have z11 := s1.c11
   have z12 := s1.c12
   have z13 := s1.c13
   refine bodyPost_ret (v := .tuple #[.agg #[.slice bA3 bn3 bc3, .slice wA3 wn3 wc3, .bool dn3, .int .i64 po3, .int .i64 fa3, .int .i64 wi3, .int .i64 (P3.base : Int), .int .i64 (P3.pages : Int), .int .i64 (P3.most : Int), .int .i64 (P3.epoch : Int), .int .i64 (P3.count : Int), .int .i64 lim, .slice A3 n3 c3, .int .i64 (P3.hand : Int)], .bool true]) (by simp [results, Tryz.results10, go_sem, z0, z1, z2, z3, z4, z5, z6, z7, z8, z9, z10, z11, z12, z13]) rfl ?_
   exact HFIN.out wf ((Off.of_below HB7.out).trans s1o)
end Go.Proofs.YtmdgnjmhbjdlmaaGreat

/-! PsD -/
namespace Go.Proofs.YtmdgnjmhbjdlmaaGreat
open Go Go.RowKit
theorem Lent.blk {w : World} {base c : Nat} {A : Option Addr} {l : List UInt8} (h : Lent w base A c l) : ∃ q, A = some ⟨q, 0, none⟩ ∧ base ≤ q ∧ q < w.heap.size ∧ l.length + 3 ≤ c ∧ c ≤ maxLen ∧ ∃ cs, w.heap[q]? = some (.cells cs 5 (0, 0)) ∧ l.length + 3 ≤ cs.size := by
 obtain ⟨h1, h2, h3⟩ := h.BR
 unfold Lent at h
 rcases h.2 with ⟨e, e0⟩ | ⟨q', cap, cur, e, hb, hq, hnc, hm, hcs, ht⟩
 ·omega
 ·injection e with e1 _ e3
  subst e3
  exact ⟨q', e1, hb, (Array.getElem?_eq_some_iff.1 hq).1, h2, h3, cur, hq, by omega⟩
theorem Lent.off {S : Nat → Prop} {w w' : World} {base q c : Nat} {l : List UInt8} (h : Lent w base (some ⟨q, 0, none⟩) c l) (ho : Off S w w') (hS : ¬ S q) : Lent w' base (some ⟨q, 0, none⟩) c l :=
 ownsRow_off h ho (fun k e hs => by injection e with e; subst e; exact hS hs)
def setY (sd : Int) (sh : Bool) : List UInt8 := if sh then (madeL sd 4080).drop 1 else madeL sd 4080
set_option maxRecDepth 100000 in
set_option maxHeartbeats 8000000 in
theorem does_set {w0 w : World} {gd gp gl : Nat} {v : Value} {lim : Int} {G S : Nat → Prop} {D : DiskS} {P : PoS} (h : QS w0 w gd gp gl v lim G D P S) (pg sd : Int) (sh : Bool) (nn er : Int) (K : Option Addr) (nk ck : Nat) (torn cut : Int) (hnn : nn ≤ 9223372036854775807) (hpd : D.pending.length ≤ 900000) (hct : P.count ≤ 1152921504606846976) :
  Calls Tryz.prog 10 #[.pointer (some ⟨gd, 0, none⟩), .pointer (some ⟨gp, 0, none⟩), v, .agg #[.int .i64 2, .int .i64 pg, .int .i64 sd, .bool sh, .int .i64 nn, .int .i64 er, .slice K nk ck, .int .i64 torn, .int .i64 cut]] w (DoesQ w0 w gd gp gl lim (setR (some lim) D P pg (setY sd sh) nn).1 (setR (some lim) D P pg (setY sd sh) nn).2.1 S G) := by
 obtain ⟨lb, hlb⟩ : ∃ lb, lb = setY sd sh := ⟨_, rfl⟩
 rw [← hlb]
 obtain ⟨⟨D3, P3, er3⟩, hr3⟩ : ∃ r, r = setR (some lim) D P pg lb nn := ⟨_, rfl⟩
 rw [← hr3]
 have hdn := h.dn.set (some lim) P pg lb nn
 have HFL := Lib.hid (fun W (hW : Below w.heap.size w W) A n c (hb : BR W A n lb) => Set_pj (h.pj.below hW) pg nn A n c lb hb hnn hpd hct)
 have HRF := Lib.hid (fun W v' (hr : RP G W v' D P lim) (hg : ∀ k, G k → k < W.heap.size) A n c (hb : BR W A n lb) => rSet_any hr hg h.pj.pi h.dn (by omega) hct pg nn A n c lb hb)
 rw [← hr3] at HFL HRF hdn
 have HDN := Lib.hid hdn
 have HLB := Lib.hid hlb
 have hml : (madeL sd 4080).length = 4080 := madeL_len _ _
 have HML := Lib.hid hml
 obtain ⟨i0, hi0, hz0, hz1, hz2⟩ := info_parts info_u8
 clear hr3 hdn hpd hct hnn hlb hml
 obtain ⟨bA, bn, bc, wA, wn, wc, dn, po, fa, wi, fv, q, rfl, h1, h2, h3⟩ := h.rp
 obtain ⟨A, c, rfl, _, _, _⟩ := h2.form
 have HH := Lib.hid h
 have HK := Lib.hid h1
 have HFG := Lib.hid h2
 have HQF := Lib.hid h3
 have HT := Lib.hid (threeQ w (.slice bA bn bc) (.slice wA wn wc) (.bool dn) (.int .i64 po) (.int .i64 fa) (.int .i64 wi) (.int .i64 (P.base : Int)) (.int .i64 (P.pages : Int)) (.int .i64 (P.most : Int)) (.int .i64 (P.epoch : Int)) (.int .i64 (P.count : Int)) (.int .i64 lim) (.slice A q.length c) (.int .i64 (P.hand : Int)) (.int .i64 2) (.int .i64 pg) (.int .i64 sd) (.bool sh) (.int .i64 nn) (.int .i64 er) (.slice K nk ck) (.int .i64 torn) (.int .i64 cut))
 obtain ⟨n, hn⟩ : ∃ n, n = q.length := ⟨_, rfl⟩
 have HN := Lib.hid hn
 rw [← hn] at HT ⊢
 clear h1 h2 h3 hn h
 go_enter Tryz.func10, Tryz.ntmps10
 go_upto_region 1 with fail
 obtain ⟨x1, xo, x3, hb, hs⟩ := HT.out _ rfl
 clear HT
 generalize ((w.alloc (.cells #[.slice bA bn bc, .slice wA wn wc, .bool dn, .int .i64 po, .int .i64 fa, .int .i64 wi, .int .i64 (P.base : Int), .int .i64 (P.pages : Int), .int .i64 (P.most : Int), .int .i64 (P.epoch : Int), .int .i64 (P.count : Int), .int .i64 lim, .slice A n c, .int .i64 (P.hand : Int)] 42)).alloc (.cells #[.int .i64 2, .int .i64 pg, .int .i64 sd, .bool sh, .int .i64 nn, .int .i64 er, .slice K nk ck, .int .i64 torn, .int .i64 cut] 49)).alloc (.cells #[.slice none 0 0, .slice none 0 0, .bool false, .int .i64 0, .int .i64 0, .int .i64 0, .int .i64 0, .int .i64 0, .int .i64 0, .int .i64 0, .int .i64 0, .int .i64 0, .slice none 0 0, .int .i64 0] 42) = w1 at *
 have X1 := Lib.hid x1
 have XO := Lib.hid xo
 have X3 := Lib.hid x3
 have HB := Lib.hid hb
 have HS1 := Lib.hid hs
 have o0 := xo.c0
 clear x1 xo x3 hb hs
 have o2 := XO.out.c2
 have HPY := Lib.hid (payload_any sd w1)
 have hcut := fun W => run_cut_l (P := Tryz.prog) W 57 5 i0 Tryz.underlying57 hi0 1 hz1 (some ⟨w1.heap.size, 0, none⟩) 4080 4080 1 1 rfl (by omega)
 have hca : cutA (some ⟨w1.heap.size, 0, none⟩) 4080 1 1 = some ⟨w1.heap.size, 1, none⟩ := by
  unfold cutA
  rw [if_neg (by omega)]
  simp [add_plain]
 rw [hca] at hcut
 clear hca hi0 hz0 hz1 hz2
 go_upto_region 7 with fail
 go_upto_region 8 with fail
 clear o0 o2
 refine HPY.out.mono ?_
 rintro e w2 ⟨rfl, hbb, hb2⟩
 have HBB := Lib.hid hbb
 have HB2 := Lib.hid hb2
 have X1 := Lib.hid (X1.out.below hb2)
 have XO := Lib.hid (XO.out.below hb2)
 have X3 := Lib.hid (X3.out.below hb2)
 have HBW2 : Hid (Below w.heap.size w w2) := Lib.hid (HB.out.trans (hb2.mono HB.out.size))
 clear hbb hb2 HPY
 have o3 := XO.out.c3
 cases sh with
 | false =>
  have HBR : Hid (BR w2 (some ⟨w1.heap.size, 0, none⟩) 4080 lb) := Lib.hid (by
   have := bb_br HBB.out HML.out
   have e : lb = madeL sd 4080 := HLB.out
   rw [e]
   exact this)
  clear HBB HLB
  go_upto_region 10 with fail
  clear o3 hcut
  have HLN := Lib.hid (LentBytes_any (some ⟨w1.heap.size, 0, none⟩) 4080 4080 lb w2 HBR.out (by omega))
  go_upto_region 11 with fail
  refine HLN.out.mono ?_
  rintro e w3 ⟨A4, c4, rfl, hlent, hb3⟩
  obtain ⟨ql, rfl, hq1, hq2, hq3, hq4, cs4, hq5, hq6⟩ := hlent.blk
  have hlenb : lb.length = 4080 := HBR.out.len
  have HLT := Lib.hid hlent
  have HLL := Lib.hid hlenb
  have hbrl : BR w3 (some ⟨ql, 0, none⟩) 4080 lb := by have := hlent.BR.1; rw [hlenb] at this; exact this
  have HB3 := Lib.hid hb3
  have HQ : Hid (w2.heap.size ≤ ql ∧ ql < w3.heap.size) := Lib.hid ⟨hq1, hq2⟩
  have X1 := Lib.hid (X1.out.below hb3)
  have XO := Lib.hid (XO.out.below hb3)
  have X3 := Lib.hid (X3.out.below hb3)
  have HBW3 : Hid (Below w.heap.size w w3) := Lib.hid (HBW2.out.trans (hb3.mono HBW2.out.size))
  have HBR3 := Lib.hid (HBR.out.below hb3)
  have HF3 := Lib.hid (HFL.out w3 HBW3.out (some ⟨ql, 0, none⟩) 4080 c4 hbrl)
  have o1 := XO.out.c1
  have o4 := XO.out.c4
  clear hlent hb3 hq1 hq2 hq3 hq4 hq5 hq6 cs4 hlenb hbrl HLN HFL HBR
  go_upto_region 12 with fail
  clear o1 o4
  refine HF3.out.mono ?_
  rintro e w4 ⟨S2, rfl, hj, hm⟩
  have HJ := Lib.hid hj
  have HM := Lib.hid hm
  have hSk : ∀ k, w.heap.size ≤ k → ¬ S k := fun k h1 e => by have := HH.out.pj.lt e; omega
  have X1 := Lib.hid (X1.out.off hm.1 (hSk _ (Nat.le_refl _)))
  have XO := Lib.hid (XO.out.off hm.1 (hSk _ (by omega)))
  have X3 := Lib.hid (X3.out.off hm.1 (hSk _ (by omega)))
  have HBR4 : Hid (BR w4 (some ⟨w1.heap.size, 0, none⟩) 4080 lb) := Lib.hid (Rd.off HBR3.out hm.1 (fun ad ea _ => by cases ea; exact hSk _ HB.out.size))
  have HLT4 := Lib.hid (HLT.out.off hm.1 (hSk _ (by have := HQ.out.1; have := HBW2.out.size; omega)))
  have HRP4 : Hid (RP G w4 (.agg #[.slice bA bn bc, .slice wA wn wc, .bool dn, .int .i64 po, .int .i64 fa, .int .i64 wi, .int .i64 (P.base : Int), .int .i64 (P.pages : Int), .int .i64 (P.most : Int), .int .i64 (P.epoch : Int), .int .i64 (P.count : Int), .int .i64 lim, .slice A n c, .int .i64 (P.hand : Int)]) D P lim) := Lib.hid (((show RP G w (.agg #[.slice bA bn bc, .slice wA wn wc, .bool dn, .int .i64 po, .int .i64 fa, .int .i64 wi, .int .i64 (P.base : Int), .int .i64 (P.pages : Int), .int .i64 (P.most : Int), .int .i64 (P.epoch : Int), .int .i64 (P.count : Int), .int .i64 lim, .slice A n c, .int .i64 (P.hand : Int)]) D P lim from ⟨bA, bn, bc, wA, wn, wc, dn, po, fa, wi, _, q, rfl, HK.out, by rw [HN.out]; exact HFG.out, HQF.out⟩).below HBW3.out).off hm.1 HH.out.sg)
  have HS4 : Hid (w3.heap.size ≤ w4.heap.size) := Lib.hid hm.1.size
  have HR4 := Lib.hid (HRF.out w4 _ HRP4.out (fun k hk => by have := (HH.out.gw k hk).2; have := HBW3.out.size; have := HS4.out; omega) (some ⟨w1.heap.size, 0, none⟩) 4080 4080 HBR4.out)
  have o1 := XO.out.c1
  have o4 := XO.out.c4
  clear hj hm hSk HF3 HRF
  have y0 := X1.out.c0
  have y1 := X1.out.c1
  have y2 := X1.out.c2
  have y3 := X1.out.c3
  have y4 := X1.out.c4
  have y5 := X1.out.c5
  have y6 := X1.out.c6
  have y7 := X1.out.c7
  have y8 := X1.out.c8
  have y9 := X1.out.c9
  have y10 := X1.out.c10
  have y11 := X1.out.c11
  have y12 := X1.out.c12
  have y13 := X1.out.c13
  go_upto_region 13 with fail
  refine HR4.out.mono ?_
  rintro e w5 ⟨v', rfl, hrp, hb5⟩
  have HRP5 := Lib.hid hrp
  obtain ⟨bA3, bn3, bc3, wA3, wn3, wc3, dn3, po3, fa3, wi3, fv3, q3, rfl, h1, h2, h3⟩ := hrp
  obtain ⟨A3, c3, rfl, _, _, _⟩ := h2.form
  obtain ⟨n3, hn3⟩ : ∃ n3, n3 = q3.length := ⟨_, rfl⟩
  rw [← hn3] at HRP5 ⊢
  have HB5 := Lib.hid hb5
  have hgr := gr_alloc (gr_refl w5) (.cells #[.slice bA3 bn3 bc3, .slice wA3 wn3 wc3, .bool dn3, .int .i64 po3, .int .i64 fa3, .int .i64 wi3, .int .i64 (P3.base : Int), .int .i64 (P3.pages : Int), .int .i64 (P3.most : Int), .int .i64 (P3.epoch : Int), .int .i64 (P3.count : Int), .int .i64 lim, .slice A3 n3 c3, .int .i64 (P3.hand : Int)] 42)
  have HB6 := Lib.hid hgr
  have X8 := Lib.hid (B14.new w5 (.slice bA3 bn3 bc3) (.slice wA3 wn3 wc3) (.bool dn3) (.int .i64 po3) (.int .i64 fa3) (.int .i64 wi3) (.int .i64 (P3.base : Int)) (.int .i64 (P3.pages : Int)) (.int .i64 (P3.most : Int)) (.int .i64 (P3.epoch : Int)) (.int .i64 (P3.count : Int)) (.int .i64 lim) (.slice A3 n3 c3) (.int .i64 (P3.hand : Int)))
  have X3 := Lib.hid ((X3.out.below hb5).below hgr)
  have HBR6 := Lib.hid ((HBR4.out.below hb5).below hgr)
  have HLT6 := Lib.hid ((HLT4.out.below hb5).below hgr)
  clear h1 h2 h3 hn3 hb5 hgr HR4 o1 o4 y0 y1 y2 y3 y4 y5 y6 y7 y8 y9 y10 y11 y12 y13 X1 XO
  go_upto_region 13 with fail
  generalize w5.alloc (.cells #[.slice bA3 bn3 bc3, .slice wA3 wn3 wc3, .bool dn3, .int .i64 po3, .int .i64 fa3, .int .i64 wi3, .int .i64 (P3.base : Int), .int .i64 (P3.pages : Int), .int .i64 (P3.most : Int), .int .i64 (P3.epoch : Int), .int .i64 (P3.count : Int), .int .i64 lim, .slice A3 n3 c3, .int .i64 (P3.hand : Int)] 42) = w6 at *
  have t1 : ((er3 : Int) == er3) = true := beq_self_eq_true _
  have HKB := Lib.hid (KeptBytes_any (some ⟨ql, 0, none⟩) _ 4080 c4 4080 w2.heap.size lb w6 HLT6.out HBR6.out (by omega))
  go_upto_region 14 with fail
  refine HKB.out.mono ?_
  rintro e w6b ⟨rfl, rfl⟩
  obtain ⟨ql', eq', hq1, hq2, hq3, hq4, cs4, hq5, hq6⟩ := HLT6.out.blk
  injection eq' with eq'
  injection eq' with eq' _ _
  subst eq'
  rw [HLL.out] at hq3 hq6
  have HOV := Lib.hid (OverBytes_any ql 4080 c4 cs4 w6 hq5 hq6 hq3 hq4)
  clear hq1 hq2 hq3 hq4 hq5 hq6 HKB
  go_upto_region 15 with fail
  refine HOV.out.mono ?_
  rintro e w7 ⟨rfl, ho7⟩
  have HO7 := Lib.hid ho7
  have hql := HQ.out
  have h23 := HBW2.out.size
  have hs21 := HB2.out.size
  have hs1 := HS1.out
  have h45 := HB5.out.size
  have h34 := HS4.out
  have X3 := Lib.hid (X3.out.off ho7 (by omega))
  have X8 := Lib.hid (X8.out.off ho7 (by omega))
  clear ho7 HOV
  go_upto_region 15 with fail
  have y0 := X8.out.c0
  have y1 := X8.out.c1
  have y2 := X8.out.c2
  have y3 := X8.out.c3
  have y4 := X8.out.c4
  have y5 := X8.out.c5
  have y6 := X8.out.c6
  have y7 := X8.out.c7
  have y8 := X8.out.c8
  have y9 := X8.out.c9
  have y10 := X8.out.c10
  have y11 := X8.out.c11
  have y12 := X8.out.c12
  have y13 := X8.out.c13
  have r0 := X3.out.c0
  have r1 := X3.out.c1
  have r2 := X3.out.c2
  have r3 := X3.out.c3
  have r4 := X3.out.c4
  have r5 := X3.out.c5
  have r6 := X3.out.c6
  have r7 := X3.out.c7
  have r8 := X3.out.c8
  have r9 := X3.out.c9
  have r10 := X3.out.c10
  have r11 := X3.out.c11
  have r12 := X3.out.c12
  have r13 := X3.out.c13
  have rz0 := X3.out.fz 0
  have rz1 := X3.out.fz 1
  have rz2 := X3.out.fz 2
  have rz3 := X3.out.fz 3
  have rz4 := X3.out.fz 4
  have rz5 := X3.out.fz 5
  have rz6 := X3.out.fz 6
  have rz7 := X3.out.fz 7
  have rz8 := X3.out.fz 8
  have rz9 := X3.out.fz 9
  have rz10 := X3.out.fz 10
  have rz11 := X3.out.fz 11
  have rz12 := X3.out.fz 12
  have rz13 := X3.out.fz 13
  have HSs1 := Lib.hid (X3.out.all (.slice bA3 bn3 bc3) (.slice wA3 wn3 wc3) (.bool dn3) (.int .i64 po3) (.int .i64 fa3) (.int .i64 wi3) (.int .i64 (P3.base : Int)) (.int .i64 (P3.pages : Int)) (.int .i64 (P3.most : Int)) (.int .i64 (P3.epoch : Int)) (.int .i64 (P3.count : Int)) (.int .i64 lim) (.slice A3 n3 c3) (.int .i64 (P3.hand : Int)))
  go_wp2_with fail
  clear r0 r1 r2 r3 r4 r5 r6 r7 r8 r9 r10 r11 r12 r13 rz0 rz1 rz2 rz3 rz4 rz5 rz6 rz7 rz8 rz9 rz10 rz11 rz12 rz13
  obtain ⟨s1, s1o⟩ := HSs1.out _ rfl
  clear HSs1
  generalize ((((((((((((((w7.setCell ⟨w.heap.size + 2, 0, none⟩ (.slice bA3 bn3 bc3)).setCell ⟨w.heap.size + 2, 1, none⟩ (.slice wA3 wn3 wc3)).setCell ⟨w.heap.size + 2, 2, none⟩ (.bool dn3)).setCell ⟨w.heap.size + 2, 3, none⟩ (.int .i64 po3)).setCell ⟨w.heap.size + 2, 4, none⟩ (.int .i64 fa3)).setCell ⟨w.heap.size + 2, 5, none⟩ (.int .i64 wi3)).setCell ⟨w.heap.size + 2, 6, none⟩ (.int .i64 (P3.base : Int))).setCell ⟨w.heap.size + 2, 7, none⟩ (.int .i64 (P3.pages : Int))).setCell ⟨w.heap.size + 2, 8, none⟩ (.int .i64 (P3.most : Int))).setCell ⟨w.heap.size + 2, 9, none⟩ (.int .i64 (P3.epoch : Int))).setCell ⟨w.heap.size + 2, 10, none⟩ (.int .i64 (P3.count : Int))).setCell ⟨w.heap.size + 2, 11, none⟩ (.int .i64 lim)).setCell ⟨w.heap.size + 2, 12, none⟩ (.slice A3 n3 c3)).setCell ⟨w.heap.size + 2, 13, none⟩ (.int .i64 (P3.hand : Int))) = wf at *
  clear y0 y1 y2 y3 y4 y5 y6 y7 y8 y9 y10 y11 y12 y13
  have z0 := s1.c0
  have z1 := s1.c1
  have z2 := s1.c2
  have z3 := s1.c3
  have z4 := s1.c4
  have z5 := s1.c5
  have z6 := s1.c6
  have z7 := s1.c7
  have z8 := s1.c8
  have z9 := s1.c9
  have z10 := s1.c10
  have z11 := s1.c11
  have z12 := s1.c12
  have z13 := s1.c13
  refine bodyPost_ret (v := .tuple #[.agg #[.slice bA3 bn3 bc3, .slice wA3 wn3 wc3, .bool dn3, .int .i64 po3, .int .i64 fa3, .int .i64 wi3, .int .i64 (P3.base : Int), .int .i64 (P3.pages : Int), .int .i64 (P3.most : Int), .int .i64 (P3.epoch : Int), .int .i64 (P3.count : Int), .int .i64 lim, .slice A3 n3 c3, .int .i64 (P3.hand : Int)], .bool true]) (by simp [results, Tryz.results10, go_sem, z0, z1, z2, z3, z4, z5, z6, z7, z8, z9, z10, z11, z12, z13]) rfl ?_
  have hall : Off (fun k => k = ql ∨ k = w.heap.size + 2) w5 wf := ((Off.of_below HB6.out).trans (HO7.out.mono (fun k _ e => .inl e))).trans (s1o.mono (fun k _ e => .inr e))
  have hst := HH.out.step HBW3.out HJ.out HM.out HRP5.out HB5.out hall (fun k e => ⟨by omega, fun e2 => by
    rcases HM.out.2 k e2 with e3 | e3
    ·have := HH.out.pj.lt e3; omega
    ·have := HB3.out.size; omega, fun e2 => by
    rcases e2 with e2 | e2
    ·have := (HH.out.gw k e2).2; omega
    ·have := HB3.out.size; omega⟩) HDN.out
  exact ⟨_, _, _, rfl, hst.1, hst.2.1, hst.2.2⟩
 | true =>
  go_upto_region 9 with fail
  have hw79 : (4080 : Nat) - 1 = 4079 := rfl
  have HBR : Hid (BR w2 (some ⟨w1.heap.size, 1, none⟩) 4079 lb) := Lib.hid (by
   have h0 := Rd.cut (c := 4080) (bb_br HBB.out HML.out) (k := 1) (j := 4080) (by omega) (by omega) (by omega)
   have e : lb = (madeL sd 4080).drop 1 := HLB.out
   rw [e]
   have hca : cutA (some ⟨w1.heap.size, 0, none⟩) 4080 1 1 = some ⟨w1.heap.size, 1, none⟩ := by
    unfold cutA
    rw [if_neg (by omega)]
    simp [add_plain]
   rw [hca] at h0
   unfold BR
   have e2 : (((madeL sd 4080).map bv).drop (1 * 1)).take ((4080 - 1) * 1) = ((madeL sd 4080).drop 1).map bv := by
    rw [List.map_drop, List.take_of_length_le (by rw [List.length_drop, List.length_map, HML.out]; omega)]
   rw [← e2]
   exact h0)
  clear HBB HLB
  go_upto_region 10 with fail
  clear o3 hcut
  have HLN := Lib.hid (LentBytes_any (some ⟨w1.heap.size, 1, none⟩) 4079 4079 lb w2 HBR.out (by omega))
  go_upto_region 11 with fail
  refine HLN.out.mono ?_
  rintro e w3 ⟨A4, c4, rfl, hlent, hb3⟩
  obtain ⟨ql, rfl, hq1, hq2, hq3, hq4, cs4, hq5, hq6⟩ := hlent.blk
  have hlenb : lb.length = 4079 := HBR.out.len
  have HLT := Lib.hid hlent
  have HLL := Lib.hid hlenb
  have hbrl : BR w3 (some ⟨ql, 0, none⟩) 4079 lb := by have := hlent.BR.1; rw [hlenb] at this; exact this
  have HB3 := Lib.hid hb3
  have HQ : Hid (w2.heap.size ≤ ql ∧ ql < w3.heap.size) := Lib.hid ⟨hq1, hq2⟩
  have X1 := Lib.hid (X1.out.below hb3)
  have XO := Lib.hid (XO.out.below hb3)
  have X3 := Lib.hid (X3.out.below hb3)
  have HBW3 : Hid (Below w.heap.size w w3) := Lib.hid (HBW2.out.trans (hb3.mono HBW2.out.size))
  have HBR3 := Lib.hid (HBR.out.below hb3)
  have HF3 := Lib.hid (HFL.out w3 HBW3.out (some ⟨ql, 0, none⟩) 4079 c4 hbrl)
  have o1 := XO.out.c1
  have o4 := XO.out.c4
  clear hlent hb3 hq1 hq2 hq3 hq4 hq5 hq6 cs4 hlenb hbrl HLN HFL HBR
  go_upto_region 12 with fail
  clear o1 o4
  refine HF3.out.mono ?_
  rintro e w4 ⟨S2, rfl, hj, hm⟩
  have HJ := Lib.hid hj
  have HM := Lib.hid hm
  have hSk : ∀ k, w.heap.size ≤ k → ¬ S k := fun k h1 e => by have := HH.out.pj.lt e; omega
  have X1 := Lib.hid (X1.out.off hm.1 (hSk _ (Nat.le_refl _)))
  have XO := Lib.hid (XO.out.off hm.1 (hSk _ (by omega)))
  have X3 := Lib.hid (X3.out.off hm.1 (hSk _ (by omega)))
  have HBR4 : Hid (BR w4 (some ⟨w1.heap.size, 1, none⟩) 4079 lb) := Lib.hid (Rd.off HBR3.out hm.1 (fun ad ea _ => by cases ea; exact hSk _ HB.out.size))
  have HLT4 := Lib.hid (HLT.out.off hm.1 (hSk _ (by have := HQ.out.1; have := HBW2.out.size; omega)))
  have HRP4 : Hid (RP G w4 (.agg #[.slice bA bn bc, .slice wA wn wc, .bool dn, .int .i64 po, .int .i64 fa, .int .i64 wi, .int .i64 (P.base : Int), .int .i64 (P.pages : Int), .int .i64 (P.most : Int), .int .i64 (P.epoch : Int), .int .i64 (P.count : Int), .int .i64 lim, .slice A n c, .int .i64 (P.hand : Int)]) D P lim) := Lib.hid (((show RP G w (.agg #[.slice bA bn bc, .slice wA wn wc, .bool dn, .int .i64 po, .int .i64 fa, .int .i64 wi, .int .i64 (P.base : Int), .int .i64 (P.pages : Int), .int .i64 (P.most : Int), .int .i64 (P.epoch : Int), .int .i64 (P.count : Int), .int .i64 lim, .slice A n c, .int .i64 (P.hand : Int)]) D P lim from ⟨bA, bn, bc, wA, wn, wc, dn, po, fa, wi, _, q, rfl, HK.out, by rw [HN.out]; exact HFG.out, HQF.out⟩).below HBW3.out).off hm.1 HH.out.sg)
  have HS4 : Hid (w3.heap.size ≤ w4.heap.size) := Lib.hid hm.1.size
  have HR4 := Lib.hid (HRF.out w4 _ HRP4.out (fun k hk => by have := (HH.out.gw k hk).2; have := HBW3.out.size; have := HS4.out; omega) (some ⟨w1.heap.size, 1, none⟩) 4079 4079 HBR4.out)
  have o1 := XO.out.c1
  have o4 := XO.out.c4
  clear hj hm hSk HF3 HRF
  have y0 := X1.out.c0
  have y1 := X1.out.c1
  have y2 := X1.out.c2
  have y3 := X1.out.c3
  have y4 := X1.out.c4
  have y5 := X1.out.c5
  have y6 := X1.out.c6
  have y7 := X1.out.c7
  have y8 := X1.out.c8
  have y9 := X1.out.c9
  have y10 := X1.out.c10
  have y11 := X1.out.c11
  have y12 := X1.out.c12
  have y13 := X1.out.c13
  go_upto_region 13 with fail
  refine HR4.out.mono ?_
  rintro e w5 ⟨v', rfl, hrp, hb5⟩
  have HRP5 := Lib.hid hrp
  obtain ⟨bA3, bn3, bc3, wA3, wn3, wc3, dn3, po3, fa3, wi3, fv3, q3, rfl, h1, h2, h3⟩ := hrp
  obtain ⟨A3, c3, rfl, _, _, _⟩ := h2.form
  obtain ⟨n3, hn3⟩ : ∃ n3, n3 = q3.length := ⟨_, rfl⟩
  rw [← hn3] at HRP5 ⊢
  have HB5 := Lib.hid hb5
  have hgr := gr_alloc (gr_refl w5) (.cells #[.slice bA3 bn3 bc3, .slice wA3 wn3 wc3, .bool dn3, .int .i64 po3, .int .i64 fa3, .int .i64 wi3, .int .i64 (P3.base : Int), .int .i64 (P3.pages : Int), .int .i64 (P3.most : Int), .int .i64 (P3.epoch : Int), .int .i64 (P3.count : Int), .int .i64 lim, .slice A3 n3 c3, .int .i64 (P3.hand : Int)] 42)
  have HB6 := Lib.hid hgr
  have X8 := Lib.hid (B14.new w5 (.slice bA3 bn3 bc3) (.slice wA3 wn3 wc3) (.bool dn3) (.int .i64 po3) (.int .i64 fa3) (.int .i64 wi3) (.int .i64 (P3.base : Int)) (.int .i64 (P3.pages : Int)) (.int .i64 (P3.most : Int)) (.int .i64 (P3.epoch : Int)) (.int .i64 (P3.count : Int)) (.int .i64 lim) (.slice A3 n3 c3) (.int .i64 (P3.hand : Int)))
  have X3 := Lib.hid ((X3.out.below hb5).below hgr)
  have HBR6 := Lib.hid ((HBR4.out.below hb5).below hgr)
  have HLT6 := Lib.hid ((HLT4.out.below hb5).below hgr)
  clear h1 h2 h3 hn3 hb5 hgr HR4 o1 o4 y0 y1 y2 y3 y4 y5 y6 y7 y8 y9 y10 y11 y12 y13 X1 XO
  go_upto_region 13 with fail
  generalize w5.alloc (.cells #[.slice bA3 bn3 bc3, .slice wA3 wn3 wc3, .bool dn3, .int .i64 po3, .int .i64 fa3, .int .i64 wi3, .int .i64 (P3.base : Int), .int .i64 (P3.pages : Int), .int .i64 (P3.most : Int), .int .i64 (P3.epoch : Int), .int .i64 (P3.count : Int), .int .i64 lim, .slice A3 n3 c3, .int .i64 (P3.hand : Int)] 42) = w6 at *
  have t1 : ((er3 : Int) == er3) = true := beq_self_eq_true _
  have HKB := Lib.hid (KeptBytes_any (some ⟨ql, 0, none⟩) _ 4079 c4 4079 w2.heap.size lb w6 HLT6.out HBR6.out (by omega))
  go_upto_region 14 with fail
  refine HKB.out.mono ?_
  rintro e w6b ⟨rfl, rfl⟩
  obtain ⟨ql', eq', hq1, hq2, hq3, hq4, cs4, hq5, hq6⟩ := HLT6.out.blk
  injection eq' with eq'
  injection eq' with eq' _ _
  subst eq'
  rw [HLL.out] at hq3 hq6
  have HOV := Lib.hid (OverBytes_any ql 4079 c4 cs4 w6 hq5 hq6 hq3 hq4)
  clear hq1 hq2 hq3 hq4 hq5 hq6 HKB
  go_upto_region 15 with fail
  refine HOV.out.mono ?_
  rintro e w7 ⟨rfl, ho7⟩
  have HO7 := Lib.hid ho7
  have hql := HQ.out
  have h23 := HBW2.out.size
  have hs21 := HB2.out.size
  have hs1 := HS1.out
  have h45 := HB5.out.size
  have h34 := HS4.out
  have X3 := Lib.hid (X3.out.off ho7 (by omega))
  have X8 := Lib.hid (X8.out.off ho7 (by omega))
  clear ho7 HOV
  go_upto_region 15 with fail
  have y0 := X8.out.c0
  have y1 := X8.out.c1
  have y2 := X8.out.c2
  have y3 := X8.out.c3
  have y4 := X8.out.c4
  have y5 := X8.out.c5
  have y6 := X8.out.c6
  have y7 := X8.out.c7
  have y8 := X8.out.c8
  have y9 := X8.out.c9
  have y10 := X8.out.c10
  have y11 := X8.out.c11
  have y12 := X8.out.c12
  have y13 := X8.out.c13
  have r0 := X3.out.c0
  have r1 := X3.out.c1
  have r2 := X3.out.c2
  have r3 := X3.out.c3
  have r4 := X3.out.c4
  have r5 := X3.out.c5
  have r6 := X3.out.c6
  have r7 := X3.out.c7
  have r8 := X3.out.c8
  have r9 := X3.out.c9
  have r10 := X3.out.c10
  have r11 := X3.out.c11
  have r12 := X3.out.c12
  have r13 := X3.out.c13
  have rz0 := X3.out.fz 0
  have rz1 := X3.out.fz 1
  have rz2 := X3.out.fz 2
  have rz3 := X3.out.fz 3
  have rz4 := X3.out.fz 4
  have rz5 := X3.out.fz 5
  have rz6 := X3.out.fz 6
  have rz7 := X3.out.fz 7
  have rz8 := X3.out.fz 8
  have rz9 := X3.out.fz 9
  have rz10 := X3.out.fz 10
  have rz11 := X3.out.fz 11
  have rz12 := X3.out.fz 12
  have rz13 := X3.out.fz 13
  have HSs1 := Lib.hid (X3.out.all (.slice bA3 bn3 bc3) (.slice wA3 wn3 wc3) (.bool dn3) (.int .i64 po3) (.int .i64 fa3) (.int .i64 wi3) (.int .i64 (P3.base : Int)) (.int .i64 (P3.pages : Int)) (.int .i64 (P3.most : Int)) (.int .i64 (P3.epoch : Int)) (.int .i64 (P3.count : Int)) (.int .i64 lim) (.slice A3 n3 c3) (.int .i64 (P3.hand : Int)))
  go_wp2_with fail
  clear r0 r1 r2 r3 r4 r5 r6 r7 r8 r9 r10 r11 r12 r13 rz0 rz1 rz2 rz3 rz4 rz5 rz6 rz7 rz8 rz9 rz10 rz11 rz12 rz13
  obtain ⟨s1, s1o⟩ := HSs1.out _ rfl
  clear HSs1
  generalize ((((((((((((((w7.setCell ⟨w.heap.size + 2, 0, none⟩ (.slice bA3 bn3 bc3)).setCell ⟨w.heap.size + 2, 1, none⟩ (.slice wA3 wn3 wc3)).setCell ⟨w.heap.size + 2, 2, none⟩ (.bool dn3)).setCell ⟨w.heap.size + 2, 3, none⟩ (.int .i64 po3)).setCell ⟨w.heap.size + 2, 4, none⟩ (.int .i64 fa3)).setCell ⟨w.heap.size + 2, 5, none⟩ (.int .i64 wi3)).setCell ⟨w.heap.size + 2, 6, none⟩ (.int .i64 (P3.base : Int))).setCell ⟨w.heap.size + 2, 7, none⟩ (.int .i64 (P3.pages : Int))).setCell ⟨w.heap.size + 2, 8, none⟩ (.int .i64 (P3.most : Int))).setCell ⟨w.heap.size + 2, 9, none⟩ (.int .i64 (P3.epoch : Int))).setCell ⟨w.heap.size + 2, 10, none⟩ (.int .i64 (P3.count : Int))).setCell ⟨w.heap.size + 2, 11, none⟩ (.int .i64 lim)).setCell ⟨w.heap.size + 2, 12, none⟩ (.slice A3 n3 c3)).setCell ⟨w.heap.size + 2, 13, none⟩ (.int .i64 (P3.hand : Int))) = wf at *
  clear y0 y1 y2 y3 y4 y5 y6 y7 y8 y9 y10 y11 y12 y13
  have z0 := s1.c0
  have z1 := s1.c1
  have z2 := s1.c2
  have z3 := s1.c3
  have z4 := s1.c4
  have z5 := s1.c5
  have z6 := s1.c6
  have z7 := s1.c7
  have z8 := s1.c8
  have z9 := s1.c9
  have z10 := s1.c10
  have z11 := s1.c11
  have z12 := s1.c12
  have z13 := s1.c13
  refine bodyPost_ret (v := .tuple #[.agg #[.slice bA3 bn3 bc3, .slice wA3 wn3 wc3, .bool dn3, .int .i64 po3, .int .i64 fa3, .int .i64 wi3, .int .i64 (P3.base : Int), .int .i64 (P3.pages : Int), .int .i64 (P3.most : Int), .int .i64 (P3.epoch : Int), .int .i64 (P3.count : Int), .int .i64 lim, .slice A3 n3 c3, .int .i64 (P3.hand : Int)], .bool true]) (by simp [results, Tryz.results10, go_sem, z0, z1, z2, z3, z4, z5, z6, z7, z8, z9, z10, z11, z12, z13]) rfl ?_
  have hall : Off (fun k => k = ql ∨ k = w.heap.size + 2) w5 wf := ((Off.of_below HB6.out).trans (HO7.out.mono (fun k _ e => .inl e))).trans (s1o.mono (fun k _ e => .inr e))
  have hst := HH.out.step HBW3.out HJ.out HM.out HRP5.out HB5.out hall (fun k e => ⟨by omega, fun e2 => by
    rcases HM.out.2 k e2 with e3 | e3
    ·have := HH.out.pj.lt e3; omega
    ·have := HB3.out.size; omega, fun e2 => by
    rcases e2 with e2 | e2
    ·have := (HH.out.gw k e2).2; omega
    ·have := HB3.out.size; omega⟩) HDN.out
  exact ⟨_, _, _, rfl, hst.1, hst.2.1, hst.2.2⟩
end Go.Proofs.YtmdgnjmhbjdlmaaGreat

/-! PsE -/
namespace Go.Proofs.YtmdgnjmhbjdlmaaGreat
open Go.ChangeShapes Go.WideShapes Go.ChangeAt Go.RowKit Go.Deep Go.Joins
structure Sp where
 kd : Int
 pg : Int
 sd : Int
 sh : Bool
 nn : Int
 er : Int
 keep : List Bool
 torn : Int
 cut : Int
def SP (W : World) (g o : Nat) (s : Sp) : Prop := ∃ K nk ck, W.cell? ⟨g, o, none⟩ = some (.int .i64 s.kd) ∧ W.cell? ⟨g, o + 1, none⟩ = some (.int .i64 s.pg) ∧ W.cell? ⟨g, o + 2, none⟩ = some (.int .i64 s.sd) ∧ W.cell? ⟨g, o + 3, none⟩ = some (.bool s.sh) ∧ W.cell? ⟨g, o + 4, none⟩ = some (.int .i64 s.nn) ∧ W.cell? ⟨g, o + 5, none⟩ = some (.int .i64 s.er) ∧ W.cell? ⟨g, o + 6, none⟩ = some (.slice K nk ck) ∧ W.cell? ⟨g, o + 7, none⟩ = some (.int .i64 s.torn) ∧ W.cell? ⟨g, o + 8, none⟩ = some (.int .i64 s.cut) ∧ LR W K nk s.keep ∧ nk ≤ 140737488351232 ∧ s.nn ≤ 9223372036854775807
def SQ (w : World) (A : Option Addr) (n : Nat) (l : List Sp) : Prop := l.length = n ∧ ∀ i, i < n → ∃ g o s, A = some ⟨g, o, none⟩ ∧ l[i]? = some s ∧ SP w g (o + i * 9) s
theorem cells_sop : Tryz.prog.cellsOf 49 = 9 := by kernel_rfl
theorem cells_bools : Tryz.prog.cellsOf 45 = 1 := by kernel_rfl
theorem cells_shape : Tryz.prog.cellsOf 23 = 6 := by kernel_rfl
theorem listP_cons {α : Type} {n : Nat} (l : List α) (h : l.length = n + 1) : ∃ v r, l = v :: r ∧ r.length = n := by
 cases l with
 | nil => cases h
 | cons v r => exact ⟨v, r, rfl, by simpa using h⟩
theorem listP_6 {α : Type} (l : List α) (h : l.length = 6) : ∃ v0 v1 v2 v3 v4 v5, l = [v0, v1, v2, v3, v4, v5] := by
 obtain ⟨v0, r0, rfl, h0⟩ := listP_cons l h
 obtain ⟨v1, r1, rfl, h1⟩ := listP_cons r0 h0
 obtain ⟨v2, r2, rfl, h2⟩ := listP_cons r1 h1
 obtain ⟨v3, r3, rfl, h3⟩ := listP_cons r2 h2
 obtain ⟨v4, r4, rfl, h4⟩ := listP_cons r3 h3
 obtain ⟨v5, r5, rfl, h5⟩ := listP_cons r4 h4
 obtain rfl : r5 = [] := List.length_eq_zero_iff.1 h5
 exact ⟨v0, v1, v2, v3, v4, v5, rfl⟩
theorem listP_7 {α : Type} (l : List α) (h : l.length = 7) : ∃ v0 v1 v2 v3 v4 v5 v6, l = [v0, v1, v2, v3, v4, v5, v6] := by
 obtain ⟨v0, r0, rfl, h0⟩ := listP_cons l h
 obtain ⟨v1, r1, rfl, h1⟩ := listP_cons r0 h0
 obtain ⟨v2, r2, rfl, h2⟩ := listP_cons r1 h1
 obtain ⟨v3, r3, rfl, h3⟩ := listP_cons r2 h2
 obtain ⟨v4, r4, rfl, h4⟩ := listP_cons r3 h3
 obtain ⟨v5, r5, rfl, h5⟩ := listP_cons r4 h4
 obtain ⟨v6, r6, rfl, h6⟩ := listP_cons r5 h5
 obtain rfl : r6 = [] := List.length_eq_zero_iff.1 h6
 exact ⟨v0, v1, v2, v3, v4, v5, v6, rfl⟩
theorem listP_9 {α : Type} (l : List α) (h : l.length = 9) : ∃ v0 v1 v2 v3 v4 v5 v6 v7 v8, l = [v0, v1, v2, v3, v4, v5, v6, v7, v8] := by
 obtain ⟨v0, r0, rfl, h0⟩ := listP_cons l h
 obtain ⟨v1, r1, rfl, h1⟩ := listP_cons r0 h0
 obtain ⟨v2, r2, rfl, h2⟩ := listP_cons r1 h1
 obtain ⟨v3, r3, rfl, h3⟩ := listP_cons r2 h2
 obtain ⟨v4, r4, rfl, h4⟩ := listP_cons r3 h3
 obtain ⟨v5, r5, rfl, h5⟩ := listP_cons r4 h4
 obtain ⟨v6, r6, rfl, h6⟩ := listP_cons r5 h5
 obtain ⟨v7, r7, rfl, h7⟩ := listP_cons r6 h6
 obtain ⟨v8, r8, rfl, h8⟩ := listP_cons r7 h7
 obtain rfl : r8 = [] := List.length_eq_zero_iff.1 h8
 exact ⟨v0, v1, v2, v3, v4, v5, v6, v7, v8, rfl⟩
section
variable {H : Type} {enc : TypeId × Value → H} {W : World} {base : Nat} {held : Bool}
set_option maxRecDepth 100000 in
theorem op_shape {r : Go.Reach} {b0 : Nat} {v : Value} {d : DataW H} {p : List MemPlace} (hv : Value.okWide Tryz.prog W r b0 23 v) (h : DataW.Trod enc Tryz.prog W base (fun _ => true) held 23 v d p) :
  ∃ dk bs pg fr ep ct : Int, v = .agg #[.int .i64 dk, .int .i64 bs, .int .i64 pg, .int .i64 fr, .int .i64 ep, .int .i64 ct] ∧ (-9223372036854775808 ≤ dk ∧ dk ≤ 9223372036854775807) ∧ (-9223372036854775808 ≤ bs ∧ bs ≤ 9223372036854775807) ∧ (-9223372036854775808 ≤ pg ∧ pg ≤ 9223372036854775807) ∧ (-9223372036854775808 ≤ fr ∧ fr ≤ 9223372036854775807) ∧ (-9223372036854775808 ≤ ep ∧ ep ≤ 9223372036854775807) ∧ (-9223372036854775808 ≤ ct ∧ ct ≤ 9223372036854775807) := by
 have hu := Tryz.underlying23
 obtain ⟨cs, rfl, hsz⟩ := okWide_struct hu hv
 obtain ⟨fuel, hf0⟩ := h
 obtain ⟨xs, k', hk, hxy, _, hxl, hf⟩ := DataW.trod_struct hu hf0
 obtain ⟨c0, c1, c2, c3, c4, c5, hcs⟩ := listP_6 cs.toList (by rw [Array.length_toList, hsz]; exact cells_shape)
 obtain rfl : cs = #[c0, c1, c2, c3, c4, c5] := by cases cs; simp_all
 obtain ⟨y0, y1, y2, y3, y4, y5, rfl⟩ := listP_6 xs hxl
 have f0 := hf 0 _ rfl
 have f1 := hf 1 _ rfl
 have f2 := hf 2 _ rfl
 have f3 := hf 3 _ rfl
 have f4 := hf 4 _ rfl
 have f5 := hf 5 _ rfl
 simp [Value.cells, cells_int] at f0 f1 f2 f3 f4 f5
 obtain ⟨z0, q0, _, b0⟩ := DataW.trod_int Tryz.underlying3 f0
 obtain ⟨z1, q1, _, b1⟩ := DataW.trod_int Tryz.underlying3 f1
 obtain ⟨z2, q2, _, b2⟩ := DataW.trod_int Tryz.underlying3 f2
 obtain ⟨z3, q3, _, b3⟩ := DataW.trod_int Tryz.underlying3 f3
 obtain ⟨z4, q4, _, b4⟩ := DataW.trod_int Tryz.underlying3 f4
 obtain ⟨z5, q5, _, b5⟩ := DataW.trod_int Tryz.underlying3 f5
 injection q0 with q0
 injection q1 with q1
 injection q2 with q2
 injection q3 with q3
 injection q4 with q4
 injection q5 with q5
 subst q0 q1 q2 q3 q4 q5
 exact ⟨z0, z1, z2, z3, z4, z5, rfl, bounds_i64 b0, bounds_i64 b1, bounds_i64 b2, bounds_i64 b3, bounds_i64 b4, bounds_i64 b5⟩
set_option maxRecDepth 100000 in
theorem op_script {fuel : Nat} {cs : List Value} {x : DataW H × List MemPlace} (h : DataW.trod enc Tryz.prog W base (fun _ => true) held fuel 24 cs = some x) (hw : Wt 24 x.1) :
  ∃ A n c l, cs = [.slice A n c] ∧ SQ W A n l ∧ n ≤ c ∧ c ≤ maxLen := by
 have hu := Tryz.underlying49
 rcases open_slice Tryz.underlying24 h with ⟨rfl, rfl⟩ | ⟨a, n, c, m, k, D, Pl, rfl, _, hl, hm, hmm, rfl, he⟩
 ·exact ⟨none, 0, 0, [], rfl, ⟨rfl, fun i hi => by omega⟩, Nat.le_refl _, by simp [maxLen]⟩
 ·simp only [if_true] at hmm
  subst hmm
  obtain ⟨hc, hel⟩ := Wt.slice hw Tryz.underlying24
  rcases Nat.eq_zero_or_pos n with h0 | h0
  ·exact ⟨some a, n, _, [], rfl, ⟨h0.symm, fun i hi => by omega⟩, hl, hm⟩
  ·obtain ⟨g, o, sp⟩ := a
   have hsp : sp = none := by
    obtain ⟨cs', g1, _⟩ := he 0 (by omega)
    rw [cells_sop] at g1
    obtain ⟨_, hlen, hcell⟩ := World.cells?_some g1
    have e0 := hcell 0 (by omega)
    rw [List.getElem?_eq_getElem (by omega)] at e0
    have := World.cell?_spot e0
    simpa [Addr.add] using this
   subst hsp
   have hone : ∀ i, i < n → ∃ s, SP W g (o + i * 9) s := by
    intro i hi
    obtain ⟨cs', g1, g2⟩ := he i (by omega)
    rw [cells_sop] at g1
    obtain ⟨_, hlen, hcell⟩ := World.cells?_some g1
    have hwi : Wt 49 (D i) := hel _ (List.mem_map.2 ⟨i, List.mem_range.2 (by omega), rfl⟩)
    obtain ⟨xs, k', hk, hxy, _, hxl, hf⟩ := DataW.trod_struct hu g2
    obtain ⟨v0, v1, v2, v3, v4, v5, v6, v7, v8, rfl⟩ := listP_9 cs' hlen
    obtain ⟨y0, y1, y2, y3, y4, y5, y6, rfl⟩ := listP_7 xs hxl
    have e0 := hcell 0 (by omega)
    have e1 := hcell 1 (by omega)
    have e2 := hcell 2 (by omega)
    have e3 := hcell 3 (by omega)
    have e4 := hcell 4 (by omega)
    have e5 := hcell 5 (by omega)
    have e6 := hcell 6 (by omega)
    have e7 := hcell 7 (by omega)
    have e8 := hcell 8 (by omega)
    rw [add_add] at e0 e1 e2 e3 e4 e5 e6 e7 e8
    have f0 := hf 0 _ rfl
    have f1 := hf 1 _ rfl
    have f2 := hf 2 _ rfl
    have f3 := hf 3 _ rfl
    have f4 := hf 4 _ rfl
    have f5 := hf 5 _ rfl
    have f6 := hf 6 _ rfl
    simp [cells_int, cells_bool, cells_crash] at f0 f1 f2 f3 f4 f5 f6
    simp only [Prod.mk.injEq] at hxy
    have hD := hxy.1
    simp at hD
    rw [hD] at hwi
    have hw7 : Wt 47 y6.1 := hwi.agg hu (j := 6) rfl rfl
    obtain ⟨z0, q0, _, b0⟩ := DataW.trod_int Tryz.underlying3 f0
    obtain ⟨z1, q1, _, b1⟩ := DataW.trod_int Tryz.underlying3 f1
    obtain ⟨z2, q2, _, b2⟩ := DataW.trod_int Tryz.underlying3 f2
    obtain ⟨z3, q3, _⟩ := DataW.trod_bool Tryz.underlying4 f3
    obtain ⟨z4, q4, _, b4⟩ := DataW.trod_int Tryz.underlying3 f4
    obtain ⟨z5, q5, _, b5⟩ := DataW.trod_int Tryz.underlying3 f5
    have hu7 := Tryz.underlying47
    obtain ⟨xs, k'', hk', hxy', _, hxl', hf'⟩ := DataW.trod_struct hu7 f6
    obtain ⟨u0, r0, rfl, hr0⟩ := listP_cons xs hxl'
    obtain ⟨u1, r1, rfl, hr1⟩ := listP_cons r0 hr0
    obtain ⟨u2, r2, rfl, hr2⟩ := listP_cons r1 hr1
    obtain rfl : r2 = [] := List.length_eq_zero_iff.1 hr2
    have g0 := hf' 0 _ rfl
    have g1 := hf' 1 _ rfl
    have g2 := hf' 2 _ rfl
    simp [cells_int, cells_bools] at g0 g1 g2
    have hD7 : y6.1 = .agg [u0.1, u1.1, u2.1] := by rw [hxy']; rfl
    rw [hD7] at hw7
    have hwk : Wt 45 u0.1 := hw7.agg hu7 (j := 0) rfl rfl
    obtain ⟨K, nk, ck, keep, q6, hLR, hnk, hck⟩ := op_bools g0 hwk
    obtain ⟨z7, q7, _, b7⟩ := DataW.trod_int Tryz.underlying3 g1
    obtain ⟨z8, q8, _, b8⟩ := DataW.trod_int Tryz.underlying3 g2
    injection q0 with q0
    injection q1 with q1
    injection q2 with q2
    injection q3 with q3
    injection q4 with q4
    injection q5 with q5
    injection q6 with q6
    injection q7 with q7
    injection q8 with q8
    subst q0 q1 q2 q3 q4 q5 q6 q7 q8
    simp [Addr.add_lit] at e0 e1 e2 e3 e4 e5 e6 e7 e8
    exact ⟨⟨z0, z1, z2, z3, z4, z5, keep, z7, z8⟩, ⟨K, nk, ck, e0, e1, e2, e3, e4, e5, e6, e7, e8, hLR, by omega, (bounds_i64 b4).2⟩⟩
   have sc0 : Sp := ⟨0, 0, 0, false, 0, 0, [], 0, 0⟩
   let q : Nat → Sp := fun i => if h : i < n then Classical.choose (hone i h) else sc0
   have hq : ∀ i, i < n → SP W g (o + i * 9) (q i) := by
    intro i hi
    have := Classical.choose_spec (hone i hi)
    simp only [q, dif_pos hi]
    exact this
   exact ⟨_, n, _, (List.range n).map q, rfl, ⟨by simp, fun i hi => ⟨g, o, q i, rfl, by simp [hi], hq i hi⟩⟩, hl, hm⟩
end
end Go.Proofs.YtmdgnjmhbjdlmaaGreat

/-! PsF -/
namespace Go.Proofs.YtmdgnjmhbjdlmaaGreat
open Go Go.RowKit
theorem writeR_bl (L : Option Int) (D : DiskS) (P : PoS) (n : Nat) : (writeR L D P n).1.blocks.length = D.blocks.length := by
 unfold writeR
 dsimp only
 split
 ·rfl
 ·split <;> rw [writeD_blocks]
theorem holdR_bl (L : Option Int) (D : DiskS) (P : PoS) (f : FrS) : (holdR L D P f).1.blocks.length = D.blocks.length := by
 unfold holdR
 split
 ·rfl
 ·split
  ·split
   ·exact writeR_bl _ _ _ _
   ·exact writeR_bl _ _ _ _
  ·rfl
theorem getR_bl (L : Option Int) (D : DiskS) (P : PoS) (p : Int) : (getR L D P p).1.blocks.length = D.blocks.length := by
 unfold getR
 split
 ·rfl
 ·split
  ·rfl
  ·dsimp only
   split
   ·rfl
   ·split
    ·rfl
    ·exact holdR_bl _ _ _ _
theorem setR_bl (L : Option Int) (D : DiskS) (P : PoS) (p : Int) (l : List UInt8) (n : Int) : (setR L D P p l n).1.blocks.length = D.blocks.length := by
 unfold setR
 split
 ·rfl
 ·split
  ·rfl
  ·exact holdR_bl _ _ _ _
theorem flushF_bl (L : Option Int) : ∀ (ks : List Nat) (D : DiskS) (P : PoS), (flushF L ks D P).1.blocks.length = D.blocks.length
 | [], _, _ => rfl
 | k :: ks, D, P => by
  rw [flushF_cons]
  split
  ·exact writeR_bl _ _ _ _
  ·rw [flushF_bl L ks, writeR_bl]
theorem flushR_bl (L : Option Int) (D : DiskS) (P : PoS) : (flushR L D P).1.blocks.length = D.blocks.length := by
 unfold flushR
 split
 ·exact flushF_bl _ _ _ _
 ·rw [syncD_blocks, flushF_bl]
def DoesA (w0 w : World) (gd gp gl : Nat) (lim : Int) (D : DiskS) (P : PoS) (S G : Nat → Prop) (e : Ending) (w' : World) : Prop :=
 ∃ v' G' S' D' P', e = .returned (.tuple #[v', .bool true]) ∧ QS w0 w' gd gp gl v' lim G' D' P' S' ∧ Mv S S' w w' ∧ (∀ k, G' k → G k ∨ w.heap.size ≤ k) ∧ D'.blocks.length = D.blocks.length ∧ D'.pending.length ≤ D.pending.length + 300 ∧ P'.count ≤ P.count + 300
theorem does_any {w0 w : World} {gd gp gl : Nat} {v : Value} {lim : Int} {G S : Nat → Prop} {D : DiskS} {P : PoS} (h : QS w0 w gd gp gl v lim G D P S) (kd pg sd : Int) (sh : Bool) (nn er : Int) (K : Option Addr) (nk ck : Nat) (keep : List Bool) (torn cut : Int) (hnn : nn ≤ 9223372036854775807) (hK : LR w K nk keep) (hA : ∀ ad, K = some ad → 0 < nk → ¬ S ad.block) (hnk : nk ≤ 9223372036854775807) (hpd : D.pending.length ≤ 100000) (hct : P.count ≤ 8589934592) :
  Calls Tryz.prog 10 #[.pointer (some ⟨gd, 0, none⟩), .pointer (some ⟨gp, 0, none⟩), v, .agg #[.int .i64 kd, .int .i64 pg, .int .i64 sd, .bool sh, .int .i64 nn, .int .i64 er, .slice K nk ck, .int .i64 torn, .int .i64 cut]] w (DoesA w0 w gd gp gl lim D P S G) := by
 have fin : ∀ {D' : DiskS} {P' : PoS} (e : Ending) (w' : World), D'.blocks.length = D.blocks.length → D'.pending.length ≤ D.pending.length + 300 → P'.count ≤ P.count + 300 → DoesQ w0 w gd gp gl lim D' P' S G e w' → DoesA w0 w gd gp gl lim D P S G e w' := by
  rintro D' P' e w' h1 h2 h3 ⟨v', G', S', h4, h5, h6, h7⟩
  exact ⟨v', G', S', D', P', h4, h5, h6, h7, h1, h2, h3⟩
 by_cases k1 : kd = 1
 ·subst k1
  have hp := getR_pend (some lim) D P pg
  exact (does_get h pg sd sh nn er K nk ck torn cut (by omega) (by omega)).mono (fun e w' hx => fin e w' (getR_bl _ _ _ _) (by omega) (by omega) hx)
 by_cases k2 : kd = 2
 ·subst k2
  have hp := setR_pend (some lim) D P pg (setY sd sh) nn
  exact (does_set h pg sd sh nn er K nk ck torn cut hnn (by omega) (by omega)).mono (fun e w' hx => fin e w' (setR_bl _ _ _ _ _ _) (by omega) (by omega) hx)
 by_cases k3 : kd = 3
 ·subst k3
  have hp := flushR_pend (some lim) h.pj.pi
  exact (does_flush h pg sd sh nn er K nk ck torn cut (by omega) (by omega)).mono (fun e w' hx => fin e w' (flushR_bl _ _ _) (by omega) (by omega) hx)
 by_cases k5 : kd = 5
 ·subst k5
  have hp := armD_len D nn
  exact (does_arm h pg sd sh nn er K nk ck torn cut hnn).mono (fun e w' hx => fin e w' hp.1 (by omega) (by omega) hx)
 by_cases k6 : kd = 6
 ·subst k6
  have hp := failD_len D nn er
  exact (does_fail h pg sd sh nn er K nk ck torn cut hnn).mono (fun e w' hx => fin e w' hp.1 (by omega) (by omega) hx)
 by_cases k7 : kd = 7
 ·subst k7
  have hp := crashD_len D keep torn cut
  exact (does_crash h pg sd sh nn er K nk ck torn cut keep hK hA hnk (by omega)).mono (fun e w' hx => fin e w' hp.1 (by omega) (by omega) hx)
 exact (does_other h kd pg sd sh nn er K nk ck torn cut ⟨k1, k2, k3, k5, k6, k7⟩).mono (fun e w' hx => fin e w' rfl (by omega) (by omega) hx)
theorem RK.at_ {G : Nat → Prop} {w : World} {bA wA : Option Addr} {bn bc wn wc : Nat} {dn : Bool} {po fa wi : Int} {D : DiskS} (h : RK G w (.agg #[.slice bA bn bc, .slice wA wn wc, .bool dn, .int .i64 po, .int .i64 fa, .int .i64 wi]) D) : bn = D.blocks.length ∧ wn = D.pending.length ∧ bn ≤ bc ∧ ∀ k, k < bn → ∃ g o A c l, bA = some ⟨g, o, none⟩ ∧ w.cell? ⟨g, o + k, none⟩ = some (.slice A 4096 c) ∧ D.blocks[k]? = some l ∧ BR w A 4096 l := by
 obtain ⟨bA', bc', wA', wc', bus, wus, e, k1, k2, k3, k4, hd⟩ := h
 simp only [Value.agg.injEq, Array.mk.injEq, List.cons.injEq, Value.slice.injEq] at e
 obtain ⟨⟨rfl, rfl, rfl⟩, ⟨rfl, rfl, rfl⟩, _⟩ := e
 refine ⟨rfl, rfl, k1, fun k hk => ?_⟩
 have hl : bus.length = D.blocks.length := by have := hd.br.1.1; omega
 obtain ⟨_, A, c, e, hr, _⟩ := hd.bv k _ _ (List.getElem?_eq_getElem (by omega)) (List.getElem?_eq_getElem hk)
 obtain ⟨g, o, e2, hc⟩ := hd.br.1.plain (by omega) (by omega)
 exact ⟨g, o, A, c, _, e2, by rw [← e]; exact hc k _ (List.getElem?_eq_getElem (by omega)), List.getElem?_eq_getElem hk, hr⟩
end Go.Proofs.YtmdgnjmhbjdlmaaGreat
