/-
  Texts of this claim, joined: DfD, DfE, RdI, RdJ, RdK, RdL, RdM, Row, Opn, OpR, RdN, RdO, RdP, Pick, RdQ, StA, StB, StC, JnA, RgA. No statement of the program is proved here.
-/
import Derived.Test.YtnkeclpgpiogoaaGreatPkE3
import Derived.Test.YtnkeclpgpiogoaaGreatPkE1
import Derived.ProofKit
import Derived.OpenShut
import Derived.JoinedCond
import Derived.SizedLaws
import Derived.Deep.CondSized
import Derived.Test.YtnkeclpgpiogoaaGreatPkE2
import Derived.Deep.SlicePairs
import Derived.Lib.SmallJoins
import Derived.Deep.Slices
/-! DfD -/
namespace Go.Proofs.YtnkeclpgpiogoaaGreat
open Go.RowKit
set_option maxRecDepth 100000 in
theorem splice_get {α : Type} (L : List α) (off : Nat) (cs : List α) (j : Nat) (h : off + cs.length ≤ L.length) : (splice L off cs)[j]? = if j < off then L[j]? else if j < off + cs.length then cs[j - off]? else L[j]? := by
 unfold splice
 have hf : (List.take off L).length = off := by rw [List.length_take]; omega
 split
 ·rw [List.getElem?_append_left (by omega), List.getElem?_take, if_pos (by omega)]
 ·rw [List.getElem?_append_right (by omega), hf]
  split
  ·rw [List.getElem?_append_left (by omega)]
  ·rw [List.getElem?_append_right (by omega), List.getElem?_drop]
   congr 1
   omega
def pcOk (p : Pc) : Prop := 0 ≤ p.1 ∧ 0 < p.2.length ∧ (p.2.length : Int) + p.1 ≤ 4080
instance (p : Pc) : Decidable (pcOk p) := by unfold pcOk; infer_instance
def applyL : List UInt8 → List Pc → Option (List UInt8)
 | l, [] => some l
 | l, p :: ps => if pcOk p then applyL (splice l p.1.toNat p.2) ps else none
set_option maxRecDepth 100000 in
theorem applyL_append (l : List UInt8) (ps qs : List Pc) : applyL l (ps ++ qs) = (applyL l ps).bind fun m => applyL m qs := by
 induction ps generalizing l with
 | nil => rfl
 | cons p ps ih =>
  simp only [List.cons_append, applyL]
  split
  ·exact ih _
  ·rfl
end Go.Proofs.YtnkeclpgpiogoaaGreat

/-! DfE -/
namespace Go.Proofs.YtnkeclpgpiogoaaGreat
open Go.RowKit
section
variable {w : World} {base g n cap : Nat} {l : List UInt8}
set_option maxRecDepth 100000 in
theorem OB.cur (h : OB w base (.slice (some ⟨g, 0, none⟩) n cap) l) (hn : l.length = n) : ∃ cur : Array Value, w.heap[g]? = some (.cells cur 5 (0, 0)) ∧ base ≤ g ∧ n ≤ cap ∧ cap ≤ maxLen ∧ cur.size = cap ∧ cur.toList.take n = l.map bv := by
 rcases h.2 with ⟨e, _⟩ | ⟨g', cap', cur, e, hb, hg, hnc, hm, hcu, ht⟩
 ·cases e
 ·injection e with e1 e2 e3
  injection e1 with e1
  injection e1 with e1
  subst e1 e3
  exact ⟨cur, hg, hb, by omega, hm, by simpa using hcu, by rw [← ht, hn]; simp⟩
set_option maxRecDepth 100000 in
theorem OB.cell (h : OB w base (.slice (some ⟨g, 0, none⟩) n cap) l) (hn : l.length = n) {j : Nat} (hj : j < n) : w.cell? ⟨g, j, none⟩ = some (.int .u8 ((l.getD j 0).toNat : Int)) := by
 obtain ⟨cur, hg, _, _, _, hz, ht⟩ := h.cur hn
 rw [cell_of_row w g j _ _ _ hg]
 have : cur.toList[j]? = (l.map bv)[j]? := by rw [← ht, List.getElem?_take, if_pos hj]
 rw [Array.getElem?_toList] at this
 rw [this, List.getElem?_map, List.getElem?_eq_getElem (by omega)]
 simp [bv, List.getD, List.getElem?_eq_getElem (show j < l.length by omega)]
set_option maxRecDepth 100000 in
theorem OB.frozen (h : OB w base (.slice (some ⟨g, 0, none⟩) n cap) l) (hn : l.length = n) (j : Nat) : w.frozen? ⟨g, j, none⟩ = false := by
 obtain ⟨cur, hg, _, _, _, hz, ht⟩ := h.cur hn
 simp [World.frozen?, hg]
set_option maxRecDepth 100000 in
theorem OB.setCell (h : OB w base (.slice (some ⟨g, 0, none⟩) n cap) l) (hn : l.length = n) (j : Nat) (x : UInt8) (_hj : j < n) : OB (w.setCell ⟨g, j, none⟩ (bv x)) base (.slice (some ⟨g, 0, none⟩) n cap) (l.set j x) := by
 obtain ⟨cur, hg, hb, hnc, hm, hz, ht⟩ := h.cur hn
 refine ⟨by simp, .inr ⟨g, cap, cur.setIfInBounds j (bv x), ?_, hb, ?_, ?_, hm, ?_, ?_⟩⟩
 ·rw [List.length_set, hn]
 ·simp only [World.setCell, Array.getElem?_modify, if_pos, hg]
  simp
 ·rw [List.length_set]; omega
 ·simp [hz]
 ·rw [List.length_set, hn, Nat.mul_one, Array.toList_setIfInBounds, List.take_set, ht, List.map_set]
set_option maxRecDepth 100000 in
theorem OB.setInt (h : OB w base (.slice (some ⟨g, 0, none⟩) n cap) l) (hn : l.length = n) (j : Nat) (x : UInt8) (hj : j < n) (v : Int) (hv : v = (x.toNat : Int)) : OB (w.setCell ⟨g, j, none⟩ (.int .u8 v)) base (.slice (some ⟨g, 0, none⟩) n cap) (l.set j x) := by
 subst hv
 exact h.setCell hn j x hj
end
end Go.Proofs.YtnkeclpgpiogoaaGreat

/-! RdI -/
namespace Go.Proofs.YtnkeclpgpiogoaaGreat
open Go.RowKit
set_option maxRecDepth 100000 in
theorem Equal_any (A B : Option Addr) (n m c d : Nat) (a b : List UInt8) (w : World) (ha : BR w A n a) (hb : BR w B m b) :
  Calls Tryz.prog 104 #[.slice A n c, .slice B m d] w fun e w' => e = .returned (.bool (a == b)) ∧ w = w' := by
 have h1 := run_str ha Tryz.underlying35 Tryz.underlying5 Tryz.underlying9 c
 have h2 := run_str hb Tryz.underlying35 Tryz.underlying5 Tryz.underlying9 d
 go_enter Tryz.func104, Tryz.ntmps104
 go_wp2
 go_ret
 exact ⟨rfl, rfl⟩
end Go.Proofs.YtnkeclpgpiogoaaGreat

/-! RdJ -/
namespace Go.Proofs.YtnkeclpgpiogoaaGreat
open Go.RowKit
end Go.Proofs.YtnkeclpgpiogoaaGreat

/-! RdK -/
namespace Go.Proofs.YtnkeclpgpiogoaaGreat
open Go.RowKit
set_option maxRecDepth 100000 in
theorem PN.vp {w : World} {v : Value} {n : Nat} {ps : List Pc} (h : PN w v n ps) : VP w v ps := by
 obtain ⟨A, c, e, h1, h2, h3⟩ := h
 have := h1.len
 subst this
 exact ⟨A, c, e, h1, h2, h3⟩
end Go.Proofs.YtnkeclpgpiogoaaGreat

/-! RdL -/
namespace Go.Proofs.YtnkeclpgpiogoaaGreat
open Go.RowKit
end Go.Proofs.YtnkeclpgpiogoaaGreat

/-! RdM -/
namespace Go.Proofs.YtnkeclpgpiogoaaGreat
open Go.RowKit
set_option maxRecDepth 100000 in
theorem said_enc {r : Rec} (h : r.right = true) (b : List UInt8) : said (encR r ++ b) = (encB r).length := by
 have hs := encB_small h
 unfold said encR
 rw [List.append_assoc, List.take_append_of_le_length (by rw [leB_length]; exact Nat.le_refl _), List.take_of_length_le (by rw [leB_length]; exact Nat.le_refl _), leN_leB, Nat.mod_eq_of_lt (by omega)]
set_option maxRecDepth 100000 in
theorem encR_len (r : Rec) : (encR r).length = 4 + (encB r).length := by
 unfold encR
 rw [List.length_append, leB_length]
set_option maxRecDepth 100000 in
theorem body_enc {r : Rec} (h : r.right = true) (b : List UInt8) : body (encR r ++ b) = encB r := by
 unfold body
 rw [said_enc h b]
 unfold encR
 rw [List.append_assoc, List.drop_left' (leB_length _ _), List.take_left' rfl]
set_option maxRecDepth 100000 in
theorem dec_back {r : Rec} (h : r.right = true) (b : List UInt8) : decE (encR r ++ b) = 0 ∧ decN (encR r ++ b) = (encR r).length ∧ decR (encR r ++ b) = r := by
 have hs : ¬ short (encR r ++ b) := by
  unfold short
  rw [said_enc h b, List.length_append, encR_len]
  omega
 have hp := pRecord_c h
 have hf : fine (encR r ++ b) := by
  unfold fine
  rw [body_enc h b, said_enc h b, hp]
  exact ⟨rfl, h⟩
 unfold decE decN decR
 rw [if_neg hs, if_pos hf, if_neg hs, if_pos hf, if_neg hs, if_pos hf, body_enc h b, said_enc h b, hp, encR_len]
 exact ⟨rfl, rfl, rfl⟩
end Go.Proofs.YtnkeclpgpiogoaaGreat

/-! Row -/
namespace Go.Proofs.YtnkeclpgpiogoaaGreat
open Go.ChangeShapes Go.WideShapes Go.ChangeAt Go.RowKit
set_option maxRecDepth 100000 in
theorem own : ownKnob Tryz.prog.godebug = none := by kernel_rfl
set_option maxRecDepth 100000 in
theorem laidOut : laidOutB Tryz.prog = true := by kernel_rfl
section
variable {H : Type} {enc : TypeId × Value → H} {P : Program}
set_option maxRecDepth 100000 in
theorem trodAll_stays (hl : laidOutB P = true) {W W' : World} (hb : Below W.heap.size W W') :
  ∀ (ts : List TypeId) (vs : List Value) (ds : List (DataW H)) (ps : List MemPlace), (∀ t ∈ ts, P.readableRec t = true ∧ t < P.types.size) →
   DataW.TrodAll enc P W 0 (fun _ => true) true ts vs ds ps → (∀ x ∈ ps, x.block < W.heap.size) → DataW.TrodAll enc P W' 0 (fun b => decide (b < W.heap.size)) true ts vs ds ps
 | [], [], [], _ => fun _ h _ => h
 | t :: ts, v :: vs, d :: ds, ps => fun hr h hlt => by
  obtain ⟨p, q, h1, h2, rfl⟩ := h
  exact ⟨p, q, Below.trod hl (hr t (List.mem_cons_self ..)).1 (hr t (List.mem_cons_self ..)).2 h1 hb (fun x hx => hlt x (List.mem_append.2 (.inl hx))),
   trodAll_stays hl hb ts vs ds q (fun t ht => hr t (List.mem_cons_of_mem _ ht)) h2 (fun x hx => hlt x (List.mem_append.2 (.inr hx))), rfl⟩
 | [], _ :: _, _, _ => fun _ h _ => by cases h
 | [], [], _ :: _, _ => fun _ h _ => by cases h
 | _ :: _, [], _, _ => fun _ h _ => by cases h
 | _ :: _, _ :: _, [], _ => fun _ h _ => by cases h
set_option maxRecDepth 100000 in
theorem law_post {fn : Func} {s : ChangeSpec} {bt : TypeId} (hl : laidOutB P = true) (hrow : ∀ t ∈ fn.params.toList, P.readableRec t = true ∧ t < P.types.size)
  (hres : fn.resultTypes = #[bt]) (hbt : P.underlying bt = some .bool) (hv : s.vars = []) {W W' : World} {args : Array Value} {ds gs : List (DataW H)} {before : List MemPlace}
  (hW : DataW.Whole enc P fn.params.toList s.vars false W args.toList ds gs before) (hs : s.fn H (ds ++ gs) = { results := [.lit (.bool true)], args := ds })
  (hb : Below W.heap.size W W') : s.post enc P fn false true false false W args (.bool true) W' := by
 have hW' := hW
 obtain ⟨p, q, hA, hV, rfl, _, _⟩ := hW
 have hlt : ∀ x ∈ p, x.block < W.heap.size := fun x hx => hW'.lt x (List.mem_append.2 (.inl hx))
 refine ⟨ds, gs, p ++ q, [], p, [], hW', ?_, ?_, ?_, hb.frame _, fun h => by cases h⟩
 ·rw [hs, hres]
  exact trodAll_mk1 (shut_bool hbt _)
 ·rw [hs]
  exact trodAll_stays hl hb _ _ _ _ hrow hA hlt
 ·rw [hs, hv]
  rfl
end
end Go.Proofs.YtnkeclpgpiogoaaGreat

/-! Opn -/
namespace Go.Proofs.YtnkeclpgpiogoaaGreat
open Go.ChangeShapes Go.WideShapes Go.ChangeAt Go.RowKit Go.Deep
def Wt {H : Type} (t : TypeId) (d : DataW H) : Prop := ∀ n ∈ d.weights Tryz.prog t, n ≤ reachBytes
set_option maxRecDepth 100000 in
theorem reach_val : reachBytes = 140737488351232 := by decide
section
variable {H : Type} {enc : TypeId × Value → H} {W : World} {base : Nat} {spare : Nat → Bool} {held : Bool}
set_option maxRecDepth 100000 in
theorem weights_all {e : TypeId} {l : List (DataW H)} {d : DataW H} (hd : d ∈ l) : ∀ n ∈ d.weights Tryz.prog e, n ∈ DataW.weightsAll Tryz.prog e l := by
 induction l with
 | nil => cases hd
 | cons x r ih =>
  intro n hn
  simp only [DataW.weightsAll, List.mem_append]
  rcases List.mem_cons.1 hd with rfl | h
  ·exact .inl hn
  ·exact .inr (ih h n hn)
set_option maxRecDepth 100000 in
theorem Wt.slice {t e : TypeId} {l s : List (DataW H)} (h : Wt t (.slice l s)) (ht : Tryz.prog.underlying t = some (.slice e)) : (l.length + s.length) * Tryz.prog.bytesOf e ≤ 140737488351232 ∧ ∀ d ∈ l, Wt e d := by
 unfold Wt at h
 simp only [DataW.weights, ht] at h
 refine ⟨?_, fun d hd n hn => h n (List.mem_cons_of_mem _ (List.mem_append.2 (.inl (weights_all hd n hn))))⟩
 have := h _ (List.mem_cons_self ..)
 rw [reach_val] at this
 exact this
end
end Go.Proofs.YtnkeclpgpiogoaaGreat

/-! OpR -/
namespace Go.Proofs.YtnkeclpgpiogoaaGreat
open Go.ChangeShapes Go.WideShapes Go.ChangeAt Go.RowKit Go.Deep Go.Joins
section
variable {H : Type} {enc : TypeId × Value → H} {W : World} {base : Nat} {spare : Nat → Bool} {held : Bool}
end
end Go.Proofs.YtnkeclpgpiogoaaGreat

/-! RdN -/
namespace Go.Proofs.YtnkeclpgpiogoaaGreat
open Go.ChangeShapes Go.WideShapes Go.ChangeAt Go.RowKit Go.Deep Go.Joins
set_option maxRecDepth 100000 in
theorem rcs_at : ∀ (ps : List (Int × Int × Value)) (i : Nat) (p : Int × Int × Value), ps[i]? = some p → (rcs ps)[i * 3]? = some (.int .u8 p.1) ∧ (rcs ps)[i * 3 + 1]? = some (.int .i64 p.2.1) ∧ (rcs ps)[i * 3 + 2]? = some p.2.2
 | [], i, p, h => by simp at h
 | q :: ps, 0, p, h => by
  simp at h
  subst h
  exact ⟨rfl, rfl, rfl⟩
 | q :: ps, i + 1, p, h => by
  have h' : ps[i]? = some p := by simpa using h
  obtain ⟨h1, h2, h3⟩ := rcs_at ps i p h'
  have e : (i + 1) * 3 = i * 3 + 3 := by omega
  unfold rcs
  rw [e]
  exact ⟨h1, h2, h3⟩
def VC (w : World) (u : Value) (cs : List Ch) : Prop := ∃ A c, u = .slice A cs.length c ∧ CR w A cs.length cs ∧ cs.length ≤ c ∧ c ≤ maxLen
set_option maxRecDepth 100000 in
theorem VC.below {w w' : World} {u : Value} {cs : List Ch} (h : VC w u cs) (hb : Below w.heap.size w w') : VC w' u cs := by
 obtain ⟨A, c, e, h1, h2⟩ := h
 exact ⟨A, c, e, h1.below hb, h2⟩
def RW (w : World) (A : Option Addr) (n : Nat) (rs : List Rec) : Prop :=
 ∃ us : List (Int × Int × Value), Rd w 3 A n (rcs us) ∧ us.length = rs.length ∧ ∀ (i : Nat) (p : Rec) (q : Int × Int × Value), rs[i]? = some p → us[i]? = some q → q.1 = (p.kind : Int) ∧ q.2.1 = p.tx ∧ VC w q.2.2 p.cs
section
variable {w w' : World} {A : Option Addr} {n : Nat} {rs : List Rec}
set_option maxRecDepth 100000 in
theorem RW.len (h : RW w A n rs) : rs.length = n := by
 obtain ⟨us, hr, hl, _⟩ := h
 have := hr.1
 rw [rcs_length] at this
 omega
set_option maxRecDepth 100000 in
theorem RW.below (h : RW w A n rs) (hb : Below w.heap.size w w') : RW w' A n rs := by
 obtain ⟨us, hr, hl, hv⟩ := h
 exact ⟨us, hr.below hb, hl, fun i p q hp hq => ⟨(hv i p q hp hq).1, (hv i p q hp hq).2.1, (hv i p q hp hq).2.2.below hb⟩⟩
set_option maxRecDepth 100000 in
theorem RW.none_ (w : World) (A : Option Addr) : RW w A 0 [] := ⟨[], ⟨rfl, fun h => absurd h (by omega)⟩, rfl, fun i p q h => by simp at h⟩
set_option maxRecDepth 100000 in
theorem RW.at_ (h : RW w A n rs) {i : Nat} (hi : i < n) : ∃ g o D d, A = some ⟨g, o, none⟩ ∧ w.cell? ⟨g, o + i * 3, none⟩ = some (.int .u8 ((rs.getD i rec0).kind : Int)) ∧
  w.cell? ⟨g, o + i * 3 + 1, none⟩ = some (.int .i64 (rs.getD i rec0).tx) ∧ w.cell? ⟨g, o + i * 3 + 2, none⟩ = some (.slice D (rs.getD i rec0).cs.length d) ∧
  CR w D (rs.getD i rec0).cs.length (rs.getD i rec0).cs ∧ (rs.getD i rec0).cs.length ≤ d ∧ d ≤ maxLen := by
 have hn := h.len
 obtain ⟨us, hr, hl, hv⟩ := h
 obtain ⟨g, o, e, hc⟩ := Rd.plain hr (by omega) (by omega)
 have hip : rs[i]? = some (rs.getD i rec0) := by simp [List.getD, List.getElem?_eq_getElem (show i < rs.length by omega)]
 have hiu : us[i]? = some (us[i]'(by omega)) := List.getElem?_eq_getElem (by omega)
 obtain ⟨e1, e2, ⟨D, d, e3, r', h3, h4⟩⟩ := hv i _ _ hip hiu
 obtain ⟨c1, c2, c3⟩ := rcs_at us i _ hiu
 refine ⟨g, o, D, d, e, ?_, ?_, ?_, r', h3, h4⟩
 ·rw [← e1]; exact hc _ _ c1
 ·rw [← e2]; exact hc _ _ c2
 ·rw [← e3]; exact hc _ _ c3
end
section
variable {H : Type} {enc : TypeId × Value → H} {W : World} {base : Nat} {spare : Nat → Bool} {held : Bool}
end
end Go.Proofs.YtnkeclpgpiogoaaGreat

/-! RdO -/
namespace Go.Proofs.YtnkeclpgpiogoaaGreat
open Go.RowKit
end Go.Proofs.YtnkeclpgpiogoaaGreat

/-! RdP -/
namespace Go.Proofs.YtnkeclpgpiogoaaGreat
open Go.RowKit
def joinE : List Rec → List UInt8
 | [] => []
 | r :: rs => encR r ++ joinE rs
set_option maxRecDepth 100000 in
theorem joinE_snoc (rs : List Rec) (r : Rec) : joinE (rs ++ [r]) = joinE rs ++ encR r := by
 induction rs with
 | nil => simp [joinE]
 | cons q rs ih => simp only [List.cons_append, joinE, ih, List.append_assoc]
set_option maxRecDepth 100000 in
theorem allF_join : ∀ (rs : List Rec) (f : Nat) (acc : List Rec) (rest : List UInt8), (∀ r ∈ rs, r.right = true) → allF (f + rs.length) acc (joinE rs ++ rest) = allF f (acc ++ rs) rest
 | [], f, acc, rest, _ => by simp [joinE]
 | r :: rs, f, acc, rest, h => by
  have hr := h r (List.mem_cons_self ..)
  obtain ⟨d1, d2, d3⟩ := dec_back hr (joinE rs ++ rest)
  have hne : encR r ++ (joinE rs ++ rest) ≠ [] := fun e => by
   have := congrArg List.length e
   rw [List.length_append, encR_len] at this
   simp at this
  have e : f + (r :: rs).length = (f + rs.length) + 1 := by simp; omega
  rw [e]
  rw [show joinE (r :: rs) ++ rest = encR r ++ (joinE rs ++ rest) from List.append_assoc _ _ _]
  rw [show allF ((f + rs.length) + 1) acc (encR r ++ (joinE rs ++ rest)) = if encR r ++ (joinE rs ++ rest) = [] then (acc, 0) else if decE (encR r ++ (joinE rs ++ rest)) ≠ 0 then ([], decE (encR r ++ (joinE rs ++ rest))) else allF (f + rs.length) (acc ++ [decR (encR r ++ (joinE rs ++ rest))]) ((encR r ++ (joinE rs ++ rest)).drop (decN (encR r ++ (joinE rs ++ rest)))) from rfl]
  rw [if_neg hne, d1, if_neg (by simp), d2, d3, List.drop_left' rfl, allF_join rs f (acc ++ [r]) rest (fun q hq => h q (List.mem_cons_of_mem _ hq))]
  simp
end Go.Proofs.YtnkeclpgpiogoaaGreat

/-! Pick -/
namespace Go.Proofs.YtnkeclpgpiogoaaGreat
open Go.RowKit
end Go.Proofs.YtnkeclpgpiogoaaGreat

/-! RdQ -/
namespace Go.Proofs.YtnkeclpgpiogoaaGreat
open Go.RowKit
/-! Plain. -/
set_option maxRecDepth 100000 in
theorem encR_pos (r : Rec) : 4 ≤ (encR r).length := by rw [encR_len]; omega
set_option maxRecDepth 100000 in
theorem joinE_ge : ∀ (rs : List Rec), 4 * rs.length ≤ (joinE rs).length
 | [] => by simp
 | r :: rs => by
  have := joinE_ge rs
  have := encR_pos r
  simp only [joinE, List.length_append, List.length_cons]
  omega
set_option maxRecDepth 100000 in
theorem all_join {rs : List Rec} (h : ∀ r ∈ rs, r.right = true) : allR (joinE rs) = rs ∧ allE (joinE rs) = 0 := by
 have hge := joinE_ge rs
 have e : allF (joinE rs).length [] (joinE rs) = (rs, 0) := by
  have := allF_join rs ((joinE rs).length - rs.length) [] [] h
  rw [List.append_nil, Nat.sub_add_cancel (by omega), allF_nil] at this
  exact this
 unfold allR allE
 rw [e]
 exact ⟨rfl, rfl⟩
/-! Memory. -/
set_option maxRecDepth 100000 in
theorem IR.of_own {w : World} {base : Nat} {n c : Nat} {A : Option Addr} {l : List Int} (h : w.ownsRow base 3 1 (.slice A n c) n (l.map (Value.int .i64))) : IR w A n l := Rd.of_own h
def ORV (w0 w : World) (v : Value) (rs : List Rec) : Prop :=
 ∃ us : List (Int × Int × Value), w.ownsRow w0.heap.size 114 3 v rs.length (rcs us) ∧ us.length = rs.length ∧ ∀ (i : Nat) (p : Rec) (q : Int × Int × Value), rs[i]? = some p → us[i]? = some q → q.1 = (p.kind : Int) ∧ q.2.1 = p.tx ∧ VC w0 q.2.2 p.cs
section
variable {w0 w w4 : World} {v v4 : Value} {rs : List Rec}
set_option maxRecDepth 100000 in
theorem ORV.push {us : List (Int × Int × Value)} (h2 : us.length = rs.length) (h3 : ∀ (i : Nat) (p : Rec) (q : Int × Int × Value), rs[i]? = some p → us[i]? = some q → q.1 = (p.kind : Int) ∧ q.2.1 = p.tx ∧ VC w0 q.2.2 p.cs) {k : Nat} {tx : Int} {u : Value} {cs : List Ch} (hu : VC w0 u cs)
  (ho : w4.ownsRow w0.heap.size 114 3 v4 (rs.length + 1) (rcs us ++ [.int .u8 (k : Int), .int .i64 tx, u])) : ORV w0 w4 v4 (rs ++ [⟨k, tx, cs⟩]) := by
 refine ⟨us ++ [((k : Int), tx, u)], ?_, by rw [List.length_append, List.length_append, h2]; rfl, fun i p q hp hq => ?_⟩
 ·rw [List.length_append, rcs_append]
  exact ho
 ·rcases Nat.lt_or_ge i rs.length with hi | hi
  ·rw [List.getElem?_append_left hi] at hp
   rw [List.getElem?_append_left (by rw [h2]; exact hi)] at hq
   exact h3 i p q hp hq
  ·rw [List.getElem?_append_right hi] at hp
   rw [List.getElem?_append_right (by rw [h2]; exact hi), h2] at hq
   obtain h0 | h0 : i - rs.length = 0 ∨ 1 ≤ i - rs.length := by omega
   ·rw [h0] at hp hq
    simp at hp hq
    subst hp hq
    exact ⟨rfl, rfl, hu⟩
   ·rw [List.getElem?_eq_none (by simpa using h0)] at hp
    cases hp
end
set_option maxRecDepth 100000 in
theorem ORW.rw {w : World} {base : Nat} {v : Value} {rs : List Rec} (h : ORW w base v rs) : ∃ A c, v = .slice A rs.length c ∧ RW w A rs.length rs ∧ rs.length ≤ c ∧ c ≤ maxLen := by
 obtain ⟨us, h1, h2, h3⟩ := h
 obtain ⟨A, c, e, hn, hm⟩ := own_form h1
 refine ⟨A, c, e, ⟨us, ?_, h2, fun i p q hp hq => ⟨(h3 i p q hp hq).1, (h3 i p q hp hq).2.1, (h3 i p q hp hq).2.2.cr⟩⟩, hn, hm⟩
 rw [e] at h1
 exact Rd.of_own h1
end Go.Proofs.YtnkeclpgpiogoaaGreat

/-! StA -/
namespace Go.Proofs.YtnkeclpgpiogoaaGreat
open Go.RowKit
set_option maxRecDepth 100000 in
theorem OB.cells8 {w : World} {base : Nat} {A : Option Addr} {c v : Nat} (h : OB w base (.slice A 8 c) (leB v 8)) :
  ∃ g, A = some ⟨g, 0, none⟩ ∧ base ≤ g ∧ g < w.heap.size ∧ 8 ≤ c ∧ ∀ j, j < 8 → w.cell? ⟨g, j, none⟩ = some (.int .u8 ((leB v 8).getD j 0).toNat) := by
 have hl := h.lt
 rcases h.2 with ⟨e, h0⟩ | ⟨g, cap, cur, e, hb, hg, hn, hm, hc, ht⟩
 ·rw [leB_length] at h0; cases h0
 ·injection e with e1 e2 e3
  subst e1 e3
  refine ⟨g, rfl, hb, (Array.getElem?_eq_some_iff.1 hg).1, by rw [leB_length] at hn; exact hn, fun j hj => ?_⟩
  have := h.cells (g := g) rfl j (bv ((leB v 8).getD j 0)) (by rw [List.getElem?_map, List.getElem?_eq_getElem (by rw [leB_length]; exact hj)]; simp [List.getD, List.getElem?_eq_getElem (show j < (leB v 8).length by rw [leB_length]; exact hj)])
  rw [add_plain] at this
  exact this
set_option maxRecDepth 100000 in
theorem seal_list (a l : List UInt8) (n : Nat) (ha : a.length = 8) (hl : l.length = n) (hn : n ≤ 4080) :
  splice (splice (splice (List.replicate 4096 (0 : UInt8)) 0 a) 8 l) 4088 a = a ++ (l ++ List.replicate (4080 - n) 0) ++ a := by
 have e1 : splice (List.replicate 4096 (0 : UInt8)) 0 a = a ++ List.replicate 4088 0 := by
  unfold splice
  rw [List.take_zero, List.nil_append, ha, List.drop_replicate]
 have e2 : splice (a ++ List.replicate 4088 (0 : UInt8)) 8 l = a ++ (l ++ List.replicate (4088 - n) 0) := by
  unfold splice
  rw [List.take_left' ha, List.drop_append, List.drop_eq_nil_of_le (by omega), List.nil_append, List.drop_replicate, ha, hl]
  congr 3
  omega
 rw [e1, e2]
 have e3 : List.replicate (4088 - n) (0 : UInt8) = List.replicate (4080 - n) 0 ++ List.replicate 8 0 := by
  rw [List.replicate_append_replicate]; congr 1; omega
 rw [e3]
 have e4 : a ++ (l ++ (List.replicate (4080 - n) (0 : UInt8) ++ List.replicate 8 0)) = (a ++ (l ++ List.replicate (4080 - n) 0)) ++ List.replicate 8 0 := by simp only [List.append_assoc]
 have e5 : (a ++ (l ++ List.replicate (4080 - n) (0 : UInt8))).length = 4088 := by simp only [List.length_append, List.length_replicate]; omega
 rw [e4]
 unfold splice
 rw [List.take_left' e5, List.drop_eq_nil_of_le (by rw [List.length_append, e5, List.length_replicate]; omega), List.append_nil]
set_option maxHeartbeats 400000 in
set_option maxRecDepth 100000 in
theorem Seal_fits (A : Option Addr) (n c v : Nat) (l : List UInt8) (w : World) (ha : BR w A n l) (hn : n ≤ 4080) (hv : v < 18446744073709551616) :
  Calls Tryz.prog 116 #[.slice A n c, .int .u64 v] w fun e w' => ∃ r, e = .returned (.tuple #[r, .int .i64 0]) ∧ OB w' w.heap.size r (leB v 8 ++ (l ++ List.replicate (4080 - n) 0) ++ leB v 8) ∧ Below w.heap.size w w' := by
 have hn' : decide ((4080 : Int) < (n : Int)) = false := by simp; omega
 have HV := Lib.hid hv
 have mk := run_mk_bytes 4096 (by omega) 4096 rfl
 clear hv
 go_enter Tryz.func116, Tryz.ntmps116
 go_wp2_with fail
 refine (Add64_any none 0 0 [] w v (BR.none_ _ _) (by omega) HV.out).mono ?_
 rintro e w1 ⟨v1, rfl, ho1, hb1⟩
 rw [List.nil_append] at ho1
 obtain ⟨A1, c1, rfl, r1, hc1, hm1⟩ := ho1.formN (n := 8) (by rw [leB_length])
 obtain ⟨g, rfl, hg1, hg2, hg3, hcell⟩ := ho1.cells8
 obtain ⟨x0, x1, x2, x3, x4, x5, x6, x7, hx⟩ : ∃ x0 x1 x2 x3 x4 x5 x6 x7, leB v 8 = [x0, x1, x2, x3, x4, x5, x6, x7] := ⟨_, _, _, _, _, _, _, _, rfl⟩
 rw [hx] at hcell
 have k0 : w1.cell? ⟨g, 0, none⟩ = some (.int .u8 (x0.toNat : Int)) := hcell 0 (by omega)
 have k1 : w1.cell? ⟨g, 1, none⟩ = some (.int .u8 (x1.toNat : Int)) := hcell 1 (by omega)
 have k2 : w1.cell? ⟨g, 2, none⟩ = some (.int .u8 (x2.toNat : Int)) := hcell 2 (by omega)
 have k3 : w1.cell? ⟨g, 3, none⟩ = some (.int .u8 (x3.toNat : Int)) := hcell 3 (by omega)
 have k4 : w1.cell? ⟨g, 4, none⟩ = some (.int .u8 (x4.toNat : Int)) := hcell 4 (by omega)
 have k5 : w1.cell? ⟨g, 5, none⟩ = some (.int .u8 (x5.toNat : Int)) := hcell 5 (by omega)
 have k6 : w1.cell? ⟨g, 6, none⟩ = some (.int .u8 (x6.toNat : Int)) := hcell 6 (by omega)
 have k7 : w1.cell? ⟨g, 7, none⟩ = some (.int .u8 (x7.toNat : Int)) := hcell 7 (by omega)
 have HX := Lib.hid hx
 clear hcell hx
 have hAt := fun W => run_arrayAt (P := Tryz.prog) W 195 5 8 (some ⟨g, 0, none⟩) 8 c1 Tryz.underlying195 (by omega)
 go_upto_region 4 with fail
 have hm : BR (w1.alloc (.cells #[.int .u8 (x0.toNat : Int), .int .u8 (x1.toNat : Int), .int .u8 (x2.toNat : Int), .int .u8 (x3.toNat : Int), .int .u8 (x4.toNat : Int), .int .u8 (x5.toNat : Int), .int .u8 (x6.toNat : Int), .int .u8 (x7.toNat : Int)] 195)) (some ⟨w1.heap.size, 0, none⟩) 8 (leB v 8) := by
  rw [HX.out]
  exact BR.litAt _ _ _ _ _ _ rfl rfl rfl
 have hb2 := gr_alloc hb1 (.cells #[.int .u8 (x0.toNat : Int), .int .u8 (x1.toNat : Int), .int .u8 (x2.toNat : Int), .int .u8 (x3.toNat : Int), .int .u8 (x4.toNat : Int), .int .u8 (x5.toNat : Int), .int .u8 (x6.toNat : Int), .int .u8 (x7.toNat : Int)] 195)
 have hsz : w1.heap.size < (w1.alloc (.cells #[.int .u8 (x0.toNat : Int), .int .u8 (x1.toNat : Int), .int .u8 (x2.toNat : Int), .int .u8 (x3.toNat : Int), .int .u8 (x4.toNat : Int), .int .u8 (x5.toNat : Int), .int .u8 (x6.toNat : Int), .int .u8 (x7.toNat : Int)] 195)).heap.size := by simp
 clear k0 k1 k2 k3 k4 k5 k6 k7 hAt HX ho1 r1 hg1 hg2 hg3
 generalize (w1.alloc (.cells #[.int .u8 (x0.toNat : Int), .int .u8 (x1.toNat : Int), .int .u8 (x2.toNat : Int), .int .u8 (x3.toNat : Int), .int .u8 (x4.toNat : Int), .int .u8 (x5.toNat : Int), .int .u8 (x6.toNat : Int), .int .u8 (x7.toNat : Int)] 195)) = W2 at *
 generalize w1.heap.size = g6 at *
 clear hb1
 have hB := BB.zero W2 4096
 have hm3 := hm.alloc (.cells (zeroB 4096) 5)
 have hb3 := gr_alloc hb2 (.cells (zeroB 4096) 5)
 have hsz3 : W2.heap.size < (W2.alloc (.cells (zeroB 4096) 5)).heap.size := by simp
 have hge := hb2.size
 have hla : (leB v 8).length = 8 := leB_length v 8
 have hll := ha.len
 generalize hZ : List.replicate 4096 (0 : UInt8) = Z at hB
 have hZl : Z.length = 4096 := by rw [← hZ, List.length_replicate]
 generalize hE1 : splice Z 0 (leB v 8) = L1
 generalize hE2 : splice L1 8 l = L2
 generalize hE3 : splice L2 4088 (leB v 8) = L3
 have hl1 : L1.length = 4096 := by rw [← hE1, length_splice _ _ _ (by omega)]; exact hZl
 have hl2 : L2.length = 4096 := by rw [← hE2, length_splice _ _ _ (by omega)]; exact hl1
 have hl3 : L3.length = 4096 := by rw [← hE3, length_splice _ _ _ (by omega)]; exact hl2
 have c1' := run_copy_B (W2.alloc (.cells (zeroB 4096) 5)) 3 W2.heap.size 0 4096 4096 _ _ (some ⟨W2.heap.size, 0, none⟩) _ 8 8 8 hB hm3 rfl (fun _ => rfl) (by omega)
 rw [List.take_of_length_le (by omega), hE1] at c1'
 have hb4 := setB_below hb3 hge L1
 have hB4 := hB.set_ L1
 have hm4 := BR.put (g := W2.heap.size) hm3 (by rintro ad e; cases e; show g6 ≠ W2.heap.size; omega) L1
 have c2' := run_copy_B _ 3 W2.heap.size 8 4088 4088 _ _ (some ⟨W2.heap.size, 8, none⟩) A n c n hB4 (ha.below hb4) (Nat.min_eq_left (by omega)) (fun _ => rfl) (by omega)
 rw [List.take_of_length_le (by omega), hE2, setB_setB] at c2'
 have hb5 := setB_below hb3 hge L2
 have hB5 := hB.set_ L2
 have hm5 := BR.put (g := W2.heap.size) hm3 (by rintro ad e; cases e; show g6 ≠ W2.heap.size; omega) L2
 have c3' := run_copy_B _ 3 W2.heap.size 4088 8 8 _ _ (some ⟨W2.heap.size, 4088, none⟩) _ 8 8 8 hB5.drew hm5.drew rfl (fun _ => rfl) (by omega)
 rw [List.take_of_length_le (by omega), hE3, setB_drew, setB_setB] at c3'
 have hB6 := hB.set_ L3
 have hb6 := setB_below hb3 hge L3
 have hfin : leB v 8 ++ (l ++ List.replicate (4080 - n) 0) ++ leB v 8 = L3 := by
  rw [← hE3, ← hE2, ← hE1, ← hZ]
  exact (seal_list (leB v 8) l n hla hll hn).symm
 have HF := Lib.hid hfin
 have HZ := Lib.hid hl3
 clear hfin hl1 hl2 hl3 hE1 hE2 hE3 hZ hZl hla hll hB hB4 hB5 hm3 hm4 hm5 hm hb2 hb4 hb5 hsz hsz3
 go_wp2_with fail
 go_region
 go_wp2
 go_ret2
 refine ⟨_, rfl, ?_, hb6.drew⟩
 have := hB6.drew.own (base := w.heap.size) (by omega) (by rw [HZ.out]; simp [maxLen])
 rw [HF.out]
 rw [HZ.out] at this
 exact this
end Go.Proofs.YtnkeclpgpiogoaaGreat

/-! StB -/
namespace Go.Proofs.YtnkeclpgpiogoaaGreat
open Go.RowKit
def sealed (l : List UInt8) : Bool := (l.take 8) == (l.drop 4088)
def openP (l : List UInt8) : List UInt8 := if sealed l then (l.drop 8).take 4080 else []
def openS (l : List UInt8) : Nat := if sealed l then leN (l.take 8) else 0
def openE (l : List UInt8) : Int := if sealed l then 0 else 140
set_option maxRecDepth 100000 in
theorem map_toNat_inj {a b : List UInt8} : ((a.map fun x => ((x.toNat : Nat) : Int)) == (b.map fun x => ((x.toNat : Nat) : Int))) = (a == b) := by
 rw [Bool.eq_iff_iff]
 simp only [beq_iff_eq]
 constructor
 ·intro h
  have := congrArg (List.map (fun n : Int => UInt8.ofNat n.toNat)) h
  rwa [ofNat_toNat_bytes, ofNat_toNat_bytes] at this
 ·rintro rfl; rfl
set_option maxHeartbeats 1000000 in
set_option maxRecDepth 100000 in
theorem Open_any (A : Option Addr) (c : Nat) (l : List UInt8) (w : World) (ha : BR w A 4096 l) (hc : 4096 ≤ c) :
  Calls Tryz.prog 76 #[.slice A 4096 c] w fun e w' => ∃ r, e = .returned (.tuple #[r, .int .u64 ((openS l : Nat) : Int), .int .i64 (openE l)]) ∧ OB w' w.heap.size r (openP l) ∧ Below w.heap.size w w' := by
 obtain ⟨g, o, rfl, hcell⟩ := Rd.plain ha (by omega) (by omega)
 have hl := ha.len
 obtain ⟨i0, hi0, hz0, hz1, hz2⟩ := info_parts info_u8
 have hx := ha.cut (k := 0) (j := 8) (c := c) (by omega) (by omega) hc
 have hy := ha.cut (k := 4088) (j := 4096) (c := c) (by omega) (by omega) hc
 have e1 : cutA (some ⟨g, o, none⟩) c 0 1 = some ⟨g, o, none⟩ := by unfold cutA; rw [if_neg (by omega)]; rfl
 have e2 : cutA (some ⟨g, o, none⟩) c 4088 1 = some ⟨g, o + 4088, none⟩ := by unfold cutA; rw [if_neg (by omega)]; rfl
 rw [e1, List.drop_zero] at hx
 rw [e2, List.take_of_length_le (by rw [List.length_drop]; omega)] at hy
 have hsel : sealed l = (l.take 8 == l.drop 4088) := rfl
 have h8 : openS l = if sealed l then leN (l.take 8) else 0 := rfl
 obtain ⟨x0, x1, x2, x3, x4, x5, x6, x7, hX⟩ := list8 (l.take 8) (by rw [List.length_take]; omega)
 obtain ⟨y0, y1, y2, y3, y4, y5, y6, y7, hY⟩ := list8 (l.drop 4088) (by rw [List.length_drop]; omega)
 rw [hX] at hx hsel h8
 rw [hY] at hy hsel
 obtain ⟨k0, k1, k2, k3, k4, k5, k6, k7⟩ := BR.cells8 hx
 obtain ⟨m0, m1, m2, m3, m4, m5, m6, m7⟩ := BR.cells8 hy
 have heq := fun W => run_eqArr (P := Tryz.prog) W 9998 195 5 i0 .u8 8 Tryz.underlying195 Tryz.underlying5 hi0 hz1 ([x0, x1, x2, x3, x4, x5, x6, x7].map fun x => ((x.toNat : Nat) : Int)) ([y0, y1, y2, y3, y4, y5, y6, y7].map fun x => ((x.toNat : Nat) : Int)) rfl rfl
 simp only [map_toNat_inj, ← hsel] at heq
 simp only [List.map_cons, List.map_nil] at heq
 have hgl : g < w.heap.size := World.block_lt_of_cell? w _ k0
 have hAt := fun W A2 n2 c2 (h : 8 ≤ n2) => run_arrayAt (P := Tryz.prog) W 195 5 8 A2 n2 c2 Tryz.underlying195 h
 have hcut := fun W => run_cut_lh (P := Tryz.prog) W 35 5 i0 Tryz.underlying35 hi0 1 hz1 (some ⟨g, o, none⟩) 4096 c 8 4088 8 4088 rfl rfl (by omega) (by omega)
 have e3 : cutA (some ⟨g, o, none⟩) c 8 1 = some ⟨g, o + 8, none⟩ := by unfold cutA; rw [if_neg (by omega)]; rfl
 have hpay := ha.cut (k := 8) (j := 4088) (c := c) (by omega) (by omega) hc
 rw [e3] at hcut hpay
 have H8 := Lib.hid h8
 have HP : Hid (openP l = if sealed l then (l.drop 8).take 4080 else []) := rfl
 have HE : Hid (openE l = if sealed l then 0 else 140) := rfl
 have HSL := Lib.hid hsel
 clear hcell hl e1 e2 e3 hX hY hsel h8
 generalize sealed l = sl at *
 go_enter Tryz.func76, Tryz.ntmps76
 go_upto_region 3 with fail
 go_cut [5, 6] (fun s5 s6 wx => ∃ g5 g6 : Nat, s5 = .pointer (some ⟨g5, 0, none⟩) ∧ s6 = .pointer (some ⟨g6, 0, none⟩) ∧ BR wx (some ⟨g5, 0, none⟩) 8 [x0, x1, x2, x3, x4, x5, x6, x7] ∧ BR wx (some ⟨g6, 0, none⟩) 8 [y0, y1, y2, y3, y4, y5, y6, y7] ∧ Below w.heap.size w wx)
 case first =>
  go_region
  all_goals (go_wp2_with fail; go_meet)
  ·exact ⟨_, _, rfl, rfl, BR.drew (BR.alloc (BR.litAt w _ [x0, x1, x2, x3, x4, x5, x6, x7] _ _ _ rfl rfl rfl) _), BR.drew (BR.litAt _ _ [y0, y1, y2, y3, y4, y5, y6, y7] _ _ _ (by simp) rfl rfl), Below.drew (gr_alloc (gr_alloc (gr_refl _) _) _)⟩
  ·exact ⟨_, _, rfl, rfl, BR.drew (BR.litAt _ _ [x0, x1, x2, x3, x4, x5, x6, x7] _ _ _ (by simp) rfl rfl), BR.drew (BR.alloc (BR.litAt w _ [y0, y1, y2, y3, y4, y5, y6, y7] _ _ _ rfl rfl rfl) _), Below.drew (gr_alloc (gr_alloc (gr_refl _) _) _)⟩
 case rest =>
  obtain ⟨g5, g6, rfl, rfl, r5, r6, hbx⟩ := hcut
  clear k0 k1 k2 k3 k4 k5 k6 k7 m0 m1 m2 m3 m4 m5 m6 m7
  obtain ⟨k0, k1, k2, k3, k4, k5, k6, k7⟩ := BR.cells8 r5
  obtain ⟨m0, m1, m2, m3, m4, m5, m6, m7⟩ := BR.cells8 r6
  rw [Nat.zero_add] at k1 k2 k3 k4 k5 k6 k7 m1 m2 m3 m4 m5 m6 m7
  cases sl with
  | false =>
   go_wp2_with fail
   go_ret3
   refine ⟨_, by rw [H8.out, HE.out]; rfl, ?_, hbx⟩
   rw [HP.out]
   exact OB.nil _ _
  | true =>
   go_wp2_with fail
   refine (U64_any (some ⟨g5, 0, none⟩) 8 8 [x0, x1, x2, x3, x4, x5, x6, x7] _ 0 r5 (by omega) (by omega) (by omega)).mono ?_
   have e5 : numAt [x0, x1, x2, x3, x4, x5, x6, x7] 0 8 = some (leN [x0, x1, x2, x3, x4, x5, x6, x7]) := by
    unfold numAt
    rw [if_neg (by simp)]
    rfl
   rw [e5]
   clear e5
   simp only [Option.getD_some, Option.isSome_some]
   generalize hq : leN [x0, x1, x2, x3, x4, x5, x6, x7] = q
   have HQ := Lib.hid hq
   clear hq
   rintro e w' ⟨rfl, rfl⟩
   go_wp2_with fail
   refine (Clone_any _ 4080 _ _ _ (hpay.below hbx) (by omega)).mono ?_
   rintro e w2 ⟨r, rfl, ho, hb2⟩
   go_wp2
   go_ret3
   refine ⟨r, by rw [H8.out, HE.out, HQ.out]; rfl, ?_, gr_trans hbx hb2⟩
   rw [HP.out]
   exact OB.lower ho hbx.size
end Go.Proofs.YtnkeclpgpiogoaaGreat

/-! StC -/
namespace Go.Proofs.YtnkeclpgpiogoaaGreat
open Go.RowKit
set_option maxRecDepth 100000 in
set_option maxHeartbeats 400000 in
theorem Of_any (a b : Int) (w : World) :
  Calls Tryz.prog 138 #[.int .i64 a, .int .i64 b] w fun e w' => e = .returned (.int .u64 (a % 4294967296 * 4294967296 + b % 4294967296)) ∧ w = w' := by
 go_enter Tryz.func138, Tryz.ntmps138
 go_wp2
 go_ret
 refine ⟨ret_i ?_, rfl⟩
 have h1 := Int.emod_nonneg a (show (4294967296 : Int) ≠ 0 by decide)
 have h2 := Int.emod_lt_of_pos a (show (0 : Int) < 4294967296 by decide)
 have h3 := Int.emod_nonneg b (show (4294967296 : Int) ≠ 0 by decide)
 have h4 := Int.emod_lt_of_pos b (show (0 : Int) < 4294967296 by decide)
 generalize a % 4294967296 = x at *
 generalize b % 4294967296 = y at *
 obtain ⟨x, rfl⟩ := Int.eq_ofNat_of_zero_le h1
 obtain ⟨y, rfl⟩ := Int.eq_ofNat_of_zero_le h3
 have e : ((x : Int) * 4294967296) = ((x * 4294967296 : Nat) : Int) := by simp
 rw [e, u64_or_nat _ _ (by omega) (by omega), nat_join 32 _ _ (by omega) (by omega)]
 simp
end Go.Proofs.YtnkeclpgpiogoaaGreat

/-! JnA -/
namespace Go.Proofs.YtnkeclpgpiogoaaGreat
open Go Go.RowKit
structure JnS where
 fi : Nat
 bl : Nat
 ep : Nat
 pl : Nat
 ct : Nat
 us : Nat
 la : Nat
 sy : Nat
 waits : List UInt8
 br : Bool
 ex : Nat → Prop
def JB (w : World) (gj gd : Nat) (J : JnS) (wv : Value) : Prop :=
 w.heap[gj]? = some (.cells #[.pointer (some ⟨gd, 0, none⟩), .int .i64 (J.fi : Int), .int .i64 (J.bl : Int), .int .i64 (J.ep : Int), .pointer (some ⟨gj, 0, none⟩), .int .i64 (J.pl : Int), .int .i64 (J.ct : Int), .int .i64 (J.us : Int), wv, .int .i64 (J.la : Int), .int .i64 (J.sy : Int), .bool J.br] 124 (0, 0))
section
variable {w w' : World} {gj gd : Nat} {J : JnS} {wv : Value}
set_option maxRecDepth 100000 in
theorem JB.lt (h : JB w gj gd J wv) : gj < w.heap.size := (Array.getElem?_eq_some_iff.1 h).1
set_option maxRecDepth 100000 in
theorem JB.off {S : Nat → Prop} (h : JB w gj gd J wv) (ho : Off S w w') (hs : ¬ S gj) : JB w' gj gd J wv := (ho.block gj h.lt hs).trans h
set_option maxRecDepth 100000 in
theorem JB.below (h : JB w gj gd J wv) (hb : Below w.heap.size w w') : JB w' gj gd J wv := (hb.block gj h.lt).trans h
set_option maxRecDepth 100000 in
theorem JB.frozen (h : JB w gj gd J wv) (j : Nat) : w.frozen? ⟨gj, j, none⟩ = false := by unfold JB at h; simp [World.frozen?, h]
set_option maxRecDepth 100000 in
theorem JB.c0 (h : JB w gj gd J wv) : w.cell? ⟨gj, 0, none⟩ = some (.pointer (some ⟨gd, 0, none⟩)) := by rw [cell_of_row w gj 0 _ _ _ h]; rfl
set_option maxRecDepth 100000 in
theorem JB.c1 (h : JB w gj gd J wv) : w.cell? ⟨gj, 1, none⟩ = some (.int .i64 (J.fi : Int)) := by rw [cell_of_row w gj 1 _ _ _ h]; rfl
set_option maxRecDepth 100000 in
theorem JB.c2 (h : JB w gj gd J wv) : w.cell? ⟨gj, 2, none⟩ = some (.int .i64 (J.bl : Int)) := by rw [cell_of_row w gj 2 _ _ _ h]; rfl
set_option maxRecDepth 100000 in
theorem JB.c3 (h : JB w gj gd J wv) : w.cell? ⟨gj, 3, none⟩ = some (.int .i64 (J.ep : Int)) := by rw [cell_of_row w gj 3 _ _ _ h]; rfl
set_option maxRecDepth 100000 in
theorem JB.c4 (h : JB w gj gd J wv) : w.cell? ⟨gj, 4, none⟩ = some (.pointer (some ⟨gj, 0, none⟩)) := by rw [cell_of_row w gj 4 _ _ _ h]; rfl
set_option maxRecDepth 100000 in
theorem JB.c5 (h : JB w gj gd J wv) : w.cell? ⟨gj, 5, none⟩ = some (.int .i64 (J.pl : Int)) := by rw [cell_of_row w gj 5 _ _ _ h]; rfl
set_option maxRecDepth 100000 in
theorem JB.c6 (h : JB w gj gd J wv) : w.cell? ⟨gj, 6, none⟩ = some (.int .i64 (J.ct : Int)) := by rw [cell_of_row w gj 6 _ _ _ h]; rfl
set_option maxRecDepth 100000 in
theorem JB.c7 (h : JB w gj gd J wv) : w.cell? ⟨gj, 7, none⟩ = some (.int .i64 (J.us : Int)) := by rw [cell_of_row w gj 7 _ _ _ h]; rfl
set_option maxRecDepth 100000 in
theorem JB.c8 (h : JB w gj gd J wv) : w.cell? ⟨gj, 8, none⟩ = some (wv) := by rw [cell_of_row w gj 8 _ _ _ h]; rfl
set_option maxRecDepth 100000 in
theorem JB.c9 (h : JB w gj gd J wv) : w.cell? ⟨gj, 9, none⟩ = some (.int .i64 (J.la : Int)) := by rw [cell_of_row w gj 9 _ _ _ h]; rfl
set_option maxRecDepth 100000 in
theorem JB.c10 (h : JB w gj gd J wv) : w.cell? ⟨gj, 10, none⟩ = some (.int .i64 (J.sy : Int)) := by rw [cell_of_row w gj 10 _ _ _ h]; rfl
set_option maxRecDepth 100000 in
theorem JB.c11 (h : JB w gj gd J wv) : w.cell? ⟨gj, 11, none⟩ = some (.bool J.br) := by rw [cell_of_row w gj 11 _ _ _ h]; rfl
set_option maxRecDepth 100000 in
theorem JB.s5 (h : JB w gj gd J wv) (n : Nat) : JB (w.setCell ⟨gj, 5, none⟩ (.int .i64 (n : Int))) gj gd { J with pl := n } wv := by unfold JB at h ⊢; simp only [World.setCell, Array.getElem?_modify, if_pos, h]; rfl
set_option maxRecDepth 100000 in
theorem JB.s6 (h : JB w gj gd J wv) (n : Nat) : JB (w.setCell ⟨gj, 6, none⟩ (.int .i64 (n : Int))) gj gd { J with ct := n } wv := by unfold JB at h ⊢; simp only [World.setCell, Array.getElem?_modify, if_pos, h]; rfl
set_option maxRecDepth 100000 in
theorem JB.s7 (h : JB w gj gd J wv) (n : Nat) : JB (w.setCell ⟨gj, 7, none⟩ (.int .i64 (n : Int))) gj gd { J with us := n } wv := by unfold JB at h ⊢; simp only [World.setCell, Array.getElem?_modify, if_pos, h]; rfl
set_option maxRecDepth 100000 in
theorem JB.s9 (h : JB w gj gd J wv) (n : Nat) : JB (w.setCell ⟨gj, 9, none⟩ (.int .i64 (n : Int))) gj gd { J with la := n } wv := by unfold JB at h ⊢; simp only [World.setCell, Array.getElem?_modify, if_pos, h]; rfl
set_option maxRecDepth 100000 in
theorem JB.s10 (h : JB w gj gd J wv) (n : Nat) : JB (w.setCell ⟨gj, 10, none⟩ (.int .i64 (n : Int))) gj gd { J with sy := n } wv := by unfold JB at h ⊢; simp only [World.setCell, Array.getElem?_modify, if_pos, h]; rfl
set_option maxRecDepth 100000 in
theorem JB.s8 (h : JB w gj gd J wv) (v : Value) (l : List UInt8) : JB (w.setCell ⟨gj, 8, none⟩ v) gj gd { J with waits := l } v := by unfold JB at h ⊢; simp only [World.setCell, Array.getElem?_modify, if_pos, h]; rfl
set_option maxRecDepth 100000 in
theorem JB.s11 (h : JB w gj gd J wv) (b : Bool) : JB (w.setCell ⟨gj, 11, none⟩ (.bool b)) gj gd { J with br := b } wv := by unfold JB at h ⊢; simp only [World.setCell, Array.getElem?_modify, if_pos, h]; rfl
end
def needL (n : Nat) : Nat := (n + 4075) / 4076
set_option maxRecDepth 100000 in
theorem needs_any (n : Nat) (w : World) (hn : n ≤ 4611686018427387904) :
  Calls Tryz.prog 87 #[.int .i64 (n : Int)] w fun e w' => e = .returned (.int .i64 ((needL n : Nat) : Int)) ∧ w = w' := by
 go_enter Tryz.func87, Tryz.ntmps87
 go_wp2_with fail
 go_ret
 refine ⟨ret_i ?_, rfl⟩
 unfold needL
 try rw [Int.tdiv_eq_ediv_of_nonneg (by omega)]
 omega
def mayB (n fi bl ep pl ct : Int) : Bool := decide (1 ≤ bl) && (decide (bl ≤ 1024) && (decide (0 ≤ fi) && (decide (fi ≤ n - bl) && (decide (1 ≤ ep) && (decide (ep ≤ 4294967295) && (decide (0 ≤ pl) && (decide (pl < bl) && (decide (1 ≤ ct) && decide (ct ≤ 4294967295)))))))))
def RC (w : World) (gr o : Nat) (dp : Value) (fi bl ep : Int) : Prop := w.cell? ⟨gr, o, none⟩ = some dp ∧ w.cell? ⟨gr, o + 1, none⟩ = some (.int .i64 fi) ∧ w.cell? ⟨gr, o + 2, none⟩ = some (.int .i64 bl) ∧ w.cell? ⟨gr, o + 3, none⟩ = some (.int .i64 ep)
set_option maxRecDepth 100000 in
theorem JB.rc {w : World} {gj gd : Nat} {J : JnS} {wv : Value} (h : JB w gj gd J wv) : RC w gj 0 (.pointer (some ⟨gd, 0, none⟩)) J.fi J.bl J.ep := ⟨h.c0, h.c1, h.c2, h.c3⟩
set_option maxRecDepth 100000 in
set_option maxHeartbeats 4000000 in
theorem mayBe_yes (w : World) (n : Nat) (gr : Nat) (dp : Value) (fi bl ep pl ct : Int) (h : RC w gr 0 dp fi bl ep) (hn : n ≤ 4096) (hB : ∀ W, Below w.heap.size w W → Calls Tryz.prog 88 #[dp] W fun e w' => e = .returned (.int .i64 (n : Int)) ∧ W = w') (hm : mayB n fi bl ep pl ct = true) :
  Calls Tryz.prog 89 #[.pointer (some ⟨gr, 0, none⟩), .int .i64 pl, .int .i64 ct] w fun e w' => e = .returned (.bool true) ∧ Below w.heap.size w w' := by
 obtain ⟨c0, c1, c2, c3⟩ := h
 simp only [Nat.zero_add] at c1 c2 c3
 have HB := Lib.hid hB
 unfold mayB at hm
 simp only [Bool.and_eq_true] at hm
 obtain ⟨t0, t1, t2, t3, t4, t5, t6, t7, t8, t9⟩ := hm
 have k0 := of_decide_eq_true t0
 have k1 := of_decide_eq_true t1
 have n0 : (0 : Int) ≤ (n : Int) := Int.natCast_nonneg _
 have hwr : IntKind.i64.wrap ((n : Int) - bl) = (n : Int) - bl := by rw [IntKind.wrap_i64]; omega
 clear hB
 go_enter Tryz.func89, Tryz.ntmps89
 go_wp2_with (go_quiet ((go_at_call 88; exact Calls.quiet_of_same ((HB.out _ (gr_drewN (gr_refl _) _)).mono (fun _ _ h => ⟨h.1, h.2.symm⟩)))))
 go_ret
 exact ⟨rfl, gr_drewN (gr_refl _) nq⟩
set_option maxRecDepth 100000 in
theorem info_jn : (Tryz.prog.info? 124).isSome = true := by kernel_rfl
set_option maxRecDepth 100000 in
theorem eql_selfJ (W : World) (a : Addr) : (binOp .eql 50 (.pointer (some a)) (.pointer (some a))).run Tryz.prog W = .ok (.bool true) W := by
 obtain ⟨j, hj⟩ := Option.isSome_iff_exists.1 info_jn
 exact run_eql_ptr_same W a Tryz.underlying50 hj
set_option maxRecDepth 100000 in
theorem eql_nilJ (W : World) (a : Addr) : (binOp .eql 50 (.pointer none) (.pointer (some a))).run Tryz.prog W = .ok (.bool false) W := by
 have h : ∀ d : Nat, (Op.equalIn (d + 1) 50 (.pointer none) (.pointer (some a))).run Tryz.prog W = .ok false W := fun d => by
  simp [Op.equalIn, run_underlying Tryz.underlying50]
 simp only [binOp]
 simp [Op.equal, Op.maxDepth, h 9999]
set_option maxRecDepth 100000 in
set_option maxRecDepth 100000 in
theorem jmade_yes (w : World) (gj : Nat) (h : w.cell? ⟨gj, 4, none⟩ = some (.pointer (some ⟨gj, 0, none⟩))) :
  Calls Tryz.prog 78 #[.pointer (some ⟨gj, 0, none⟩)] w fun e w' => e = .returned (.bool true) ∧ w = w' := by
 have hq := fun W => eql_selfJ W ⟨gj, 0, none⟩
 go_enter Tryz.func78, Tryz.ntmps78
 go_wp2_with fail
 go_ret
 exact ⟨rfl, rfl⟩
def UnJ (p : Option Addr) (w : World) : Prop := p = none ∨ ∃ g, p = some ⟨g, 0, none⟩ ∧ w.cell? ⟨g, 4, none⟩ = some (.pointer none)
set_option maxRecDepth 100000 in
theorem UnJ.below {p : Option Addr} {w w' : World} (h : UnJ p w) (hb : Below w.heap.size w w') : UnJ p w' := by
 rcases h with h | ⟨g, e, h⟩
 ·exact .inl h
 ·exact .inr ⟨g, e, keep_of_below hb h⟩
set_option maxRecDepth 100000 in
theorem jmade_un {p : Option Addr} {w : World} (h : UnJ p w) :
  Calls Tryz.prog 78 #[.pointer p] w fun e w' => e = .returned (.bool false) ∧ w = w' := by
 rcases h with rfl | ⟨g, rfl, h⟩
 ·go_enter Tryz.func78, Tryz.ntmps78
  go_wp2_with fail
  go_ret
  exact ⟨rfl, rfl⟩
 ·have hq := fun W => eql_nilJ W ⟨g, 0, none⟩
  go_enter Tryz.func78, Tryz.ntmps78
  go_wp2_with fail
  go_ret
  exact ⟨rfl, rfl⟩
def standE (J : JnS) : Int := if J.br then 4 else 0
set_option maxRecDepth 100000 in
theorem stands_any {w : World} {gj gd : Nat} {J : JnS} {wv : Value} (h : JB w gj gd J wv) :
  Calls Tryz.prog 85 #[.pointer (some ⟨gj, 0, none⟩)] w fun e w' => e = .returned (.int .i64 (standE J)) ∧ w = w' := by
 have HM := Lib.hid (jmade_yes w gj h.c4)
 have c := h.c11
 have HE : Hid (standE J = if J.br then 4 else 0) := Lib.hid rfl
 generalize standE J = r at *
 clear h
 go_enter Tryz.func85, Tryz.ntmps85
 go_wp2_with fail
 refine HM.out.mono ?_
 rintro e w2 ⟨rfl, rfl⟩
 cases hb : J.br
 all_goals
  rw [hb] at c HE
  go_wp2_with fail
  go_ret
  exact ⟨by rw [HE.out]; rfl, rfl⟩
set_option maxRecDepth 100000 in
theorem Last_any {w : World} {gj gd : Nat} {J : JnS} {wv : Value} (h : JB w gj gd J wv) :
  Calls Tryz.prog 29 #[.pointer (some ⟨gj, 0, none⟩)] w fun e w' => e = .returned (.int .i64 (J.la : Int)) ∧ Below w.heap.size w w' := by
 have HM := Lib.hid (jmade_yes w gj h.c4)
 have c0 := h.c9
 clear h
 go_enter Tryz.func29, Tryz.ntmps29
 go_wp2_with fail
 refine HM.out.mono ?_
 rintro e w2 ⟨rfl, rfl⟩
 go_wp2_with fail
 go_ret
 exact ⟨rfl, gr_refl _⟩
set_option maxRecDepth 100000 in
theorem Synced_any {w : World} {gj gd : Nat} {J : JnS} {wv : Value} (h : JB w gj gd J wv) :
  Calls Tryz.prog 55 #[.pointer (some ⟨gj, 0, none⟩)] w fun e w' => e = .returned (.int .i64 (J.sy : Int)) ∧ Below w.heap.size w w' := by
 have HM := Lib.hid (jmade_yes w gj h.c4)
 have c0 := h.c10
 clear h
 go_enter Tryz.func55, Tryz.ntmps55
 go_wp2_with fail
 refine HM.out.mono ?_
 rintro e w2 ⟨rfl, rfl⟩
 go_wp2_with fail
 go_ret
 exact ⟨rfl, gr_refl _⟩
set_option maxRecDepth 100000 in
theorem Room_any {w : World} {gj gd : Nat} {J : JnS} {wv : Value} (h : JB w gj gd J wv) (hu : J.us ≤ J.bl) (hl : J.bl ≤ 1024) :
  Calls Tryz.prog 33 #[.pointer (some ⟨gj, 0, none⟩)] w fun e w' => e = .returned (.int .i64 ((J.bl - J.us : Nat) : Int)) ∧ Below w.heap.size w w' := by
 have HM := Lib.hid (jmade_yes w gj h.c4)
 have c0 := h.c2
 have c1 := h.c7
 clear h
 go_enter Tryz.func33, Tryz.ntmps33
 go_wp2_with fail
 refine HM.out.mono ?_
 rintro e w2 ⟨rfl, rfl⟩
 go_wp2_with (go_quiet (fail))
 go_ret
 exact ⟨ret_i (by omega), gr_drewN (gr_refl _) nq⟩
set_option maxRecDepth 100000 in
theorem At_any {w : World} {gj gd : Nat} {J : JnS} {wv : Value} (h : JB w gj gd J wv) :
  Calls Tryz.prog 98 #[.pointer (some ⟨gj, 0, none⟩)] w fun e w' => e = .returned (.tuple #[.int .i64 (J.pl : Int), .int .i64 (J.ct : Int)]) ∧ Below w.heap.size w w' := by
 have HM := Lib.hid (jmade_yes w gj h.c4)
 have c0 := h.c5
 have c1 := h.c6
 clear h
 go_enter Tryz.func98, Tryz.ntmps98
 go_wp2_with fail
 refine HM.out.mono ?_
 rintro e w2 ⟨rfl, rfl⟩
 go_wp2_with (go_quiet (fail))
 go_ret2
 exact ⟨rfl, gr_drewN (gr_refl _) nq⟩
set_option maxRecDepth 100000 in
theorem At_un {p : Option Addr} {w : World} (h : UnJ p w) :
  Calls Tryz.prog 98 #[.pointer p] w fun e w' => e = .returned (.tuple #[.int .i64 0, .int .i64 0]) ∧ w = w' := by
 have HM := Lib.hid (jmade_un h)
 clear h
 go_enter Tryz.func98, Tryz.ntmps98
 go_wp2_with fail
 refine HM.out.mono ?_
 rintro e w2 ⟨rfl, rfl⟩
 go_wp2_with fail
 go_ret2
 exact ⟨rfl, rfl⟩
end Go.Proofs.YtnkeclpgpiogoaaGreat

/-! RgA -/
namespace Go.Proofs.YtnkeclpgpiogoaaGreat
open Go.RowKit
end Go.Proofs.YtnkeclpgpiogoaaGreat
