/-
  A region that draws its order, of which every operation only adds to memory: each operation is walked once, whatever the order.
-/
import Derived.Test.YtfgkadkmgciamaaReg
namespace Go.Proofs.Ytfgkadkmgciamaa
open Go Go.RowKit

/-- What an operation leaves: of the value, in the world behind it; stays while memory only grows. -/
structure MP where
  p : Value → World → Prop
  mono : ∀ v w w', Below w.heap.size w w' → p v w → p v w'
def MP.any : MP := ⟨fun _ _ => True, fun _ _ _ _ _ => trivial⟩
def MP.is (c : Value) : MP := ⟨fun v _ => v = c, fun _ _ _ _ h => h⟩

def dstOf (ops : Array Oper) (i : Nat) : Option Tmp := (ops[i]?).bind (·.dst)
/-- The slots of those listed, among the first n, filled. -/
def putL (ops : Array Oper) (listed : Array Bool) (f : Nat → Value) (a : Act) : Nat → Act
  | 0 => a
  | n + 1 => if listed.getD n false = true then (putL ops listed f a n).put (dstOf ops n) (f n) else putL ops listed f a n
/-- All slots filled. -/
def putA (ops : Array Oper) (f : Nat → Value) (a : Act) : Nat → Act
  | 0 => a
  | n + 1 => (putA ops f a n).put (dstOf ops n) (f n)
def dstsApart (ops : Array Oper) : Bool := (List.range ops.size).all fun i => (List.range i).all fun j => (dstOf ops i).isNone || dstOf ops i != dstOf ops j
def depsOf (md : Region.Mode) (ops : Array Oper) (i : Nat) : List Nat := match ops[i]? with | some o => (o.after.toList.filter (Region.binds md)).map (·.on) | none => []
def needsOf (md : Region.Mode) (ops : Array Oper) (i : Nat) : List Nat := needs md ops ops.size (depsOf md ops i)
/-- What an operation looks at of the region's slots is there when it comes up. -/
def looksBack (md : Region.Mode) (ops : Array Oper) : Bool :=
  (List.range ops.size).all fun i => match ops[i]? with
    | some o => (o.looksAt ops).all fun x => (List.range ops.size).all fun j => dstOf ops j != some x || (needsOf md ops i).contains j
    | none => true

section
variable {P : Program} {md : Region.Mode} {ops : Array Oper} {Q : Exit → Act → World → Prop} {f : Nat → Value} {a : Act} {listed : Array Bool}

theorem put_size (a : Act) (d : Option Tmp) (v : Value) : (a.put d v).tmps.size = a.tmps.size := by cases d <;> simp [Act.put]
theorem put_defers (a : Act) (d : Option Tmp) (v : Value) : (a.put d v).defers = a.defers := by cases d <;> rfl
theorem putL_size : ∀ n, (putL ops listed f a n).tmps.size = a.tmps.size
  | 0 => rfl
  | n + 1 => by
    unfold putL
    split
    · rw [put_size, putL_size n]
    · exact putL_size n
theorem putA_size : ∀ n, (putA ops f a n).tmps.size = a.tmps.size
  | 0 => rfl
  | n + 1 => by
    unfold putA
    rw [put_size, putA_size n]
theorem putL_defers : ∀ n, (putL ops listed f a n).defers = a.defers
  | 0 => rfl
  | n + 1 => by
    unfold putL
    split
    · rw [put_defers, putL_defers n]
    · exact putL_defers n
theorem putA_defers : ∀ n, (putA ops f a n).defers = a.defers
  | 0 => rfl
  | n + 1 => by
    unfold putA
    rw [put_defers, putA_defers n]

theorem dstsApart_spec (h : dstsApart ops = true) {i j : Nat} (hi : i < ops.size) (hj : j < i) : ∀ d, dstOf ops i = some d → dstOf ops j ≠ some d := by
  unfold dstsApart at h
  rw [List.all_eq_true] at h
  have h1 := h i (List.mem_range.2 hi)
  rw [List.all_eq_true] at h1
  have h2 := h1 j (List.mem_range.2 hj)
  intro d hd he
  rw [hd, he] at h2
  simp at h2

def upd (f : Nat → Value) (i : Nat) (v : Value) : Nat → Value := fun k => if k = i then v else f k

theorem putL_same {g : Nat → Value} {listed2 : Array Bool} : ∀ n, (∀ k, k < n → listed.getD k false = listed2.getD k false ∧ f k = g k) → putL ops listed f a n = putL ops listed2 g a n
  | 0, _ => rfl
  | n + 1, h => by
    unfold putL
    rw [putL_same n (fun k hk => h k (by omega)), (h n (by omega)).1, (h n (by omega)).2]

theorem putL_set (hd : dstsApart ops = true) {i : Nat} {v : Value} (hs : listed.size = ops.size) (hl : listed.getD i true = false) : ∀ n, n ≤ ops.size → i < n → putL ops (listed.setIfInBounds i true) (upd f i v) a n = (putL ops listed f a n).put (dstOf ops i) v
  | 0, _, h => by omega
  | n + 1, hn, h => by
    have hset : ∀ k, k ≠ i → (listed.setIfInBounds i true).getD k false = listed.getD k false := fun k hk => getD_set_ne false (Ne.symm hk)
    unfold putL
    by_cases e : i = n
    · subst e
      have h1 : (listed.setIfInBounds i true).getD i false = true := by
        rw [Array.getD_eq_getD_getElem?, Array.getElem?_setIfInBounds_self_of_lt (by omega)]
        rfl
      have h2 : listed.getD i false = false := by
        rw [Array.getD_eq_getD_getElem?, Array.getElem?_eq_getElem (show i < listed.size by omega)] at hl ⊢
        exact hl
      rw [if_pos h1, if_neg (by rw [h2]; exact Bool.false_ne_true)]
      have e1 : upd f i v i = v := by unfold upd; rw [if_pos rfl]
      rw [e1]
      congr 1
      exact putL_same i (fun k hk => ⟨hset k (by omega), by unfold upd; rw [if_neg (by omega)]⟩)
    · have ih := putL_set hd hs hl n (by omega) (by omega) (v := v)
      have e1 : upd f i v n = f n := by unfold upd; rw [if_neg (fun h => e h.symm)]
      rw [hset n (fun h => e h.symm), ih, e1]
      split
      · exact Act.put_comm _ v (f n) (fun d h1 h2 => dstsApart_spec hd (i := n) (j := i) (by omega) (by omega) d h2 h1)
      · rfl

/-- A slot is as it is when all are filled, if those that fill it are listed. -/
theorem putL_at {x : Tmp} : ∀ n, (∀ j, j < n → dstOf ops j = some x → listed.getD j false = true) → (putL ops listed f a n).tmps[x]? = (putA ops f a n).tmps[x]?
  | 0, _ => rfl
  | n + 1, h => by
    have ih := putL_at (x := x) n (fun j hj => h j (by omega))
    unfold putL putA
    have sz : (putL ops listed f a n).tmps.size = (putA ops f a n).tmps.size := by rw [putL_size, putA_size]
    cases hd : dstOf ops n with
    | none => simpa [Act.put] using ih
    | some d =>
      by_cases e : d = x
      · subst e
        rw [if_pos (h n (by omega) hd)]
        simp only [Act.put, Array.getElem?_setIfInBounds, sz, if_true]
      · split
        · simp only [Act.put]
          rw [Array.getElem?_setIfInBounds_ne e, Array.getElem?_setIfInBounds_ne e]
          exact ih
        · simp only [Act.put]
          rw [Array.getElem?_setIfInBounds_ne e]
          exact ih

theorem putL_none (hl : ∀ k, k < ops.size → listed.getD k false = false) : ∀ n, n ≤ ops.size → putL ops listed f a n = a
  | 0, _ => rfl
  | n + 1, hn => by
    unfold putL
    rw [if_neg (by rw [hl n (by omega)]; exact Bool.false_ne_true)]
    exact putL_none hl n (by omega)
theorem putL_all (hl : ∀ k, k < ops.size → listed.getD k false = true) : ∀ n, n ≤ ops.size → putL ops listed f a n = putA ops f a n
  | 0, _ => rfl
  | n + 1, hn => by
    unfold putL putA
    rw [if_pos (hl n (by omega)), putL_all hl n (by omega)]

theorem eval_at {a b : Act} {x : Operand} (h : ∀ t, x = .tmp t → a.tmps[t]? = b.tmps[t]?) : a.eval x = b.eval x := by
  cases x with
  | tmp t => simp [Act.eval, h t rfl]
  | _ => rfl
theorem put_turn {a b : Act} {d : Option Tmp} {u v : Value} (hs : a.tmps.size = b.tmps.size) (h : a.put d u = a.put d v) : b.put d u = b.put d v := by
  cases d with
  | none => rfl
  | some t =>
    simp only [Act.put] at h ⊢
    by_cases hlt : t < a.tmps.size
    · have h1 : (a.tmps.setIfInBounds t u)[t]? = (a.tmps.setIfInBounds t v)[t]? := by
        injection h with h1 h2
        rw [h1]
      rw [Array.getElem?_setIfInBounds_self_of_lt hlt, Array.getElem?_setIfInBounds_self_of_lt hlt] at h1
      injection h1 with h1
      rw [h1]
    · have e : ∀ z : Value, b.tmps.setIfInBounds t z = b.tmps := fun z => by
        apply Array.ext_getElem?
        intro k
        rw [Array.getElem?_setIfInBounds]
        by_cases e : t = k
        · rw [if_pos e, ← e, if_neg (show ¬ t < b.tmps.size from by rw [← hs]; exact hlt), Array.getElem?_eq_none (show b.tmps.size ≤ t from by rw [← hs]; exact Nat.le_of_not_lt hlt)]
        · rw [if_neg e]
      rw [e u, e v]
end

/-- What each operation is to be shown to do, in the state in which all slots are filled. -/
def StepOK (P : Program) (ops : Array Oper) (Rs : List MP) (w0 : World) (AA : (Nat → Value) → Act) (i : Nat) (o : Oper) : Prop :=
  ∀ (f : Nat → Value) (w : World), Below w0.heap.size w0 w → (∀ j, (needsOf .any ops i).contains j = true → (Rs.getD j MP.any).p (f j) w) →
    ∀ (K : Act → World → Prop) (Q : Exit → Act → World → Prop), (∀ v w', Below w.heap.size w w' → (Rs.getD i MP.any).p v w' → K ((AA f).put o.dst v) w') →
      if Region.wanted o (yielded ops (AA f).tmps) = true then Oper.wp P o (AA f) w K Q else K ((AA f).put o.dst undef) w
def Steps (P : Program) (ops : Array Oper) (Rs : List MP) (w0 : World) (AA : (Nat → Value) → Act) (l : List Nat) : Prop := ∀ i ∈ l, ∀ o, ops[i]? = some o → StepOK P ops Rs w0 AA i o

section
variable {P : Program} {ops : Array Oper} {Q : Exit → Act → World → Prop} {Rs : List MP} {w0 : World} {AA : (Nat → Value) → Act}
theorem Steps.nil : Steps P ops Rs w0 AA [] := fun _ h => by cases h
theorem Steps.cons {i : Nat} {l : List Nat} {o : Oper} (ho : ops[i]? = some o) (h : StepOK P ops Rs w0 AA i o) (hs : Steps P ops Rs w0 AA l) : Steps P ops Rs w0 AA (i :: l) := fun j hj x hx => by
  rcases List.mem_cons.1 hj with rfl | hj
  · rw [ho] at hx
    cases hx
    exact h
  · exact hs j hj x hx

theorem mono_step {i : Nat} {o : Oper} {a : Act} {w : World} {f : Nat → Value} {listed : Array Bool} (ho : ops[i]? = some o) (hAA : ∀ f, putA ops f a ops.size = AA f) (hd : dstsApart ops = true) (hk : looksBack .any ops = true) (hsel : Region.noSelect ops = true)
    (hs : listed.size = ops.size) (hl : listed.getD i true = false) (hn : ∀ j, (needsOf .any ops i).contains j = true → listed.getD j false = true)
    (hB : Below w0.heap.size w0 w) (hR : ∀ j, j < ops.size → listed.getD j false = true → (Rs.getD j MP.any).p (f j) w) (hst : StepOK P ops Rs w0 AA i o)
    (hnlt : ∀ j, (needsOf .any ops i).contains j = true → j < ops.size) :
    wpOp P ops Q i (fun a' w' => ∃ f', a' = putL ops (listed.setIfInBounds i true) f' a ops.size ∧ Below w0.heap.size w0 w' ∧ ∀ j, j < ops.size → (listed.setIfInBounds i true).getD j false = true → (Rs.getD j MP.any).p (f' j) w') (putL ops listed f a ops.size) w := by
  have hi : i < ops.size := (Array.getElem?_eq_some_iff.1 ho).1
  have hlook : ∀ x ∈ o.looksAt ops, (putL ops listed f a ops.size).tmps[x]? = (AA f).tmps[x]? := by
    intro x hx
    rw [← hAA f]
    refine putL_at _ (fun j hj he => ?_)
    unfold looksBack at hk
    rw [List.all_eq_true] at hk
    have h1 := hk i (List.mem_range.2 hi)
    rw [ho] at h1
    simp only [List.all_eq_true] at h1
    have h2 := h1 x hx j (List.mem_range.2 hj)
    simp only [Bool.or_eq_true] at h2
    rcases h2 with h2 | h2
    · rw [he] at h2
      simp at h2
    · exact hn j h2
  have hex : execOp (putL ops listed f a ops.size).eval o = execOp (AA f).eval o := execOp_congr o (fun cs b => Region.noSelect_spec hsel i o cs b ho) (fun x hx => eval_at (fun t e => hlook t (by
    subst e
    exact List.mem_append_left _ (List.mem_filterMap.2 ⟨.tmp t, by simpa using hx, rfl⟩))))
  have hwt : Region.wanted o (yielded ops (putL ops listed f a ops.size).tmps) = Region.wanted o (yielded ops (AA f).tmps) := by
    unfold Region.wanted
    cases hg : o.guard with
    | none => rfl
    | some gw =>
      obtain ⟨g, want⟩ := gw
      simp only
      have hy : yielded ops (putL ops listed f a ops.size).tmps g = yielded ops (AA f).tmps g := by
        unfold yielded
        cases ht : (ops[g]?).bind (·.dst) with
        | none => rfl
        | some t =>
          simp only [Option.bind_some]
          rw [hlook t (by simp [Oper.looksAt, hg, ht])]
      rw [hy]
  have hdef : (AA f).defers = (putL ops listed f a ops.size).defers := by rw [← hAA f, putA_defers, putL_defers]
  have hsz : (AA f).tmps.size = (putL ops listed f a ops.size).tmps.size := by rw [← hAA f, putA_size, putL_size]
  -- the way on
  have fin : ∀ v w', (∃ v2, (AA f).put o.dst v = (AA f).put o.dst v2 ∧ Below w.heap.size w w' ∧ (Rs.getD i MP.any).p v2 w') → ∃ f', (putL ops listed f a ops.size).put o.dst v = putL ops (listed.setIfInBounds i true) f' a ops.size ∧ Below w0.heap.size w0 w' ∧ ∀ j, j < ops.size → (listed.setIfInBounds i true).getD j false = true → (Rs.getD j MP.any).p (f' j) w' := by
    rintro v w' ⟨v2, e, hb, hr⟩
    have hdst : dstOf ops i = o.dst := by unfold dstOf; rw [ho]; rfl
    refine ⟨upd f i v2, ?_, ⟨hb.os.trans hB.os, hb.tape.trans hB.tape, hb.output.trans hB.output, Nat.le_trans hB.size hb.size, fun k hk => (hb.block k (Nat.lt_of_lt_of_le hk hB.size)).trans (hB.block k hk)⟩, fun j hj hlj => ?_⟩
    · rw [putL_set hd hs hl ops.size (Nat.le_refl _) hi, hdst]
      exact put_turn hsz e
    · by_cases e2 : j = i
      · subst e2
        unfold upd
        rw [if_pos rfl]
        exact hr
      · unfold upd
        rw [if_neg e2]
        rw [getD_set_ne false (Ne.symm e2)] at hlj
        exact (Rs.getD j MP.any).mono _ _ _ hb (hR j hj hlj)
  have hK := hst f w hB (fun j hj => hR j (hnlt j hj) (hn j hj)) (fun a' w' => ∃ v2, a' = (AA f).put o.dst v2 ∧ Below w.heap.size w w' ∧ (Rs.getD i MP.any).p v2 w') (fun _ _ _ => False) (fun v w' hb hr => ⟨v, rfl, hb, hr⟩)
  unfold wpOp
  rw [ho]
  simp only
  rw [hwt]
  split
  · rename_i hw
    rw [if_pos hw] at hK
    refine .inl ?_
    unfold Oper.wp at hK ⊢
    rw [hex]
    generalize (execOp (AA f).eval o).run P w = r at *
    cases r with
    | ok n w' =>
      cases n <;> simp only [Oper.upon] at hK ⊢
      case value v => exact fin v w' hK
      case skip => exact fin _ w' hK
      case defer d =>
        exfalso
        obtain ⟨v2, e, _⟩ := hK
        have h1 := congrArg Act.defers e
        rw [put_defers, put_defers] at h1
        have h2 := congrArg List.length h1
        simp at h2
      case enter fn args =>
        refine Calls.mono hK fun e w'' he => ?_
        cases e with
        | returned v => exact fin v w'' he
        | panicked c => exact he.elim
        | outgrown => obtain ⟨_, _, h⟩ := he; exact h.elim
      case row row args => exact Rows.mono hK fun v w'' he => fin v w'' he
    | halt x w' => cases x <;> simp only [Oper.upon] at hK
  · rename_i hw
    rw [if_neg hw] at hK
    exact fin _ w hK

theorem wpAny_mono (hb : edgesBack .any ops = true) {a : Act} (hAA : ∀ f, putA ops f a ops.size = AA f) (hd : dstsApart ops = true) (hk : looksBack .any ops = true) (hsel : Region.noSelect ops = true)
    (hst : Steps P ops Rs w0 AA (List.range ops.size)) (hend : ∀ f w, Below w0.heap.size w0 w → (∀ j, j < ops.size → (Rs.getD j MP.any).p (f j) w) → Q .normal (AA f) w)
    (hnlt : ∀ i j, i < ops.size → (needsOf .any ops i).contains j = true → j < ops.size) :
    ∀ (fuel : Nat) (listed : Array Bool) (f : Nat → Value) (w : World), listed.size = ops.size → closedL .any ops listed → Below w0.heap.size w0 w → (∀ j, j < ops.size → listed.getD j false = true → (Rs.getD j MP.any).p (f j) w) → ((List.range ops.size).filter (fun j => !listed.getD j false)).length ≤ fuel →
      wpAny P .any ops Q fuel listed (putL ops listed f a ops.size) w := by
  have done : ∀ (listed : Array Bool) (f : Nat → Value) (w : World), listed.size = ops.size → Below w0.heap.size w0 w → (∀ j, j < ops.size → listed.getD j false = true → (Rs.getD j MP.any).p (f j) w) → Region.ready .any ops listed = [] → Q .normal (putL ops listed f a ops.size) w := by
    intro listed f w hs hB hR hr
    have hall := all_listed hb hs hr ops.size (Nat.le_refl _)
    rw [putL_all hall ops.size (Nat.le_refl _), hAA]
    exact hend f w hB (fun j hj => hR j hj (hall j hj))
  intro fuel
  induction fuel with
  | zero =>
    intro listed f w hs hc hB hR hf
    have hr : Region.ready .any ops listed = [] := by
      rcases hq : Region.ready .any ops listed with _ | ⟨x, xs⟩
      · rfl
      · exfalso
        have hx : x ∈ Region.ready .any ops listed := by rw [hq]; simp
        obtain ⟨h1, z, hz, _⟩ := mem_ready.1 hx
        have hxl : x < ops.size := (Array.getElem?_eq_some_iff.1 hz).1
        have hx2 : x ∈ (List.range ops.size).filter (fun j => !listed.getD j false) := by
          rw [List.mem_filter]
          refine ⟨List.mem_range.2 hxl, ?_⟩
          rw [Array.getD_eq_getD_getElem?, Array.getElem?_eq_getElem (show x < listed.size by omega)] at h1 ⊢
          simp only [Option.getD_some] at h1 ⊢
          rw [h1]
          rfl
        rw [List.length_eq_zero_iff.1 (Nat.le_zero.1 hf)] at hx2
        cases hx2
    exact ⟨hr, done listed f w hs hB hR hr⟩
  | succ fuel ih =>
    intro listed f w hs hc hB hR hf
    refine ⟨done listed f w hs hB hR, fun i hi => ?_⟩
    obtain ⟨h1, o, ho, hall⟩ := mem_ready.1 hi
    have hil : i < ops.size := (Array.getElem?_eq_some_iff.1 ho).1
    have hneed : ∀ j, (needsOf .any ops i).contains j = true → listed.getD j false = true := by
      intro j hj
      refine needs_listed hc hs ops.size (depsOf .any ops i) (fun k hk2 => ?_) j (by simpa [needsOf] using hj)
      unfold depsOf at hk2
      rw [ho] at hk2
      simp only [List.mem_map, List.mem_filter, Array.mem_toList_iff] at hk2
      obtain ⟨e, ⟨he, hbd⟩, rfl⟩ := hk2
      exact hall e he hbd
    refine wpOp_mono (fun a' w' => ?_) (mono_step ho hAA hd hk hsel hs h1 hneed hB hR (hst i (List.mem_range.2 hil) o ho) (fun j => hnlt i j hil))
    rintro ⟨f', rfl, hB', hR'⟩
    refine ih (listed.setIfInBounds i true) f' w' (by simp [hs]) (fun j x hx hj e he hbd => ?_) hB' hR' ?_
    · by_cases e0 : i = j
      · subst e0
        rw [ho] at hx
        cases hx
        exact getD_set_true (hall e he hbd)
      · rw [getD_set_ne true e0] at hj
        exact getD_set_true (hc j x hx hj e he hbd)
    · -- one fewer
      have hlt : ((List.range ops.size).filter (fun j => !(listed.setIfInBounds i true).getD j false)).length < ((List.range ops.size).filter (fun j => !listed.getD j false)).length := by
        have e1 : (List.range ops.size).filter (fun j => !(listed.setIfInBounds i true).getD j false) = ((List.range ops.size).filter (fun j => !listed.getD j false)).filter (fun j => decide (j ≠ i)) := by
          rw [List.filter_filter]
          refine List.filter_congr (fun j hj => ?_)
          by_cases e : j = i
          · subst e
            have : (listed.setIfInBounds j true).getD j false = true := by
              rw [Array.getD_eq_getD_getElem?, Array.getElem?_setIfInBounds_self_of_lt (by omega)]
              rfl
            rw [this]
            simp
          · rw [getD_set_ne false (Ne.symm e)]
            simp [e]
        rw [e1]
        refine List.length_filter_lt_length_iff_exists.2 ⟨i, ?_, by simp⟩
        rw [List.mem_filter]
        refine ⟨List.mem_range.2 hil, ?_⟩
        rw [Array.getD_eq_getD_getElem?, Array.getElem?_eq_getElem (show i < listed.size by omega)] at h1 ⊢
        simp only [Option.getD_some] at h1 ⊢
        rw [h1]
        rfl
      omega

/-- The law. -/
theorem wp_region_mono {id : Nat} {a : Act} {w : World} (hm : P.follows .mixedOrders = true) (hb : edgesBack .any ops = true) (hd : dstsApart ops = true) (hk : looksBack .any ops = true) (hsel : Region.noSelect ops = true)
    (hnl : ((List.range ops.size).all fun i => (needsOf .any ops i).all fun j => decide (j < ops.size)) = true) (Rs : List MP) (hAA : ∀ f, putA ops f a ops.size = AA f)
    (hst : Steps P ops Rs w.drew AA (List.range ops.size)) (hend : ∀ f w', Below w.drew.heap.size w.drew w' → (∀ j, j < ops.size → (Rs.getD j MP.any).p (f j) w') → Q .normal (AA f) w') : (Code.region id ops true).wp P Q a w := by
  refine wp_region_any hm ?_
  have hl0 : ∀ k, k < ops.size → (Array.replicate ops.size false).getD k false = false := fun k hk => by
    rw [Array.getD_eq_getD_getElem?, Array.getElem?_eq_getElem (by simpa using hk)]
    simp
  have h := wpAny_mono (Q := Q) hb hAA hd hk hsel hst hend (fun i j hi hj => by
    rw [List.all_eq_true] at hnl
    have h1 := hnl i (List.mem_range.2 hi)
    rw [List.all_eq_true] at h1
    simpa using h1 j (by simpa using hj)) ops.size (Array.replicate ops.size false) (fun _ => undef) w.drew (by simp) (fun j x hx hj => by
    have hlt := (Array.getElem?_eq_some_iff.1 hx).1
    rw [Array.getD_eq_getD_getElem?, Array.getElem?_eq_getElem (by simpa using hlt)] at hj
    simp at hj) ⟨rfl, rfl, rfl, Nat.le_refl _, fun _ _ => rfl⟩ (fun j hj h => by rw [hl0 j hj] at h; cases h) (by
    refine Nat.le_trans (List.length_filter_le _ _) ?_
    simp)
  rw [putL_none hl0 ops.size (Nat.le_refl _)] at h
  exact h
end

theorem bel_drew {w w2 : World} (h : Below w.drew.heap.size w.drew w2) : Below w.heap.size w w2 := ⟨h.os, h.tape, h.output, h.size, h.block⟩

end Go.Proofs.Ytfgkadkmgciamaa
