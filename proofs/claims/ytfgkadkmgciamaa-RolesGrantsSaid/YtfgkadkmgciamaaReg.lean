/-
  Regions that draw their order: the last operation taken off; a region of which every step only adds.
-/
import Derived.Test.YtfgkadkmgciamaaBase
namespace Go.Proofs.Ytfgkadkmgciamaa
open Go

/-- Every edge and every guard leads back. -/
def edgesBack (md : Region.Mode) (ops : Array Oper) : Bool :=
  (List.range ops.size).all fun j => match ops[j]? with
    | some o => (o.after.all fun e => !Region.binds md e || decide (e.on < j)) && (match o.guard with | some (g, _) => decide (g < j) | none => true)
    | none => true
/-- What is needed for those of s, among the first j. -/
def needs (md : Region.Mode) (ops : Array Oper) : Nat → List Nat → List Nat
  | 0, s => s
  | j + 1, s => needs md ops j (if s.contains j then s ++ (match ops[j]? with | some o => (o.after.toList.filter (Region.binds md)).map (·.on) | none => []) else s)
/-- The last one waits for all. -/
def lastWaits (md : Region.Mode) (ops : Array Oper) : Bool := (List.range ops.size).all fun j => (needs md ops ops.size [ops.size - 1]).contains j

section
variable {P : Program} {md : Region.Mode} {ops : Array Oper}
/-- What is listed has what it waits for. -/
def closedL (md : Region.Mode) (ops : Array Oper) (listed : Array Bool) : Prop :=
  ∀ j o, ops[j]? = some o → listed.getD j true = true → ∀ e ∈ o.after, Region.binds md e = true → listed.getD e.on false = true

theorem edgesBack_spec (h : edgesBack md ops = true) {j : Nat} {o : Oper} (hj : ops[j]? = some o) : (∀ e ∈ o.after, Region.binds md e = true → e.on < j) ∧ ∀ g b, o.guard = some (g, b) → g < j := by
  unfold edgesBack at h
  rw [List.all_eq_true] at h
  have hlt := (Array.getElem?_eq_some_iff.1 hj).1
  have h1 := h j (List.mem_range.2 hlt)
  rw [hj] at h1
  simp only [Bool.and_eq_true] at h1
  refine ⟨fun e he hbd => ?_, fun g b hg => ?_⟩
  · have := Array.all_eq_true_iff_forall_mem.1 h1.1 e he
    rw [hbd] at this
    simpa using this
  · have := h1.2
    rw [hg] at this
    simpa using this
theorem needs_listed {listed : Array Bool} (hc : closedL md ops listed) (hs : listed.size = ops.size) : ∀ (n : Nat) (s : List Nat), (∀ i ∈ s, listed.getD i false = true) → ∀ i ∈ needs md ops n s, listed.getD i false = true
  | 0, _, h => h
  | n + 1, s, h => by
    unfold needs
    refine needs_listed hc hs n _ ?_
    split
    · rename_i hcon
      intro i hi
      rcases List.mem_append.1 hi with hi | hi
      · exact h i hi
      · cases ho : ops[n]? with
        | none => rw [ho] at hi; simp at hi
        | some o =>
          rw [ho] at hi
          simp only [List.mem_map, List.mem_filter, Array.mem_toList_iff] at hi
          obtain ⟨e, ⟨he, hb⟩, rfl⟩ := hi
          have hn : listed.getD n false = true := h n (by simpa using hcon)
          refine hc n o ho ?_ e he hb
          have hlt := (Array.getElem?_eq_some_iff.1 ho).1
          rw [← hs] at hlt
          rw [Array.getD_eq_getD_getElem?, Array.getElem?_eq_getElem hlt] at hn ⊢
          exact hn
    · exact h
/-- Nothing may come up: all have come up. -/
theorem all_listed (hb : edgesBack md ops = true) {listed : Array Bool} (hs : listed.size = ops.size) (hr : Region.ready md ops listed = []) : ∀ n, n ≤ ops.size → ∀ j, j < n → listed.getD j false = true
  | 0, _, j, hj => by omega
  | n + 1, hn, j, hj => by
    have ih := all_listed hb hs hr n (by omega)
    rcases Nat.lt_or_ge j n with h | h
    · exact ih j h
    · obtain rfl : j = n := by omega
      have hlt : j < listed.size := by omega
      cases hv : listed.getD j false with
      | true => rfl
      | false =>
        have hmem : j ∈ Region.ready md ops listed := by
          refine mem_ready.2 ⟨?_, ops[j], Array.getElem?_eq_getElem (by omega), fun e he hbd => ?_⟩
          · rw [Array.getD_eq_getD_getElem?, Array.getElem?_eq_getElem hlt] at hv ⊢
            exact hv
          · exact ih e.on ((edgesBack_spec hb (Array.getElem?_eq_getElem (by omega))).1 e he hbd)
        rw [hr] at hmem
        cases hmem

/-- The post of all but the last one. -/
def lastQ (P : Program) (ops : Array Oper) (Q : Exit → Act → World → Prop) (n : Nat) : Exit → Act → World → Prop
  | .normal, a, w => wpOp P ops Q n (Q .normal) a w
  | e, a, w => Q e a w
end

section
variable {P : Program} {md : Region.Mode} {ops : Array Oper} {Q : Exit → Act → World → Prop}
theorem push_get {o : Oper} {i : Nat} (h : i < ops.size) : (ops.push o)[i]? = ops[i]? := by
  rw [Array.getElem?_push, if_neg (by omega)]
theorem lastQ_lets {n : Nat} (h : LetsOut (lastQ P ops Q n)) : LetsOut Q := h
theorem Oper.wp_lastQ {O : Array Oper} {n : Nat} {o : Oper} {a : Act} {w : World} {K : Act → World → Prop} (h : o.wp P a w K (lastQ P O Q n)) : o.wp P a w K Q := by
  unfold Oper.wp at *
  generalize (execOp a.eval o).run P w = r at *
  cases r with
  | ok n w' =>
    cases n <;> simp only [Oper.upon] at h ⊢ <;>
      first
        | exact h
        | exact Calls.mono h (fun e w'' he => by cases e <;> exact he)
  | halt x w' => cases x <;> simp only [Oper.upon] at h ⊢ <;> exact h
theorem wpOp_last {O : Array Oper} {n : Nat} {o : Oper} (hb : edgesBack md (ops.push o) = true) {i : Nat} (hi : i < ops.size) {a : Act} {w : World} {K : Act → World → Prop} (h : wpOp P ops (lastQ P O Q n) i K a w) : wpOp P (ops.push o) Q i K a w := by
  unfold wpOp at *
  rw [push_get hi]
  cases ho : ops[i]? with
  | none => rw [ho] at h; exact h
  | some x =>
    rw [ho] at h
    simp only at h ⊢
    have hg := (edgesBack_spec hb (by rw [push_get hi]; exact ho)).2
    have hw : Region.wanted x (yielded (ops.push o) a.tmps) = Region.wanted x (yielded ops a.tmps) := by
      unfold Region.wanted
      cases hgd : x.guard with
      | none => rfl
      | some gb =>
        obtain ⟨g, b⟩ := gb
        have := hg g b hgd
        simp only
        unfold yielded
        rw [push_get (by omega)]
    rw [hw]
    split
    · rename_i hwt
      rw [if_pos hwt] at h
      rcases h with h | ⟨h1, h2⟩
      · exact .inl (Oper.wp_lastQ h)
      · exact .inr ⟨h1, lastQ_lets h2⟩
    · rename_i hwt
      rw [if_neg hwt] at h
      exact h

theorem wpAny_last {o : Oper} (hb : edgesBack md (ops.push o) = true) (hl : lastWaits md (ops.push o) = true) :
    ∀ (fuel : Nat) (listed : Array Bool) (a : Act) (w : World), listed.size = ops.size → closedL md ops listed →
      wpAny P md ops (lastQ P (ops.push o) Q ops.size) fuel listed a w → wpAny P md (ops.push o) Q (fuel + 1) (listed.push false) a w := by
  have hb' : edgesBack md ops = true := by
    unfold edgesBack at hb ⊢
    rw [List.all_eq_true] at hb ⊢
    intro j hj
    have hlt := List.mem_range.1 hj
    have := hb j (List.mem_range.2 (by rw [Array.size_push]; omega))
    rw [push_get hlt] at this
    exact this
  have rdy : ∀ (listed : Array Bool), listed.size = ops.size → ∀ i, i < ops.size → (i ∈ Region.ready md (ops.push o) (listed.push false) ↔ i ∈ Region.ready md ops listed) := by
    intro listed hs i hi
    rw [mem_ready, mem_ready, push_get hi]
    have g : ∀ k d, k < ops.size → (listed.push false).getD k d = listed.getD k d := fun k d hk => by
      rw [Array.getD_eq_getD_getElem?, Array.getD_eq_getD_getElem?, Array.getElem?_push, if_neg (by omega)]
    rw [g i true hi]
    refine and_congr_right fun _ => exists_congr fun x => and_congr_right fun hx => forall_congr' fun e => forall_congr' fun he => forall_congr' fun hbd => ?_
    rw [g e.on false (by have := (edgesBack_spec hb' hx).1 e he hbd; omega)]
  -- the last one comes up when all have
  have lst : ∀ (listed : Array Bool), listed.size = ops.size → closedL md ops listed → ops.size ∈ Region.ready md (ops.push o) (listed.push false) → ∀ i, i < ops.size → listed.getD i false = true := by
    intro listed hs hc hm i hi
    obtain ⟨_, x, hx, hall⟩ := mem_ready.1 hm
    have hL : closedL md (ops.push o) ((listed.push true)) := by
      intro j y hy hj e he hbd
      rcases Nat.lt_or_ge j ops.size with hjl | hjl
      · rw [push_get hjl] at hy
        have e1 : (listed.push true).getD j true = listed.getD j true := by
          rw [Array.getD_eq_getD_getElem?, Array.getD_eq_getD_getElem?, Array.getElem?_push, if_neg (by omega)]
        rw [e1] at hj
        have := hc j y hy hj e he hbd
        have hlt : e.on < listed.size := by have := (edgesBack_spec hb' hy).1 e he hbd; omega
        rw [Array.getD_eq_getD_getElem?, Array.getElem?_push, if_neg (by omega), ← Array.getD_eq_getD_getElem?]
        exact this
      · have hjl2 : j < (ops.push o).size := (Array.getElem?_eq_some_iff.1 hy).1
        rw [Array.size_push] at hjl2
        obtain rfl : j = ops.size := by omega
        rw [hx] at hy
        cases hy
        have h1 := hall e he hbd
        have hlt : e.on < ops.size := (edgesBack_spec hb hx).1 e he hbd
        rw [Array.getD_eq_getD_getElem?, Array.getElem?_push, if_neg (by omega), ← Array.getD_eq_getD_getElem?] at h1 ⊢
        exact h1
    have hN := needs_listed hL (by rw [Array.size_push, Array.size_push, hs]) (ops.push o).size [(ops.push o).size - 1] (fun k hk => by
      simp only [Array.size_push, Nat.add_sub_cancel, List.mem_singleton] at hk
      subst hk
      rw [Array.getD_eq_getD_getElem?, Array.getElem?_push, if_pos hs.symm]
      rfl)
    unfold lastWaits at hl
    rw [List.all_eq_true] at hl
    have := hN i (by simpa using hl i (List.mem_range.2 (by rw [Array.size_push]; omega)))
    rw [Array.getD_eq_getD_getElem?, Array.getElem?_push, if_neg (by omega), ← Array.getD_eq_getD_getElem?] at this
    exact this
  -- all but the last one have come up
  have fin : ∀ (fuel : Nat) (listed : Array Bool) (a : Act) (w : World), listed.size = ops.size → Region.ready md ops listed = [] → wpOp P (ops.push o) Q ops.size (Q .normal) a w → wpAny P md (ops.push o) Q (fuel + 1) (listed.push false) a w := by
    intro fuel listed a w hs hr h
    have hall := all_listed hb' hs hr ops.size (Nat.le_refl _)
    have hend : Region.ready md (ops.push o) ((listed.push false).setIfInBounds ops.size true) = [] := by
      rcases hq : Region.ready md (ops.push o) ((listed.push false).setIfInBounds ops.size true) with _ | ⟨x, xs⟩
      · rfl
      · exfalso
        have hx : x ∈ Region.ready md (ops.push o) ((listed.push false).setIfInBounds ops.size true) := by rw [hq]; simp
        obtain ⟨h1, y, hy, _⟩ := mem_ready.1 hx
        have hlt : x < (ops.push o).size := (Array.getElem?_eq_some_iff.1 hy).1
        rw [Array.size_push] at hlt
        by_cases e : x = ops.size
        · subst e
          rw [Array.getD_eq_getD_getElem?, Array.getElem?_setIfInBounds_self_of_lt (by rw [Array.size_push]; omega)] at h1
          cases h1
        · have := hall x (by omega)
          rw [getD_set_ne true (Ne.symm e)] at h1
          rw [Array.getD_eq_getD_getElem?, Array.getElem?_push, if_neg (by omega)] at h1
          rw [Array.getD_eq_getD_getElem?, Array.getElem?_eq_getElem (show x < listed.size by omega)] at this
          rw [Array.getElem?_eq_getElem (show x < listed.size by omega)] at h1
          simp only [Option.getD_some] at h1 this
          rw [h1] at this
          cases this
    have hin : ops.size ∈ Region.ready md (ops.push o) (listed.push false) := by
      refine mem_ready.2 ⟨?_, o, by simp, fun e he hbd => ?_⟩
      · rw [Array.getD_eq_getD_getElem?, Array.getElem?_push, if_pos hs.symm]
        rfl
      · have hlt : e.on < ops.size := (edgesBack_spec hb (j := ops.size) (o := o) (by simp)).1 e he hbd
        have := hall e.on hlt
        rw [Array.getD_eq_getD_getElem?, Array.getElem?_push, if_neg (by omega), ← Array.getD_eq_getD_getElem?]
        exact this
    refine ⟨fun h0 => (by rw [h0] at hin; cases hin), fun i hi => ?_⟩
    have hi2 : i = ops.size := by
      obtain ⟨h1, y, hy, _⟩ := mem_ready.1 hi
      have hlt : i < (ops.push o).size := (Array.getElem?_eq_some_iff.1 hy).1
      rw [Array.size_push] at hlt
      rcases Nat.lt_or_ge i ops.size with hlt2 | hge
      · have := (rdy listed hs i hlt2).1 hi
        rw [hr] at this
        cases this
      · omega
    subst hi2
    exact wpOp_mono (fun a w hq => wpAny_done hend hq _) h
  intro fuel
  induction fuel with
  | zero =>
    intro listed a w hs hc h
    exact fin 0 listed a w hs h.1 h.2
  | succ fuel ih =>
    intro listed a w hs hc h
    by_cases hr : Region.ready md ops listed = []
    · exact fin (fuel + 1) listed a w hs hr (h.1 hr)
    · have hne : ∀ i, i ∈ Region.ready md (ops.push o) (listed.push false) → i < ops.size := by
        intro i hi
        obtain ⟨_, y, hy, _⟩ := mem_ready.1 hi
        have hlt : i < (ops.push o).size := (Array.getElem?_eq_some_iff.1 hy).1
        rw [Array.size_push] at hlt
        rcases Nat.lt_or_ge i ops.size with hlt2 | hge
        · exact hlt2
        · exfalso
          obtain rfl : i = ops.size := by omega
          have hall := lst listed hs hc hi
          apply hr
          rcases hq : Region.ready md ops listed with _ | ⟨x, xs⟩
          · rfl
          · exfalso
            have hx : x ∈ Region.ready md ops listed := by rw [hq]; simp
            obtain ⟨h1, z, hz, _⟩ := mem_ready.1 hx
            have hxl : x < ops.size := (Array.getElem?_eq_some_iff.1 hz).1
            have := hall x hxl
            rw [Array.getD_eq_getD_getElem?, Array.getElem?_eq_getElem (show x < listed.size by omega)] at h1 this
            simp only [Option.getD_some] at h1 this
            rw [h1] at this
            cases this
      refine ⟨fun h0 => ?_, fun i hi => ?_⟩
      · exfalso
        apply hr
        rcases hq : Region.ready md ops listed with _ | ⟨x, xs⟩
        · rfl
        · exfalso
          have hx : x ∈ Region.ready md ops listed := by rw [hq]; simp
          obtain ⟨_, z, hz, _⟩ := mem_ready.1 hx
          have := (rdy listed hs x (Array.getElem?_eq_some_iff.1 hz).1).2 hx
          rw [h0] at this
          cases this
      · have hil := hne i hi
        have hi2 := (rdy listed hs i hil).1 hi
        refine wpOp_mono (fun a w hq => ?_) (wpOp_last hb hil (h.2 i hi2))
        have e1 : (listed.push false).setIfInBounds i true = (listed.setIfInBounds i true).push false := by
          apply Array.ext_getElem?
          intro k
          rw [Array.getElem?_setIfInBounds, Array.getElem?_push, Array.getElem?_push, Array.getElem?_setIfInBounds, Array.size_setIfInBounds, Array.size_push]
          by_cases e : i = k
          · subst e
            rw [if_pos rfl, if_pos (by omega), if_neg (by omega), if_pos rfl, if_pos (by omega)]
          · rw [if_neg e, if_neg e]
        rw [e1]
        refine ih (listed.setIfInBounds i true) a w (by simp [hs]) (fun j x hx hj e he hbd => ?_) hq
        by_cases e0 : i = j
        · subst e0
          obtain ⟨_, y, hy, hall⟩ := mem_ready.1 hi2
          rw [hx] at hy
          cases hy
          exact getD_set_true (hall e he hbd)
        · rw [getD_set_ne true e0] at hj
          exact getD_set_true (hc j x hx hj e he hbd)

/-- The last operation of a region that draws its order, all others ahead of it. -/
theorem wp_region_last {id : Nat} {o : Oper} {a : Act} {w : World} (hm : P.follows .mixedOrders = true) (hb : edgesBack .any (ops.push o) = true) (hl : lastWaits .any (ops.push o) = true)
    (h : wpAny P .any ops (lastQ P (ops.push o) Q ops.size) ops.size (Array.replicate ops.size false) a w.drew) : (Code.region id (ops.push o) true).wp P Q a w := by
  refine wp_region_any hm ?_
  have := wpAny_last hb hl ops.size (Array.replicate ops.size false) a w.drew (by simp) (fun j x hx hj => ?_) h
  · rw [Array.size_push, show Array.replicate (ops.size + 1) false = (Array.replicate ops.size false).push false from by simp [Array.replicate_succ]]
    exact this
  · have hlt := (Array.getElem?_eq_some_iff.1 hx).1
    rw [Array.getD_eq_getD_getElem?, Array.getElem?_eq_getElem (by simpa using hlt)] at hj
    simp at hj
end

theorem lastQ_step {P : Program} {ops : Array Oper} {Q : Exit → Act → World → Prop} {n : Nat} {o : Oper} {a : Act} {w : World} (ho : ops[n]? = some o)
    (h : ∀ K' : Act → World → Prop, (∀ a w, Q .normal a w → K' a w) → if Region.wanted o (yielded ops a.tmps) = true then Oper.wp P o a w K' Q else K' (a.put o.dst undef) w) : lastQ P ops Q n .normal a w := by
  show wpOp P ops Q n (Q .normal) a w
  exact wpOp_step ho h

/-- The same, of a list that is written out. -/
theorem wp_region_lastL {P : Program} {Q : Exit → Act → World → Prop} {id : Nat} {l : List Oper} {a : Act} {w : World} (hm : P.follows .mixedOrders = true) (hne : l ≠ []) (hb : edgesBack .any l.toArray = true) (hl : lastWaits .any l.toArray = true)
    (h : wpAny P .any l.dropLast.toArray (lastQ P l.toArray Q l.dropLast.length) l.dropLast.length (Array.replicate l.dropLast.length false) a w.drew) : (Code.region id l.toArray true).wp P Q a w := by
  have e : l.toArray = l.dropLast.toArray.push (l.getLast hne) := by
    rw [List.push_toArray, List.dropLast_concat_getLast]
  rw [e] at hb hl h ⊢
  exact wp_region_last hm hb hl h

end Go.Proofs.Ytfgkadkmgciamaa
