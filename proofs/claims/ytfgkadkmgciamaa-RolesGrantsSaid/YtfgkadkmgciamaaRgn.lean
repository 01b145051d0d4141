/-
  A region that draws its order, of which all operations but a tail only add to memory: the tail comes when all else is done.
-/
import Derived.Test.YtfgkadkmgciamaaRgm
namespace Go.Proofs.Ytfgkadkmgciamaa
open Go Go.RowKit

section
variable {P : Program} {ops : Array Oper} {Q : Exit → Act → World → Prop} {Rs : List MP} {w0 : World} {AA : (Nat → Value) → Act}

def unl (ops : Array Oper) (listed : Array Bool) : Nat := ((List.range ops.size).filter (fun j => !listed.getD j false)).length

theorem unl_step {listed : Array Bool} {i : Nat} (hs : listed.size = ops.size) (hil : i < ops.size) (h1 : listed.getD i true = false) : unl ops (listed.setIfInBounds i true) + 1 = unl ops listed := by
  unfold unl
  have hli : listed.getD i false = false := by
    rw [Array.getD_eq_getD_getElem?, Array.getElem?_eq_getElem (show i < listed.size by omega)] at h1 ⊢
    exact h1
  have e1 : (List.range ops.size).filter (fun j => !(listed.setIfInBounds i true).getD j false) = ((List.range ops.size).filter (fun j => !listed.getD j false)).erase i := by
    rw [List.Nodup.erase_eq_filter (List.Nodup.sublist List.filter_sublist List.nodup_range), List.filter_filter]
    refine List.filter_congr (fun j hj => ?_)
    by_cases e : j = i
    · subst e
      have : (listed.setIfInBounds j true).getD j false = true := by
        rw [Array.getD_eq_getD_getElem?, Array.getElem?_setIfInBounds_self_of_lt (by omega)]
        rfl
      rw [this]
      simp
    · rw [getD_set_ne false (Ne.symm e)]
      simp [e]
  have hm : i ∈ (List.range ops.size).filter (fun j => !listed.getD j false) := List.mem_filter.2 ⟨List.mem_range.2 hil, by rw [hli]; rfl⟩
  rw [e1, List.length_erase_of_mem hm]
  have := List.length_pos_of_mem hm
  omega

/-- Of two boards that say the same nothing parts. -/
theorem board_ext {l m : Array Bool} (hs : l.size = m.size) (h : ∀ k, k < l.size → l.getD k false = m.getD k false) : l = m := by
  apply Array.ext hs
  intro k h1 h2
  have := h k h1
  rw [Array.getD_eq_getD_getElem?, Array.getD_eq_getD_getElem?, Array.getElem?_eq_getElem h1, Array.getElem?_eq_getElem h2] at this
  exact this

theorem wpAny_tail (hb : edgesBack .any ops = true) {a : Act} (hAA : ∀ f, putA ops f a ops.size = AA f) (hd : dstsApart ops = true) (hk : looksBack .any ops = true) (hsel : Region.noSelect ops = true)
    (T : Nat → Bool) (lm : Array Bool) (hlm : lm.size = ops.size) (hlT : ∀ k, k < ops.size → lm.getD k false = !T k) (l0 : Array Bool)
    (hTn : ∀ i, i < ops.size → T i = true → ∀ j, j < ops.size → T j = false → (needsOf .any ops i).contains j = true ∨ l0.getD j false = true)
    (hst : ∀ i, i < ops.size → T i = false → l0.getD i false = false → ∀ o, ops[i]? = some o → StepOK P ops Rs w0 AA i o)
    (hnlt : ∀ i j, i < ops.size → (needsOf .any ops i).contains j = true → j < ops.size)
    (hend : ∀ f w, Below w0.heap.size w0 w → (∀ j, j < ops.size → T j = false → (Rs.getD j MP.any).p (f j) w) → wpAny P .any ops Q (unl ops lm) lm (putL ops lm f a ops.size) w) :
    ∀ (m : Nat) (listed : Array Bool) (f : Nat → Value) (w : World), listed.size = ops.size → closedL .any ops listed → (∀ j, j < ops.size → T j = true → listed.getD j false = false) → (∀ j, l0.getD j false = true → listed.getD j false = true) → Below w0.heap.size w0 w → (∀ j, j < ops.size → listed.getD j false = true → (Rs.getD j MP.any).p (f j) w) → unl ops listed = m + unl ops lm →
      wpAny P .any ops Q (unl ops listed) listed (putL ops listed f a ops.size) w := by
  intro m
  induction m with
  | zero =>
    intro listed f w hs hc hT h0 hB hR hm
    -- all but the tail are listed
    have hall : listed = lm := by
      refine board_ext (hs.trans hlm.symm) (fun k hkl => ?_)
      rw [hlT k (by omega)]
      cases hTk : T k with
      | true => rw [hT k (by omega) hTk]; rfl
      | false =>
        -- else there were one more
        cases hlk : listed.getD k false with
        | true => rfl
        | false =>
          exfalso
          have hlt : unl ops lm < unl ops listed := by
            unfold unl
            have e1 : (List.range ops.size).filter (fun j => !lm.getD j false) = ((List.range ops.size).filter (fun j => !listed.getD j false)).filter (fun j => !lm.getD j false) := by
              rw [List.filter_filter]
              refine List.filter_congr (fun j hj => ?_)
              have hjl := List.mem_range.1 hj
              rw [hlT j hjl]
              cases hTj : T j with
              | true => rw [hT j hjl hTj]; rfl
              | false => simp
            rw [e1]
            refine List.length_filter_lt_length_iff_exists.2 ⟨k, List.mem_filter.2 ⟨List.mem_range.2 (by omega), by rw [hlk]; rfl⟩, ?_⟩
            rw [hlT k (by omega), hTk]
            simp
          omega
    subst hall
    exact hend f w hB (fun j hj hTj => hR j hj (by rw [hlT j hj, hTj]; rfl))
  | succ m ih =>
    intro listed f w hs hc hT h0 hB hR hm
    have hpos : unl ops listed = (m + unl ops lm) + 1 := by omega
    rw [hpos]
    -- one that is no tail is not listed
    have hex : ∃ k, k < ops.size ∧ T k = false ∧ listed.getD k false = false := by
      apply Classical.byContradiction
      intro hno
      have hall : listed = lm := by
        refine board_ext (hs.trans hlm.symm) (fun k hkl => ?_)
        rw [hlT k (by omega)]
        cases hTk : T k with
        | true => rw [hT k (by omega) hTk]; rfl
        | false =>
          cases hlk : listed.getD k false with
          | true => rfl
          | false => exact absurd ⟨k, by omega, hTk, hlk⟩ hno
      rw [hall] at hm
      omega
    obtain ⟨k, hkl, hTk, hlk⟩ := hex
    refine ⟨fun hr => ?_, fun i hi => ?_⟩
    · have := all_listed hb hs hr ops.size (Nat.le_refl _) k hkl
      rw [hlk] at this
      cases this
    · obtain ⟨h1, o, ho, hall⟩ := mem_ready.1 hi
      have hil : i < ops.size := (Array.getElem?_eq_some_iff.1 ho).1
      have hneed : ∀ j, (needsOf .any ops i).contains j = true → listed.getD j false = true := by
        intro j hj
        refine needs_listed hc hs ops.size (depsOf .any ops i) (fun k hk2 => ?_) j (by simpa [needsOf] using hj)
        unfold depsOf at hk2
        rw [ho] at hk2
        simp only [List.mem_map, List.mem_filter, Array.mem_toList_iff] at hk2
        obtain ⟨e, ⟨he, hbd⟩, rfl⟩ := hk2
        exact hall e he hbd
      have hTi : T i = false := by
        cases hTi : T i with
        | false => rfl
        | true =>
          rcases hTn i hil hTi k hkl hTk with h | h
          · rw [hneed k h] at hlk; cases hlk
          · rw [h0 k h] at hlk; cases hlk
      have hli0 : l0.getD i false = false := by
        cases hl : l0.getD i false with
        | false => rfl
        | true =>
          have := h0 i hl
          rw [Array.getD_eq_getD_getElem?, Array.getElem?_eq_getElem (show i < listed.size by omega)] at h1 this
          simp only [Option.getD_some] at h1 this
          rw [h1] at this
          cases this
      refine wpOp_mono (fun a' w' => ?_) (mono_step ho hAA hd hk hsel hs h1 hneed hB hR (hst i hil hTi hli0 o ho) (fun j => hnlt i j hil))
      rintro ⟨f', rfl, hB', hR'⟩
      have hu := unl_step (ops := ops) hs hil h1
      have hu2 : unl ops (listed.setIfInBounds i true) = m + unl ops lm := by omega
      rw [← hu2]
      refine ih (listed.setIfInBounds i true) f' w' (by simp [hs]) (fun j x hx hj e he hbd => ?_) (fun j hj hTj => ?_) (fun j hj => getD_set_true (h0 j hj)) hB' hR' hu2
      · by_cases e0 : i = j
        · subst e0
          rw [ho] at hx
          cases hx
          exact getD_set_true (hall e he hbd)
        · rw [getD_set_ne true e0] at hj
          exact getD_set_true (hc j x hx hj e he hbd)
      · by_cases e0 : i = j
        · subst e0
          rw [hTi] at hTj
          cases hTj
        · rw [getD_set_ne false e0]
          exact hT j hj hTj

def closedB (ops : Array Oper) (listed : Array Bool) : Bool := (List.range ops.size).all fun j => !listed.getD j true || (depsOf .any ops j).all fun k => listed.getD k false
theorem closedB_spec {listed : Array Bool} (h : closedB ops listed = true) : closedL .any ops listed := by
  intro j x hx hj e he hbd
  unfold closedB at h
  rw [List.all_eq_true] at h
  have h1 := h j (List.mem_range.2 (Array.getElem?_eq_some_iff.1 hx).1)
  rw [hj] at h1
  simp only [Bool.not_true, Bool.false_or, List.all_eq_true] at h1
  exact h1 e.on (by
    unfold depsOf
    rw [hx]
    exact List.mem_map.2 ⟨e, List.mem_filter.2 ⟨by simpa using he, hbd⟩, rfl⟩)
/-- Are all that come ahead of the tail awaited by it (or done already)? -/
def tailB (ops : Array Oper) (T : Nat → Bool) (l0 : Array Bool) : Bool := (List.range ops.size).all fun i => !T i || (List.range ops.size).all fun j => T j || (needsOf .any ops i).contains j || l0.getD j false
def StepsT (P : Program) (ops : Array Oper) (Rs : List MP) (w0 : World) (AA : (Nat → Value) → Act) (l : List Nat) : Prop := Steps P ops Rs w0 AA l

/-- The law: from a board on which l0 is done, to the tail. -/
theorem wpAny_to_tail {n : Nat} {a : Act} {w : World} {l0 : Array Bool} (hb : edgesBack .any ops = true) (hd : dstsApart ops = true) (hk : looksBack .any ops = true) (hsel : Region.noSelect ops = true)
    (hnl : ((List.range ops.size).all fun i => (needsOf .any ops i).all fun j => decide (j < ops.size)) = true) (Rs : List MP) (T : Nat → Bool) (lm : Array Bool)
    (hlm : lm.size = ops.size) (hlT : ((List.range ops.size).all fun k => lm.getD k false == !T k) = true) (hs0 : l0.size = ops.size) (hc0 : closedB ops l0 = true) (hT0 : ((List.range ops.size).all fun j => !T j || !l0.getD j false) = true) (hTn : tailB ops T l0 = true) (hn : unl ops l0 = n)
    (f0 : Nat → Value) (ha : putL ops l0 f0 a ops.size = a) (hR0 : ∀ j ∈ (List.range ops.size).filter (fun j => l0.getD j false), (Rs.getD j MP.any).p (f0 j) w)
    (hAA : ∀ f, putA ops f a ops.size = AA f)
    (hst : Steps P ops Rs w AA ((List.range ops.size).filter fun j => !T j && !l0.getD j false))
    (hend : ∀ f w', Below w.heap.size w w' → (∀ j, j < ops.size → T j = false → (Rs.getD j MP.any).p (f j) w') → wpAny P .any ops Q (unl ops lm) lm (putL ops lm f a ops.size) w') : wpAny P .any ops Q n l0 a w := by
  have hmono : unl ops lm ≤ unl ops l0 := by
    unfold unl
    refine List.Sublist.length_le ?_
    have e1 : (List.range ops.size).filter (fun j => !lm.getD j false) = ((List.range ops.size).filter (fun j => !l0.getD j false)).filter (fun j => !lm.getD j false) := by
      rw [List.filter_filter]
      refine List.filter_congr (fun j hj => ?_)
      rw [List.all_eq_true] at hlT hT0
      have h1 := hlT j hj
      have h2 := hT0 j hj
      simp only [beq_iff_eq] at h1
      rw [h1]
      cases hTj : T j with
      | true => rw [hTj] at h2; simpa using h2
      | false => simp
    rw [e1]
    exact List.filter_sublist
  have h := wpAny_tail (P := P) (Q := Q) (w0 := w) hb hAA hd hk hsel T lm hlm (fun k hk => by rw [List.all_eq_true] at hlT; simpa using hlT k (List.mem_range.2 hk)) l0
    (fun i hi hTi j hj hTj => by
      unfold tailB at hTn
      rw [List.all_eq_true] at hTn
      have h1 := hTn i (List.mem_range.2 hi)
      rw [hTi] at h1
      simp only [Bool.not_true, Bool.false_or, List.all_eq_true] at h1
      have h2 := h1 j (List.mem_range.2 hj)
      rw [hTj] at h2
      simpa using h2)
    (fun i hi hTi hli o ho => hst i (List.mem_filter.2 ⟨List.mem_range.2 hi, by rw [hTi, hli]; rfl⟩) o ho)
    (fun i j hi hj => by
      rw [List.all_eq_true] at hnl
      have h1 := hnl i (List.mem_range.2 hi)
      rw [List.all_eq_true] at h1
      simpa using h1 j (by simpa using hj))
    hend (unl ops l0 - unl ops lm) l0 f0 w hs0 (closedB_spec hc0) (fun j hj hTj => by
      rw [List.all_eq_true] at hT0
      have h1 := hT0 j (List.mem_range.2 hj)
      rw [hTj] at h1
      simpa using h1) (fun _ h => h) (Below.refl _ _) (fun j hj hlj => hR0 j (List.mem_filter.2 ⟨List.mem_range.2 hj, hlj⟩)) (by omega)
  rw [hn, ha] at h
  exact h

theorem Steps.of_list {Rs : List MP} {l l' : List Nat} (e : l = l') (h : Steps P ops Rs w0 AA l') : Steps P ops Rs w0 AA l := e ▸ h
end

end Go.Proofs.Ytfgkadkmgciamaa
