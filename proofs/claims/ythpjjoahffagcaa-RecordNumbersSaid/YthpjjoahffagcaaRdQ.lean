/-
  Records one behind the other, cut: what All tells; a row of records of one's own whose changes came in.
-/
import Derived.Test.YthpjjoahffagcaaRdP
import Derived.Test.YthpjjoahffagcaaPick
namespace Go.Proofs.Ythpjjoahffagcaa
open Go.RowKit

/-! Plain. -/
/-- How long the first k records are. -/
def jl (rs : List Rec) (k : Nat) : Nat := (joinE (rs.take k)).length
/-- The ends of the records. -/
def endsL (rs : List Rec) : List Int := (List.range rs.length).map fun j => ((jl rs (j + 1) : Nat) : Int)
def nE (rs : List Rec) (cut : Nat) : Nat → Nat
  | 0 => 0
  | k + 1 => if jl rs (k + 1) ≤ cut then k + 1 else nE rs cut k
def bE (rs : List Rec) (cut : Nat) : Nat → Bool
  | 0 => cut == 0
  | k + 1 => bE rs cut k || jl rs (k + 1) == cut
theorem endsL_length (rs : List Rec) : (endsL rs).length = rs.length := by simp [endsL]
theorem endsL_at (rs : List Rec) {k : Nat} (hk : k < rs.length) : (endsL rs).getD k 0 = ((jl rs (k + 1) : Nat) : Int) := by simp [endsL, List.getD, hk]
theorem endsL_snoc (rs : List Rec) (r : Rec) : endsL (rs ++ [r]) = endsL rs ++ [((joinE (rs ++ [r])).length : Int)] := by
  unfold endsL
  rw [List.length_append, List.length_singleton, List.range_succ, List.map_append]
  congr 1
  · apply List.map_congr_left
    intro j hj
    have hj := List.mem_range.1 hj
    unfold jl
    rw [List.take_append_of_le_length (by omega)]
  · simp only [List.map_cons, List.map_nil, jl]
    rw [List.take_of_length_le (by simp)]
theorem jl_succ (rs : List Rec) {k : Nat} (hk : k < rs.length) : jl rs (k + 1) = jl rs k + (encR (rs.getD k rec0)).length := by
  unfold jl
  rw [List.take_succ_eq_append_getElem hk, joinE_snoc, List.length_append]
  simp [List.getD, hk]
theorem jl_mono (rs : List Rec) : ∀ (k j : Nat), j ≤ k → k ≤ rs.length → jl rs j ≤ jl rs k
  | 0, j, h, _ => by rw [show j = 0 by omega]; exact Nat.le_refl _
  | k + 1, j, h, hk => by
    rcases Nat.lt_or_ge j (k + 1) with h1 | h1
    · have := jl_mono rs k j (by omega) (by omega)
      have := jl_succ rs (k := k) (by omega)
      omega
    · rw [show j = k + 1 by omega]; exact Nat.le_refl _
theorem nE_good (rs : List Rec) (cut : Nat) : ∀ k, nE rs cut k ≤ k ∧ jl rs (nE rs cut k) ≤ cut ∧ ∀ j, nE rs cut k < j → j ≤ k → cut < jl rs j
  | 0 => ⟨Nat.le_refl _, by simp [nE, jl, joinE], fun j h1 h2 => by unfold nE at h1; omega⟩
  | k + 1 => by
    obtain ⟨h1, h2, h3⟩ := nE_good rs cut k
    unfold nE
    by_cases h : jl rs (k + 1) ≤ cut
    · rw [if_pos h]
      exact ⟨Nat.le_refl _, h, fun j a b => by omega⟩
    · rw [if_neg h]
      refine ⟨by omega, h2, fun j a b => ?_⟩
      rcases Nat.lt_or_ge j (k + 1) with c | c
      · exact h3 j a (by omega)
      · rw [show j = k + 1 by omega]; omega
theorem bE_iff (rs : List Rec) (cut : Nat) : ∀ k, bE rs cut k = true ↔ ∃ j, j ≤ k ∧ jl rs j = cut
  | 0 => by
    unfold bE
    simp only [beq_iff_eq]
    constructor
    · intro h; exact ⟨0, Nat.le_refl _, by simp [jl, joinE, h]⟩
    · rintro ⟨j, hj, h⟩
      rw [show j = 0 by omega] at h
      simp [jl, joinE] at h
      exact h.symm
  | k + 1 => by
    unfold bE
    rw [Bool.or_eq_true, bE_iff rs cut k, beq_iff_eq]
    constructor
    · rintro (⟨j, h1, h2⟩ | h)
      · exact ⟨j, by omega, h2⟩
      · exact ⟨k + 1, Nat.le_refl _, h⟩
    · rintro ⟨j, h1, h2⟩
      rcases Nat.lt_or_ge j (k + 1) with c | c
      · exact .inl ⟨j, by omega, h2⟩
      · rw [show j = k + 1 by omega] at h2; exact .inr h2
theorem joinE_split (rs : List Rec) (k : Nat) : joinE rs = joinE (rs.take k) ++ joinE (rs.drop k) := by
  have : ∀ (a b : List Rec), joinE (a ++ b) = joinE a ++ joinE b := by
    intro a b
    induction a with
    | nil => rfl
    | cons r a ih => simp only [List.cons_append, joinE, ih, List.append_assoc]
  rw [← this, List.take_append_drop]
theorem encR_pos (r : Rec) : 4 ≤ (encR r).length := by rw [encR_len]; omega
theorem joinE_ge : ∀ (rs : List Rec), 4 * rs.length ≤ (joinE rs).length
  | [] => by simp
  | r :: rs => by
    have := joinE_ge rs
    have := encR_pos r
    simp only [joinE, List.length_append, List.length_cons]
    omega
theorem joinE_le : ∀ (rs : List Rec), (∀ r ∈ rs, r.right = true) → (joinE rs).length ≤ 400004 * rs.length
  | [], _ => by simp [joinE]
  | r :: rs, h => by
    have := joinE_le rs (fun q hq => h q (List.mem_cons_of_mem _ hq))
    have h1 := encB_small (h r (List.mem_cons_self ..))
    have := encR_len r
    simp only [joinE, List.length_append, List.length_cons]
    omega
theorem all_join {rs : List Rec} (h : ∀ r ∈ rs, r.right = true) : allR (joinE rs) = rs ∧ allE (joinE rs) = 0 := by
  have hge := joinE_ge rs
  have e : allF (joinE rs).length [] (joinE rs) = (rs, 0) := by
    have := allF_join rs ((joinE rs).length - rs.length) [] [] h
    rw [List.append_nil, Nat.sub_add_cancel (by omega), allF_nil] at this
    exact this
  unfold allR allE
  rw [e]
  exact ⟨rfl, rfl⟩
/-- Cut between two. -/
theorem all_between {rs : List Rec} (h : ∀ r ∈ rs, r.right = true) {cut : Nat} (hb : bE rs cut rs.length = true) :
    allR ((joinE rs).take cut) = rs.take (nE rs cut rs.length) ∧ allE ((joinE rs).take cut) = 0 := by
  obtain ⟨n1, n2, n3⟩ := nE_good rs cut rs.length
  obtain ⟨j, hj, e⟩ := (bE_iff rs cut rs.length).1 hb
  generalize nE rs cut rs.length = n at *
  have hjn : j ≤ n := by
    rcases Nat.lt_or_ge n j with c | c
    · have := n3 j c hj; omega
    · exact c
  have := jl_mono rs n j hjn n1
  have hc : (joinE (rs.take n)).length = cut := by unfold jl at *; omega
  have : (joinE rs).take cut = joinE (rs.take n) := by
    rw [joinE_split rs n]
    exact List.take_left' hc
  rw [this]
  exact all_join (fun r hr => h r (List.mem_of_mem_take hr))
/-- Cut inside one. -/
theorem all_inside {rs : List Rec} (h : ∀ r ∈ rs, r.right = true) {cut : Nat} (hc : cut ≤ (joinE rs).length) (hb : bE rs cut rs.length = false) :
    allR ((joinE rs).take cut) = [] ∧ allE ((joinE rs).take cut) = 150 := by
  obtain ⟨n1, n2, n3⟩ := nE_good rs cut rs.length
  have hb' : ∀ j, j ≤ rs.length → jl rs j ≠ cut := fun j hj e => by
    have := (bE_iff rs cut rs.length).2 ⟨j, hj, e⟩
    rw [hb] at this
    cases this
  generalize nE rs cut rs.length = n at *
  have h0 := hb' n n1
  have hlast : jl rs rs.length = (joinE rs).length := by unfold jl; rw [List.take_length]
  have hn : n < rs.length := by
    rcases Nat.lt_or_ge n rs.length with c | c
    · exact c
    · have e : n = rs.length := by omega
      rw [e, hlast] at n2 h0
      omega
  have h1 := n3 (n + 1) (by omega) (by omega)
  rw [jl_succ rs hn] at h1
  have hr : (rs.getD n rec0).right = true := h _ (rec_mem hn)
  have hq : cut - jl rs n < (encR (rs.getD n rec0)).length := by omega
  have hd := dec_short hr hq
  have hdrop : rs.drop n = rs.getD n rec0 :: rs.drop (n + 1) := by
    rw [List.drop_eq_getElem_cons hn]
    simp [List.getD, hn]
  have e : (joinE rs).take cut = joinE (rs.take n) ++ (encR (rs.getD n rec0)).take (cut - jl rs n) := by
    rw [joinE_split rs n, hdrop]
    rw [List.take_append, List.take_of_length_le (by unfold jl at n2; exact n2)]
    congr 1
    rw [show (joinE (rs.take n)).length = jl rs n from rfl, show joinE (rs.getD n rec0 :: rs.drop (n + 1)) = encR (rs.getD n rec0) ++ joinE (rs.drop (n + 1)) from rfl, List.take_append_of_le_length (by omega)]
  have htl : (rs.take n).length = n := by rw [List.length_take]; omega
  have hge := joinE_ge (rs.take n)
  have hlen : ((joinE rs).take cut).length = cut := by rw [List.length_take]; omega
  have hne : (encR (rs.getD n rec0)).take (cut - jl rs n) ≠ [] := by
    intro e0
    have h7 := congrArg List.length e0
    rw [List.length_take, List.length_nil] at h7
    omega
  have hA : allF ((joinE rs).take cut).length [] ((joinE rs).take cut) = ([], 150) := by
    have hj := allF_join (rs.take n) (cut - n) [] ((encR (rs.getD n rec0)).take (cut - jl rs n)) (fun r hr => h r (List.mem_of_mem_take hr))
    have hjl : (joinE (rs.take n)).length = jl rs n := rfl
    rw [htl, Nat.sub_add_cancel (by omega)] at hj
    rw [hlen, e, hj, allF_step (by rw [List.length_take]; omega) hne, if_pos (by rw [hd]; simp), hd]
  unfold allR allE
  rw [hA]
  exact ⟨rfl, rfl⟩

/-! Memory. -/
theorem own_other {w w4 : World} {base base' : Nat} {e e' : TypeId} {size size' n n' : Nat} {v v' : Value} {xs xs' : List Value} (h : w.ownsRow base e size v n xs) (k : w.ownsRow base' e' size' v' n' xs') (hne : e ≠ e') (hg : w.grownBy w4 v'.ownBlock) : w4.ownsRow base e size v n xs :=
  ownsRow_off h (Off.of_grown (S := fun k => v'.ownBlock = some k) hg (fun _ e => e)) (fun q hq hs => by
    obtain ⟨c1, e1⟩ := own_blk h hq
    obtain ⟨c2, e2⟩ := own_blk k hs
    exact cells_ne e1 e2 hne)
theorem own_keep {w w4 : World} {base : Nat} {e : TypeId} {size n : Nat} {v : Value} {xs : List Value} (h : w.ownsRow base e size v n xs) (hb : Below w.heap.size w w4) : w4.ownsRow base e size v n xs :=
  ownsRow_off (S := fun _ => False) h (Off.of_below hb) (fun _ _ h => h)
theorem IR.of_own {w : World} {base : Nat} {n c : Nat} {A : Option Addr} {l : List Int} (h : w.ownsRow base 3 1 (.slice A n c) n (l.map (Value.int .i64))) : IR w A n l := Rd.of_own h

/-- A row of records of one's own: their changes are values of the world w0. -/
def ORV (w0 w : World) (v : Value) (rs : List Rec) : Prop :=
  ∃ us : List (Int × Int × Value), w.ownsRow w0.heap.size 38 3 v rs.length (rcs us) ∧ us.length = rs.length ∧ ∀ (i : Nat) (p : Rec) (q : Int × Int × Value), rs[i]? = some p → us[i]? = some q → q.1 = (p.kind : Int) ∧ q.2.1 = p.tx ∧ VC w0 q.2.2 p.cs
section
variable {w0 w w4 : World} {v v4 : Value} {rs : List Rec}
theorem ORV.nil (w0 w : World) : ORV w0 w (.slice none 0 0) [] := ⟨[], ⟨rfl, .inl ⟨rfl, rfl⟩⟩, rfl, fun i p q h => by simp at h⟩
theorem ORV.rw {A : Option Addr} {n c : Nat} (h : ORV w0 w (.slice A n c) rs) (hn : rs.length = n) (hb : Below w0.heap.size w0 w) : RW w A n rs := by
  obtain ⟨us, h1, h2, h3⟩ := h
  subst hn
  exact ⟨us, Rd.of_own h1, h2, fun i p q hp hq => ⟨(h3 i p q hp hq).1, (h3 i p q hp hq).2.1, (h3 i p q hp hq).2.2.below hb⟩⟩
theorem ORV.push {us : List (Int × Int × Value)} (h2 : us.length = rs.length) (h3 : ∀ (i : Nat) (p : Rec) (q : Int × Int × Value), rs[i]? = some p → us[i]? = some q → q.1 = (p.kind : Int) ∧ q.2.1 = p.tx ∧ VC w0 q.2.2 p.cs) {k : Nat} {tx : Int} {u : Value} {cs : List Ch} (hu : VC w0 u cs)
    (ho : w4.ownsRow w0.heap.size 38 3 v4 (rs.length + 1) (rcs us ++ [.int .u8 (k : Int), .int .i64 tx, u])) : ORV w0 w4 v4 (rs ++ [⟨k, tx, cs⟩]) := by
  refine ⟨us ++ [((k : Int), tx, u)], ?_, by rw [List.length_append, List.length_append, h2]; rfl, fun i p q hp hq => ?_⟩
  · rw [List.length_append, rcs_append]
    exact ho
  · rcases Nat.lt_or_ge i rs.length with hi | hi
    · rw [List.getElem?_append_left hi] at hp
      rw [List.getElem?_append_left (by rw [h2]; exact hi)] at hq
      exact h3 i p q hp hq
    · rw [List.getElem?_append_right hi] at hp
      rw [List.getElem?_append_right (by rw [h2]; exact hi), h2] at hq
      obtain h0 | h0 : i - rs.length = 0 ∨ 1 ≤ i - rs.length := by omega
      · rw [h0] at hp hq
        simp at hp hq
        subst hp hq
        exact ⟨rfl, rfl, hu⟩
      · rw [List.getElem?_eq_none (by simpa using h0)] at hp
        cases hp
end
theorem ORW.rw {w : World} {base : Nat} {v : Value} {rs : List Rec} (h : ORW w base v rs) : ∃ A c, v = .slice A rs.length c ∧ RW w A rs.length rs ∧ rs.length ≤ c ∧ c ≤ maxLen := by
  obtain ⟨us, h1, h2, h3⟩ := h
  obtain ⟨A, c, e, hn, hm⟩ := own_form h1
  refine ⟨A, c, e, ⟨us, ?_, h2, fun i p q hp hq => ⟨(h3 i p q hp hq).1, (h3 i p q hp hq).2.1, (h3 i p q hp hq).2.2.cr⟩⟩, hn, hm⟩
  rw [e] at h1
  exact Rd.of_own h1
theorem RW.pre {w : World} {A : Option Addr} {n : Nat} {rs : List Rec} (h : RW w A n rs) {j : Nat} (hj : j ≤ n) : RW w A j (rs.take j) := by
  have hl := h.len
  obtain ⟨us, hr, h2, h3⟩ := h
  refine ⟨us.take j, ⟨by rw [rcs_length, List.length_take]; omega, fun h0 => ?_⟩, by rw [List.length_take, List.length_take, h2], fun i p q hp hq => ?_⟩
  · obtain ⟨ad, e, hc⟩ := hr.2 (by omega)
    refine ⟨ad, e, fun i u hu => hc i u ?_⟩
    have e2 : rcs us = rcs (us.take j) ++ rcs (us.drop j) := by rw [← rcs_append, List.take_append_drop]
    rw [e2, List.getElem?_append_left (by rcases Nat.lt_or_ge i (rcs (us.take j)).length with h | h; exact h; rw [List.getElem?_eq_none h] at hu; cases hu)]
    exact hu
  · rw [List.getElem?_take] at hp hq
    split at hp
    · rename_i hi
      rw [if_pos hi] at hq
      exact h3 i p q hp hq
    · cases hp

end Go.Proofs.Ythpjjoahffagcaa
