/-
  Texts of this claim, joined: Pick, RdQ, StA, StB, StC, JnA, RgA, RgB, Rgn, RgC, JnB, JnC. No statement of the program is proved here.
-/
import Derived.Test.YtlopcmmbkfjidaaPkF1
import Derived.Test.YtlopcmmbkfjidaaPkF5
import Derived.Test.YtlopcmmbkfjidaaPkF3
/-! Pick -/
namespace Go.Proofs.Ytlopcmmbkfjidaa
open Go.RowKit

end Go.Proofs.Ytlopcmmbkfjidaa

/-! RdQ -/
namespace Go.Proofs.Ytlopcmmbkfjidaa
open Go.RowKit

/-! Plain. -/
/-- How long the first k records are. -/
def jl (rs : List Rec) (k : Nat) : Nat := (joinE (rs.take k)).length
/-- The ends of the records. -/
def endsL (rs : List Rec) : List Int := (List.range rs.length).map fun j => ((jl rs (j + 1) : Nat) : Int)
def nE (rs : List Rec) (cut : Nat) : Nat → Nat
  | 0 => 0
  | k + 1 => if jl rs (k + 1) ≤ cut then k + 1 else nE rs cut k
def bE (rs : List Rec) (cut : Nat) : Nat → Bool
  | 0 => cut == 0
  | k + 1 => bE rs cut k || jl rs (k + 1) == cut
theorem endsL_length (rs : List Rec) : (endsL rs).length = rs.length := by simp [endsL]
theorem endsL_at (rs : List Rec) {k : Nat} (hk : k < rs.length) : (endsL rs).getD k 0 = ((jl rs (k + 1) : Nat) : Int) := by simp [endsL, List.getD, hk]
theorem endsL_snoc (rs : List Rec) (r : Rec) : endsL (rs ++ [r]) = endsL rs ++ [((joinE (rs ++ [r])).length : Int)] := by
  unfold endsL
  rw [List.length_append, List.length_singleton, List.range_succ, List.map_append]
  congr 1
  · apply List.map_congr_left
    intro j hj
    have hj := List.mem_range.1 hj
    unfold jl
    rw [List.take_append_of_le_length (by omega)]
  · simp only [List.map_cons, List.map_nil, jl]
    rw [List.take_of_length_le (by simp)]
theorem jl_succ (rs : List Rec) {k : Nat} (hk : k < rs.length) : jl rs (k + 1) = jl rs k + (encR (rs.getD k rec0)).length := by
  unfold jl
  rw [List.take_succ_eq_append_getElem hk, joinE_snoc, List.length_append]
  simp [List.getD, hk]
theorem jl_mono (rs : List Rec) : ∀ (k j : Nat), j ≤ k → k ≤ rs.length → jl rs j ≤ jl rs k
  | 0, j, h, _ => by rw [show j = 0 by omega]; exact Nat.le_refl _
  | k + 1, j, h, hk => by
    rcases Nat.lt_or_ge j (k + 1) with h1 | h1
    · have := jl_mono rs k j (by omega) (by omega)
      have := jl_succ rs (k := k) (by omega)
      omega
    · rw [show j = k + 1 by omega]; exact Nat.le_refl _
theorem nE_good (rs : List Rec) (cut : Nat) : ∀ k, nE rs cut k ≤ k ∧ jl rs (nE rs cut k) ≤ cut ∧ ∀ j, nE rs cut k < j → j ≤ k → cut < jl rs j
  | 0 => ⟨Nat.le_refl _, by simp [nE, jl, joinE], fun j h1 h2 => by unfold nE at h1; omega⟩
  | k + 1 => by
    obtain ⟨h1, h2, h3⟩ := nE_good rs cut k
    unfold nE
    by_cases h : jl rs (k + 1) ≤ cut
    · rw [if_pos h]
      exact ⟨Nat.le_refl _, h, fun j a b => by omega⟩
    · rw [if_neg h]
      refine ⟨by omega, h2, fun j a b => ?_⟩
      rcases Nat.lt_or_ge j (k + 1) with c | c
      · exact h3 j a (by omega)
      · rw [show j = k + 1 by omega]; omega
theorem bE_iff (rs : List Rec) (cut : Nat) : ∀ k, bE rs cut k = true ↔ ∃ j, j ≤ k ∧ jl rs j = cut
  | 0 => by
    unfold bE
    simp only [beq_iff_eq]
    constructor
    · intro h; exact ⟨0, Nat.le_refl _, by simp [jl, joinE, h]⟩
    · rintro ⟨j, hj, h⟩
      rw [show j = 0 by omega] at h
      simp [jl, joinE] at h
      exact h.symm
  | k + 1 => by
    unfold bE
    rw [Bool.or_eq_true, bE_iff rs cut k, beq_iff_eq]
    constructor
    · rintro (⟨j, h1, h2⟩ | h)
      · exact ⟨j, by omega, h2⟩
      · exact ⟨k + 1, Nat.le_refl _, h⟩
    · rintro ⟨j, h1, h2⟩
      rcases Nat.lt_or_ge j (k + 1) with c | c
      · exact .inl ⟨j, by omega, h2⟩
      · rw [show j = k + 1 by omega] at h2; exact .inr h2
theorem joinE_split (rs : List Rec) (k : Nat) : joinE rs = joinE (rs.take k) ++ joinE (rs.drop k) := by
  have : ∀ (a b : List Rec), joinE (a ++ b) = joinE a ++ joinE b := by
    intro a b
    induction a with
    | nil => rfl
    | cons r a ih => simp only [List.cons_append, joinE, ih, List.append_assoc]
  rw [← this, List.take_append_drop]
theorem encR_pos (r : Rec) : 4 ≤ (encR r).length := by rw [encR_len]; omega
theorem joinE_ge : ∀ (rs : List Rec), 4 * rs.length ≤ (joinE rs).length
  | [] => by simp
  | r :: rs => by
    have := joinE_ge rs
    have := encR_pos r
    simp only [joinE, List.length_append, List.length_cons]
    omega
theorem joinE_le : ∀ (rs : List Rec), (∀ r ∈ rs, r.right = true) → (joinE rs).length ≤ 400004 * rs.length
  | [], _ => by simp [joinE]
  | r :: rs, h => by
    have := joinE_le rs (fun q hq => h q (List.mem_cons_of_mem _ hq))
    have h1 := encB_small (h r (List.mem_cons_self ..))
    have := encR_len r
    simp only [joinE, List.length_append, List.length_cons]
    omega
theorem all_join {rs : List Rec} (h : ∀ r ∈ rs, r.right = true) : allR (joinE rs) = rs ∧ allE (joinE rs) = 0 := by
  have hge := joinE_ge rs
  have e : allF (joinE rs).length [] (joinE rs) = (rs, 0) := by
    have := allF_join rs ((joinE rs).length - rs.length) [] [] h
    rw [List.append_nil, Nat.sub_add_cancel (by omega), allF_nil] at this
    exact this
  unfold allR allE
  rw [e]
  exact ⟨rfl, rfl⟩
/-- Cut between two. -/
theorem all_between {rs : List Rec} (h : ∀ r ∈ rs, r.right = true) {cut : Nat} (hb : bE rs cut rs.length = true) :
    allR ((joinE rs).take cut) = rs.take (nE rs cut rs.length) ∧ allE ((joinE rs).take cut) = 0 := by
  obtain ⟨n1, n2, n3⟩ := nE_good rs cut rs.length
  obtain ⟨j, hj, e⟩ := (bE_iff rs cut rs.length).1 hb
  generalize nE rs cut rs.length = n at *
  have hjn : j ≤ n := by
    rcases Nat.lt_or_ge n j with c | c
    · have := n3 j c hj; omega
    · exact c
  have := jl_mono rs n j hjn n1
  have hc : (joinE (rs.take n)).length = cut := by unfold jl at *; omega
  have : (joinE rs).take cut = joinE (rs.take n) := by
    rw [joinE_split rs n]
    exact List.take_left' hc
  rw [this]
  exact all_join (fun r hr => h r (List.mem_of_mem_take hr))
/-- Cut inside one. -/
theorem all_inside {rs : List Rec} (h : ∀ r ∈ rs, r.right = true) {cut : Nat} (hc : cut ≤ (joinE rs).length) (hb : bE rs cut rs.length = false) :
    allR ((joinE rs).take cut) = [] ∧ allE ((joinE rs).take cut) = 150 := by
  obtain ⟨n1, n2, n3⟩ := nE_good rs cut rs.length
  have hb' : ∀ j, j ≤ rs.length → jl rs j ≠ cut := fun j hj e => by
    have := (bE_iff rs cut rs.length).2 ⟨j, hj, e⟩
    rw [hb] at this
    cases this
  generalize nE rs cut rs.length = n at *
  have h0 := hb' n n1
  have hlast : jl rs rs.length = (joinE rs).length := by unfold jl; rw [List.take_length]
  have hn : n < rs.length := by
    rcases Nat.lt_or_ge n rs.length with c | c
    · exact c
    · have e : n = rs.length := by omega
      rw [e, hlast] at n2 h0
      omega
  have h1 := n3 (n + 1) (by omega) (by omega)
  rw [jl_succ rs hn] at h1
  have hr : (rs.getD n rec0).right = true := h _ (rec_mem hn)
  have hq : cut - jl rs n < (encR (rs.getD n rec0)).length := by omega
  have hd := dec_short hr hq
  have hdrop : rs.drop n = rs.getD n rec0 :: rs.drop (n + 1) := by
    rw [List.drop_eq_getElem_cons hn]
    simp [List.getD, hn]
  have e : (joinE rs).take cut = joinE (rs.take n) ++ (encR (rs.getD n rec0)).take (cut - jl rs n) := by
    rw [joinE_split rs n, hdrop]
    rw [List.take_append, List.take_of_length_le (by unfold jl at n2; exact n2)]
    congr 1
    rw [show (joinE (rs.take n)).length = jl rs n from rfl, show joinE (rs.getD n rec0 :: rs.drop (n + 1)) = encR (rs.getD n rec0) ++ joinE (rs.drop (n + 1)) from rfl, List.take_append_of_le_length (by omega)]
  have htl : (rs.take n).length = n := by rw [List.length_take]; omega
  have hge := joinE_ge (rs.take n)
  have hlen : ((joinE rs).take cut).length = cut := by rw [List.length_take]; omega
  have hne : (encR (rs.getD n rec0)).take (cut - jl rs n) ≠ [] := by
    intro e0
    have h7 := congrArg List.length e0
    rw [List.length_take, List.length_nil] at h7
    omega
  have hA : allF ((joinE rs).take cut).length [] ((joinE rs).take cut) = ([], 150) := by
    have hj := allF_join (rs.take n) (cut - n) [] ((encR (rs.getD n rec0)).take (cut - jl rs n)) (fun r hr => h r (List.mem_of_mem_take hr))
    have hjl : (joinE (rs.take n)).length = jl rs n := rfl
    rw [htl, Nat.sub_add_cancel (by omega)] at hj
    rw [hlen, e, hj, allF_step (by rw [List.length_take]; omega) hne, if_pos (by rw [hd]; simp), hd]
  unfold allR allE
  rw [hA]
  exact ⟨rfl, rfl⟩

/-! Memory. -/
theorem own_other {w w4 : World} {base base' : Nat} {e e' : TypeId} {size size' n n' : Nat} {v v' : Value} {xs xs' : List Value} (h : w.ownsRow base e size v n xs) (k : w.ownsRow base' e' size' v' n' xs') (hne : e ≠ e') (hg : w.grownBy w4 v'.ownBlock) : w4.ownsRow base e size v n xs :=
  ownsRow_off h (Off.of_grown (S := fun k => v'.ownBlock = some k) hg (fun _ e => e)) (fun q hq hs => by
    obtain ⟨c1, e1⟩ := own_blk h hq
    obtain ⟨c2, e2⟩ := own_blk k hs
    exact cells_ne e1 e2 hne)
theorem own_keep {w w4 : World} {base : Nat} {e : TypeId} {size n : Nat} {v : Value} {xs : List Value} (h : w.ownsRow base e size v n xs) (hb : Below w.heap.size w w4) : w4.ownsRow base e size v n xs :=
  ownsRow_off (S := fun _ => False) h (Off.of_below hb) (fun _ _ h => h)
theorem IR.of_own {w : World} {base : Nat} {n c : Nat} {A : Option Addr} {l : List Int} (h : w.ownsRow base 3 1 (.slice A n c) n (l.map (Value.int .i64))) : IR w A n l := Rd.of_own h

/-- A row of records of one's own: their changes are values of the world w0. -/
def ORV (w0 w : World) (v : Value) (rs : List Rec) : Prop :=
  ∃ us : List (Int × Int × Value), w.ownsRow w0.heap.size 25 3 v rs.length (rcs us) ∧ us.length = rs.length ∧ ∀ (i : Nat) (p : Rec) (q : Int × Int × Value), rs[i]? = some p → us[i]? = some q → q.1 = (p.kind : Int) ∧ q.2.1 = p.tx ∧ VC w0 q.2.2 p.cs
section
variable {w0 w w4 : World} {v v4 : Value} {rs : List Rec}
theorem ORV.nil (w0 w : World) : ORV w0 w (.slice none 0 0) [] := ⟨[], ⟨rfl, .inl ⟨rfl, rfl⟩⟩, rfl, fun i p q h => by simp at h⟩
theorem ORV.rw {A : Option Addr} {n c : Nat} (h : ORV w0 w (.slice A n c) rs) (hn : rs.length = n) (hb : Below w0.heap.size w0 w) : RW w A n rs := by
  obtain ⟨us, h1, h2, h3⟩ := h
  subst hn
  exact ⟨us, Rd.of_own h1, h2, fun i p q hp hq => ⟨(h3 i p q hp hq).1, (h3 i p q hp hq).2.1, (h3 i p q hp hq).2.2.below hb⟩⟩
theorem ORV.push {us : List (Int × Int × Value)} (h2 : us.length = rs.length) (h3 : ∀ (i : Nat) (p : Rec) (q : Int × Int × Value), rs[i]? = some p → us[i]? = some q → q.1 = (p.kind : Int) ∧ q.2.1 = p.tx ∧ VC w0 q.2.2 p.cs) {k : Nat} {tx : Int} {u : Value} {cs : List Ch} (hu : VC w0 u cs)
    (ho : w4.ownsRow w0.heap.size 25 3 v4 (rs.length + 1) (rcs us ++ [.int .u8 (k : Int), .int .i64 tx, u])) : ORV w0 w4 v4 (rs ++ [⟨k, tx, cs⟩]) := by
  refine ⟨us ++ [((k : Int), tx, u)], ?_, by rw [List.length_append, List.length_append, h2]; rfl, fun i p q hp hq => ?_⟩
  · rw [List.length_append, rcs_append]
    exact ho
  · rcases Nat.lt_or_ge i rs.length with hi | hi
    · rw [List.getElem?_append_left hi] at hp
      rw [List.getElem?_append_left (by rw [h2]; exact hi)] at hq
      exact h3 i p q hp hq
    · rw [List.getElem?_append_right hi] at hp
      rw [List.getElem?_append_right (by rw [h2]; exact hi), h2] at hq
      obtain h0 | h0 : i - rs.length = 0 ∨ 1 ≤ i - rs.length := by omega
      · rw [h0] at hp hq
        simp at hp hq
        subst hp hq
        exact ⟨rfl, rfl, hu⟩
      · rw [List.getElem?_eq_none (by simpa using h0)] at hp
        cases hp
end
theorem ORW.rw {w : World} {base : Nat} {v : Value} {rs : List Rec} (h : ORW w base v rs) : ∃ A c, v = .slice A rs.length c ∧ RW w A rs.length rs ∧ rs.length ≤ c ∧ c ≤ maxLen := by
  obtain ⟨us, h1, h2, h3⟩ := h
  obtain ⟨A, c, e, hn, hm⟩ := own_form h1
  refine ⟨A, c, e, ⟨us, ?_, h2, fun i p q hp hq => ⟨(h3 i p q hp hq).1, (h3 i p q hp hq).2.1, (h3 i p q hp hq).2.2.cr⟩⟩, hn, hm⟩
  rw [e] at h1
  exact Rd.of_own h1
theorem RW.pre {w : World} {A : Option Addr} {n : Nat} {rs : List Rec} (h : RW w A n rs) {j : Nat} (hj : j ≤ n) : RW w A j (rs.take j) := by
  have hl := h.len
  obtain ⟨us, hr, h2, h3⟩ := h
  refine ⟨us.take j, ⟨by rw [rcs_length, List.length_take]; omega, fun h0 => ?_⟩, by rw [List.length_take, List.length_take, h2], fun i p q hp hq => ?_⟩
  · obtain ⟨ad, e, hc⟩ := hr.2 (by omega)
    refine ⟨ad, e, fun i u hu => hc i u ?_⟩
    have e2 : rcs us = rcs (us.take j) ++ rcs (us.drop j) := by rw [← rcs_append, List.take_append_drop]
    rw [e2, List.getElem?_append_left (by rcases Nat.lt_or_ge i (rcs (us.take j)).length with h | h; exact h; rw [List.getElem?_eq_none h] at hu; cases hu)]
    exact hu
  · rw [List.getElem?_take] at hp hq
    split at hp
    · rename_i hi
      rw [if_pos hi] at hq
      exact h3 i p q hp hq
    · cases hp

end Go.Proofs.Ytlopcmmbkfjidaa

/-! StA -/
namespace Go.Proofs.Ytlopcmmbkfjidaa
open Go.RowKit

theorem OB.cells8 {w : World} {base : Nat} {A : Option Addr} {c v : Nat} (h : OB w base (.slice A 8 c) (leB v 8)) :
    ∃ g, A = some ⟨g, 0, none⟩ ∧ base ≤ g ∧ g < w.heap.size ∧ 8 ≤ c ∧ ∀ j, j < 8 → w.cell? ⟨g, j, none⟩ = some (.int .u8 ((leB v 8).getD j 0).toNat) := by
  have hl := h.lt
  rcases h.2 with ⟨e, h0⟩ | ⟨g, cap, cur, e, hb, hg, hn, hm, hc, ht⟩
  · rw [leB_length] at h0; cases h0
  · injection e with e1 e2 e3
    subst e1 e3
    refine ⟨g, rfl, hb, (Array.getElem?_eq_some_iff.1 hg).1, by rw [leB_length] at hn; exact hn, fun j hj => ?_⟩
    have := h.cells (g := g) rfl j (bv ((leB v 8).getD j 0)) (by rw [List.getElem?_map, List.getElem?_eq_getElem (by rw [leB_length]; exact hj)]; simp [List.getD, List.getElem?_eq_getElem (show j < (leB v 8).length by rw [leB_length]; exact hj)])
    rw [add_plain] at this
    exact this

theorem seal_list (a l : List UInt8) (n : Nat) (ha : a.length = 8) (hl : l.length = n) (hn : n ≤ 4080) :
    splice (splice (splice (List.replicate 4096 (0 : UInt8)) 0 a) 8 l) 4088 a = a ++ (l ++ List.replicate (4080 - n) 0) ++ a := by
  have e1 : splice (List.replicate 4096 (0 : UInt8)) 0 a = a ++ List.replicate 4088 0 := by
    unfold splice
    rw [List.take_zero, List.nil_append, ha, List.drop_replicate]
  have e2 : splice (a ++ List.replicate 4088 (0 : UInt8)) 8 l = a ++ (l ++ List.replicate (4088 - n) 0) := by
    unfold splice
    rw [List.take_left' ha, List.drop_append, List.drop_eq_nil_of_le (by omega), List.nil_append, List.drop_replicate, ha, hl]
    congr 3
    omega
  rw [e1, e2]
  have e3 : List.replicate (4088 - n) (0 : UInt8) = List.replicate (4080 - n) 0 ++ List.replicate 8 0 := by
    rw [List.replicate_append_replicate]; congr 1; omega
  rw [e3]
  have e4 : a ++ (l ++ (List.replicate (4080 - n) (0 : UInt8) ++ List.replicate 8 0)) = (a ++ (l ++ List.replicate (4080 - n) 0)) ++ List.replicate 8 0 := by simp only [List.append_assoc]
  have e5 : (a ++ (l ++ List.replicate (4080 - n) (0 : UInt8))).length = 4088 := by simp only [List.length_append, List.length_replicate]; omega
  rw [e4]
  unfold splice
  rw [List.take_left' e5, List.drop_eq_nil_of_le (by rw [List.length_append, e5, List.length_replicate]; omega), List.append_nil]

set_option maxHeartbeats 400000 in
set_option maxRecDepth 100000 in
theorem Seal_fits (A : Option Addr) (n c v : Nat) (l : List UInt8) (w : World) (ha : BR w A n l) (hn : n ≤ 4080) (hv : v < 18446744073709551616) :
    Calls Try.prog 54 #[.slice A n c, .int .u64 v] w fun e w' => ∃ r, e = .returned (.tuple #[r, .int .i64 0]) ∧ OB w' w.heap.size r (leB v 8 ++ (l ++ List.replicate (4080 - n) 0) ++ leB v 8) ∧ Below w.heap.size w w' := by
  have hn' : decide ((4080 : Int) < (n : Int)) = false := by simp; omega
  have HV := Lib.hid hv
  have mk := run_mk_bytes 4096 (by omega) 4096 rfl
  clear hv
  go_enter Try.func54, Try.ntmps54
  go_wp2_with fail
  refine (Add64_any none 0 0 [] w v (BR.none_ _ _) (by omega) HV.out).mono ?_
  rintro e w1 ⟨v1, rfl, ho1, hb1⟩
  rw [List.nil_append] at ho1
  obtain ⟨A1, c1, rfl, r1, hc1, hm1⟩ := ho1.formN (n := 8) (by rw [leB_length])
  obtain ⟨g, rfl, hg1, hg2, hg3, hcell⟩ := ho1.cells8
  obtain ⟨x0, x1, x2, x3, x4, x5, x6, x7, hx⟩ : ∃ x0 x1 x2 x3 x4 x5 x6 x7, leB v 8 = [x0, x1, x2, x3, x4, x5, x6, x7] := ⟨_, _, _, _, _, _, _, _, rfl⟩
  rw [hx] at hcell
  have k0 : w1.cell? ⟨g, 0, none⟩ = some (.int .u8 (x0.toNat : Int)) := hcell 0 (by omega)
  have k1 : w1.cell? ⟨g, 1, none⟩ = some (.int .u8 (x1.toNat : Int)) := hcell 1 (by omega)
  have k2 : w1.cell? ⟨g, 2, none⟩ = some (.int .u8 (x2.toNat : Int)) := hcell 2 (by omega)
  have k3 : w1.cell? ⟨g, 3, none⟩ = some (.int .u8 (x3.toNat : Int)) := hcell 3 (by omega)
  have k4 : w1.cell? ⟨g, 4, none⟩ = some (.int .u8 (x4.toNat : Int)) := hcell 4 (by omega)
  have k5 : w1.cell? ⟨g, 5, none⟩ = some (.int .u8 (x5.toNat : Int)) := hcell 5 (by omega)
  have k6 : w1.cell? ⟨g, 6, none⟩ = some (.int .u8 (x6.toNat : Int)) := hcell 6 (by omega)
  have k7 : w1.cell? ⟨g, 7, none⟩ = some (.int .u8 (x7.toNat : Int)) := hcell 7 (by omega)
  have HX := Lib.hid hx
  clear hcell hx
  have hAt := fun W => run_arrayAt (P := Try.prog) W 124 5 8 (some ⟨g, 0, none⟩) 8 c1 Try.underlying124 (by omega)
  go_upto_region 4 with fail
  have hm : BR (w1.alloc (.cells #[.int .u8 (x0.toNat : Int), .int .u8 (x1.toNat : Int), .int .u8 (x2.toNat : Int), .int .u8 (x3.toNat : Int), .int .u8 (x4.toNat : Int), .int .u8 (x5.toNat : Int), .int .u8 (x6.toNat : Int), .int .u8 (x7.toNat : Int)] 124)) (some ⟨w1.heap.size, 0, none⟩) 8 (leB v 8) := by
    rw [HX.out]
    exact BR.litAt _ _ _ _ _ _ rfl rfl rfl
  have hb2 := gr_alloc hb1 (.cells #[.int .u8 (x0.toNat : Int), .int .u8 (x1.toNat : Int), .int .u8 (x2.toNat : Int), .int .u8 (x3.toNat : Int), .int .u8 (x4.toNat : Int), .int .u8 (x5.toNat : Int), .int .u8 (x6.toNat : Int), .int .u8 (x7.toNat : Int)] 124)
  have hsz : w1.heap.size < (w1.alloc (.cells #[.int .u8 (x0.toNat : Int), .int .u8 (x1.toNat : Int), .int .u8 (x2.toNat : Int), .int .u8 (x3.toNat : Int), .int .u8 (x4.toNat : Int), .int .u8 (x5.toNat : Int), .int .u8 (x6.toNat : Int), .int .u8 (x7.toNat : Int)] 124)).heap.size := by simp
  clear k0 k1 k2 k3 k4 k5 k6 k7 hAt HX ho1 r1 hg1 hg2 hg3
  generalize (w1.alloc (.cells #[.int .u8 (x0.toNat : Int), .int .u8 (x1.toNat : Int), .int .u8 (x2.toNat : Int), .int .u8 (x3.toNat : Int), .int .u8 (x4.toNat : Int), .int .u8 (x5.toNat : Int), .int .u8 (x6.toNat : Int), .int .u8 (x7.toNat : Int)] 124)) = W2 at *
  generalize w1.heap.size = g6 at *
  clear hb1
  have hB := BB.zero W2 4096
  have hm3 := hm.alloc (.cells (zeroB 4096) 5)
  have hb3 := gr_alloc hb2 (.cells (zeroB 4096) 5)
  have hsz3 : W2.heap.size < (W2.alloc (.cells (zeroB 4096) 5)).heap.size := by simp
  have hge := hb2.size
  have hla : (leB v 8).length = 8 := leB_length v 8
  have hll := ha.len
  generalize hZ : List.replicate 4096 (0 : UInt8) = Z at hB
  have hZl : Z.length = 4096 := by rw [← hZ, List.length_replicate]
  generalize hE1 : splice Z 0 (leB v 8) = L1
  generalize hE2 : splice L1 8 l = L2
  generalize hE3 : splice L2 4088 (leB v 8) = L3
  have hl1 : L1.length = 4096 := by rw [← hE1, length_splice _ _ _ (by omega)]; exact hZl
  have hl2 : L2.length = 4096 := by rw [← hE2, length_splice _ _ _ (by omega)]; exact hl1
  have hl3 : L3.length = 4096 := by rw [← hE3, length_splice _ _ _ (by omega)]; exact hl2
  have c1' := run_copy_B (W2.alloc (.cells (zeroB 4096) 5)) 3 W2.heap.size 0 4096 4096 _ _ (some ⟨W2.heap.size, 0, none⟩) _ 8 8 8 hB hm3 rfl (fun _ => rfl) (by omega)
  rw [List.take_of_length_le (by omega), hE1] at c1'
  have hb4 := setB_below hb3 hge L1
  have hB4 := hB.set_ L1
  have hm4 := BR.put (g := W2.heap.size) hm3 (by rintro ad e; cases e; show g6 ≠ W2.heap.size; omega) L1
  have c2' := run_copy_B _ 3 W2.heap.size 8 4088 4088 _ _ (some ⟨W2.heap.size, 8, none⟩) A n c n hB4 (ha.below hb4) (Nat.min_eq_left (by omega)) (fun _ => rfl) (by omega)
  rw [List.take_of_length_le (by omega), hE2, setB_setB] at c2'
  have hb5 := setB_below hb3 hge L2
  have hB5 := hB.set_ L2
  have hm5 := BR.put (g := W2.heap.size) hm3 (by rintro ad e; cases e; show g6 ≠ W2.heap.size; omega) L2
  have c3' := run_copy_B _ 3 W2.heap.size 4088 8 8 _ _ (some ⟨W2.heap.size, 4088, none⟩) _ 8 8 8 hB5.drew hm5.drew rfl (fun _ => rfl) (by omega)
  rw [List.take_of_length_le (by omega), hE3, setB_drew, setB_setB] at c3'
  have hB6 := hB.set_ L3
  have hb6 := setB_below hb3 hge L3
  have hfin : leB v 8 ++ (l ++ List.replicate (4080 - n) 0) ++ leB v 8 = L3 := by
    rw [← hE3, ← hE2, ← hE1, ← hZ]
    exact (seal_list (leB v 8) l n hla hll hn).symm
  have HF := Lib.hid hfin
  have HZ := Lib.hid hl3
  clear hfin hl1 hl2 hl3 hE1 hE2 hE3 hZ hZl hla hll hB hB4 hB5 hm3 hm4 hm5 hm hb2 hb4 hb5 hsz hsz3
  go_wp2_with fail
  go_region
  go_wp2
  go_ret2
  refine ⟨_, rfl, ?_, hb6.drew⟩
  have := hB6.drew.own (base := w.heap.size) (by omega) (by rw [HZ.out]; simp [maxLen])
  rw [HF.out]
  rw [HZ.out] at this
  exact this


set_option maxHeartbeats 400000 in
theorem Seal_long (A : Option Addr) (n c v : Nat) (w : World) (hn : 4080 < n) (hn2 : n ≤ 9223372036854775807) :
    Calls Try.prog 54 #[.slice A n c, .int .u64 v] w fun e w' => e = .returned (.tuple #[.slice none 0 0, .int .i64 3]) ∧ w = w' := by
  go_enter Try.func54, Try.ntmps54
  go_wp2
  go_ret2
  exact ⟨rfl, rfl⟩

end Go.Proofs.Ytlopcmmbkfjidaa

/-! StB -/
namespace Go.Proofs.Ytlopcmmbkfjidaa
open Go.RowKit

set_option maxHeartbeats 400000 in
theorem Open_short (A : Option Addr) (n c : Nat) (w : World) (hn : n ≠ 4096) (_hn2 : n ≤ 9223372036854775807) :
    Calls Try.prog 59 #[.slice A n c] w fun e w' => e = .returned (.tuple #[.slice none 0 0, .int .u64 0, .int .i64 2]) ∧ w = w' := by
  have h1 : ((n : Int) != 4096) = true := by rw [bne_iff_ne]; omega
  clear hn
  go_enter Try.func59, Try.ntmps59
  go_wp2
  go_ret3
  exact ⟨rfl, rfl⟩

/-- Is the block whole? -/
def sealed (l : List UInt8) : Bool := (l.take 8) == (l.drop 4088)
/-- What Open tells of a block of 4096 bytes. -/
def openP (l : List UInt8) : List UInt8 := if sealed l then (l.drop 8).take 4080 else []
def openS (l : List UInt8) : Nat := if sealed l then leN (l.take 8) else 0
def openE (l : List UInt8) : Int := if sealed l then 0 else 140

theorem map_toNat_inj {a b : List UInt8} : ((a.map fun x => ((x.toNat : Nat) : Int)) == (b.map fun x => ((x.toNat : Nat) : Int))) = (a == b) := by
  rw [Bool.eq_iff_iff]
  simp only [beq_iff_eq]
  constructor
  · intro h
    have := congrArg (List.map (fun n : Int => UInt8.ofNat n.toNat)) h
    rwa [ofNat_toNat_bytes, ofNat_toNat_bytes] at this
  · rintro rfl; rfl

set_option maxHeartbeats 1000000 in
set_option maxRecDepth 100000 in
theorem Open_any (A : Option Addr) (c : Nat) (l : List UInt8) (w : World) (ha : BR w A 4096 l) (hc : 4096 ≤ c) :
    Calls Try.prog 59 #[.slice A 4096 c] w fun e w' => ∃ r, e = .returned (.tuple #[r, .int .u64 ((openS l : Nat) : Int), .int .i64 (openE l)]) ∧ OB w' w.heap.size r (openP l) ∧ Below w.heap.size w w' := by
  obtain ⟨g, o, rfl, hcell⟩ := Rd.plain ha (by omega) (by omega)
  have hl := ha.len
  obtain ⟨i0, hi0, hz0, hz1, hz2⟩ := info_parts info_u8
  have hx := ha.cut (k := 0) (j := 8) (c := c) (by omega) (by omega) hc
  have hy := ha.cut (k := 4088) (j := 4096) (c := c) (by omega) (by omega) hc
  have e1 : cutA (some ⟨g, o, none⟩) c 0 1 = some ⟨g, o, none⟩ := by unfold cutA; rw [if_neg (by omega)]; rfl
  have e2 : cutA (some ⟨g, o, none⟩) c 4088 1 = some ⟨g, o + 4088, none⟩ := by unfold cutA; rw [if_neg (by omega)]; rfl
  rw [e1, List.drop_zero] at hx
  rw [e2, List.take_of_length_le (by rw [List.length_drop]; omega)] at hy
  have hsel : sealed l = (l.take 8 == l.drop 4088) := rfl
  have h8 : openS l = if sealed l then leN (l.take 8) else 0 := rfl
  obtain ⟨x0, x1, x2, x3, x4, x5, x6, x7, hX⟩ := list8 (l.take 8) (by rw [List.length_take]; omega)
  obtain ⟨y0, y1, y2, y3, y4, y5, y6, y7, hY⟩ := list8 (l.drop 4088) (by rw [List.length_drop]; omega)
  rw [hX] at hx hsel h8
  rw [hY] at hy hsel
  obtain ⟨k0, k1, k2, k3, k4, k5, k6, k7⟩ := BR.cells8 hx
  obtain ⟨m0, m1, m2, m3, m4, m5, m6, m7⟩ := BR.cells8 hy
  have heq := fun W => run_eqArr (P := Try.prog) W 9998 124 5 i0 .u8 8 Try.underlying124 Try.underlying5 hi0 hz1 ([x0, x1, x2, x3, x4, x5, x6, x7].map fun x => ((x.toNat : Nat) : Int)) ([y0, y1, y2, y3, y4, y5, y6, y7].map fun x => ((x.toNat : Nat) : Int)) rfl rfl
  simp only [map_toNat_inj, ← hsel] at heq
  simp only [List.map_cons, List.map_nil] at heq
  have hgl : g < w.heap.size := World.block_lt_of_cell? w _ k0
  have hAt := fun W A2 n2 c2 (h : 8 ≤ n2) => run_arrayAt (P := Try.prog) W 124 5 8 A2 n2 c2 Try.underlying124 h
  have hcut := fun W => run_cut_lh (P := Try.prog) W 30 5 i0 Try.underlying30 hi0 1 hz1 (some ⟨g, o, none⟩) 4096 c 8 4088 8 4088 rfl rfl (by omega) (by omega)
  have e3 : cutA (some ⟨g, o, none⟩) c 8 1 = some ⟨g, o + 8, none⟩ := by unfold cutA; rw [if_neg (by omega)]; rfl
  have hpay := ha.cut (k := 8) (j := 4088) (c := c) (by omega) (by omega) hc
  rw [e3] at hcut hpay
  have H8 := Lib.hid h8
  have HP : Hid (openP l = if sealed l then (l.drop 8).take 4080 else []) := rfl
  have HE : Hid (openE l = if sealed l then 0 else 140) := rfl
  have HSL := Lib.hid hsel
  clear hcell hl e1 e2 e3 hX hY hsel h8
  generalize sealed l = sl at *
  go_enter Try.func59, Try.ntmps59
  go_upto_region 3 with fail
  go_cut [5, 6] (fun s5 s6 wx => ∃ g5 g6 : Nat, s5 = .pointer (some ⟨g5, 0, none⟩) ∧ s6 = .pointer (some ⟨g6, 0, none⟩) ∧ BR wx (some ⟨g5, 0, none⟩) 8 [x0, x1, x2, x3, x4, x5, x6, x7] ∧ BR wx (some ⟨g6, 0, none⟩) 8 [y0, y1, y2, y3, y4, y5, y6, y7] ∧ Below w.heap.size w wx)
  case first =>
    go_region
    all_goals (go_wp2_with fail; go_meet)
    · exact ⟨_, _, rfl, rfl, BR.drew (BR.alloc (BR.litAt w _ [x0, x1, x2, x3, x4, x5, x6, x7] _ _ _ rfl rfl rfl) _), BR.drew (BR.litAt _ _ [y0, y1, y2, y3, y4, y5, y6, y7] _ _ _ (by simp) rfl rfl), Below.drew (gr_alloc (gr_alloc (gr_refl _) _) _)⟩
    · exact ⟨_, _, rfl, rfl, BR.drew (BR.litAt _ _ [x0, x1, x2, x3, x4, x5, x6, x7] _ _ _ (by simp) rfl rfl), BR.drew (BR.alloc (BR.litAt w _ [y0, y1, y2, y3, y4, y5, y6, y7] _ _ _ rfl rfl rfl) _), Below.drew (gr_alloc (gr_alloc (gr_refl _) _) _)⟩
  case rest =>
    obtain ⟨g5, g6, rfl, rfl, r5, r6, hbx⟩ := hcut
    clear k0 k1 k2 k3 k4 k5 k6 k7 m0 m1 m2 m3 m4 m5 m6 m7
    obtain ⟨k0, k1, k2, k3, k4, k5, k6, k7⟩ := BR.cells8 r5
    obtain ⟨m0, m1, m2, m3, m4, m5, m6, m7⟩ := BR.cells8 r6
    rw [Nat.zero_add] at k1 k2 k3 k4 k5 k6 k7 m1 m2 m3 m4 m5 m6 m7
    cases sl with
    | false =>
      go_wp2_with fail
      go_ret3
      refine ⟨_, by rw [H8.out, HE.out]; rfl, ?_, hbx⟩
      rw [HP.out]
      exact OB.nil _ _
    | true =>
      go_wp2_with fail
      refine (U64_any (some ⟨g5, 0, none⟩) 8 8 [x0, x1, x2, x3, x4, x5, x6, x7] _ 0 r5 (by omega) (by omega) (by omega)).mono ?_
      have e5 : numAt [x0, x1, x2, x3, x4, x5, x6, x7] 0 8 = some (leN [x0, x1, x2, x3, x4, x5, x6, x7]) := by
        unfold numAt
        rw [if_neg (by simp)]
        rfl
      rw [e5]
      clear e5
      simp only [Option.getD_some, Option.isSome_some]
      generalize hq : leN [x0, x1, x2, x3, x4, x5, x6, x7] = q
      have HQ := Lib.hid hq
      clear hq
      rintro e w' ⟨rfl, rfl⟩
      go_wp2_with fail
      refine (Clone_any _ 4080 _ _ _ (hpay.below hbx) (by omega)).mono ?_
      rintro e w2 ⟨r, rfl, ho, hb2⟩
      go_wp2
      go_ret3
      refine ⟨r, by rw [H8.out, HE.out, HQ.out]; rfl, ?_, gr_trans hbx hb2⟩
      rw [HP.out]
      exact OB.lower ho hbx.size

end Go.Proofs.Ytlopcmmbkfjidaa

/-! StC -/
namespace Go.Proofs.Ytlopcmmbkfjidaa
open Go.RowKit


set_option maxHeartbeats 400000 in
theorem Of_any (a b : Int) (w : World) :
    Calls Try.prog 65 #[.int .i64 a, .int .i64 b] w fun e w' => e = .returned (.int .u64 (a % 4294967296 * 4294967296 + b % 4294967296)) ∧ w = w' := by
  go_enter Try.func65, Try.ntmps65
  go_wp2
  go_ret
  refine ⟨ret_i ?_, rfl⟩
  have h1 := Int.emod_nonneg a (show (4294967296 : Int) ≠ 0 by decide)
  have h2 := Int.emod_lt_of_pos a (show (0 : Int) < 4294967296 by decide)
  have h3 := Int.emod_nonneg b (show (4294967296 : Int) ≠ 0 by decide)
  have h4 := Int.emod_lt_of_pos b (show (0 : Int) < 4294967296 by decide)
  generalize a % 4294967296 = x at *
  generalize b % 4294967296 = y at *
  obtain ⟨x, rfl⟩ := Int.eq_ofNat_of_zero_le h1
  obtain ⟨y, rfl⟩ := Int.eq_ofNat_of_zero_le h3
  have e : ((x : Int) * 4294967296) = ((x * 4294967296 : Nat) : Int) := by simp
  rw [e, u64_or_nat _ _ (by omega) (by omega), nat_join 32 _ _ (by omega) (by omega)]
  simp

end Go.Proofs.Ytlopcmmbkfjidaa

/-! JnA -/
namespace Go.Proofs.Ytlopcmmbkfjidaa
open Go Go.RowKit

/-- A journal, plain: first, blocks, epoch; the next block's place and count; used, last, synced; what waits; broken. -/
structure JnS where
  fi : Nat
  bl : Nat
  ep : Nat
  pl : Nat
  ct : Nat
  us : Nat
  la : Nat
  sy : Nat
  waits : List UInt8
  br : Bool
def JB (w : World) (gj gd : Nat) (J : JnS) (wv : Value) : Prop :=
  w.heap[gj]? = some (.cells #[.pointer (some ⟨gd, 0, none⟩), .int .i64 (J.fi : Int), .int .i64 (J.bl : Int), .int .i64 (J.ep : Int), .pointer (some ⟨gj, 0, none⟩), .int .i64 (J.pl : Int), .int .i64 (J.ct : Int), .int .i64 (J.us : Int), wv, .int .i64 (J.la : Int), .int .i64 (J.sy : Int), .bool J.br] 32 (0, 0))
section
variable {w w' : World} {gj gd : Nat} {J : JnS} {wv : Value}
theorem JB.lt (h : JB w gj gd J wv) : gj < w.heap.size := (Array.getElem?_eq_some_iff.1 h).1
theorem JB.off {S : Nat → Prop} (h : JB w gj gd J wv) (ho : Off S w w') (hs : ¬ S gj) : JB w' gj gd J wv := (ho.block gj h.lt hs).trans h
theorem JB.below (h : JB w gj gd J wv) (hb : Below w.heap.size w w') : JB w' gj gd J wv := (hb.block gj h.lt).trans h
theorem JB.frozen (h : JB w gj gd J wv) (j : Nat) : w.frozen? ⟨gj, j, none⟩ = false := by unfold JB at h; simp [World.frozen?, h]
theorem JB.c0 (h : JB w gj gd J wv) : w.cell? ⟨gj, 0, none⟩ = some (.pointer (some ⟨gd, 0, none⟩)) := by rw [cell_of_row w gj 0 _ _ _ h]; rfl
theorem JB.c1 (h : JB w gj gd J wv) : w.cell? ⟨gj, 1, none⟩ = some (.int .i64 (J.fi : Int)) := by rw [cell_of_row w gj 1 _ _ _ h]; rfl
theorem JB.c2 (h : JB w gj gd J wv) : w.cell? ⟨gj, 2, none⟩ = some (.int .i64 (J.bl : Int)) := by rw [cell_of_row w gj 2 _ _ _ h]; rfl
theorem JB.c3 (h : JB w gj gd J wv) : w.cell? ⟨gj, 3, none⟩ = some (.int .i64 (J.ep : Int)) := by rw [cell_of_row w gj 3 _ _ _ h]; rfl
theorem JB.c4 (h : JB w gj gd J wv) : w.cell? ⟨gj, 4, none⟩ = some (.pointer (some ⟨gj, 0, none⟩)) := by rw [cell_of_row w gj 4 _ _ _ h]; rfl
theorem JB.c5 (h : JB w gj gd J wv) : w.cell? ⟨gj, 5, none⟩ = some (.int .i64 (J.pl : Int)) := by rw [cell_of_row w gj 5 _ _ _ h]; rfl
theorem JB.c6 (h : JB w gj gd J wv) : w.cell? ⟨gj, 6, none⟩ = some (.int .i64 (J.ct : Int)) := by rw [cell_of_row w gj 6 _ _ _ h]; rfl
theorem JB.c7 (h : JB w gj gd J wv) : w.cell? ⟨gj, 7, none⟩ = some (.int .i64 (J.us : Int)) := by rw [cell_of_row w gj 7 _ _ _ h]; rfl
theorem JB.c8 (h : JB w gj gd J wv) : w.cell? ⟨gj, 8, none⟩ = some (wv) := by rw [cell_of_row w gj 8 _ _ _ h]; rfl
theorem JB.c9 (h : JB w gj gd J wv) : w.cell? ⟨gj, 9, none⟩ = some (.int .i64 (J.la : Int)) := by rw [cell_of_row w gj 9 _ _ _ h]; rfl
theorem JB.c10 (h : JB w gj gd J wv) : w.cell? ⟨gj, 10, none⟩ = some (.int .i64 (J.sy : Int)) := by rw [cell_of_row w gj 10 _ _ _ h]; rfl
theorem JB.c11 (h : JB w gj gd J wv) : w.cell? ⟨gj, 11, none⟩ = some (.bool J.br) := by rw [cell_of_row w gj 11 _ _ _ h]; rfl
theorem JB.s5 (h : JB w gj gd J wv) (n : Nat) : JB (w.setCell ⟨gj, 5, none⟩ (.int .i64 (n : Int))) gj gd { J with pl := n } wv := by unfold JB at h ⊢; simp only [World.setCell, Array.getElem?_modify, if_pos, h]; rfl
theorem JB.s6 (h : JB w gj gd J wv) (n : Nat) : JB (w.setCell ⟨gj, 6, none⟩ (.int .i64 (n : Int))) gj gd { J with ct := n } wv := by unfold JB at h ⊢; simp only [World.setCell, Array.getElem?_modify, if_pos, h]; rfl
theorem JB.s7 (h : JB w gj gd J wv) (n : Nat) : JB (w.setCell ⟨gj, 7, none⟩ (.int .i64 (n : Int))) gj gd { J with us := n } wv := by unfold JB at h ⊢; simp only [World.setCell, Array.getElem?_modify, if_pos, h]; rfl
theorem JB.s9 (h : JB w gj gd J wv) (n : Nat) : JB (w.setCell ⟨gj, 9, none⟩ (.int .i64 (n : Int))) gj gd { J with la := n } wv := by unfold JB at h ⊢; simp only [World.setCell, Array.getElem?_modify, if_pos, h]; rfl
theorem JB.s10 (h : JB w gj gd J wv) (n : Nat) : JB (w.setCell ⟨gj, 10, none⟩ (.int .i64 (n : Int))) gj gd { J with sy := n } wv := by unfold JB at h ⊢; simp only [World.setCell, Array.getElem?_modify, if_pos, h]; rfl
theorem JB.s8 (h : JB w gj gd J wv) (v : Value) (l : List UInt8) : JB (w.setCell ⟨gj, 8, none⟩ v) gj gd { J with waits := l } v := by unfold JB at h ⊢; simp only [World.setCell, Array.getElem?_modify, if_pos, h]; rfl
theorem JB.s11 (h : JB w gj gd J wv) (b : Bool) : JB (w.setCell ⟨gj, 11, none⟩ (.bool b)) gj gd { J with br := b } wv := by unfold JB at h ⊢; simp only [World.setCell, Array.getElem?_modify, if_pos, h]; rfl
end

/-- How many blocks a flush of n bytes takes. -/
def needL (n : Nat) : Nat := (n + 4075) / 4076
set_option maxRecDepth 100000 in
theorem needs_any (n : Nat) (w : World) (hn : n ≤ 4611686018427387904) :
    Calls Try.prog 30 #[.int .i64 (n : Int)] w fun e w' => e = .returned (.int .i64 ((needL n : Nat) : Int)) ∧ w = w' := by
  go_enter Try.func30, Try.ntmps30
  go_wp2_with fail
  go_ret
  refine ⟨ret_i ?_, rfl⟩
  unfold needL
  try rw [Int.tdiv_eq_ediv_of_nonneg (by omega)]
  omega

/-- Where a ring may be. -/
def mayB (n fi bl ep pl ct : Int) : Bool := decide (1 ≤ bl) && (decide (bl ≤ 1024) && (decide (0 ≤ fi) && (decide (fi ≤ n - bl) && (decide (1 ≤ ep) && (decide (ep ≤ 4294967295) && (decide (0 ≤ pl) && (decide (pl < bl) && (decide (1 ≤ ct) && decide (ct ≤ 4294967295)))))))))
def RC (w : World) (gr o : Nat) (dp : Value) (fi bl ep : Int) : Prop := w.cell? ⟨gr, o, none⟩ = some dp ∧ w.cell? ⟨gr, o + 1, none⟩ = some (.int .i64 fi) ∧ w.cell? ⟨gr, o + 2, none⟩ = some (.int .i64 bl) ∧ w.cell? ⟨gr, o + 3, none⟩ = some (.int .i64 ep)
theorem JB.rc {w : World} {gj gd : Nat} {J : JnS} {wv : Value} (h : JB w gj gd J wv) : RC w gj 0 (.pointer (some ⟨gd, 0, none⟩)) J.fi J.bl J.ep := ⟨h.c0, h.c1, h.c2, h.c3⟩

set_option maxRecDepth 100000 in
set_option maxHeartbeats 4000000 in
theorem mayBe_yes (w : World) (n : Nat) (gr : Nat) (dp : Value) (fi bl ep pl ct : Int) (h : RC w gr 0 dp fi bl ep) (hn : n ≤ 4096) (hB : ∀ W, Below w.heap.size w W → Calls Try.prog 35 #[dp] W fun e w' => e = .returned (.int .i64 (n : Int)) ∧ W = w') (hm : mayB n fi bl ep pl ct = true) :
    Calls Try.prog 36 #[.pointer (some ⟨gr, 0, none⟩), .int .i64 pl, .int .i64 ct] w fun e w' => e = .returned (.bool true) ∧ Below w.heap.size w w' := by
  obtain ⟨c0, c1, c2, c3⟩ := h
  simp only [Nat.zero_add] at c1 c2 c3
  have HB := Lib.hid hB
  unfold mayB at hm
  simp only [Bool.and_eq_true] at hm
  obtain ⟨t0, t1, t2, t3, t4, t5, t6, t7, t8, t9⟩ := hm
  have k0 := of_decide_eq_true t0
  have k1 := of_decide_eq_true t1
  have n0 : (0 : Int) ≤ (n : Int) := Int.natCast_nonneg _
  have hwr : IntKind.i64.wrap ((n : Int) - bl) = (n : Int) - bl := by rw [IntKind.wrap_i64]; omega
  clear hB
  go_enter Try.func36, Try.ntmps36
  go_wp2_with (go_quiet ((go_at_call 35; exact Calls.quiet_of_same ((HB.out _ (gr_drewN (gr_refl _) _)).mono (fun _ _ h => ⟨h.1, h.2.symm⟩)))))
  go_ret
  exact ⟨rfl, gr_drewN (gr_refl _) nq⟩

theorem info_jn : (Try.prog.info? 32).isSome = true := by kernel_rfl
theorem eql_selfJ (W : World) (a : Addr) : (binOp .eql 26 (.pointer (some a)) (.pointer (some a))).run Try.prog W = .ok (.bool true) W := by
  obtain ⟨j, hj⟩ := Option.isSome_iff_exists.1 info_jn
  exact run_eql_ptr_same W a Try.underlying26 hj
theorem eql_nilJ (W : World) (a : Addr) : (binOp .eql 26 (.pointer none) (.pointer (some a))).run Try.prog W = .ok (.bool false) W := by
  have h : ∀ d : Nat, (Op.equalIn (d + 1) 26 (.pointer none) (.pointer (some a))).run Try.prog W = .ok false W := fun d => by
    simp [Op.equalIn, run_underlying Try.underlying26]
  simp only [binOp]
  simp [Op.equal, Op.maxDepth, h 9999]
set_option maxRecDepth 100000 in
/-- A journal that New has made. -/
theorem jmade_yes (w : World) (gj : Nat) (h : w.cell? ⟨gj, 4, none⟩ = some (.pointer (some ⟨gj, 0, none⟩))) :
    Calls Try.prog 31 #[.pointer (some ⟨gj, 0, none⟩)] w fun e w' => e = .returned (.bool true) ∧ w = w' := by
  have hq := fun W => eql_selfJ W ⟨gj, 0, none⟩
  go_enter Try.func31, Try.ntmps31
  go_wp2_with fail
  go_ret
  exact ⟨rfl, rfl⟩
/-- One that New has not made. -/
def UnJ (p : Option Addr) (w : World) : Prop := p = none ∨ ∃ g, p = some ⟨g, 0, none⟩ ∧ w.cell? ⟨g, 4, none⟩ = some (.pointer none)
theorem UnJ.below {p : Option Addr} {w w' : World} (h : UnJ p w) (hb : Below w.heap.size w w') : UnJ p w' := by
  rcases h with h | ⟨g, e, h⟩
  · exact .inl h
  · exact .inr ⟨g, e, keep_of_below hb h⟩
set_option maxRecDepth 100000 in
theorem jmade_un {p : Option Addr} {w : World} (h : UnJ p w) :
    Calls Try.prog 31 #[.pointer p] w fun e w' => e = .returned (.bool false) ∧ w = w' := by
  rcases h with rfl | ⟨g, rfl, h⟩
  · go_enter Try.func31, Try.ntmps31
    go_wp2_with fail
    go_ret
    exact ⟨rfl, rfl⟩
  · have hq := fun W => eql_nilJ W ⟨g, 0, none⟩
    go_enter Try.func31, Try.ntmps31
    go_wp2_with fail
    go_ret
    exact ⟨rfl, rfl⟩
def standE (J : JnS) : Int := if J.br then 4 else 0
set_option maxRecDepth 100000 in
theorem stands_any {w : World} {gj gd : Nat} {J : JnS} {wv : Value} (h : JB w gj gd J wv) :
    Calls Try.prog 28 #[.pointer (some ⟨gj, 0, none⟩)] w fun e w' => e = .returned (.int .i64 (standE J)) ∧ w = w' := by
  have HM := Lib.hid (jmade_yes w gj h.c4)
  have c := h.c11
  have HE : Hid (standE J = if J.br then 4 else 0) := Lib.hid rfl
  generalize standE J = r at *
  clear h
  go_enter Try.func28, Try.ntmps28
  go_wp2_with fail
  refine HM.out.mono ?_
  rintro e w2 ⟨rfl, rfl⟩
  cases hb : J.br
  all_goals
    rw [hb] at c HE
    go_wp2_with fail
    go_ret
    exact ⟨by rw [HE.out]; rfl, rfl⟩
set_option maxRecDepth 100000 in
theorem stands_un {p : Option Addr} {w : World} (h : UnJ p w) :
    Calls Try.prog 28 #[.pointer p] w fun e w' => e = .returned (.int .i64 1) ∧ w = w' := by
  have HM := Lib.hid (jmade_un h)
  clear h
  go_enter Try.func28, Try.ntmps28
  go_wp2_with fail
  refine HM.out.mono ?_
  rintro e w2 ⟨rfl, rfl⟩
  go_wp2_with fail
  go_ret
  exact ⟨rfl, rfl⟩
set_option maxRecDepth 100000 in
theorem Last_any {w : World} {gj gd : Nat} {J : JnS} {wv : Value} (h : JB w gj gd J wv) :
    Calls Try.prog 11 #[.pointer (some ⟨gj, 0, none⟩)] w fun e w' => e = .returned (.int .i64 (J.la : Int)) ∧ Below w.heap.size w w' := by
  have HM := Lib.hid (jmade_yes w gj h.c4)
  have c0 := h.c9
  clear h
  go_enter Try.func11, Try.ntmps11
  go_wp2_with fail
  refine HM.out.mono ?_
  rintro e w2 ⟨rfl, rfl⟩
  go_wp2_with fail
  go_ret
  exact ⟨rfl, gr_refl _⟩
set_option maxRecDepth 100000 in
theorem Synced_any {w : World} {gj gd : Nat} {J : JnS} {wv : Value} (h : JB w gj gd J wv) :
    Calls Try.prog 12 #[.pointer (some ⟨gj, 0, none⟩)] w fun e w' => e = .returned (.int .i64 (J.sy : Int)) ∧ Below w.heap.size w w' := by
  have HM := Lib.hid (jmade_yes w gj h.c4)
  have c0 := h.c10
  clear h
  go_enter Try.func12, Try.ntmps12
  go_wp2_with fail
  refine HM.out.mono ?_
  rintro e w2 ⟨rfl, rfl⟩
  go_wp2_with fail
  go_ret
  exact ⟨rfl, gr_refl _⟩
set_option maxRecDepth 100000 in
theorem Room_any {w : World} {gj gd : Nat} {J : JnS} {wv : Value} (h : JB w gj gd J wv) (hu : J.us ≤ J.bl) (hl : J.bl ≤ 1024) :
    Calls Try.prog 13 #[.pointer (some ⟨gj, 0, none⟩)] w fun e w' => e = .returned (.int .i64 ((J.bl - J.us : Nat) : Int)) ∧ Below w.heap.size w w' := by
  have HM := Lib.hid (jmade_yes w gj h.c4)
  have c0 := h.c2
  have c1 := h.c7
  clear h
  go_enter Try.func13, Try.ntmps13
  go_wp2_with fail
  refine HM.out.mono ?_
  rintro e w2 ⟨rfl, rfl⟩
  go_wp2_with (go_quiet (fail))
  go_ret
  exact ⟨ret_i (by omega), gr_drewN (gr_refl _) nq⟩
set_option maxRecDepth 100000 in
theorem At_any {w : World} {gj gd : Nat} {J : JnS} {wv : Value} (h : JB w gj gd J wv) :
    Calls Try.prog 8 #[.pointer (some ⟨gj, 0, none⟩)] w fun e w' => e = .returned (.tuple #[.int .i64 (J.pl : Int), .int .i64 (J.ct : Int)]) ∧ Below w.heap.size w w' := by
  have HM := Lib.hid (jmade_yes w gj h.c4)
  have c0 := h.c5
  have c1 := h.c6
  clear h
  go_enter Try.func8, Try.ntmps8
  go_wp2_with fail
  refine HM.out.mono ?_
  rintro e w2 ⟨rfl, rfl⟩
  go_wp2_with (go_quiet (fail))
  go_ret2
  exact ⟨rfl, gr_drewN (gr_refl _) nq⟩
set_option maxRecDepth 100000 in
theorem Broken_any {w : World} {gj gd : Nat} {J : JnS} {wv : Value} (h : JB w gj gd J wv) :
    Calls Try.prog 14 #[.pointer (some ⟨gj, 0, none⟩)] w fun e w' => e = .returned (.bool J.br) ∧ Below w.heap.size w w' := by
  have HM := Lib.hid (jmade_yes w gj h.c4)
  have c0 := h.c11
  clear h
  go_enter Try.func14, Try.ntmps14
  go_wp2_with fail
  refine HM.out.mono ?_
  rintro e w2 ⟨rfl, rfl⟩
  go_wp2_with fail
  go_ret
  exact ⟨rfl, gr_refl _⟩
set_option maxRecDepth 100000 in
theorem Last_un {p : Option Addr} {w : World} (h : UnJ p w) :
    Calls Try.prog 11 #[.pointer p] w fun e w' => e = .returned (.int .i64 0) ∧ w = w' := by
  have HM := Lib.hid (jmade_un h)
  clear h
  go_enter Try.func11, Try.ntmps11
  go_wp2_with fail
  refine HM.out.mono ?_
  rintro e w2 ⟨rfl, rfl⟩
  go_wp2_with fail
  go_ret
  exact ⟨rfl, rfl⟩
set_option maxRecDepth 100000 in
theorem Synced_un {p : Option Addr} {w : World} (h : UnJ p w) :
    Calls Try.prog 12 #[.pointer p] w fun e w' => e = .returned (.int .i64 0) ∧ w = w' := by
  have HM := Lib.hid (jmade_un h)
  clear h
  go_enter Try.func12, Try.ntmps12
  go_wp2_with fail
  refine HM.out.mono ?_
  rintro e w2 ⟨rfl, rfl⟩
  go_wp2_with fail
  go_ret
  exact ⟨rfl, rfl⟩
set_option maxRecDepth 100000 in
theorem Room_un {p : Option Addr} {w : World} (h : UnJ p w) :
    Calls Try.prog 13 #[.pointer p] w fun e w' => e = .returned (.int .i64 0) ∧ w = w' := by
  have HM := Lib.hid (jmade_un h)
  clear h
  go_enter Try.func13, Try.ntmps13
  go_wp2_with fail
  refine HM.out.mono ?_
  rintro e w2 ⟨rfl, rfl⟩
  go_wp2_with fail
  go_ret
  exact ⟨rfl, rfl⟩
set_option maxRecDepth 100000 in
theorem At_un {p : Option Addr} {w : World} (h : UnJ p w) :
    Calls Try.prog 8 #[.pointer p] w fun e w' => e = .returned (.tuple #[.int .i64 0, .int .i64 0]) ∧ w = w' := by
  have HM := Lib.hid (jmade_un h)
  clear h
  go_enter Try.func8, Try.ntmps8
  go_wp2_with fail
  refine HM.out.mono ?_
  rintro e w2 ⟨rfl, rfl⟩
  go_wp2_with fail
  go_ret2
  exact ⟨rfl, rfl⟩
set_option maxRecDepth 100000 in
theorem Broken_un {p : Option Addr} {w : World} (h : UnJ p w) :
    Calls Try.prog 14 #[.pointer p] w fun e w' => e = .returned (.bool false) ∧ w = w' := by
  have HM := Lib.hid (jmade_un h)
  clear h
  go_enter Try.func14, Try.ntmps14
  go_wp2_with fail
  refine HM.out.mono ?_
  rintro e w2 ⟨rfl, rfl⟩
  go_wp2_with fail
  go_ret
  exact ⟨rfl, rfl⟩

end Go.Proofs.Ytlopcmmbkfjidaa

/-! RgA -/
namespace Go.Proofs.Ytlopcmmbkfjidaa
open Go.RowKit

def chOK (c : Ch) : Bool := if c.1 < 0 ∨ 4096 ≤ c.1 then false else if 0 < c.2.1.length then decide (c.2.1.length = 4080 ∧ c.2.2.length = 0) else rpFrom 0 c.2.2
/-- Where the piece ahead of piece k ends. -/
def eR (ps : List Pc) (k : Nat) : Int := if k = 0 then 0 else (ps.getD (k - 1) (0, [])).1 + (ps.getD (k - 1) (0, [])).2.length

theorem rcFrom_chOK {last : Int} (hl : -1 ≤ last) (c : Ch) (cs : List Ch) : rcFrom last (c :: cs) = if chOK c = true ∧ last < c.1 then rcFrom c.1 cs else false := by
  unfold chOK
  conv => lhs; unfold rcFrom
  by_cases h1 : c.1 ≤ last
  · rw [if_pos (.inl h1), if_neg (by omega)]
  by_cases h2 : 4096 ≤ c.1
  · rw [if_pos (.inr h2), if_neg]
    rw [if_pos (.inr h2)]
    simp
  have e1 : ¬ (c.1 ≤ last ∨ 4096 ≤ c.1) := by omega
  have e2 : ¬ (c.1 < 0 ∨ 4096 ≤ c.1) := by omega
  rw [if_neg e1, if_neg e2]
  by_cases h3 : 0 < c.2.1.length
  · rw [if_pos h3, if_pos h3]
    by_cases h4 : c.2.1.length ≠ 4080 ∨ 0 < c.2.2.length
    · rw [if_pos h4, if_neg]
      intro h
      have := of_decide_eq_true h.1
      omega
    · rw [if_neg h4, if_pos ⟨decide_eq_true (by omega), by omega⟩]
  · rw [if_neg h3, if_neg h3]
    by_cases h4 : rpFrom 0 c.2.2 = true
    · rw [if_pos h4, if_pos ⟨h4, by omega⟩]
    · rw [if_neg h4, if_neg (fun h => h4 h.1)]
/-- The page ahead of change k. -/
def lR (cs : List Ch) (k : Nat) : Int := if k = 0 then -1 else (cs.getD (k - 1) ch0).1

end Go.Proofs.Ytlopcmmbkfjidaa

/-! RgB -/
namespace Go.Proofs.Ytlopcmmbkfjidaa
open Go.RowKit

/-- The bytes written so far. -/
structure ES (w0 w : World) (A : Option Addr) (c : Nat) (L : List UInt8) : Prop where
  ob : OB w w0.heap.size (.slice A L.length c) L
  bel : Below w0.heap.size w0 w
section
variable {w0 w w' : World} {A : Option Addr} {c : Nat} {L : List UInt8}
theorem ES.nil (w0 : World) : ES w0 w0 none 0 [] := ⟨OB.nil _ _, gr_refl _⟩
theorem ES.below (h : ES w0 w A c L) (hb : Below w.heap.size w w') : ES w0 w' A c L := ⟨h.ob.below hb, gr_trans h.bel hb⟩
theorem ES.br (h : ES w0 w A c L) : BR w A L.length L := by
  obtain ⟨A', c', e, hr, _, _⟩ := h.ob.form
  injection e with e _ _
  subst e
  exact hr
end
theorem leB_one (k : Nat) (_hk : k < 256) : leB k 1 = [UInt8.ofNat k] := by
  simp [leB]

end Go.Proofs.Ytlopcmmbkfjidaa

/-! Rgn -/
namespace Go.Proofs.Ytlopcmmbkfjidaa
open Go Go.RowKit

section
variable {P : Program} {ops : Array Oper} {Q : Exit → Act → World → Prop} {Rs : List MP} {w0 : World} {AA : (Nat → Value) → Act}

def unl (ops : Array Oper) (listed : Array Bool) : Nat := ((List.range ops.size).filter (fun j => !listed.getD j false)).length

theorem unl_step {listed : Array Bool} {i : Nat} (hs : listed.size = ops.size) (hil : i < ops.size) (h1 : listed.getD i true = false) : unl ops (listed.setIfInBounds i true) + 1 = unl ops listed := by
  unfold unl
  have hli : listed.getD i false = false := by
    rw [Array.getD_eq_getD_getElem?, Array.getElem?_eq_getElem (show i < listed.size by omega)] at h1 ⊢
    exact h1
  have e1 : (List.range ops.size).filter (fun j => !(listed.setIfInBounds i true).getD j false) = ((List.range ops.size).filter (fun j => !listed.getD j false)).erase i := by
    rw [List.Nodup.erase_eq_filter (List.Nodup.sublist List.filter_sublist List.nodup_range), List.filter_filter]
    refine List.filter_congr (fun j hj => ?_)
    by_cases e : j = i
    · subst e
      have : (listed.setIfInBounds j true).getD j false = true := by
        rw [Array.getD_eq_getD_getElem?, Array.getElem?_setIfInBounds_self_of_lt (by omega)]
        rfl
      rw [this]
      simp
    · rw [getD_set_ne false (Ne.symm e)]
      simp [e]
  have hm : i ∈ (List.range ops.size).filter (fun j => !listed.getD j false) := List.mem_filter.2 ⟨List.mem_range.2 hil, by rw [hli]; rfl⟩
  rw [e1, List.length_erase_of_mem hm]
  have := List.length_pos_of_mem hm
  omega

/-- Of two boards that say the same nothing parts. -/
theorem board_ext {l m : Array Bool} (hs : l.size = m.size) (h : ∀ k, k < l.size → l.getD k false = m.getD k false) : l = m := by
  apply Array.ext hs
  intro k h1 h2
  have := h k h1
  rw [Array.getD_eq_getD_getElem?, Array.getD_eq_getD_getElem?, Array.getElem?_eq_getElem h1, Array.getElem?_eq_getElem h2] at this
  exact this

theorem wpAny_tail (hb : edgesBack .any ops = true) {a : Act} (hAA : ∀ f, putA ops f a ops.size = AA f) (hd : dstsApart ops = true) (hk : looksBack .any ops = true) (hsel : Region.noSelect ops = true)
    (T : Nat → Bool) (lm : Array Bool) (hlm : lm.size = ops.size) (hlT : ∀ k, k < ops.size → lm.getD k false = !T k) (l0 : Array Bool)
    (hTn : ∀ i, i < ops.size → T i = true → ∀ j, j < ops.size → T j = false → (needsOf .any ops i).contains j = true ∨ l0.getD j false = true)
    (hst : ∀ i, i < ops.size → T i = false → l0.getD i false = false → ∀ o, ops[i]? = some o → StepOK P ops Rs w0 AA i o)
    (hnlt : ∀ i j, i < ops.size → (needsOf .any ops i).contains j = true → j < ops.size)
    (hend : ∀ f w, Below w0.heap.size w0 w → (∀ j, j < ops.size → T j = false → (Rs.getD j MP.any).p (f j) w) → wpAny P .any ops Q (unl ops lm) lm (putL ops lm f a ops.size) w) :
    ∀ (m : Nat) (listed : Array Bool) (f : Nat → Value) (w : World), listed.size = ops.size → closedL .any ops listed → (∀ j, j < ops.size → T j = true → listed.getD j false = false) → (∀ j, l0.getD j false = true → listed.getD j false = true) → Below w0.heap.size w0 w → (∀ j, j < ops.size → listed.getD j false = true → (Rs.getD j MP.any).p (f j) w) → unl ops listed = m + unl ops lm →
      wpAny P .any ops Q (unl ops listed) listed (putL ops listed f a ops.size) w := by
  intro m
  induction m with
  | zero =>
    intro listed f w hs hc hT h0 hB hR hm
    -- all but the tail are listed
    have hall : listed = lm := by
      refine board_ext (hs.trans hlm.symm) (fun k hkl => ?_)
      rw [hlT k (by omega)]
      cases hTk : T k with
      | true => rw [hT k (by omega) hTk]; rfl
      | false =>
        -- else there were one more
        cases hlk : listed.getD k false with
        | true => rfl
        | false =>
          exfalso
          have hlt : unl ops lm < unl ops listed := by
            unfold unl
            have e1 : (List.range ops.size).filter (fun j => !lm.getD j false) = ((List.range ops.size).filter (fun j => !listed.getD j false)).filter (fun j => !lm.getD j false) := by
              rw [List.filter_filter]
              refine List.filter_congr (fun j hj => ?_)
              have hjl := List.mem_range.1 hj
              rw [hlT j hjl]
              cases hTj : T j with
              | true => rw [hT j hjl hTj]; rfl
              | false => simp
            rw [e1]
            refine List.length_filter_lt_length_iff_exists.2 ⟨k, List.mem_filter.2 ⟨List.mem_range.2 (by omega), by rw [hlk]; rfl⟩, ?_⟩
            rw [hlT k (by omega), hTk]
            simp
          omega
    subst hall
    exact hend f w hB (fun j hj hTj => hR j hj (by rw [hlT j hj, hTj]; rfl))
  | succ m ih =>
    intro listed f w hs hc hT h0 hB hR hm
    have hpos : unl ops listed = (m + unl ops lm) + 1 := by omega
    rw [hpos]
    -- one that is no tail is not listed
    have hex : ∃ k, k < ops.size ∧ T k = false ∧ listed.getD k false = false := by
      apply Classical.byContradiction
      intro hno
      have hall : listed = lm := by
        refine board_ext (hs.trans hlm.symm) (fun k hkl => ?_)
        rw [hlT k (by omega)]
        cases hTk : T k with
        | true => rw [hT k (by omega) hTk]; rfl
        | false =>
          cases hlk : listed.getD k false with
          | true => rfl
          | false => exact absurd ⟨k, by omega, hTk, hlk⟩ hno
      rw [hall] at hm
      omega
    obtain ⟨k, hkl, hTk, hlk⟩ := hex
    refine ⟨fun hr => ?_, fun i hi => ?_⟩
    · have := all_listed hb hs hr ops.size (Nat.le_refl _) k hkl
      rw [hlk] at this
      cases this
    · obtain ⟨h1, o, ho, hall⟩ := mem_ready.1 hi
      have hil : i < ops.size := (Array.getElem?_eq_some_iff.1 ho).1
      have hneed : ∀ j, (needsOf .any ops i).contains j = true → listed.getD j false = true := by
        intro j hj
        refine needs_listed hc hs ops.size (depsOf .any ops i) (fun k hk2 => ?_) j (by simpa [needsOf] using hj)
        unfold depsOf at hk2
        rw [ho] at hk2
        simp only [List.mem_map, List.mem_filter, Array.mem_toList_iff] at hk2
        obtain ⟨e, ⟨he, hbd⟩, rfl⟩ := hk2
        exact hall e he hbd
      have hTi : T i = false := by
        cases hTi : T i with
        | false => rfl
        | true =>
          rcases hTn i hil hTi k hkl hTk with h | h
          · rw [hneed k h] at hlk; cases hlk
          · rw [h0 k h] at hlk; cases hlk
      have hli0 : l0.getD i false = false := by
        cases hl : l0.getD i false with
        | false => rfl
        | true =>
          have := h0 i hl
          rw [Array.getD_eq_getD_getElem?, Array.getElem?_eq_getElem (show i < listed.size by omega)] at h1 this
          simp only [Option.getD_some] at h1 this
          rw [h1] at this
          cases this
      refine wpOp_mono (fun a' w' => ?_) (mono_step ho hAA hd hk hsel hs h1 hneed hB hR (hst i hil hTi hli0 o ho) (fun j => hnlt i j hil))
      rintro ⟨f', rfl, hB', hR'⟩
      have hu := unl_step (ops := ops) hs hil h1
      have hu2 : unl ops (listed.setIfInBounds i true) = m + unl ops lm := by omega
      rw [← hu2]
      refine ih (listed.setIfInBounds i true) f' w' (by simp [hs]) (fun j x hx hj e he hbd => ?_) (fun j hj hTj => ?_) (fun j hj => getD_set_true (h0 j hj)) hB' hR' hu2
      · by_cases e0 : i = j
        · subst e0
          rw [ho] at hx
          cases hx
          exact getD_set_true (hall e he hbd)
        · rw [getD_set_ne true e0] at hj
          exact getD_set_true (hc j x hx hj e he hbd)
      · by_cases e0 : i = j
        · subst e0
          rw [hTi] at hTj
          cases hTj
        · rw [getD_set_ne false e0]
          exact hT j hj hTj

def closedB (ops : Array Oper) (listed : Array Bool) : Bool := (List.range ops.size).all fun j => !listed.getD j true || (depsOf .any ops j).all fun k => listed.getD k false
theorem closedB_spec {listed : Array Bool} (h : closedB ops listed = true) : closedL .any ops listed := by
  intro j x hx hj e he hbd
  unfold closedB at h
  rw [List.all_eq_true] at h
  have h1 := h j (List.mem_range.2 (Array.getElem?_eq_some_iff.1 hx).1)
  rw [hj] at h1
  simp only [Bool.not_true, Bool.false_or, List.all_eq_true] at h1
  exact h1 e.on (by
    unfold depsOf
    rw [hx]
    exact List.mem_map.2 ⟨e, List.mem_filter.2 ⟨by simpa using he, hbd⟩, rfl⟩)
/-- Are all that come ahead of the tail awaited by it (or done already)? -/
def tailB (ops : Array Oper) (T : Nat → Bool) (l0 : Array Bool) : Bool := (List.range ops.size).all fun i => !T i || (List.range ops.size).all fun j => T j || (needsOf .any ops i).contains j || l0.getD j false
def StepsT (P : Program) (ops : Array Oper) (Rs : List MP) (w0 : World) (AA : (Nat → Value) → Act) (l : List Nat) : Prop := Steps P ops Rs w0 AA l

/-- The law: from a board on which l0 is done, to the tail. -/
theorem wpAny_to_tail {n : Nat} {a : Act} {w : World} {l0 : Array Bool} (hb : edgesBack .any ops = true) (hd : dstsApart ops = true) (hk : looksBack .any ops = true) (hsel : Region.noSelect ops = true)
    (hnl : ((List.range ops.size).all fun i => (needsOf .any ops i).all fun j => decide (j < ops.size)) = true) (Rs : List MP) (T : Nat → Bool) (lm : Array Bool)
    (hlm : lm.size = ops.size) (hlT : ((List.range ops.size).all fun k => lm.getD k false == !T k) = true) (hs0 : l0.size = ops.size) (hc0 : closedB ops l0 = true) (hT0 : ((List.range ops.size).all fun j => !T j || !l0.getD j false) = true) (hTn : tailB ops T l0 = true) (hn : unl ops l0 = n)
    (f0 : Nat → Value) (ha : putL ops l0 f0 a ops.size = a) (hR0 : ∀ j ∈ (List.range ops.size).filter (fun j => l0.getD j false), (Rs.getD j MP.any).p (f0 j) w)
    (hAA : ∀ f, putA ops f a ops.size = AA f)
    (hst : Steps P ops Rs w AA ((List.range ops.size).filter fun j => !T j && !l0.getD j false))
    (hend : ∀ f w', Below w.heap.size w w' → (∀ j, j < ops.size → T j = false → (Rs.getD j MP.any).p (f j) w') → wpAny P .any ops Q (unl ops lm) lm (putL ops lm f a ops.size) w') : wpAny P .any ops Q n l0 a w := by
  have hmono : unl ops lm ≤ unl ops l0 := by
    unfold unl
    refine List.Sublist.length_le ?_
    have e1 : (List.range ops.size).filter (fun j => !lm.getD j false) = ((List.range ops.size).filter (fun j => !l0.getD j false)).filter (fun j => !lm.getD j false) := by
      rw [List.filter_filter]
      refine List.filter_congr (fun j hj => ?_)
      rw [List.all_eq_true] at hlT hT0
      have h1 := hlT j hj
      have h2 := hT0 j hj
      simp only [beq_iff_eq] at h1
      rw [h1]
      cases hTj : T j with
      | true => rw [hTj] at h2; simpa using h2
      | false => simp
    rw [e1]
    exact List.filter_sublist
  have h := wpAny_tail (P := P) (Q := Q) (w0 := w) hb hAA hd hk hsel T lm hlm (fun k hk => by rw [List.all_eq_true] at hlT; simpa using hlT k (List.mem_range.2 hk)) l0
    (fun i hi hTi j hj hTj => by
      unfold tailB at hTn
      rw [List.all_eq_true] at hTn
      have h1 := hTn i (List.mem_range.2 hi)
      rw [hTi] at h1
      simp only [Bool.not_true, Bool.false_or, List.all_eq_true] at h1
      have h2 := h1 j (List.mem_range.2 hj)
      rw [hTj] at h2
      simpa using h2)
    (fun i hi hTi hli o ho => hst i (List.mem_filter.2 ⟨List.mem_range.2 hi, by rw [hTi, hli]; rfl⟩) o ho)
    (fun i j hi hj => by
      rw [List.all_eq_true] at hnl
      have h1 := hnl i (List.mem_range.2 hi)
      rw [List.all_eq_true] at h1
      simpa using h1 j (by simpa using hj))
    hend (unl ops l0 - unl ops lm) l0 f0 w hs0 (closedB_spec hc0) (fun j hj hTj => by
      rw [List.all_eq_true] at hT0
      have h1 := hT0 j (List.mem_range.2 hj)
      rw [hTj] at h1
      simpa using h1) (fun _ h => h) (Below.refl _ _) (fun j hj hlj => hR0 j (List.mem_filter.2 ⟨List.mem_range.2 hj, hlj⟩)) (by omega)
  rw [hn, ha] at h
  exact h

theorem Steps.of_list {Rs : List MP} {l l' : List Nat} (e : l = l') (h : Steps P ops Rs w0 AA l') : Steps P ops Rs w0 AA l := e ▸ h
end

end Go.Proofs.Ytlopcmmbkfjidaa

/-! RgC -/
namespace Go.Proofs.Ytlopcmmbkfjidaa
open Go.RowKit

theorem OP.ow {w : World} {base : Nat} {v : Value} {ps : List Pc} (h : OP w base v ps) : OW w base v ps := by
  obtain ⟨us, h1, h2, h3, _⟩ := h
  exact ⟨us, h1, h2, h3⟩
def MP.ob (base : Nat) (l : List UInt8) : MP := ⟨fun u w => ∃ A c, u = .slice A l.length c ∧ OB w base (.slice A l.length c) l, fun _ _ _ hb ⟨A, c, e, h⟩ => ⟨A, c, e, h.below hb⟩⟩
def MP.ow (base : Nat) (ps : List Pc) : MP := ⟨fun u w => ∃ A c, u = .slice A ps.length c ∧ OW w base (.slice A ps.length c) ps, fun _ _ _ hb ⟨A, c, e, h⟩ => ⟨A, c, e, h.below hb⟩⟩
/-- A change as a value. -/
def MP.ch (base : Nat) (pg : Int) (l : List UInt8) (ps : List Pc) : MP := ⟨fun u w => ∃ A c D d, u = .agg #[.int .i64 pg, .slice A l.length c, .slice D ps.length d] ∧ OB w base (.slice A l.length c) l ∧ OW w base (.slice D ps.length d) ps,
  fun _ _ _ hb ⟨A, c, D, d, e, h, h2⟩ => ⟨A, c, D, d, e, h.below hb, h2.below hb⟩⟩
/-- One change in a slice. -/
def MP.ch1 (base : Nat) (pg : Int) (l : List UInt8) (ps : List Pc) : MP := ⟨fun u w => ∃ g A c D d, u = .slice (some ⟨g, 0, none⟩) 1 1 ∧ Rd w 3 (some ⟨g, 0, none⟩) 1 [.int .i64 pg, .slice A l.length c, .slice D ps.length d] ∧ OB w base (.slice A l.length c) l ∧ OW w base (.slice D ps.length d) ps,
  fun _ _ _ hb ⟨g, A, c, D, d, e, r, h, h2⟩ => ⟨g, A, c, D, d, e, r.below hb, h.below hb, h2.below hb⟩⟩

/-- The record that is being copied. -/
structure CQ (w wr : World) (k tx : Int) (av : Value) (v : Value) (acc : List Ch) : Prop where
  a : wr.heap[w.heap.size]? = some (.cells #[.int .u8 k, .int .i64 tx, av] 25 (0, 0))
  r : wr.heap[w.heap.size + 1]? = some (.cells #[.int .u8 0, .int .i64 0, .slice none 0 0] 25 (0, 0))
  o : wr.heap[w.heap.size + 2]? = some (.cells #[.int .u8 k, .int .i64 tx, v] 25 (0, 0))
  row : OCW wr w.heap.size v acc
  bel : Below w.heap.size w wr
section
variable {w wr w4 : World} {k tx : Int} {av v v4 : Value} {acc : List Ch}
theorem CQ.below (h : CQ w wr k tx av v acc) (hb : Below wr.heap.size wr w4) : CQ w w4 k tx av v acc :=
  ⟨(hb.block _ (Array.getElem?_eq_some_iff.1 h.a).1).trans h.a, (hb.block _ (Array.getElem?_eq_some_iff.1 h.r).1).trans h.r, (hb.block _ (Array.getElem?_eq_some_iff.1 h.o).1).trans h.o, h.row.below hb, gr_trans h.bel hb⟩
theorem CQ.a2 (h : CQ w wr k tx av v acc) : wr.cell? ⟨w.heap.size, 2, none⟩ = some av := by rw [cell_of_row wr _ 2 _ _ _ h.a]; rfl
theorem CQ.o0 (h : CQ w wr k tx av v acc) : wr.cell? ⟨w.heap.size + 2, 0, none⟩ = some (.int .u8 k) := by rw [cell_of_row wr _ 0 _ _ _ h.o]; rfl
theorem CQ.o1 (h : CQ w wr k tx av v acc) : wr.cell? ⟨w.heap.size + 2, 1, none⟩ = some (.int .i64 tx) := by rw [cell_of_row wr _ 1 _ _ _ h.o]; rfl
theorem CQ.o2 (h : CQ w wr k tx av v acc) : wr.cell? ⟨w.heap.size + 2, 2, none⟩ = some v := by rw [cell_of_row wr _ 2 _ _ _ h.o]; rfl
theorem CQ.push (h : CQ w wr k tx av v acc) {us : List (Int × Value × Value)} (r1 : wr.ownsRow w.heap.size 86 3 v acc.length (chs us)) (r2 : us.length = acc.length) (r3 : ∀ (i : Nat) (p : Ch) (q : Int × Value × Value), acc[i]? = some p → us[i]? = some q → q.1 = p.1 ∧ OB wr w.heap.size q.2.1 p.2.1 ∧ OW wr w.heap.size q.2.2 p.2.2) {a : Int} {u1 u2 : Value} {l : List UInt8} {ps : List Pc} (hu : OB wr w.heap.size u1 l) (hu2 : OW wr w.heap.size u2 ps)
    (ho : w4.ownsRow w.heap.size 86 3 v4 (acc.length + 1) (chs us ++ [.int .i64 a, u1, u2])) (hg : wr.grownBy w4 v.ownBlock) :
    w4.cell? ⟨w.heap.size + 2, 2, none⟩ = some v ∧ (∀ j, w4.frozen? ⟨w.heap.size + 2, j, none⟩ = false) ∧ CQ w (w4.setCell ⟨w.heap.size + 2, 2, none⟩ v4) k tx av v4 (acc ++ [(a, l, ps)]) := by
  have o : Off (fun k => v.ownBlock = some k) wr w4 := Off.of_grown hg (fun _ e => e)
  have hne : ∀ {j : Nat} {cs : Array Value}, wr.heap[j]? = some (.cells cs 25 (0, 0)) → w4.heap[j]? = some (.cells cs 25 (0, 0)) := fun {j cs} hj =>
    (o.block j (Array.getElem?_eq_some_iff.1 hj).1 (fun e => by
      obtain ⟨cur, hc⟩ := own_blk r1 e
      exact cells_ne hc hj (by decide))).trans hj
  have ha := hne h.a
  have hr := hne h.r
  have hc4 := hne h.o
  have o5 : Off (fun k => k = w.heap.size + 2) w4 (w4.setCell ⟨w.heap.size + 2, 2, none⟩ v4) := (Off.refl (fun k => k = w.heap.size + 2) w4).setCell _ rfl
  refine ⟨by rw [cell_of_row w4 _ 2 _ _ _ hc4]; rfl, fun j => by simp [World.frozen?, hc4], ?_, ?_, ?_, ?_, ?_⟩
  · exact (o5.block _ (Array.getElem?_eq_some_iff.1 ha).1 (by omega)).trans ha
  · exact (o5.block _ (Array.getElem?_eq_some_iff.1 hr).1 (by omega)).trans hr
  · simp only [World.setCell, Array.getElem?_modify, if_pos, hc4]
    rfl
  · have q := OCW.push (w4 := w4) r2 r3 hu hu2 hg (fun k hk => own_blk r1 hk) ho
    exact q.ty o5 (fun k e => by subst e; exact ⟨_, _, _, hc4, by decide, by decide, by decide⟩)
  · exact (gr_own h.bel r1 hg).setCell (by simp) _
end

end Go.Proofs.Ytlopcmmbkfjidaa

/-! JnB -/
namespace Go.Proofs.Ytlopcmmbkfjidaa
open Go Go.RowKit

/-- The stamp of a block; a sealed block; what a flush's i-th block says. -/
def ofN (ep c : Nat) : Nat := ep % 4294967296 * 4294967296 + c % 4294967296
theorem ofN_lt (ep c : Nat) : ofN ep c < 18446744073709551616 := by unfold ofN; omega
def sealL (v : Nat) (l : List UInt8) : List UInt8 := leB v 8 ++ (l ++ List.replicate (4080 - l.length) 0) ++ leB v 8
def payL (b : List UInt8) (i : Nat) : List UInt8 := leB (b.length - i * 4076) 4 ++ (b.drop (i * 4076)).take 4076
theorem payL_len (b : List UInt8) (i : Nat) : (payL b i).length ≤ 4080 := by unfold payL; rw [List.length_append, leB_length, List.length_take]; omega
theorem sealL_len {v : Nat} {l : List UInt8} (h : l.length ≤ 4080) : (sealL v l).length = 4096 := by unfold sealL; simp only [List.length_append, leB_length, List.length_replicate]; omega
def wsL (fi bl ep pl ct : Nat) (b : List UInt8) : List (Nat × List UInt8) := (List.range (needL b.length)).map fun i => (fi + (pl + i) % bl, sealL (ofN ep (ct + i)) (payL b i))
theorem wsL_len (fi bl ep pl ct : Nat) (b : List UInt8) : (wsL fi bl ep pl ct b).length = needL b.length := by simp [wsL]
theorem wsL_at {fi bl ep pl ct : Nat} {b : List UInt8} {i : Nat} (h : i < needL b.length) : (wsL fi bl ep pl ct b)[i]? = some (fi + (pl + i) % bl, sealL (ofN ep (ct + i)) (payL b i)) := by
  unfold wsL
  rw [List.getElem?_map, List.getElem?_range h]
  rfl
/-- The writes of a flush one after the other, till one fails. -/
def putAll : DiskS → List (Nat × List UInt8) → DiskS × Int
  | D, [] => (D, 0)
  | D, p :: ps => if writeE D p.1 p.2.length ≠ 0 then (writeD D p.1 p.2, writeE D p.1 p.2.length) else putAll (writeD D p.1 p.2) ps
theorem putAll_snoc : ∀ (ps : List (Nat × List UInt8)) (D : DiskS) (p : Nat × List UInt8), putAll D (ps ++ [p]) = if (putAll D ps).2 ≠ 0 then putAll D ps else (writeD (putAll D ps).1 p.1 p.2, writeE (putAll D ps).1 p.1 p.2.length)
  | [], D, p => by
    simp only [List.nil_append, putAll]
    by_cases h : writeE D p.1 p.2.length = 0
    · simp [h]
    · simp [h]
  | q :: ps, D, p => by
    simp only [List.cons_append, putAll]
    by_cases h : writeE D q.1 q.2.length = 0
    · simp only [h, ne_eq, not_true_eq_false, if_false]
      exact putAll_snoc ps _ p
    · simp [h]
theorem putAll_stop : ∀ (ps qs : List (Nat × List UInt8)) (D : DiskS), (putAll D ps).2 ≠ 0 → putAll D (ps ++ qs) = putAll D ps
  | [], _, _, h => absurd rfl h
  | q :: ps, qs, D, h => by
    simp only [List.cons_append, putAll] at h ⊢
    by_cases e : writeE D q.1 q.2.length = 0
    · simp only [e, ne_eq, not_true_eq_false, if_false] at h ⊢
      exact putAll_stop ps qs _ h
    · simp [e]
def flushD (D : DiskS) (ws : List (Nat × List UInt8)) : DiskS := if (putAll D ws).2 ≠ 0 then (putAll D ws).1 else syncD (putAll D ws).1
def flushE (D : DiskS) (ws : List (Nat × List UInt8)) : Int := if (putAll D ws).2 ≠ 0 then (putAll D ws).2 else opC (putAll D ws).1
theorem writeD_pl (D : DiskS) (b : Int) (m : List UInt8) : (writeD D b m).pending.length ≤ D.pending.length + 1 ∧ (writeD D b m).blocks.length = D.blocks.length := by
  unfold writeD
  split
  · exact ⟨Nat.le_succ _, rfl⟩
  · split
    · exact ⟨Nat.le_succ _, rfl⟩
    · exact ⟨by simp, rfl⟩
theorem putAll_pl : ∀ (ps : List (Nat × List UInt8)) (D : DiskS), (putAll D ps).1.pending.length ≤ D.pending.length + ps.length ∧ (putAll D ps).1.blocks.length = D.blocks.length
  | [], D => ⟨Nat.le_refl _, rfl⟩
  | q :: ps, D => by
    have h := writeD_pl D q.1 q.2
    simp only [putAll]
    split
    · exact ⟨by have := h.1; simp only [List.length_cons]; omega, h.2⟩
    · have k := putAll_pl ps (writeD D q.1 q.2)
      exact ⟨by have := h.1; have := k.1; simp only [List.length_cons]; omega, k.2.trans h.2⟩

/-- Posts of a disk go one behind the other. -/
theorem DPost.more {w w1 w2 : World} {ok : Nat → Prop} {base g : Nat} {F : Nat → Prop} {D : DiskS} (h : DPost w ok base g F D w1) (hb : Below w1.heap.size w1 w2) : DPost w ok base g F D w2 := by
  obtain ⟨h1, F', h2, h3⟩ := h
  exact ⟨h1.trans (Off.of_below hb), F', h2.below hb, h3⟩
theorem Off.chain {S T : Nat → Prop} {w w1 w2 : World} (h : Off S w w1) (k : Off T w1 w2) (hT : ∀ j, T j → S j ∨ w.heap.size ≤ j) : Off S w w2 :=
  ⟨k.os.trans h.os, k.tape.trans h.tape, k.output.trans h.output, Nat.le_trans h.size k.size, fun j hj hS => (k.block j (Nat.lt_of_lt_of_le hj h.size) (fun ht => by
    rcases hT j ht with e | e
    · exact hS e
    · omega)).trans (h.block j hj hS)⟩
theorem DPost.trans {w w1 w2 : World} {ok : Nat → Prop} {base g : Nat} {F : Nat → Prop} {D D2 : DiskS} (h : DPost w ok base g F D w1) (k : ∀ F', IsD w1 (fun k => ok k ∨ w.heap.size ≤ k) base g F' D → DPost w1 (fun k => ok k ∨ w.heap.size ≤ k) base g F' D2 w2) : DPost w ok base g F D2 w2 := by
  obtain ⟨h1, F', h2, h3⟩ := h
  obtain ⟨k1, F2, k2, k3⟩ := k F' h2
  refine ⟨h1.chain k1 h3, F2, k2.mono (fun j _ hj => ?_), fun j hj => ?_⟩
  · rcases hj with hj | hj
    · exact hj
    · exact .inr (Nat.le_trans h1.size hj)
  · rcases k3 j hj with e | e
    · exact h3 j e
    · exact .inr (Nat.le_trans h1.size e)

/-- What places hands out. -/
def PlB (w : World) (b gr pl ct : Nat) : Prop := w.cell? ⟨b, 0, none⟩ = some (.pointer (some ⟨gr, 0, none⟩)) ∧ w.cell? ⟨b + 1, 0, none⟩ = some (.int .i64 (pl : Int)) ∧ w.cell? ⟨b + 2, 0, none⟩ = some (.int .i64 (ct : Int)) ∧ b + 2 < w.heap.size
theorem PlB.off {S : Nat → Prop} {w w' : World} {b gr pl ct : Nat} (h : PlB w b gr pl ct) (ho : Off S w w') (hS : ∀ k, S k → k < b ∨ b + 2 < k) : PlB w' b gr pl ct := by
  obtain ⟨h0, h1, h2, h3⟩ := h
  have key : ∀ (k o : Nat) (v : Value), k ≤ b + 2 → b ≤ k → w.cell? ⟨k, o, none⟩ = some v → w'.cell? ⟨k, o, none⟩ = some v := fun k o v hk hb hc => by
    have e := ho.block k (by omega) (fun hs => by have := hS k hs; omega)
    rw [← hc]
    simp only [World.cell?, e]
  exact ⟨key _ _ _ (by omega) (by omega) h0, key _ _ _ (by omega) (by omega) h1, key _ _ _ (by omega) (by omega) h2, Nat.lt_of_lt_of_le h3 ho.size⟩
def PlV (b : Nat) : Value := .func (.func 68) #[] #[.pointer (some ⟨b, 0, none⟩), .pointer (some ⟨b + 1, 0, none⟩), .pointer (some ⟨b + 2, 0, none⟩)]
theorem egPl : ∀ args w, (callFunc 68 args).run Try.prog w = .ok (.enter 68 args) w := enters_of Try.func68 (by kernel_rfl) rfl

set_option maxRecDepth 100000 in
theorem places_any (w : World) (gr pl ct : Nat) :
    Calls Try.prog 53 #[.pointer (some ⟨gr, 0, none⟩), .int .i64 (pl : Int), .int .i64 (ct : Int)] w fun e w' => e = .returned (PlV w.heap.size) ∧ PlB w' w.heap.size gr pl ct ∧ Below w.heap.size w w' := by
  have b1 := gr_alloc (gr_refl w) (.cells #[.pointer (some ⟨gr, 0, none⟩)] 103)
  have s1 : (w.alloc (.cells #[.pointer (some ⟨gr, 0, none⟩)] 103)).heap.size = w.heap.size + 1 := World.size_alloc _ _
  have h1 := heap_alloc_new w (.cells #[.pointer (some ⟨gr, 0, none⟩)] 103)
  have b2 := gr_alloc (gr_refl (w.alloc (.cells #[.pointer (some ⟨gr, 0, none⟩)] 103))) (.cells #[.int .i64 (pl : Int)] 3)
  have s2 : ((w.alloc (.cells #[.pointer (some ⟨gr, 0, none⟩)] 103)).alloc (.cells #[.int .i64 (pl : Int)] 3)).heap.size = w.heap.size + 1 + 1 := by rw [World.size_alloc, s1]
  have h2 := heap_alloc_new (w.alloc (.cells #[.pointer (some ⟨gr, 0, none⟩)] 103)) (.cells #[.int .i64 (pl : Int)] 3)
  have b3 := gr_alloc (gr_refl ((w.alloc (.cells #[.pointer (some ⟨gr, 0, none⟩)] 103)).alloc (.cells #[.int .i64 (pl : Int)] 3))) (.cells #[.int .i64 (ct : Int)] 3)
  have s3 : (((w.alloc (.cells #[.pointer (some ⟨gr, 0, none⟩)] 103)).alloc (.cells #[.int .i64 (pl : Int)] 3)).alloc (.cells #[.int .i64 (ct : Int)] 3)).heap.size = w.heap.size + 1 + 1 + 1 := by rw [World.size_alloc, s2]
  have h3 := heap_alloc_new ((w.alloc (.cells #[.pointer (some ⟨gr, 0, none⟩)] 103)).alloc (.cells #[.int .i64 (pl : Int)] 3)) (.cells #[.int .i64 (ct : Int)] 3)
  rw [s1] at h2 b2
  rw [s2] at h3 b3
  have p1 := (b3.block w.heap.size (by omega)).trans ((b2.block w.heap.size (by omega)).trans h1)
  have p2 := (b3.block (w.heap.size + 1) (by omega)).trans h2
  have HPL : Hid (PlB (((w.alloc (.cells #[.pointer (some ⟨gr, 0, none⟩)] 103)).alloc (.cells #[.int .i64 (pl : Int)] 3)).alloc (.cells #[.int .i64 (ct : Int)] 3)) w.heap.size gr pl ct) :=
    Lib.hid ⟨by rw [cell_of_row _ _ 0 _ _ _ p1]; rfl, by rw [cell_of_row _ _ 0 _ _ _ p2]; rfl, by rw [cell_of_row _ _ 0 _ _ _ h3]; rfl, by rw [s3]; omega⟩
  have HBL := Lib.hid (b1.trans ((b2.mono (by omega)).trans (b3.mono (by omega))))
  clear b1 s1 h1 b2 h2 b3 s3 h3 p1 p2 s2
  go_enter Try.func53, Try.ntmps53
  go_wp2_with fail
  go_ret
  exact ⟨rfl, HPL.out, HBL.out⟩

set_option maxRecDepth 100000 in
set_option maxHeartbeats 1000000 in
theorem placeC (w : World) (b gr fi bl ep pl ct i : Nat) (dp : Value) (h : PlB w b gr pl ct) (hr : RC w gr 0 dp fi bl ep) (h0 : 0 < bl) (hb : bl ≤ 1024) (hf : fi ≤ 4096) (hp : pl ≤ 1048576) (hc : ct ≤ 17179869184) (hi : i ≤ 1048576) :
    Calls Try.prog 68 #[.int .i64 (i : Int), .pointer (some ⟨b, 0, none⟩), .pointer (some ⟨b + 1, 0, none⟩), .pointer (some ⟨b + 2, 0, none⟩)] w fun e w' => e = .returned (.tuple #[.int .i64 ((fi + (pl + i) % bl : Nat) : Int), .int .u64 ((ofN ep (ct + i) : Nat) : Int)]) ∧ Below w.heap.size w w' := by
  obtain ⟨y0, y1, y2, _⟩ := h
  obtain ⟨_, c1, c2, c3⟩ := hr
  simp only [Nat.zero_add] at c1 c2 c3
  obtain ⟨x, hx⟩ : ∃ x : Nat, x = (pl + i) % bl := ⟨_, rfl⟩
  have hxl : x < bl := by rw [hx]; exact Nat.mod_lt _ h0
  have k1 : IntKind.i64.wrap ((pl : Int) + (i : Int)) = (pl : Int) + (i : Int) := by rw [IntKind.wrap_i64]; omega
  have k2 : Int.tmod ((pl : Int) + (i : Int)) (bl : Int) = (x : Int) := by
    have e : (pl : Int) + (i : Int) = ((pl + i : Nat) : Int) := by omega
    rw [e, Int.tmod_eq_emod_of_nonneg (by omega), hx]
    exact (Int.natCast_emod _ _).symm
  have k3 : IntKind.i64.wrap ((fi : Int) + (x : Int)) = (fi : Int) + (x : Int) := by rw [IntKind.wrap_i64]; omega
  have k4 : IntKind.i64.wrap ((ct : Int) + (i : Int)) = (ct : Int) + (i : Int) := by rw [IntKind.wrap_i64]; omega
  have hz : ((bl : Int) == 0) = false := beq_eq_false_iff_ne.2 (by omega)
  have hz' : ¬ ((bl : Int) = 0) := by omega
  have HE : Hid (((ep : Int) % 4294967296 * 4294967296 + ((ct : Int) + (i : Int)) % 4294967296) = ((ofN ep (ct + i) : Nat) : Int)) := Lib.hid (by unfold ofN; omega)
  have HX : Hid ((fi : Int) + (x : Int) = ((fi + (pl + i) % bl : Nat) : Int)) := Lib.hid (by rw [← hx]; omega)
  clear hx
  go_enter Try.func68, Try.ntmps68
  go_wp2_with (go_quiet ((go_at_call 65; exact Calls.quiet_of_same ((Of_any _ _ _).mono (fun _ _ h => ⟨h.1, h.2.symm⟩)))))
  go_ret2
  exact ⟨by rw [← HE.out, ← HX.out]; rfl, gr_drewN (gr_refl _) nq⟩

theorem PlB.below {w w' : World} {b gr pl ct : Nat} (h : PlB w b gr pl ct) (hb : Below w.heap.size w w') : PlB w' b gr pl ct :=
  h.off (S := fun _ => False) (Off.of_below hb) (fun _ h => h.elim)
theorem RC.off {S : Nat → Prop} {w w' : World} {gr o : Nat} {dp : Value} {fi bl ep : Int} (h : RC w gr o dp fi bl ep) (hg : gr < w.heap.size) (ho : Off S w w') (hs : ¬ S gr) : RC w' gr o dp fi bl ep := by
  have e := ho.block gr hg hs
  obtain ⟨h0, h1, h2, h3⟩ := h
  refine ⟨?_, ?_, ?_, ?_⟩
  · rw [← h0]; simp only [World.cell?, e]
  · rw [← h1]; simp only [World.cell?, e]
  · rw [← h2]; simp only [World.cell?, e]
  · rw [← h3]; simp only [World.cell?, e]
theorem RC.below {w w' : World} {gr o : Nat} {dp : Value} {fi bl ep : Int} (h : RC w gr o dp fi bl ep) (hg : gr < w.heap.size) (hb : Below w.heap.size w w') : RC w' gr o dp fi bl ep :=
  h.off hg (Off.of_below (S := fun _ => False) hb) (fun h => h)
theorem DPost.comp {w w1 w2 w3 : World} {ok : Nat → Prop} {base g : Nat} {F F1 : Nat → Prop} {D2 : DiskS} (h1 : Off F w w1) (h3 : ∀ k, F1 k → F k ∨ w.heap.size ≤ k) (hb : Below w1.heap.size w1 w2) (k : DPost w2 (fun k => ok k ∨ w.heap.size ≤ k) base g F1 D2 w3) : DPost w ok base g F D2 w3 := by
  obtain ⟨k1, F2, k2, k3⟩ := k
  have h12 : Off F w w2 := h1.trans (Off.of_below hb)
  refine ⟨h12.chain k1 h3, F2, k2.mono (fun j _ hj => ?_), fun j hj => ?_⟩
  · rcases hj with hj | hj
    · exact hj
    · exact .inr (Nat.le_trans h12.size hj)
  · rcases k3 j hj with e | e
    · exact h3 j e
    · exact .inr (Nat.le_trans h12.size e)
theorem DPost.pre {w w1 w2 : World} {ok : Nat → Prop} {base g : Nat} {F : Nat → Prop} {D : DiskS} (hb : Below w.heap.size w w1) (h : DPost w1 ok base g F D w2) : DPost w ok base g F D w2 := by
  obtain ⟨h1, F', h2, h3⟩ := h
  exact ⟨(Off.of_below hb).trans h1, F', h2.mono (fun j _ hj => hj.imp id (fun e => Nat.le_trans hb.size e)), fun j hj => (h3 j hj).imp id (fun e => Nat.le_trans hb.size e)⟩
theorem putAll_at {D : DiskS} {ws : List (Nat × List UInt8)} {i : Nat} {p : Nat × List UInt8} (hi : ws[i]? = some p) (h2 : (putAll D (ws.take i)).2 = 0) : putAll D (ws.take (i + 1)) = (writeD (putAll D (ws.take i)).1 p.1 p.2, writeE (putAll D (ws.take i)).1 p.1 p.2.length) := by
  rw [List.take_add_one, hi]
  show putAll D (ws.take i ++ [p]) = _
  rw [putAll_snoc, if_neg (by rw [h2]; simp)]
theorem putAll_fail {D : DiskS} {ws : List (Nat × List UInt8)} {k : Nat} (h : (putAll D (ws.take k)).2 ≠ 0) : putAll D ws = putAll D (ws.take k) := by
  conv => lhs; rw [← List.take_append_drop k ws]
  exact putAll_stop _ _ _ h

set_option maxRecDepth 100000 in
set_option maxHeartbeats 4000000 in
theorem write_any (w : World) (ok : Nat → Prop) (base gr gd : Nat) (F : Nat → Prop) (D : DiskS) (fi bl ep pl ct : Nat) (A : Option Addr) (n c : Nat) (b : List UInt8) (h : IsD w ok base gd F D) (hr : RC w gr 0 (.pointer (some ⟨gd, 0, none⟩)) fi bl ep) (hg : gr < w.heap.size ∧ ¬ F gr) (hb : BR w A n b) (hA : ∀ ad, A = some ad → ad.block < w.heap.size ∧ ¬ F ad.block) (hn : n ≤ 4173824) (hnc : n ≤ c) (h0 : 0 < bl) (hbl : bl ≤ 1024) (hfi : fi ≤ 4096) (hpl : pl ≤ 1048576) (hct : ct ≤ 8589934592) (hpd : D.pending.length ≤ 900000) :
    Calls Try.prog 32 #[.pointer (some ⟨gr, 0, none⟩), .int .i64 (pl : Int), .int .i64 (ct : Int), .slice A n c] w fun e w' => e = .returned (.int .i64 (flushE D (wsL fi bl ep pl ct b))) ∧ DPost w ok base gd F (flushD D (wsL fi bl ep pl ct b)) w' := by
  obtain ⟨i0, hi0, hz0, hz1, hz2⟩ := info_parts info_u8
  have HLEN := Lib.hid hb.len
  have HF := Lib.hid h.foot_lt
  have HD := Lib.hid h
  have HR := Lib.hid hr
  have HG := Lib.hid hg
  have HBB := Lib.hid hb
  have HAA := Lib.hid hA
  have hN : needL n ≤ 1024 := by unfold needL; omega
  clear h hr hg hb hA
  go_enter Try.func32, Try.ntmps32
  go_wp2_with fail
  refine (places_any w gr pl ct).mono ?_
  rintro e w1 ⟨rfl, hpb, hb1⟩
  have HPB := Lib.hid hpb
  have HB1 := Lib.hid hb1
  have HD1 := Lib.hid (DPost.same (HD.out.below hb1))
  have HR1 := Lib.hid (HR.out.below HG.out.1 hb1)
  have HW3 : Hid (w.heap.size + 2 < w1.heap.size) := Lib.hid hpb.2.2.2
  have HG1 : Hid (gr < w1.heap.size ∧ ¬ F gr) := Lib.hid ⟨Nat.lt_of_lt_of_le HG.out.1 hb1.size, HG.out.2⟩
  have HBB1 := Lib.hid (HBB.out.below hb1)
  clear hpb hb1
  go_wp2_with fail
  refine (needs_any n w1 (by omega)).mono ?_
  rintro e w2 ⟨rfl, rfl⟩
  unfold PlV
  obtain ⟨ws, hws⟩ : ∃ ws, ws = wsL fi bl ep pl ct b := ⟨_, rfl⟩
  have HWS := Lib.hid hws
  obtain ⟨N, hNN⟩ : ∃ N, N = needL n := ⟨_, rfl⟩
  have HNN := Lib.hid hNN
  rw [← hNN] at hN ⊢
  have HWL : Hid (ws.length = N) := Lib.hid (by rw [hws, wsL_len, HLEN.out, hNN])
  have egp := egPl
  clear hws hNN
  go_wp2_with fail
  go_loopw [10, 11, 12, 13, 14, 15, 16, 17, 25] (fun _ _ _ _ _ _ _ _ x wr => ∃ i, i ≤ N ∧ x = .int .i64 (i : Int) ∧ Hid ((putAll D (ws.take i)).2 = 0) ∧ PlB wr w.heap.size gr pl ct ∧ DPost w1 ok base gd F (putAll D (ws.take i)).1 wr) (fun _ _ _ _ _ _ _ _ x _ => N - (intOf x).toNat)
  case atStart => exact ⟨0, Nat.zero_le _, rfl, Lib.hid rfl, HPB.out, HD1.out⟩
  case round =>
    obtain ⟨i, hi, rfl, H2, hpb, hdp⟩ := hrel
    have HPB := Lib.hid hpb
    have HDP := Lib.hid hdp
    obtain ⟨hof, F1, hd1, hf1⟩ := hdp
    have HOF := Lib.hid hof
    have HD1 := Lib.hid hd1
    have HF1 := Lib.hid hf1
    have hpd1 := (putAll_pl (ws.take i) D).1
    rw [List.length_take, HWL.out] at hpd1
    have HPD : Hid ((putAll D (ws.take i)).1.pending.length ≤ 901024) := Lib.hid (by omega)
    clear hpb hof hd1 hf1 hpd1
    by_cases hlt : i < N
    · have t1 : decide ((i : Int) < (N : Int)) = true := decide_eq_true (by omega)
      have t2 : decide (i < N) = true := decide_eq_true hlt
      have hin : i * 4076 < n := by have := HNN.out; unfold needL at this; omega
      obtain ⟨k, hk⟩ : ∃ k, k = i * 4076 := ⟨_, rfl⟩
      have hkl : k < n := by omega
      have hmul : (i : Int) * 4076 = (k : Int) := by omega
      have hmw : IntKind.i64.wrap ((i : Int) * 4076) = (k : Int) := by rw [IntKind.wrap_i64]; omega
      have hmw2 : IntKind.i64.wrap (k : Int) = (k : Int) := by rw [IntKind.wrap_i64]; omega
      have hcl := fun W => run_cut_l (P := Try.prog) W 30 5 i0 Try.underlying30 hi0 1 hz1 A n c (k : Int) k rfl (by omega)
      have HBw := Lib.hid (HBB1.out.off HOF.out (fun ad e _ => (HAA.out ad e).2))
      have HBR : Hid (BR wr (cutA A c k 1) (n - k) (b.drop k)) := Lib.hid (by
        have := HBw.out.cut (k := k) (j := n) (c := c) (by omega) (by omega) hnc
        rwa [List.take_of_length_le (by rw [List.length_drop, HLEN.out]; omega)] at this)
      obtain ⟨rn, hrn⟩ : ∃ rn, rn = n - k := ⟨_, rfl⟩
      obtain ⟨hr, hhr⟩ : ∃ hr, hr = min rn 4076 := ⟨_, rfl⟩
      have hrl : hr ≤ 4076 ∧ hr ≤ rn := by omega
      have hrn2 : rn ≤ 4173824 := by omega
      have hrc : hr ≤ c - k := by omega
      rw [← hrn] at HBR
      simp only [← hrn] at hcl
      have hwu : IntKind.u32.wrap (rn : Int) = (rn : Int) := by rw [IntKind.wrap_u32]; omega
      have hmin : (if (4076 : Int) < (rn : Int) then (4076 : Int) else (rn : Int)) = (hr : Int) := by split <;> omega
      have HPAY : Hid (payL b i = leB rn 4 ++ (b.drop k).take hr) := Lib.hid (by
        unfold payL
        rw [HLEN.out, ← hk, ← hrn]
        congr 1
        by_cases e : rn ≤ 4076
        · rw [List.take_of_length_le (by rw [List.length_drop, HLEN.out]; omega), List.take_of_length_le (by rw [List.length_drop, HLEN.out]; omega)]
        · rw [show hr = 4076 by omega])
      have HK := Lib.hid hk
      clear hk hrn hhr
      go_upto_region 6 with fail
      clear hcl
      have hch := fun W => run_cut_h (P := Try.prog) W 30 5 i0 Try.underlying30 hi0 1 hz1 (cutA A c k 1) rn (c - k) (hr : Int) hr rfl (by omega)
      have HCH := Lib.hid hch
      clear hch
      refine wp_region_any (by kernel_rfl) ?_
      refine' wpAny_to_tail (l0 := #[false, false, false, false, false, false, false, false, false, false, false]) (by kernel_rfl) (by kernel_rfl) (by kernel_rfl) (by kernel_rfl) (by kernel_rfl)
        [MP.is (.slice (cutA A c k 1) rn (c - k)), MP.is (.int .i64 (rn : Int)), MP.is (.int .u32 (rn : Int)), MP.ob wr.heap.size (leB rn 4), MP.is (.slice (cutA A c k 1) rn (c - k)), MP.is (.slice (cutA A c k 1) rn (c - k)), MP.is (.int .i64 (rn : Int)), MP.is (.int .i64 (hr : Int)), MP.is (.slice (cutA A c k 1) hr (c - k)), MP.any, MP.any]
        (fun j => j == 9 || j == 10) #[true, true, true, true, true, true, true, true, true, false, false] rfl (by kernel_rfl) rfl (by kernel_rfl) (by kernel_rfl) (by kernel_rfl) (by kernel_rfl) (fun _ => undef) (by rfl) ?hR01 ?hAA1 ?hst1 ?hend1
      case hR01 =>
        intro j hj
        have hj2 : j ∈ [] := hj
        cases hj2
      case hAA1 =>
        intro f
        conv => lhs; simp only [putA, dstOf, List.size_toArray, List.length_cons, List.length_nil, Nat.zero_add, Nat.reduceAdd, List.getElem?_toArray, List.getElem?_cons_zero, List.getElem?_cons_succ, Option.bind_some, Act.put, List.setIfInBounds_toArray, List.set_cons_zero, List.set_cons_succ]
        first | done | exact rfl
      case hst1 =>
        refine Steps.of_list (l' := [0, 1, 2, 3, 4, 5, 6, 7, 8]) (by kernel_rfl) ?_
        refine Steps.cons rfl ?_ ?_
        · intro f wz hB h K Q hK
          try simp only [List.getElem_toArray, List.getElem_cons_zero]
          go_simp
          exact hK _ _ (gr_refl _) rfl
        refine Steps.cons rfl ?_ ?_
        · intro f wz hB h K Q hK
          have h0 : (MP.is (.slice (cutA A c k 1) rn (c - k))).p (f 0) wz := h 0 (by kernel_rfl)
          have e0 : f 0 = (.slice (cutA A c k 1) rn (c - k)) := h0
          simp only [e0] at hK ⊢
          clear e0
          try simp only [List.getElem_toArray, List.getElem_cons_succ, List.getElem_cons_zero]
          go_simp
          exact hK _ _ (gr_refl _) rfl
        refine Steps.cons rfl ?_ ?_
        · intro f wz hB h K Q hK
          have h1 : (MP.is (.int .i64 (rn : Int))).p (f 1) wz := h 1 (by kernel_rfl)
          have e1 : f 1 = (.int .i64 (rn : Int)) := h1
          simp only [e1] at hK ⊢
          clear e1
          try simp only [List.getElem_toArray, List.getElem_cons_succ, List.getElem_cons_zero]
          go_simp
          exact hK _ _ (gr_refl _) rfl
        refine Steps.cons rfl ?_ ?_
        · intro f wz hB h K Q hK
          have h2 : (MP.is (.int .u32 (rn : Int))).p (f 2) wz := h 2 (by kernel_rfl)
          have e2 : f 2 = (.int .u32 (rn : Int)) := h2
          simp only [e2] at hK ⊢
          clear e2
          try simp only [List.getElem_toArray, List.getElem_cons_succ, List.getElem_cons_zero]
          go_simp
          refine (Add32_any none 0 0 [] wz rn (BR.none_ _ _) (by omega) (by omega)).mono ?_
          rintro e w5 ⟨v5, rfl, ob5, hb5⟩
          rw [List.nil_append] at ob5
          obtain ⟨A5, c5, rfl, _, _⟩ := own_form ob5
          exact hK _ _ hb5 ⟨A5, c5, rfl, ob5.lower hB.size⟩
        refine Steps.cons rfl ?_ ?_
        · intro f wz hB h K Q hK
          try simp only [List.getElem_toArray, List.getElem_cons_succ, List.getElem_cons_zero]
          go_simp
          exact hK _ _ (gr_refl _) rfl
        refine Steps.cons rfl ?_ ?_
        · intro f wz hB h K Q hK
          try simp only [List.getElem_toArray, List.getElem_cons_succ, List.getElem_cons_zero]
          go_simp
          exact hK _ _ (gr_refl _) rfl
        refine Steps.cons rfl ?_ ?_
        · intro f wz hB h K Q hK
          have h5 : (MP.is (.slice (cutA A c k 1) rn (c - k))).p (f 5) wz := h 5 (by kernel_rfl)
          have e5 : f 5 = (.slice (cutA A c k 1) rn (c - k)) := h5
          simp only [e5] at hK ⊢
          clear e5
          try simp only [List.getElem_toArray, List.getElem_cons_succ, List.getElem_cons_zero]
          go_simp
          exact hK _ _ (gr_refl _) rfl
        refine Steps.cons rfl ?_ ?_
        · intro f wz hB h K Q hK
          have h6 : (MP.is (.int .i64 (rn : Int))).p (f 6) wz := h 6 (by kernel_rfl)
          have e6 : f 6 = (.int .i64 (rn : Int)) := h6
          simp only [e6] at hK ⊢
          clear e6
          try simp only [List.getElem_toArray, List.getElem_cons_succ, List.getElem_cons_zero]
          go_simp
          exact hK _ _ (gr_refl _) rfl
        refine Steps.cons rfl ?_ ?_
        · intro f wz hB h K Q hK
          have h4 : (MP.is (.slice (cutA A c k 1) rn (c - k))).p (f 4) wz := h 4 (by kernel_rfl)
          have e4 : f 4 = (.slice (cutA A c k 1) rn (c - k)) := h4
          have h7 : (MP.is (.int .i64 (hr : Int))).p (f 7) wz := h 7 (by kernel_rfl)
          have e7 : f 7 = (.int .i64 (hr : Int)) := h7
          simp only [e4, e7] at hK ⊢
          clear e4 e7
          try simp only [List.getElem_toArray, List.getElem_cons_succ, List.getElem_cons_zero]
          have hch := HCH.out
          go_simp
          exact hK _ _ (gr_refl _) rfl
        exact Steps.nil
      intro f w4 hB4 hR
      conv => arg 7; simp only [putL, dstOf, List.size_toArray, List.length_cons, List.length_nil, Nat.zero_add, Nat.reduceAdd, List.getElem?_toArray, List.getElem?_cons_zero, List.getElem?_cons_succ, Option.bind_some, Act.put, List.setIfInBounds_toArray, List.set_cons_zero, List.set_cons_succ, Array.getD_eq_getD_getElem?, Option.getD_some, if_true, if_false, Bool.false_eq_true]
      have e0 : f 0 = (.slice (cutA A c k 1) rn (c - k)) := hR 0 (by decide) rfl
      have e1 : f 1 = (.int .i64 (rn : Int)) := hR 1 (by decide) rfl
      have e2 : f 2 = (.int .u32 (rn : Int)) := hR 2 (by decide) rfl
      obtain ⟨A34, c34, e3, q34⟩ := (show (MP.ob wr.heap.size (leB rn 4)).p (f 3) w4 from hR 3 (by decide) rfl)
      have e4 : f 4 = (.slice (cutA A c k 1) rn (c - k)) := hR 4 (by decide) rfl
      have e5 : f 5 = (.slice (cutA A c k 1) rn (c - k)) := hR 5 (by decide) rfl
      have e6 : f 6 = (.int .i64 (rn : Int)) := hR 6 (by decide) rfl
      have e7 : f 7 = (.int .i64 (hr : Int)) := hR 7 (by decide) rfl
      have e8 : f 8 = (.slice (cutA A c k 1) hr (c - k)) := hR 8 (by decide) rfl
      simp only [e0, e1, e2, e3, e4, e5, e6, e7, e8]
      clear e0 e1 e2 e3 e4 e5 e6 e7 e8 hR
      have HB4 := Lib.hid hB4
      have HQ4 : Hid (w4.ownsRow wr.heap.size 5 1 (.slice A34 (leB rn 4).length c34) (leB rn 4).length ((leB rn 4).map bv)) := Lib.hid q34
      have HR4 : Hid (Rd w4 1 (cutA A c k 1) hr (((b.drop k).take hr).map bv)) := Lib.hid (HBR.out.pre hrl.2 |>.below (Below.trans (gr_drewN (gr_refl wr) 1) hB4))
      clear hB4 q34
      refine wpAny_of_held (S := fun _ => True) _ _ _ _ ?_
      refine wpAnyH_ready (rs := [9]) (by kernel_rfl) (by simp) ?_
      refine AllReadyH.cons rfl (fun KK hK => ?_) AllReadyH.nil
      try simp only [List.getElem_toArray, List.getElem_cons_succ, List.getElem_cons_zero]
      rw [if_pos (by rfl)]
      refine wp_append_Rd _ (.tmp 35) (.tmp 40) _ rfl wr.heap.size 5 i0 _ 1 1 Try.underlying30 hi0 hz0 hz1 hz2 rfl (.slice A34 (leB rn 4).length c34) (leB rn 4).length _ rfl HQ4.out (cutA A c k 1) hr (c - k) _ rfl HR4.out (one_bv _) (by rw [leB_length]; omega) (by rw [leB_length]; simp only [maxLen]; omega) HB4.out.size ?_
      intro v8 w8 ho8 hg8 _ _
      have HO8 := Lib.hid ho8
      have HB8 := Lib.hid ((Below.trans (gr_drewN (gr_refl wr) 1) HB4.out).grown hg8 (Below.trans (gr_drewN (gr_refl wr) 1) HB4.out).size (fun j hj => (HQ4.out.lt j hj).1))
      clear ho8 hg8
      refine hK.out _ _ trivial (fun _ => ?_)
      clear hK KK
      try simp only [Act.put, List.setIfInBounds_toArray, List.set_cons_zero, List.set_cons_succ]
      refine wpAnyH_ready (rs := [10]) (by kernel_rfl) (by simp) ?_
      refine AllReadyH.cons rfl (fun KK hK => ?_) AllReadyH.nil
      try simp only [List.getElem_toArray, List.getElem_cons_succ, List.getElem_cons_zero]
      go_simp
      refine hK.out _ _ trivial (fun _ => ?_)
      clear hK KK
      try simp only [List.setIfInBounds_toArray, List.set_cons_zero, List.set_cons_succ]
      refine wpAnyH_done (by kernel_rfl) ?_ _
      have hob : OB w8 wr.heap.size v8 (payL b i) := OB.of_own HO8.out (by rw [HPAY.out, List.map_append])
      obtain ⟨A8, c8, rfl, hbr8, _, _⟩ := hob.form
      have hm8l : (payL b i).length ≤ 4080 := payL_len b i
      have HSL := Lib.hid (sealL_len (v := ofN ep (ct + i)) hm8l)
      have HSE : Hid (sealL (ofN ep (ct + i)) (payL b i) = leB (ofN ep (ct + i)) 8 ++ (payL b i ++ List.replicate (4080 - (payL b i).length) 0) ++ leB (ofN ep (ct + i)) 8) := Lib.hid rfl
      generalize (payL b i).length = m8 at *
      have HBR8 := Lib.hid hbr8
      have HPB8 := Lib.hid (HPB.out.below HB8.out)
      have HRr := Lib.hid (HR1.out.off HG1.out.1 HOF.out HG1.out.2)
      have hgr : gr < wr.heap.size := Nat.lt_of_lt_of_le HG1.out.1 HOF.out.size
      have HGR := Lib.hid hgr
      have HR8 := Lib.hid (HRr.out.below hgr HB8.out)
      have hpc := placeC w8 w.heap.size gr fi bl ep pl ct i (.pointer (some ⟨gd, 0, none⟩)) HPB8.out HR8.out h0 hbl hfi hpl (by omega) (by omega)
      have hwi := HWS.out
      have hnm := ofN_lt ep (ct + i)
      have HWI := Lib.hid (wsL_at (fi := fi) (bl := bl) (ep := ep) (pl := pl) (ct := ct) (b := b) (i := i) (by rw [HLEN.out, ← HNN.out]; exact hlt))
      rw [← hwi] at HWI
      generalize ofN ep (ct + i) = num at *
      generalize fi + (pl + i) % bl = blk at *
      have HPC := Lib.hid hpc
      clear hob hbr8 hgr hpc hwi HO8 HQ4 HR4 HBw HBR HCH hwu hmin hrl hmul hmw hmw2
      go_wp2_with fail
      refine HPC.out.mono ?_
      rintro e w9 ⟨rfl, hb9⟩
      have HB9 := Lib.hid (gr_trans HB8.out hb9)
      have HBR9 := Lib.hid (HBR8.out.below hb9)
      clear hb9
      go_wp2_with fail
      refine (Seal_fits A8 m8 c8 num (payL b i) w9 HBR9.out hm8l hnm).mono ?_
      rintro e w10 ⟨r10, rfl, ob10, hb10⟩
      rw [← HSE.out] at ob10
      obtain ⟨q10, c10, rfl, hq1, hq2, hq3⟩ := ob10.full HSL.out
      obtain ⟨A', c', e', br10, _, _⟩ := ob10.formN HSL.out
      injection e' with e1 e2 e3
      subst e1 e3
      have HB10 := Lib.hid (gr_trans HB9.out hb10)
      have HBR10 := Lib.hid br10
      have hc0 := (HRr.out.below HGR.out HB10.out).1
      have HA10 : Hid (∀ ad, some (⟨q10, 0, none⟩ : Addr) = some ad → ¬ F1 ad.block) := Lib.hid (fun ad e hf => by
        injection e with e
        subst e
        have h1 := (HD1.out.foot_lt _ hf).2
        have h2 := HB9.out.size
        dsimp only at h1
        omega)
      have HD10 := Lib.hid (HD1.out.below HB10.out)
      clear hb10 ob10 br10
      go_wp2_with fail
      refine (Write_any w10 _ base gd F1 _ (blk : Int) (some ⟨q10, 0, none⟩) 4096 c10 _ HD10.out HBR10.out HA10.out (by omega) (Nat.le_trans HPD.out (by omega))).mono ?_
      rintro e w11 ⟨rfl, hdp11⟩
      have HDP11 := Lib.hid (DPost.comp HOF.out HF1.out HB10.out hdp11)
      have HPB11 := Lib.hid ((HPB.out.below HB10.out).off hdp11.1 (fun k hk => (HF1.out k hk).elim (fun h => .inl (HF.out k h).2) (fun h => .inr (Nat.lt_of_lt_of_le HW3.out h))))
      have HAT := Lib.hid (putAll_at HWI.out H2.out)
      have HFL := Lib.hid (putAll_fail (D := D) (ws := ws) (k := i + 1))
      dsimp only at HAT
      rw [HSL.out] at HAT
      generalize writeE (putAll D (ws.take i)).1 (blk : Int) 4096 = r at *
      clear hdp11
      by_cases hr0 : r = 0
      · subst hr0
        go_wp2_with fail
        go_roundw
        case rel => exact ⟨i + 1, by omega, by go_num, Lib.hid (by rw [HAT.out]), HPB11.out, by rw [HAT.out]; exact HDP11.out⟩
        case measure => simp [intOf]; omega
      · have t3 : (r != 0) = true := by rw [bne_iff_ne]; exact hr0
        have HR0 := Lib.hid hr0
        clear hr0
        go_wp2_with fail
        go_ret
        have hf := HFL.out (by rw [HAT.out]; exact HR0.out)
        rw [HAT.out] at hf
        rw [← HWS.out]
        refine ⟨ret_i ?_, ?_⟩
        · unfold flushE
          rw [if_pos (by rw [hf]; exact HR0.out), hf]
        · unfold flushD
          rw [if_pos (by rw [hf]; exact HR0.out), hf]
          exact DPost.pre HB1.out HDP11.out
    · obtain rfl : i = N := by omega
      have t1 : decide ((i : Int) < (i : Int)) = false := decide_eq_false (by omega)
      have hc0 := (HR1.out.off HG1.out.1 HOF.out HG1.out.2).1
      have htk : ws.take i = ws := List.take_of_length_le (Nat.le_of_eq HWL.out)
      rw [htk] at HDP HD1 HPD H2
      have HSY := Lib.hid (Sync_any wr _ base gd F1 _ HD1.out (Nat.le_trans HPD.out (by omega)))
      have HTK := Lib.hid htk
      clear htk
      go_wp2_with fail
      refine HSY.out.mono ?_
      rintro e w2 ⟨rfl, hdp2⟩
      have HDP2 := Lib.hid (DPost.comp HOF.out HF1.out (gr_refl wr) hdp2)
      clear hdp2
      go_wp2_with fail
      go_ret
      rw [← HWS.out]
      refine ⟨ret_i ?_, ?_⟩
      · unfold flushE
        rw [if_neg (by rw [H2.out]; simp)]
      · unfold flushD
        rw [if_neg (by rw [H2.out]; simp)]
        exact DPost.pre HB1.out HDP2.out
end Go.Proofs.Ytlopcmmbkfjidaa

/-! JnC -/
namespace Go.Proofs.Ytlopcmmbkfjidaa
open Go Go.RowKit

theorem lastL_len {bs : List (List UInt8)} {b n : Nat} : ∀ {ps : List (Nat × List UInt8)}, (bs.getD b []).length = n → (∀ p ∈ ps, p.2.length = n) → (lastL bs ps b).length = n := by
  intro ps h0 h
  unfold lastL
  generalize bs.getD b [] = z at h0
  induction ps generalizing z with
  | nil => exact h0
  | cons p ps ih =>
    simp only [List.foldl_cons]
    refine ih (fun q hq => h q (by simp [hq])) _ ?_
    split
    · exact h p (by simp)
    · exact h0
theorem IsD.lens {w : World} {ok : Nat → Prop} {base g : Nat} {F : Nat → Prop} {D : DiskS} (h : IsD w ok base g F D) : (∀ b, b < D.blocks.length → (D.blocks.getD b []).length = 4096) ∧ ∀ p ∈ D.pending, p.2.length = 4096 ∧ p.1 < D.blocks.length := by
  obtain ⟨dr, dc, pv, dvs, pvs, hd, _⟩ := h
  constructor
  · intro b hb
    have h1 : b < dvs.length := by rw [hd.dl]; exact hb
    have := (hd.dv b dvs[b] D.blocks[b] (List.getElem?_eq_getElem h1) (List.getElem?_eq_getElem hb)).1
    rw [List.getD_eq_getElem?_getD, List.getElem?_eq_getElem hb]
    exact this
  · intro p hp
    obtain ⟨i, hi, rfl⟩ := List.getElem_of_mem hp
    have h1 : i < pvs.length := by rw [hd.pl]; exact hi
    have := hd.pw i pvs[i] D.pending[i] (List.getElem?_eq_getElem h1) (List.getElem?_eq_getElem hi)
    exact ⟨this.2.2.1, this.2.1⟩
theorem IsD.blk_len {w : World} {ok : Nat → Prop} {base g : Nat} {F : Nat → Prop} {D : DiskS} (h : IsD w ok base g F D) {b : Nat} (hb : b < D.blocks.length) : (lastL D.blocks D.pending b).length = 4096 :=
  lastL_len (h.lens.1 b hb) (fun p hp => (h.lens.2 p hp).1)

/-- How many bytes a log block says that stand from it on. -/
def sN (s : List UInt8) : Nat := leN ((openP s).take 4)
/-- The bytes of the flush that begins at block 0 of C, whose blocks bear the stamps V; none, if it is not there. -/
def rdG (C : Nat → List UInt8) (V : Nat → Nat) : Nat → Nat → Nat → List UInt8 → Option (List UInt8)
  | 0, _, _, _ => none
  | f + 1, i, rest, acc =>
    if openE (C i) ≠ 0 ∨ openS (C i) ≠ V i then none
    else if sN (C i) = 0 ∨ (0 < i ∧ sN (C i) ≠ rest) then none
    else if sN (C i) ≤ 4076 then some (acc ++ ((openP (C i)).drop 4).take (sN (C i)))
    else rdG C V f (i + 1) (sN (C i) - 4076) (acc ++ ((openP (C i)).drop 4).take 4076)
theorem rdG_go {C : Nat → List UInt8} {V : Nat → Nat} {f i rest : Nat} {acc : List UInt8} (he : openE (C i) = 0) (hs : openS (C i) = V i) (h1 : sN (C i) ≠ 0) (h2 : 0 < i → sN (C i) = rest) : rdG C V (f + 1) i rest acc = if sN (C i) ≤ 4076 then some (acc ++ ((openP (C i)).drop 4).take (sN (C i))) else rdG C V f (i + 1) (sN (C i) - 4076) (acc ++ ((openP (C i)).drop 4).take 4076) := by
  conv => lhs; unfold rdG
  rw [if_neg (by rw [he, hs]; simp), if_neg (by rintro (h | ⟨h, k⟩); exact h1 h; exact k (h2 h))]
theorem rdG_bad {C : Nat → List UInt8} {V : Nat → Nat} {f i rest : Nat} {acc : List UInt8} (h : (openE (C i) ≠ 0 ∨ openS (C i) ≠ V i) ∨ (sN (C i) = 0 ∨ (0 < i ∧ sN (C i) ≠ rest))) : rdG C V (f + 1) i rest acc = none := by
  unfold rdG
  rcases h with h | h
  · rw [if_pos h]
  · by_cases k : openE (C i) ≠ 0 ∨ openS (C i) ≠ V i
    · rw [if_pos k]
    · rw [if_neg k, if_pos h]
def ringC (D : DiskS) (fi bl pl : Nat) (i : Nat) : List UInt8 := lastL D.blocks D.pending (fi + (pl + i) % bl)
def rdB (D : DiskS) (fi bl ep pl ct room : Nat) : Option (List UInt8) := rdG (ringC D fi bl pl) (fun i => ofN ep (ct + i)) room 0 0 []
def rdR (o : Option (List UInt8)) : List Rec := match o with
  | none => []
  | some b => if allE b = 0 then allR b else []
def rdN (o : Option (List UInt8)) : Nat := match o with
  | none => 0
  | some b => if allE b = 0 then needL b.length else 0
theorem sN_lt (s : List UInt8) : sN s < 4294967296 := by
  unfold sN
  have := leN_lt ((openP s).take 4)
  have h2 : ((openP s).take 4).length ≤ 4 := List.length_take_le _ _
  have h3 : 256 ^ ((openP s).take 4).length ≤ 256 ^ 4 := Nat.pow_le_pow_right (by omega) h2
  omega
theorem openP_len {s : List UInt8} (h : s.length = 4096) (he : openE s = 0) : (openP s).length = 4080 := by
  unfold openE at he
  unfold openP
  split at he
  · rename_i hs
    rw [if_pos hs, List.length_take, List.length_drop, h]
    rfl
  · omega
theorem numAt_sN {s : List UInt8} (h : (openP s).length = 4080) : numAt (openP s) 0 4 = some (sN s) := by
  unfold numAt
  rw [if_neg (by rw [h]; omega)]
  rfl

set_option maxRecDepth 100000 in
set_option maxHeartbeats 8000000 in
theorem read_any (w : World) (ok : Nat → Prop) (base gr gd : Nat) (F : Nat → Prop) (D : DiskS) (fi bl ep pl ct room : Nat) (h : IsD w ok base gd F D) (hr : RC w gr 0 (.pointer (some ⟨gd, 0, none⟩)) fi bl ep) (hg : gr < w.heap.size) (h0 : 0 < bl) (hbl : bl ≤ 1024) (hfb : fi + bl ≤ D.blocks.length) (hdn : D.down = false) (hpl : pl ≤ 1048576) (hct : ct ≤ 8589934592) (hpd : D.pending.length ≤ 1000000) (hroom : room ≤ 1024) :
    Calls Try.prog 42 #[.pointer (some ⟨gr, 0, none⟩), .int .i64 (pl : Int), .int .i64 (ct : Int), .int .i64 (room : Int)] w fun e w' => ∃ v, e = .returned (.tuple #[v, .int .i64 (rdN (rdB D fi bl ep pl ct room) : Int), .int .i64 0]) ∧ ORW w' w.heap.size v (rdR (rdB D fi bl ep pl ct room)) ∧ Below w.heap.size w w' := by
  have hfi : fi ≤ 4096 := by
    obtain ⟨dr, dc, pv, dvs, pvs, hd, _⟩ := h
    have := hd.n2
    omega
  have HD := Lib.hid h
  have HR := Lib.hid hr
  have HG := Lib.hid hg
  obtain ⟨res, hres⟩ : ∃ res, res = rdB D fi bl ep pl ct room := ⟨_, rfl⟩
  have HRES := Lib.hid hres
  rw [← hres]
  obtain ⟨i0, hi0, hz0, hz1, hz2⟩ := info_parts info_u8
  clear h hr hg hres
  go_enter Try.func42, Try.ntmps42
  go_wp2_with fail
  refine (places_any w gr pl ct).mono ?_
  rintro e w1 ⟨rfl, hpb, hb1⟩
  have HPB := Lib.hid hpb
  have HB1 := Lib.hid hb1
  have egp := egPl
  clear hpb hb1
  unfold PlV
  go_wp2_with fail
  go_loopw [12, 13, 14, 15, 16, 17, 18, 19, 20, 21, 22, 23, 24] (fun x12 x13 x14 _ _ _ _ _ _ _ _ _ _ wr => ∃ (i rest : Nat) (acc : List UInt8) (A : Option Addr) (c : Nat), i ≤ room ∧ rest ≤ 4294967295 ∧ x12 = .slice A acc.length c ∧ x13 = .int .i64 (rest : Int) ∧ x14 = .int .i64 (i : Int) ∧ acc.length ≤ 4076 * i ∧ Hid (OB wr w1.heap.size (.slice A acc.length c) acc) ∧ Hid (Below w1.heap.size w1 wr) ∧ Hid (i = 0 ∨ 0 < rest → res = rdG (ringC D fi bl pl) (fun i => ofN ep (ct + i)) (room - i) i rest acc) ∧ Hid (0 < i → rest = 0 → res = some acc)) (fun _ _ x14 _ _ _ _ _ _ _ _ _ _ _ => room + 1 - (intOf x14).toNat)
  case atStart => exact ⟨0, 0, [], none, 0, Nat.zero_le _, by omega, rfl, rfl, rfl, by simp, Lib.hid (OB.nil w1 w1.heap.size), Lib.hid (gr_refl w1), Lib.hid (fun _ => HRES.out), Lib.hid (fun h => absurd h (by omega))⟩
  case round =>
    obtain ⟨i, rest, acc, A, c, hi, hrest, rfl, rfl, rfl, hal, HOB, HBr, HQ1, HQ2⟩ := hrel
    have HPBr := Lib.hid (HPB.out.below HBr.out)
    have HDr := Lib.hid ((HD.out.below HB1.out).below HBr.out)
    have HGr : Hid (gr < wr.heap.size) := Lib.hid (Nat.lt_of_lt_of_le (Nat.lt_of_lt_of_le HG.out HB1.out.size) HBr.out.size)
    have HRr := Lib.hid ((HR.out.below HG.out HB1.out).below (Nat.lt_of_lt_of_le HG.out HB1.out.size) HBr.out)
    have HBW := Lib.hid (gr_trans HB1.out HBr.out)
    have ha1 : acc.length ≤ 4173824 := by omega
    have HAL := Lib.hid hal
    clear hal
    by_cases hgo : i = 0 ∨ 0 < rest
    · have HQ := Lib.hid (HQ1.out hgo)
      by_cases hlt : i < room
      · have HIX : Hid (i < room) := Lib.hid hlt
        have hpc := placeC wr w.heap.size gr fi bl ep pl ct i (.pointer (some ⟨gd, 0, none⟩)) HPBr.out HRr.out h0 hbl hfi hpl (by omega) (by omega)
        have hblk : fi + (pl + i) % bl < D.blocks.length := by
          have := Nat.mod_lt (pl + i) h0
          omega
        have HC : Hid (ringC D fi bl pl i = lastL D.blocks D.pending (fi + (pl + i) % bl)) := Lib.hid rfl
        have HL := Lib.hid (HDr.out.blk_len hblk)
        have hnm := ofN_lt ep (ct + i)
        have HBK := Lib.hid hblk
        have HSTEP := Lib.hid (rdG_go (C := ringC D fi bl pl) (V := fun i => ofN ep (ct + i)) (f := room - i - 1) (i := i) (rest := rest) (acc := acc))
        have HBAD := Lib.hid (rdG_bad (C := ringC D fi bl pl) (V := fun i => ofN ep (ct + i)) (f := room - i - 1) (i := i) (rest := rest) (acc := acc))
        rw [show room - i - 1 + 1 = room - i by omega, ← HQ.out, HC.out] at HSTEP HBAD
        rw [show room - i - 1 = room - (i + 1) by omega] at HSTEP
        generalize ofN ep (ct + i) = num at *
        generalize fi + (pl + i) % bl = blk at *
        have HPC := Lib.hid hpc
        obtain ⟨l, hl⟩ : ∃ l, l = lastL D.blocks D.pending blk := ⟨_, rfl⟩
        rw [← hl] at HL HSTEP HBAD
        have HLL := Lib.hid hl
        clear hpc hblk hl HQ HC HQ1 HQ2
        have tlt : decide (room ≤ i) = false := decide_eq_false (by omega)
        by_cases hz : i = 0
        · have t1 : ((i : Int) == 0) = true := beq_iff_eq.2 (by omega)
          have HZ := Lib.hid hz
          have tip : decide (0 < i) = false := decide_eq_false (by omega)
          clear hz hgo hlt
          go_wp2_with fail
          refine HPC.out.mono ?_
          rintro e w3 ⟨rfl, hb3⟩
          have HB3 := Lib.hid hb3
          have hc0 := (HRr.out.below HGr.out hb3).1
          have HRD := Lib.hid (Read_good w3 _ base gd F D blk (HDr.out.below hb3) HBK.out hdn hpd)
          clear hb3
          go_wp2_with fail
          refine HRD.out.mono ?_
          rintro e w4 ⟨v4, rfl, ho4, hb4⟩
          rw [← HLL.out] at ho4
          obtain ⟨A4, c4, rfl, br4, hc4, _⟩ := ho4.formN HL.out
          have HB4 := Lib.hid (gr_trans HB3.out hb4)
          have HOP := Lib.hid (Open_any A4 c4 l w4 br4 hc4)
          clear ho4 hb4 br4 hc4 HRD HPC hc0
          go_wp2_with fail
          refine HOP.out.mono ?_
          rintro e w5 ⟨r5, rfl, ob5, hb5⟩
          have HB5 := Lib.hid (gr_trans HB4.out hb5)
          have HOB5 := Lib.hid ob5
          clear ob5 hb5 HOP
          by_cases he : openE l = 0
          · by_cases hs : openS l = num
            · have HPL := Lib.hid (openP_len HL.out he)
              obtain ⟨A5, c5, rfl, br5, hc5, hc5m⟩ := HOB5.out.formN HPL.out
              have HBR5 := Lib.hid br5
              have hu := U32_any A5 4080 c5 (openP l) w5 0 br5 (by omega) (by omega) (by omega)
              rw [numAt_sN HPL.out] at hu
              have hsn := sN_lt l
              have HGO := Lib.hid (HSTEP.out he hs)
              rw [Option.getD_some, Option.isSome_some] at hu
              have hcut := fun j => HBR5.out.cut (k := 4) (j := j) (c := c5)
              have HOBw := Lib.hid (HOB.out.below HB5.out)
              have HBw := Lib.hid (HBr.out.trans (HB5.out.mono HBr.out.size))
              have HBD := Lib.hid (fun h => HBAD.out (.inr h))
              clear HSTEP HBAD br5
              rw [he, hs]
              generalize sN l = sn at *
              have HU := Lib.hid hu
              have t6 : ((num : Int) != (num : Int)) = false := by simp
              have hw0 : IntKind.i64.wrap (sn : Int) = (sn : Int) := by rw [IntKind.wrap_i64]; omega
              clear he hs hu
              by_cases hs0 : sn = 0
              · have HN : Hid (res = none) := Lib.hid (HBD.out (.inl hs0))
                have ts0 : ((sn : Int) == 0) = true := beq_iff_eq.2 (by omega)
                clear hs0 hcut
                go_wp2_with fail
                refine HU.out.mono ?_
                rintro e w6 ⟨rfl, rfl⟩
                go_wp2_with fail
                go_ret3
                exact ⟨.slice none 0 0, by rw [HN.out]; rfl, by rw [HN.out]; exact ORW.nil _ _, gr_trans HBW.out HB5.out⟩
              · have ts0 : ((sn : Int) == 0) = false := beq_eq_false_iff_ne.2 (by omega)
                by_cases hs1 : 0 < i ∧ sn ≠ rest
                · exact absurd hs1.1 (by have := HZ.out; omega)
                · obtain ⟨hr, hhr⟩ : ∃ hr, hr = min sn 4076 := ⟨_, rfl⟩
                  have hmin : (if (4076 : Int) < (sn : Int) then (4076 : Int) else (sn : Int)) = (hr : Int) := by split <;> omega
                  have hrl : hr ≤ 4076 ∧ hr ≤ sn := by omega
                  have hcl := fun W => run_cut_lh (P := Try.prog) W 30 5 i0 Try.underlying30 hi0 1 hz1 A5 4080 c5 4 (4 + (hr : Int)) 4 (4 + hr) rfl (by omega) (by omega) (by omega)
                  have hbc := hcut (4 + hr) (by omega) (by omega) hc5
                  rw [show 4 + hr - 4 = hr by omega] at hbc
                  simp only [show 4 + hr - 4 = hr by omega] at hcl
                  have HBC := Lib.hid hbc
                  have HHR := Lib.hid hhr
                  have HQ3 : Hid (¬ (0 < i ∧ sn ≠ rest)) := Lib.hid hs1
                  have HS0 := Lib.hid hs0
                  have hwa : IntKind.i64.wrap (4 + (hr : Int)) = 4 + (hr : Int) := by rw [IntKind.wrap_i64]; omega
                  have hs63 := HBw.out.size
                  have HZ2 := Lib.hid HZ.out
                  clear hs0 hs1 hcut hhr hbc
                  go_wp2_with fail
                  refine HU.out.mono ?_
                  rintro e w6 ⟨rfl, rfl⟩
                  go_upto_region 21 with fail
                  go_wp2_with (at_builtin; refine wpList_append_B _ rfl (.tmp 93) (.tmp 97) rfl rfl HOBw.out rfl HBC.out (by omega) hs63 ?_; intro A7 c7 w7 L HL7 hq7 o7 bb7 _; have HO7 := Lib.hid o7; have HB7 := Lib.hid (HBw.out.trans bb7); clear o7 bb7)
                  have HG := HGO.out HS0.out (by have := HQ3.out; omega)
                  go_roundw
                  case rel =>
                    refine ⟨i + 1, sn - hr, L, A7, c7, by have := HIX.out; omega, by omega, by rw [hq7], by go_num, by go_num, ?_, HO7, HB7, Lib.hid (fun h => ?_), Lib.hid (fun _ h => ?_)⟩
                    · have := HAL.out; omega
                    · have hm := HHR.out
                      rw [HG, if_neg (by omega), HL7.out, show hr = 4076 by omega]
                    · have hm := HHR.out
                      rw [HG, if_pos (by omega), HL7.out, show hr = sn by omega]
                  case measure => simp [intOf]; omega
            · have HN : Hid (res = none) := Lib.hid (HBAD.out (.inl (.inr hs)))
              have t6 : ((openS l : Int) != (num : Int)) = true := by rw [bne_iff_ne]; omega
              rw [he]
              clear he hs HSTEP HBAD
              go_wp2_with fail
              go_ret3
              exact ⟨.slice none 0 0, by rw [HN.out]; rfl, by rw [HN.out]; exact ORW.nil _ _, gr_trans HBW.out HB5.out⟩
          · have HN : Hid (res = none) := Lib.hid (HBAD.out (.inl (.inl he)))
            have t6 : (openE l != 0) = true := by rw [bne_iff_ne]; exact he
            clear he HSTEP HBAD
            go_wp2_with fail
            go_ret3
            exact ⟨.slice none 0 0, by rw [HN.out]; rfl, by rw [HN.out]; exact ORW.nil _ _, gr_trans HBW.out HB5.out⟩
        · have t1 : ((i : Int) == 0) = false := beq_eq_false_iff_ne.2 (by omega)
          have t2 : decide (0 < rest) = true := decide_eq_true (by omega)
          have HZ := Lib.hid hz
          have tip : decide (0 < i) = true := decide_eq_true (by omega)
          clear hz hgo hlt
          go_wp2_with fail
          refine HPC.out.mono ?_
          rintro e w3 ⟨rfl, hb3⟩
          have HB3 := Lib.hid hb3
          have hc0 := (HRr.out.below HGr.out hb3).1
          have HRD := Lib.hid (Read_good w3 _ base gd F D blk (HDr.out.below hb3) HBK.out hdn hpd)
          clear hb3
          go_wp2_with fail
          refine HRD.out.mono ?_
          rintro e w4 ⟨v4, rfl, ho4, hb4⟩
          rw [← HLL.out] at ho4
          obtain ⟨A4, c4, rfl, br4, hc4, _⟩ := ho4.formN HL.out
          have HB4 := Lib.hid (gr_trans HB3.out hb4)
          have HOP := Lib.hid (Open_any A4 c4 l w4 br4 hc4)
          clear ho4 hb4 br4 hc4 HRD HPC hc0
          go_wp2_with fail
          refine HOP.out.mono ?_
          rintro e w5 ⟨r5, rfl, ob5, hb5⟩
          have HB5 := Lib.hid (gr_trans HB4.out hb5)
          have HOB5 := Lib.hid ob5
          clear ob5 hb5 HOP
          by_cases he : openE l = 0
          · by_cases hs : openS l = num
            · have HPL := Lib.hid (openP_len HL.out he)
              obtain ⟨A5, c5, rfl, br5, hc5, hc5m⟩ := HOB5.out.formN HPL.out
              have HBR5 := Lib.hid br5
              have hu := U32_any A5 4080 c5 (openP l) w5 0 br5 (by omega) (by omega) (by omega)
              rw [numAt_sN HPL.out] at hu
              have hsn := sN_lt l
              have HGO := Lib.hid (HSTEP.out he hs)
              rw [Option.getD_some, Option.isSome_some] at hu
              have hcut := fun j => HBR5.out.cut (k := 4) (j := j) (c := c5)
              have HOBw := Lib.hid (HOB.out.below HB5.out)
              have HBw := Lib.hid (HBr.out.trans (HB5.out.mono HBr.out.size))
              have HBD := Lib.hid (fun h => HBAD.out (.inr h))
              clear HSTEP HBAD br5
              rw [he, hs]
              generalize sN l = sn at *
              have HU := Lib.hid hu
              have t6 : ((num : Int) != (num : Int)) = false := by simp
              have hw0 : IntKind.i64.wrap (sn : Int) = (sn : Int) := by rw [IntKind.wrap_i64]; omega
              clear he hs hu
              by_cases hs0 : sn = 0
              · have HN : Hid (res = none) := Lib.hid (HBD.out (.inl hs0))
                have ts0 : ((sn : Int) == 0) = true := beq_iff_eq.2 (by omega)
                clear hs0 hcut
                go_wp2_with fail
                refine HU.out.mono ?_
                rintro e w6 ⟨rfl, rfl⟩
                go_wp2_with fail
                go_ret3
                exact ⟨.slice none 0 0, by rw [HN.out]; rfl, by rw [HN.out]; exact ORW.nil _ _, gr_trans HBW.out HB5.out⟩
              · have ts0 : ((sn : Int) == 0) = false := beq_eq_false_iff_ne.2 (by omega)
                by_cases hs1 : 0 < i ∧ sn ≠ rest
                · have HN : Hid (res = none) := Lib.hid (HBD.out (.inr hs1))
                  have ts1 : ((sn : Int) != (rest : Int)) = true := by rw [bne_iff_ne]; omega
                  clear hs0 hs1 hcut
                  go_wp2_with fail
                  refine HU.out.mono ?_
                  rintro e w6 ⟨rfl, rfl⟩
                  go_wp2_with fail
                  go_ret3
                  exact ⟨.slice none 0 0, by rw [HN.out]; rfl, by rw [HN.out]; exact ORW.nil _ _, gr_trans HBW.out HB5.out⟩
                · obtain ⟨hr, hhr⟩ : ∃ hr, hr = min sn 4076 := ⟨_, rfl⟩
                  have hmin : (if (4076 : Int) < (sn : Int) then (4076 : Int) else (sn : Int)) = (hr : Int) := by split <;> omega
                  have hrl : hr ≤ 4076 ∧ hr ≤ sn := by omega
                  have hcl := fun W => run_cut_lh (P := Try.prog) W 30 5 i0 Try.underlying30 hi0 1 hz1 A5 4080 c5 4 (4 + (hr : Int)) 4 (4 + hr) rfl (by omega) (by omega) (by omega)
                  have hbc := hcut (4 + hr) (by omega) (by omega) hc5
                  rw [show 4 + hr - 4 = hr by omega] at hbc
                  simp only [show 4 + hr - 4 = hr by omega] at hcl
                  have HBC := Lib.hid hbc
                  have HHR := Lib.hid hhr
                  have HQ3 : Hid (¬ (0 < i ∧ sn ≠ rest)) := Lib.hid hs1
                  have HS0 := Lib.hid hs0
                  have hwa : IntKind.i64.wrap (4 + (hr : Int)) = 4 + (hr : Int) := by rw [IntKind.wrap_i64]; omega
                  have hs63 := HBw.out.size
                  have ts1 : ((sn : Int) != (rest : Int)) = false := by rw [bne_eq_false_iff_eq]; have := HZ.out; omega
                  clear hs0 hs1 hcut hhr hbc
                  go_wp2_with fail
                  refine HU.out.mono ?_
                  rintro e w6 ⟨rfl, rfl⟩
                  go_upto_region 21 with fail
                  go_wp2_with (at_builtin; refine wpList_append_B _ rfl (.tmp 93) (.tmp 97) rfl rfl HOBw.out rfl HBC.out (by omega) hs63 ?_; intro A7 c7 w7 L HL7 hq7 o7 bb7 _; have HO7 := Lib.hid o7; have HB7 := Lib.hid (HBw.out.trans bb7); clear o7 bb7)
                  have HG := HGO.out HS0.out (by have := HQ3.out; omega)
                  go_roundw
                  case rel =>
                    refine ⟨i + 1, sn - hr, L, A7, c7, by have := HIX.out; omega, by omega, by rw [hq7], by go_num, by go_num, ?_, HO7, HB7, Lib.hid (fun h => ?_), Lib.hid (fun _ h => ?_)⟩
                    · have := HAL.out; omega
                    · have hm := HHR.out
                      rw [HG, if_neg (by omega), HL7.out, show hr = 4076 by omega]
                    · have hm := HHR.out
                      rw [HG, if_pos (by omega), HL7.out, show hr = sn by omega]
                  case measure => simp [intOf]; omega
            · have HN : Hid (res = none) := Lib.hid (HBAD.out (.inl (.inr hs)))
              have t6 : ((openS l : Int) != (num : Int)) = true := by rw [bne_iff_ne]; omega
              rw [he]
              clear he hs HSTEP HBAD
              go_wp2_with fail
              go_ret3
              exact ⟨.slice none 0 0, by rw [HN.out]; rfl, by rw [HN.out]; exact ORW.nil _ _, gr_trans HBW.out HB5.out⟩
          · have HN : Hid (res = none) := Lib.hid (HBAD.out (.inl (.inl he)))
            have t6 : (openE l != 0) = true := by rw [bne_iff_ne]; exact he
            clear he HSTEP HBAD
            go_wp2_with fail
            go_ret3
            exact ⟨.slice none 0 0, by rw [HN.out]; rfl, by rw [HN.out]; exact ORW.nil _ _, gr_trans HBW.out HB5.out⟩
      · obtain rfl : i = room := by omega
        have tlt : decide ((i : Int) ≤ (i : Int)) = true := decide_eq_true (by omega)
        have HN : Hid (res = none) := Lib.hid (by rw [HQ.out, Nat.sub_self]; rfl)
        by_cases hz : i = 0
        · have t1 : ((i : Int) == 0) = true := beq_iff_eq.2 (by omega)
          clear hgo HQ1 HQ2 HQ
          go_wp2_with fail
          go_ret3
          exact ⟨.slice none 0 0, by rw [HN.out]; rfl, by rw [HN.out]; exact ORW.nil _ _, HBW.out⟩
        · have t1 : ((i : Int) == 0) = false := beq_eq_false_iff_ne.2 (by omega)
          have t2 : decide (0 < rest) = true := decide_eq_true (by omega)
          clear hgo HQ1 HQ2 HQ
          go_wp2_with fail
          go_ret3
          exact ⟨.slice none 0 0, by rw [HN.out]; rfl, by rw [HN.out]; exact ORW.nil _ _, HBW.out⟩
    · have hip : 0 < i := by omega
      obtain rfl : rest = 0 := by omega
      have HS := Lib.hid (HQ2.out hip rfl)
      have t1 : ((i : Int) == 0) = false := beq_eq_false_iff_ne.2 (by omega)
      have t2 : decide ((0 : Int) < ((0 : Nat) : Int)) = false := by decide
      have t3 : decide ((0 : Int) < 0) = false := by decide
      obtain ⟨A', c', e', br, hnc, hcm⟩ := HOB.out.form
      injection e' with e1 e2 e3
      subst e1 e3
      have HBRA := Lib.hid br
      have HNC := Lib.hid hnc
      have HCM := Lib.hid (show c ≤ 9223372036854775807 from hcm)
      clear hgo HQ1 HQ2 br hnc hcm
      generalize hm : acc.length = m at HBRA HNC ha1 ⊢
      have HM := Lib.hid hm
      clear hm
      have HALL := Lib.hid (All_any A m c acc wr HBRA.out (by omega) HNC.out HCM.out)
      go_wp2_with fail
      refine HALL.out.mono ?_
      rintro e w5 ⟨v5, rfl, ho5, hb5⟩
      have HO5 := Lib.hid ho5
      have HB5 := Lib.hid (gr_trans HBW.out hb5)
      clear ho5 hb5
      by_cases he : allE acc = 0
      · have HN : Hid (rdN res = needL m ∧ rdR res = allR acc) := Lib.hid (by rw [HS.out]; unfold rdN rdR; dsimp only; rw [if_pos he, if_pos he, HM.out]; exact ⟨rfl, rfl⟩)
        rw [he]
        clear he
        go_wp2_with fail
        refine (needs_any m w5 (by omega)).mono ?_
        rintro e w6 ⟨rfl, rfl⟩
        go_wp2_with fail
        go_ret3
        exact ⟨v5, by rw [HN.out.1]; rfl, by rw [HN.out.2]; exact HO5.out.lower HBW.out.size, HB5.out⟩
      · have HN : Hid (rdN res = 0 ∧ rdR res = []) := Lib.hid (by rw [HS.out]; unfold rdN rdR; dsimp only; rw [if_neg he, if_neg he]; exact ⟨rfl, rfl⟩)
        have t4 : ((allE acc : Int) != 0) = true := by rw [bne_iff_ne]; omega
        clear he
        go_wp2_with fail
        go_ret3
        exact ⟨.slice none 0 0, by rw [HN.out.1]; rfl, by rw [HN.out.2]; exact ORW.nil _ _, HB5.out⟩
end Go.Proofs.Ytlopcmmbkfjidaa
