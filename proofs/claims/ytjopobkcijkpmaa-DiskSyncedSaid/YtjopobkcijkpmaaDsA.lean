/-
  Plain law of DiskSynced: what a crash leaves is one of those that may stand there.
-/
import Derived.Test.YtjopobkcijkpmaaDkN
namespace Go.Proofs.Ytjopobkcijkpmaa
open Go.RowKit

/-- What each block may hold: every crash leaves one of them, and the last one is what is read. -/
structure MayI (torn : Int) (cut : Nat) (bs : List (List UInt8)) (ps : List (Nat × List UInt8)) (may : Nat → List (List UInt8)) : Prop where
  cr : ∀ keep b, b < 4 → (crashTo keep torn cut bs ps ps.length).getD b [] ∈ may b
  la : ∀ b, b < 4 → ∃ pre, may b = pre ++ [lastL bs ps b]
  bl : bs.length = 4
  ln : ∀ b, b < 4 → ∀ x ∈ may b, x.length = 4096
  pb : ∀ p ∈ ps, p.1 < 4 ∧ p.2.length = 4096

/-- What a write adds. -/
def mayW (torn : Int) (cut n : Nat) (may : Nat → List (List UInt8)) (b : Nat) (m : List UInt8) (j : Nat) : List (List UInt8) :=
  if j = b then may b ++ (if (n : Int) = torn then (may b).map (fun x => m.take cut ++ x.drop cut) else []) ++ [m] else may j

theorem crashTo_app (keep : List Bool) (torn : Int) (cut : Nat) (bs : List (List UInt8)) (ps qs : List (Nat × List UInt8)) : ∀ k, k ≤ ps.length → crashTo keep torn cut bs (ps ++ qs) k = crashTo keep torn cut bs ps k
  | 0, _ => rfl
  | k + 1, h => by
    unfold crashTo
    rw [crashTo_app keep torn cut bs ps qs k (by omega)]
    have : (ps ++ qs).getD k (0, []) = ps.getD k (0, []) := by simp [List.getD, List.getElem?_append_left (show k < ps.length by omega)]
    rw [this]
theorem lastL_snoc (bs : List (List UInt8)) (ps : List (Nat × List UInt8)) (b j : Nat) (m : List UInt8) : lastL bs (ps ++ [(b, m)]) j = if b = j then m else lastL bs ps j := by
  unfold lastL
  rw [List.foldl_append]
  rfl

theorem MayI.new (torn : Int) (cut : Nat) : MayI torn cut (List.replicate 4 zer) [] (fun _ => [zer]) := by
  have hz : ∀ b, b < 4 → (List.replicate 4 zer).getD b [] = zer := fun b hb => by
    have : (List.replicate 4 zer)[b]? = some zer := List.getElem?_replicate_of_lt hb
    simp only [List.getD, this, Option.getD_some]
  refine ⟨fun keep b hb => ?_, fun b hb => ⟨[], ?_⟩, by simp, fun b hb x hx => ?_, fun p hp => by cases hp⟩
  · show (List.replicate 4 zer).getD b [] ∈ [zer]
    rw [hz b hb]
    simp
  · show [zer] = [lastL _ [] b]
    unfold lastL
    rw [List.foldl_nil, hz b hb]
  · simp at hx
    rw [hx]
    exact zer_len
theorem MayI.sync {torn : Int} {cut : Nat} {bs : List (List UInt8)} {ps : List (Nat × List UInt8)} {may : Nat → List (List UInt8)} (h : MayI torn cut bs ps may) : MayI torn cut (carry bs ps) [] (fun b => [lastL bs ps b]) := by
  have hl : (carry bs ps).length = 4 := by
    have : ∀ (ps : List (Nat × List UInt8)) (bs : List (List UInt8)), (carry bs ps).length = bs.length := by
      intro ps
      induction ps with
      | nil => intro bs; rfl
      | cons p ps ih => intro bs; have := ih (bs.set p.1 p.2); rw [List.length_set] at this; exact this
    rw [this, h.bl]
  refine ⟨fun keep b hb => ?_, fun b hb => ⟨[], ?_⟩, hl, fun b hb x hx => ?_, fun p hp => by cases hp⟩
  · show (carry bs ps).getD b [] ∈ _
    rw [carry_at ps bs b (by rw [h.bl]; exact hb)]
    simp
  · show [lastL bs ps b] = [lastL (carry bs ps) [] b]
    unfold lastL
    rw [List.foldl_nil, carry_at ps bs b (by rw [h.bl]; exact hb)]
    rfl
  · simp at hx
    obtain ⟨pre, e⟩ := h.la b hb
    exact h.ln b hb x (by rw [e, hx]; simp)
theorem MayI.write {torn : Int} {cut : Nat} {bs : List (List UInt8)} {ps : List (Nat × List UInt8)} {may : Nat → List (List UInt8)} (h : MayI torn cut bs ps may) (hc : cut ≤ 4096) {b : Nat} (hb : b < 4) {m : List UInt8} (hm : m.length = 4096) : MayI torn cut bs (ps ++ [(b, m)]) (mayW torn cut ps.length may b m) := by
  have hmem : ∀ j, j < 4 → ∀ x ∈ may j, x ∈ mayW torn cut ps.length may b m j := by
    intro j _ x hx
    unfold mayW
    split
    · rename_i e
      subst e
      simp [hx]
    · exact hx
  refine ⟨fun keep j hj => ?_, fun j hj => ?_, h.bl, fun j hj x hx => ?_, fun p hp => ?_⟩
  · have hX := h.cr keep j hj
    have hXb := h.cr keep b hb
    have hlen := crashTo_len keep torn cut bs ps ps.length
    rw [List.length_append, List.length_singleton]
    unfold crashTo
    rw [crashTo_app keep torn cut bs ps [(b, m)] ps.length (Nat.le_refl _)]
    have e0 : (ps ++ [(b, m)]).getD ps.length (0, []) = (b, m) := by simp [List.getD]
    rw [e0]
    generalize crashTo keep torn cut bs ps ps.length = cs at *
    unfold crash1
    have hset : ∀ y : List UInt8, (cs.set b y).getD j [] = if b = j then y else cs.getD j [] := by
      intro y
      simp only [List.getD, List.getElem?_set]
      by_cases e : b = j
      · rw [if_pos e, if_pos e, if_pos (by rw [hlen, h.bl]; exact hb)]
        rfl
      · rw [if_neg e, if_neg e]
    split
    · rename_i ht
      rw [hset]
      by_cases e : b = j
      · rw [if_pos e]
        subst e
        unfold mayW
        rw [if_pos rfl, if_pos ht]
        refine List.mem_append.2 (.inl (List.mem_append.2 (.inr (List.mem_map.2 ⟨_, hXb, rfl⟩))))
      · rw [if_neg e]
        exact hmem j hj _ hX
    · split
      · rw [hset]
        by_cases e : b = j
        · rw [if_pos e]
          subst e
          unfold mayW
          rw [if_pos rfl]
          simp
        · rw [if_neg e]
          exact hmem j hj _ hX
      · exact hmem j hj _ hX
  · rw [lastL_snoc]
    unfold mayW
    by_cases e : b = j
    · rw [if_pos e, if_pos e.symm]
      exact ⟨_, rfl⟩
    · rw [if_neg e, if_neg (Ne.symm e)]
      exact h.la j hj
  · unfold mayW at hx
    split at hx
    · rcases List.mem_append.1 hx with hx | hx
      · rcases List.mem_append.1 hx with hx | hx
        · exact h.ln b hb x hx
        · split at hx
          · obtain ⟨y, hy, rfl⟩ := List.mem_map.1 hx
            have := h.ln b hb y hy
            rw [List.length_append, List.length_take, List.length_drop]
            omega
          · cases hx
      · simp at hx
        rw [hx]
        exact hm
    · exact h.ln j hj x hx
  · rcases List.mem_append.1 hp with hp | hp
    · exact h.pb p hp
    · simp at hp
      subst hp
      exact ⟨hb, hm⟩

end Go.Proofs.Ytjopobkcijkpmaa
