/-
  What Decode tells of bytes that Encode wrote, whole, followed, cut; and what it read is written the same. An append of bytes up to 200 million million.
-/
import Derived.Test.YthpjjoahffagcaaRdL
namespace Go.Proofs.Ythpjjoahffagcaa
open Go.RowKit

theorem body_len {b : List UInt8} (h : ¬ short b) : (body b).length = said b := by
  unfold short at h
  unfold body
  rw [List.length_take, List.length_drop]
  omega
theorem said_enc {r : Rec} (h : r.right = true) (b : List UInt8) : said (encR r ++ b) = (encB r).length := by
  have hs := encB_small h
  unfold said encR
  rw [List.append_assoc, List.take_append_of_le_length (by rw [leB_length]; exact Nat.le_refl _), List.take_of_length_le (by rw [leB_length]; exact Nat.le_refl _), leN_leB, Nat.mod_eq_of_lt (by omega)]
theorem encR_len (r : Rec) : (encR r).length = 4 + (encB r).length := by
  unfold encR
  rw [List.length_append, leB_length]
theorem body_enc {r : Rec} (h : r.right = true) (b : List UInt8) : body (encR r ++ b) = encB r := by
  unfold body
  rw [said_enc h b]
  unfold encR
  rw [List.append_assoc, List.drop_left' (leB_length _ _), List.take_left' rfl]
theorem dec_back {r : Rec} (h : r.right = true) (b : List UInt8) : decE (encR r ++ b) = 0 ∧ decN (encR r ++ b) = (encR r).length ∧ decR (encR r ++ b) = r := by
  have hs : ¬ short (encR r ++ b) := by
    unfold short
    rw [said_enc h b, List.length_append, encR_len]
    omega
  have hp := pRecord_c h
  have hf : fine (encR r ++ b) := by
    unfold fine
    rw [body_enc h b, said_enc h b, hp]
    exact ⟨rfl, h⟩
  unfold decE decN decR
  rw [if_neg hs, if_pos hf, if_neg hs, if_pos hf, if_neg hs, if_pos hf, body_enc h b, said_enc h b, hp, encR_len]
  exact ⟨rfl, rfl, rfl⟩
theorem dec_short {r : Rec} (h : r.right = true) {p : Nat} (hp : p < (encR r).length) : decE ((encR r).take p) = 150 := by
  have hs : short ((encR r).take p) := by
    unfold short
    rw [List.length_take]
    by_cases h4 : p < 4
    · left; omega
    · right
      have e : said ((encR r).take p) = (encB r).length := by
        have := said_enc h []
        rw [List.append_nil] at this
        rw [← this]
        unfold said
        rw [List.take_take, Nat.min_eq_left (by omega)]
      rw [e]
      rw [encR_len] at hp ⊢
      omega
  unfold decE
  rw [if_pos hs]
theorem dec_own {b : List UInt8} (h : decE b = 0) : (decR b).right = true ∧ decN b ≤ b.length ∧ encR (decR b) = b.take (decN b) := by
  have hle := (decN_le h).2
  unfold decE at h
  split at h
  · omega
  · split at h
    · rename_i hs hf
      have hl := body_len hs
      have e0 : decR b = (pRecord (body b)).1 := by unfold decR; rw [if_neg hs, if_pos hf]
      have eN : decN b = 4 + said b := by unfold decN; rw [if_neg hs, if_pos hf]
      have hb : body b = encB (pRecord (body b)).1 := pRecord_s (r := (pRecord (body b)).1) (by rw [hl, ← hf.1]) hf.2
      rw [e0]
      refine ⟨hf.2, hle, ?_⟩
      unfold encR
      rw [← hb, hl, eN]
      have h4 : (b.take 4).length = 4 := by
        unfold short at hs
        rw [List.length_take]
        omega
      have h5 : leB (said b) 4 = b.take 4 := by
        have := leB_leN (b.take 4)
        rw [h4] at this
        exact this
      rw [h5]
      unfold body
      rw [List.take_add]
    · omega
theorem decE_not {b : List UInt8} (h : decE b ≠ 0) : decN b = 0 ∧ (decE b = 150 ∨ decE b = 151) := by
  unfold decE at h ⊢
  unfold decN
  split at h
  · rename_i hs
    rw [if_pos hs, if_pos hs]
    exact ⟨rfl, .inl rfl⟩
  · rename_i hs
    split at h
    · omega
    · rename_i hf
      rw [if_neg hs, if_neg hf, if_neg hs, if_neg hf]
      exact ⟨rfl, .inr rfl⟩

/-- Appending bytes to bytes of one's own, many. -/
theorem wpList_append_M (w : World) {ops : Array Oper} {rest : List Oper} {o : Oper} {a : Act} {Q : Exit → Act → World → Prop} (hgd : o.guard = none) (s x : Operand)
    (ho : o.op = .call { callee := .builtin .append, args := #[s, x], argTypes := #[26, 26] })
    {base : Nat} {v : Value} {l m : List UInt8} (hs : a.eval s = v) (hv : OB w base v l) {A : Option Addr} {n c : Nat} (hx : a.eval x = .slice A n c) (hr : BR w A n m) (hsz : l.length + n ≤ 200000000000000) (hbase : base ≤ w.heap.size)
    (h : ∀ A' c' w', BR w' A' (l.length + n) (l ++ m) → l.length + n ≤ c' → c' ≤ maxLen → Below base w w' → NB w w' → wpList Try.prog ops Q rest (a.put o.dst (.slice A' (l.length + n) c')) w') : wpList Try.prog ops Q (o :: rest) a w := by
  obtain ⟨i0, hi0, hz0, hz1, hz2⟩ := info_parts info_u8
  have hlen : (l ++ m).length = l.length + n := by rw [List.length_append, hr.len]
  refine wpList_append_Rd w hgd s x 26 ho base 5 i0 _ 1 1 Try.underlying26 hi0 hz0 hz1 hz2 rfl v l.length (l.map bv) hs hv A n c (m.map bv) hx hr (one_bv _) (by omega) (by simp only [maxLen]; omega) hbase ?_
  intro v' w' hown hg _ _
  have ho' : OB w' base v' (l ++ m) := by
    unfold OB
    rw [hlen, List.map_append]
    exact hown
  obtain ⟨A', c', rfl, b1, b2, b3⟩ := ho'.formN hlen
  refine h A' c' w' b1 b2 b3 ⟨hg.os, hg.tape, hg.output, hg.size, fun k hk => hg.block k (Nat.lt_of_lt_of_le hk hbase) (fun e => ?_)⟩ (fun k cs t fr ht hk => (hg.block k (Array.getElem?_eq_some_iff.1 hk).1 (fun e => ?_)).trans hk)
  · have := (hv.lt k e.symm).1
    omega
  · obtain ⟨cur, hc⟩ := own_blk hv e.symm
    exact cells_ne hk hc ht

end Go.Proofs.Ythpjjoahffagcaa
