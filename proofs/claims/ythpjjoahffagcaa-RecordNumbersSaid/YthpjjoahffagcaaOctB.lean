/-
  Contracts: chancerylow.CopyBytes, slices.Clone of bytes, octets.number.
-/
import Derived.Test.YthpjjoahffagcaaOctA
namespace Go.Proofs.Ythpjjoahffagcaa
open Go.RowKit

/-- A length that a slice of bytes may have without an append of it passing Go's own bound. -/
def lenB : Nat := 211106232532992

set_option maxHeartbeats 400000 in
theorem CopyBytes_any (A : Option Addr) (n c : Nat) (l : List UInt8) (w : World) (ha : BR w A n l) (hn : n ≤ 211106232532992) :
    Calls Try.prog 31 #[.slice A n c] w fun e w' => ∃ v, e = .returned v ∧ OB w' w.heap.size v l ∧ Below w.heap.size w w' := by
  obtain ⟨i0, hi0, hz0, hz1, hz2⟩ := info_parts info_u8
  go_enter Try.func31, Try.ntmps31
  go_wp2_with (at_builtin; refine wpList_append_Rd _ rfl _ _ _ rfl w.heap.size 5 i0 _ 1 1 Try.underlying26 hi0 hz0 hz1 hz2 rfl (.slice none 0 0) 0 [] rfl ⟨rfl, .inl ⟨rfl, rfl⟩⟩ A n c _ rfl ha (one_bv l) (by omega) (by simp only [maxLen]; omega) (Nat.le_refl _) ?_; intro v1 w1 hown1 hg1 _ _)
  go_ret
  have hl := ha.len
  refine ⟨v1, rfl, ?_, (Below.refl _ _).grown hg1 (Nat.le_refl _) (by simp [Value.ownBlock])⟩
  unfold OB
  rw [hl]
  simpa using hown1

set_option maxHeartbeats 400000 in
theorem Clone_any (A : Option Addr) (n c : Nat) (l : List UInt8) (w : World) (ha : BR w A n l) (hn : n ≤ 211106232532992) :
    Calls Try.prog 37 #[.slice A n c] w fun e w' => ∃ v, e = .returned v ∧ OB w' w.heap.size v l ∧ Below w.heap.size w w' := by
  obtain ⟨i0, hi0, hz0, hz1, hz2⟩ := info_parts info_u8
  have q22 : ∀ (w : World) (a : Option Addr) (n c n' c' : Nat), (binOp .eql 26 (.slice a n c) (.slice none n' c')).run Try.prog w = .ok (.bool a.isNone) w := fun w a n c n' c' => Lib.run_eql_slice_nil w _ _ a n c n' c' Try.underlying26
  rcases A with _ | ad
  · have h0 : n = 0 := by
      rcases Nat.eq_zero_or_pos n with h0 | h0
      · exact h0
      · obtain ⟨ad, e, _⟩ := ha.2 h0
        cases e
    have : l = [] := List.eq_nil_of_length_eq_zero (by rw [ha.len]; exact h0)
    subst this
    go_enter Try.func37, Try.ntmps37
    go_wp2
    go_ret
    exact ⟨_, rfl, OB.nil _ _, Below.refl _ _⟩
  · go_enter Try.func37, Try.ntmps37
    go_wp2_with (at_builtin; refine wpList_append_Rd _ rfl _ _ _ rfl w.heap.size 5 i0 _ 1 1 Try.underlying26 hi0 hz0 hz1 hz2 rfl (.slice (some ⟨w.heap.size, 0, none⟩) 0 0) 0 [] rfl (World.ownsRow_made w #[] 0 (Nat.le_refl _) (Nat.zero_le _) rfl) (some ad) n c _ rfl (BR.alloc ha _) (one_bv l) (by omega) (by simp only [maxLen]; omega) (by simp) ?_; intro v1 w1 hown1 hg1 _ _)
    go_ret
    have hl := ha.len
    refine ⟨v1, rfl, ?_, ((Below.refl _ _).alloc (Nat.le_refl _) _).grown hg1 (by simp) (by simp [Value.ownBlock])⟩
    unfold OB
    rw [hl]
    simpa using hown1

/-- What so many bytes say, the lowest first. -/
def leN : List UInt8 → Nat
  | [] => 0
  | x :: l => x.toNat + 256 * leN l

theorem leN_append (l m : List UInt8) : leN (l ++ m) = leN l + 256 ^ l.length * leN m := by
  induction l with
  | nil => simp [leN]
  | cons x l ih => simp only [List.cons_append, leN, ih, List.length_cons, Nat.pow_succ, Nat.mul_add]; rw [Nat.add_assoc, Nat.mul_comm (256 ^ l.length) 256, Nat.mul_assoc]

theorem leN_lt (l : List UInt8) : leN l < 256 ^ l.length := by
  induction l with
  | nil => simp [leN]
  | cons x l ih => have := x.toNat_lt; simp only [leN, List.length_cons, Nat.pow_succ]; omega

set_option maxHeartbeats 400000 in
theorem number_none (A : Option Addr) (n c : Nat) (w : World) (at_ size : Int) (hn : n ≤ 9223372036854775807) (h0 : 0 ≤ size) (h8 : size ≤ 8) (h : at_ < 0 ∨ (n : Int) - size < at_) (hb : -9223372036854775808 ≤ at_) (hb2 : at_ ≤ 9223372036854775807) :
    Calls Try.prog 56 #[.slice A n c, .int .i64 at_, .int .i64 size] w fun e w' => e = .returned (.tuple #[.int .u64 0, .bool false]) ∧ w = w' := by
  by_cases h1 : at_ < 0
  · have h1' : decide (at_ < 0) = true := by simpa using h1
    go_enter Try.func56, Try.ntmps56
    go_wp2
    go_ret2
    exact ⟨rfl, rfl⟩
  · have h1' : decide (at_ < 0) = false := by simpa using h1
    have h2 : decide ((n : Int) - size < at_) = true := by simp; omega
    go_enter Try.func56, Try.ntmps56
    go_wp2
    go_ret2
    exact ⟨rfl, rfl⟩

end Go.Proofs.Ythpjjoahffagcaa
