/-
  Contract: octets.number where all the bytes are there.
-/
import Derived.Test.YthpjjoahffagcaaOctB
namespace Go.Proofs.Ythpjjoahffagcaa
open Go.RowKit

theorem leN_snoc (l : List UInt8) (x : UInt8) : leN (l ++ [x]) = leN l + 256 ^ l.length * x.toNat := by
  rw [leN_append]; simp [leN]

theorem pow256 (j : Nat) : (256 : Nat) ^ j = 2 ^ (8 * j) := by rw [Nat.pow_mul]

/-- v | x << 8j, where v has but the bits below. -/
theorem or_shl (j a x : Nat) (hj : j < 8) (hx : x < 256) (ha : a < 256 ^ j) :
    bits .or .u64 (a : Int) (IntKind.u64.wrap (IntKind.u64.wrap (x : Int) * 2 ^ (8 * j))) = ((a + 256 ^ j * x : Nat) : Int) := by
  have hp : 2 ^ (8 * j) ≤ 2 ^ 56 := Nat.pow_le_pow_right (by decide) (by omega)
  have e1 : IntKind.u64.wrap (x : Int) = (x : Int) := by rw [IntKind.wrap_u64]; omega
  have hb : x * 2 ^ (8 * j) < 18446744073709551616 := by
    have h1 : x * 2 ^ (8 * j) ≤ 255 * 2 ^ 56 := Nat.mul_le_mul (by omega) hp
    have h2 : (255 * 2 ^ 56 : Nat) < 18446744073709551616 := by decide
    omega
  have e2 : IntKind.u64.wrap ((x : Int) * 2 ^ (8 * j)) = ((x * 2 ^ (8 * j) : Nat) : Int) := by
    rw [IntKind.wrap_u64]
    have : (x : Int) * 2 ^ (8 * j) = ((x * 2 ^ (8 * j) : Nat) : Int) := by simp
    rw [this]
    omega
  rw [pow256] at ha ⊢
  have ha' : a < 18446744073709551616 := by
    have : (2 ^ 56 : Nat) < 18446744073709551616 := by decide
    omega
  rw [e1, e2, u64_or_nat _ _ ha' hb, Nat.or_comm, nat_join (8 * j) _ _ (by simp) ha]
  congr 1
  rw [Nat.mul_comm, Nat.add_comm]

theorem take_step (l : List UInt8) (j : Nat) (h : j < l.length) : l.take (j + 1) = l.take j ++ [l.getD j 0] := by
  rw [List.take_succ_eq_append_getElem h]; simp [List.getD, List.getElem?_eq_getElem h]

set_option maxHeartbeats 400000 in
theorem number_some (A : Option Addr) (n c : Nat) (l : List UInt8) (w : World) (k s : Nat) (ha : BR w A n l) (hn : n ≤ 9223372036854775807) (h8 : s ≤ 8) (h : k + s ≤ n) :
    Calls Try.prog 56 #[.slice A n c, .int .i64 k, .int .i64 s] w fun e w' => e = .returned (.tuple #[.int .u64 (leN ((l.drop k).take s)), .bool true]) ∧ w = w' := by
  have h1' : decide ((k : Int) < 0) = false := by simp
  have h2 : decide ((n : Int) - s < k) = false := by simp; omega
  go_enter Try.func56, Try.ntmps56
  go_wp2
  go_loop [8, 9, 21] (fun v _ i => ∃ j : Nat, j ≤ s ∧ i = .int .i64 j ∧ v = .int .u64 (leN ((l.drop k).take j))) (fun _ _ i => s - (intOf i).toNat)
  case atStart => exact ⟨0, Nat.zero_le _, rfl, rfl⟩
  case round =>
    obtain ⟨j, hj, rfl, rfl⟩ := hrel
    by_cases hlt : j < s
    · obtain ⟨g, o, rfl, hc⟩ := ha.at_ (k := k + j) (by omega)
      go_wp2
      go_round
      case rel =>
        refine ⟨j + 1, by omega, by go_num, ?_⟩
        have hl := ha.len
        have hd : j < (l.drop k).length := by rw [List.length_drop]; omega
        rw [take_step _ _ hd, leN_snoc]
        have hlt := leN_lt ((l.drop k).take j)
        have hlen : ((l.drop k).take j).length = j := by rw [List.length_take]; omega
        rw [hlen] at hlt ⊢
        rw [or_shl j _ _ (by omega) (UInt8.toNat_lt _) hlt]
        simp [List.getD, List.getElem?_drop]
      case measure => simp [intOf]; omega
    · go_wp2
      go_ret2
      have : j = s := by omega
      subst this
      exact ⟨rfl, rfl⟩


/-- The number, as the document has it: none unless all bytes are there. -/
def numAt (l : List UInt8) (at_ : Int) (s : Nat) : Option Nat :=
  if at_ < 0 ∨ (l.length : Int) - s < at_ then none else some (leN ((l.drop at_.toNat).take s))

theorem number_any (A : Option Addr) (n c : Nat) (l : List UInt8) (w : World) (at_ : Int) (s : Nat) (ha : BR w A n l) (hn : n ≤ 9223372036854775807) (h8 : s ≤ 8) (hb : -9223372036854775808 ≤ at_) (hb2 : at_ ≤ 9223372036854775807) :
    Calls Try.prog 56 #[.slice A n c, .int .i64 at_, .int .i64 (s : Int)] w fun e w' =>
      e = .returned (.tuple #[.int .u64 (((numAt l at_ s).getD 0 : Nat) : Int), .bool (numAt l at_ s).isSome]) ∧ w = w' := by
  have hl := ha.len
  by_cases h : at_ < 0 ∨ (n : Int) - s < at_
  · refine (number_none A n c w at_ s hn (by omega) (by omega) h hb hb2).mono ?_
    rintro e w' ⟨rfl, rfl⟩
    have : numAt l at_ s = none := by unfold numAt; rw [hl, if_pos h]
    rw [this]
    exact ⟨rfl, rfl⟩
  · have hk : at_ = (at_.toNat : Int) := by omega
    have e : numAt l at_ s = some (leN ((l.drop at_.toNat).take s)) := by unfold numAt; rw [hl, if_neg h]
    rw [e]
    generalize at_.toNat = k at hk ⊢
    subst hk
    exact number_some A n c l w k s ha hn h8 (by omega)

theorem numAt_lt (l : List UInt8) (at_ : Int) (s : Nat) : (numAt l at_ s).getD 0 < 256 ^ s := by
  unfold numAt
  split
  · simpa using Nat.pow_pos (by decide)
  · have h := leN_lt ((l.drop at_.toNat).take s)
    have h2 : ((l.drop at_.toNat).take s).length ≤ s := by simp; omega
    exact Nat.lt_of_lt_of_le h (Nat.pow_le_pow_right (by decide) h2)

end Go.Proofs.Ythpjjoahffagcaa
