/-
  Contracts: octets.Part, octets.AddPart.
-/
import Derived.Test.YthpjjoahffagcaaOctE
namespace Go.Proofs.Ythpjjoahffagcaa
open Go.RowKit

/-- The part whose length stands at a place, and the place behind it. -/
def partAt (l : List UInt8) (at_ : Int) : Option (List UInt8 × Nat) :=
  match numAt l at_ 2 with
  | none => none
  | some k => if (l.length : Int) - (at_ + 2) < k then none else some ((l.drop (at_.toNat + 2)).take k, at_.toNat + 2 + k)

theorem numAt_some {l : List UInt8} {at_ : Int} {s x : Nat} (h : numAt l at_ s = some x) : 0 ≤ at_ ∧ at_ + s ≤ l.length ∧ x = leN ((l.drop at_.toNat).take s) ∧ x < 256 ^ s := by
  have hlt := numAt_lt l at_ s
  rw [h] at hlt
  unfold numAt at h
  split at h
  · cases h
  · injection h with h
    exact ⟨by omega, by omega, h.symm, by simpa using hlt⟩

set_option maxHeartbeats 400000 in
theorem Part_any (A : Option Addr) (n c : Nat) (l : List UInt8) (w : World) (at_ : Int) (ha : BR w A n l) (hnc : n ≤ c) (hn : n ≤ 211106232532992) (_hc : c ≤ 9223372036854775807) (hb : -9223372036854775808 ≤ at_) (hb2 : at_ ≤ 9223372036854775807) :
    Calls Try.prog 73 #[.slice A n c, .int .i64 at_] w fun e w' => ∃ v,
      e = .returned (.tuple #[v, .int .i64 ((((partAt l at_).map (·.2)).getD 0 : Nat) : Int), .bool (partAt l at_).isSome]) ∧ OB w' w.heap.size v (((partAt l at_).map (·.1)).getD []) ∧ Below w.heap.size w w' := by
  have hU := U16_any A n c l w at_ ha (by omega) hb hb2
  have hl := ha.len
  cases hk : numAt l at_ 2 with
  | none =>
    have hp : partAt l at_ = none := by unfold partAt; rw [hk]
    rw [hp]
    rw [hk] at hU
    have HU := Lib.hid hU
    clear hU hp hk
    go_enter Try.func73, Try.ntmps73
    go_wp2_with fail
    refine HU.out.mono ?_
    rintro e w' ⟨rfl, rfl⟩
    go_wp2
    go_ret3
    exact ⟨_, rfl, OB.nil _ _, Below.refl _ _⟩
  | some k =>
    obtain ⟨h0, h1, h2, h3⟩ := numAt_some hk
    have hk16 : k ≤ 65535 := by omega
    clear h2 h3
    rw [hk] at hU
    by_cases hs : (l.length : Int) - (at_ + 2) < k
    · have hp : partAt l at_ = none := by unfold partAt; rw [hk]; exact if_pos hs
      rw [hp]
      have HU := Lib.hid hU
      rw [hl] at hs h1
      have HL := Lib.hid hl
      clear hU hp hk hl
      go_enter Try.func73, Try.ntmps73
      go_wp2_with fail
      refine HU.out.mono ?_
      rintro e w' ⟨rfl, rfl⟩
      go_wp2
      go_ret3
      exact ⟨_, rfl, OB.nil _ _, Below.refl _ _⟩
    · have hp : partAt l at_ = some ((l.drop (at_.toNat + 2)).take k, at_.toNat + 2 + k) := by unfold partAt; rw [hk]; exact if_neg hs
      rw [hp]
      obtain ⟨a, rfl⟩ := Int.eq_ofNat_of_zero_le h0
      have HU := Lib.hid hU
      have hs1 : a + 2 + k ≤ n := by omega
      have hs2 : (k : Int) ≤ (n : Int) - ((a : Int) + 2) := by omega
      have HL := Lib.hid hl
      clear hU hp hk hl hs h1
      obtain ⟨i0, hi0, hz0, hz1, hz2⟩ := info_parts info_u8
      have hcut := fun W => run_cut_lh (P := Try.prog) W 26 5 i0 Try.underlying26 hi0 1 hz1 A n c ((a : Int) + 2) ((a : Int) + 2 + (k : Int)) (a + 2) (a + 2 + k) (by omega) (by omega) (by omega) (by omega)
      have ek : a + 2 + k - (a + 2) = k := by omega
      rw [ek] at hcut
      clear ek
      have hcl := Clone_any (cutA A c (a + 2) 1) k (c - (a + 2)) ((l.drop (a + 2)).take k) w (by have := ha.cut (k := a + 2) (j := a + 2 + k) (c := c) (by omega) (by omega) (by omega); rwa [show a + 2 + k - (a + 2) = k from by omega] at this) (by omega)
      have HC := Lib.hid hcl
      clear hcl
      go_enter Try.func73, Try.ntmps73
      go_wp2_with fail
      refine HU.out.mono ?_
      rintro e w' ⟨rfl, rfl⟩
      go_wp2_with fail
      refine HC.out.mono ?_
      rintro e w1 ⟨v1, rfl, ho1, hb1⟩
      go_wp2
      go_ret3
      refine ⟨v1, ?_, ?_, hb1⟩
      · simp
      · simpa using ho1


set_option maxHeartbeats 400000 in
theorem AddPart_long (A B : Option Addr) (n c m d : Nat) (w : World) (hm : 65535 < m) (hm2 : m ≤ 9223372036854775807) :
    Calls Try.prog 47 #[.slice A n c, .slice B m d] w fun e w' => e = .returned (.tuple #[.slice none 0 0, .int .i64 3]) ∧ w = w' := by
  go_enter Try.func47, Try.ntmps47
  go_wp2
  go_ret2
  exact ⟨rfl, rfl⟩

set_option maxHeartbeats 400000 in
theorem AddPart_fits (A B : Option Addr) (n c m d : Nat) (l p : List UInt8) (w : World) (ha : BR w A n l) (hp : BR w B m p) (hn : n ≤ 211106232467456) (hm : m ≤ 65535) :
    Calls Try.prog 47 #[.slice A n c, .slice B m d] w fun e w' => ∃ v, e = .returned (.tuple #[v, .int .i64 0]) ∧ OB w' w.heap.size v (l ++ leB m 2 ++ p) ∧ Below w.heap.size w w' := by
  obtain ⟨i0, hi0, hz0, hz1, hz2⟩ := info_parts info_u8
  have hadd := Add16_any A n c l w m ha (by omega) (by omega)
  have HA := Lib.hid hadd
  have hlen : (l ++ leB m 2).length ≤ n + 2 := by rw [List.length_append, leB_length, ha.len]; omega
  clear hadd
  go_enter Try.func47, Try.ntmps47
  go_wp2_with fail
  refine HA.out.mono ?_
  rintro e w1 ⟨v1, rfl, ho1, hb1⟩
  have hp1 := hp.below hb1
  go_wp2_with (at_builtin; refine wpList_append_Rd _ rfl _ _ _ rfl w.heap.size 5 i0 _ 1 1 Try.underlying26 hi0 hz0 hz1 hz2 rfl v1 (l ++ leB m 2).length _ rfl ho1 B m d _ rfl hp1 (one_bv p) (by omega) (by simp only [maxLen]; omega) hb1.size ?_; intro v2 w2 hown2 hg2 _ _)
  go_ret2
  refine ⟨v2, rfl, OB.of_own hown2 (by simp), hb1.grown hg2 hb1.size (fun k hk => (ho1.lt k hk).1)⟩

end Go.Proofs.Ythpjjoahffagcaa
