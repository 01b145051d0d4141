/-
  Contracts: chanceryref01.Number, chanceryref01.Add, chanceryref01.AddPart.
-/
import Derived.Test.YthpjjoahffagcaaOctG
namespace Go.Proofs.Ythpjjoahffagcaa
open Go.RowKit

set_option maxHeartbeats 400000 in
theorem refNumber_none (A : Option Addr) (n c : Nat) (w : World) (at_ size : Int) (hn : n ≤ 9223372036854775807) (h0 : 0 ≤ size) (h8 : size ≤ 8) (h : at_ < 0 ∨ (n : Int) - size < at_) (hb : -9223372036854775808 ≤ at_) (hb2 : at_ ≤ 9223372036854775807) :
    Calls Try.prog 41 #[.slice A n c, .int .i64 at_, .int .i64 size] w fun e w' => e = .returned (.tuple #[.int .u64 0, .bool false]) ∧ w = w' := by
  by_cases h1 : at_ < 0
  · have h1' : decide (at_ < 0) = true := by simpa using h1
    go_enter Try.func41, Try.ntmps41
    go_wp2
    go_ret2
    exact ⟨rfl, rfl⟩
  · have h1' : decide (at_ < 0) = false := by simpa using h1
    by_cases h3 : (n : Int) < size
    · have h3' : decide ((n : Int) < size) = true := by simpa using h3
      go_enter Try.func41, Try.ntmps41
      go_wp2
      go_ret2
      exact ⟨rfl, rfl⟩
    · have h3' : decide ((n : Int) < size) = false := by simpa using h3
      have h2 : decide ((n : Int) - size < at_) = true := by simp; omega
      go_enter Try.func41, Try.ntmps41
      go_wp2
      go_ret2
      exact ⟨rfl, rfl⟩

theorem drop_head (l : List UInt8) (j : Nat) (h : j < l.length) : l.drop j = l.getD j 0 :: l.drop (j + 1) := by
  rw [List.drop_eq_getElem_cons h]; simp [List.getD, List.getElem?_eq_getElem h]

set_option maxHeartbeats 400000 in
theorem refNumber_some (A : Option Addr) (n c : Nat) (l : List UInt8) (w : World) (k s : Nat) (ha : BR w A n l) (hn : n ≤ 9223372036854775807) (h8 : s ≤ 8) (h : k + s ≤ n) :
    Calls Try.prog 41 #[.slice A n c, .int .i64 k, .int .i64 s] w fun e w' => e = .returned (.tuple #[.int .u64 (leN ((l.drop k).take s)), .bool true]) ∧ w = w' := by
  have h1' : decide ((k : Int) < 0) = false := by simp
  have h2 : decide ((n : Int) - s < k) = false := by simp; omega
  have h3 : decide (n < s) = false := by simp; omega
  go_enter Try.func41, Try.ntmps41
  go_wp2
  go_loop [8, 9] (fun v i => ∃ j x : Nat, j ≤ s ∧ i = .int .i64 ((s : Int) - 1 - j) ∧ v = .int .u64 x ∧ Hid (x = leN ((l.drop (k + s - j)).take j))) (fun _ i => (intOf i + 1).toNat)
  case atStart => exact ⟨0, 0, Nat.zero_le _, by simp, rfl, Lib.hid (by simp [leN])⟩
  case round =>
    obtain ⟨j, x, hj, rfl, rfl, hx⟩ := hrel
    by_cases hlt : j < s
    · obtain ⟨g, o, rfl, hc⟩ := ha.at_ (k := k + (s - 1 - j)) (by omega)
      have hxl : x < 72057594037927936 := by
        have h1 := leN_lt ((l.drop (k + s - j)).take j)
        have h2 : ((l.drop (k + s - j)).take j).length ≤ j := by simp; omega
        have h3 : 256 ^ ((l.drop (k + s - j)).take j).length ≤ 256 ^ 7 := Nat.pow_le_pow_right (by decide) (by omega)
        have h4 : (256 : Nat) ^ 7 = 72057594037927936 := by decide
        rw [hx.out]
        omega
      have hyl : (l.getD (k + (s - 1 - j)) 0).toNat < 256 := UInt8.toNat_lt _
      have hy : Hid (256 * x + (l.getD (k + (s - 1 - j)) 0).toNat = leN ((l.drop (k + s - (j + 1))).take (j + 1))) := by
        show _ = _
        have e1 : k + s - (j + 1) = k + (s - 1 - j) := by omega
        have hl := ha.len
        rw [e1, drop_head l _ (by omega), List.take_succ_cons, leN, hx.out]
        have e2 : k + (s - 1 - j) + 1 = k + s - j := by omega
        rw [e2]
        omega
      generalize (l.getD (k + (s - 1 - j)) 0).toNat = y at *
      have e3 : k + (s - 1 - j) = k + s - 1 - j := by omega
      rw [e3] at hc
      have e5 : ((k : Int) + ((s : Int) - 1 - (j : Int))).toNat = k + s - 1 - j := by omega
      go_wp2
      go_round
      case rel => exact ⟨j + 1, 256 * x + y, by omega, by go_num, by go_num, hy⟩
      case measure => simp [intOf]; omega
    · go_wp2
      go_ret2
      have : j = s := by omega
      subst this
      refine ⟨?_, rfl⟩
      rw [hx.out]
      simp

theorem refNumber_any (A : Option Addr) (n c : Nat) (l : List UInt8) (w : World) (at_ : Int) (s : Nat) (ha : BR w A n l) (hn : n ≤ 9223372036854775807) (h8 : s ≤ 8) (hb : -9223372036854775808 ≤ at_) (hb2 : at_ ≤ 9223372036854775807) :
    Calls Try.prog 41 #[.slice A n c, .int .i64 at_, .int .i64 (s : Int)] w fun e w' =>
      e = .returned (.tuple #[.int .u64 (((numAt l at_ s).getD 0 : Nat) : Int), .bool (numAt l at_ s).isSome]) ∧ w = w' := by
  have hl := ha.len
  by_cases h : at_ < 0 ∨ (n : Int) - s < at_
  · refine (refNumber_none A n c w at_ s hn (by omega) (by omega) h hb hb2).mono ?_
    rintro e w' ⟨rfl, rfl⟩
    have : numAt l at_ s = none := by unfold numAt; rw [hl, if_pos h]
    rw [this]
    exact ⟨rfl, rfl⟩
  · have hk : at_ = (at_.toNat : Int) := by omega
    have e : numAt l at_ s = some (leN ((l.drop at_.toNat).take s)) := by unfold numAt; rw [hl, if_neg h]
    rw [e]
    generalize at_.toNat = k at hk ⊢
    subst hk
    exact refNumber_some A n c l w k s ha hn h8 (by omega)

set_option maxHeartbeats 400000 in
theorem refAdd_any (A : Option Addr) (n c : Nat) (l : List UInt8) (w : World) (v s : Nat) (ha : BR w A n l) (hn : n ≤ 211106232532984) (hs : s ≤ 8) (hv : v < 18446744073709551616) :
    Calls Try.prog 49 #[.slice A n c, .int .u64 v, .int .i64 s] w fun e w' => ∃ r, e = .returned r ∧ OB w' w.heap.size r (l ++ leB v s) ∧ Below w.heap.size w w' := by
  obtain ⟨i0, hi0, hz0, hz1, hz2⟩ := info_parts info_u8
  have HV := Lib.hid hv
  clear hv
  go_enter Try.func49, Try.ntmps49
  go_wp2_with (at_builtin; refine wpList_append_Rd _ rfl (.tmp 9) (.tmp 10) _ rfl w.heap.size 5 i0 _ 1 1 Try.underlying26 hi0 hz0 hz1 hz2 rfl (.slice none 0 0) 0 [] rfl ⟨rfl, .inl ⟨rfl, rfl⟩⟩ A n c _ rfl ha (one_bv l) (by omega) (by simp only [maxLen]; omega) (Nat.le_refl _) ?_; intro v1 w1 hown1 hg1 _ _)
  have ho1 : OB w1 w.heap.size v1 (l ++ leB v 0) := OB.of_own hown1 (by simp [leB])
  have hb1 : Below w.heap.size w w1 := (Below.refl _ _).grown hg1 (Nat.le_refl _) (by simp [Value.ownBlock])
  have HL := Lib.hid ha.len
  clear hown1 hg1
  go_loopw [1, 7, 8] (fun x r i wr => ∃ j : Nat, j ≤ s ∧ i = .int .i64 j ∧ x = .int .u64 ((v / 256 ^ j : Nat) : Int) ∧ OB wr w.heap.size r (l ++ leB v j) ∧ Below w.heap.size w wr) (fun _ _ i _ => s - (intOf i).toNat)
  case atStart => exact ⟨0, Nat.zero_le _, rfl, by simp, ho1, hb1⟩
  case round =>
    obtain ⟨j, hj, rfl, rfl, ho, hb⟩ := hrel
    clear ho1 hb1
    by_cases hlt : j < s
    · have hlen : (l ++ leB v j).length = n + j := by rw [List.length_append, leB_length, HL.out]
      have HLEN := Lib.hid hlen
      have hlen2 : (l ++ leB v j).length ≤ n + j := by omega
      have hdd : Hid (v / 256 ^ j / 256 = v / 256 ^ (j + 1)) := by show _ = _; rw [Nat.div_div_eq_div_mul, Nat.pow_succ]
      have hbyte : Hid (bv (UInt8.ofNat (v / 256 ^ j)) = .int .u8 (((v / 256 ^ j : Nat) : Int) % 256)) := by
        show _ = _
        unfold bv
        congr 1
      clear hlen
      generalize hy : v / 256 ^ j = y at *
      have HY := Lib.hid hy
      clear hy
      go_wp2_with (at_builtin; refine wpList_append_Rd _ rfl (.tmp 17) (.tmp 21) _ rfl w.heap.size 5 i0 _ 1 1 Try.underlying26 hi0 hz0 hz1 hz2 rfl u7 (l ++ leB v j).length _ rfl (World.ownsRow.alloc ho _) _ 1 1 _ rfl (Rd.new wr _ #[_] 1 1 rfl) (by simp [Value.oneCell']) (by omega) (by simp only [maxLen]; omega) (by have := hb.size; simp; omega) ?_; intro v2 w2 hown2 hg2 _ hat2)
      have hb2 : Below w.heap.size w w2 := (hb.alloc hb.size _).grown hg2 (by have := hb.size; simp; omega) (fun k hk => (World.ownsRow.lt ho k hk).1)
      have ho2 : OB w2 w.heap.size v2 (l ++ leB v (j + 1)) := by
        refine OB.of_own hown2 ?_
        rw [leB_snoc, ← List.append_assoc, HY.out]
        simp [hbyte.out]
      clear hown2 hg2 hat2 hlen2
      go_wp2
      go_roundw
      case rel => exact ⟨j + 1, by omega, by go_num, by (have hyl : y < 18446744073709551616 := by (rw [← HY.out]; exact Nat.lt_of_le_of_lt (Nat.div_le_self _ _) HV.out)); rw [← hdd.out, IntKind.wrap_u64]; congr 1; omega, ho2, hb2⟩
      case measure => simp [intOf]; omega
    · go_wp2
      go_ret
      have : j = s := by omega
      subst this
      exact ⟨_, rfl, ho, hb⟩

set_option maxHeartbeats 400000 in
theorem refAddPart_long (A B : Option Addr) (n c m d : Nat) (w : World) (hm : 65535 < m) (hm2 : m ≤ 9223372036854775807) :
    Calls Try.prog 50 #[.slice A n c, .slice B m d] w fun e w' => e = .returned (.tuple #[.slice none 0 0, .int .i64 3]) ∧ w = w' := by
  go_enter Try.func50, Try.ntmps50
  go_wp2
  go_ret2
  exact ⟨rfl, rfl⟩

set_option maxHeartbeats 400000 in
theorem refAddPart_fits (A B : Option Addr) (n c m d : Nat) (l p : List UInt8) (w : World) (ha : BR w A n l) (hp : BR w B m p) (hn : n ≤ 211106232467456) (hm : m ≤ 65535) :
    Calls Try.prog 50 #[.slice A n c, .slice B m d] w fun e w' => ∃ v, e = .returned (.tuple #[v, .int .i64 0]) ∧ OB w' w.heap.size v (l ++ leB m 2 ++ p) ∧ Below w.heap.size w w' := by
  obtain ⟨i0, hi0, hz0, hz1, hz2⟩ := info_parts info_u8
  have hadd := refAdd_any A n c l w m 2 ha (by omega) (by omega) (by omega)
  have HA := Lib.hid hadd
  have hlen : (l ++ leB m 2).length ≤ n + 2 := by rw [List.length_append, leB_length, ha.len]; omega
  clear hadd
  go_enter Try.func50, Try.ntmps50
  go_wp2_with fail
  refine HA.out.mono ?_
  rintro e w1 ⟨v1, rfl, ho1, hb1⟩
  have hp1 := hp.below hb1
  go_wp2_with (at_builtin; refine wpList_append_Rd _ rfl _ _ _ rfl w.heap.size 5 i0 _ 1 1 Try.underlying26 hi0 hz0 hz1 hz2 rfl v1 (l ++ leB m 2).length _ rfl ho1 B m d _ rfl hp1 (one_bv p) (by omega) (by simp only [maxLen]; omega) hb1.size ?_; intro v2 w2 hown2 hg2 _ _)
  go_ret2
  refine ⟨v2, rfl, OB.of_own hown2 (by simp), gr_own hb1 ho1 hg2⟩

end Go.Proofs.Ythpjjoahffagcaa
