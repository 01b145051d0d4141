/-
  The walk of OctetsBack.
-/
import Derived.Test.YtecndamoomkhnaaLawOctetsTells
namespace Go.Proofs.Ytecndamoomkhnaa
open Go.RowKit

theorem numAt_put (pre post : List UInt8) (u s : Nat) (at_ : Int) (ha : at_ = pre.length) : numAt (pre ++ (leB u s ++ post)) at_ s = some (u % 256 ^ s) := by
  subst ha
  unfold numAt
  rw [if_neg (by rw [List.length_append, List.length_append, leB_length]; omega)]
  congr 1
  rw [Int.toNat_natCast, List.drop_left, List.take_left' (leB_length u s), leN_leB]

theorem partAt_put (pre p post : List UInt8) (at_ : Int) (ha : at_ = pre.length) (hp : p.length ≤ 65535) : partAt (pre ++ (leB p.length 2 ++ (p ++ post))) at_ = some (p, pre.length + 2 + p.length) := by
  subst ha
  unfold partAt
  rw [numAt_put _ _ _ _ _ rfl]
  have : p.length % 256 ^ 2 = p.length := Nat.mod_eq_of_lt (by omega)
  rw [this]
  simp only
  rw [if_neg (by simp only [List.length_append, leB_length]; omega), Int.toNat_natCast]
  congr 2
  have e : (pre ++ (leB p.length 2 ++ (p ++ post))).drop (pre.length + 2) = p ++ post := by
    rw [List.drop_append, List.drop_eq_nil_of_le (by omega), List.nil_append]
    have : pre.length + 2 - pre.length = 2 := by omega
    rw [this, List.drop_left' (leB_length _ _)]
  rw [e, List.take_left]

set_option maxHeartbeats 2000000 in
set_option maxRecDepth 100000 in
theorem OctetsBack_long (A B C : Option Addr) (n c m d r f : Nat) (u v x : Nat) (w : World) (h : 65535 < m ∨ 65535 < r) (hm : m ≤ 140737488351232) (hr : r ≤ 140737488351232) :
    Calls Try.prog 14 #[.slice A n c, .slice B m d, .slice C r f, .int .u16 u, .int .u32 v, .int .u64 x] w fun e w' => e = .returned (.bool true) ∧ Below w.heap.size w w' := by
  by_cases h1 : 65535 < m
  · have h1' : decide ((65535 : Int) < (m : Int)) = true := by simp; omega
    go_enter Try.func14, Try.ntmps14
    go_wp2_with fail
    refine (awake01_any _).mono ?_
    rintro e w1 ⟨rfl, hb1⟩
    go_wp2
    go_ret
    exact ⟨rfl, hb1⟩
  · have h1' : decide ((65535 : Int) < (m : Int)) = false := by simp; omega
    have h2' : decide ((65535 : Int) < (r : Int)) = true := by simp; omega
    go_enter Try.func14, Try.ntmps14
    go_wp2_with fail
    refine (awake01_any _).mono ?_
    rintro e w1 ⟨rfl, hb1⟩
    go_wp2
    go_ret
    exact ⟨rfl, hb1⟩

set_option maxHeartbeats 2000000 in
set_option maxRecDepth 100000 in
theorem OctetsBack_walk (A B C : Option Addr) (n c m d r f : Nat) (l p q : List UInt8) (u v x : Nat) (w : World) (ha : BR w A n l) (hp : BR w B m p) (hq : BR w C r q)
    (hn : n ≤ 140737488351232) (hm : m ≤ 65535) (hr : r ≤ 65535) (hu : u < 65536) (hv : v < 4294967296) (hx : x < 18446744073709551616) :
    Calls Try.prog 14 #[.slice A n c, .slice B m d, .slice C r f, .int .u16 u, .int .u32 v, .int .u64 x] w fun e w' => e = .returned (.bool true) ∧ Below w.heap.size w w' := by
  have h1' : decide ((65535 : Int) < (m : Int)) = false := by simp; omega
  have h2' : decide ((65535 : Int) < (r : Int)) = false := by simp; omega
  have HX := Lib.hid hx
  have HU := Lib.hid hu
  have HW := Lib.hid hv
  have HLA := Lib.hid ha.len
  have HLP := Lib.hid hp.len
  have HLQ := Lib.hid hq.len
  clear hx
  go_enter Try.func14, Try.ntmps14
  go_wp2_with fail
  refine (Add16_any A n c l w u ha (by omega) hu).mono ?_
  rintro e w1 ⟨v1, rfl, ho1, hb1⟩
  obtain ⟨A1, c1, rfl, r1, _, _⟩ := ho1.formN (n := n + 2) (by rw [List.length_append, leB_length, HLA.out])
  go_wp2_with fail
  refine (Add32_any A1 (n + 2) c1 _ w1 v r1 (by omega) hv).mono ?_
  rintro e w2 ⟨v2, rfl, ho2, hb2⟩
  obtain ⟨A2, c2, rfl, r2, _, _⟩ := ho2.formN (n := n + 6) (by rw [List.length_append, List.length_append, leB_length, leB_length, HLA.out])
  have hbB := gr_trans hb1 hb2
  clear ho1 ho2 r1 hb1 hb2
  go_wp2_with fail
  refine (Add64_any A2 (n + 6) c2 _ w2 x r2 (by omega) HX.out).mono ?_
  rintro e w3 ⟨v3, rfl, ho3, hb3⟩
  obtain ⟨A3, c3, rfl, r3, _, _⟩ := ho3.formN (n := n + 14) (by simp only [List.length_append, leB_length, HLA.out])
  have hbC := gr_trans hbB hb3
  clear ho3 r2 hb3 hbB
  go_wp2_with fail
  refine (AddPart_fits A3 B (n + 14) c3 m d _ p w3 r3 (hp.below hbC) (by omega) hm).mono ?_
  rintro e w4 ⟨v4, rfl, ho4, hb4⟩
  obtain ⟨A4, c4, rfl, r4, _, _⟩ := ho4.formN (n := n + 16 + m) (by simp only [List.length_append, leB_length, HLA.out, HLP.out])
  have hbD := gr_trans hbC hb4
  clear ho4 r3 hb4 hbC
  go_wp2_with fail
  refine (AddPart_fits A4 C (n + 16 + m) c4 r f _ q w4 r4 (hq.below hbD) (by omega) hr).mono ?_
  rintro e w5 ⟨v5, rfl, ho5, hb5⟩
  obtain ⟨A5, c5, rfl, r5, hc5, hm5⟩ := ho5.formN (n := n + 18 + m + r) (by simp only [List.length_append, leB_length, HLA.out, HLP.out, HLQ.out]; omega)
  have hbE := gr_trans hbD hb5
  clear ho5 r4 hb5 hbD
  simp only [maxLen] at hm5
  have hall : l ++ leB u 2 ++ leB v 4 ++ leB x 8 ++ leB m 2 ++ p ++ leB r 2 ++ q = l ++ (leB u 2 ++ (leB v 4 ++ (leB x 8 ++ (leB m 2 ++ (p ++ (leB r 2 ++ q)))))) := by simp only [List.append_assoc]
  rw [hall] at r5
  clear hall
  have k1 : numAt (l ++ (leB u 2 ++ (leB v 4 ++ (leB x 8 ++ (leB m 2 ++ (p ++ (leB r 2 ++ q))))))) (n : Int) 2 = some u := by
    rw [numAt_put l _ u 2 n (by rw [HLA.out])]
    congr 1
    exact Nat.mod_eq_of_lt (by omega)
  have k2 : numAt (l ++ (leB u 2 ++ (leB v 4 ++ (leB x 8 ++ (leB m 2 ++ (p ++ (leB r 2 ++ q))))))) ((n : Int) + 2) 4 = some v := by
    rw [← List.append_assoc l, numAt_put (l ++ leB u 2) _ v 4 _ (by rw [List.length_append, leB_length, HLA.out]; omega)]
    congr 1
    exact Nat.mod_eq_of_lt (by omega)
  have k3 : numAt (l ++ (leB u 2 ++ (leB v 4 ++ (leB x 8 ++ (leB m 2 ++ (p ++ (leB r 2 ++ q))))))) ((n : Int) + 6) 8 = some x := by
    rw [← List.append_assoc l, ← List.append_assoc (l ++ leB u 2), numAt_put (l ++ leB u 2 ++ leB v 4) _ x 8 _ (by rw [List.length_append, List.length_append, leB_length, leB_length, HLA.out]; omega)]
    congr 1
    exact Nat.mod_eq_of_lt (by have := HX.out; omega)
  have k4 : partAt (l ++ (leB u 2 ++ (leB v 4 ++ (leB x 8 ++ (leB m 2 ++ (p ++ (leB r 2 ++ q))))))) ((n : Int) + 14) = some (p, n + 16 + m) := by
    have e := partAt_put (l ++ leB u 2 ++ leB v 4 ++ leB x 8) p (leB r 2 ++ q) ((n : Int) + 14) (by simp only [List.length_append, leB_length, HLA.out]; omega) (by rw [HLP.out]; exact hm)
    simp only [List.append_assoc, HLP.out] at e
    rw [e]
    congr 2
    simp only [List.length_append, leB_length, HLA.out]
  have k5 : partAt (l ++ (leB u 2 ++ (leB v 4 ++ (leB x 8 ++ (leB m 2 ++ (p ++ (leB r 2 ++ q))))))) ((n : Int) + 16 + (m : Int)) = some (q, n + 18 + m + r) := by
    have e := partAt_put (l ++ leB u 2 ++ leB v 4 ++ leB x 8 ++ leB m 2 ++ p) q [] ((n : Int) + 16 + (m : Int)) (by simp only [List.length_append, leB_length, HLA.out, HLP.out]; omega) (by rw [HLQ.out]; exact hr)
    simp only [List.append_assoc, HLQ.out, List.append_nil] at e
    rw [e]
    congr 2
    simp only [List.length_append, leB_length, HLA.out, HLP.out]
    omega
  have k6 : (l ++ (leB u 2 ++ (leB v 4 ++ (leB x 8 ++ (leB m 2 ++ (p ++ (leB r 2 ++ q))))))).take n = l := List.take_left' HLA.out
  generalize hL : l ++ (leB u 2 ++ (leB v 4 ++ (leB x 8 ++ (leB m 2 ++ (p ++ (leB r 2 ++ q)))))) = L at *
  have K1 := Lib.hid k1
  have K2 := Lib.hid k2
  have K3 := Lib.hid k3
  have K4 := Lib.hid k4
  have K5 := Lib.hid k5
  have K6 := Lib.hid k6
  clear k1 k2 k3 k4 k5 k6 hL
  go_wp2_with fail
  refine (U16_any A5 (n + 18 + m + r) c5 L w5 (n : Int) r5 (by omega) (by omega) (by omega)).mono ?_
  rw [K1.out]
  rintro e w' ⟨rfl, rfl⟩
  go_wp2_with fail
  refine (U32_any A5 (n + 18 + m + r) c5 L w5 ((n : Int) + 2) r5 (by omega) (by omega) (by omega)).mono ?_
  rw [K2.out]
  rintro e w' ⟨rfl, rfl⟩
  go_wp2_with fail
  refine (U64_any A5 (n + 18 + m + r) c5 L w5 ((n : Int) + 6) r5 (by omega) (by omega) (by omega)).mono ?_
  rw [K3.out]
  rintro e w' ⟨rfl, rfl⟩
  go_wp2_with fail
  refine (Part_any A5 (n + 18 + m + r) c5 L w5 ((n : Int) + 14) r5 hc5 (by omega) (by omega) (by omega) (by omega)).mono ?_
  rw [K4.out]
  rintro e w6 ⟨v6, rfl, ho6, hb6⟩
  go_wp2_with fail
  refine (Part_any A5 (n + 18 + m + r) c5 L w6 ((n : Int) + 16 + (m : Int)) (r5.below hb6) hc5 (by omega) (by omega) (by omega) (by omega)).mono ?_
  rw [K5.out]
  rintro e w7 ⟨v7, rfl, ho7, hb7⟩
  have ho6' : OB w7 w5.heap.size v6 p := OB.below ho6 hb7
  have ho7' : OB w7 w6.heap.size v7 q := ho7
  have hb8 := gr_trans hb6 hb7
  clear ho6 ho7
  obtain ⟨A6, c6, rfl, r6, _, _⟩ := ho6'.formN HLP.out
  obtain ⟨A7, c7, rfl, r7, _, _⟩ := ho7'.formN HLQ.out
  have hbF := gr_trans hbE hb8
  have z1 := (cmp_zero p p).2 rfl
  have z2 := (cmp_zero q q).2 rfl
  have z3 := (cmp_zero l l).2 rfl
  obtain ⟨i0, hi0, hz0, hz1, hz2⟩ := info_parts info_u8
  have hcut := fun W => run_cut_h (P := Try.prog) W 22 5 i0 Try.underlying22 hi0 1 hz1 A5 (n + 18 + m + r) c5 (n : Int) n rfl (by omega)
  go_wp2_with fail
  refine (Same_any A6 B m m c6 d p p _ r6 (hp.below hbF)).mono ?_
  rw [z1]
  rintro e w' ⟨rfl, rfl⟩
  go_wp2_with fail
  refine (Same_any A7 C r r c7 f q q _ r7 (hq.below hbF)).mono ?_
  rw [z2]
  rintro e w' ⟨rfl, rfl⟩
  go_wp2_with fail
  have r8 := (r5.below hb8).pre (j := n) (by omega)
  rw [K6.out] at r8
  refine (Same_any A5 A n n c5 c l l _ r8 (ha.below hbF)).mono ?_
  rw [z3]
  rintro e w' ⟨rfl, rfl⟩
  go_wp2_with fail
  refine (awake01_any _).mono ?_
  rintro e w8 ⟨rfl, hb9⟩
  go_wp2
  go_ret
  exact ⟨rfl, gr_trans hbF hb9⟩

theorem OctetsBack_any (A B C : Option Addr) (n c m d r f : Nat) (l p q : List UInt8) (u v x : Nat) (w : World) (ha : BR w A n l) (hp : BR w B m p) (hq : BR w C r q)
    (hn : n ≤ 140737488351232) (hm : m ≤ 140737488351232) (hr : r ≤ 140737488351232) (hu : u < 65536) (hv : v < 4294967296) (hx : x < 18446744073709551616) :
    Calls Try.prog 14 #[.slice A n c, .slice B m d, .slice C r f, .int .u16 u, .int .u32 v, .int .u64 x] w fun e w' => e = .returned (.bool true) ∧ Below w.heap.size w w' := by
  by_cases h : 65535 < m ∨ 65535 < r
  · exact OctetsBack_long A B C n c m d r f u v x w h hm hr
  · exact OctetsBack_walk A B C n c m d r f l p q u v x w ha hp hq hn (by omega) (by omega) hu hv hx

end Go.Proofs.Ytecndamoomkhnaa
