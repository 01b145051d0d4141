/-
  The walk of StampTorn.
-/
import Derived.Test.YtecndamoomkhnaaLawStampTells
import Derived.Deep.RegionLaw
namespace Go.Proofs.Ytecndamoomkhnaa
open Go.RowKit

/-- A torn block that is neither of the two is refused. -/
theorem torn_not (a b p q t : List UInt8) (cut : Nat) (ha : a.length = 8) (hb : b.length = 8) (hp : p.length = 4080) (hq : q.length = 4080) (hab : a ≠ b) (hc : cut ≤ 4096)
    (ht : t = (b ++ q ++ b).take cut ++ (a ++ p ++ a).drop cut) (hx : t ≠ a ++ p ++ a) (hy : t ≠ b ++ q ++ b) : sealed t = false := by
  have lx : (a ++ p ++ a).length = 4096 := by simp only [List.length_append]; omega
  have ly : (b ++ q ++ b).length = 4096 := by simp only [List.length_append]; omega
  have ltk : ((b ++ q ++ b).take cut).length = cut := by rw [List.length_take]; omega
  have x8 : (a ++ p ++ a).take 8 = a := by rw [List.append_assoc]; exact List.take_left' ha
  have y8 : (b ++ q ++ b).take 8 = b := by rw [List.append_assoc]; exact List.take_left' hb
  have xe : (a ++ p ++ a).drop 4088 = a := List.drop_left' (by rw [List.length_append]; omega)
  have ye : (b ++ q ++ b).drop 4088 = b := List.drop_left' (by rw [List.length_append]; omega)
  generalize a ++ p ++ a = x at *
  generalize b ++ q ++ b = y at *
  unfold sealed
  rw [beq_eq_false_iff_ne]
  intro hs
  by_cases h1 : cut < 8
  · -- the end is a: so the beginning is a too, and all is x
    have hd : t.drop 4088 = a := by
      rw [ht, List.drop_append, List.drop_eq_nil_of_le (by omega), List.nil_append, ltk, List.drop_drop, ← xe]
      congr 1
      omega
    have h2 : t.take cut = y.take cut := by rw [ht]; exact List.take_left' ltk
    have h3 : t.take cut = x.take cut := by
      have : (t.take 8).take cut = (x.take 8).take cut := by rw [hs, hd, x8]
      rwa [List.take_take, List.take_take, Nat.min_eq_left (by omega)] at this
    apply hx
    rw [ht, ← h2, h3, List.take_append_drop]
  · have hbeg : t.take 8 = b := by
      rw [ht, List.take_append, ltk, List.take_take, Nat.min_eq_left (by omega), y8]
      have : 8 - cut = 0 := by omega
      rw [this, List.take_zero, List.append_nil]
    by_cases h2 : cut ≤ 4088
    · have hd : t.drop 4088 = a := by
        rw [ht, List.drop_append, List.drop_eq_nil_of_le (by omega), List.nil_append, ltk, List.drop_drop, ← xe]
        congr 1
        omega
      exact hab (by rw [← hd, ← hs, hbeg])
    · have h3 : t.drop cut = x.drop cut := by rw [ht]; exact List.drop_left' ltk
      have h4 : t.drop cut = y.drop cut := by
        have e : cut = 4088 + (cut - 4088) := by omega
        rw [e, ← List.drop_drop, ← List.drop_drop, ← hs, hbeg, ye]
      apply hy
      rw [ht, ← h3, h4, List.take_append_drop]

theorem leB_inj {a b : Nat} (ha : a < 18446744073709551616) (hb : b < 18446744073709551616) (h : a ≠ b) : leB a 8 ≠ leB b 8 := by
  intro e
  apply h
  have := congrArg leN e
  rwa [leN_leB, leN_leB, Nat.mod_eq_of_lt (by omega), Nat.mod_eq_of_lt (by omega)] at this

set_option maxHeartbeats 2000000 in
set_option maxRecDepth 100000 in
theorem StampTorn_guard (A B : Option Addr) (n c m d a b : Nat) (k : Int) (w : World) (h : 4080 < n ∨ 4080 < m ∨ a = b) (hn : n ≤ 140737488351232) (hm : m ≤ 140737488351232) :
    Calls Try.prog 5 #[.slice A n c, .slice B m d, .int .u64 a, .int .u64 b, .int .i64 k] w fun e w' => e = .returned (.bool true) ∧ Below w.heap.size w w' := by
  by_cases h1 : 4080 < n
  · have h1' : decide ((4080 : Int) < (n : Int)) = true := by simp; omega
    go_enter Try.func5, Try.ntmps5
    go_wp2_with fail
    refine (awake04_any _).mono ?_
    rintro e w1 ⟨rfl, hb1⟩
    go_wp2
    go_ret
    exact ⟨rfl, hb1⟩
  · have h1' : decide ((4080 : Int) < (n : Int)) = false := by simp; omega
    by_cases h2 : 4080 < m
    · have h2' : decide ((4080 : Int) < (m : Int)) = true := by simp; omega
      go_enter Try.func5, Try.ntmps5
      go_wp2_with fail
      refine (awake04_any _).mono ?_
      rintro e w1 ⟨rfl, hb1⟩
      go_wp2
      go_ret
      exact ⟨rfl, hb1⟩
    · have h2' : decide ((4080 : Int) < (m : Int)) = false := by simp; omega
      obtain rfl : a = b := by omega
      go_enter Try.func5, Try.ntmps5
      go_wp2_with fail
      refine (awake04_any _).mono ?_
      rintro e w1 ⟨rfl, hb1⟩
      go_wp2
      go_ret
      exact ⟨rfl, hb1⟩

set_option maxHeartbeats 2000000 in
set_option maxRecDepth 100000 in
theorem StampTorn_walk (A B : Option Addr) (n c m d a b : Nat) (l p : List UInt8) (k : Int) (w : World) (ha : BR w A n l) (hp : BR w B m p) (hn : n ≤ 4080) (hm : m ≤ 4080) (hab : a ≠ b) (hav : a < 18446744073709551616) (hbv : b < 18446744073709551616) :
    Calls Try.prog 5 #[.slice A n c, .slice B m d, .int .u64 a, .int .u64 b, .int .i64 k] w fun e w' => e = .returned (.bool true) ∧ Below w.heap.size w w' := by
  have h1' : decide ((4080 : Int) < (n : Int)) = false := by simp; omega
  have h2' : decide ((4080 : Int) < (m : Int)) = false := by simp; omega
  have h3' : ((a : Int) == (b : Int)) = false := beq_eq_false_iff_ne.2 (by omega)
  obtain ⟨i0, hi0, hz0, hz1, hz2⟩ := info_parts info_u8
  have hk1 := Int.emod_nonneg k (show (4097 : Int) ≠ 0 by decide)
  have hk2 := Int.emod_lt_of_pos k (show (0 : Int) < 4097 by decide)
  obtain ⟨cut, hcut⟩ := Int.eq_ofNat_of_zero_le hk1
  have hcut4 : cut ≤ 4096 := by omega
  have hll := ha.len
  have hlp := hp.len
  generalize hP : l ++ List.replicate (4080 - n) 0 = P at *
  generalize hQ : p ++ List.replicate (4080 - m) 0 = Q at *
  have hPl : P.length = 4080 := by rw [← hP, List.length_append, List.length_replicate]; omega
  have hQl : Q.length = 4080 := by rw [← hQ, List.length_append, List.length_replicate]; omega
  have hPt : P.take n = l := by rw [← hP]; exact List.take_left' hll
  have hQt : Q.take m = p := by rw [← hQ]; exact List.take_left' hlp
  have e1 : leN (leB a 8) = a := by rw [leN_leB]; exact Nat.mod_eq_of_lt (by omega)
  have e2 : leN (leB b 8) = b := by rw [leN_leB]; exact Nat.mod_eq_of_lt (by omega)
  obtain ⟨o1, o2, o3⟩ := open_seal (leB a 8) P (leB_length _ _) hPl
  obtain ⟨q1, q2, q3⟩ := open_seal (leB b 8) Q (leB_length _ _) hQl
  rw [e1] at o2
  rw [e2] at q2
  have htn := fun t => torn_not (leB a 8) (leB b 8) P Q t cut (leB_length _ _) (leB_length _ _) hPl hQl (leB_inj hav hbv hab) hcut4
  have hX : (leB a 8 ++ P ++ leB a 8).length = 4096 := by simp only [List.length_append, leB_length, hPl]
  have hY : (leB b 8 ++ Q ++ leB b 8).length = 4096 := by simp only [List.length_append, leB_length, hQl]
  generalize hXX : leB a 8 ++ P ++ leB a 8 = X at *
  generalize hYY : leB b 8 ++ Q ++ leB b 8 = Y at *
  have HA := Lib.hid hav
  have HB := Lib.hid hbv
  have HP := Lib.hid hP
  have HQ := Lib.hid hQ
  have HPL := Lib.hid hPl
  have HQL := Lib.hid hQl
  have HPT := Lib.hid hPt
  have HQT := Lib.hid hQt
  have HO : Hid (openP X = P ∧ openS X = a ∧ openE X = 0) := ⟨o1, o2, o3⟩
  have HQ' : Hid (openP Y = Q ∧ openS Y = b ∧ openE Y = 0) := ⟨q1, q2, q3⟩
  have HT := Lib.hid htn
  have HX := Lib.hid hX
  have HY := Lib.hid hY
  have HXX := Lib.hid hXX
  have HYY := Lib.hid hYY
  have HCUT := Lib.hid hcut
  have hTL : (Y.take cut ++ X.drop cut).length = 4096 := by rw [List.length_append, List.length_take, List.length_drop]; omega
  have HTL := Lib.hid hTL
  have hyl : (Y.take cut).length ≤ 4096 := by rw [List.length_take]; omega
  clear hP hQ hPl hQl hPt hQt o1 o2 o3 q1 q2 q3 htn hX hY hXX hYY e1 e2 hll hlp hcut hk1 hk2 hTL hav hbv hab
  go_enter Try.func5, Try.ntmps5
  go_wp2_with fail
  refine (Seal_fits A n c a l w ha hn HA.out).mono ?_
  rw [HP.out, HXX.out]
  rintro e w1 ⟨v1, rfl, ho1, hb1⟩
  go_wp2_with fail
  refine (Seal_fits B m d b p w1 (hp.below hb1) hm HB.out).mono ?_
  rw [HQ.out, HYY.out]
  rintro e w2 ⟨v2, rfl, ho2, hb2⟩
  have hb3 := gr_trans hb1 hb2
  have ho1' := ho1.below hb2
  obtain ⟨A1, c1, rfl, r1, hc1, hm1⟩ := ho1'.formN (n := 4096) HX.out
  obtain ⟨A2, c2, rfl, r2, hc2, hm2⟩ := ho2.formN (n := 4096) HY.out
  clear ho1 ho1' ho2 hb1 hb2
  go_wp2_with fail
  refine (Pick_any k 4097 _ (by omega) (by omega)).mono ?_
  rintro e w' ⟨rfl, rfl⟩
  rw [HCUT.out]
  have hcutY := fun W => run_cut_h (P := Try.prog) W 22 5 i0 Try.underlying22 hi0 1 hz1 A2 4096 c2 (cut : Int) cut rfl (by omega)
  have hcutX := fun W => run_cut_l (P := Try.prog) W 22 5 i0 Try.underlying22 hi0 1 hz1 A1 4096 c1 (cut : Int) cut rfl (by omega)
  have r2' := r2.pre (j := cut) hcut4
  have r1' := r1.cut (k := cut) (j := 4096) (c := c1) hcut4 (by omega) hc1
  generalize cutA A1 c1 cut 1 = A1c at *
  have CB := Lib.hid (CopyBytes_any A2 cut c2 (Y.take cut) w2.drew r2' (by omega))
  go_upto_region 8 with fail
  go_cut [15] (fun s15 wx => ∃ At ct, s15 = .slice At 4096 ct ∧ 4096 ≤ ct ∧ BR wx At 4096 (Y.take cut ++ X.drop cut) ∧ Below w2.heap.size w2 wx)
  case first =>
    go_region_law (first
      | (refine step_append_Rd _ rfl (.tmp 54) (.tmp 57) _ rfl w2.heap.size 5 i0 _ 1 1 Try.underlying22 hi0 hz0 hz1 hz2 rfl v3 (Y.take cut).length _ rfl ho3 A1c (4096 - cut) _ _ rfl (BR.below (BR.drew r1') hb4) (one_bv _) (by omega) (by simp only [maxLen]; omega) hb4.size ?_; intro v4 w4 hown4 hg4 _ _)
      | (go_simp; go_at_call 19; refine CB.out.mono ?_; rintro e w3 ⟨v3, rfl, ho3, hb4⟩))
    all_goals
      have ho4 : OB w4 w2.heap.size v4 (Y.take cut ++ X.drop cut) := OB.of_own hown4 (by rw [show (X.drop cut).take (4096 - cut) = X.drop cut from List.take_of_length_le (by rw [List.length_drop, HX.out]; omega), List.map_append])
      obtain ⟨At, ct, rfl, rt, hct, _⟩ := ho4.formN (n := 4096) HTL.out
      go_wp2_with fail
      go_meet
      exact ⟨At, ct, rfl, hct, rt, gr_own (a := w2) ⟨hb4.os, hb4.tape, hb4.output, hb4.size, hb4.block⟩ ho3 hg4⟩
  case rest =>
    obtain ⟨At, ct, rfl, hct, rt, hbt⟩ := hcut
    have hbw := gr_trans hb3 hbt
    have r1t := r1.below hbt
    have r2t := r2.below hbt
    generalize hT : Y.take cut ++ X.drop cut = T at *
    have HTE := Lib.hid hT
    clear hT
    go_wp2_with fail
    refine (Open_any At ct T _ rt hct).mono ?_
    rintro e w5 ⟨v5, rfl, ho5, hb5⟩
    have hbz := gr_trans hbw hb5
    go_wp2_with fail
    refine (SameBytes_any At A1 4096 4096 ct c1 T X _ (rt.below hb5) (r1t.below hb5)).mono ?_
    rintro e w' ⟨rfl, rfl⟩
    by_cases hx : T = X
    · have hx1 : (T == X) = true := by rw [hx]; simp
      rw [hx] at ho5
      obtain ⟨k1, k2, k3⟩ := HO.out
      rw [k1] at ho5
      have HTX := Lib.hid hx
      obtain ⟨A5, c5, rfl, r5, hc5, _⟩ := ho5.formN (n := 4080) HPL.out
      have j1 : openS T = a := by rw [HTX.out, k2]
      have j2 : openE T = 0 := by rw [HTX.out, k3]
      rw [hx1, j1, j2]
      clear hx1 j1 j2 hx k1 k2 k3
      have hcutP := fun W => run_cut_h (P := Try.prog) W 22 5 i0 Try.underlying22 hi0 1 hz1 A5 4080 c5 (n : Int) n rfl (by omega)
      have r5' := r5.pre (j := n) hn
      rw [HPT.out] at r5'
      go_wp2_with fail
      refine (SameBytes_any A5 A n n c5 c l l _ r5' (ha.below hbz)).mono ?_
      rw [beq_self_eq_true]
      rintro e w' ⟨rfl, rfl⟩
      go_wp2_with fail
      refine (awake04_any _).mono ?_
      rintro e w6 ⟨rfl, hb6⟩
      go_wp2
      go_ret
      exact ⟨rfl, gr_trans hbz hb6⟩
    · have hx1 : (T == X) = false := by simpa using hx
      rw [hx1]
      have HNX := Lib.hid hx
      clear hx1 hx
      go_wp2_with fail
      refine (SameBytes_any At A2 4096 4096 ct c2 T Y _ (rt.below hb5) (r2t.below hb5)).mono ?_
      rintro e w' ⟨rfl, rfl⟩
      by_cases hy : T = Y
      · have hy1 : (T == Y) = true := by rw [hy]; simp
        rw [hy] at ho5
        obtain ⟨k1, k2, k3⟩ := HQ'.out
        rw [k1] at ho5
        have HTY := Lib.hid hy
        obtain ⟨A5, c5, rfl, r5, hc5, _⟩ := ho5.formN (n := 4080) HQL.out
        have j1 : openS T = b := by rw [HTY.out, k2]
        have j2 : openE T = 0 := by rw [HTY.out, k3]
        rw [hy1, j1, j2]
        clear hy1 j1 j2 hy k1 k2 k3
        have hcutP := fun W => run_cut_h (P := Try.prog) W 22 5 i0 Try.underlying22 hi0 1 hz1 A5 4080 c5 (m : Int) m rfl (by omega)
        have r5' := r5.pre (j := m) hm
        rw [HQT.out] at r5'
        go_wp2_with fail
        refine (SameBytes_any A5 B m m c5 d p p _ r5' (hp.below hbz)).mono ?_
        rw [beq_self_eq_true]
        rintro e w' ⟨rfl, rfl⟩
        go_wp2_with fail
        refine (awake04_any _).mono ?_
        rintro e w6 ⟨rfl, hb6⟩
        go_wp2
        go_ret
        exact ⟨rfl, gr_trans hbz hb6⟩
      · have hy1 : (T == Y) = false := by simpa using hy
        have hsl := HT.out T rfl HNX.out hy
        have j0 : openP T = [] := by unfold openP; rw [hsl]; rfl
        have j1 : openS T = 0 := by unfold openS; rw [hsl]; rfl
        have j2 : openE T = 140 := by unfold openE; rw [hsl]; rfl
        rw [j0] at ho5
        rw [hy1, j1, j2]
        obtain ⟨A5, c5, rfl, r5, hc5, _⟩ := ho5.formN (n := 0) rfl
        clear hy1 j0 j1 j2 hy hsl
        go_wp2_with fail
        refine (awake04_any _).mono ?_
        rintro e w6 ⟨rfl, hb6⟩
        go_wp2
        go_ret
        exact ⟨rfl, gr_trans hbz hb6⟩

theorem StampTorn_any (A B : Option Addr) (n c m d a b : Nat) (l p : List UInt8) (k : Int) (w : World) (ha : BR w A n l) (hp : BR w B m p) (hn : n ≤ 140737488351232) (hm : m ≤ 140737488351232) (hav : a < 18446744073709551616) (hbv : b < 18446744073709551616) :
    Calls Try.prog 5 #[.slice A n c, .slice B m d, .int .u64 a, .int .u64 b, .int .i64 k] w fun e w' => e = .returned (.bool true) ∧ Below w.heap.size w w' := by
  by_cases h : 4080 < n ∨ 4080 < m ∨ a = b
  · exact StampTorn_guard A B n c m d a b k w h hn hm
  · exact StampTorn_walk A B n c m d a b l p k w ha hp (by omega) (by omega) (by omega) hav hbv

end Go.Proofs.Ytecndamoomkhnaa
