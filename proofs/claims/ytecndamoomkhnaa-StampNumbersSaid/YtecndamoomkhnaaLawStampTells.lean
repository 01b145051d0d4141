/-
  The walk of StampTells.
-/
import Derived.Test.YtecndamoomkhnaaStE
import Derived.Test.YtecndamoomkhnaaLawOctetsTells
namespace Go.Proofs.Ytecndamoomkhnaa
open Go.RowKit

/-- What Seal tells, too long or not. -/
def sealL (l : List UInt8) (v : Nat) : List UInt8 := if l.length ≤ 4080 then leB v 8 ++ (l ++ List.replicate (4080 - l.length) 0) ++ leB v 8 else []
def sealE (l : List UInt8) : Int := if l.length ≤ 4080 then 0 else 3
/-- What Open tells, a block or not. -/
def opP (l : List UInt8) : List UInt8 := if l.length = 4096 then openP l else []
def opS (l : List UInt8) : Nat := if l.length = 4096 then openS l else 0
def opE (l : List UInt8) : Int := if l.length = 4096 then openE l else 2

theorem Seal_any (A : Option Addr) (n c v : Nat) (l : List UInt8) (w : World) (ha : BR w A n l) (hn : n ≤ 9223372036854775807) (hv : v < 18446744073709551616) :
    Calls Try.prog 28 #[.slice A n c, .int .u64 v] w fun e w' => ∃ r, e = .returned (.tuple #[r, .int .i64 (sealE l)]) ∧ OB w' w.heap.size r (sealL l v) ∧ Below w.heap.size w w' := by
  have hl := ha.len
  by_cases h : n ≤ 4080
  · refine (Seal_fits A n c v l w ha h hv).mono ?_
    rintro e w' ⟨r, rfl, ho, hb⟩
    refine ⟨r, by rw [sealE, if_pos (by omega)], ?_, hb⟩
    rw [sealL, if_pos (by omega), hl]
    exact ho
  · refine (Seal_long A n c v w (by omega) hn).mono ?_
    rintro e w' ⟨rfl, rfl⟩
    refine ⟨_, by rw [sealE, if_neg (by omega)], ?_, gr_refl _⟩
    rw [sealL, if_neg (by omega)]
    exact OB.nil _ _

theorem Open_all (A : Option Addr) (n c : Nat) (l : List UInt8) (w : World) (ha : BR w A n l) (hc : n ≤ c) (hn : n ≤ 9223372036854775807) :
    Calls Try.prog 30 #[.slice A n c] w fun e w' => ∃ r, e = .returned (.tuple #[r, .int .u64 ((opS l : Nat) : Int), .int .i64 (opE l)]) ∧ OB w' w.heap.size r (opP l) ∧ Below w.heap.size w w' := by
  have hl := ha.len
  by_cases h : n = 4096
  · subst h
    refine (Open_any A c l w ha hc).mono ?_
    rintro e w' ⟨r, rfl, ho, hb⟩
    refine ⟨r, by rw [opS, opE, if_pos hl, if_pos hl], ?_, hb⟩
    rw [opP, if_pos hl]
    exact ho
  · refine (Open_short A n c w h hn).mono ?_
    rintro e w' ⟨rfl, rfl⟩
    refine ⟨_, by rw [opS, opE, if_neg (by omega), if_neg (by omega)]; rfl, ?_, gr_refl _⟩
    rw [opP, if_neg (by omega)]
    exact OB.nil _ _

theorem refSeal_any (A : Option Addr) (n c v : Nat) (l : List UInt8) (w : World) (ha : BR w A n l) (hn : n ≤ 9223372036854775807) (hv : v < 18446744073709551616) :
    Calls Try.prog 42 #[.slice A n c, .int .u64 v] w fun e w' => ∃ r, e = .returned (.tuple #[r, .int .i64 (sealE l)]) ∧ OB w' w.heap.size r (sealL l v) ∧ Below w.heap.size w w' := by
  have hl := ha.len
  by_cases h : n ≤ 4080
  · refine (refSeal_fits A n c v l w ha h hv).mono ?_
    rintro e w' ⟨r, rfl, ho, hb⟩
    refine ⟨r, by rw [sealE, if_pos (by omega)], ?_, hb⟩
    rw [sealL, if_pos (by omega), hl]
    exact ho
  · refine (refSeal_long A n c v w (by omega) hn).mono ?_
    rintro e w' ⟨rfl, rfl⟩
    refine ⟨_, by rw [sealE, if_neg (by omega)], ?_, gr_refl _⟩
    rw [sealL, if_neg (by omega)]
    exact OB.nil _ _

theorem refOpen_all (A : Option Addr) (n c : Nat) (l : List UInt8) (w : World) (ha : BR w A n l) (hc : n ≤ c) (hn : n ≤ 9223372036854775807) :
    Calls Try.prog 43 #[.slice A n c] w fun e w' => ∃ r, e = .returned (.tuple #[r, .int .u64 ((opS l : Nat) : Int), .int .i64 (opE l)]) ∧ OB w' w.heap.size r (opP l) ∧ Below w.heap.size w w' := by
  have hl := ha.len
  by_cases h : n = 4096
  · subst h
    refine (refOpen_any A c l w ha hc).mono ?_
    rintro e w' ⟨r, rfl, ho, hb⟩
    refine ⟨r, by rw [opS, opE, if_pos hl, if_pos hl], ?_, hb⟩
    rw [opP, if_pos hl]
    exact ho
  · refine (refOpen_short A n c w h hn).mono ?_
    rintro e w' ⟨rfl, rfl⟩
    refine ⟨_, by rw [opS, opE, if_neg (by omega), if_neg (by omega)]; rfl, ?_, gr_refl _⟩
    rw [opP, if_neg (by omega)]
    exact OB.nil _ _

set_option maxHeartbeats 2000000 in
set_option maxRecDepth 100000 in
theorem StampTells_walk (A B : Option Addr) (n c m d : Nat) (l p : List UInt8) (v : Nat) (x y : Int) (w : World) (ha : BR w A n l) (hp : BR w B m p)
    (hn : n ≤ 140737488351232) (hm : m ≤ 140737488351232) (hmd : m ≤ d) (hv : v < 18446744073709551616) :
    Calls Try.prog 10 #[.slice A n c, .int .u64 v, .slice B m d, .int .i64 x, .int .i64 y] w fun e w' => e = .returned (.bool true) ∧ Below w.heap.size w w' := by
  have HV := Lib.hid hv
  have HLA := Lib.hid ha.len
  have HLP := Lib.hid hp.len
  have hd2 : v / 4294967296 ≤ 4294967295 := by omega
  have hd3 : v % 4294967296 ≤ 4294967295 := by omega
  clear hv
  go_enter Try.func10, Try.ntmps10
  go_wp2_with fail
  refine (LentBytes_any A n c l w ha (by omega)).mono ?_
  rintro e w1 ⟨A1, c1, rfl, lent1, hb1⟩
  go_wp2_with fail
  refine (LentBytes_any B m d p w1 (hp.below hb1) (by omega)).mono ?_
  rintro e w2 ⟨A2, c2, rfl, lent2, hb2⟩
  have hbw := gr_trans hb1 hb2
  have lent1' := lent1.below hb2
  have ha2 := ha.below hbw
  have hp2 := hp.below hbw
  obtain ⟨hr1, hc1, hm1⟩ := lent1'.BR
  rw [HLA.out] at hr1 hc1
  obtain ⟨hr2, hc2, hm2⟩ := lent2.BR
  rw [HLP.out] at hr2 hc2
  clear lent1 hb1 hb2
  simp only [maxLen] at hm1 hm2
  go_wp2_with fail
  refine (Seal_any A1 n c1 v l w2 hr1 (by omega) HV.out).mono ?_
  rintro e w3 ⟨v3, rfl, ho3, hb3⟩
  go_wp2_with fail
  refine (refSeal_any A n c v l w3 (ha2.below hb3) (by omega) HV.out).mono ?_
  rintro e w4 ⟨v4, rfl, ho4, hb4⟩
  have hb5 := gr_trans hb3 hb4
  have ho3' := ho3.below hb4
  clear ho3 hb3 hb4
  go_wp2_with fail
  refine (Open_all A2 m c2 p w4 (hr2.below hb5) (by omega) (by omega)).mono ?_
  rintro e w5 ⟨v5, rfl, ho5, hb6⟩
  have hb7 := gr_trans hb5 hb6
  go_wp2_with fail
  refine (refOpen_all B m d p w5 (hp2.below hb7) hmd (by omega)).mono ?_
  rintro e w6 ⟨v6, rfl, ho6, hb8⟩
  have hb9 := gr_trans hb7 hb8
  have ho5' := ho5.below hb8
  have ho3'' := (ho3'.below hb6).below hb8
  have ho4' := (ho4.below hb6).below hb8
  clear ho3' ho4 ho5 hb5 hb6 hb7 hb8
  generalize sealE l = se
  generalize opE p = oe
  generalize opS p = os
  go_wp2_with fail
  refine (SameBytes_own _ _ _ _ ho3'' ho4').mono ?_
  rintro e w' ⟨rfl, rfl⟩
  go_wp2_with fail
  refine (SameBytes_own _ _ _ _ ho5' ho6).mono ?_
  rintro e w' ⟨rfl, rfl⟩
  clear ho3'' ho4' ho5' ho6
  go_wp2_with fail
  refine (Parts_any v _ HV.out).mono ?_
  rintro e w' ⟨rfl, rfl⟩
  go_wp2_with fail
  refine (Of_any x y _).mono ?_
  rintro e w' ⟨rfl, rfl⟩
  go_wp2_with fail
  refine (refOf_any x y _).mono ?_
  rintro e w' ⟨rfl, rfl⟩
  generalize x % 4294967296 * 4294967296 + y % 4294967296 = z
  go_wp2_with fail
  refine (KeptBytes_any A1 A n c1 c _ l _ (lent1'.below hb9) (ha2.below hb9) (by omega)).mono ?_
  rintro e w' ⟨rfl, rfl⟩
  go_wp2_with fail
  refine (KeptBytes_any A2 B m c2 d _ p _ (lent2.below hb9) (hp2.below hb9) (by omega)).mono ?_
  rintro e w' ⟨rfl, rfl⟩
  go_wp2_with fail
  refine (awake04_any _).mono ?_
  rintro e w14 ⟨rfl, hb10⟩
  go_wp2
  go_ret
  exact ⟨rfl, gr_trans (gr_trans hbw hb9) hb10⟩

end Go.Proofs.Ytecndamoomkhnaa
