/-
  The walk of OctetsTells.
-/
import Derived.Test.YtecndamoomkhnaaOctH
import Derived.Test.YtecndamoomkhnaaRefB
import Derived.Test.YtecndamoomkhnaaPlainA
namespace Go.Proofs.Ytecndamoomkhnaa
open Go.RowKit

theorem Add16_of (A : Option Addr) (n c : Nat) (l : List UInt8) (w : World) (x : Int) (v : Nat) (hx : x = v) (ha : BR w A n l) (hn : n ≤ 211106232532984) (hv : v < 65536) :
    Calls Try.prog 51 #[.slice A n c, .int .u16 x] w fun e w' => ∃ r, e = .returned r ∧ OB w' w.heap.size r (l ++ leB v 2) ∧ Below w.heap.size w w' := by
  subst hx; exact Add16_any A n c l w v ha hn hv
theorem Add32_of (A : Option Addr) (n c : Nat) (l : List UInt8) (w : World) (x : Int) (v : Nat) (hx : x = v) (ha : BR w A n l) (hn : n ≤ 211106232532984) (hv : v < 4294967296) :
    Calls Try.prog 53 #[.slice A n c, .int .u32 x] w fun e w' => ∃ r, e = .returned r ∧ OB w' w.heap.size r (l ++ leB v 4) ∧ Below w.heap.size w w' := by
  subst hx; exact Add32_any A n c l w v ha hn hv
theorem refAdd_of (A : Option Addr) (n c : Nat) (l : List UInt8) (w : World) (x : Int) (v s : Nat) (hx : x = v) (ha : BR w A n l) (hn : n ≤ 211106232532984) (hs : s ≤ 8) (hv : v < 18446744073709551616) :
    Calls Try.prog 52 #[.slice A n c, .int .u64 x, .int .i64 s] w fun e w' => ∃ r, e = .returned r ∧ OB w' w.heap.size r (l ++ leB v s) ∧ Below w.heap.size w w' := by
  subst hx; exact refAdd_any A n c l w v s ha hn hs hv

/-- What AddPart tells, too long or not: the bytes and the errno. -/
def addPart (l p : List UInt8) : List UInt8 := if p.length ≤ 65535 then l ++ leB p.length 2 ++ p else []
def addPartE (p : List UInt8) : Int := if p.length ≤ 65535 then 0 else 3
theorem AddPart_any (A B : Option Addr) (n c m d : Nat) (l p : List UInt8) (w : World) (ha : BR w A n l) (hp : BR w B m p) (hn : n ≤ 211106232467456) (hm : m ≤ 9223372036854775807) :
    Calls Try.prog 49 #[.slice A n c, .slice B m d] w fun e w' => ∃ v, e = .returned (.tuple #[v, .int .i64 (addPartE p)]) ∧ OB w' w.heap.size v (addPart l p) ∧ Below w.heap.size w w' := by
  have hpl := hp.len
  by_cases h : m ≤ 65535
  · refine (AddPart_fits A B n c m d l p w ha hp hn h).mono ?_
    rintro e w' ⟨v, rfl, ho, hb⟩
    refine ⟨v, ?_, ?_, hb⟩
    · rw [addPartE, if_pos (by omega)]
    · rw [addPart, if_pos (by omega), hpl]; exact ho
  · refine (AddPart_long A B n c m d w (by omega) hm).mono ?_
    rintro e w' ⟨rfl, rfl⟩
    refine ⟨_, by rw [addPartE, if_neg (by omega)], ?_, Below.refl _ _⟩
    rw [addPart, if_neg (by omega)]; exact OB.nil _ _
theorem refAddPart_any (A B : Option Addr) (n c m d : Nat) (l p : List UInt8) (w : World) (ha : BR w A n l) (hp : BR w B m p) (hn : n ≤ 211106232467456) (hm : m ≤ 9223372036854775807) :
    Calls Try.prog 55 #[.slice A n c, .slice B m d] w fun e w' => ∃ v, e = .returned (.tuple #[v, .int .i64 (addPartE p)]) ∧ OB w' w.heap.size v (addPart l p) ∧ Below w.heap.size w w' := by
  have hpl := hp.len
  by_cases h : m ≤ 65535
  · refine (refAddPart_fits A B n c m d l p w ha hp hn h).mono ?_
    rintro e w' ⟨v, rfl, ho, hb⟩
    refine ⟨v, ?_, ?_, hb⟩
    · rw [addPartE, if_pos (by omega)]
    · rw [addPart, if_pos (by omega), hpl]; exact ho
  · refine (refAddPart_long A B n c m d w (by omega) hm).mono ?_
    rintro e w' ⟨rfl, rfl⟩
    refine ⟨_, by rw [addPartE, if_neg (by omega)], ?_, Below.refl _ _⟩
    rw [addPart, if_neg (by omega)]; exact OB.nil _ _

/-- Two rows of the same bytes are the same to SameBytes. -/
theorem SameBytes_own (x y : Value) (l : List UInt8) (w : World) {b1 b2 : Nat} (h1 : OB w b1 x l) (h2 : OB w b2 y l) :
    Calls Try.prog 18 #[x, y] w fun e w' => e = .returned (.bool true) ∧ w = w' := by
  obtain ⟨A1, c1, rfl, r1, _, _⟩ := h1.form
  obtain ⟨A2, c2, rfl, r2, _, _⟩ := h2.form
  have := SameBytes_any A1 A2 _ _ c1 c2 l l w r1 r2
  simpa using this

set_option maxHeartbeats 2000000 in
set_option maxRecDepth 100000 in
theorem OctetsTells_walk (A B : Option Addr) (n c m d : Nat) (l p : List UInt8) (at_ : Int) (v : Nat) (w : World) (ha : BR w A n l) (hp : BR w B m p)
    (hn : n ≤ 140737488351232) (hm : m ≤ 140737488351232) (hv : v < 18446744073709551616) (ht1 : -9223372036854775808 ≤ at_) (ht2 : at_ ≤ 9223372036854775807) :
    Calls Try.prog 13 #[.slice A n c, .slice B m d, .int .i64 at_, .int .u64 v] w fun e w' => e = .returned (.bool true) ∧ Below w.heap.size w w' := by
  have HV := Lib.hid hv
  have HLA := Lib.hid ha.len
  have HLP := Lib.hid hp.len
  clear hv
  go_enter Try.func13, Try.ntmps13
  go_wp2_with fail
  refine (LentBytes_any A n c l w ha (by omega)).mono ?_
  rintro e w1 ⟨A1, c1, rfl, lent1, hb1⟩
  go_wp2_with fail
  refine (LentBytes_any B m d p w1 (hp.below hb1) (by omega)).mono ?_
  rintro e w2 ⟨A2, c2, rfl, lent2, hb2⟩
  have hbw := gr_trans hb1 hb2
  have lent1' := lent1.below hb2
  have ha2 := ha.below hbw
  have hp2 := hp.below hbw
  obtain ⟨hr1, hc1, hm1⟩ := lent1'.BR
  rw [HLA.out] at hr1 hc1
  obtain ⟨hr2, hc2, hm2⟩ := lent2.BR
  rw [HLP.out] at hr2 hc2
  clear lent1 hb1 hb2
  simp only [maxLen] at hm1 hm2
  go_wp2_with fail
  refine (U16_any A1 n c1 l w2 at_ hr1 (by omega) ht1 ht2).mono ?_
  rintro e w' ⟨rfl, rfl⟩
  go_wp2_with fail
  refine (U32_any A1 n c1 l w2 at_ hr1 (by omega) ht1 ht2).mono ?_
  rintro e w' ⟨rfl, rfl⟩
  go_wp2_with fail
  refine (U64_any A1 n c1 l w2 at_ hr1 (by omega) ht1 ht2).mono ?_
  rintro e w' ⟨rfl, rfl⟩
  go_wp2_with fail
  refine (refNumber_any A n c l w2 at_ 2 ha2 (by omega) (by omega) ht1 ht2).mono ?_
  rintro e w' ⟨rfl, rfl⟩
  go_wp2_with fail
  refine (refNumber_any A n c l w2 at_ 4 ha2 (by omega) (by omega) ht1 ht2).mono ?_
  rintro e w' ⟨rfl, rfl⟩
  go_wp2_with fail
  refine (refNumber_any A n c l w2 at_ 8 ha2 (by omega) (by omega) ht1 ht2).mono ?_
  rintro e w' ⟨rfl, rfl⟩
  have q2 := numAt_lt l at_ 2
  have q4 := numAt_lt l at_ 4
  have q8 := numAt_lt l at_ 8
  generalize (numAt l at_ 2).isSome = o2
  generalize (numAt l at_ 4).isSome = o4
  generalize (numAt l at_ 8).isSome = o8
  generalize (numAt l at_ 2).getD 0 = x2 at q2 ⊢
  generalize (numAt l at_ 4).getD 0 = x4 at q4 ⊢
  generalize (numAt l at_ 8).getD 0 = x8 at q8 ⊢
  have q2' : x2 ≤ 65535 := by omega
  have q4' : x4 ≤ 4294967295 := by omega
  clear q2 q4 q8
  go_wp2_with fail
  refine (Add16_of A1 n c1 l _ _ (v % 65536) (by rw [IntKind.wrap_u16]; omega) hr1 (by omega) (by omega)).mono ?_
  rintro e w3 ⟨v3, rfl, ho3, hb3⟩
  go_wp2_with fail
  refine (refAdd_of A n c l _ _ (v % 65536) 2 (by simp) (ha2.below hb3) (by omega) (by omega) (by omega)).mono ?_
  rintro e w4 ⟨v4, rfl, ho4, hb4⟩
  go_wp2_with fail
  refine (SameBytes_own _ _ _ _ (ho3.below hb4) ho4).mono ?_
  rintro e w' ⟨rfl, rfl⟩
  have hb5 := gr_trans hb3 hb4
  clear ho3 ho4 hb3 hb4
  go_wp2_with fail
  refine (Add32_of A1 n c1 l _ _ (v % 4294967296) (by omega) (hr1.below hb5) (by omega) (by omega)).mono ?_
  rintro e w5 ⟨v5, rfl, ho5, hb6⟩
  have hb7 := gr_trans hb5 hb6
  go_wp2_with fail
  refine (refAdd_of A n c l _ _ (v % 4294967296) 4 (by simp) (ha2.below hb7) (by omega) (by omega) (by omega)).mono ?_
  rintro e w6 ⟨v6, rfl, ho6, hb8⟩
  go_wp2_with fail
  refine (SameBytes_own _ _ _ _ (ho5.below hb8) ho6).mono ?_
  rintro e w' ⟨rfl, rfl⟩
  have hb9 := gr_trans hb7 hb8
  clear ho5 ho6 hb5 hb6 hb7 hb8
  go_wp2_with fail
  refine (Add64_any A1 n c1 l _ v (hr1.below hb9) (by omega) HV.out).mono ?_
  rintro e w7 ⟨v7, rfl, ho7, hb10⟩
  have hb11 := gr_trans hb9 hb10
  go_wp2_with fail
  refine (refAdd_any A n c l _ v 8 (ha2.below hb11) (by omega) (by omega) HV.out).mono ?_
  rintro e w8 ⟨v8, rfl, ho8, hb12⟩
  go_wp2_with fail
  refine (SameBytes_own _ _ _ _ (ho7.below hb12) ho8).mono ?_
  rintro e w' ⟨rfl, rfl⟩
  have hb13 := gr_trans hb11 hb12
  clear ho7 ho8 hb9 hb10 hb11 hb12
  have hr1' := hr1.below hb13
  have hr2' := hr2.below hb13
  have ha3 := ha2.below hb13
  have hp3 := hp2.below hb13
  go_wp2_with fail
  refine (AddPart_any A1 A2 n c1 m c2 l p _ hr1' hr2' (by omega) (by omega)).mono ?_
  rintro e w9 ⟨v9, rfl, ho9, hb14⟩
  go_wp2_with fail
  refine (refAddPart_any A B n c m d l p _ (ha3.below hb14) (hp3.below hb14) (by omega) (by omega)).mono ?_
  rintro e w10 ⟨v10, rfl, ho10, hb15⟩
  have ho9' := ho9.below hb15
  have hb16 := gr_trans hb14 hb15
  clear ho9 hb14 hb15
  go_wp2_with fail
  refine (Part_any A1 n c1 l _ at_ (hr1'.below hb16) (by omega) (by omega) (by omega) ht1 ht2).mono ?_
  rintro e w11 ⟨v11, rfl, ho11, hb17⟩
  have hb18 := gr_trans hb16 hb17
  go_wp2_with fail
  refine (refPart_any A n c l _ at_ (ha3.below hb18) (by omega) ht1 ht2).mono ?_
  rintro e w12 ⟨v12, rfl, ho12, hb19⟩
  have hb20 := gr_trans hb18 hb19
  have ho9'' := (ho9'.below hb17).below hb19
  have ho10' := (ho10.below hb17).below hb19
  have ho11' := ho11.below hb19
  clear ho9' ho10 ho11 hb16 hb17 hb18 hb19
  generalize ((partAt l at_).map (·.2)).getD 0 = pe
  generalize (partAt l at_).isSome = po
  generalize addPartE p = ae
  go_wp2_with fail
  refine (SameBytes_own _ _ _ _ ho9'' ho10').mono ?_
  rintro e w' ⟨rfl, rfl⟩
  go_wp2_with fail
  refine (SameBytes_own _ _ _ _ ho11' ho12).mono ?_
  rintro e w' ⟨rfl, rfl⟩
  clear ho9'' ho10' ho11' ho12
  go_wp2_with fail
  refine (refCmp_any A B n m c d l p _ (ha3.below hb20) (hp3.below hb20) (by omega) (by omega)).mono ?_
  rintro e w13 ⟨rfl, hb21⟩
  have hb22 := gr_trans hb20 hb21
  clear hb20 hb21
  go_wp2_with fail
  refine (Cmp_any A1 A2 n m c1 c2 l p _ (hr1'.below hb22) (hr2'.below hb22)).mono ?_
  rintro e w' ⟨rfl, rfl⟩
  go_wp2_with fail
  refine (Same_any A1 A2 n m c1 c2 l p _ (hr1'.below hb22) (hr2'.below hb22)).mono ?_
  rintro e w' ⟨rfl, rfl⟩
  go_wp2_with fail
  refine (KeptBytes_any A1 A n c1 c _ l _ ((lent1'.below hb13).below hb22) (ha3.below hb22) (by omega)).mono ?_
  rintro e w' ⟨rfl, rfl⟩
  go_wp2_with fail
  refine (KeptBytes_any A2 B m c2 d _ p _ ((lent2.below hb13).below hb22) (hp3.below hb22) (by omega)).mono ?_
  rintro e w' ⟨rfl, rfl⟩
  go_wp2_with fail
  refine (awake01_any _).mono ?_
  rintro e w14 ⟨rfl, hb23⟩
  go_wp2
  go_ret
  exact ⟨rfl, gr_trans (gr_trans (gr_trans hbw hb13) hb22) hb23⟩

end Go.Proofs.Ytecndamoomkhnaa
