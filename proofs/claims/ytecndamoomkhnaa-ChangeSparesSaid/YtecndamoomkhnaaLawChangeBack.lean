/-
  The law ChangeBack, walked.
-/
import Derived.Test.YtecndamoomkhnaaLawChangeAlong
import Derived.Test.YtecndamoomkhnaaRecA
namespace Go.Proofs.Ytecndamoomkhnaa
open Go.RowKit

theorem rp_good {a b : List UInt8} {ps : List Pc} (hg : Good a b ps) : ∀ (n k : Nat) (e : Int), k + n = ps.length → (k = 0 → e = 0) → (0 < k → e = pEnd (ps.getD (k - 1) (0, [])) + 1) → rpFrom e (ps.drop k) = true
  | 0, k, e, h, _, _ => by rw [List.drop_eq_nil_of_le (by omega)]; rfl
  | n + 1, k, e, h, h0, h1 => by
    have hk : k < ps.length := by omega
    obtain ⟨⟨g1, g2, g3⟩, _, _, g4⟩ := hg k hk
    rw [pc_drop hk]
    unfold rpFrom
    rw [if_neg]
    · refine rp_good hg n (k + 1) _ (by omega) (fun h => by omega) (fun _ => ?_)
      rw [Nat.add_sub_cancel]
      unfold pEnd
      omega
    · rcases Nat.eq_zero_or_pos k with hz | hz
      · have := h0 hz; omega
      · have := h1 hz; have := g4 hz; omega

theorem right_good {a b : List UInt8} (ps : List Pc) (hg : Good a b ps) : rightR 1 0 [((1 : Int), ([] : List UInt8), ps)] = true := by
  have h := rp_good hg ps.length 0 0 (by omega) (fun _ => rfl) (fun h => by omega)
  rw [List.drop_zero] at h
  simp [rightR, rcFrom, h]

/-- Where the piece ahead ended. -/
def lastE (ps : List Pc) (k : Nat) : Int := if k = 0 then -9 else pEnd (ps.getD (k - 1) (0, []))

theorem CR.lit1 (w : World) (pg : Int) (u : Value) (ps : List Pc) (t : TypeId) (hv : VP w u ps) (g : Nat) (hg : w.heap.size = g) : CR (w.alloc (.cells #[.int .i64 pg, .slice none 0 0, u] t)) (some ⟨g, 0, none⟩) 1 [(pg, [], ps)] := by
  subst hg
  refine ⟨[(pg, .slice none 0 0, u)], Rd.new w t #[.int .i64 pg, .slice none 0 0, u] 1 3 rfl, rfl, fun i p q hp hq => ?_⟩
  match i, hp, hq with
  | 0, hp, hq =>
    simp only [List.getElem?_cons_zero, Option.some.injEq] at hp hq
    subst hp hq
    exact ⟨rfl, ⟨none, 0, rfl, BR.none_ _ _, Nat.le_refl _, Nat.zero_le _⟩, hv.below (gr_alloc (gr_refl w) _)⟩
  | i + 1, hp, hq => simp at hp

set_option maxRecDepth 100000 in
set_option maxHeartbeats 4000000 in
theorem ChangeBack_walk (seed : Int) (A : Option Addr) (n c : Nat) (ts : List Int) (w : World) (ht : IR w A n ts) (hn : n ≤ 9223372036854775807) :
    Calls Try.prog 15 #[.int .i64 seed, .slice A n c] w fun e w' => e = .returned (.bool true) ∧ Below w.heap.size w w' := by
  go_enter Try.func15, Try.ntmps15
  go_wp2_with fail
  refine (pages_any seed A n c ts w ht hn).mono ?_
  rintro e w1 ⟨g, h, cap, a, b, rfl, hP, hb1⟩
  have HA := Lib.hid hP.la
  have HB := Lib.hid hP.lb
  have oa1 := hP.oa
  have ob1 := hP.ob
  have ra1 := oa1.br HA.out
  have rb1 := ob1.br HB.out
  have hcap1 := hP.cap1
  clear hP
  go_wp2_with fail
  refine (Diff_any _ _ _ _ _ _ _ ra1 rb1 hcap1).mono ?_
  rintro e w3 ⟨v3, rfl, op3, hb3⟩
  obtain ⟨A3, c3, rfl, pr3, hc3, hm3⟩ := op3.form rfl
  have L3 := Lib.hid (diffL_small a b HB.out)
  have HG := Lib.hid (good_diff (a := a) HB.out)
  have HAP := Lib.hid (apply_diff HA.out HB.out)
  have HNIL := Lib.hid (diff_nil HA.out HB.out)
  generalize diffL a b = D at *
  generalize hn3 : D.length = n3 at *
  have HN3 := Lib.hid hn3
  clear hn3
  have l3 : n3 ≤ 4080 := L3.out.1
  go_wp2_with fail
  refine (Apply_any _ _ _ n3 c3 a D w3 (ra1.below hb3) pr3 (by omega) (fun p hp => by have := L3.out.2 p hp; omega)).mono ?_
  rintro e w4 ⟨hb4, hx4⟩
  rw [HAP.out] at hx4
  obtain ⟨v4, rfl, ob4⟩ := hx4
  have hb34 := gr_trans hb3 hb4
  have ra4 := ra1.below hb34
  have rb4 := rb1.below hb34
  have pr4 := pr3.below hb4
  have ob1' := ob1.below hb34
  have op4 := op3.below hb4
  have hbw4 := gr_trans hb1 hb34
  clear ra1 rb1 pr3 op3 oa1 ob1 hb1 hb3 hb4 hb34
  go_wp2_with fail
  refine (sameB_own _ _ b _ ob4 ob1').mono ?_
  rintro e w' ⟨rfl, rfl⟩
  clear ob4 ob1'
  go_wp2_with fail
  refine (SameBytes_any _ _ 4080 4080 4080 cap a b _ ra4 rb4).mono ?_
  rintro e w' ⟨rfl, rfl⟩
  have htest : ((n3 : Int) == 0) = (a == b) := by
    by_cases hab : a = b
    · have : D = [] := HNIL.out.2 hab
      have h0 : n3 = 0 := by rw [← HN3.out, this]; rfl
      subst hab
      subst h0
      simp
    · have : n3 ≠ 0 := fun h0 => hab (HNIL.out.1 (List.eq_nil_of_length_eq_zero (by rw [HN3.out]; exact h0)))
      have h1 : ((n3 : Int) == 0) = false := beq_eq_false_iff_ne.2 (by omega)
      have h2 : (a == b) = false := by simpa using hab
      rw [h1, h2]
  have htest2 : (n3 == 0) = (a == b) := by
    rw [← htest]
    by_cases h0 : n3 = 0
    · subst h0; rfl
    · rw [beq_eq_false_iff_ne.2 h0, beq_eq_false_iff_ne.2 (by omega)]
  generalize (a == b) = q2 at *
  go_wp2_with fail
  clear htest htest2
  go_loopw [11, 12, 13] (fun x i _y wr => ∃ (k : Nat) (la : Int), k ≤ n3 ∧ i = .int .i64 k ∧ x = .int .i64 la ∧ -9 ≤ la ∧ la ≤ 4080 ∧ Hid (la = lastE D k) ∧ ∃ q, Hid (wr = w4.drewN q)) (fun _ i _ _ => n3 - (intOf i).toNat)
  case atStart => exact ⟨0, -9, Nat.zero_le _, rfl, rfl, Int.le_refl _, by omega, Lib.hid rfl, 0, Lib.hid rfl⟩
  case round =>
    obtain ⟨k, la, hk, rfl, rfl, hla1, hla2, HLA, q, HW⟩ := hrel
    by_cases hlt : k < n3
    · have hkD : k < D.length := by rw [HN3.out]; exact hlt
      obtain ⟨⟨g1, g2, g3⟩, g4, g5, g6⟩ := HG.out k hkD
      have pr5 : PR wr A3 n3 D := by rw [HW.out]; exact pr4
      obtain ⟨gp, op, Bp, cp, e3, q1, q2', q3, q4, q5⟩ := pr5.at_ (i := k) hlt
      subst e3
      have hlast : 8 < (D.getD k (0, [])).1 - la := by
        rw [HLA.out]
        unfold lastE
        split
        · omega
        · exact g6 (by omega)
      have HE := Lib.hid (show pEnd (D.getD k (0, [])) = lastE D (k + 1) by unfold lastE; rw [if_neg (by omega), Nat.add_sub_cancel])
      have hpe : pEnd (D.getD k (0, [])) = (D.getD k (0, [])).1 + (D.getD k (0, [])).2.length - 1 := rfl
      generalize pEnd (D.getD k (0, [])) = pe at *
      generalize D.getD k (0, []) = p at *
      obtain ⟨pa, pb⟩ := p
      dsimp only at g1 g2 g3 g4 q1 q2' q3 q4 hlast hpe
      generalize pb.length = pn at *
      obtain ⟨pa, rfl⟩ := Int.eq_ofNat_of_zero_le g1
      obtain ⟨pe, rfl⟩ := Int.eq_ofNat_of_zero_le (show 0 ≤ pe by omega)
      rw [Int.toNat_natCast] at g4 g5
      have hpe2 : pe < 4080 := by omega
      have ra5 : BR wr (some ⟨g, 0, none⟩) 4080 a := by rw [HW.out]; exact ra4
      have rb5 : BR wr (some ⟨h, 0, none⟩) 4080 b := by rw [HW.out]; exact rb4
      obtain ⟨_, _, e1, x1⟩ := ra5.at_ (k := pa) (by omega)
      cases e1
      obtain ⟨_, _, e1, x2⟩ := rb5.at_ (k := pa) (by omega)
      cases e1
      obtain ⟨_, _, e1, x3⟩ := ra5.at_ (k := pe) (by omega)
      cases e1
      obtain ⟨_, _, e1, x4⟩ := rb5.at_ (k := pe) (by omega)
      cases e1
      have y1 : (((a.getD pa 0).toNat : Int) == ((b.getD pa 0).toNat : Int)) = false := by rw [beq_u8]; simpa using g4
      have y2 : (((a.getD pe 0).toNat : Int) == ((b.getD pe 0).toNat : Int)) = false := by rw [beq_u8]; simpa using g5
      generalize ((a.getD pa 0).toNat : Int) = z1 at *
      generalize ((b.getD pa 0).toNat : Int) = z2 at *
      generalize ((a.getD pe 0).toNat : Int) = z3 at *
      generalize ((b.getD pe 0).toNat : Int) = z4 at *
      rw [Nat.zero_add] at x1 x2 x3 x4
      have y3 : decide ((pa : Int) - la ≤ 8) = false := by simp; omega
      have s1 : IntKind.i64.wrap ((pa : Int) + (pn : Int)) = (pa : Int) + (pn : Int) := by rw [IntKind.wrap_i64]; omega
      have s2 : IntKind.i64.wrap ((pa : Int) + (pn : Int) - 1) = (pe : Int) := by rw [IntKind.wrap_i64]; omega
      have s3 : IntKind.i64.wrap ((pa : Int) - la) = (pa : Int) - la := by rw [IntKind.wrap_i64]; omega
      have hpa2 : pa < 4080 := by omega
      clear g1 g2 g3 g4 g5 g6 hlast hpe q3 q4 q5 hla1 hla2 ra5 rb5 pr5 hkD
      go_wp2_with fail
      go_quiet (fail)
      clear s1 s2
      obtain ⟨wr2, hw2⟩ : ∃ wr2, wr2 = wr.drewN nq := ⟨_, rfl⟩
      have q1' : wr2.cell? ⟨gp, op + k * 2, none⟩ = some (.int .i64 (pa : Int)) := by rw [hw2]; exact q1
      have x1' : wr2.cell? ⟨g, pa, none⟩ = some (.int .u8 z1) := by rw [hw2]; exact x1
      have x2' : wr2.cell? ⟨h, pa, none⟩ = some (.int .u8 z2) := by rw [hw2]; exact x2
      have x3' : wr2.cell? ⟨g, pe, none⟩ = some (.int .u8 z3) := by rw [hw2]; exact x3
      have x4' : wr2.cell? ⟨h, pe, none⟩ = some (.int .u8 z4) := by rw [hw2]; exact x4
      obtain ⟨q', HW2⟩ : ∃ q', Hid (wr2 = w4.drewN q') := ⟨q + nq, Lib.hid (by rw [hw2, HW.out, World.drewN_drewN])⟩
      rw [← hw2]
      clear hw2 q1 q2' x1 x2 x3 x4 HW
      go_wp2_with fail
      go_quiet (fail)
      go_wp2_with fail
      go_roundw
      case rel => exact ⟨k + 1, pe, by omega, by go_num, rfl, by omega, by omega, HE, q' + nq, Lib.hid (by rw [HW2.out, World.drewN_drewN])⟩
      case measure => simp [intOf]; omega
    · obtain rfl : k = n3 := by omega
      have hbw5 : Below w.heap.size w wr := by rw [HW.out]; exact gr_drewN hbw4 q
      have op5 : OP wr w1.heap.size (.slice A3 k c3) D := by rw [HW.out]; exact op4
      go_wp2_with fail
      have hv := op5.vp
      have hcr := CR.lit1 wr 1 _ D 81 hv _ rfl
      refine (Right_any 1 0 _ 1 1 [((1 : Int), ([] : List UInt8), D)] _ hcr (by omega) (fun c hc p hp => by
        rw [List.mem_singleton] at hc
        subst hc
        have := L3.out.2 p hp
        omega)).mono ?_
      rintro r w6 ⟨rfl, hb6⟩
      have hR := right_good D HG.out
      rw [hR]
      clear hR
      have hb7 := gr_trans (gr_alloc hbw5 _) hb6
      go_wp2_with fail
      refine (awake08_any _).mono ?_
      rintro e w8 ⟨rfl, hb8⟩
      go_wp2
      go_ret
      exact ⟨rfl, gr_trans hb7 hb8⟩

end Go.Proofs.Ytecndamoomkhnaa
