/-
  The reference of chapter 05: is a change right? is a record?
-/
import Derived.Test.YthpjjoahffagcaaRdQ
namespace Go.Proofs.Ythpjjoahffagcaa
open Go.RowKit

def chOK (c : Ch) : Bool := if c.1 < 0 ∨ 4096 ≤ c.1 then false else if 0 < c.2.1.length then decide (c.2.1.length = 4080 ∧ c.2.2.length = 0) else rpFrom 0 c.2.2
/-- Where the piece ahead of piece k ends. -/
def eR (ps : List Pc) (k : Nat) : Int := if k = 0 then 0 else (ps.getD (k - 1) (0, [])).1 + (ps.getD (k - 1) (0, [])).2.length

set_option maxRecDepth 100000 in
set_option maxHeartbeats 2000000 in
theorem refChange_any (pg : Int) (B : Option Addr) (ni ci : Nat) (im : List UInt8) (D : Option Addr) (nq dq : Nat) (qs : List Pc) (w : World) (hi : im.length = ni) (hni : ni ≤ 9223372036854775807) (hp : PR w D nq qs) (hnq : nq ≤ 9223372036854775807) (hpb : ∀ p ∈ qs, -9223372036854775808 ≤ p.1 ∧ p.1 ≤ 9223372036854775807) :
    Calls Try.prog 52 #[.agg #[.int .i64 pg, .slice B ni ci, .slice D nq dq]] w fun r w' => r = .returned (.bool (chOK (pg, im, qs))) ∧ Below w.heap.size w w' := by
  have HPN := Lib.hid hp.len
  have HPB := Lib.hid hpb
  have HNI := Lib.hid hi
  have HOK : Hid (chOK (pg, im, qs) = if pg < 0 ∨ 4096 ≤ pg then false else if 0 < ni then decide (ni = 4080 ∧ nq = 0) else rpFrom 0 qs) := Lib.hid (by unfold chOK; dsimp only; rw [hi, hp.len])
  have hbx := gr_alloc (gr_refl w) (.cells #[.int .i64 pg, .slice B ni ci, .slice D nq dq] 56)
  clear hpb hi
  by_cases h1 : pg < 0
  · have t1 : decide (pg < 0) = true := decide_eq_true h1
    go_enter Try.func52, Try.ntmps52
    go_wp2_with fail
    go_ret
    exact ⟨ret_bl (by rw [HOK.out, if_pos (.inl h1)]), hbx⟩
  have t1 : decide (pg < 0) = false := decide_eq_false h1
  by_cases h2 : 4096 ≤ pg
  · have t2 : decide (4096 ≤ pg) = true := decide_eq_true h2
    go_enter Try.func52, Try.ntmps52
    go_wp2_with fail
    go_ret
    exact ⟨ret_bl (by rw [HOK.out, if_pos (.inr h2)]), hbx⟩
  have t2 : decide (4096 ≤ pg) = false := decide_eq_false h2
  have HOK2 := Lib.hid (HOK.out.trans (if_neg (by omega)))
  clear HOK
  by_cases h3 : 0 < ni
  · have t3 : decide ((0 : Int) < (ni : Int)) = true := decide_eq_true (by omega)
    have t3' : decide (0 < ni) = true := decide_eq_true h3
    have HOK3 := Lib.hid (HOK2.out.trans (if_pos h3))
    clear HOK2
    by_cases h4 : ni = 4080
    · have HN4 := Lib.hid h4
      subst h4
      cases h5 : (nq == 0)
      all_goals
        have t5 : ((nq : Int) == 0) = (nq == 0) := by rw [Bool.eq_iff_iff]; simp
        rw [h5] at t5
        go_enter Try.func52, Try.ntmps52
        go_wp2_with fail
        go_ret
        refine ⟨ret_bl ?_, hbx⟩
        rw [HOK3.out]
        simp at h5
        simp [h5]
    · have t4 : ((ni : Int) == 4080) = false := beq_eq_false_iff_ne.2 (by omega)
      have t4' : (ni == 4080) = false := beq_eq_false_iff_ne.2 h4
      go_enter Try.func52, Try.ntmps52
      go_wp2_with fail
      go_ret
      exact ⟨ret_bl (by rw [HOK3.out]; simp [h4]), hbx⟩
  obtain rfl : ni = 0 := by omega
  have HOK3 := Lib.hid (HOK2.out.trans (if_neg (by omega)))
  clear HOK2
  by_cases h6 : 4080 < nq
  · have t6 : decide (4080 < (nq : Int)) = true := decide_eq_true (by omega)
    have t6' : decide (4080 < nq) = true := decide_eq_true h6
    go_enter Try.func52, Try.ntmps52
    go_wp2_with fail
    go_ret
    refine ⟨ret_bl ?_, hbx⟩
    rw [HOK3.out]
    cases hr : rpFrom 0 qs with
    | false => rfl
    | true =>
      have := (rpFrom_good qs 0 (by omega) hr).2
      have hl := HPN.out
      rcases this with e | e
      · rw [e] at hl; simp at hl; omega
      · omega
  have t6 : decide (4080 < (nq : Int)) = false := decide_eq_false (by omega)
  have t6' : decide (4080 < nq) = false := decide_eq_false h6
  have hp0 := hp.below hbx
  clear hp
  go_enter Try.func52, Try.ntmps52
  go_wp2_with fail
  clear t1 t2 t6 t6'
  have hx := B3.new w (.int .i64 pg) (.slice B 0 ci) (.slice D nq dq) (t := 56) (by decide)
  have HX := Lib.hid hx
  have HP0 := Lib.hid hp0
  clear hx hp0
  generalize w.alloc (.cells #[.int .i64 pg, .slice B 0 ci, .slice D nq dq] 56) = w0 at *
  go_loopw [3, 4] (fun i _ wr => ∃ (k : Nat), k ≤ nq ∧ i = .int .i64 k ∧ Hid (0 ≤ eR qs k ∧ eR qs k ≤ 4080) ∧ Hid (rpFrom 0 qs = rpFrom (eR qs k) (qs.drop k)) ∧ Hid (Below w0.heap.size w0 wr)) (fun i _ _ => nq - (intOf i).toNat)
  case atStart => exact ⟨0, Nat.zero_le _, rfl, Lib.hid (by unfold eR; rw [if_pos rfl]; omega), Lib.hid (by unfold eR; rw [if_pos rfl]; rfl), Lib.hid (gr_refl w0)⟩
  case round =>
    obtain ⟨k, hk, rfl, HE, HR, HB⟩ := hrel
    have HXr := Lib.hid (HX.out.nb (NB.below HB.out))
    have x0 := HXr.out.c0
    have x2 := HXr.out.c2
    by_cases hlt : k < nq
    · have t0 : decide ((k : Int) < (nq : Int)) = true := decide_eq_true (by omega)
      have t0' : decide (k < nq) = true := decide_eq_true hlt
      obtain ⟨gp, op, Bp, cp, rfl, q1, q2, q3, q4, q5⟩ := (HP0.out.below HB.out).at_ (i := k) hlt
      have hkl : k < qs.length := by rw [HPN.out]; exact hlt
      have hub := HPB.out _ (pc_mem hkl)
      have HS := Lib.hid (HR.out.trans (by rw [pc_drop hkl]))
      have heS : Hid (eR qs (k + 1) = (qs.getD k (0, [])).1 + ((qs.getD k (0, [])).2.length : Int)) := Lib.hid (by unfold eR; rw [if_neg (by omega)]; rfl)
      have hpv : 0 < k → ∃ (va : Int) (vn : Nat) (Bv : Option Addr) (cv : Nat), w0.cell? ⟨gp, op + (k - 1) * 2, none⟩ = some (.int .i64 va) ∧ w0.cell? ⟨gp, op + (k - 1) * 2 + 1, none⟩ = some (.slice Bv vn cv) ∧ eR qs k = va + (vn : Int) ∧ vn ≤ 9223372036854775807 := fun h0 => by
        obtain ⟨gp', op', Bp', cp', e', q1', q2', q3', q4', q5'⟩ := HP0.out.at_ (i := k - 1) (by omega)
        cases e'
        refine ⟨_, _, _, _, q1', q2', ?_, by unfold maxLen at q5'; omega⟩
        unfold eR
        rw [if_neg (by omega)]
      have HPV := Lib.hid hpv
      clear HR hkl q3 hpv
      obtain ⟨⟨pa, pb⟩, HQ⟩ : ∃ p, p = qs.getD k (0, []) := ⟨_, rfl⟩
      rw [← HQ] at q1 q2 q4 HS hub heS
      clear HQ
      dsimp only at q1 q2 q4 hub heS
      obtain ⟨e', he'⟩ : ∃ e', e' = eR qs (k + 1) := ⟨_, rfl⟩
      rw [← he'] at heS
      have HE1 := Lib.hid he'
      clear he'
      generalize hek : eR qs k = e at *
      have HEK := Lib.hid hek
      clear hek
      obtain ⟨pn, hpn⟩ : ∃ pn, pn = pb.length := ⟨_, rfl⟩
      rw [← hpn] at q2 q4 heS
      have HPL := Lib.hid hpn
      clear hpn
      unfold maxLen at q5
      have HBAD : Hid ((pa < e ∨ pn = 0 ∨ 4080 - pa < (pn : Int)) → rpFrom 0 qs = false) := Lib.hid (fun h => by
        rw [HS.out]
        unfold rpFrom
        rw [← HPL.out, if_pos h])
      have HGOOD : Hid (¬ (pa < e ∨ pn = 0 ∨ 4080 - pa < (pn : Int)) → rpFrom 0 qs = rpFrom e' (qs.drop (k + 1))) := Lib.hid (fun h => by
        rw [HS.out, heS.out]
        conv => lhs; unfold rpFrom
        rw [← HPL.out, if_neg h])
      have hbp := gr_alloc HB.out (.cells #[.int .i64 pa, .slice Bp pn cp] 29)
      have hbq := gr_trans hbx hbp
      have HBP := Lib.hid hbp
      have HBQ := Lib.hid hbq
      have he0 := HE.out.1
      clear HS hbp hbq
      by_cases g1 : pa < 0
      · have s1 : decide (pa < 0) = true := decide_eq_true g1
        go_wp2_with fail
        go_ret
        exact ⟨ret_bl (by rw [HOK3.out]; exact (HBAD.out (.inl (by omega))).symm), HBQ.out⟩
      have s1 : decide (pa < 0) = false := decide_eq_false g1
      by_cases g2 : pn = 0
      · subst g2
        go_wp2_with fail
        go_ret
        exact ⟨ret_bl (by rw [HOK3.out]; exact (HBAD.out (by simp)).symm), HBQ.out⟩
      have s2 : ((pn : Int) == 0) = false := beq_eq_false_iff_ne.2 (by omega)
      have s2' : (pn == 0) = false := beq_eq_false_iff_ne.2 g2
      by_cases g3 : 4080 < pn
      · have s3 : decide (4080 < (pn : Int)) = true := decide_eq_true (by omega)
        have s3' : decide (4080 < pn) = true := decide_eq_true g3
        go_wp2_with fail
        go_ret
        exact ⟨ret_bl (by rw [HOK3.out]; exact (HBAD.out (.inr (.inr (by omega)))).symm), HBQ.out⟩
      have s3 : decide (4080 < (pn : Int)) = false := decide_eq_false (by omega)
      have s3' : decide (4080 < pn) = false := decide_eq_false g3
      by_cases g4 : 4080 - (pn : Int) < pa
      · have s4 : decide (4080 - (pn : Int) < pa) = true := decide_eq_true g4
        go_wp2_with fail
        go_ret
        exact ⟨ret_bl (by rw [HOK3.out]; exact (HBAD.out (.inr (.inr (by omega)))).symm), HBQ.out⟩
      have s4 : decide (4080 - (pn : Int) < pa) = false := decide_eq_false g4
      by_cases h0 : k = 0
      · have HG := Lib.hid (HGOOD.out (by have := HEK.out; unfold eR at this; rw [if_pos h0] at this; omega))
        have r0 : decide ((0 : Int) < (k : Int)) = false := decide_eq_false (by omega)
        have r0' : decide (0 < k) = false := decide_eq_false (by omega)
        have HE' : Hid (0 ≤ e' ∧ e' ≤ 4080) := Lib.hid (by rw [heS.out]; omega)
        clear HBAD HGOOD HPV heS h0
        go_upto_region 13 with fail
        clear s1 s2 s2' s3 s3' s4 g1 g2 g3 g4
        go_quiet (fail)
        go_wp2_with fail
        go_roundw
        case rel => exact ⟨k + 1, by omega, by go_num, by rw [← HE1.out]; exact HE', by rw [← HE1.out]; exact HG, Lib.hid (gr_drewN HBP.out nq)⟩
        case measure => simp [intOf]; omega
      · have r0 : decide ((0 : Int) < (k : Int)) = true := decide_eq_true (by omega)
        have r0' : decide (0 < k) = true := decide_eq_true (by omega)
        obtain ⟨va, vn, Bv, cv, v1, v2, v3, v4⟩ := HPV.out (by omega)
        have y1 := keep_of_below HBP.out v1
        have y2 := keep_of_below HBP.out v2
        have z2 := keep_of_below (gr_alloc (gr_refl wr) (.cells #[.int .i64 pa, .slice Bp pn cp] 29)) x2
        have hev : va + (vn : Int) = e := v3.symm
        have HEV := Lib.hid hev
        have HE' : Hid (0 ≤ e' ∧ e' ≤ 4080) := Lib.hid (by have := heS.out; omega)
        have hee := HE.out
        have w1 : IntKind.i64.wrap ((k : Int) - 1) = (k : Int) - 1 := IntWalk.i64_in _ ⟨by omega, by omega⟩
        have w2 : (0 : Int) ≤ (k : Int) - 1 := by omega
        have w3 : ((k : Int) - 1).toNat = k - 1 := by omega
        have w4 : IntKind.i64.wrap (va + (vn : Int)) = va + (vn : Int) := IntWalk.i64_in _ ⟨by omega, by omega⟩
        have w5 : (k : Int) - 1 < (nq : Int) := by omega
        have HPN' := HPN.out
        clear HPV v1 v2 v3 hee heS
        by_cases h7 : pa < e
        · have r7 : decide (pa < va + (vn : Int)) = true := decide_eq_true (by rw [hev]; exact h7)
          have HG := Lib.hid (HBAD.out (.inl h7))
          clear HBAD HGOOD hev h7
          go_upto_region 13 with fail
          clear s1 s2 s2' s3 s3' s4 g1 g2 g3 g4
          go_quiet (fail)
          go_wp2_with fail
          go_ret
          exact ⟨ret_bl (by rw [HOK3.out]; exact HG.out.symm), gr_drewN HBQ.out nq⟩
        · have r7 : decide (pa < va + (vn : Int)) = false := decide_eq_false (by rw [hev]; exact h7)
          have HG := Lib.hid (HGOOD.out (by omega))
          clear HBAD HGOOD hev h7
          go_upto_region 13 with fail
          clear s1 s2 s2' s3 s3' s4 g1 g2 g3 g4
          go_quiet (fail)
          go_wp2_with fail
          go_roundw
          case rel => exact ⟨k + 1, by omega, by go_num, by rw [← HE1.out]; exact HE', by rw [← HE1.out]; exact HG, Lib.hid (gr_drewN HBP.out nq)⟩
          case measure => simp [intOf]; omega
    · obtain rfl : k = nq := by omega
      have t0 : decide ((k : Int) < (k : Int)) = false := decide_eq_false (by omega)
      go_wp2_with fail
      go_ret
      refine ⟨ret_bl ?_, gr_trans hbx HB.out⟩
      rw [HOK3.out, HR.out, List.drop_eq_nil_of_le (Nat.le_of_eq HPN.out)]
      rfl

theorem rcFrom_chOK {last : Int} (hl : -1 ≤ last) (c : Ch) (cs : List Ch) : rcFrom last (c :: cs) = if chOK c = true ∧ last < c.1 then rcFrom c.1 cs else false := by
  unfold chOK
  conv => lhs; unfold rcFrom
  by_cases h1 : c.1 ≤ last
  · rw [if_pos (.inl h1), if_neg (by omega)]
  by_cases h2 : 4096 ≤ c.1
  · rw [if_pos (.inr h2), if_neg]
    rw [if_pos (.inr h2)]
    simp
  have e1 : ¬ (c.1 ≤ last ∨ 4096 ≤ c.1) := by omega
  have e2 : ¬ (c.1 < 0 ∨ 4096 ≤ c.1) := by omega
  rw [if_neg e1, if_neg e2]
  by_cases h3 : 0 < c.2.1.length
  · rw [if_pos h3, if_pos h3]
    by_cases h4 : c.2.1.length ≠ 4080 ∨ 0 < c.2.2.length
    · rw [if_pos h4, if_neg]
      intro h
      have := of_decide_eq_true h.1
      omega
    · rw [if_neg h4, if_pos ⟨decide_eq_true (by omega), by omega⟩]
  · rw [if_neg h3, if_neg h3]
    by_cases h4 : rpFrom 0 c.2.2 = true
    · rw [if_pos h4, if_pos ⟨h4, by omega⟩]
    · rw [if_neg h4, if_neg (fun h => h4 h.1)]
/-- The page ahead of change k. -/
def lR (cs : List Ch) (k : Nat) : Int := if k = 0 then -1 else (cs.getD (k - 1) ch0).1

set_option maxRecDepth 100000 in
set_option maxHeartbeats 2000000 in
theorem refRight_any (kd tx : Int) (A : Option Addr) (n d : Nat) (cs : List Ch) (w : World) (hc : CR w A n cs) (hn : n ≤ 9223372036854775807) (hpg : ∀ c ∈ cs, -9223372036854775808 ≤ c.1 ∧ c.1 ≤ 9223372036854775807) (hpl : ∀ c ∈ cs, c.2.2.length ≤ 9223372036854775807) (hpb : ∀ c ∈ cs, ∀ p ∈ c.2.2, -9223372036854775808 ≤ p.1 ∧ p.1 ≤ 9223372036854775807) :
    Calls Try.prog 28 #[.agg #[.int .u8 kd, .int .i64 tx, .slice A n d]] w fun r w' => r = .returned (.bool (rightR kd tx cs)) ∧ Below w.heap.size w w' := by
  have hl := hc.len
  have HCN := Lib.hid hc.len
  have HPB := Lib.hid hpb
  have HPL := Lib.hid hpl
  have HPG := Lib.hid hpg
  have HR : Hid (rightR kd tx cs = if tx < 0 ∨ 4611686018427387904 < tx then false else if kd = 2 ∨ kd = 3 then decide (n = 0) else if kd = 1 then (decide (1 ≤ n ∧ n ≤ 16) && rcFrom (-1) cs) else false) := Lib.hid (by unfold rightR; rw [hl])
  clear hl hpb hpl hpg
  have hb1 := gr_alloc (gr_refl w) (.cells #[.int .u8 kd, .int .i64 tx, .slice A n d] 38)
  by_cases h1 : tx < 0
  · have t1 : decide (tx < 0) = true := decide_eq_true h1
    go_enter Try.func28, Try.ntmps28
    go_wp2_with fail
    go_ret
    exact ⟨ret_bl (by rw [HR.out, if_pos (.inl h1)]), hb1⟩
  have t1 : decide (tx < 0) = false := decide_eq_false h1
  by_cases h2 : 4611686018427387904 < tx
  · have t2 : decide (4611686018427387904 < tx) = true := decide_eq_true h2
    go_enter Try.func28, Try.ntmps28
    go_wp2_with fail
    go_ret
    exact ⟨ret_bl (by rw [HR.out, if_pos (.inr h2)]), hb1⟩
  have t2 : decide (4611686018427387904 < tx) = false := decide_eq_false h2
  have HR2 := Lib.hid (HR.out.trans (if_neg (by omega)))
  clear HR
  by_cases k23 : kd = 2 ∨ kd = 3
  · have HR3 := Lib.hid (HR2.out.trans (if_pos k23))
    clear HR2
    have tz : ((n : Int) == 0) = decide (n = 0) := by rw [Bool.eq_iff_iff]; simp
    rcases k23 with rfl | rfl
    all_goals
      go_enter Try.func28, Try.ntmps28
      go_wp2_with fail
      go_ret
      exact ⟨ret_bl HR3.out.symm, hb1⟩
  have u2 : (kd == 2) = false := beq_eq_false_iff_ne.2 (by omega)
  have u3 : (kd == 3) = false := beq_eq_false_iff_ne.2 (by omega)
  have HR3 := Lib.hid (HR2.out.trans (if_neg k23))
  clear HR2
  by_cases k1 : kd = 1
  · have HR4 := Lib.hid (HR3.out.trans (if_pos k1))
    clear HR3 u2 u3
    subst k1
    by_cases n1 : 1 ≤ n
    · have m1 : decide ((n : Int) < 1) = false := decide_eq_false (by omega)
      have m1' : decide (n < 1) = false := decide_eq_false (by omega)
      by_cases n2 : n ≤ 16
      · have m2 : decide (16 < (n : Int)) = false := decide_eq_false (by omega)
        have m2' : decide (16 < n) = false := decide_eq_false (by omega)
        have HR5 : Hid (rightR 1 tx cs = rcFrom (-1) cs) := Lib.hid (by rw [HR4.out]; simp [n1, n2])
        have hc0 := hc.below hb1
        clear hc HR4
        have HX := Lib.hid (B3.new w (.int .u8 1) (.int .i64 tx) (.slice A n d) (t := 38) (by decide))
        have HC := Lib.hid hc0
        clear hc0
        go_enter Try.func28, Try.ntmps28
        go_wp2_with fail
        clear t1 t2 m1 m1' m2 m2'
        generalize w.alloc (.cells #[.int .u8 1, .int .i64 tx, .slice A n d] 38) = w0 at *
        go_loopw [3] (fun i wr => ∃ (k : Nat), k ≤ n ∧ i = .int .i64 k ∧ Hid (-1 ≤ lR cs k) ∧ Hid (rcFrom (-1) cs = rcFrom (lR cs k) (cs.drop k)) ∧ Hid (Below w0.heap.size w0 wr)) (fun i _ => n - (intOf i).toNat)
        case atStart => exact ⟨0, Nat.zero_le _, rfl, Lib.hid (by unfold lR; rw [if_pos rfl]; omega), Lib.hid (by unfold lR; rw [if_pos rfl]; rfl), Lib.hid (gr_refl w0)⟩
        case round =>
          obtain ⟨k, hk, rfl, HE, HRC, HB⟩ := hrel
          have HXr := Lib.hid (HX.out.nb (NB.below HB.out))
          have x0 := HXr.out.c0
          have x1 := HXr.out.c1
          have x2 := HXr.out.c2
          by_cases hlt : k < n
          · have t0 : decide ((k : Int) < (n : Int)) = true := decide_eq_true (by omega)
            have t0' : decide (k < n) = true := decide_eq_true hlt
            obtain ⟨g, o, B, c, D, d', rfl, q1, q2, q3, r1, r2, r3, r4, r5, r6⟩ := (HC.out.below HB.out).at_ (i := k) hlt
            have hkl : k < cs.length := by rw [HCN.out]; exact hlt
            have hub := HPB.out _ (ch_mem hkl)
            have hug := HPG.out _ (ch_mem hkl)
            have hul := HPL.out _ (ch_mem hkl)
            have hlS : Hid (lR cs (k + 1) = (cs.getD k ch0).1) := Lib.hid (by unfold lR; rw [if_neg (by omega)]; rfl)
            have HS := Lib.hid (HRC.out.trans (by rw [ch_drop hkl, rcFrom_chOK HE.out]))
            have hpv : 0 < k → ∃ va : Int, w0.cell? ⟨g, o + (k - 1) * 3, none⟩ = some (.int .i64 va) ∧ lR cs k = va := fun h0 => by
              obtain ⟨g', o', B', c', D', d'', e', q1', _⟩ := HC.out.at_ (i := k - 1) (by omega)
              cases e'
              refine ⟨_, q1', ?_⟩
              unfold lR
              rw [if_neg (by omega)]
            have HPV := Lib.hid hpv
            clear HRC hkl hpv
            obtain ⟨⟨pg, im, qs⟩, HQ⟩ : ∃ p, p = cs.getD k ch0 := ⟨_, rfl⟩
            rw [← HQ] at q1 q2 q3 r1 r2 r4 r5 HS hub hug hul hlS
            clear HQ
            dsimp only at q1 q2 q3 r1 r2 r4 r5 hub hug hul hlS
            obtain ⟨l', hl'⟩ : ∃ l', l' = lR cs (k + 1) := ⟨_, rfl⟩
            rw [← hl'] at hlS
            have HL1 := Lib.hid hl'
            clear hl'
            obtain ⟨l0, hl0'⟩ : ∃ l0, lR cs k = l0 := ⟨_, rfl⟩
            rw [hl0'] at HS HE HPV
            have HL0 := Lib.hid hl0'
            clear hl0'
            obtain ⟨ni, hni⟩ : ∃ ni, im.length = ni := ⟨_, rfl⟩
            obtain ⟨nq, hnq⟩ : ∃ nq, qs.length = nq := ⟨_, rfl⟩
            rw [hni] at q2 r1 r2
            rw [hnq] at q3 r4 r5 hul
            have HNI := Lib.hid hni
            have HR4 := Lib.hid r4
            have HUB := Lib.hid hub
            unfold maxLen at r3 r6
            have hni' : ni ≤ 9223372036854775807 := by omega
            have HCC : Hid (∀ W, Below wr.heap.size wr W → Calls Try.prog 52 #[.agg #[.int .i64 pg, .slice B ni c, .slice D nq d']] W fun r w' => r = .returned (.bool (chOK (pg, im, qs))) ∧ Below W.heap.size W w') := Lib.hid (fun W hW => refChange_any pg B ni c im D nq d' qs W HNI.out hni' (HR4.out.below hW) hul HUB.out)
            clear hni hnq hub r1 r4
            have q3' : wr.cell? ⟨g, o + k * 3 + 2, none⟩ = some (.slice D nq d') := q3
            have QC := Lib.hid (And.intro x2 (And.intro q1 (And.intro q2 q3')))
            clear q3 q1 q2 q3'
            cases hch : chOK (pg, im, qs) with
            | false =>
              have HF : Hid (rcFrom (-1) cs = false) := Lib.hid (by rw [HS.out, if_neg (by rw [hch]; simp)])
              rw [hch] at HCC
              clear HS HPV hch
              go_upto_region 14 with fail
              refine' wp_region_mono (by kernel_rfl) (by kernel_rfl) (by kernel_rfl) (by kernel_rfl) (by kernel_rfl) (by kernel_rfl)
                [MP.is (.pointer (some ⟨w.heap.size, 2, none⟩)), MP.is (.slice (some ⟨g, o, none⟩) n d), MP.is (.int .i64 (k : Int)), MP.is (.pointer (some ⟨g, o + k * 3, none⟩)), MP.is (.agg #[.int .i64 pg, .slice B ni c, .slice D nq d']), MP.is (.bool false), MP.is (.bool true), MP.is (.bool true), MP.is (undef), MP.is (undef), MP.is (undef), MP.is (undef), MP.is (undef), MP.is (undef), MP.is (undef), MP.is (undef), MP.is (undef), MP.is (undef), MP.is (undef), MP.is (undef), MP.is (undef), MP.is (undef), MP.is (undef), MP.is (undef), MP.is (undef), MP.is (undef), MP.is (.bool true)] ?hAA1 ?hst1 ?hend1
              case hAA1 =>
                intro f
                conv => lhs; simp only [putA, dstOf, List.size_toArray, List.length_cons, List.length_nil, Nat.zero_add, Nat.reduceAdd, List.getElem?_toArray, List.getElem?_cons_zero, List.getElem?_cons_succ, Option.bind_some, Act.put, List.setIfInBounds_toArray, List.set_cons_zero, List.set_cons_succ]
                first | done | exact rfl
              case hst1 =>
                change Steps _ _ _ _ _ [0, 1, 2, 3, 4, 5, 6, 7, 8, 9, 10, 11, 12, 13, 14, 15, 16, 17, 18, 19, 20, 21, 22, 23, 24, 25, 26]
                refine Steps.cons rfl ?_ ?_
                · intro f wz hB h K Q hK
                  try simp only [List.getElem_toArray, List.getElem_cons_zero]
                  go_simp
                  exact hK _ _ (gr_refl _) rfl
                refine Steps.cons rfl ?_ ?_
                · intro f wz hB h K Q hK
                  have h0 : (MP.is (.pointer (some ⟨w.heap.size, 2, none⟩))).p (f 0) wz := h 0 (by kernel_rfl)
                  have e0 : f 0 = (.pointer (some ⟨w.heap.size, 2, none⟩)) := h0
                  simp only [e0] at hK ⊢
                  clear e0
                  try simp only [List.getElem_toArray, List.getElem_cons_succ, List.getElem_cons_zero]
                  have y0 := keep_of_below (bel_drew hB) QC.out.1
                  have y1 := keep_of_below (bel_drew hB) QC.out.2.1
                  have y2 := keep_of_below (bel_drew hB) QC.out.2.2.1
                  have y3 := keep_of_below (bel_drew hB) QC.out.2.2.2
                  go_simp
                  exact hK _ _ (gr_refl _) rfl
                refine Steps.cons rfl ?_ ?_
                · intro f wz hB h K Q hK
                  try simp only [List.getElem_toArray, List.getElem_cons_succ, List.getElem_cons_zero]
                  go_simp
                  exact hK _ _ (gr_refl _) rfl
                refine Steps.cons rfl ?_ ?_
                · intro f wz hB h K Q hK
                  have h1 : (MP.is (.slice (some ⟨g, o, none⟩) n d)).p (f 1) wz := h 1 (by kernel_rfl)
                  have e1 : f 1 = (.slice (some ⟨g, o, none⟩) n d) := h1
                  have h2 : (MP.is (.int .i64 (k : Int))).p (f 2) wz := h 2 (by kernel_rfl)
                  have e2 : f 2 = (.int .i64 (k : Int)) := h2
                  simp only [e1, e2] at hK ⊢
                  clear e1 e2
                  try simp only [List.getElem_toArray, List.getElem_cons_succ, List.getElem_cons_zero]
                  go_simp
                  exact hK _ _ (gr_refl _) rfl
                refine Steps.cons rfl ?_ ?_
                · intro f wz hB h K Q hK
                  have h3 : (MP.is (.pointer (some ⟨g, o + k * 3, none⟩))).p (f 3) wz := h 3 (by kernel_rfl)
                  have e3 : f 3 = (.pointer (some ⟨g, o + k * 3, none⟩)) := h3
                  simp only [e3] at hK ⊢
                  clear e3
                  try simp only [List.getElem_toArray, List.getElem_cons_succ, List.getElem_cons_zero]
                  have y0 := keep_of_below (bel_drew hB) QC.out.1
                  have y1 := keep_of_below (bel_drew hB) QC.out.2.1
                  have y2 := keep_of_below (bel_drew hB) QC.out.2.2.1
                  have y3 := keep_of_below (bel_drew hB) QC.out.2.2.2
                  go_simp
                  exact hK _ _ (gr_refl _) rfl
                refine Steps.cons rfl ?_ ?_
                · intro f wz hB h K Q hK
                  have h4 : (MP.is (.agg #[.int .i64 pg, .slice B ni c, .slice D nq d'])).p (f 4) wz := h 4 (by kernel_rfl)
                  have e4 : f 4 = (.agg #[.int .i64 pg, .slice B ni c, .slice D nq d']) := h4
                  simp only [e4] at hK ⊢
                  clear e4
                  try simp only [List.getElem_toArray, List.getElem_cons_succ, List.getElem_cons_zero]
                  go_simp
                  refine (HCC.out _ (bel_drew hB)).mono ?_
                  rintro e w5 ⟨rfl, hb5⟩
                  exact hK _ _ hb5 rfl
                refine Steps.cons rfl ?_ ?_
                · intro f wz hB h K Q hK
                  have h5 : (MP.is (.bool false)).p (f 5) wz := h 5 (by kernel_rfl)
                  have e5 : f 5 = (.bool false) := h5
                  simp only [e5] at hK ⊢
                  clear e5
                  try simp only [List.getElem_toArray, List.getElem_cons_succ, List.getElem_cons_zero]
                  go_simp
                  exact hK _ _ (gr_refl _) rfl
                refine Steps.cons rfl ?_ ?_
                · intro f wz hB h K Q hK
                  have h6 : (MP.is (.bool true)).p (f 6) wz := h 6 (by kernel_rfl)
                  have e6 : f 6 = (.bool true) := h6
                  simp only [e6] at hK ⊢
                  clear e6
                  try simp only [List.getElem_toArray, List.getElem_cons_succ, List.getElem_cons_zero]
                  go_simp
                  exact hK _ _ (gr_refl _) rfl
                refine Steps.cons rfl ?_ ?_
                · intro f wz hB h K Q hK
                  have h7 : (MP.is (.bool true)).p (f 7) wz := h 7 (by kernel_rfl)
                  have e7 : f 7 = (.bool true) := h7
                  simp only [e7] at hK ⊢
                  clear e7
                  try simp only [List.getElem_toArray, List.getElem_cons_succ, List.getElem_cons_zero]
                  rw [if_neg (by intro e; exact Bool.noConfusion (show false = true from e))]
                  exact hK _ _ (gr_refl _) rfl
                refine Steps.cons rfl ?_ ?_
                · intro f wz hB h K Q hK
                  have h7 : (MP.is (.bool true)).p (f 7) wz := h 7 (by kernel_rfl)
                  have e7 : f 7 = (.bool true) := h7
                  have h8 : (MP.is (undef)).p (f 8) wz := h 8 (by kernel_rfl)
                  have e8 : f 8 = (undef) := h8
                  simp only [e7, e8] at hK ⊢
                  clear e7 e8
                  try simp only [List.getElem_toArray, List.getElem_cons_succ, List.getElem_cons_zero]
                  rw [if_neg (by intro e; exact Bool.noConfusion (show false = true from e))]
                  exact hK _ _ (gr_refl _) rfl
                refine Steps.cons rfl ?_ ?_
                · intro f wz hB h K Q hK
                  have h7 : (MP.is (.bool true)).p (f 7) wz := h 7 (by kernel_rfl)
                  have e7 : f 7 = (.bool true) := h7
                  have h9 : (MP.is (undef)).p (f 9) wz := h 9 (by kernel_rfl)
                  have e9 : f 9 = (undef) := h9
                  simp only [e7, e9] at hK ⊢
                  clear e7 e9
                  try simp only [List.getElem_toArray, List.getElem_cons_succ, List.getElem_cons_zero]
                  rw [if_neg (by intro e; exact Bool.noConfusion (show false = true from e))]
                  exact hK _ _ (gr_refl _) rfl
                refine Steps.cons rfl ?_ ?_
                · intro f wz hB h K Q hK
                  have h10 : (MP.is (undef)).p (f 10) wz := h 10 (by kernel_rfl)
                  have e10 : f 10 = (undef) := h10
                  simp only [e10] at hK ⊢
                  clear e10
                  try simp only [List.getElem_toArray, List.getElem_cons_succ, List.getElem_cons_zero]
                  rw [if_neg (by intro e; exact Bool.noConfusion (show false = true from e))]
                  exact hK _ _ (gr_refl _) rfl
                refine Steps.cons rfl ?_ ?_
                · intro f wz hB h K Q hK
                  have h10 : (MP.is (undef)).p (f 10) wz := h 10 (by kernel_rfl)
                  have e10 : f 10 = (undef) := h10
                  have h11 : (MP.is (undef)).p (f 11) wz := h 11 (by kernel_rfl)
                  have e11 : f 11 = (undef) := h11
                  simp only [e10, e11] at hK ⊢
                  clear e10 e11
                  try simp only [List.getElem_toArray, List.getElem_cons_succ, List.getElem_cons_zero]
                  rw [if_neg (by intro e; exact Bool.noConfusion (show false = true from e))]
                  exact hK _ _ (gr_refl _) rfl
                refine Steps.cons rfl ?_ ?_
                · intro f wz hB h K Q hK
                  have h10 : (MP.is (undef)).p (f 10) wz := h 10 (by kernel_rfl)
                  have e10 : f 10 = (undef) := h10
                  simp only [e10] at hK ⊢
                  clear e10
                  try simp only [List.getElem_toArray, List.getElem_cons_succ, List.getElem_cons_zero]
                  rw [if_neg (by intro e; exact Bool.noConfusion (show false = true from e))]
                  exact hK _ _ (gr_refl _) rfl
                refine Steps.cons rfl ?_ ?_
                · intro f wz hB h K Q hK
                  have h10 : (MP.is (undef)).p (f 10) wz := h 10 (by kernel_rfl)
                  have e10 : f 10 = (undef) := h10
                  have h12 : (MP.is (undef)).p (f 12) wz := h 12 (by kernel_rfl)
                  have e12 : f 12 = (undef) := h12
                  have h13 : (MP.is (undef)).p (f 13) wz := h 13 (by kernel_rfl)
                  have e13 : f 13 = (undef) := h13
                  simp only [e10, e12, e13] at hK ⊢
                  clear e10 e12 e13
                  try simp only [List.getElem_toArray, List.getElem_cons_succ, List.getElem_cons_zero]
                  rw [if_neg (by intro e; exact Bool.noConfusion (show false = true from e))]
                  exact hK _ _ (gr_refl _) rfl
                refine Steps.cons rfl ?_ ?_
                · intro f wz hB h K Q hK
                  have h10 : (MP.is (undef)).p (f 10) wz := h 10 (by kernel_rfl)
                  have e10 : f 10 = (undef) := h10
                  have h14 : (MP.is (undef)).p (f 14) wz := h 14 (by kernel_rfl)
                  have e14 : f 14 = (undef) := h14
                  simp only [e10, e14] at hK ⊢
                  clear e10 e14
                  try simp only [List.getElem_toArray, List.getElem_cons_succ, List.getElem_cons_zero]
                  rw [if_neg (by intro e; exact Bool.noConfusion (show false = true from e))]
                  exact hK _ _ (gr_refl _) rfl
                refine Steps.cons rfl ?_ ?_
                · intro f wz hB h K Q hK
                  have h10 : (MP.is (undef)).p (f 10) wz := h 10 (by kernel_rfl)
                  have e10 : f 10 = (undef) := h10
                  have h15 : (MP.is (undef)).p (f 15) wz := h 15 (by kernel_rfl)
                  have e15 : f 15 = (undef) := h15
                  simp only [e10, e15] at hK ⊢
                  clear e10 e15
                  try simp only [List.getElem_toArray, List.getElem_cons_succ, List.getElem_cons_zero]
                  rw [if_neg (by intro e; exact Bool.noConfusion (show false = true from e))]
                  exact hK _ _ (gr_refl _) rfl
                refine Steps.cons rfl ?_ ?_
                · intro f wz hB h K Q hK
                  have h10 : (MP.is (undef)).p (f 10) wz := h 10 (by kernel_rfl)
                  have e10 : f 10 = (undef) := h10
                  simp only [e10] at hK ⊢
                  clear e10
                  try simp only [List.getElem_toArray, List.getElem_cons_succ, List.getElem_cons_zero]
                  rw [if_neg (by intro e; exact Bool.noConfusion (show false = true from e))]
                  exact hK _ _ (gr_refl _) rfl
                refine Steps.cons rfl ?_ ?_
                · intro f wz hB h K Q hK
                  have h10 : (MP.is (undef)).p (f 10) wz := h 10 (by kernel_rfl)
                  have e10 : f 10 = (undef) := h10
                  have h17 : (MP.is (undef)).p (f 17) wz := h 17 (by kernel_rfl)
                  have e17 : f 17 = (undef) := h17
                  simp only [e10, e17] at hK ⊢
                  clear e10 e17
                  try simp only [List.getElem_toArray, List.getElem_cons_succ, List.getElem_cons_zero]
                  rw [if_neg (by intro e; exact Bool.noConfusion (show false = true from e))]
                  exact hK _ _ (gr_refl _) rfl
                refine Steps.cons rfl ?_ ?_
                · intro f wz hB h K Q hK
                  have h10 : (MP.is (undef)).p (f 10) wz := h 10 (by kernel_rfl)
                  have e10 : f 10 = (undef) := h10
                  simp only [e10] at hK ⊢
                  clear e10
                  try simp only [List.getElem_toArray, List.getElem_cons_succ, List.getElem_cons_zero]
                  rw [if_neg (by intro e; exact Bool.noConfusion (show false = true from e))]
                  exact hK _ _ (gr_refl _) rfl
                refine Steps.cons rfl ?_ ?_
                · intro f wz hB h K Q hK
                  have h10 : (MP.is (undef)).p (f 10) wz := h 10 (by kernel_rfl)
                  have e10 : f 10 = (undef) := h10
                  have h19 : (MP.is (undef)).p (f 19) wz := h 19 (by kernel_rfl)
                  have e19 : f 19 = (undef) := h19
                  simp only [e10, e19] at hK ⊢
                  clear e10 e19
                  try simp only [List.getElem_toArray, List.getElem_cons_succ, List.getElem_cons_zero]
                  rw [if_neg (by intro e; exact Bool.noConfusion (show false = true from e))]
                  exact hK _ _ (gr_refl _) rfl
                refine Steps.cons rfl ?_ ?_
                · intro f wz hB h K Q hK
                  have h10 : (MP.is (undef)).p (f 10) wz := h 10 (by kernel_rfl)
                  have e10 : f 10 = (undef) := h10
                  have h18 : (MP.is (undef)).p (f 18) wz := h 18 (by kernel_rfl)
                  have e18 : f 18 = (undef) := h18
                  have h20 : (MP.is (undef)).p (f 20) wz := h 20 (by kernel_rfl)
                  have e20 : f 20 = (undef) := h20
                  simp only [e10, e18, e20] at hK ⊢
                  clear e10 e18 e20
                  try simp only [List.getElem_toArray, List.getElem_cons_succ, List.getElem_cons_zero]
                  rw [if_neg (by intro e; exact Bool.noConfusion (show false = true from e))]
                  exact hK _ _ (gr_refl _) rfl
                refine Steps.cons rfl ?_ ?_
                · intro f wz hB h K Q hK
                  have h10 : (MP.is (undef)).p (f 10) wz := h 10 (by kernel_rfl)
                  have e10 : f 10 = (undef) := h10
                  have h21 : (MP.is (undef)).p (f 21) wz := h 21 (by kernel_rfl)
                  have e21 : f 21 = (undef) := h21
                  simp only [e10, e21] at hK ⊢
                  clear e10 e21
                  try simp only [List.getElem_toArray, List.getElem_cons_succ, List.getElem_cons_zero]
                  rw [if_neg (by intro e; exact Bool.noConfusion (show false = true from e))]
                  exact hK _ _ (gr_refl _) rfl
                refine Steps.cons rfl ?_ ?_
                · intro f wz hB h K Q hK
                  have h10 : (MP.is (undef)).p (f 10) wz := h 10 (by kernel_rfl)
                  have e10 : f 10 = (undef) := h10
                  have h22 : (MP.is (undef)).p (f 22) wz := h 22 (by kernel_rfl)
                  have e22 : f 22 = (undef) := h22
                  simp only [e10, e22] at hK ⊢
                  clear e10 e22
                  try simp only [List.getElem_toArray, List.getElem_cons_succ, List.getElem_cons_zero]
                  rw [if_neg (by intro e; exact Bool.noConfusion (show false = true from e))]
                  exact hK _ _ (gr_refl _) rfl
                refine Steps.cons rfl ?_ ?_
                · intro f wz hB h K Q hK
                  have h10 : (MP.is (undef)).p (f 10) wz := h 10 (by kernel_rfl)
                  have e10 : f 10 = (undef) := h10
                  have h16 : (MP.is (undef)).p (f 16) wz := h 16 (by kernel_rfl)
                  have e16 : f 16 = (undef) := h16
                  have h23 : (MP.is (undef)).p (f 23) wz := h 23 (by kernel_rfl)
                  have e23 : f 23 = (undef) := h23
                  simp only [e10, e16, e23] at hK ⊢
                  clear e10 e16 e23
                  try simp only [List.getElem_toArray, List.getElem_cons_succ, List.getElem_cons_zero]
                  rw [if_neg (by intro e; exact Bool.noConfusion (show false = true from e))]
                  exact hK _ _ (gr_refl _) rfl
                refine Steps.cons rfl ?_ ?_
                · intro f wz hB h K Q hK
                  have h7 : (MP.is (.bool true)).p (f 7) wz := h 7 (by kernel_rfl)
                  have e7 : f 7 = (.bool true) := h7
                  have h10 : (MP.is (undef)).p (f 10) wz := h 10 (by kernel_rfl)
                  have e10 : f 10 = (undef) := h10
                  have h24 : (MP.is (undef)).p (f 24) wz := h 24 (by kernel_rfl)
                  have e24 : f 24 = (undef) := h24
                  simp only [e7, e10, e24] at hK ⊢
                  clear e7 e10 e24
                  try simp only [List.getElem_toArray, List.getElem_cons_succ, List.getElem_cons_zero]
                  rw [if_neg (by intro e; exact Bool.noConfusion (show false = true from e))]
                  exact hK _ _ (gr_refl _) rfl
                refine Steps.cons rfl ?_ ?_
                · intro f wz hB h K Q hK
                  have h7 : (MP.is (.bool true)).p (f 7) wz := h 7 (by kernel_rfl)
                  have e7 : f 7 = (.bool true) := h7
                  have h25 : (MP.is (undef)).p (f 25) wz := h 25 (by kernel_rfl)
                  have e25 : f 25 = (undef) := h25
                  simp only [e7, e25] at hK ⊢
                  clear e7 e25
                  try simp only [List.getElem_toArray, List.getElem_cons_succ, List.getElem_cons_zero]
                  go_simp
                  exact hK _ _ (gr_refl _) rfl
                exact Steps.nil
              intro f w2 hB2 hR
              have e0 : f 0 = (.pointer (some ⟨w.heap.size, 2, none⟩)) := hR 0 (by decide)
              have e1 : f 1 = (.slice (some ⟨g, o, none⟩) n d) := hR 1 (by decide)
              have e2 : f 2 = (.int .i64 (k : Int)) := hR 2 (by decide)
              have e3 : f 3 = (.pointer (some ⟨g, o + k * 3, none⟩)) := hR 3 (by decide)
              have e4 : f 4 = (.agg #[.int .i64 pg, .slice B ni c, .slice D nq d']) := hR 4 (by decide)
              have e5 : f 5 = (.bool false) := hR 5 (by decide)
              have e6 : f 6 = (.bool true) := hR 6 (by decide)
              have e7 : f 7 = (.bool true) := hR 7 (by decide)
              have e8 : f 8 = (undef) := hR 8 (by decide)
              have e9 : f 9 = (undef) := hR 9 (by decide)
              have e10 : f 10 = (undef) := hR 10 (by decide)
              have e11 : f 11 = (undef) := hR 11 (by decide)
              have e12 : f 12 = (undef) := hR 12 (by decide)
              have e13 : f 13 = (undef) := hR 13 (by decide)
              have e14 : f 14 = (undef) := hR 14 (by decide)
              have e15 : f 15 = (undef) := hR 15 (by decide)
              have e16 : f 16 = (undef) := hR 16 (by decide)
              have e17 : f 17 = (undef) := hR 17 (by decide)
              have e18 : f 18 = (undef) := hR 18 (by decide)
              have e19 : f 19 = (undef) := hR 19 (by decide)
              have e20 : f 20 = (undef) := hR 20 (by decide)
              have e21 : f 21 = (undef) := hR 21 (by decide)
              have e22 : f 22 = (undef) := hR 22 (by decide)
              have e23 : f 23 = (undef) := hR 23 (by decide)
              have e24 : f 24 = (undef) := hR 24 (by decide)
              have e25 : f 25 = (undef) := hR 25 (by decide)
              have e26 : f 26 = (.bool true) := hR 26 (by decide)
              simp only [e0, e1, e2, e3, e4, e5, e6, e7, e8, e9, e10, e11, e12, e13, e14, e15, e16, e17, e18, e19, e20, e21, e22, e23, e24, e25, e26]
              clear e0 e1 e2 e3 e4 e5 e6 e7 e8 e9 e10 e11 e12 e13 e14 e15 e16 e17 e18 e19 e20 e21 e22 e23 e24 e25 e26 hR
              go_wp2_with fail
              go_ret
              exact ⟨ret_bl (by rw [HR5.out, HF.out]), gr_trans hb1 (gr_trans HB.out (bel_drew hB2))⟩
            | true =>
              rw [hch] at HCC
              by_cases h0 : k = 0
              · have r0 : decide ((0 : Int) < (k : Int)) = false := decide_eq_false (by omega)
                have r0' : decide (0 < k) = false := decide_eq_false (by omega)
                have hl0 : l0 = -1 := by rw [← HL0.out]; unfold lR; rw [if_pos h0]
                by_cases hpn : pg < 0
                · exfalso
                  unfold chOK at hch
                  rw [if_pos (.inl hpn)] at hch
                  cases hch
                have HF : Hid (rcFrom (-1) cs = rcFrom pg (cs.drop (k + 1))) := Lib.hid (by rw [HS.out, if_pos ⟨hch, by dsimp only; omega⟩])
                have HE' : Hid (-1 ≤ l') := Lib.hid (by have := hlS.out; omega)
                clear HS HPV hch h0 hl0
                go_upto_region 14 with fail
                refine' wp_region_mono (by kernel_rfl) (by kernel_rfl) (by kernel_rfl) (by kernel_rfl) (by kernel_rfl) (by kernel_rfl)
                  [MP.is (.pointer (some ⟨w.heap.size, 2, none⟩)), MP.is (.slice (some ⟨g, o, none⟩) n d), MP.is (.int .i64 (k : Int)), MP.is (.pointer (some ⟨g, o + k * 3, none⟩)), MP.is (.agg #[.int .i64 pg, .slice B ni c, .slice D nq d']), MP.is (.bool true), MP.is (.bool false), MP.is (.bool false), MP.is (.int .i64 (k : Int)), MP.is (.bool false), MP.is (.bool false), MP.is (undef), MP.is (undef), MP.is (undef), MP.is (undef), MP.is (undef), MP.is (undef), MP.is (undef), MP.is (undef), MP.is (undef), MP.is (undef), MP.is (undef), MP.is (undef), MP.is (undef), MP.is (undef), MP.is (.bool false), MP.is (.bool false)] ?hAA2 ?hst2 ?hend2
                case hAA2 =>
                  intro f
                  conv => lhs; simp only [putA, dstOf, List.size_toArray, List.length_cons, List.length_nil, Nat.zero_add, Nat.reduceAdd, List.getElem?_toArray, List.getElem?_cons_zero, List.getElem?_cons_succ, Option.bind_some, Act.put, List.setIfInBounds_toArray, List.set_cons_zero, List.set_cons_succ]
                  first | done | exact rfl
                case hst2 =>
                  change Steps _ _ _ _ _ [0, 1, 2, 3, 4, 5, 6, 7, 8, 9, 10, 11, 12, 13, 14, 15, 16, 17, 18, 19, 20, 21, 22, 23, 24, 25, 26]
                  refine Steps.cons rfl ?_ ?_
                  · intro f wz hB h K Q hK
                    try simp only [List.getElem_toArray, List.getElem_cons_zero]
                    go_simp
                    exact hK _ _ (gr_refl _) rfl
                  refine Steps.cons rfl ?_ ?_
                  · intro f wz hB h K Q hK
                    have h0 : (MP.is (.pointer (some ⟨w.heap.size, 2, none⟩))).p (f 0) wz := h 0 (by kernel_rfl)
                    have e0 : f 0 = (.pointer (some ⟨w.heap.size, 2, none⟩)) := h0
                    simp only [e0] at hK ⊢
                    clear e0
                    try simp only [List.getElem_toArray, List.getElem_cons_succ, List.getElem_cons_zero]
                    have y0 := keep_of_below (bel_drew hB) QC.out.1
                    have y1 := keep_of_below (bel_drew hB) QC.out.2.1
                    have y2 := keep_of_below (bel_drew hB) QC.out.2.2.1
                    have y3 := keep_of_below (bel_drew hB) QC.out.2.2.2
                    go_simp
                    exact hK _ _ (gr_refl _) rfl
                  refine Steps.cons rfl ?_ ?_
                  · intro f wz hB h K Q hK
                    try simp only [List.getElem_toArray, List.getElem_cons_succ, List.getElem_cons_zero]
                    go_simp
                    exact hK _ _ (gr_refl _) rfl
                  refine Steps.cons rfl ?_ ?_
                  · intro f wz hB h K Q hK
                    have h1 : (MP.is (.slice (some ⟨g, o, none⟩) n d)).p (f 1) wz := h 1 (by kernel_rfl)
                    have e1 : f 1 = (.slice (some ⟨g, o, none⟩) n d) := h1
                    have h2 : (MP.is (.int .i64 (k : Int))).p (f 2) wz := h 2 (by kernel_rfl)
                    have e2 : f 2 = (.int .i64 (k : Int)) := h2
                    simp only [e1, e2] at hK ⊢
                    clear e1 e2
                    try simp only [List.getElem_toArray, List.getElem_cons_succ, List.getElem_cons_zero]
                    go_simp
                    exact hK _ _ (gr_refl _) rfl
                  refine Steps.cons rfl ?_ ?_
                  · intro f wz hB h K Q hK
                    have h3 : (MP.is (.pointer (some ⟨g, o + k * 3, none⟩))).p (f 3) wz := h 3 (by kernel_rfl)
                    have e3 : f 3 = (.pointer (some ⟨g, o + k * 3, none⟩)) := h3
                    simp only [e3] at hK ⊢
                    clear e3
                    try simp only [List.getElem_toArray, List.getElem_cons_succ, List.getElem_cons_zero]
                    have y0 := keep_of_below (bel_drew hB) QC.out.1
                    have y1 := keep_of_below (bel_drew hB) QC.out.2.1
                    have y2 := keep_of_below (bel_drew hB) QC.out.2.2.1
                    have y3 := keep_of_below (bel_drew hB) QC.out.2.2.2
                    go_simp
                    exact hK _ _ (gr_refl _) rfl
                  refine Steps.cons rfl ?_ ?_
                  · intro f wz hB h K Q hK
                    have h4 : (MP.is (.agg #[.int .i64 pg, .slice B ni c, .slice D nq d'])).p (f 4) wz := h 4 (by kernel_rfl)
                    have e4 : f 4 = (.agg #[.int .i64 pg, .slice B ni c, .slice D nq d']) := h4
                    simp only [e4] at hK ⊢
                    clear e4
                    try simp only [List.getElem_toArray, List.getElem_cons_succ, List.getElem_cons_zero]
                    go_simp
                    refine (HCC.out _ (bel_drew hB)).mono ?_
                    rintro e w5 ⟨rfl, hb5⟩
                    exact hK _ _ hb5 rfl
                  refine Steps.cons rfl ?_ ?_
                  · intro f wz hB h K Q hK
                    have h5 : (MP.is (.bool true)).p (f 5) wz := h 5 (by kernel_rfl)
                    have e5 : f 5 = (.bool true) := h5
                    simp only [e5] at hK ⊢
                    clear e5
                    try simp only [List.getElem_toArray, List.getElem_cons_succ, List.getElem_cons_zero]
                    go_simp
                    exact hK _ _ (gr_refl _) rfl
                  refine Steps.cons rfl ?_ ?_
                  · intro f wz hB h K Q hK
                    have h6 : (MP.is (.bool false)).p (f 6) wz := h 6 (by kernel_rfl)
                    have e6 : f 6 = (.bool false) := h6
                    simp only [e6] at hK ⊢
                    clear e6
                    try simp only [List.getElem_toArray, List.getElem_cons_succ, List.getElem_cons_zero]
                    go_simp
                    exact hK _ _ (gr_refl _) rfl
                  refine Steps.cons rfl ?_ ?_
                  · intro f wz hB h K Q hK
                    have h7 : (MP.is (.bool false)).p (f 7) wz := h 7 (by kernel_rfl)
                    have e7 : f 7 = (.bool false) := h7
                    simp only [e7] at hK ⊢
                    clear e7
                    try simp only [List.getElem_toArray, List.getElem_cons_succ, List.getElem_cons_zero]
                    go_simp
                    exact hK _ _ (gr_refl _) rfl
                  refine Steps.cons rfl ?_ ?_
                  · intro f wz hB h K Q hK
                    have h7 : (MP.is (.bool false)).p (f 7) wz := h 7 (by kernel_rfl)
                    have e7 : f 7 = (.bool false) := h7
                    have h8 : (MP.is (.int .i64 (k : Int))).p (f 8) wz := h 8 (by kernel_rfl)
                    have e8 : f 8 = (.int .i64 (k : Int)) := h8
                    simp only [e7, e8] at hK ⊢
                    clear e7 e8
                    try simp only [List.getElem_toArray, List.getElem_cons_succ, List.getElem_cons_zero]
                    go_simp
                    exact hK _ _ (gr_refl _) rfl
                  refine Steps.cons rfl ?_ ?_
                  · intro f wz hB h K Q hK
                    have h7 : (MP.is (.bool false)).p (f 7) wz := h 7 (by kernel_rfl)
                    have e7 : f 7 = (.bool false) := h7
                    have h9 : (MP.is (.bool false)).p (f 9) wz := h 9 (by kernel_rfl)
                    have e9 : f 9 = (.bool false) := h9
                    simp only [e7, e9] at hK ⊢
                    clear e7 e9
                    try simp only [List.getElem_toArray, List.getElem_cons_succ, List.getElem_cons_zero]
                    go_simp
                    exact hK _ _ (gr_refl _) rfl
                  refine Steps.cons rfl ?_ ?_
                  · intro f wz hB h K Q hK
                    have h10 : (MP.is (.bool false)).p (f 10) wz := h 10 (by kernel_rfl)
                    have e10 : f 10 = (.bool false) := h10
                    simp only [e10] at hK ⊢
                    clear e10
                    try simp only [List.getElem_toArray, List.getElem_cons_succ, List.getElem_cons_zero]
                    rw [if_neg (by intro e; exact Bool.noConfusion (show false = true from e))]
                    exact hK _ _ (gr_refl _) rfl
                  refine Steps.cons rfl ?_ ?_
                  · intro f wz hB h K Q hK
                    have h10 : (MP.is (.bool false)).p (f 10) wz := h 10 (by kernel_rfl)
                    have e10 : f 10 = (.bool false) := h10
                    have h11 : (MP.is (undef)).p (f 11) wz := h 11 (by kernel_rfl)
                    have e11 : f 11 = (undef) := h11
                    simp only [e10, e11] at hK ⊢
                    clear e10 e11
                    try simp only [List.getElem_toArray, List.getElem_cons_succ, List.getElem_cons_zero]
                    rw [if_neg (by intro e; exact Bool.noConfusion (show false = true from e))]
                    exact hK _ _ (gr_refl _) rfl
                  refine Steps.cons rfl ?_ ?_
                  · intro f wz hB h K Q hK
                    have h10 : (MP.is (.bool false)).p (f 10) wz := h 10 (by kernel_rfl)
                    have e10 : f 10 = (.bool false) := h10
                    simp only [e10] at hK ⊢
                    clear e10
                    try simp only [List.getElem_toArray, List.getElem_cons_succ, List.getElem_cons_zero]
                    rw [if_neg (by intro e; exact Bool.noConfusion (show false = true from e))]
                    exact hK _ _ (gr_refl _) rfl
                  refine Steps.cons rfl ?_ ?_
                  · intro f wz hB h K Q hK
                    have h10 : (MP.is (.bool false)).p (f 10) wz := h 10 (by kernel_rfl)
                    have e10 : f 10 = (.bool false) := h10
                    have h12 : (MP.is (undef)).p (f 12) wz := h 12 (by kernel_rfl)
                    have e12 : f 12 = (undef) := h12
                    have h13 : (MP.is (undef)).p (f 13) wz := h 13 (by kernel_rfl)
                    have e13 : f 13 = (undef) := h13
                    simp only [e10, e12, e13] at hK ⊢
                    clear e10 e12 e13
                    try simp only [List.getElem_toArray, List.getElem_cons_succ, List.getElem_cons_zero]
                    rw [if_neg (by intro e; exact Bool.noConfusion (show false = true from e))]
                    exact hK _ _ (gr_refl _) rfl
                  refine Steps.cons rfl ?_ ?_
                  · intro f wz hB h K Q hK
                    have h10 : (MP.is (.bool false)).p (f 10) wz := h 10 (by kernel_rfl)
                    have e10 : f 10 = (.bool false) := h10
                    have h14 : (MP.is (undef)).p (f 14) wz := h 14 (by kernel_rfl)
                    have e14 : f 14 = (undef) := h14
                    simp only [e10, e14] at hK ⊢
                    clear e10 e14
                    try simp only [List.getElem_toArray, List.getElem_cons_succ, List.getElem_cons_zero]
                    rw [if_neg (by intro e; exact Bool.noConfusion (show false = true from e))]
                    exact hK _ _ (gr_refl _) rfl
                  refine Steps.cons rfl ?_ ?_
                  · intro f wz hB h K Q hK
                    have h10 : (MP.is (.bool false)).p (f 10) wz := h 10 (by kernel_rfl)
                    have e10 : f 10 = (.bool false) := h10
                    have h15 : (MP.is (undef)).p (f 15) wz := h 15 (by kernel_rfl)
                    have e15 : f 15 = (undef) := h15
                    simp only [e10, e15] at hK ⊢
                    clear e10 e15
                    try simp only [List.getElem_toArray, List.getElem_cons_succ, List.getElem_cons_zero]
                    rw [if_neg (by intro e; exact Bool.noConfusion (show false = true from e))]
                    exact hK _ _ (gr_refl _) rfl
                  refine Steps.cons rfl ?_ ?_
                  · intro f wz hB h K Q hK
                    have h10 : (MP.is (.bool false)).p (f 10) wz := h 10 (by kernel_rfl)
                    have e10 : f 10 = (.bool false) := h10
                    simp only [e10] at hK ⊢
                    clear e10
                    try simp only [List.getElem_toArray, List.getElem_cons_succ, List.getElem_cons_zero]
                    rw [if_neg (by intro e; exact Bool.noConfusion (show false = true from e))]
                    exact hK _ _ (gr_refl _) rfl
                  refine Steps.cons rfl ?_ ?_
                  · intro f wz hB h K Q hK
                    have h10 : (MP.is (.bool false)).p (f 10) wz := h 10 (by kernel_rfl)
                    have e10 : f 10 = (.bool false) := h10
                    have h17 : (MP.is (undef)).p (f 17) wz := h 17 (by kernel_rfl)
                    have e17 : f 17 = (undef) := h17
                    simp only [e10, e17] at hK ⊢
                    clear e10 e17
                    try simp only [List.getElem_toArray, List.getElem_cons_succ, List.getElem_cons_zero]
                    rw [if_neg (by intro e; exact Bool.noConfusion (show false = true from e))]
                    exact hK _ _ (gr_refl _) rfl
                  refine Steps.cons rfl ?_ ?_
                  · intro f wz hB h K Q hK
                    have h10 : (MP.is (.bool false)).p (f 10) wz := h 10 (by kernel_rfl)
                    have e10 : f 10 = (.bool false) := h10
                    simp only [e10] at hK ⊢
                    clear e10
                    try simp only [List.getElem_toArray, List.getElem_cons_succ, List.getElem_cons_zero]
                    rw [if_neg (by intro e; exact Bool.noConfusion (show false = true from e))]
                    exact hK _ _ (gr_refl _) rfl
                  refine Steps.cons rfl ?_ ?_
                  · intro f wz hB h K Q hK
                    have h10 : (MP.is (.bool false)).p (f 10) wz := h 10 (by kernel_rfl)
                    have e10 : f 10 = (.bool false) := h10
                    have h19 : (MP.is (undef)).p (f 19) wz := h 19 (by kernel_rfl)
                    have e19 : f 19 = (undef) := h19
                    simp only [e10, e19] at hK ⊢
                    clear e10 e19
                    try simp only [List.getElem_toArray, List.getElem_cons_succ, List.getElem_cons_zero]
                    rw [if_neg (by intro e; exact Bool.noConfusion (show false = true from e))]
                    exact hK _ _ (gr_refl _) rfl
                  refine Steps.cons rfl ?_ ?_
                  · intro f wz hB h K Q hK
                    have h10 : (MP.is (.bool false)).p (f 10) wz := h 10 (by kernel_rfl)
                    have e10 : f 10 = (.bool false) := h10
                    have h18 : (MP.is (undef)).p (f 18) wz := h 18 (by kernel_rfl)
                    have e18 : f 18 = (undef) := h18
                    have h20 : (MP.is (undef)).p (f 20) wz := h 20 (by kernel_rfl)
                    have e20 : f 20 = (undef) := h20
                    simp only [e10, e18, e20] at hK ⊢
                    clear e10 e18 e20
                    try simp only [List.getElem_toArray, List.getElem_cons_succ, List.getElem_cons_zero]
                    rw [if_neg (by intro e; exact Bool.noConfusion (show false = true from e))]
                    exact hK _ _ (gr_refl _) rfl
                  refine Steps.cons rfl ?_ ?_
                  · intro f wz hB h K Q hK
                    have h10 : (MP.is (.bool false)).p (f 10) wz := h 10 (by kernel_rfl)
                    have e10 : f 10 = (.bool false) := h10
                    have h21 : (MP.is (undef)).p (f 21) wz := h 21 (by kernel_rfl)
                    have e21 : f 21 = (undef) := h21
                    simp only [e10, e21] at hK ⊢
                    clear e10 e21
                    try simp only [List.getElem_toArray, List.getElem_cons_succ, List.getElem_cons_zero]
                    rw [if_neg (by intro e; exact Bool.noConfusion (show false = true from e))]
                    exact hK _ _ (gr_refl _) rfl
                  refine Steps.cons rfl ?_ ?_
                  · intro f wz hB h K Q hK
                    have h10 : (MP.is (.bool false)).p (f 10) wz := h 10 (by kernel_rfl)
                    have e10 : f 10 = (.bool false) := h10
                    have h22 : (MP.is (undef)).p (f 22) wz := h 22 (by kernel_rfl)
                    have e22 : f 22 = (undef) := h22
                    simp only [e10, e22] at hK ⊢
                    clear e10 e22
                    try simp only [List.getElem_toArray, List.getElem_cons_succ, List.getElem_cons_zero]
                    rw [if_neg (by intro e; exact Bool.noConfusion (show false = true from e))]
                    exact hK _ _ (gr_refl _) rfl
                  refine Steps.cons rfl ?_ ?_
                  · intro f wz hB h K Q hK
                    have h10 : (MP.is (.bool false)).p (f 10) wz := h 10 (by kernel_rfl)
                    have e10 : f 10 = (.bool false) := h10
                    have h16 : (MP.is (undef)).p (f 16) wz := h 16 (by kernel_rfl)
                    have e16 : f 16 = (undef) := h16
                    have h23 : (MP.is (undef)).p (f 23) wz := h 23 (by kernel_rfl)
                    have e23 : f 23 = (undef) := h23
                    simp only [e10, e16, e23] at hK ⊢
                    clear e10 e16 e23
                    try simp only [List.getElem_toArray, List.getElem_cons_succ, List.getElem_cons_zero]
                    rw [if_neg (by intro e; exact Bool.noConfusion (show false = true from e))]
                    exact hK _ _ (gr_refl _) rfl
                  refine Steps.cons rfl ?_ ?_
                  · intro f wz hB h K Q hK
                    have h7 : (MP.is (.bool false)).p (f 7) wz := h 7 (by kernel_rfl)
                    have e7 : f 7 = (.bool false) := h7
                    have h10 : (MP.is (.bool false)).p (f 10) wz := h 10 (by kernel_rfl)
                    have e10 : f 10 = (.bool false) := h10
                    have h24 : (MP.is (undef)).p (f 24) wz := h 24 (by kernel_rfl)
                    have e24 : f 24 = (undef) := h24
                    simp only [e7, e10, e24] at hK ⊢
                    clear e7 e10 e24
                    try simp only [List.getElem_toArray, List.getElem_cons_succ, List.getElem_cons_zero]
                    go_simp
                    exact hK _ _ (gr_refl _) rfl
                  refine Steps.cons rfl ?_ ?_
                  · intro f wz hB h K Q hK
                    have h7 : (MP.is (.bool false)).p (f 7) wz := h 7 (by kernel_rfl)
                    have e7 : f 7 = (.bool false) := h7
                    have h25 : (MP.is (.bool false)).p (f 25) wz := h 25 (by kernel_rfl)
                    have e25 : f 25 = (.bool false) := h25
                    simp only [e7, e25] at hK ⊢
                    clear e7 e25
                    try simp only [List.getElem_toArray, List.getElem_cons_succ, List.getElem_cons_zero]
                    go_simp
                    exact hK _ _ (gr_refl _) rfl
                  exact Steps.nil
                intro f w2 hB2 hR
                have e0 : f 0 = (.pointer (some ⟨w.heap.size, 2, none⟩)) := hR 0 (by decide)
                have e1 : f 1 = (.slice (some ⟨g, o, none⟩) n d) := hR 1 (by decide)
                have e2 : f 2 = (.int .i64 (k : Int)) := hR 2 (by decide)
                have e3 : f 3 = (.pointer (some ⟨g, o + k * 3, none⟩)) := hR 3 (by decide)
                have e4 : f 4 = (.agg #[.int .i64 pg, .slice B ni c, .slice D nq d']) := hR 4 (by decide)
                have e5 : f 5 = (.bool true) := hR 5 (by decide)
                have e6 : f 6 = (.bool false) := hR 6 (by decide)
                have e7 : f 7 = (.bool false) := hR 7 (by decide)
                have e8 : f 8 = (.int .i64 (k : Int)) := hR 8 (by decide)
                have e9 : f 9 = (.bool false) := hR 9 (by decide)
                have e10 : f 10 = (.bool false) := hR 10 (by decide)
                have e11 : f 11 = (undef) := hR 11 (by decide)
                have e12 : f 12 = (undef) := hR 12 (by decide)
                have e13 : f 13 = (undef) := hR 13 (by decide)
                have e14 : f 14 = (undef) := hR 14 (by decide)
                have e15 : f 15 = (undef) := hR 15 (by decide)
                have e16 : f 16 = (undef) := hR 16 (by decide)
                have e17 : f 17 = (undef) := hR 17 (by decide)
                have e18 : f 18 = (undef) := hR 18 (by decide)
                have e19 : f 19 = (undef) := hR 19 (by decide)
                have e20 : f 20 = (undef) := hR 20 (by decide)
                have e21 : f 21 = (undef) := hR 21 (by decide)
                have e22 : f 22 = (undef) := hR 22 (by decide)
                have e23 : f 23 = (undef) := hR 23 (by decide)
                have e24 : f 24 = (undef) := hR 24 (by decide)
                have e25 : f 25 = (.bool false) := hR 25 (by decide)
                have e26 : f 26 = (.bool false) := hR 26 (by decide)
                simp only [e0, e1, e2, e3, e4, e5, e6, e7, e8, e9, e10, e11, e12, e13, e14, e15, e16, e17, e18, e19, e20, e21, e22, e23, e24, e25, e26]
                clear e0 e1 e2 e3 e4 e5 e6 e7 e8 e9 e10 e11 e12 e13 e14 e15 e16 e17 e18 e19 e20 e21 e22 e23 e24 e25 e26 hR
                go_wp2_with fail
                go_roundw
                case rel => exact ⟨k + 1, by omega, by go_num, by rw [← HL1.out]; exact HE', by rw [← HL1.out, hlS.out]; exact HF, Lib.hid (gr_trans HB.out (bel_drew hB2))⟩
                case measure => simp [intOf]; omega
              · have r0 : decide ((0 : Int) < (k : Int)) = true := decide_eq_true (by omega)
                have r0' : decide (0 < k) = true := decide_eq_true (by omega)
                obtain ⟨va, v1, v2⟩ := HPV.out (by omega)
                have Y1 := Lib.hid (keep_of_below HB.out v1)
                have w1 : IntKind.i64.wrap ((k : Int) - 1) = (k : Int) - 1 := IntWalk.i64_in _ ⟨by omega, by omega⟩
                have w2 : (0 : Int) ≤ (k : Int) - 1 := by omega
                have w3 : ((k : Int) - 1).toNat = k - 1 := by omega
                have w5 : (k : Int) - 1 < (n : Int) := by omega
                have w6 : (1 : Int) ≤ (k : Int) := by omega
                have HV2 := Lib.hid v2
                by_cases h7 : pg ≤ va
                · have r7 : decide (pg ≤ va) = true := decide_eq_true h7
                  have HF : Hid (rcFrom (-1) cs = false) := Lib.hid (by rw [HS.out, if_neg (by rw [v2]; omega)])
                  clear HS HPV hch v1 v2 h0 h7
                  go_upto_region 14 with fail
                  refine' wp_region_mono (by kernel_rfl) (by kernel_rfl) (by kernel_rfl) (by kernel_rfl) (by kernel_rfl) (by kernel_rfl)
                    [MP.is (.pointer (some ⟨w.heap.size, 2, none⟩)), MP.is (.slice (some ⟨g, o, none⟩) n d), MP.is (.int .i64 (k : Int)), MP.is (.pointer (some ⟨g, o + k * 3, none⟩)), MP.is (.agg #[.int .i64 pg, .slice B ni c, .slice D nq d']), MP.is (.bool true), MP.is (.bool false), MP.is (.bool false), MP.is (.int .i64 (k : Int)), MP.is (.bool true), MP.is (.bool true), MP.is (.pointer (some ⟨w.heap.size, 2, none⟩)), MP.is (.slice (some ⟨g, o, none⟩) n d), MP.is (.int .i64 (k : Int)), MP.is (.pointer (some ⟨g, o + k * 3, none⟩)), MP.is (.pointer (some ⟨g, o + k * 3, none⟩)), MP.is (.int .i64 pg), MP.is (.pointer (some ⟨w.heap.size, 2, none⟩)), MP.is (.slice (some ⟨g, o, none⟩) n d), MP.is (.int .i64 (k : Int)), MP.is (.int .i64 ((k : Int) - 1)), MP.is (.pointer (some ⟨g, o + (k - 1) * 3, none⟩)), MP.is (.pointer (some ⟨g, o + (k - 1) * 3, none⟩)), MP.is (.int .i64 va), MP.is (.bool true), MP.is (.bool true), MP.is (.bool true)] ?hAA3 ?hst3 ?hend3
                  case hAA3 =>
                    intro f
                    conv => lhs; simp only [putA, dstOf, List.size_toArray, List.length_cons, List.length_nil, Nat.zero_add, Nat.reduceAdd, List.getElem?_toArray, List.getElem?_cons_zero, List.getElem?_cons_succ, Option.bind_some, Act.put, List.setIfInBounds_toArray, List.set_cons_zero, List.set_cons_succ]
                    first | done | exact rfl
                  case hst3 =>
                    change Steps _ _ _ _ _ [0, 1, 2, 3, 4, 5, 6, 7, 8, 9, 10, 11, 12, 13, 14, 15, 16, 17, 18, 19, 20, 21, 22, 23, 24, 25, 26]
                    refine Steps.cons rfl ?_ ?_
                    · intro f wz hB h K Q hK
                      try simp only [List.getElem_toArray, List.getElem_cons_zero]
                      go_simp
                      exact hK _ _ (gr_refl _) rfl
                    refine Steps.cons rfl ?_ ?_
                    · intro f wz hB h K Q hK
                      have h0 : (MP.is (.pointer (some ⟨w.heap.size, 2, none⟩))).p (f 0) wz := h 0 (by kernel_rfl)
                      have e0 : f 0 = (.pointer (some ⟨w.heap.size, 2, none⟩)) := h0
                      simp only [e0] at hK ⊢
                      clear e0
                      try simp only [List.getElem_toArray, List.getElem_cons_succ, List.getElem_cons_zero]
                      have y0 := keep_of_below (bel_drew hB) QC.out.1
                      have y1 := keep_of_below (bel_drew hB) QC.out.2.1
                      have y2 := keep_of_below (bel_drew hB) QC.out.2.2.1
                      have y3 := keep_of_below (bel_drew hB) QC.out.2.2.2
                      have y4 := keep_of_below (bel_drew hB) Y1.out
                      go_simp
                      exact hK _ _ (gr_refl _) rfl
                    refine Steps.cons rfl ?_ ?_
                    · intro f wz hB h K Q hK
                      try simp only [List.getElem_toArray, List.getElem_cons_succ, List.getElem_cons_zero]
                      go_simp
                      exact hK _ _ (gr_refl _) rfl
                    refine Steps.cons rfl ?_ ?_
                    · intro f wz hB h K Q hK
                      have h1 : (MP.is (.slice (some ⟨g, o, none⟩) n d)).p (f 1) wz := h 1 (by kernel_rfl)
                      have e1 : f 1 = (.slice (some ⟨g, o, none⟩) n d) := h1
                      have h2 : (MP.is (.int .i64 (k : Int))).p (f 2) wz := h 2 (by kernel_rfl)
                      have e2 : f 2 = (.int .i64 (k : Int)) := h2
                      simp only [e1, e2] at hK ⊢
                      clear e1 e2
                      try simp only [List.getElem_toArray, List.getElem_cons_succ, List.getElem_cons_zero]
                      go_simp
                      exact hK _ _ (gr_refl _) rfl
                    refine Steps.cons rfl ?_ ?_
                    · intro f wz hB h K Q hK
                      have h3 : (MP.is (.pointer (some ⟨g, o + k * 3, none⟩))).p (f 3) wz := h 3 (by kernel_rfl)
                      have e3 : f 3 = (.pointer (some ⟨g, o + k * 3, none⟩)) := h3
                      simp only [e3] at hK ⊢
                      clear e3
                      try simp only [List.getElem_toArray, List.getElem_cons_succ, List.getElem_cons_zero]
                      have y0 := keep_of_below (bel_drew hB) QC.out.1
                      have y1 := keep_of_below (bel_drew hB) QC.out.2.1
                      have y2 := keep_of_below (bel_drew hB) QC.out.2.2.1
                      have y3 := keep_of_below (bel_drew hB) QC.out.2.2.2
                      have y4 := keep_of_below (bel_drew hB) Y1.out
                      go_simp
                      exact hK _ _ (gr_refl _) rfl
                    refine Steps.cons rfl ?_ ?_
                    · intro f wz hB h K Q hK
                      have h4 : (MP.is (.agg #[.int .i64 pg, .slice B ni c, .slice D nq d'])).p (f 4) wz := h 4 (by kernel_rfl)
                      have e4 : f 4 = (.agg #[.int .i64 pg, .slice B ni c, .slice D nq d']) := h4
                      simp only [e4] at hK ⊢
                      clear e4
                      try simp only [List.getElem_toArray, List.getElem_cons_succ, List.getElem_cons_zero]
                      go_simp
                      refine (HCC.out _ (bel_drew hB)).mono ?_
                      rintro e w5 ⟨rfl, hb5⟩
                      exact hK _ _ hb5 rfl
                    refine Steps.cons rfl ?_ ?_
                    · intro f wz hB h K Q hK
                      have h5 : (MP.is (.bool true)).p (f 5) wz := h 5 (by kernel_rfl)
                      have e5 : f 5 = (.bool true) := h5
                      simp only [e5] at hK ⊢
                      clear e5
                      try simp only [List.getElem_toArray, List.getElem_cons_succ, List.getElem_cons_zero]
                      go_simp
                      exact hK _ _ (gr_refl _) rfl
                    refine Steps.cons rfl ?_ ?_
                    · intro f wz hB h K Q hK
                      have h6 : (MP.is (.bool false)).p (f 6) wz := h 6 (by kernel_rfl)
                      have e6 : f 6 = (.bool false) := h6
                      simp only [e6] at hK ⊢
                      clear e6
                      try simp only [List.getElem_toArray, List.getElem_cons_succ, List.getElem_cons_zero]
                      go_simp
                      exact hK _ _ (gr_refl _) rfl
                    refine Steps.cons rfl ?_ ?_
                    · intro f wz hB h K Q hK
                      have h7 : (MP.is (.bool false)).p (f 7) wz := h 7 (by kernel_rfl)
                      have e7 : f 7 = (.bool false) := h7
                      simp only [e7] at hK ⊢
                      clear e7
                      try simp only [List.getElem_toArray, List.getElem_cons_succ, List.getElem_cons_zero]
                      go_simp
                      exact hK _ _ (gr_refl _) rfl
                    refine Steps.cons rfl ?_ ?_
                    · intro f wz hB h K Q hK
                      have h7 : (MP.is (.bool false)).p (f 7) wz := h 7 (by kernel_rfl)
                      have e7 : f 7 = (.bool false) := h7
                      have h8 : (MP.is (.int .i64 (k : Int))).p (f 8) wz := h 8 (by kernel_rfl)
                      have e8 : f 8 = (.int .i64 (k : Int)) := h8
                      simp only [e7, e8] at hK ⊢
                      clear e7 e8
                      try simp only [List.getElem_toArray, List.getElem_cons_succ, List.getElem_cons_zero]
                      go_simp
                      exact hK _ _ (gr_refl _) rfl
                    refine Steps.cons rfl ?_ ?_
                    · intro f wz hB h K Q hK
                      have h7 : (MP.is (.bool false)).p (f 7) wz := h 7 (by kernel_rfl)
                      have e7 : f 7 = (.bool false) := h7
                      have h9 : (MP.is (.bool true)).p (f 9) wz := h 9 (by kernel_rfl)
                      have e9 : f 9 = (.bool true) := h9
                      simp only [e7, e9] at hK ⊢
                      clear e7 e9
                      try simp only [List.getElem_toArray, List.getElem_cons_succ, List.getElem_cons_zero]
                      go_simp
                      exact hK _ _ (gr_refl _) rfl
                    refine Steps.cons rfl ?_ ?_
                    · intro f wz hB h K Q hK
                      have h10 : (MP.is (.bool true)).p (f 10) wz := h 10 (by kernel_rfl)
                      have e10 : f 10 = (.bool true) := h10
                      simp only [e10] at hK ⊢
                      clear e10
                      try simp only [List.getElem_toArray, List.getElem_cons_succ, List.getElem_cons_zero]
                      go_simp
                      exact hK _ _ (gr_refl _) rfl
                    refine Steps.cons rfl ?_ ?_
                    · intro f wz hB h K Q hK
                      have h10 : (MP.is (.bool true)).p (f 10) wz := h 10 (by kernel_rfl)
                      have e10 : f 10 = (.bool true) := h10
                      have h11 : (MP.is (.pointer (some ⟨w.heap.size, 2, none⟩))).p (f 11) wz := h 11 (by kernel_rfl)
                      have e11 : f 11 = (.pointer (some ⟨w.heap.size, 2, none⟩)) := h11
                      simp only [e10, e11] at hK ⊢
                      clear e10 e11
                      try simp only [List.getElem_toArray, List.getElem_cons_succ, List.getElem_cons_zero]
                      have y0 := keep_of_below (bel_drew hB) QC.out.1
                      have y1 := keep_of_below (bel_drew hB) QC.out.2.1
                      have y2 := keep_of_below (bel_drew hB) QC.out.2.2.1
                      have y3 := keep_of_below (bel_drew hB) QC.out.2.2.2
                      have y4 := keep_of_below (bel_drew hB) Y1.out
                      go_simp
                      exact hK _ _ (gr_refl _) rfl
                    refine Steps.cons rfl ?_ ?_
                    · intro f wz hB h K Q hK
                      have h10 : (MP.is (.bool true)).p (f 10) wz := h 10 (by kernel_rfl)
                      have e10 : f 10 = (.bool true) := h10
                      simp only [e10] at hK ⊢
                      clear e10
                      try simp only [List.getElem_toArray, List.getElem_cons_succ, List.getElem_cons_zero]
                      go_simp
                      exact hK _ _ (gr_refl _) rfl
                    refine Steps.cons rfl ?_ ?_
                    · intro f wz hB h K Q hK
                      have h10 : (MP.is (.bool true)).p (f 10) wz := h 10 (by kernel_rfl)
                      have e10 : f 10 = (.bool true) := h10
                      have h12 : (MP.is (.slice (some ⟨g, o, none⟩) n d)).p (f 12) wz := h 12 (by kernel_rfl)
                      have e12 : f 12 = (.slice (some ⟨g, o, none⟩) n d) := h12
                      have h13 : (MP.is (.int .i64 (k : Int))).p (f 13) wz := h 13 (by kernel_rfl)
                      have e13 : f 13 = (.int .i64 (k : Int)) := h13
                      simp only [e10, e12, e13] at hK ⊢
                      clear e10 e12 e13
                      try simp only [List.getElem_toArray, List.getElem_cons_succ, List.getElem_cons_zero]
                      go_simp
                      exact hK _ _ (gr_refl _) rfl
                    refine Steps.cons rfl ?_ ?_
                    · intro f wz hB h K Q hK
                      have h10 : (MP.is (.bool true)).p (f 10) wz := h 10 (by kernel_rfl)
                      have e10 : f 10 = (.bool true) := h10
                      have h14 : (MP.is (.pointer (some ⟨g, o + k * 3, none⟩))).p (f 14) wz := h 14 (by kernel_rfl)
                      have e14 : f 14 = (.pointer (some ⟨g, o + k * 3, none⟩)) := h14
                      simp only [e10, e14] at hK ⊢
                      clear e10 e14
                      try simp only [List.getElem_toArray, List.getElem_cons_succ, List.getElem_cons_zero]
                      go_simp
                      exact hK _ _ (gr_refl _) rfl
                    refine Steps.cons rfl ?_ ?_
                    · intro f wz hB h K Q hK
                      have h10 : (MP.is (.bool true)).p (f 10) wz := h 10 (by kernel_rfl)
                      have e10 : f 10 = (.bool true) := h10
                      have h15 : (MP.is (.pointer (some ⟨g, o + k * 3, none⟩))).p (f 15) wz := h 15 (by kernel_rfl)
                      have e15 : f 15 = (.pointer (some ⟨g, o + k * 3, none⟩)) := h15
                      simp only [e10, e15] at hK ⊢
                      clear e10 e15
                      try simp only [List.getElem_toArray, List.getElem_cons_succ, List.getElem_cons_zero]
                      have y0 := keep_of_below (bel_drew hB) QC.out.1
                      have y1 := keep_of_below (bel_drew hB) QC.out.2.1
                      have y2 := keep_of_below (bel_drew hB) QC.out.2.2.1
                      have y3 := keep_of_below (bel_drew hB) QC.out.2.2.2
                      have y4 := keep_of_below (bel_drew hB) Y1.out
                      go_simp
                      exact hK _ _ (gr_refl _) rfl
                    refine Steps.cons rfl ?_ ?_
                    · intro f wz hB h K Q hK
                      have h10 : (MP.is (.bool true)).p (f 10) wz := h 10 (by kernel_rfl)
                      have e10 : f 10 = (.bool true) := h10
                      simp only [e10] at hK ⊢
                      clear e10
                      try simp only [List.getElem_toArray, List.getElem_cons_succ, List.getElem_cons_zero]
                      go_simp
                      exact hK _ _ (gr_refl _) rfl
                    refine Steps.cons rfl ?_ ?_
                    · intro f wz hB h K Q hK
                      have h10 : (MP.is (.bool true)).p (f 10) wz := h 10 (by kernel_rfl)
                      have e10 : f 10 = (.bool true) := h10
                      have h17 : (MP.is (.pointer (some ⟨w.heap.size, 2, none⟩))).p (f 17) wz := h 17 (by kernel_rfl)
                      have e17 : f 17 = (.pointer (some ⟨w.heap.size, 2, none⟩)) := h17
                      simp only [e10, e17] at hK ⊢
                      clear e10 e17
                      try simp only [List.getElem_toArray, List.getElem_cons_succ, List.getElem_cons_zero]
                      have y0 := keep_of_below (bel_drew hB) QC.out.1
                      have y1 := keep_of_below (bel_drew hB) QC.out.2.1
                      have y2 := keep_of_below (bel_drew hB) QC.out.2.2.1
                      have y3 := keep_of_below (bel_drew hB) QC.out.2.2.2
                      have y4 := keep_of_below (bel_drew hB) Y1.out
                      go_simp
                      exact hK _ _ (gr_refl _) rfl
                    refine Steps.cons rfl ?_ ?_
                    · intro f wz hB h K Q hK
                      have h10 : (MP.is (.bool true)).p (f 10) wz := h 10 (by kernel_rfl)
                      have e10 : f 10 = (.bool true) := h10
                      simp only [e10] at hK ⊢
                      clear e10
                      try simp only [List.getElem_toArray, List.getElem_cons_succ, List.getElem_cons_zero]
                      go_simp
                      exact hK _ _ (gr_refl _) rfl
                    refine Steps.cons rfl ?_ ?_
                    · intro f wz hB h K Q hK
                      have h10 : (MP.is (.bool true)).p (f 10) wz := h 10 (by kernel_rfl)
                      have e10 : f 10 = (.bool true) := h10
                      have h19 : (MP.is (.int .i64 (k : Int))).p (f 19) wz := h 19 (by kernel_rfl)
                      have e19 : f 19 = (.int .i64 (k : Int)) := h19
                      simp only [e10, e19] at hK ⊢
                      clear e10 e19
                      try simp only [List.getElem_toArray, List.getElem_cons_succ, List.getElem_cons_zero]
                      go_simp
                      exact hK _ _ (gr_refl _) rfl
                    refine Steps.cons rfl ?_ ?_
                    · intro f wz hB h K Q hK
                      have h10 : (MP.is (.bool true)).p (f 10) wz := h 10 (by kernel_rfl)
                      have e10 : f 10 = (.bool true) := h10
                      have h18 : (MP.is (.slice (some ⟨g, o, none⟩) n d)).p (f 18) wz := h 18 (by kernel_rfl)
                      have e18 : f 18 = (.slice (some ⟨g, o, none⟩) n d) := h18
                      have h20 : (MP.is (.int .i64 ((k : Int) - 1))).p (f 20) wz := h 20 (by kernel_rfl)
                      have e20 : f 20 = (.int .i64 ((k : Int) - 1)) := h20
                      simp only [e10, e18, e20] at hK ⊢
                      clear e10 e18 e20
                      try simp only [List.getElem_toArray, List.getElem_cons_succ, List.getElem_cons_zero]
                      go_simp
                      exact hK _ _ (gr_refl _) rfl
                    refine Steps.cons rfl ?_ ?_
                    · intro f wz hB h K Q hK
                      have h10 : (MP.is (.bool true)).p (f 10) wz := h 10 (by kernel_rfl)
                      have e10 : f 10 = (.bool true) := h10
                      have h21 : (MP.is (.pointer (some ⟨g, o + (k - 1) * 3, none⟩))).p (f 21) wz := h 21 (by kernel_rfl)
                      have e21 : f 21 = (.pointer (some ⟨g, o + (k - 1) * 3, none⟩)) := h21
                      simp only [e10, e21] at hK ⊢
                      clear e10 e21
                      try simp only [List.getElem_toArray, List.getElem_cons_succ, List.getElem_cons_zero]
                      go_simp
                      exact hK _ _ (gr_refl _) rfl
                    refine Steps.cons rfl ?_ ?_
                    · intro f wz hB h K Q hK
                      have h10 : (MP.is (.bool true)).p (f 10) wz := h 10 (by kernel_rfl)
                      have e10 : f 10 = (.bool true) := h10
                      have h22 : (MP.is (.pointer (some ⟨g, o + (k - 1) * 3, none⟩))).p (f 22) wz := h 22 (by kernel_rfl)
                      have e22 : f 22 = (.pointer (some ⟨g, o + (k - 1) * 3, none⟩)) := h22
                      simp only [e10, e22] at hK ⊢
                      clear e10 e22
                      try simp only [List.getElem_toArray, List.getElem_cons_succ, List.getElem_cons_zero]
                      have y0 := keep_of_below (bel_drew hB) QC.out.1
                      have y1 := keep_of_below (bel_drew hB) QC.out.2.1
                      have y2 := keep_of_below (bel_drew hB) QC.out.2.2.1
                      have y3 := keep_of_below (bel_drew hB) QC.out.2.2.2
                      have y4 := keep_of_below (bel_drew hB) Y1.out
                      go_simp
                      exact hK _ _ (gr_refl _) rfl
                    refine Steps.cons rfl ?_ ?_
                    · intro f wz hB h K Q hK
                      have h10 : (MP.is (.bool true)).p (f 10) wz := h 10 (by kernel_rfl)
                      have e10 : f 10 = (.bool true) := h10
                      have h16 : (MP.is (.int .i64 pg)).p (f 16) wz := h 16 (by kernel_rfl)
                      have e16 : f 16 = (.int .i64 pg) := h16
                      have h23 : (MP.is (.int .i64 va)).p (f 23) wz := h 23 (by kernel_rfl)
                      have e23 : f 23 = (.int .i64 va) := h23
                      simp only [e10, e16, e23] at hK ⊢
                      clear e10 e16 e23
                      try simp only [List.getElem_toArray, List.getElem_cons_succ, List.getElem_cons_zero]
                      go_simp
                      exact hK _ _ (gr_refl _) rfl
                    refine Steps.cons rfl ?_ ?_
                    · intro f wz hB h K Q hK
                      have h7 : (MP.is (.bool false)).p (f 7) wz := h 7 (by kernel_rfl)
                      have e7 : f 7 = (.bool false) := h7
                      have h10 : (MP.is (.bool true)).p (f 10) wz := h 10 (by kernel_rfl)
                      have e10 : f 10 = (.bool true) := h10
                      have h24 : (MP.is (.bool true)).p (f 24) wz := h 24 (by kernel_rfl)
                      have e24 : f 24 = (.bool true) := h24
                      simp only [e7, e10, e24] at hK ⊢
                      clear e7 e10 e24
                      try simp only [List.getElem_toArray, List.getElem_cons_succ, List.getElem_cons_zero]
                      go_simp
                      exact hK _ _ (gr_refl _) rfl
                    refine Steps.cons rfl ?_ ?_
                    · intro f wz hB h K Q hK
                      have h7 : (MP.is (.bool false)).p (f 7) wz := h 7 (by kernel_rfl)
                      have e7 : f 7 = (.bool false) := h7
                      have h25 : (MP.is (.bool true)).p (f 25) wz := h 25 (by kernel_rfl)
                      have e25 : f 25 = (.bool true) := h25
                      simp only [e7, e25] at hK ⊢
                      clear e7 e25
                      try simp only [List.getElem_toArray, List.getElem_cons_succ, List.getElem_cons_zero]
                      go_simp
                      exact hK _ _ (gr_refl _) rfl
                    exact Steps.nil
                  intro f w2 hB2 hR
                  have e0 : f 0 = (.pointer (some ⟨w.heap.size, 2, none⟩)) := hR 0 (by decide)
                  have e1 : f 1 = (.slice (some ⟨g, o, none⟩) n d) := hR 1 (by decide)
                  have e2 : f 2 = (.int .i64 (k : Int)) := hR 2 (by decide)
                  have e3 : f 3 = (.pointer (some ⟨g, o + k * 3, none⟩)) := hR 3 (by decide)
                  have e4 : f 4 = (.agg #[.int .i64 pg, .slice B ni c, .slice D nq d']) := hR 4 (by decide)
                  have e5 : f 5 = (.bool true) := hR 5 (by decide)
                  have e6 : f 6 = (.bool false) := hR 6 (by decide)
                  have e7 : f 7 = (.bool false) := hR 7 (by decide)
                  have e8 : f 8 = (.int .i64 (k : Int)) := hR 8 (by decide)
                  have e9 : f 9 = (.bool true) := hR 9 (by decide)
                  have e10 : f 10 = (.bool true) := hR 10 (by decide)
                  have e11 : f 11 = (.pointer (some ⟨w.heap.size, 2, none⟩)) := hR 11 (by decide)
                  have e12 : f 12 = (.slice (some ⟨g, o, none⟩) n d) := hR 12 (by decide)
                  have e13 : f 13 = (.int .i64 (k : Int)) := hR 13 (by decide)
                  have e14 : f 14 = (.pointer (some ⟨g, o + k * 3, none⟩)) := hR 14 (by decide)
                  have e15 : f 15 = (.pointer (some ⟨g, o + k * 3, none⟩)) := hR 15 (by decide)
                  have e16 : f 16 = (.int .i64 pg) := hR 16 (by decide)
                  have e17 : f 17 = (.pointer (some ⟨w.heap.size, 2, none⟩)) := hR 17 (by decide)
                  have e18 : f 18 = (.slice (some ⟨g, o, none⟩) n d) := hR 18 (by decide)
                  have e19 : f 19 = (.int .i64 (k : Int)) := hR 19 (by decide)
                  have e20 : f 20 = (.int .i64 ((k : Int) - 1)) := hR 20 (by decide)
                  have e21 : f 21 = (.pointer (some ⟨g, o + (k - 1) * 3, none⟩)) := hR 21 (by decide)
                  have e22 : f 22 = (.pointer (some ⟨g, o + (k - 1) * 3, none⟩)) := hR 22 (by decide)
                  have e23 : f 23 = (.int .i64 va) := hR 23 (by decide)
                  have e24 : f 24 = (.bool true) := hR 24 (by decide)
                  have e25 : f 25 = (.bool true) := hR 25 (by decide)
                  have e26 : f 26 = (.bool true) := hR 26 (by decide)
                  simp only [e0, e1, e2, e3, e4, e5, e6, e7, e8, e9, e10, e11, e12, e13, e14, e15, e16, e17, e18, e19, e20, e21, e22, e23, e24, e25, e26]
                  clear e0 e1 e2 e3 e4 e5 e6 e7 e8 e9 e10 e11 e12 e13 e14 e15 e16 e17 e18 e19 e20 e21 e22 e23 e24 e25 e26 hR
                  go_wp2_with fail
                  go_ret
                  exact ⟨ret_bl (by rw [HR5.out, HF.out]), gr_trans hb1 (gr_trans HB.out (bel_drew hB2))⟩
                · have r7 : decide (pg ≤ va) = false := decide_eq_false h7
                  have HF : Hid (rcFrom (-1) cs = rcFrom pg (cs.drop (k + 1))) := Lib.hid (by rw [HS.out, if_pos (by rw [v2]; exact ⟨hch, by omega⟩)])
                  have HE' : Hid (-1 ≤ l') := Lib.hid (by have := hlS.out; have := HE.out; rw [v2] at this; omega)
                  clear HS HPV hch v1 v2 h0 h7
                  go_upto_region 14 with fail
                  refine' wp_region_mono (by kernel_rfl) (by kernel_rfl) (by kernel_rfl) (by kernel_rfl) (by kernel_rfl) (by kernel_rfl)
                    [MP.is (.pointer (some ⟨w.heap.size, 2, none⟩)), MP.is (.slice (some ⟨g, o, none⟩) n d), MP.is (.int .i64 (k : Int)), MP.is (.pointer (some ⟨g, o + k * 3, none⟩)), MP.is (.agg #[.int .i64 pg, .slice B ni c, .slice D nq d']), MP.is (.bool true), MP.is (.bool false), MP.is (.bool false), MP.is (.int .i64 (k : Int)), MP.is (.bool true), MP.is (.bool true), MP.is (.pointer (some ⟨w.heap.size, 2, none⟩)), MP.is (.slice (some ⟨g, o, none⟩) n d), MP.is (.int .i64 (k : Int)), MP.is (.pointer (some ⟨g, o + k * 3, none⟩)), MP.is (.pointer (some ⟨g, o + k * 3, none⟩)), MP.is (.int .i64 pg), MP.is (.pointer (some ⟨w.heap.size, 2, none⟩)), MP.is (.slice (some ⟨g, o, none⟩) n d), MP.is (.int .i64 (k : Int)), MP.is (.int .i64 ((k : Int) - 1)), MP.is (.pointer (some ⟨g, o + (k - 1) * 3, none⟩)), MP.is (.pointer (some ⟨g, o + (k - 1) * 3, none⟩)), MP.is (.int .i64 va), MP.is (.bool false), MP.is (.bool false), MP.is (.bool false)] ?hAA4 ?hst4 ?hend4
                  case hAA4 =>
                    intro f
                    conv => lhs; simp only [putA, dstOf, List.size_toArray, List.length_cons, List.length_nil, Nat.zero_add, Nat.reduceAdd, List.getElem?_toArray, List.getElem?_cons_zero, List.getElem?_cons_succ, Option.bind_some, Act.put, List.setIfInBounds_toArray, List.set_cons_zero, List.set_cons_succ]
                    first | done | exact rfl
                  case hst4 =>
                    change Steps _ _ _ _ _ [0, 1, 2, 3, 4, 5, 6, 7, 8, 9, 10, 11, 12, 13, 14, 15, 16, 17, 18, 19, 20, 21, 22, 23, 24, 25, 26]
                    refine Steps.cons rfl ?_ ?_
                    · intro f wz hB h K Q hK
                      try simp only [List.getElem_toArray, List.getElem_cons_zero]
                      go_simp
                      exact hK _ _ (gr_refl _) rfl
                    refine Steps.cons rfl ?_ ?_
                    · intro f wz hB h K Q hK
                      have h0 : (MP.is (.pointer (some ⟨w.heap.size, 2, none⟩))).p (f 0) wz := h 0 (by kernel_rfl)
                      have e0 : f 0 = (.pointer (some ⟨w.heap.size, 2, none⟩)) := h0
                      simp only [e0] at hK ⊢
                      clear e0
                      try simp only [List.getElem_toArray, List.getElem_cons_succ, List.getElem_cons_zero]
                      have y0 := keep_of_below (bel_drew hB) QC.out.1
                      have y1 := keep_of_below (bel_drew hB) QC.out.2.1
                      have y2 := keep_of_below (bel_drew hB) QC.out.2.2.1
                      have y3 := keep_of_below (bel_drew hB) QC.out.2.2.2
                      have y4 := keep_of_below (bel_drew hB) Y1.out
                      go_simp
                      exact hK _ _ (gr_refl _) rfl
                    refine Steps.cons rfl ?_ ?_
                    · intro f wz hB h K Q hK
                      try simp only [List.getElem_toArray, List.getElem_cons_succ, List.getElem_cons_zero]
                      go_simp
                      exact hK _ _ (gr_refl _) rfl
                    refine Steps.cons rfl ?_ ?_
                    · intro f wz hB h K Q hK
                      have h1 : (MP.is (.slice (some ⟨g, o, none⟩) n d)).p (f 1) wz := h 1 (by kernel_rfl)
                      have e1 : f 1 = (.slice (some ⟨g, o, none⟩) n d) := h1
                      have h2 : (MP.is (.int .i64 (k : Int))).p (f 2) wz := h 2 (by kernel_rfl)
                      have e2 : f 2 = (.int .i64 (k : Int)) := h2
                      simp only [e1, e2] at hK ⊢
                      clear e1 e2
                      try simp only [List.getElem_toArray, List.getElem_cons_succ, List.getElem_cons_zero]
                      go_simp
                      exact hK _ _ (gr_refl _) rfl
                    refine Steps.cons rfl ?_ ?_
                    · intro f wz hB h K Q hK
                      have h3 : (MP.is (.pointer (some ⟨g, o + k * 3, none⟩))).p (f 3) wz := h 3 (by kernel_rfl)
                      have e3 : f 3 = (.pointer (some ⟨g, o + k * 3, none⟩)) := h3
                      simp only [e3] at hK ⊢
                      clear e3
                      try simp only [List.getElem_toArray, List.getElem_cons_succ, List.getElem_cons_zero]
                      have y0 := keep_of_below (bel_drew hB) QC.out.1
                      have y1 := keep_of_below (bel_drew hB) QC.out.2.1
                      have y2 := keep_of_below (bel_drew hB) QC.out.2.2.1
                      have y3 := keep_of_below (bel_drew hB) QC.out.2.2.2
                      have y4 := keep_of_below (bel_drew hB) Y1.out
                      go_simp
                      exact hK _ _ (gr_refl _) rfl
                    refine Steps.cons rfl ?_ ?_
                    · intro f wz hB h K Q hK
                      have h4 : (MP.is (.agg #[.int .i64 pg, .slice B ni c, .slice D nq d'])).p (f 4) wz := h 4 (by kernel_rfl)
                      have e4 : f 4 = (.agg #[.int .i64 pg, .slice B ni c, .slice D nq d']) := h4
                      simp only [e4] at hK ⊢
                      clear e4
                      try simp only [List.getElem_toArray, List.getElem_cons_succ, List.getElem_cons_zero]
                      go_simp
                      refine (HCC.out _ (bel_drew hB)).mono ?_
                      rintro e w5 ⟨rfl, hb5⟩
                      exact hK _ _ hb5 rfl
                    refine Steps.cons rfl ?_ ?_
                    · intro f wz hB h K Q hK
                      have h5 : (MP.is (.bool true)).p (f 5) wz := h 5 (by kernel_rfl)
                      have e5 : f 5 = (.bool true) := h5
                      simp only [e5] at hK ⊢
                      clear e5
                      try simp only [List.getElem_toArray, List.getElem_cons_succ, List.getElem_cons_zero]
                      go_simp
                      exact hK _ _ (gr_refl _) rfl
                    refine Steps.cons rfl ?_ ?_
                    · intro f wz hB h K Q hK
                      have h6 : (MP.is (.bool false)).p (f 6) wz := h 6 (by kernel_rfl)
                      have e6 : f 6 = (.bool false) := h6
                      simp only [e6] at hK ⊢
                      clear e6
                      try simp only [List.getElem_toArray, List.getElem_cons_succ, List.getElem_cons_zero]
                      go_simp
                      exact hK _ _ (gr_refl _) rfl
                    refine Steps.cons rfl ?_ ?_
                    · intro f wz hB h K Q hK
                      have h7 : (MP.is (.bool false)).p (f 7) wz := h 7 (by kernel_rfl)
                      have e7 : f 7 = (.bool false) := h7
                      simp only [e7] at hK ⊢
                      clear e7
                      try simp only [List.getElem_toArray, List.getElem_cons_succ, List.getElem_cons_zero]
                      go_simp
                      exact hK _ _ (gr_refl _) rfl
                    refine Steps.cons rfl ?_ ?_
                    · intro f wz hB h K Q hK
                      have h7 : (MP.is (.bool false)).p (f 7) wz := h 7 (by kernel_rfl)
                      have e7 : f 7 = (.bool false) := h7
                      have h8 : (MP.is (.int .i64 (k : Int))).p (f 8) wz := h 8 (by kernel_rfl)
                      have e8 : f 8 = (.int .i64 (k : Int)) := h8
                      simp only [e7, e8] at hK ⊢
                      clear e7 e8
                      try simp only [List.getElem_toArray, List.getElem_cons_succ, List.getElem_cons_zero]
                      go_simp
                      exact hK _ _ (gr_refl _) rfl
                    refine Steps.cons rfl ?_ ?_
                    · intro f wz hB h K Q hK
                      have h7 : (MP.is (.bool false)).p (f 7) wz := h 7 (by kernel_rfl)
                      have e7 : f 7 = (.bool false) := h7
                      have h9 : (MP.is (.bool true)).p (f 9) wz := h 9 (by kernel_rfl)
                      have e9 : f 9 = (.bool true) := h9
                      simp only [e7, e9] at hK ⊢
                      clear e7 e9
                      try simp only [List.getElem_toArray, List.getElem_cons_succ, List.getElem_cons_zero]
                      go_simp
                      exact hK _ _ (gr_refl _) rfl
                    refine Steps.cons rfl ?_ ?_
                    · intro f wz hB h K Q hK
                      have h10 : (MP.is (.bool true)).p (f 10) wz := h 10 (by kernel_rfl)
                      have e10 : f 10 = (.bool true) := h10
                      simp only [e10] at hK ⊢
                      clear e10
                      try simp only [List.getElem_toArray, List.getElem_cons_succ, List.getElem_cons_zero]
                      go_simp
                      exact hK _ _ (gr_refl _) rfl
                    refine Steps.cons rfl ?_ ?_
                    · intro f wz hB h K Q hK
                      have h10 : (MP.is (.bool true)).p (f 10) wz := h 10 (by kernel_rfl)
                      have e10 : f 10 = (.bool true) := h10
                      have h11 : (MP.is (.pointer (some ⟨w.heap.size, 2, none⟩))).p (f 11) wz := h 11 (by kernel_rfl)
                      have e11 : f 11 = (.pointer (some ⟨w.heap.size, 2, none⟩)) := h11
                      simp only [e10, e11] at hK ⊢
                      clear e10 e11
                      try simp only [List.getElem_toArray, List.getElem_cons_succ, List.getElem_cons_zero]
                      have y0 := keep_of_below (bel_drew hB) QC.out.1
                      have y1 := keep_of_below (bel_drew hB) QC.out.2.1
                      have y2 := keep_of_below (bel_drew hB) QC.out.2.2.1
                      have y3 := keep_of_below (bel_drew hB) QC.out.2.2.2
                      have y4 := keep_of_below (bel_drew hB) Y1.out
                      go_simp
                      exact hK _ _ (gr_refl _) rfl
                    refine Steps.cons rfl ?_ ?_
                    · intro f wz hB h K Q hK
                      have h10 : (MP.is (.bool true)).p (f 10) wz := h 10 (by kernel_rfl)
                      have e10 : f 10 = (.bool true) := h10
                      simp only [e10] at hK ⊢
                      clear e10
                      try simp only [List.getElem_toArray, List.getElem_cons_succ, List.getElem_cons_zero]
                      go_simp
                      exact hK _ _ (gr_refl _) rfl
                    refine Steps.cons rfl ?_ ?_
                    · intro f wz hB h K Q hK
                      have h10 : (MP.is (.bool true)).p (f 10) wz := h 10 (by kernel_rfl)
                      have e10 : f 10 = (.bool true) := h10
                      have h12 : (MP.is (.slice (some ⟨g, o, none⟩) n d)).p (f 12) wz := h 12 (by kernel_rfl)
                      have e12 : f 12 = (.slice (some ⟨g, o, none⟩) n d) := h12
                      have h13 : (MP.is (.int .i64 (k : Int))).p (f 13) wz := h 13 (by kernel_rfl)
                      have e13 : f 13 = (.int .i64 (k : Int)) := h13
                      simp only [e10, e12, e13] at hK ⊢
                      clear e10 e12 e13
                      try simp only [List.getElem_toArray, List.getElem_cons_succ, List.getElem_cons_zero]
                      go_simp
                      exact hK _ _ (gr_refl _) rfl
                    refine Steps.cons rfl ?_ ?_
                    · intro f wz hB h K Q hK
                      have h10 : (MP.is (.bool true)).p (f 10) wz := h 10 (by kernel_rfl)
                      have e10 : f 10 = (.bool true) := h10
                      have h14 : (MP.is (.pointer (some ⟨g, o + k * 3, none⟩))).p (f 14) wz := h 14 (by kernel_rfl)
                      have e14 : f 14 = (.pointer (some ⟨g, o + k * 3, none⟩)) := h14
                      simp only [e10, e14] at hK ⊢
                      clear e10 e14
                      try simp only [List.getElem_toArray, List.getElem_cons_succ, List.getElem_cons_zero]
                      go_simp
                      exact hK _ _ (gr_refl _) rfl
                    refine Steps.cons rfl ?_ ?_
                    · intro f wz hB h K Q hK
                      have h10 : (MP.is (.bool true)).p (f 10) wz := h 10 (by kernel_rfl)
                      have e10 : f 10 = (.bool true) := h10
                      have h15 : (MP.is (.pointer (some ⟨g, o + k * 3, none⟩))).p (f 15) wz := h 15 (by kernel_rfl)
                      have e15 : f 15 = (.pointer (some ⟨g, o + k * 3, none⟩)) := h15
                      simp only [e10, e15] at hK ⊢
                      clear e10 e15
                      try simp only [List.getElem_toArray, List.getElem_cons_succ, List.getElem_cons_zero]
                      have y0 := keep_of_below (bel_drew hB) QC.out.1
                      have y1 := keep_of_below (bel_drew hB) QC.out.2.1
                      have y2 := keep_of_below (bel_drew hB) QC.out.2.2.1
                      have y3 := keep_of_below (bel_drew hB) QC.out.2.2.2
                      have y4 := keep_of_below (bel_drew hB) Y1.out
                      go_simp
                      exact hK _ _ (gr_refl _) rfl
                    refine Steps.cons rfl ?_ ?_
                    · intro f wz hB h K Q hK
                      have h10 : (MP.is (.bool true)).p (f 10) wz := h 10 (by kernel_rfl)
                      have e10 : f 10 = (.bool true) := h10
                      simp only [e10] at hK ⊢
                      clear e10
                      try simp only [List.getElem_toArray, List.getElem_cons_succ, List.getElem_cons_zero]
                      go_simp
                      exact hK _ _ (gr_refl _) rfl
                    refine Steps.cons rfl ?_ ?_
                    · intro f wz hB h K Q hK
                      have h10 : (MP.is (.bool true)).p (f 10) wz := h 10 (by kernel_rfl)
                      have e10 : f 10 = (.bool true) := h10
                      have h17 : (MP.is (.pointer (some ⟨w.heap.size, 2, none⟩))).p (f 17) wz := h 17 (by kernel_rfl)
                      have e17 : f 17 = (.pointer (some ⟨w.heap.size, 2, none⟩)) := h17
                      simp only [e10, e17] at hK ⊢
                      clear e10 e17
                      try simp only [List.getElem_toArray, List.getElem_cons_succ, List.getElem_cons_zero]
                      have y0 := keep_of_below (bel_drew hB) QC.out.1
                      have y1 := keep_of_below (bel_drew hB) QC.out.2.1
                      have y2 := keep_of_below (bel_drew hB) QC.out.2.2.1
                      have y3 := keep_of_below (bel_drew hB) QC.out.2.2.2
                      have y4 := keep_of_below (bel_drew hB) Y1.out
                      go_simp
                      exact hK _ _ (gr_refl _) rfl
                    refine Steps.cons rfl ?_ ?_
                    · intro f wz hB h K Q hK
                      have h10 : (MP.is (.bool true)).p (f 10) wz := h 10 (by kernel_rfl)
                      have e10 : f 10 = (.bool true) := h10
                      simp only [e10] at hK ⊢
                      clear e10
                      try simp only [List.getElem_toArray, List.getElem_cons_succ, List.getElem_cons_zero]
                      go_simp
                      exact hK _ _ (gr_refl _) rfl
                    refine Steps.cons rfl ?_ ?_
                    · intro f wz hB h K Q hK
                      have h10 : (MP.is (.bool true)).p (f 10) wz := h 10 (by kernel_rfl)
                      have e10 : f 10 = (.bool true) := h10
                      have h19 : (MP.is (.int .i64 (k : Int))).p (f 19) wz := h 19 (by kernel_rfl)
                      have e19 : f 19 = (.int .i64 (k : Int)) := h19
                      simp only [e10, e19] at hK ⊢
                      clear e10 e19
                      try simp only [List.getElem_toArray, List.getElem_cons_succ, List.getElem_cons_zero]
                      go_simp
                      exact hK _ _ (gr_refl _) rfl
                    refine Steps.cons rfl ?_ ?_
                    · intro f wz hB h K Q hK
                      have h10 : (MP.is (.bool true)).p (f 10) wz := h 10 (by kernel_rfl)
                      have e10 : f 10 = (.bool true) := h10
                      have h18 : (MP.is (.slice (some ⟨g, o, none⟩) n d)).p (f 18) wz := h 18 (by kernel_rfl)
                      have e18 : f 18 = (.slice (some ⟨g, o, none⟩) n d) := h18
                      have h20 : (MP.is (.int .i64 ((k : Int) - 1))).p (f 20) wz := h 20 (by kernel_rfl)
                      have e20 : f 20 = (.int .i64 ((k : Int) - 1)) := h20
                      simp only [e10, e18, e20] at hK ⊢
                      clear e10 e18 e20
                      try simp only [List.getElem_toArray, List.getElem_cons_succ, List.getElem_cons_zero]
                      go_simp
                      exact hK _ _ (gr_refl _) rfl
                    refine Steps.cons rfl ?_ ?_
                    · intro f wz hB h K Q hK
                      have h10 : (MP.is (.bool true)).p (f 10) wz := h 10 (by kernel_rfl)
                      have e10 : f 10 = (.bool true) := h10
                      have h21 : (MP.is (.pointer (some ⟨g, o + (k - 1) * 3, none⟩))).p (f 21) wz := h 21 (by kernel_rfl)
                      have e21 : f 21 = (.pointer (some ⟨g, o + (k - 1) * 3, none⟩)) := h21
                      simp only [e10, e21] at hK ⊢
                      clear e10 e21
                      try simp only [List.getElem_toArray, List.getElem_cons_succ, List.getElem_cons_zero]
                      go_simp
                      exact hK _ _ (gr_refl _) rfl
                    refine Steps.cons rfl ?_ ?_
                    · intro f wz hB h K Q hK
                      have h10 : (MP.is (.bool true)).p (f 10) wz := h 10 (by kernel_rfl)
                      have e10 : f 10 = (.bool true) := h10
                      have h22 : (MP.is (.pointer (some ⟨g, o + (k - 1) * 3, none⟩))).p (f 22) wz := h 22 (by kernel_rfl)
                      have e22 : f 22 = (.pointer (some ⟨g, o + (k - 1) * 3, none⟩)) := h22
                      simp only [e10, e22] at hK ⊢
                      clear e10 e22
                      try simp only [List.getElem_toArray, List.getElem_cons_succ, List.getElem_cons_zero]
                      have y0 := keep_of_below (bel_drew hB) QC.out.1
                      have y1 := keep_of_below (bel_drew hB) QC.out.2.1
                      have y2 := keep_of_below (bel_drew hB) QC.out.2.2.1
                      have y3 := keep_of_below (bel_drew hB) QC.out.2.2.2
                      have y4 := keep_of_below (bel_drew hB) Y1.out
                      go_simp
                      exact hK _ _ (gr_refl _) rfl
                    refine Steps.cons rfl ?_ ?_
                    · intro f wz hB h K Q hK
                      have h10 : (MP.is (.bool true)).p (f 10) wz := h 10 (by kernel_rfl)
                      have e10 : f 10 = (.bool true) := h10
                      have h16 : (MP.is (.int .i64 pg)).p (f 16) wz := h 16 (by kernel_rfl)
                      have e16 : f 16 = (.int .i64 pg) := h16
                      have h23 : (MP.is (.int .i64 va)).p (f 23) wz := h 23 (by kernel_rfl)
                      have e23 : f 23 = (.int .i64 va) := h23
                      simp only [e10, e16, e23] at hK ⊢
                      clear e10 e16 e23
                      try simp only [List.getElem_toArray, List.getElem_cons_succ, List.getElem_cons_zero]
                      go_simp
                      exact hK _ _ (gr_refl _) rfl
                    refine Steps.cons rfl ?_ ?_
                    · intro f wz hB h K Q hK
                      have h7 : (MP.is (.bool false)).p (f 7) wz := h 7 (by kernel_rfl)
                      have e7 : f 7 = (.bool false) := h7
                      have h10 : (MP.is (.bool true)).p (f 10) wz := h 10 (by kernel_rfl)
                      have e10 : f 10 = (.bool true) := h10
                      have h24 : (MP.is (.bool false)).p (f 24) wz := h 24 (by kernel_rfl)
                      have e24 : f 24 = (.bool false) := h24
                      simp only [e7, e10, e24] at hK ⊢
                      clear e7 e10 e24
                      try simp only [List.getElem_toArray, List.getElem_cons_succ, List.getElem_cons_zero]
                      go_simp
                      exact hK _ _ (gr_refl _) rfl
                    refine Steps.cons rfl ?_ ?_
                    · intro f wz hB h K Q hK
                      have h7 : (MP.is (.bool false)).p (f 7) wz := h 7 (by kernel_rfl)
                      have e7 : f 7 = (.bool false) := h7
                      have h25 : (MP.is (.bool false)).p (f 25) wz := h 25 (by kernel_rfl)
                      have e25 : f 25 = (.bool false) := h25
                      simp only [e7, e25] at hK ⊢
                      clear e7 e25
                      try simp only [List.getElem_toArray, List.getElem_cons_succ, List.getElem_cons_zero]
                      go_simp
                      exact hK _ _ (gr_refl _) rfl
                    exact Steps.nil
                  intro f w2 hB2 hR
                  have e0 : f 0 = (.pointer (some ⟨w.heap.size, 2, none⟩)) := hR 0 (by decide)
                  have e1 : f 1 = (.slice (some ⟨g, o, none⟩) n d) := hR 1 (by decide)
                  have e2 : f 2 = (.int .i64 (k : Int)) := hR 2 (by decide)
                  have e3 : f 3 = (.pointer (some ⟨g, o + k * 3, none⟩)) := hR 3 (by decide)
                  have e4 : f 4 = (.agg #[.int .i64 pg, .slice B ni c, .slice D nq d']) := hR 4 (by decide)
                  have e5 : f 5 = (.bool true) := hR 5 (by decide)
                  have e6 : f 6 = (.bool false) := hR 6 (by decide)
                  have e7 : f 7 = (.bool false) := hR 7 (by decide)
                  have e8 : f 8 = (.int .i64 (k : Int)) := hR 8 (by decide)
                  have e9 : f 9 = (.bool true) := hR 9 (by decide)
                  have e10 : f 10 = (.bool true) := hR 10 (by decide)
                  have e11 : f 11 = (.pointer (some ⟨w.heap.size, 2, none⟩)) := hR 11 (by decide)
                  have e12 : f 12 = (.slice (some ⟨g, o, none⟩) n d) := hR 12 (by decide)
                  have e13 : f 13 = (.int .i64 (k : Int)) := hR 13 (by decide)
                  have e14 : f 14 = (.pointer (some ⟨g, o + k * 3, none⟩)) := hR 14 (by decide)
                  have e15 : f 15 = (.pointer (some ⟨g, o + k * 3, none⟩)) := hR 15 (by decide)
                  have e16 : f 16 = (.int .i64 pg) := hR 16 (by decide)
                  have e17 : f 17 = (.pointer (some ⟨w.heap.size, 2, none⟩)) := hR 17 (by decide)
                  have e18 : f 18 = (.slice (some ⟨g, o, none⟩) n d) := hR 18 (by decide)
                  have e19 : f 19 = (.int .i64 (k : Int)) := hR 19 (by decide)
                  have e20 : f 20 = (.int .i64 ((k : Int) - 1)) := hR 20 (by decide)
                  have e21 : f 21 = (.pointer (some ⟨g, o + (k - 1) * 3, none⟩)) := hR 21 (by decide)
                  have e22 : f 22 = (.pointer (some ⟨g, o + (k - 1) * 3, none⟩)) := hR 22 (by decide)
                  have e23 : f 23 = (.int .i64 va) := hR 23 (by decide)
                  have e24 : f 24 = (.bool false) := hR 24 (by decide)
                  have e25 : f 25 = (.bool false) := hR 25 (by decide)
                  have e26 : f 26 = (.bool false) := hR 26 (by decide)
                  simp only [e0, e1, e2, e3, e4, e5, e6, e7, e8, e9, e10, e11, e12, e13, e14, e15, e16, e17, e18, e19, e20, e21, e22, e23, e24, e25, e26]
                  clear e0 e1 e2 e3 e4 e5 e6 e7 e8 e9 e10 e11 e12 e13 e14 e15 e16 e17 e18 e19 e20 e21 e22 e23 e24 e25 e26 hR
                  go_wp2_with fail
                  go_roundw
                  case rel => exact ⟨k + 1, by omega, by go_num, by rw [← HL1.out]; exact HE', by rw [← HL1.out, hlS.out]; exact HF, Lib.hid (gr_trans HB.out (bel_drew hB2))⟩
                  case measure => simp [intOf]; omega
          · obtain rfl : k = n := by omega
            have t0 : decide ((k : Int) < (k : Int)) = false := decide_eq_false (by omega)
            go_wp2_with fail
            go_ret
            refine ⟨ret_bl ?_, gr_trans hb1 HB.out⟩
            rw [HR5.out, HRC.out, List.drop_eq_nil_of_le (Nat.le_of_eq HCN.out)]
            rfl
      · have m2 : decide (16 < (n : Int)) = true := decide_eq_true (by omega)
        have m2' : decide (16 < n) = true := decide_eq_true (by omega)
        go_enter Try.func28, Try.ntmps28
        go_wp2_with fail
        go_ret
        exact ⟨ret_bl (by rw [HR4.out]; simp; omega), hb1⟩
    · have m1 : decide ((n : Int) < 1) = true := decide_eq_true (by omega)
      have m1' : decide (n < 1) = true := decide_eq_true (by omega)
      go_enter Try.func28, Try.ntmps28
      go_wp2_with fail
      go_ret
      exact ⟨ret_bl (by rw [HR4.out]; simp; omega), hb1⟩
  · have u1 : (kd == 1) = false := beq_eq_false_iff_ne.2 k1
    go_enter Try.func28, Try.ntmps28
    go_wp2_with fail
    go_ret
    exact ⟨ret_bl (by rw [HR3.out, if_neg k1]), hb1⟩

end Go.Proofs.Ythpjjoahffagcaa
