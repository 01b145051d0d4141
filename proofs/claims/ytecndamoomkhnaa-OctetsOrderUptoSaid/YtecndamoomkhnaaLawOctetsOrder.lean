/-
  The walk of OctetsOrder.
-/
import Derived.Test.YtecndamoomkhnaaOctH
import Derived.Test.YtecndamoomkhnaaPlainA
namespace Go.Proofs.Ytecndamoomkhnaa
open Go.RowKit

set_option maxHeartbeats 1000000 in
set_option maxRecDepth 100000 in
theorem OctetsOrder_walk (A B C : Option Addr) (na ca nb cb nc cc : Nat) (a b c : List UInt8) (w : World) (ha : BR w A na a) (hb : BR w B nb b) (hc : BR w C nc c)
    (la : na ≤ 1048576) (lb : nb ≤ 1048576) (lc : nc ≤ 1048576) :
    Calls Try.prog 3 #[.slice A na ca, .slice B nb cb, .slice C nc cc] w fun e w' => e = .returned (.bool true) ∧ Below w.heap.size w w' := by
  obtain ⟨i0, hi0, hz0, hz1, hz2⟩ := info_parts info_u8
  have k1 := Cmp_any A B na nb ca cb a b w ha hb
  have k2 := Cmp_any B A nb na cb ca b a w hb ha
  have k3 := Cmp_any B C nb nc cb cc b c w hb hc
  have k4 := Cmp_any A C na nc ca cc a c w ha hc
  have k5 := Same_any A B na nb ca cb a b w ha hb
  have k6 := SameBytes_any A B na nb ca cb a b w ha hb
  have hab := cmp_neg a b
  have rab := cmp_range a b
  have rba := cmp_range b a
  have rbc := cmp_range b c
  have rac := cmp_range a c
  have tr := cmp_trans a b c
  have tr' := cmp_trans' a b c
  have hz := cmp_zero a b
  have htail := cmp_same_tail a b c
  have f6 : (Lib.compareBytes a b == 0) = (a == b) := by rw [Bool.eq_iff_iff]; simp [hz]
  rw [← f6] at k6
  have K7 : Hid (na = nb → Lib.compareBytes (a ++ c) (b ++ c) = Lib.compareBytes a b) := fun h => htail (by rw [ha.len, hb.len]; exact h)
  clear htail hz f6
  generalize Lib.compareBytes a b = ab at *
  generalize Lib.compareBytes b a = ba at *
  generalize Lib.compareBytes b c = bc at *
  generalize Lib.compareBytes a c = ac at *
  have g1 : (ab != -ba) = false := by simp; omega
  have g2 : decide (ab < -1) = false := by simp; omega
  have g3 : decide (1 < ab) = false := by simp; omega
  have g4 : ((ab == 0) != (ab == 0)) = false := by simp
  have g5 : (decide (ab ≤ 0) && decide (bc ≤ 0) && decide (0 < ac)) = false := by
    simp only [Bool.and_eq_false_iff, decide_eq_false_iff_not]; omega
  have g6 : (decide (0 ≤ ab) && decide (0 ≤ bc) && decide (ac < 0)) = false := by
    simp only [Bool.and_eq_false_iff, decide_eq_false_iff_not]; omega
  have g7 : 0 ≤ ba + 1 := by omega
  have g8 : ba ≤ 1 := by omega
  have K1 := Lib.hid k1
  have K2 := Lib.hid k2
  have K3 := Lib.hid k3
  have K4 := Lib.hid k4
  have K5 := Lib.hid k5
  have K6 := Lib.hid k6
  have TR : Hid (0 < ab ∨ 0 < bc ∨ ac ≤ 0) := by rcases Int.lt_or_le 0 ab with h | h; exact .inl h; rcases Int.lt_or_le 0 bc with h' | h'; exact .inr (.inl h'); exact .inr (.inr (tr h h'))
  have TR' : Hid (ab < 0 ∨ bc < 0 ∨ 0 ≤ ac) := by rcases Int.lt_or_le ab 0 with h | h; exact .inl h; rcases Int.lt_or_le bc 0 with h' | h'; exact .inr (.inl h'); exact .inr (.inr (tr' h h'))
  clear k1 k2 k3 k4 k5 k6 hab tr tr'
  go_enter Try.func3, Try.ntmps3
  go_wp2_with fail
  refine K1.out.mono ?_
  rintro e w1 ⟨rfl, rfl⟩
  go_wp2_with fail
  refine K2.out.mono ?_
  rintro e w1 ⟨rfl, rfl⟩
  go_wp2_with fail
  refine K3.out.mono ?_
  rintro e w1 ⟨rfl, rfl⟩
  go_wp2_with fail
  refine K4.out.mono ?_
  rintro e w1 ⟨rfl, rfl⟩
  go_upto_region 2 with fail
  go_cut [74] (fun s74 wx => s74 = .bool false ∧ w = wx)
  case first =>
    go_wp2_with fail
    refine K5.out.mono ?_
    rintro e w1 ⟨rfl, rfl⟩
    go_wp2_with fail
    refine K6.out.mono ?_
    rintro e w1 ⟨rfl, rfl⟩
    go_wp2_with fail
    all_goals (go_meet; first | exact ⟨rfl, rfl⟩ | (have t1 := TR.out; have t2 := TR'.out; refine ⟨?_, rfl⟩; first | (exfalso; omega) | (congr 1; simp; omega)))
  case rest =>
    obtain ⟨rfl, rfl⟩ := hcut
    have hfa : a.length ≤ na := by rw [ha.len]; omega
    have hfb : b.length ≤ nb := by rw [hb.len]; omega
    have HLA := Lib.hid ha.len
    have HLB := Lib.hid hb.len
    have HLC := Lib.hid hc.len
    go_upto_region 4 with fail
    go_cut [92] (fun s92 wx => s92 = .bool false ∧ Below w.heap.size w wx)
    case first =>
      by_cases hlen : na = nb
      · have hlen1 : ((na : Int) == (nb : Int)) = true := beq_iff_eq.2 (by omega)
        have HLEN := Lib.hid hlen
        clear hlen
        go_wp2_with fail
        refine (CopyBytes_any A na ca a _ ha (by omega)).mono ?_
        rintro e w1 ⟨v1, rfl, ho1, hb1⟩
        have hc1 := hc.below hb1
        go_wp2_with (at_builtin; refine wpList_append_RdW _ (by simp [Region.wanted, yielded]) (.tmp 82) (.tmp 83) _ rfl w.heap.size 5 i0 _ 1 1 Try.underlying22 hi0 hz0 hz1 hz2 rfl v1 a.length _ rfl ho1 C nc cc _ rfl hc1 (one_bv c) (by omega) (by simp only [maxLen]; omega) hb1.size ?_; intro v2 w2 hown2 hg2 _ _)
        have hb2 := gr_own hb1 ho1 hg2
        have ho2 : OB w2 w.heap.size v2 (a ++ c) := OB.of_own hown2 (by simp)
        clear hown2 hg2 ho1 hb1 hc1
        refine (CopyBytes_any B nb cb b _ (hb.below hb2) (by omega)).mono ?_
        rintro e w3 ⟨v3, rfl, ho3, hb3⟩
        have hc3 := (hc.below hb2).below hb3
        go_wp2_with (at_builtin; refine wpList_append_RdW _ (by simp [Region.wanted, yielded]) (.tmp 86) (.tmp 87) _ rfl w2.heap.size 5 i0 _ 1 1 Try.underlying22 hi0 hz0 hz1 hz2 rfl v3 b.length _ rfl ho3 C nc cc _ rfl hc3 (one_bv c) (by omega) (by simp only [maxLen]; omega) hb3.size ?_; intro v4 w4 hown4 hg4 _ _; obtain ⟨A4, c4, rfl, hl4, hm4⟩ := own_form hown4; have hb4 := gr_own hb3 ho3 hg4; obtain ⟨A2, c2, rfl, hl2, hm2⟩ := own_form ho2)
        have ho4 : OB w4 w2.heap.size _ (b ++ c) := OB.of_own hown4 (by simp)
        obtain ⟨A4', c4', e4, hr4, _, _⟩ := ho4.formN (n := b.length + nc) (by rw [List.length_append, HLC.out])
        cases e4
        obtain ⟨A2', c2', e2, hr2, _, _⟩ := (ho2.below hb4).form
        cases e2
        refine (Cmp_any _ _ _ _ _ _ (a ++ c) (b ++ c) _ (by simpa using hr2) (by simpa using hr4)).mono ?_
        rintro e w5 ⟨rfl, rfl⟩
        rw [K7.out HLEN.out]
        have gg : (ab != ab) = false := by simp
        go_wp2_with fail
        go_meet
        exact ⟨rfl, gr_trans hb2 hb4⟩
      · have hlen1 : ((na : Int) == (nb : Int)) = false := beq_eq_false_iff_ne.2 (by omega)
        go_wp2_with fail
        go_meet
        exact ⟨rfl, gr_refl _⟩
    case rest =>
      obtain ⟨rfl, hbb⟩ := hcut
      have ha1 := ha.below hbb
      have hc1 := hc.below hbb
      go_wp2_with fail
      refine (CopyBytes_any A na ca a _ ha1 (by omega)).mono ?_
      rintro e w1 ⟨v1, rfl, ho1, hb1⟩
      have hc2 := hc1.below hb1
      go_wp2_with (at_builtin; refine wpList_append_Rd _ rfl (.tmp 95) (.tmp 96) _ rfl wc.heap.size 5 i0 _ 1 1 Try.underlying22 hi0 hz0 hz1 hz2 rfl v1 a.length _ rfl ho1 C nc cc _ rfl hc2 (one_bv c) (by omega) (by simp only [maxLen]; omega) hb1.size ?_; intro v2 w2 hown2 hg2 _ _; obtain ⟨A2, c2, rfl, hl2, hm2⟩ := own_form hown2; have hb2 := gr_own hb1 ho1 hg2)
      have ho2 : OB w2 wc.heap.size _ (a ++ c) := OB.of_own hown2 (by simp)
      obtain ⟨A2', c2', e2, hr2, _, _⟩ := ho2.formN (n := a.length + nc) (by rw [List.length_append, HLC.out])
      cases e2
      refine (Cmp_any _ _ _ _ _ _ a (a ++ c) _ (ha1.below hb2) hr2).mono ?_
      rintro e w5 ⟨rfl, rfl⟩
      rw [cmp_longer, HLC.out]
      by_cases h1 : (nc : Int) ≤ 1
      · have hm : min (nc : Int) 1 = nc := by omega
        rw [hm]
        clear hm
        go_wp2_with fail
        refine (awake01_any _).mono ?_
        rintro e w5 ⟨rfl, hb5⟩
        go_wp2
        go_ret
        exact ⟨rfl, gr_trans (gr_trans hbb hb2) hb5⟩
      · have hm : min (nc : Int) 1 = 1 := by omega
        rw [hm]
        clear hm
        go_wp2_with fail
        refine (awake01_any _).mono ?_
        rintro e w5 ⟨rfl, hb5⟩
        go_wp2
        go_ret
        exact ⟨rfl, gr_trans (gr_trans hbb hb2) hb5⟩

end Go.Proofs.Ytecndamoomkhnaa
