/-
  Chapter 06: the fixed examples.
-/
import Derived.Test.YtlopcmmbkfjidaaPkF8
namespace Go.Proofs.Ytlopcmmbkfjidaa
open Go Go.RowKit

/-- The rings that may not be. -/
def ringsA : Array Value := #[.int .i64 0, .int .i64 (-1), .int .i64 4, .int .i64 1, .int .i64 0, .int .i64 1, .int .i64 0, .int .i64 2, .int .i64 0, .int .i64 1, .int .i64 0, .int .i64 1, .int .i64 0, .int .i64 2, .int .i64 7, .int .i64 1, .int .i64 0, .int .i64 1, .int .i64 0, .int .i64 2, .int .i64 4, .int .i64 0, .int .i64 0, .int .i64 1, .int .i64 0, .int .i64 2, .int .i64 4, .int .i64 1, .int .i64 4, .int .i64 1, .int .i64 0, .int .i64 2, .int .i64 4, .int .i64 1, .int .i64 (-1), .int .i64 1, .int .i64 0, .int .i64 2, .int .i64 4, .int .i64 1, .int .i64 0, .int .i64 0, .int .i64 0, .int .i64 2, .int .i64 4, .int .i64 4294967296, .int .i64 0, .int .i64 1, .int .i64 0, .int .i64 2, .int .i64 4, .int .i64 1, .int .i64 0, .int .i64 4294967296, .int .i64 0, .int .i64 9223372036854775807, .int .i64 4, .int .i64 1, .int .i64 0, .int .i64 1, .int .i64 0, .int .i64 2, .int .i64 9223372036854775807, .int .i64 1, .int .i64 0, .int .i64 1, .int .i64 0, .int .i64 2, .int .i64 1025, .int .i64 1, .int .i64 0, .int .i64 1]
theorem rings_at {w : World} {g : Nat} (h : w.heap[g]? = some (.cells ringsA 62 (0, 0))) (k : Nat) (hk : k < 12) : ∃ a b c d e : Int, w.cell? ⟨g, k * 6, none⟩ = some (.int .i64 0) ∧ w.cell? ⟨g, k * 6 + 1, none⟩ = some (.int .i64 a) ∧ w.cell? ⟨g, k * 6 + 2, none⟩ = some (.int .i64 b) ∧ w.cell? ⟨g, k * 6 + 3, none⟩ = some (.int .i64 c) ∧ w.cell? ⟨g, k * 6 + 4, none⟩ = some (.int .i64 d) ∧ w.cell? ⟨g, k * 6 + 5, none⟩ = some (.int .i64 e) ∧ mayB 8 a b c d e = false := by
  have hc : ∀ i, w.cell? ⟨g, i, none⟩ = ringsA[i]? := fun i => by
    simp only [World.cell?, h]
    rfl
  simp only [hc]
  clear hc h
  rcases (by omega : k = 0 ∨ k = 1 ∨ k = 2 ∨ k = 3 ∨ k = 4 ∨ k = 5 ∨ k = 6 ∨ k = 7 ∨ k = 8 ∨ k = 9 ∨ k = 10 ∨ k = 11) with h | h | h | h | h | h | h | h | h | h | h | h <;> subst h <;> exact ⟨_, _, _, _, _, rfl, rfl, rfl, rfl, rfl, rfl, by decide⟩
theorem ring_box {w : World} {g : Nat} {a b c d e : Int} (h : w.heap[g]? = some (.cells #[.int .i64 0, .int .i64 a, .int .i64 b, .int .i64 c, .int .i64 d, .int .i64 e] 62 (0, 0))) : w.cell? ⟨g, 1, none⟩ = some (.int .i64 a) ∧ w.cell? ⟨g, 2, none⟩ = some (.int .i64 b) ∧ w.cell? ⟨g, 3, none⟩ = some (.int .i64 c) ∧ w.cell? ⟨g, 4, none⟩ = some (.int .i64 d) ∧ w.cell? ⟨g, 5, none⟩ = some (.int .i64 e) := by
  simp only [World.cell?, h]
  exact ⟨rfl, rfl, rfl, rfl, rfl⟩
theorem unm_new (w : World) (cs : Array Value) (t : TypeId) (h : cs[0]? = some (.pointer none)) : Unm (some ⟨w.heap.size, 0, none⟩) (w.alloc (.cells cs t)) := by
  refine .inr ⟨_, rfl, ?_⟩
  simp only [World.cell?, heap_alloc_new]
  exact h

set_option maxRecDepth 100000 in
set_option maxHeartbeats 16000000 in
theorem JournalNumbers_any (w : World) : Calls Try.prog 6 #[] w fun e w' => e = .returned (.bool true) ∧ Below w.heap.size w w' := by
  have HD := Lib.hid (DNew_ds 8 w w (by omega) (by omega) (gr_refl w))
  have hl : (newD 8).blocks.length = 8 := List.length_replicate ..
  go_enter Try.func6, Try.ntmps6
  go_wp2_with fail
  refine HD.out.mono ?_
  rintro e w1 ⟨gd, S1, rfl, hd1, _, _⟩
  have HD1 := Lib.hid hd1
  clear hd1 HD
  have hb0 := gr_alloc (gr_refl w1) (.cells ringsA 62)
  have hx0 := heap_alloc_new w1 (.cells ringsA 62)
  have hg1 : w1.heap.size < (w1.alloc (.cells ringsA 62)).heap.size := by simp
  obtain ⟨w0, hw0⟩ : ∃ w0, w0 = w1.alloc (.cells ringsA 62) := ⟨_, rfl⟩
  rw [← hw0] at hb0 hx0 hg1
  have HD0 := Lib.hid (HD1.out.below hb0)
  have HX0 := Lib.hid hx0
  unfold ringsA at hw0
  clear hb0 hx0 HD1
  go_wp2_with fail
  rw [← hw0]
  clear hw0
  generalize w1.heap.size = gr at *
  go_loopw [69] (fun i wr => ∃ k : Nat, k ≤ 12 ∧ i = .int .i64 (k : Int) ∧ Hid (wr.heap[gr]? = some (.cells ringsA 62 (0, 0))) ∧ Hid (DS w wr gd (newD 8) S1)) (fun i _ => 12 - (intOf i).toNat)
  case atStart => exact ⟨0, by omega, rfl, HX0, HD0⟩
  case round =>
    clear HX0 HD0
    obtain ⟨k, hk, rfl, HX, HD⟩ := hrel
    by_cases hlt : k < 12
    · have t2 : decide ((k : Int) < 12) = true := decide_eq_true (by omega)
      obtain ⟨a, b, c, d, e, c0, c1, c2, c3, c4, c5, hm⟩ := rings_at HX.out k hlt
      have HK := Lib.hid hlt
      clear hk
      have hbx := gr_alloc (gr_refl wr) (.cells #[.int .i64 0, .int .i64 a, .int .i64 b, .int .i64 c, .int .i64 d, .int .i64 e] 62)
      have hxx := heap_alloc_new wr (.cells #[.int .i64 0, .int .i64 a, .int .i64 b, .int .i64 c, .int .i64 d, .int .i64 e] 62)
      have HN := Lib.hid (JNew_no _ _ _ gd S1 (newD 8) a b c d e (HD.out.below hbx).2 (by rw [hl]; exact hm))
      have HS := Lib.hid (fun W hW => JScan_no W _ _ gd S1 (newD 8) a b c d e ((HD.out.below hbx).below hW).2 (by rw [hl]; exact hm))
      have HBX := Lib.hid hbx
      have HXX := Lib.hid hxx
      clear hbx hxx hm
      go_wp2_with fail
      refine HN.out.mono ?_
      rintro e w2 ⟨rfl, hb2⟩
      have HB2 := Lib.hid (gr_trans HBX.out hb2)
      obtain ⟨d1, d2, d3, d4, d5⟩ := ring_box ((hb2.block _ (Array.getElem?_eq_some_iff.1 HXX.out).1).trans HXX.out)
      have HSC := Lib.hid (HS.out w2 hb2)
      clear hb2 HN HS HBX HXX c0 c1 c2 c3 c4 c5
      go_wp2_with fail
      refine HSC.out.mono ?_
      rintro e w3 ⟨rfl, hb3⟩
      have HB3 := Lib.hid (gr_trans HB2.out hb3)
      clear hb3 HB2 HSC d1 d2 d3 d4 d5
      go_wp2_with fail
      go_roundw
      case rel => exact ⟨k + 1, HK.out, by go_num, Lib.hid ((HB3.out.block _ (Array.getElem?_eq_some_iff.1 HX.out).1).trans HX.out), Lib.hid (HD.out.below HB3.out)⟩
      case measure => simp [intOf]; have := HK.out; omega
    · obtain rfl : k = 12 := by omega
      have t1 : decide (((12 : Nat) : Int) < 12) = false := by decide
      clear hlt HX hk
      go_wp2_with fail
      refine (JNew_un none wr 2 4 1 0 1 (.inl rfl)).mono ?_
      rintro e w2 ⟨rfl, rfl⟩
      go_wp2_with fail
      refine (JScan_un _ _ 2 4 1 0 1 (unm_new wr _ _ rfl)).mono ?_
      rintro e w3 ⟨rfl, rfl⟩
      have HDA : Hid (∀ o, DS w (wr.alloc o) gd (newD 8) S1) := Lib.hid (fun o => HD.out.below (gr_alloc (gr_refl wr) o))
      clear HD
      go_wp2_with fail
      refine (JNew_js 2 4 1 3 4294967295 (HDA.out _) (by rw [hl]; decide)).mono ?_
      rintro e w4 ⟨gj, S4, rfl, hj4, _, _⟩
      have HJ4 := Lib.hid hj4
      clear hj4 HDA
      go_wp2_with fail
      refine (images_any 4 w4 (by omega)).mono ?_
      rintro e w5 ⟨v5, rfl, ocw5, hb5⟩
      obtain ⟨A5, c5, rfl, hcr5, _, _⟩ := ocw5.cr
      have HA := Lib.hid (JApp_full (HJ4.out.below hb5) (JK.new 2 4 1 3 4294967295) 1 0 A5 (imgC 4).length c5 (imgC 4) hcr5 (by rw [imgC_len]; omega) (imgC_pb 4) (imgs_right 4 (by omega) (by omega)) (imgs_len 4) (.inl (by decide)) (by decide))
      clear ocw5 hcr5 hb5 HJ4
      go_wp2_with fail
      refine HA.out.mono ?_
      rintro e w6 ⟨rfl, S6, hj6⟩
      have HJ6 := Lib.hid hj6
      clear hj6 HA
      go_wp2_with fail
      refine (images_any 1 w6 (by omega)).mono ?_
      rintro e w7 ⟨v7, rfl, ocw7, hb7⟩
      obtain ⟨A7, c7, rfl, hcr7, _, _⟩ := ocw7.cr
      have HA := Lib.hid (JApp_full (HJ6.out.below hb7) (JK.new 2 4 1 3 4294967295) 1 0 A7 (imgC 1).length c7 (imgC 1) hcr7 (by rw [imgC_len]; omega) (imgC_pb 1) (imgs_right 1 (by omega) (by omega)) (imgs_len 1) (.inr (by decide)) (by decide))
      clear ocw7 hcr7 hb7 HJ6
      go_wp2_with fail
      refine HA.out.mono ?_
      rintro e w8 ⟨rfl, S8, hj8⟩
      have HJ8 := Lib.hid hj8
      clear hj8 HA
      go_wp2_with fail
      refine (commit6_any 1 w8).mono ?_
      rintro e w9 ⟨rfl, hb9⟩
      have HA := Lib.hid (JApp_yes (HJ8.out.below hb9) (JK.new 2 4 1 3 4294967295) 2 1 none 0 0 [] (CR.none_ _ _) (by omega) (by simp) (rc_right 1 (by omega) (by omega)) (rc_len 1) (by decide) (by decide) (by decide))
      clear hb9 HJ8
      go_wp2_with fail
      refine HA.out.mono ?_
      rintro e w10 ⟨rfl, Ja, S10, hj10, hk10⟩
      have HF := Lib.hid (JFlu_yes hj10 hk10 (Calm.new 8) (by decide) (by rw [hl]; decide) (N := 1) (by decide))
      clear hj10 hk10 HA
      go_wp2_with fail
      refine HF.out.mono ?_
      rintro e w11 ⟨rfl, D5, Jb, S11, hj11, hc5, hl5, hk11⟩
      rw [hl] at hl5
      have hkb : JK Jb 2 4 0 4294967296 1 1 1 0 false := hk11
      have HAT := Lib.hid (JAt_k hj11 hkb)
      have HJ11 := Lib.hid hj11
      have HKB := Lib.hid hkb
      have HC5 := Lib.hid hc5
      clear hj11 hk11 hkb hc5 HF
      go_wp2_with fail
      refine HAT.out.mono ?_
      rintro e w12 ⟨rfl, hb12⟩
      have HJ12 := Lib.hid (HJ11.out.below hb12)
      clear hb12 HAT HJ11
      go_wp2_with fail
      refine (commit6_any 2 w12).mono ?_
      rintro e w13 ⟨rfl, hb13⟩
      have HA := Lib.hid (JApp_full (HJ12.out.below hb13) HKB.out 2 2 none 0 0 [] (CR.none_ _ _) (by omega) (by simp) (rc_right 2 (by omega) (by omega)) (rc_len 2) (.inr (by decide)) (by decide))
      clear hb13 HJ12
      go_wp2_with fail
      refine HA.out.mono ?_
      rintro e w14 ⟨rfl, S14, hj14⟩
      have HRM := Lib.hid (JRoom_k hj14 HKB.out)
      rw [show ((4 - 1 : Nat) : Int) = 3 from rfl] at HRM
      obtain ⟨Sd, hd, _⟩ := hj14.ds
      have HDD := Lib.hid hd
      clear hj14 hd HA
      go_wp2_with fail
      refine HRM.out.mono ?_
      rintro e w15 ⟨rfl, hb15⟩
      have HJN := Lib.hid (JNew_js 2 4 7 0 1 (HDD.out.below hb15) (by rw [hl5]; decide))
      clear hb15 HRM HDD HKB
      go_wp2_with fail
      refine HJN.out.mono ?_
      rintro e w16 ⟨gn, S16, rfl, hj16, _, _⟩
      have HJ16 := Lib.hid hj16
      clear hj16 HJN
      go_wp2_with fail
      refine (images_any 3 w16 (by omega)).mono ?_
      rintro e w17 ⟨v17, rfl, ocw17, hb17⟩
      obtain ⟨A17, c17, rfl, hcr17, _, _⟩ := ocw17.cr
      have HA := Lib.hid (JApp_yes (HJ16.out.below hb17) (JK.new 2 4 7 0 1) 1 0 A17 (imgC 3).length c17 (imgC 3) hcr17 (by rw [imgC_len]; omega) (imgC_pb 3) (imgs_right 3 (by omega) (by omega)) (imgs_len 3) (by decide) (by decide) (by decide))
      clear ocw17 hcr17 hb17 HJ16
      go_wp2_with fail
      refine HA.out.mono ?_
      rintro e w18 ⟨rfl, Jc, S18, hj18, hk18⟩
      have HFR := Lib.hid (JFre_no hj18 hk18 (er := 2) rfl (by decide))
      have HKC := Lib.hid hk18
      clear hj18 hk18 HA
      go_wp2_with fail
      refine HFR.out.mono ?_
      rintro e w19 ⟨rfl, hj19⟩
      have HF := Lib.hid (JFlu_yes hj19 HKC.out HC5.out (by decide) (by rw [hl5]; decide) (N := 4) (by decide))
      clear hj19 HFR HKC HC5
      go_wp2_with fail
      refine HF.out.mono ?_
      rintro e w20 ⟨rfl, D6, Jd, S20, hj20, hc6, hl6, hk20⟩
      rw [hl5] at hl6
      have hkd : JK Jd 2 4 0 5 4 1 1 0 false := hk20
      have HRM := Lib.hid (JRoom_k hj20 hkd)
      rw [show ((4 - 4 : Nat) : Int) = 0 from rfl] at HRM
      have HJ20 := Lib.hid hj20
      have HKD := Lib.hid hkd
      have HC6 := Lib.hid hc6
      clear hj20 hk20 hkd hc6 HF
      go_wp2_with fail
      refine HRM.out.mono ?_
      rintro e w21 ⟨rfl, hb21⟩
      have HJ21 := Lib.hid (HJ20.out.below hb21)
      clear hb21 HRM HJ20
      go_wp2_with fail
      refine (commit6_any 3 w21).mono ?_
      rintro e w22 ⟨rfl, hb22⟩
      have HA := Lib.hid (JApp_full (HJ21.out.below hb22) HKD.out 2 3 none 0 0 [] (CR.none_ _ _) (by omega) (by simp) (rc_right 3 (by omega) (by omega)) (rc_len 3) (.inl (by decide)) (by decide))
      clear hb22 HJ21
      go_wp2_with fail
      refine HA.out.mono ?_
      rintro e w23 ⟨rfl, S23, hj23⟩
      have HAR := Lib.hid (Arm_js 0 hj23 (by omega))
      rw [show armE 0 = 0 by decide, show armD D6 0 = { D6 with power := 0 } from by unfold armD; rw [if_neg (by decide)]] at HAR
      clear hj23 HA
      go_wp2_with fail
      refine HAR.out.mono ?_
      rintro e w24 ⟨rfl, S24, hj24, _⟩
      have HFR := Lib.hid (JFre_yes hj24 HKD.out)
      clear hj24 HAR HKD
      go_wp2_with fail
      refine HFR.out.mono ?_
      rintro e w25 ⟨rfl, Je, hj25, hk25⟩
      have HRM := Lib.hid (JRoom_k hj25 hk25)
      rw [show ((4 - 0 : Nat) : Int) = 4 from rfl] at HRM
      have HJ25 := Lib.hid hj25
      have HKE := Lib.hid hk25
      clear hj25 hk25 HFR
      go_wp2_with fail
      refine HRM.out.mono ?_
      rintro e w26 ⟨rfl, hb26⟩
      have HJ26 := Lib.hid (HJ25.out.below hb26)
      clear hb26 HRM HJ25
      go_wp2_with fail
      refine (commit6_any 4 w26).mono ?_
      rintro e w27 ⟨rfl, hb27⟩
      have HA := Lib.hid (JApp_yes (HJ26.out.below hb27) HKE.out 2 4 none 0 0 [] (CR.none_ _ _) (by omega) (by simp) (rc_right 4 (by omega) (by omega)) (rc_len 4) (by decide) (by decide) (by decide))
      clear hb27 HJ26
      go_wp2_with fail
      refine HA.out.mono ?_
      rintro e w28 ⟨rfl, Jf, S28, hj28, hk28⟩
      have HF := Lib.hid (JFlu_fail hj28 hk28 (by decide) (by show 2 + 4 ≤ D6.blocks.length; omega) (er := 6) (by
        show opE D6.down 0 D6.fault D6.wi = 6
        rw [HC6.out.down]
        rfl) (by decide) (by show D6.pending.length ≤ 1000; rw [HC6.out.pend]; decide))
      clear hj28 hk28 HA HKE
      go_wp2_with fail
      refine HF.out.mono ?_
      rintro e w29 ⟨rfl, Jg, S29, hj29, hk29⟩
      have HPD : Hid ((opS { D6 with power := 0 }).pending.length ≤ 1000) := Lib.hid (by show D6.pending.length ≤ 1000; rw [HC6.out.pend]; decide)
      generalize opS { D6 with power := 0 } = D7 at *
      have HJ29 := Lib.hid hj29
      have HKG := Lib.hid hk29
      clear hj29 hk29 HF HC6
      go_wp2_with fail
      refine (commit6_any 5 w29).mono ?_
      rintro e w30 ⟨rfl, hb30⟩
      have HA := Lib.hid (JApp_broken (HJ29.out.below hb30) HKG.out 2 5 none 0 0 [] (CR.none_ _ _) (by omega) (by simp) (by decide))
      clear hb30 HJ29
      go_wp2_with fail
      refine HA.out.mono ?_
      rintro e w31 ⟨rfl, S31, hj31⟩
      have HB := Lib.hid (JBroken_k hj31 HKG.out)
      have HJ31 := Lib.hid hj31
      clear hj31 HA
      go_wp2_with fail
      refine HB.out.mono ?_
      rintro e w32 ⟨rfl, hb32⟩
      have HF := Lib.hid (JFlu_broken (HJ31.out.below hb32) HKG.out HPD.out)
      clear hb32 HB HJ31
      go_wp2_with fail
      refine HF.out.mono ?_
      rintro e w33 ⟨rfl, S33, hj33⟩
      have HFR := Lib.hid (JFre_no hj33 HKG.out (er := 4) rfl (by decide))
      clear hj33 HF
      go_wp2_with fail
      refine HFR.out.mono ?_
      rintro e w34 ⟨rfl, hj34⟩
      have HL := Lib.hid (JLast_k hj34 HKG.out)
      have HJ34 := Lib.hid hj34
      clear hj34 HFR
      go_wp2_with fail
      refine HL.out.mono ?_
      rintro e w35 ⟨rfl, hb35⟩
      have HY := Lib.hid (JSynced_k (HJ34.out.below hb35) HKG.out)
      have HJ35 := Lib.hid (HJ34.out.below hb35)
      clear hb35 HL HJ34
      go_wp2_with fail
      refine HY.out.mono ?_
      rintro e w36 ⟨rfl, hb36⟩
      have HJ36 := Lib.hid (HJ35.out.below hb36)
      clear hb36 HY HJ35
      go_wp2_with fail
      refine (odd_any w36).mono ?_
      rintro e w37 ⟨rfl, hb37⟩
      have HJ37 := Lib.hid (HJ36.out.below hb37)
      clear hb37 HJ36
      go_wp2_with fail
      refine (torn_any w37).mono ?_
      rintro e w38 ⟨rfl, hb38⟩
      have HA := Lib.hid (JApp_broken (HJ37.out.below hb38) HKG.out 0 0 none 0 0 [] (CR.none_ _ _) (by omega) (by simp) (by decide))
      clear hb38 HJ37
      go_wp2_with fail
      refine HA.out.mono ?_
      rintro e w39 ⟨rfl, S39, hj39⟩
      have HB39 := Lib.hid hj39.bel
      clear hj39 HA HKG HPD
      go_wp2_with fail
      refine (awake06_any w39).mono ?_
      rintro e w40 ⟨rfl, hb40⟩
      have HB40 := Lib.hid (gr_trans HB39.out hb40)
      clear hb40
      go_wp2
      go_ret
      exact ⟨rfl, HB40.out⟩
end Go.Proofs.Ytlopcmmbkfjidaa
