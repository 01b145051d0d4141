/-
  The walk of SpaceNumbers.
-/
import Derived.Test.YtnkeclpgpiogoaaPkA8
namespace Go.Proofs.Ytnkeclpgpiogoaa
open Go Go.RowKit Go.Maps
set_option maxRecDepth 100000 in
theorem full7 : ∀ q, q < 8 → tkN (8 - 1) q = true := fun q hq => decide_eq_true (by omega)
set_option maxRecDepth 100000 in
theorem bit_out (m : List UInt8) (hl : m.length = 4080) : hasB (m.set 1 1) 8 = true := by
 unfold hasB
 rw [show 8 / 8 = 1 from rfl, show 8 % 8 = 0 from rfl, List.getD_eq_getElem?_getD, List.getElem?_set_self (by omega)]
 decide
set_option maxRecDepth 100000 in
theorem set_new (w : World) (cs : Array Value) (t : TypeId) (j : Nat) (v : Value) : (w.alloc (.cells cs t)).setCell ⟨w.heap.size, j, none⟩ v = w.alloc (.cells (cs.setIfInBounds j v) t) := by
 simp [go_sem]
set_option maxRecDepth 100000 in
theorem ob_blk {w : World} {base n : Nat} {v : Value} {l : List UInt8} (h : OB w base v l) (hl : l.length = n) (h0 : 0 < n) : ∃ g c, v = .slice (some ⟨g, 0, none⟩) n c := by
 rcases h.2 with ⟨e0, e1⟩ | ⟨g, cap, cur, rfl, hb, hg, r⟩
 ·omega
 ·exact ⟨g, cap, by rw [hl]⟩
set_option maxRecDepth 100000 in
set_option maxHeartbeats 4000000 in
theorem SpaceNumbers_any (w : World) : Calls Try.prog 3 #[] w fun e w' => e = .returned (.bool true) ∧ Below w.heap.size w w' := by
 have HM := Lib.hid (made11_any 7 w w (gr_refl w))
 go_enter Try.func3, Try.ntmps3
 go_wp2_with fail
 refine HM.out.mono ?_
 rintro e w1 ⟨z, gj, gb, T, rfl, haz, hb1⟩
 rw [show n11 7 = 8 from rfl] at haz
 have HB := Lib.hid (Begin_sc (SC.new11 haz (by omega)))
 clear haz hb1
 go_wp2_with fail
 refine HB.out.mono ?_
 rintro e w2 ⟨gx, U, rfl, hs2, hx2, _, _, _⟩
 have hz : isMap (nowD (fun _ => zP) [] 0) 8 = false := no_zP 8
 have HT := Lib.hid (Take_no hs2 hx2 hz (by omega) (by omega))
 have HZ := Lib.hid hz
 clear hs2 hx2 hz
 go_wp2_with fail
 refine HT.out.mono ?_
 rintro e w3 ⟨rfl, T3, hs3, hx3, _, _⟩
 have HA := Lib.hid (All_no hs3 hx3 HZ.out (by omega) (by omega))
 clear hs3 hx3
 go_wp2_with fail
 refine HA.out.mono ?_
 rintro e w4 ⟨B4, k4, rfl, T4, hs4, hx4, _⟩
 have HG := Lib.hid (Give_no hs4 hx4 HZ.out (by omega) (by omega) 1)
 clear hs4 hx4
 go_wp2_with fail
 refine HG.out.mono ?_
 rintro e w5 ⟨rfl, T5, hs5, hx5, _, _⟩
 have HK := Lib.hid (Taken_no hs5 hx5 HZ.out (by omega) (by omega) 0)
 clear hs5 hx5
 go_wp2_with fail
 refine HK.out.mono ?_
 rintro e w6 ⟨rfl, T6, hs6, hx6, _⟩
 have HF := Lib.hid (Format_sc hs6 hx6 (by omega) (by simp))
 clear hs6 hx6
 go_wp2_with fail
 refine HF.out.mono ?_
 rintro e w7 ⟨rfl, hs7, hx7, _⟩
 have hm7 : MapI (nowD (fun _ => zP) (insS 0 (turnL zP 0) []) 0) 8 (tkN 0) := by
  rw [← tkN0]
  exact MapI.fmt (by omega)
 have HI0 : Hid (∃ T st, SC w w7 z 8 400 T (fun _ => zP) (100 + 1) [] 0 [] ∧ XG w w7 z 8 gx st T U ∧ MapI (nowD (fun _ => zP) st 0) 8 (tkN (1 - 1))) := Lib.hid ⟨_, _, hs7.more (by omega), hx7, hm7⟩
 clear hs7 hx7 hm7
 go_wp2_with fail
 go_loopw [12] (fun i wr => ∃ k : Nat, 1 ≤ k ∧ k ≤ 8 ∧ i = .int .i64 (k : Int) ∧ Hid (∃ T st, SC w wr z 8 400 T (fun _ => zP) (100 + k) [] 0 [] ∧ XG w wr z 8 gx st T U ∧ MapI (nowD (fun _ => zP) st 0) 8 (tkN (k - 1)))) (fun i _ => 8 - (Go.RowKit.intOf i).toNat)
 case atStart => exact ⟨1, Nat.le_refl _, by omega, rfl, HI0⟩
 case round =>
  clear HI0
  obtain ⟨k, hk1, hk8, rfl, HI⟩ := hrel
  by_cases hlt : k < 8
  ·have t1 : decide ((k : Int) < 8) = true := decide_eq_true (by omega)
   have t2 : decide (k < 8) = true := decide_eq_true hlt
   obtain ⟨T1, st1, hs1, hx1, hm1⟩ := HI.out
   have HTk := Lib.hid (Take_sc hs1 hx1 (by have := hx1.ok.len_le; omega) hm1 (by omega) (by omega))
   have HM1 := Lib.hid hm1
   clear hs1 hx1 hm1
   go_wp2_with fail
   refine HTk.out.mono ?_
   rintro e w9 (⟨q, _⟩ | ⟨f, hf1, hf2, hf3, hf, rfl, T9, hs9, hx9, _, _⟩)
   ·have := q k hlt
    unfold tkN at this
    have := of_decide_eq_true this
    omega
   obtain rfl : f = k := by
    rw [hf, freeN (k - 1) (by omega)]
    omega
   have HI2 : Hid (∃ T st, SC w w9 z 8 400 T (fun _ => zP) (100 + (f + 1)) [] 0 [] ∧ XG w w9 z 8 gx st T U ∧ MapI (nowD (fun _ => zP) st 0) 8 (tkN (f + 1 - 1))) := Lib.hid ⟨_, _, hs9, hx9, by
    have h := HM1.out.tkn (st2 := insS f zP st1) (f := f) (by omega) hf2 (by omega)
    have e := tkN_succ (f - 1)
    rw [show f - 1 + 1 = f by omega] at e
    rw [e] at h
    exact h⟩
   clear hs9 hx9 hf hf1 hf2 hf3 HM1
   go_wp2_with fail
   go_roundw
   all_goals have hlt := of_decide_eq_true t2
   case rel => exact ⟨f + 1, by omega, by omega, by go_num, HI2⟩
   case measure => simp [Go.RowKit.intOf]; omega
  ·obtain rfl : k = 8 := by omega
   obtain ⟨T1, st1, hs1, hx1, hm1⟩ := HI.out
   have HTk := Lib.hid (Take_sc hs1 hx1 (by have := hx1.ok.len_le; omega) hm1 (by omega) (by omega))
   have HM1 := Lib.hid hm1
   clear hs1 hx1 hm1 HI hlt hk1 hk8
   go_wp2_with fail
   refine HTk.out.mono ?_
   intro e w9 h
   obtain ⟨_, rfl, T9, hs9, hx9, _, _⟩ := h.resolve_right (fun ⟨f, _, h2, h3, _⟩ => by rw [full7 f h2] at h3; cases h3)
   have HK8 := Lib.hid (Taken_out hs9 hx9 HM1.out (by omega) (by omega) 8 (.inr (by omega)))
   clear hs9 hx9 h
   go_wp2_with fail
   refine HK8.out.mono ?_
   rintro e w10 ⟨rfl, T10, hs10, hx10, _⟩
   have HK9 := Lib.hid (Taken_out hs10 hx10 HM1.out (by omega) (by omega) (-1) (.inl (by omega)))
   clear hs10 hx10
   go_wp2_with fail
   refine HK9.out.mono ?_
   rintro e w11 ⟨rfl, T11, hs11, hx11, _⟩
   have HG0 := Lib.hid (Give_sc hs11 hx11 (by have := hx11.ok.len_le; omega) HM1.out (by omega) (by omega) 0)
   clear hs11 hx11
   go_wp2_with fail
   refine HG0.out.mono ?_
   intro e w12 h
   obtain ⟨_, rfl, T12, hs12, hx12, _, _⟩ := h.resolve_right (fun ⟨p, h1, h2, _⟩ => by omega)
   have HG8 := Lib.hid (Give_sc hs12 hx12 (by have := hx12.ok.len_le; omega) HM1.out (by omega) (by omega) 8)
   clear hs12 hx12 h
   go_wp2_with fail
   refine HG8.out.mono ?_
   intro e w13 h
   obtain ⟨_, rfl, T13, hs13, hx13, _, _⟩ := h.resolve_right (fun ⟨p, h1, h2, h3, _⟩ => by omega)
   have HG3 := Lib.hid (Give_sc hs13 hx13 (by have := hx13.ok.len_le; omega) HM1.out (by omega) (by omega) 3)
   clear hs13 hx13 h
   go_wp2_with fail
   refine HG3.out.mono ?_
   intro e w14 h
   obtain ⟨p, hp, _, _, _, rfl, T14, hs14, hx14, _, _⟩ := h.resolve_left (fun ⟨q, _⟩ => q ⟨by omega, by omega, by decide⟩)
   obtain rfl : p = 3 := by omega
   have hm14 := HM1.out.tkn (st2 := st1) (f := 3) (by omega) (by omega) (by omega)
   have HG4 := Lib.hid (Give_sc hs14 hx14 (by have := hx14.ok.len_le; omega) hm14 (by omega) (by omega) 3)
   have HM14 := Lib.hid hm14
   generalize insS 0 (turnL (nowD (fun _ => zP) st1 0) 3) st1 = st14 at *
   clear hs14 hx14 h hm14 hp
   go_wp2_with fail
   refine HG4.out.mono ?_
   intro e w15 h
   obtain ⟨_, rfl, T15, hs15, hx15, _, _⟩ := h.resolve_right (fun ⟨p, h1, h2, h3, h4, _⟩ => by
    obtain rfl : p = 3 := by omega
    revert h4
    decide)
   have HGT := Lib.hid (Get_sc hs15 hx15 0 (by omega) (by omega))
   clear hs15 hx15 h
   go_wp2_with fail
   refine HGT.out.mono ?_
   rintro e w16 ⟨v, rfl, hv, T16, wn, hs16, hx16, _, hbn, hown⟩
   have hml := HM14.out.len
   generalize nowD (fun _ => zP) st14 0 = m at *
   obtain ⟨g, c, rfl⟩ := ob_blk hv hml (by omega)
   have HML := Lib.hid hml
   have HV := Lib.hid hv
   have HSN := Lib.hid hs16
   have HXN := Lib.hid hx16
   have HBN := Lib.hid hbn
   have HGN := Lib.hid (hown g rfl)
   have HM2 := Lib.hid (made11_any 39 w16 w16 (gr_refl w16))
   clear hml hv hs16 hx16 hbn hown
   go_wp2_with fail
   refine HM2.out.mono ?_
   rintro e w17 ⟨y, gj2, gb2, T17, rfl, haz2, _⟩
   rw [show n11 39 = 40 from rfl] at haz2
   have HB2 := Lib.hid (Begin_sc (SC.new11 haz2 (by omega)))
   clear haz2
   go_wp2_with fail
   refine HB2.out.mono ?_
   rintro e w18 ⟨gv, V2, rfl, hs18, hx18, _, _, _⟩
   have hmk := run_mk_bytes 4080 (by omega) 4080 rfl w18
   have o0 := OB.zero w18 4080 (by decide)
   have fz0 := o0.frozen (List.length_replicate ..) 0
   have ce0 := OB.cell o0 (List.length_replicate ..) (j := 0) (by omega)
   have o1 := o0.setInt (List.length_replicate ..) 0 1 (by omega) 1 rfl
   rw [set_new] at o1
   have o2 := o1.setInt (by rw [List.length_set]; exact List.length_replicate ..) 2 1 (by omega) 1 rfl
   rw [set_new] at o2
   have fz2 := o1.frozen (by rw [List.length_set]; exact List.length_replicate ..) 2
   have ce2 := OB.cell o1 (by rw [List.length_set]; exact List.length_replicate ..) (j := 2) (by omega)
   have HBA := Lib.hid (gr_alloc (gr_refl w18) (.cells (((zeroB 4080).setIfInBounds 0 (.int .u8 1)).setIfInBounds 2 (.int .u8 1)) 5))
   have HSet := Lib.hid (Set_sc (hs18.below HBA.out) (hx18.below HBA.out) 0 (some ⟨w18.heap.size, 0, none⟩) 4080 _ (ob_br o2 (by rw [List.length_set, List.length_set]; exact List.length_replicate ..)) (by omega) (.inl (by simp)))
   clear hs18 hx18 o0 o1 o2
   go_wp2_with fail
   generalize w18.alloc (.cells (((zeroB 4080).setIfInBounds 0 (.int .u8 1)).setIfInBounds 2 (.int .u8 1)) 5) = wd at *
   generalize ((List.replicate 4080 (0 : UInt8)).set 0 1).set 2 1 = dl at *
   clear fz2 ce2 fz0 ce0 hmk
   refine HSet.out.mono ?_
   rintro e w19 ⟨rfl, hs19, hx19, _⟩
   have HFv := Lib.hid (Format_sc hs19 hx19 (by omega) (by
    have h : (insS 0 dl ([] : List (Nat × List UInt8))).length = 1 := rfl
    omega))
   clear hs19 hx19
   go_wp2_with fail
   refine HFv.out.mono ?_
   rintro e w20 ⟨rfl, hs20, hx20, _⟩
   have hm20 : MapI (nowD (fun _ => zP) (insS 0 (turnL zP 0) (insS 0 dl [])) 0) 40 (fun p => decide (p = 0)) := MapI.fmt (by omega)
   have HAv := Lib.hid (All_sc hs20 hx20 hm20 (by omega) (by omega))
   rw [show takenL (fun p => decide (p = 0)) 40 = [0] by decide, show ([0] : List Nat).length = 1 from rfl] at HAv
   clear hs20 hx20 hm20
   go_wp2_with fail
   refine HAv.out.mono ?_
   rintro e w21 ⟨B21, k21, rfl, _, T21, hs21, _, _, _⟩
   have HB21 : Hid (Below w16.heap.size w16 w21) := Lib.hid (by
    obtain ⟨D, P, A, h1, _⟩ := hs21.ex
    exact h1.bel)
   clear hs21
   have hv21 := HV.out.below HB21.out
   have fz1 := hv21.frozen HML.out 1
   have ce1 := OB.cell hv21 HML.out (j := 1) (by omega)
   have hst := hv21.setInt HML.out 1 1 (by omega) 1 rfl
   have hbw : Below wn.heap.size wn (w21.setCell ⟨g, 1, none⟩ (.int .u8 1)) := (gr_trans HBN.out HB21.out).trans (((Off.refl (fun k => k = g) w21).setCell (S := fun k => k = g) _ rfl).below (fun k e => by rw [e]; exact HGN.out) (gr_trans HBN.out HB21.out).size)
   have HS2 := Lib.hid (Set_sc (HSN.out.below hbw) (HXN.out.below hbw) 0 (some ⟨g, 0, none⟩) c (m.set 1 1) (ob_br hst (by rw [List.length_set]; exact HML.out)) (by omega) (.inl (by have := HXN.out.ok.len_le; omega)))
   clear hv21 hst hbw
   go_wp2_with fail
   refine HS2.out.mono ?_
   rintro e w23 ⟨rfl, hs23, hx23, _⟩
   have HA23 := Lib.hid (All_no hs23 hx23 (by rw [nowD0]; exact no_out (p := 8) (by omega) (by omega) (bit_out m HML.out)) (by omega) (by omega))
   clear fz1 ce1 hs23 hx23
   go_wp2_with fail
   refine HA23.out.mono ?_
   rintro e w24 ⟨B24, k24, rfl, T24, hs24, _, _⟩
   have HW : Hid (Below w.heap.size w w24) := Lib.hid (by
    obtain ⟨D, P, A, h1, _⟩ := hs24.ex
    exact h1.bel)
   clear hs24
   go_wp2_with fail
   refine (Take_un (p := none) (w := w24) (.inl rfl)).mono ?_
   rintro e w25 ⟨rfl, rfl⟩
   go_wp2_with fail
   refine (Format_un w24).mono ?_
   rintro e w26 ⟨rfl, hb26⟩
   have HW26 := Lib.hid (gr_trans HW.out hb26)
   clear hb26
   go_wp2_with fail
   refine (awake11_any w26).mono ?_
   rintro e w27 ⟨rfl, hb27⟩
   have HW27 := Lib.hid (gr_trans HW26.out hb27)
   clear hb27
   go_wp2_with fail
   go_ret
   exact ⟨rfl, HW27.out⟩
end Go.Proofs.Ytnkeclpgpiogoaa
