/-
  The walk of PoolNumbers.
-/
import Derived.Test.YtmdgnjmhbjdlmaaPkA9
namespace Go.Proofs.Ytmdgnjmhbjdlmaa
open Go Go.RowKit Go.Maps

/-- The pools that may not be. -/
def shapesA : Array Value := #[.int .i64 0, .int .i64 (-1), .int .i64 8, .int .i64 2, .int .i64 1, .int .i64 0, .int .i64 0, .int .i64 3, .int .i64 8, .int .i64 2, .int .i64 1, .int .i64 0, .int .i64 0, .int .i64 2, .int .i64 0, .int .i64 2, .int .i64 1, .int .i64 0, .int .i64 0, .int .i64 2, .int .i64 8, .int .i64 1, .int .i64 1, .int .i64 0, .int .i64 0, .int .i64 2, .int .i64 8, .int .i64 257, .int .i64 1, .int .i64 0, .int .i64 0, .int .i64 2, .int .i64 8, .int .i64 2, .int .i64 0, .int .i64 0, .int .i64 0, .int .i64 2, .int .i64 8, .int .i64 2, .int .i64 1, .int .i64 (-1), .int .i64 0, .int .i64 2, .int .i64 8, .int .i64 2, .int .i64 4294967296, .int .i64 0, .int .i64 0, .int .i64 2, .int .i64 8, .int .i64 2, .int .i64 1, .int .i64 4294967296, .int .i64 0, .int .i64 9223372036854775807, .int .i64 8, .int .i64 2, .int .i64 1, .int .i64 0, .int .i64 0, .int .i64 0, .int .i64 9223372036854775807, .int .i64 2, .int .i64 1, .int .i64 0]
theorem shapes_at {w : World} {g : Nat} (h : w.heap[g]? = some (.cells shapesA 52 (0, 0))) (k : Nat) (hk : k < 11) : ∃ a b c d e : Int, w.cell? ⟨g, k * 6, none⟩ = some (.int .i64 0) ∧ w.cell? ⟨g, k * 6 + 1, none⟩ = some (.int .i64 a) ∧ w.cell? ⟨g, k * 6 + 2, none⟩ = some (.int .i64 b) ∧ w.cell? ⟨g, k * 6 + 3, none⟩ = some (.int .i64 c) ∧ w.cell? ⟨g, k * 6 + 4, none⟩ = some (.int .i64 d) ∧ w.cell? ⟨g, k * 6 + 5, none⟩ = some (.int .i64 e) ∧ mayP 10 a b c d e = false := by
  have hc : ∀ i, w.cell? ⟨g, i, none⟩ = shapesA[i]? := fun i => by
    simp only [World.cell?, h]
    rfl
  simp only [hc]
  clear hc h
  rcases (by omega : k = 0 ∨ k = 1 ∨ k = 2 ∨ k = 3 ∨ k = 4 ∨ k = 5 ∨ k = 6 ∨ k = 7 ∨ k = 8 ∨ k = 9 ∨ k = 10) with h | h | h | h | h | h | h | h | h | h | h <;> subst h <;> exact ⟨_, _, _, _, _, rfl, rfl, rfl, rfl, rfl, rfl, by decide⟩
theorem shape_box {w : World} {g : Nat} {a b c d e : Int} (h : w.heap[g]? = some (.cells #[.int .i64 0, .int .i64 a, .int .i64 b, .int .i64 c, .int .i64 d, .int .i64 e] 52 (0, 0))) : w.cell? ⟨g, 1, none⟩ = some (.int .i64 a) ∧ w.cell? ⟨g, 2, none⟩ = some (.int .i64 b) ∧ w.cell? ⟨g, 3, none⟩ = some (.int .i64 c) ∧ w.cell? ⟨g, 4, none⟩ = some (.int .i64 d) ∧ w.cell? ⟨g, 5, none⟩ = some (.int .i64 e) := by
  simp only [World.cell?, h]
  exact ⟨rfl, rfl, rfl, rfl, rfl⟩
theorem no1 (l : List UInt8) : setR none (newD 10) (newP 2 8 2 1 0) 8 l 1 = (newD 10, newP 2 8 2 1 0, 2) := rfl
theorem no2 {l : List UInt8} (h : l.length = 4079) : setR none (newD 10) (newP 2 8 2 1 0) 0 l 1 = (newD 10, newP 2 8 2 1 0, 2) := by
  unfold setR setE
  rw [h]
  rfl
theorem no3 {l : List UInt8} (h : l.length = 4080) : setR none (newD 10) (newP 2 8 2 1 0) 0 l (-1) = (newD 10, newP 2 8 2 1 0, 2) := by
  unfold setR setE
  rw [h]
  rfl
theorem no4 : getR none (newD 10) (newP 2 8 2 1 0) 8 = (newD 10, newP 2 8 2 1 0, 2) ∧ getL none (newD 10) (newP 2 8 2 1 0) 8 = [] := ⟨rfl, rfl⟩
theorem no5 : getR none (newD 10) (newP 2 8 2 1 0) (-1) = (newD 10, newP 2 8 2 1 0, 2) ∧ getL none (newD 10) (newP 2 8 2 1 0) (-1) = [] := ⟨rfl, rfl⟩

set_option maxRecDepth 100000 in
set_option maxHeartbeats 16000000 in
theorem PoolNumbers_any (w : World) : Calls Try.prog 5 #[] w fun e w' => e = .returned (.bool true) ∧ Below w.heap.size w w' := by
  have HSM := Lib.hid (small_any w w (gr_refl w))
  obtain ⟨m1, hm1⟩ : ∃ m, m = madeL 1 4080 := ⟨_, rfl⟩
  obtain ⟨m2, hm2⟩ : ∃ m, m = madeL 2 4080 := ⟨_, rfl⟩
  have LM1 : Hid (m1.length = 4080) := Lib.hid (by rw [hm1]; exact madeL_len _ _)
  have LM2 : Hid (m2.length = 4080) := Lib.hid (by rw [hm2]; exact madeL_len _ _)
  have HPAY1 := Lib.hid (fun W => payload_any 1 W)
  have HPAY2 := Lib.hid (fun W => payload_any 2 W)
  rw [← hm1] at HPAY1
  rw [← hm2] at HPAY2
  clear hm1 hm2
  have hl : (newD 10).blocks.length = 10 := List.length_replicate ..
  go_enter Try.func5, Try.ntmps5
  go_wp2_with fail
  refine HSM.out.mono ?_
  rintro e w1 ⟨gd, gp, S, rfl, hj, _, _⟩
  have HJ := Lib.hid hj
  have HPG : Hid (Calls Try.prog 25 #[.pointer (some ⟨gp, 0, none⟩)] w1 fun e w' => e = .returned (.int .i64 8) ∧ w1 = w') := Lib.hid (Pages_pj hj)
  clear hj HSM
  go_wp2_with fail
  refine HPG.out.mono ?_
  rintro e w2 ⟨rfl, rfl⟩
  clear HPG
  have hb0 := gr_alloc (gr_refl w1) (.cells shapesA 52)
  have hx0 := heap_alloc_new w1 (.cells shapesA 52)
  obtain ⟨w0, hw0⟩ : ∃ w0, w0 = w1.alloc (.cells shapesA 52) := ⟨_, rfl⟩
  rw [← hw0] at hb0 hx0
  have HJ0 := Lib.hid (HJ.out.below hb0)
  have HX0 := Lib.hid hx0
  unfold shapesA at hw0
  clear hb0 hx0 HJ
  go_wp2_with fail
  rw [← hw0]
  clear hw0
  generalize w1.heap.size = gr at *
  go_loopw [57] (fun i wr => ∃ k : Nat, k ≤ 11 ∧ i = .int .i64 (k : Int) ∧ Hid (wr.heap[gr]? = some (.cells shapesA 52 (0, 0))) ∧ Hid (PJ w wr gd gp .nilFunc none (newD 10) (newP 2 8 2 1 0) S)) (fun i _ => 11 - (RowKit.intOf i).toNat)
  case atStart => exact ⟨0, by omega, rfl, HX0, HJ0⟩
  case round =>
    clear HX0 HJ0
    obtain ⟨k, hk, rfl, HX, HJ⟩ := hrel
    by_cases hlt : k < 11
    · have t2 : decide ((k : Int) < 11) = true := decide_eq_true (by omega)
      obtain ⟨a, b, c, d, e, c0, c1, c2, c3, c4, c5, hm⟩ := shapes_at HX.out k hlt
      have HK := Lib.hid hlt
      clear hk
      have hbx := gr_alloc (gr_refl wr) (.cells #[.int .i64 0, .int .i64 a, .int .i64 b, .int .i64 c, .int .i64 d, .int .i64 e] 52)
      have hxx := heap_alloc_new wr (.cells #[.int .i64 0, .int .i64 a, .int .i64 b, .int .i64 c, .int .i64 d, .int .i64 e] 52)
      have HN := Lib.hid (PNew_bad_pj (HJ.out.below hbx) a b c d e .nilFunc (by rw [hl]; exact hm))
      have HBX := Lib.hid hbx
      obtain ⟨d1, d2, d3, d4, d5⟩ := shape_box hxx
      clear hbx hxx hm
      go_wp2_with fail
      refine HN.out.mono ?_
      rintro e w2 ⟨rfl, rfl⟩
      clear HN c0 c1 c2 c3 c4 c5 d1 d2 d3 d4 d5
      have hnn := eqP_nn
      go_wp2_with fail
      have hkb := HK.out
      go_roundw
      case rel => exact ⟨k + 1, HK.out, by go_num, Lib.hid ((HBX.out.block _ (Array.getElem?_eq_some_iff.1 HX.out).1).trans HX.out), Lib.hid (HJ.out.below HBX.out)⟩
      case measure => simp [RowKit.intOf]; have := HK.out; omega
    · obtain rfl : k = 11 := by omega
      have t1 : decide (((11 : Nat) : Int) < 11) = false := by decide
      clear hlt HX hk
      go_wp2_with fail
      refine (PNew_nil wr none (Blocks_un none wr (.inl rfl)) 0 1 2 1 0 .nilFunc).mono ?_
      rintro e w2 ⟨rfl, rfl⟩
      have HC := Lib.hid (Get_pj HJ.out 8 (Nat.le_of_ble_eq_true rfl) (Nat.le_of_ble_eq_true rfl))
      rw [no4.1, no4.2] at HC
      dsimp only at HC
      clear HJ
      go_wp2_with fail
      refine HC.out.mono ?_
      rintro e w3 ⟨v3, S3, rfl, _, hj, _, _⟩
      clear HC
      have HC := Lib.hid (Get_pj hj (-1) (Nat.le_of_ble_eq_true rfl) (Nat.le_of_ble_eq_true rfl))
      rw [no5.1, no5.2] at HC
      dsimp only at HC
      clear hj
      go_wp2_with fail
      refine HC.out.mono ?_
      rintro e w4 ⟨v4, S4, rfl, _, hj, _, _⟩
      have HJ := Lib.hid hj
      clear HC hj
      go_wp2_with fail
      refine (HPAY1.out w4).mono ?_
      rintro e w5 ⟨rfl, hB, hb⟩
      have HC := Lib.hid (Set_pj (HJ.out.below hb) 8 1 (some ⟨w4.heap.size, 0, none⟩) 4080 4080 m1 (bb_br hB LM1.out) (by decide) (Nat.le_of_ble_eq_true rfl) (Nat.le_of_ble_eq_true rfl))
      rw [no1] at HC
      dsimp only at HC
      clear HJ hB hb
      go_wp2_with fail
      refine HC.out.mono ?_
      rintro e w6 ⟨S6, rfl, hj, _⟩
      have HJ := Lib.hid hj
      clear HC hj
      go_wp2_with fail
      refine (HPAY1.out w6).mono ?_
      rintro e w7 ⟨rfl, hB, hb⟩
      obtain ⟨i0, hi0, hz0, hz1, hz2⟩ := info_parts info_u8
      have hcut := fun W => run_cut_l (P := Try.prog) W 26 5 i0 Try.underlying26 hi0 1 hz1 (some ⟨w6.heap.size, 0, none⟩) 4080 4080 1 1 rfl (by omega)
      have hca : cutA (some ⟨w6.heap.size, 0, none⟩) 4080 1 1 = some ⟨w6.heap.size, 1, none⟩ := by
        unfold cutA
        rw [if_neg (by omega)]
        simp [add_plain]
      have hbc := (bb_br hB LM1.out).cut (k := 1) (j := 4080) (c := 4080) (by omega) (by omega) (by omega)
      rw [hca] at hcut hbc
      have HC := Lib.hid (fun c => Set_pj (HJ.out.below hb) 0 1 (some ⟨w6.heap.size, 1, none⟩) 4079 c ((m1.drop 1).take (4080 - 1)) hbc (by decide) (Nat.le_of_ble_eq_true rfl) (Nat.le_of_ble_eq_true rfl))
      rw [no2 (by rw [List.length_take, List.length_drop, LM1.out]; rfl)] at HC
      dsimp only at HC
      clear HJ hB hb hbc hca hi0 hz0 hz1 hz2
      go_wp2_with fail
      refine (HC.out _).mono ?_
      rintro e w8 ⟨S8, rfl, hj, _⟩
      have HJ := Lib.hid hj
      clear HC hj hcut
      go_wp2_with fail
      refine (HPAY1.out w8).mono ?_
      rintro e w9 ⟨rfl, hB, hb⟩
      have HC := Lib.hid (Set_pj (HJ.out.below hb) 0 (-1) (some ⟨w8.heap.size, 0, none⟩) 4080 4080 m1 (bb_br hB LM1.out) (by decide) (Nat.le_of_ble_eq_true rfl) (Nat.le_of_ble_eq_true rfl))
      rw [no3 LM1.out] at HC
      dsimp only at HC
      clear HJ hB hb
      go_wp2_with fail
      refine HC.out.mono ?_
      rintro e w10 ⟨S10, rfl, hj, _⟩
      have HJ := Lib.hid hj
      clear HC hj
      go_wp2_with fail
      refine (Held_pj HJ.out).mono ?_
      intro e w11 hn
      obtain ⟨A11, c11, rfl, _, hb11⟩ := hn.ir
      rw [show (heldL (newP 2 8 2 1 0)).length = 0 from rfl]
      obtain ⟨O, hnew, hback⟩ := (HJ.out.below hb11).rest rfl
      have HC := Lib.hid (hnew 2 8 2 1 7 (.func (.func 26) #[] #[]) (some (-1)) (.inr ⟨_, _, rfl⟩) (by rw [hl]; decide) (fun S' => ref_lv _ S'))
      have HBACK := Lib.hid hback
      clear HJ hn hb11 hnew hback
      go_wp2_with fail
      refine HC.out.mono ?_
      rintro e w12 ⟨gq, S, rfl, hj, hk⟩
      have HJ := Lib.hid hj
      have HKP := Lib.hid hk
      clear HC hj hk
      go_wp2_with fail
      refine (HPAY1.out w12).mono ?_
      rintro e w13 ⟨rfl, hB, hb⟩
      have HKP2 := Lib.hid (HKP.out.below hb)
      have HC := Lib.hid (Set_pj (HJ.out.below hb) 0 0 (some ⟨w12.heap.size, 0, none⟩) 4080 4080 m1 (bb_br hB LM1.out) (by decide) (Nat.le_of_ble_eq_true rfl) (Nat.le_of_ble_eq_true rfl))
      rw [nq1 LM1.out] at HC
      dsimp only at HC
      clear HJ HKP hB hb
      go_wp2_with fail
      refine HC.out.mono ?_
      rintro e w14 ⟨Sw14, rfl, hj, hmv⟩
      have HJ := Lib.hid hj
      have HKP := Lib.hid (HKP2.out.mv hmv)
      clear hj hmv HC HKP2
      go_wp2_with fail
      refine (HPAY2.out w14).mono ?_
      rintro e w15 ⟨rfl, hB, hb⟩
      have HKP2 := Lib.hid (HKP.out.below hb)
      have HC := Lib.hid (Set_pj (HJ.out.below hb) 1 5 (some ⟨w14.heap.size, 0, none⟩) 4080 4080 m2 (bb_br hB LM2.out) (by decide) (Nat.le_of_ble_eq_true rfl) (Nat.le_of_ble_eq_true rfl))
      rw [nq2 LM2.out] at HC
      dsimp only at HC
      clear HJ HKP hB hb
      go_wp2_with fail
      refine HC.out.mono ?_
      rintro e w16 ⟨Sw16, rfl, hj, hmv⟩
      have HJ := Lib.hid hj
      have HKP := Lib.hid (HKP2.out.mv hmv)
      clear hj hmv HC HKP2
      have HC := Lib.hid (Get_pj HJ.out 2 (Nat.le_of_ble_eq_true rfl) (Nat.le_of_ble_eq_true rfl))
      rw [nq3.1, nq3.2] at HC
      dsimp only at HC
      clear HJ
      go_wp2_with fail
      refine HC.out.mono ?_
      rintro e w17 ⟨v17, S17, rfl, _, hj, hmv, _⟩
      have HKP2 := Lib.hid (HKP.out.mv hmv)
      clear HC HKP hmv
      have HC := Lib.hid (Flush_pj hj (Nat.le_of_ble_eq_true rfl) (Nat.le_of_ble_eq_true rfl))
      rw [nq4] at HC
      dsimp only at HC
      clear hj
      go_wp2_with fail
      refine HC.out.mono ?_
      rintro e w18 ⟨S18, rfl, hj, hmv⟩
      have HKP := Lib.hid (HKP2.out.mv hmv)
      clear HC HKP2 hmv
      have HC := Lib.hid (Get_pj hj 0 (Nat.le_of_ble_eq_true rfl) (Nat.le_of_ble_eq_true rfl))
      rw [nq5.1, nq5.2] at HC
      dsimp only at HC
      clear hj
      go_wp2_with fail
      refine HC.out.mono ?_
      rintro e w19 ⟨v19, S19, rfl, ob, hj, hmv, _⟩
      have HKP2 := Lib.hid (HKP.out.mv hmv)
      obtain ⟨q19, c19, rfl, _⟩ := ob.at0 LM1.out (by omega)
      have HOB := Lib.hid ob
      have HJ := Lib.hid hj
      clear HC HKP hmv ob hj
      go_wp2_with fail
      refine (HPAY1.out w19).mono ?_
      rintro e w20 ⟨rfl, hB, hb⟩
      have HSB := Lib.hid (fun c d => SameBytes_any (some ⟨q19, 0, none⟩) (some ⟨w19.heap.size, 0, none⟩) 4080 4080 c d m1 m1 w20 ((HOB.out.below hb).br0 LM1.out) (bb_br hB LM1.out))
      rw [beq_self_eq_true] at HSB
      have HJ2 := Lib.hid (HJ.out.below hb)
      have HKP := Lib.hid (HKP2.out.below hb)
      have HCN : Hid (Calls Try.prog 27 #[.pointer (some ⟨gq, 0, none⟩)] w20 fun e w' => e = .returned (.int .i64 7) ∧ w20 = w') := Lib.hid (Count_pj HJ2.out)
      clear HJ HKP2 hB hb HOB
      go_wp2_with fail
      refine (HSB.out _ _).mono ?_
      rintro e w21 ⟨rfl, rfl⟩
      go_wp2_with fail
      refine HCN.out.mono ?_
      rintro e w21 ⟨rfl, rfl⟩
      go_wp2_with fail
      refine (Dirty_pj HJ2.out).mono ?_
      intro e w22 hn
      obtain ⟨A22, c22, rfl, hi22, hb22⟩ := hn.ir
      rw [nq6] at hi22
      have hl2 : (dirtyL (qP4 m1 m2)).length = 2 := by rw [nq6]; rfl
      rw [hl2]
      have hbn := gr_alloc (gr_refl w22) (.cells #[.int .i64 0, .int .i64 1] 3)
      have HSI := Lib.hid (fun c d => SameInts_any A22 (some ⟨w22.heap.size, 0, none⟩) 2 2 c d [0, 1] [0, 1] (w22.alloc (.cells #[.int .i64 0, .int .i64 1] 3)) (IR.below hi22 hbn) (IR.litAt _ _ [0, 1] _ _ 2 rfl rfl rfl) (by omega) (by omega))
      have HB22 := Lib.hid (gr_trans hb22 hbn)
      clear hn hi22 hb22 hbn HSB HCN
      go_wp2_with fail
      refine (HSI.out _ _).mono ?_
      rintro e w23 ⟨rfl, hb23⟩
      have HB23 := Lib.hid (gr_trans HB22.out hb23)
      have HJ3 := Lib.hid (HJ2.out.below HB23.out)
      have HKP2 := Lib.hid (HKP.out.below HB23.out)
      have HC := Lib.hid (PNew_on HJ3.out 2 8 3 1 0 (by rw [hl]; decide))
      clear hb23 HB22 HB23 HSI HJ2 HKP
      go_wp2_with fail
      refine HC.out.mono ?_
      rintro e w24 ⟨gt, S24, rfl, hj, hmv⟩
      have HJ := Lib.hid hj
      have HKP := Lib.hid (HKP2.out.mv hmv)
      have hb25 := gr_alloc (gr_refl w24) (.cells #[.int .i64 0, .int .i64 1, .int .i64 2, .int .i64 3, .int .i64 1, .int .i64 4] 3)
      have hx25 := heap_alloc_new w24 (.cells #[.int .i64 0, .int .i64 1, .int .i64 2, .int .i64 3, .int .i64 1, .int .i64 4] 3)
      have HJ25 := Lib.hid (HJ.out.below hb25)
      have HKP25 := Lib.hid (HKP.out.below hb25)
      have HX25 : Hid (∀ k : Nat, k < 6 → (w24.alloc (.cells #[.int .i64 0, .int .i64 1, .int .i64 2, .int .i64 3, .int .i64 1, .int .i64 4] 3)).heap[w24.heap.size]? = some (.cells #[.int .i64 0, .int .i64 1, .int .i64 2, .int .i64 3, .int .i64 1, .int .i64 4] 3 (0, 0)) ∧ ¬ S24 w24.heap.size) := Lib.hid (fun k _ => ⟨hx25, fun e => by have := HJ.out.lt e; omega⟩)
      obtain ⟨w25, hw25⟩ : ∃ w25, w25 = w24.alloc (.cells #[.int .i64 0, .int .i64 1, .int .i64 2, .int .i64 3, .int .i64 1, .int .i64 4] 3) := ⟨_, rfl⟩
      rw [← hw25] at HJ25 HKP25 HX25
      clear hj hmv HJ HKP HKP2 HC HJ3 hb25 hx25
      go_wp2_with fail
      rw [← hw25]
      clear hw25
      generalize w24.heap.size = gk at *
      go_loopw [194] (fun i wr => ∃ (k : Nat) (S : Nat → Prop), k ≤ 6 ∧ i = .int .i64 (k : Int) ∧ Hid (wr.heap[gk]? = some (.cells #[.int .i64 0, .int .i64 1, .int .i64 2, .int .i64 3, .int .i64 1, .int .i64 4] 3 (0, 0)) ∧ ¬ S gk) ∧ Hid (PJ w wr gd gt .nilFunc none (newD 10) (tF k) S) ∧ Hid (Kp O w11 wr S)) (fun i _ => 6 - (RowKit.intOf i).toNat)
      case atStart => exact ⟨0, S24, by omega, rfl, Lib.hid (HX25.out 0 (by omega)), HJ25, HKP25⟩
      case round =>
        clear HX25 HJ25 HKP25
        obtain ⟨k, S, hk, rfl, HX, HJ, HKP⟩ := hrel
        by_cases hlt : k < 6
        · have t2 : decide ((k : Int) < 6) = true := decide_eq_true (by omega)
          have c0 : wr.cell? ⟨gk, k, none⟩ = some (.int .i64 (tK k)) := by
            rw [cell_of_row wr gk k _ _ _ HX.out.1]
            obtain rfl | rfl | rfl | rfl | rfl | rfl : k = 0 ∨ k = 1 ∨ k = 2 ∨ k = 3 ∨ k = 4 ∨ k = 5 := by omega
            all_goals rfl
          have k1 : (0 : Int) ≤ (k : Int) := Int.natCast_nonneg _
          have k2 : (k : Int) < 6 := by omega
          obtain ⟨er, hr⟩ := t_step k hlt
          have HC := Lib.hid (Get_pj HJ.out (tK k) (Nat.le_of_ble_eq_true rfl) (t_cnt k))
          rw [hr] at HC
          dsimp only at HC
          generalize tK k = tk at *
          have HK := Lib.hid hlt
          clear hr hk HJ hlt
          go_wp2_with fail
          refine HC.out.mono ?_
          rintro e w26 ⟨v26, S26, rfl, _, hj, hmv, _⟩
          have HJ2 := Lib.hid hj
          have HKP2 := Lib.hid (HKP.out.mv hmv)
          have HX2 : Hid (w26.heap[gk]? = some (.cells #[.int .i64 0, .int .i64 1, .int .i64 2, .int .i64 3, .int .i64 1, .int .i64 4] 3 (0, 0)) ∧ ¬ S26 gk) := Lib.hid ⟨(hmv.1.block gk (Array.getElem?_eq_some_iff.1 HX.out.1).1 HX.out.2).trans HX.out.1, fun e => by
            rcases hmv.2 gk e with e | e
            · exact HX.out.2 e
            · have := (Array.getElem?_eq_some_iff.1 HX.out.1).1
              omega⟩
          have hkb := HK.out
          clear hj hmv HC HX HKP c0
          go_wp2_with fail
          go_roundw
          case rel => exact ⟨k + 1, S26, HK.out, by go_num, HX2, HJ2, HKP2⟩
          case measure => simp [RowKit.intOf]; have := HK.out; omega
        · have hk6 : k = 6 := by omega
          subst hk6
          have t1 : decide (((6 : Nat) : Int) < 6) = false := by decide
          clear hlt HX hk
          go_wp2_with fail
          refine (Held_pj HJ.out).mono ?_
          intro e w26 hn
          obtain ⟨A26, c26, rfl, hi26, hb26⟩ := hn.ir
          rw [t_held] at hi26
          have hl3 : (heldL (tF 6)).length = 3 := by rw [t_held]; rfl
          rw [hl3]
          have hbn := gr_alloc (gr_refl w26) (.cells #[.int .i64 1, .int .i64 3, .int .i64 4] 3)
          have HSI := Lib.hid (fun c d => SameInts_any A26 (some ⟨w26.heap.size, 0, none⟩) 3 3 c d [1, 3, 4] [1, 3, 4] (w26.alloc (.cells #[.int .i64 1, .int .i64 3, .int .i64 4] 3)) (IR.below hi26 hbn) (IR.litAt _ _ [1, 3, 4] _ _ 3 rfl rfl rfl) (by omega) (by omega))
          have HB26 := Lib.hid (gr_trans hb26 hbn)
          clear hn hi26 hb26 hbn
          go_wp2_with fail
          refine (HSI.out _ _).mono ?_
          rintro e w27 ⟨rfl, hb27⟩
          have HB27 := Lib.hid (gr_trans HB26.out hb27)
          have HJ2 := Lib.hid (HJ.out.below HB27.out)
          have HKP2 := Lib.hid (HKP.out.below HB27.out)
          clear hb27 HB26 HB27 HSI HJ HKP
          go_wp2_with fail
          refine (Made_any 3 4096 w27 (by omega)).mono ?_
          rintro e w28 ⟨rfl, hB, hb⟩
          have HKP := Lib.hid (HKP2.out.below hb)
          have HC := Lib.hid (Write_pj (HJ2.out.below hb) 2 (some ⟨w27.heap.size, 0, none⟩) 4096 4096 (madeL 3 4096) (bb_br hB (madeL_len _ _)) (fun ad e hs => by cases e; have := HJ2.out.lt hs; dsimp only at this; omega) (by omega) (Nat.le_of_ble_eq_true rfl))
          have hnw := nD_w
          rw [hnw.1, hnw.2] at HC
          clear HJ2 HKP2 hB hb hnw
          go_wp2_with fail
          refine HC.out.mono ?_
          rintro e w29 ⟨S29, rfl, hj, hmv⟩
          obtain ⟨S30, hj30⟩ := HBACK.out _ _ _ _ _ _ _ hj (HKP.out.mv hmv) rfl
          clear HC
          have HC := Lib.hid (Get_pj hj30 0 (Nat.le_of_ble_eq_true rfl) (Nat.le_of_ble_eq_true rfl))
          rw [nD_get.1, nD_get.2] at HC
          dsimp only at HC
          clear hj hmv hj30 HKP
          go_wp2_with fail
          refine HC.out.mono ?_
          rintro e w31 ⟨v31, S31, rfl, _, hj, _, _⟩
          have HB := Lib.hid hj.bel
          clear HC hj
          go_wp2_with fail
          refine (awake09_any _).mono ?_
          rintro e w32 ⟨rfl, hb32⟩
          go_wp2
          go_ret
          exact ⟨rfl, HB.out.trans (hb32.mono HB.out.size)⟩

end Go.Proofs.Ytmdgnjmhbjdlmaa
