/-
  The walk of AtomNumbers.
-/
import Derived.Test.YtnkeclpgpiogoaaGreatPkE10
namespace Go.Proofs.YtnkeclpgpiogoaaGreat
open Go Go.RowKit Go.Maps
set_option maxRecDepth 100000 in
theorem br_nil (w : World) : BR w none 0 [] := ⟨rfl, fun h => absurd h (by omega)⟩
set_option maxRecDepth 100000 in
theorem appJ_la (J : JnS) (r : Rec) : (appJ J r).la ≤ J.la + 1 := by
 unfold appJ
 split
 ·exact Nat.le_refl _
 ·exact Nat.le_succ _
set_option maxRecDepth 100000 in
theorem Dark.of2 {gj gb : Nat} {r : Rec} (ha : appE (made10E gj gb).j r = 0) : Dark { (made10E gj gb).app r with d := armD ((made10E gj gb).app r).d 0 } := by
 have e : ({ (made10E gj gb).app r with d := armD ((made10E gj gb).app r).d 0 } : EnS) = ⟨armD (newD 140) 0, appJ (newJ 0 120 1 0 1) r, gj, gb, true⟩ := rfl
 rw [e]
 exact Dark.of ha
set_option maxRecDepth 100000 in
set_option maxHeartbeats 4000000 in
theorem AtomNumbers_any (w : World) : Calls Tryz.prog 9 #[] w fun e w' => e = .returned (.bool true) ∧ Below w.heap.size w w' := by
 have HPAY : Hid (∀ (s : Int) (W : World), Calls Tryz.prog 27 #[.int .i64 s, .slice none 0 0] W fun e w' => e = .returned (.slice (some ⟨W.heap.size, 0, none⟩) 4080 4080) ∧ OB w' W.heap.size (.slice (some ⟨W.heap.size, 0, none⟩) 4080 4080) (payT s []) ∧ Below W.heap.size W w') := Lib.hid (fun s W => payload10_any s none 0 0 [] W (IR.none_ _ _) (by omega))
 obtain ⟨i0, hi0, hz0, hz1, hz2⟩ := info_parts info_u8
 go_enter Tryz.func9, Tryz.ntmps9
 have HM := Lib.hid (made10_any 4 w w (gr_refl w) (by omega) (by omega))
 go_wp2_with fail
 refine HM.out.mono ?_
 rintro e w1 ⟨z, gj, gb, T, rfl, haz, hb1⟩
 have hba := gr_alloc (gr_refl w1) (.cells #[.pointer (some ⟨z.gd, 0, none⟩), .pointer (some ⟨gj, 0, none⟩), .pointer (some ⟨z.gp, 0, none⟩), .pointer (some ⟨z.ga, 0, none⟩)] 53)
 have HA : Hid (NA w (w1.alloc (.cells #[.pointer (some ⟨z.gd, 0, none⟩), .pointer (some ⟨gj, 0, none⟩), .pointer (some ⟨z.gp, 0, none⟩), .pointer (some ⟨z.ga, 0, none⟩)] 53)) z (made10E gj gb) (newP 120 20 4 1 0) newA T w1.heap.size gj) := Lib.hid ⟨haz.below hba, ⟨heap_alloc_new _ _, fun e => by have := (haz.lt e).2; omega⟩, rfl⟩
 clear haz hb1 hba HM
 unfold yV
 go_wp2_with fail
 generalize w1.alloc (.cells #[.pointer (some ⟨z.gd, 0, none⟩), .pointer (some ⟨gj, 0, none⟩), .pointer (some ⟨z.gp, 0, none⟩), .pointer (some ⟨z.ga, 0, none⟩)] 53) = wa at *
 generalize w1.heap.size = g0 at *
 have HB := Lib.hid (HA.out.begin)
 have y3 := HA.out.yk.yb.c3
 go_wp2_with fail
 refine HB.out.mono ?_
 rintro e v2 ⟨gxx, Ux, rfl, ha, hx, hb, hu⟩
 have HA2 := Lib.hid ha
 have HX := Lib.hid hx
 clear ha hx hb hu HA HB y3
 have HA := HA2
 clear HA2
 have HI0 : Hid (∃ T2, NA w v2 z (made10E gj gb) (newP 120 20 4 1 0) newA T2 g0 gj ∧ NX w v2 z gxx ⟨stP 0 0, false⟩ T2 Ux g0) := Lib.hid ⟨_, HA.out, HX.out⟩
 clear HA HX
 go_wp2_with fail
 go_loopw [4] (fun v wt => ∃ k : Nat, k ≤ 16 ∧ v = .int .i64 ((0 + k : Nat) : Int) ∧ Hid (∃ T2, NA w wt z (made10E gj gb) (newP 120 20 4 1 0) newA T2 g0 gj ∧ NX w wt z gxx ⟨stP 0 k, false⟩ T2 Ux g0)) (fun v _ => 16 - (Go.RowKit.intOf v).toNat)
 case atStart => exact ⟨0, Nat.zero_le _, rfl, HI0⟩
 case round =>
  clear HI0
  obtain ⟨k, hk, rfl, HI⟩ := hrel
  by_cases hlt : k < 16
  ·have t1 : decide (((0 + k : Nat) : Int) < 16) = true := decide_eq_true (by omega)
   have t2 : decide (0 + k < 16) = true := decide_eq_true (by omega)
   obtain ⟨j, hj⟩ : ∃ j, j = 0 + k := ⟨_, rfl⟩
   have HJ := Lib.hid hj
   rw [← hj] at t1 t2
   rw [← hj]
   have j0 : (0 : Int) ≤ (j : Int) := Int.natCast_nonneg _
   have j1 : (j : Int) < 16 := by omega
   clear hj hlt hk
   go_wp2_with fail
   refine (HPAY.out (j : Int) wr).mono ?_
   rintro e wp ⟨rfl, hob, hb⟩
   obtain ⟨T2, ha, hx⟩ := HI.out
   have HS := Lib.hid ((ha.below hb).set (hx.below hb) (j : Int) _ 4080 4080 (payT (j : Int) []) (ob_br hob (payT_len _ _)) (by omega) (by omega) (by show (stP 0 k).length ≤ 16; rw [stP_len]; have := HJ.out; omega) (r := 0) (X' := ⟨stP 0 (k + 1), false⟩) (by have := HJ.out; subst this; exact (aset_end rfl rfl (by omega) (by omega)).1) (by have := HJ.out; subst this; exact (aset_end rfl rfl (by omega) (by omega)).2))
   clear hob hb ha hx HI
   go_wp2_with fail
   refine HS.out.mono ?_
   rintro e ws ⟨rfl, ha, hx, ho⟩
   have HI : Hid (∃ T2, NA w ws z (made10E gj gb) (newP 120 20 4 1 0) newA T2 g0 gj ∧ NX w ws z gxx ⟨stP 0 (k + 1), false⟩ T2 Ux g0) := Lib.hid ⟨_, ha, hx⟩
   clear ha hx ho HS
   go_wp2_with fail
   go_roundw
   all_goals have hjj := HJ.out
   case rel => exact ⟨k + 1, by omega, by go_num, HI⟩
   case measure => simp [Go.RowKit.intOf]; omega
  ·obtain rfl : k = 16 := by omega
   obtain ⟨T2, ha, hx⟩ := HI.out
   have HA := Lib.hid ha
   have HX := Lib.hid hx
   clear ha hx HI
   rw [show ((0 + 16 : Nat) : Int) = 16 from rfl]
   go_wp2_with fail
   refine (HPAY.out 1 wr).mono ?_
   rintro e v3 ⟨rfl, hob, hb⟩
   have HL2 := Lib.hid (HA.out.below hb)
   clear HA
   have HA := HL2
   clear HL2
   have HL2 := Lib.hid (HX.out.below hb)
   clear HX
   have HX := HL2
   clear HL2
   clear hb
   have HS := Lib.hid (HA.out.set HX.out 16 _ 4080 4080 (payT 1 []) (ob_br hob (payT_len _ _)) (by omega) (by omega) (by show (stP 0 16).length ≤ 16; rw [stP_len]; omega) (r := 3) (X' := ⟨stP 0 16, false⟩) (by rw [payT_len]; exact aset_full rfl (by omega) (by show (16 : Int) < 20; omega) (stP_none (by omega)) (by show 16 ≤ (stP 0 16).length; rw [stP_len]; omega)) (aset_bad (e := 3) (by decide) (by rw [payT_len]; exact aset_full rfl (by omega) (by show (16 : Int) < 20; omega) (stP_none (by omega)) (by show 16 ≤ (stP 0 16).length; rw [stP_len]; omega))))
   clear hob
   go_wp2_with fail
   refine HS.out.mono ?_
   rintro e v4 ⟨rfl, ha, hx, ho⟩
   have HA2 := Lib.hid ha
   have HX2 := Lib.hid hx
   clear ha hx ho HA HX HS
   have HA := HA2
   have HX := HX2
   clear HA2 HX2
   go_wp2_with fail
   refine (HPAY.out 9 v4).mono ?_
   rintro e v5 ⟨rfl, hob, hb⟩
   have HL2 := Lib.hid (HA.out.below hb)
   clear HA
   have HA := HL2
   clear HL2
   have HL2 := Lib.hid (HX.out.below hb)
   clear HX
   have HX := HL2
   clear HL2
   clear hb
   have HS := Lib.hid (HA.out.set HX.out 15 _ 4080 4080 (payT 9 []) (ob_br hob (payT_len _ _)) (by omega) (by omega) (by show (stP 0 16).length ≤ 16; rw [stP_len]; omega) (r := 0) (X' := ⟨stX, false⟩) aset_15.1 aset_15.2)
   clear hob
   go_wp2_with fail
   refine HS.out.mono ?_
   rintro e v6 ⟨rfl, ha, hx, ho⟩
   have HA2 := Lib.hid ha
   have HX2 := Lib.hid hx
   clear ha hx ho HA HX HS
   have HA := HA2
   have HX := HX2
   clear HA2 HX2
   go_wp2_with fail
   refine (HPAY.out 1 v6).mono ?_
   rintro e v7 ⟨rfl, hob, hb⟩
   have HL2 := Lib.hid (HA.out.below hb)
   clear HA
   have HA := HL2
   clear HL2
   have HL2 := Lib.hid (HX.out.below hb)
   clear HX
   have HX := HL2
   clear HL2
   clear hb
   have HS := Lib.hid (HA.out.set HX.out 20 _ 4080 4080 (payT 1 []) (ob_br hob (payT_len _ _)) (by omega) (by omega) (by show stX.length ≤ 16; rw [stX_len]; omega) (r := 2) (X' := ⟨stX, false⟩) (aset_two rfl (.inr (.inl (by show (20 : Int) ≤ 20; omega)))) (aset_bad (e := 2) (by decide) (aset_two rfl (.inr (.inl (by show (20 : Int) ≤ 20; omega))))))
   clear hob
   go_wp2_with fail
   refine HS.out.mono ?_
   rintro e v8 ⟨rfl, ha, hx, ho⟩
   have HA2 := Lib.hid ha
   have HX2 := Lib.hid hx
   clear ha hx ho HA HX HS
   have HA := HA2
   have HX := HX2
   clear HA2 HX2
   go_wp2_with fail
   refine (HPAY.out 1 v8).mono ?_
   rintro e v9 ⟨rfl, hob, hb⟩
   have HL2 := Lib.hid (HA.out.below hb)
   clear HA
   have HA := HL2
   clear HL2
   have HL2 := Lib.hid (HX.out.below hb)
   clear HX
   have HX := HL2
   clear HL2
   clear hb
   have HS := Lib.hid (HA.out.set HX.out (-1) _ 4080 4080 (payT 1 []) (ob_br hob (payT_len _ _)) (by omega) (by omega) (by show stX.length ≤ 16; rw [stX_len]; omega) (r := 2) (X' := ⟨stX, false⟩) (aset_two rfl (.inl (by omega))) (aset_bad (e := 2) (by decide) (aset_two rfl (.inl (by omega)))))
   clear hob
   go_wp2_with fail
   refine HS.out.mono ?_
   rintro e v10 ⟨rfl, ha, hx, ho⟩
   have HA2 := Lib.hid ha
   have HX2 := Lib.hid hx
   clear ha hx ho HA HX HS
   have HA := HA2
   have HX := HX2
   clear HA2 HX2
   go_wp2_with fail
   refine (HPAY.out 1 v10).mono ?_
   rintro e v11 ⟨rfl, hob, hb⟩
   have HL2 := Lib.hid (HA.out.below hb)
   clear HA
   have HA := HL2
   clear HL2
   have HL2 := Lib.hid (HX.out.below hb)
   clear HX
   have HX := HL2
   clear HL2
   clear hb
   have hcut : ∀ W, (Instr.slice 35 (.slice (some ⟨v10.heap.size, 0, none⟩) 4080 4080) (some (.int .i64 1)) none none).run Tryz.prog W = .ok (.slice (cutA (some ⟨v10.heap.size, 0, none⟩) 4080 1 1) 4079 4079) W := fun W => run_cut_l (P := Tryz.prog) W 35 5 i0 Tryz.underlying35 hi0 1 hz1 (some ⟨v10.heap.size, 0, none⟩) 4080 4080 1 1 rfl (by omega)
   have hbr : BR v11 (cutA (some ⟨v10.heap.size, 0, none⟩) 4080 1 1) 4079 (((payT 1 []).drop 1).take 4079) := (ob_br hob (payT_len _ _)).cut (k := 1) (j := 4080) (c := 4080) (by omega) (by omega) (by omega)
   have hle : ((((payT 1 []).drop 1).take 4079).length ≠ 4080) := by rw [hbr.len]; omega
   generalize cutA (some ⟨v10.heap.size, 0, none⟩) 4080 1 1 = Ac at *
   generalize ((payT 1 []).drop 1).take 4079 = lc at *
   have HS := Lib.hid (HA.out.set HX.out 0 Ac 4079 4079 lc hbr (by omega) (by omega) (by show stX.length ≤ 16; rw [stX_len]; omega) (r := 2) (X' := ⟨stX, false⟩) (aset_two rfl (.inr (.inr hle))) (aset_bad (e := 2) (by decide) (aset_two rfl (.inr (.inr hle)))))
   clear hob
   go_wp2_with fail
   refine HS.out.mono ?_
   rintro e v12 ⟨rfl, ha, hx, ho⟩
   have HA2 := Lib.hid ha
   have HX2 := Lib.hid hx
   clear ha hx ho HA HX HS
   have HA := HA2
   have HX := HX2
   clear HA2 HX2
   clear hcut hbr hle
   have HCH : Hid (Calls Tryz.prog 48 #[.pointer (some ⟨gxx, 0, none⟩)] v12 fun e w' => ∃ A c, e = .returned (.slice A 16 c) ∧ Below v12.heap.size v12 w') := Lib.hid ((Changed_at HX.out.xz (by show stX.length ≤ 16; rw [stX_len]; omega)).mono (by
    rintro e w' ⟨A, c, rfl, _, hb⟩
    exact ⟨A, c, rfl, hb⟩))
   go_wp2_with fail
   refine HCH.out.mono ?_
   rintro e v13 ⟨Ach, cch, rfl, hb⟩
   clear HCH
   have HL2 := Lib.hid (HA.out.below hb)
   clear HA
   have HA := HL2
   clear HL2
   have HL2 := Lib.hid (HX.out.below hb)
   clear HX
   have HX := HL2
   clear HL2
   clear hb
   have HPG : Hid (Calls Tryz.prog 47 #[.pointer (some ⟨gxx, 0, none⟩)] v13 fun e w' => e = .returned (.int .i64 20) ∧ v13 = w') := Lib.hid (Pages_az HA.out.az HX.out.xz)
   go_wp2_with fail
   refine HPG.out.mono ?_
   rintro e we ⟨rfl, rfl⟩
   clear HPG
   have HG := Lib.hid (HA.out.done2 HX.out (-1) 0 2 (by show stX.length ≤ 16; rw [stX_len]; omega) stX_le (by show 0 ≤ 898000; omega) (by show 0 ≤ 1152921504606845000; omega) (by show 0 + 1 ≤ 1152921504606846976; omega) (by show 0 ≤ 4096; omega) (show doneR (made10E gj gb) (newP 120 20 4 1 0) newA ⟨stX, false⟩ (-1) = ⟨made10E gj gb, newP 120 20 4 1 0, newA, ⟨stX, false⟩, 0, 2⟩ from rfl) rfl)
   go_wp2_with fail
   refine HG.out.mono ?_
   rintro e v14 ⟨Tv14, rfl, ha, hx, ho, ht⟩
   have HA2 := Lib.hid ha
   have HX2 := Lib.hid hx
   clear ha hx ho ht HA HX HG
   have HA := HA2
   have HX := HX2
   clear HA2 HX2
   have HG := Lib.hid (HA.out.done2 HX.out 4611686018427387905 0 2 (by show stX.length ≤ 16; rw [stX_len]; omega) stX_le (by show 0 ≤ 898000; omega) (by show 0 ≤ 1152921504606845000; omega) (by show 0 + 1 ≤ 1152921504606846976; omega) (by show 0 ≤ 4096; omega) (show doneR (made10E gj gb) (newP 120 20 4 1 0) newA ⟨stX, false⟩ 4611686018427387905 = ⟨made10E gj gb, newP 120 20 4 1 0, newA, ⟨stX, false⟩, 0, 2⟩ from rfl) rfl)
   go_wp2_with fail
   refine HG.out.mono ?_
   rintro e v15 ⟨Tv15, rfl, ha, hx, ho, ht⟩
   have HA2 := Lib.hid ha
   have HX2 := Lib.hid hx
   clear ha hx ho ht HA HX HG
   have HA := HA2
   have HX := HX2
   clear HA2 HX2
   have HXx := HX
   clear HX
   have HB := Lib.hid (HA.out.begin)
   have y3 := HA.out.yk.yb.c3
   go_wp2_with fail
   refine HB.out.mono ?_
   rintro e v16 ⟨gxu, Uu, rfl, ha, hx, hb, hu⟩
   have HDu : Hid (∀ k, Ux k → ¬ Uu k) := Lib.hid (fun k e e2 => by have := (HXx.out.xz.lt e).2.1; have := hu k e2; omega)
   have HK2 := Lib.hid (HXx.out.below hb)
   clear HXx
   have HXx := HK2
   clear HK2
   have HA2 := Lib.hid ha
   have HX := Lib.hid hx
   clear ha hx hb hu HA HB y3
   have HA := HA2
   clear HA2
   have HG := Lib.hid (HA.out.done2 HX.out 4611686018427387905 0 2 (Nat.zero_le _) (fun e he => by cases he) (by show 0 ≤ 898000; omega) (by show 0 ≤ 1152921504606845000; omega) (by show 0 + 1 ≤ 1152921504606846976; omega) (by show 0 ≤ 4096; omega) (show doneR (made10E gj gb) (newP 120 20 4 1 0) newA newX 4611686018427387905 = ⟨made10E gj gb, newP 120 20 4 1 0, newA, newX, 0, 2⟩ from rfl) rfl)
   go_wp2_with fail
   refine HG.out.mono ?_
   rintro e v17 ⟨Tv17, rfl, ha, hx, ho, ht⟩
   have HK2 := Lib.hid (HXx.out.other HX.out HDu.out ho ht)
   clear HXx
   have HXx := HK2
   clear HK2
   have HA2 := Lib.hid ha
   have HX2 := Lib.hid hx
   clear ha hx ho ht HA HX HG
   have HA := HA2
   have HX := HX2
   clear HA2 HX2
   clear HX
   have HB := Lib.hid (HA.out.begin)
   have y3 := HA.out.yk.yb.c3
   go_wp2_with fail
   refine HB.out.mono ?_
   rintro e v18 ⟨gxz, Uz, rfl, ha, hx, hb, hu⟩
   have HDz : Hid (∀ k, Ux k → ¬ Uz k) := Lib.hid (fun k e e2 => by have := (HXx.out.xz.lt e).2.1; have := hu k e2; omega)
   have HK2 := Lib.hid (HXx.out.below hb)
   clear HXx
   have HXx := HK2
   clear HK2
   have HA2 := Lib.hid ha
   have HX := Lib.hid hx
   clear ha hx hb hu HA HB y3
   have HA := HA2
   clear HA2
   have HG := Lib.hid (HA.out.get HX.out 20 (by omega) (by omega) (by show 0 ≤ 900000; omega) (by show 0 ≤ 1152921504606846976; omega) (show agetR (made10E gj gb) (newP 120 20 4 1 0) newA newX 20 = (made10E gj gb, newP 120 20 4 1 0, 2) from rfl) rfl)
   go_wp2_with fail
   refine HG.out.mono ?_
   rintro e v19 ⟨vvv19, Tv19, rfl, ha, hx, ho, ht⟩
   have HK2 := Lib.hid (HXx.out.other HX.out HDz.out ho ht)
   clear HXx
   have HXx := HK2
   clear HK2
   have HA2 := Lib.hid ha
   have HX2 := Lib.hid hx
   clear ha hx ho ht HA HX HG
   have HA := HA2
   have HX := HX2
   clear HA2 HX2
   have HG := Lib.hid (HA.out.done2 HX.out 4 0 0 (Nat.zero_le _) (fun e he => by cases he) (by show 0 ≤ 898000; omega) (by show 0 ≤ 1152921504606845000; omega) (by show 0 + 1 ≤ 1152921504606846976; omega) (by show 0 ≤ 4096; omega) (show doneR (made10E gj gb) (newP 120 20 4 1 0) newA newX 4 = ⟨made10E gj gb, newP 120 20 4 1 0, newA, ⟨[], true⟩, 0, 0⟩ from rfl) rfl)
   go_wp2_with fail
   refine HG.out.mono ?_
   rintro e v20 ⟨Tv20, rfl, ha, hx, ho, ht⟩
   have HK2 := Lib.hid (HXx.out.other HX.out HDz.out ho ht)
   clear HXx
   have HXx := HK2
   clear HK2
   have HA2 := Lib.hid ha
   have HX2 := Lib.hid hx
   clear ha hx ho ht HA HX HG
   have HA := HA2
   have HX := HX2
   clear HA2 HX2
   have HG := Lib.hid (HA.out.get HX.out 1 (by omega) (by omega) (by show 0 ≤ 900000; omega) (by show 0 ≤ 1152921504606846976; omega) (show agetR (made10E gj gb) (newP 120 20 4 1 0) newA ⟨[], true⟩ 1 = (made10E gj gb, newP 120 20 4 1 0, 9) from rfl) rfl)
   go_wp2_with fail
   refine HG.out.mono ?_
   rintro e v21 ⟨vvv21, Tv21, rfl, ha, hx, ho, ht⟩
   have HK2 := Lib.hid (HXx.out.other HX.out HDz.out ho ht)
   clear HXx
   have HXx := HK2
   clear HK2
   have HA2 := Lib.hid ha
   have HX2 := Lib.hid hx
   clear ha hx ho ht HA HX HG
   have HA := HA2
   have HX := HX2
   clear HA2 HX2
   have HG := Lib.hid (HA.out.done2 HX.out 4 0 9 (Nat.zero_le _) (fun e he => by cases he) (by show 0 ≤ 898000; omega) (by show 0 ≤ 1152921504606845000; omega) (by show 0 + 1 ≤ 1152921504606846976; omega) (by show 0 ≤ 4096; omega) (show doneR (made10E gj gb) (newP 120 20 4 1 0) newA ⟨[], true⟩ 4 = ⟨made10E gj gb, newP 120 20 4 1 0, newA, ⟨[], true⟩, 0, 9⟩ from rfl) rfl)
   go_wp2_with fail
   refine HG.out.mono ?_
   rintro e v22 ⟨Tv22, rfl, ha, hx, ho, ht⟩
   have HK2 := Lib.hid (HXx.out.other HX.out HDz.out ho ht)
   clear HXx
   have HXx := HK2
   clear HK2
   have HA2 := Lib.hid ha
   have HX2 := Lib.hid hx
   clear ha hx ho ht HA HX HG
   have HA := HA2
   have HX := HX2
   clear HA2 HX2
   have HS := Lib.hid (HA.out.set HX.out 0 none 0 0 [] (br_nil v22) (by omega) (by omega) (Nat.zero_le _) (r := 9) (X' := ⟨[], true⟩) (aset_over (e := 9) (by decide) rfl) (aset_bad (e := 9) (by decide) (aset_over (e := 9) (by decide) rfl)))
   go_wp2_with fail
   refine HS.out.mono ?_
   rintro e v23 ⟨rfl, ha, hx, ho⟩
   have HK2 := Lib.hid (HXx.out.other HX.out HDz.out ho (fun _ e => .inl e))
   clear HXx
   have HXx := HK2
   clear HK2
   have HA2 := Lib.hid ha
   have HX2 := Lib.hid hx
   clear ha hx ho HA HX HS
   have HA := HA2
   have HX := HX2
   clear HA2 HX2
   have HO1 := Lib.hid HX.out.over
   have HO2 := Lib.hid HXx.out.over
   go_wp2_with fail
   refine HO1.out.mono ?_
   rintro e we ⟨rfl, rfl⟩
   go_wp2_with fail
   refine HO2.out.mono ?_
   rintro e we ⟨rfl, rfl⟩
   clear HO1 HO2 HX HXx
   have y1 := HA.out.yk.yb.c1
   have HN := Lib.hid (ANew_bad (p := none) (pj := (some ⟨gj, 0, none⟩)) (w := v23) HA.out.at_ (fun W hW => Pages_un (p := none) (.inl rfl)) (.inl rfl))
   go_wp2_with fail
   refine HN.out.mono ?_
   rintro e v24 ⟨rfl, hb⟩
   clear HN
   have HL2 := Lib.hid (HA.out.below hb)
   clear HA
   have HA := HL2
   clear HL2
   clear hb
   clear y1
   have y2 := HA.out.yk.yb.c2
   have HN := Lib.hid (ANew_bad (p := (some ⟨z.gp, 0, none⟩)) (pj := none) (w := v24) ((At_un (p := none) (.inl rfl)).mono (fun e w' h => ⟨h.1, h.2 ▸ gr_refl _⟩)) (fun W hW => (HA.out.below hW).pages) (.inr rfl))
   go_wp2_with fail
   refine HN.out.mono ?_
   rintro e v25 ⟨rfl, hb⟩
   clear HN
   have HL2 := Lib.hid (HA.out.below hb)
   clear HA
   have HA := HL2
   clear HL2
   clear hb
   clear y2
   have hz := heap_alloc_new v25 (.cells #[.pointer none, .int .i64 0, .int .i64 0, .int .i64 0, .pointer none, .int .i64 0, .int .i64 0, .int .i64 0, .slice none 0 0, .int .i64 0, .int .i64 0, .bool false] 124)
   have HZ : Hid (UnJ (some ⟨v25.heap.size, 0, none⟩) (v25.alloc (.cells #[.pointer none, .int .i64 0, .int .i64 0, .int .i64 0, .pointer none, .int .i64 0, .int .i64 0, .int .i64 0, .slice none 0 0, .int .i64 0, .int .i64 0, .bool false] 124))) := Lib.hid (.inr ⟨_, rfl, by rw [cell_of_row _ _ 4 _ _ _ hz]; rfl⟩)
   have hb := gr_alloc (gr_refl v25) (.cells #[.pointer none, .int .i64 0, .int .i64 0, .int .i64 0, .pointer none, .int .i64 0, .int .i64 0, .int .i64 0, .slice none 0 0, .int .i64 0, .int .i64 0, .bool false] 124)
   have yy := HA.out.yk.yb.c2
   have yz := (HA.out.below hb).yk.yb.c2
   have HL2 := Lib.hid (HA.out.below hb)
   clear hz hb HA
   have HA := HL2
   clear HL2
   go_wp2_with fail
   generalize v25.alloc (.cells #[.pointer none, .int .i64 0, .int .i64 0, .int .i64 0, .pointer none, .int .i64 0, .int .i64 0, .int .i64 0, .slice none 0 0, .int .i64 0, .int .i64 0, .bool false] 124) = v26 at *
   generalize v25.heap.size = gq at *
   clear yy yz
   have HN := Lib.hid (ANew_bad (p := (some ⟨z.gp, 0, none⟩)) (pj := (some ⟨gq, 0, none⟩)) (w := v26) ((At_un HZ.out).mono (fun e w' h => ⟨h.1, h.2 ▸ gr_refl _⟩)) (fun W hW => (HA.out.below hW).pages) (.inr rfl))
   go_wp2_with fail
   refine HN.out.mono ?_
   rintro e v27 ⟨rfl, hb⟩
   clear HN
   have HL2 := Lib.hid (HA.out.below hb)
   clear HA
   have HA := HL2
   clear HL2
   clear hb
   clear HZ
   have hz := heap_alloc_new v27 (.cells #[.pointer none, .pointer none, .int .i64 0, .int .i64 0, .int .i64 0, .int .i64 0, .nilFunc, .bool false, .slice none 0 0, .map none, .int .i64 0, .int .i64 0] 132)
   have HZ : Hid (UnP (some ⟨v27.heap.size, 0, none⟩) (v27.alloc (.cells #[.pointer none, .pointer none, .int .i64 0, .int .i64 0, .int .i64 0, .int .i64 0, .nilFunc, .bool false, .slice none 0 0, .map none, .int .i64 0, .int .i64 0] 132))) := Lib.hid (.inr ⟨_, rfl, by rw [cell_of_row _ _ 0 _ _ _ hz]; rfl⟩)
   have hb := gr_alloc (gr_refl v27) (.cells #[.pointer none, .pointer none, .int .i64 0, .int .i64 0, .int .i64 0, .int .i64 0, .nilFunc, .bool false, .slice none 0 0, .map none, .int .i64 0, .int .i64 0] 132)
   have yy := HA.out.yk.yb.c1
   have yz := (HA.out.below hb).yk.yb.c1
   have HL2 := Lib.hid (HA.out.below hb)
   clear hz hb HA
   have HA := HL2
   clear HL2
   go_wp2_with fail
   generalize v27.alloc (.cells #[.pointer none, .pointer none, .int .i64 0, .int .i64 0, .int .i64 0, .int .i64 0, .nilFunc, .bool false, .slice none 0 0, .map none, .int .i64 0, .int .i64 0] 132) = v28 at *
   generalize v27.heap.size = gr at *
   clear yy yz
   have HN := Lib.hid (ANew_bad (p := (some ⟨gr, 0, none⟩)) (pj := (some ⟨gj, 0, none⟩)) (w := v28) HA.out.at_ (fun W hW => Pages_un (HZ.out.below hW)) (.inl rfl))
   go_wp2_with fail
   refine HN.out.mono ?_
   rintro e v29 ⟨rfl, hb⟩
   clear HN
   have HL2 := Lib.hid (HA.out.below hb)
   clear HA
   have HA := HL2
   clear HL2
   clear hb
   clear HZ
   have HB := Lib.hid (HA.out.begin)
   have y3 := HA.out.yk.yb.c3
   go_wp2_with fail
   refine HB.out.mono ?_
   rintro e v30 ⟨gxw, Uw, rfl, ha, hx, hb, hu⟩
   have HA2 := Lib.hid ha
   have HX := Lib.hid hx
   clear ha hx hb hu HA HB y3
   have HA := HA2
   clear HA2
   have HI0 : Hid (∃ T2, NA w v30 z (made10E gj gb) (newP 120 20 4 1 0) newA T2 g0 gj ∧ NX w v30 z gxw ⟨stP 0 0, false⟩ T2 Uw g0) := Lib.hid ⟨_, HA.out, HX.out⟩
   clear HA HX
   go_wp2_with fail
   go_loopw [33] (fun v wt => ∃ k : Nat, k ≤ 4 ∧ v = .int .i64 ((0 + k : Nat) : Int) ∧ Hid (∃ T2, NA w wt z (made10E gj gb) (newP 120 20 4 1 0) newA T2 g0 gj ∧ NX w wt z gxw ⟨stP 0 k, false⟩ T2 Uw g0)) (fun v _ => 4 - (Go.RowKit.intOf v).toNat)
   case atStart => exact ⟨0, Nat.zero_le _, rfl, HI0⟩
   case round =>
    clear HI0
    obtain ⟨k, hk, rfl, HI⟩ := hrel
    by_cases hlt : k < 4
    ·have t1 : decide (((0 + k : Nat) : Int) < 4) = true := decide_eq_true (by omega)
     have t2 : decide (0 + k < 4) = true := decide_eq_true (by omega)
     obtain ⟨j, hj⟩ : ∃ j, j = 0 + k := ⟨_, rfl⟩
     have HJ := Lib.hid hj
     rw [← hj] at t1 t2
     rw [← hj]
     have j0 : (0 : Int) ≤ (j : Int) := Int.natCast_nonneg _
     have j1 : (j : Int) < 4 := by omega
     clear hj hlt hk
     go_wp2_with fail
     refine (HPAY.out (j : Int) wr).mono ?_
     rintro e wp ⟨rfl, hob, hb⟩
     obtain ⟨T2, ha, hx⟩ := HI.out
     have HS := Lib.hid ((ha.below hb).set (hx.below hb) (j : Int) _ 4080 4080 (payT (j : Int) []) (ob_br hob (payT_len _ _)) (by omega) (by omega) (by show (stP 0 k).length ≤ 16; rw [stP_len]; have := HJ.out; omega) (r := 0) (X' := ⟨stP 0 (k + 1), false⟩) (by have := HJ.out; subst this; exact (aset_end rfl rfl (by omega) (by omega)).1) (by have := HJ.out; subst this; exact (aset_end rfl rfl (by omega) (by omega)).2))
     clear hob hb ha hx HI
     go_wp2_with fail
     refine HS.out.mono ?_
     rintro e ws ⟨rfl, ha, hx, ho⟩
     have HI : Hid (∃ T2, NA w ws z (made10E gj gb) (newP 120 20 4 1 0) newA T2 g0 gj ∧ NX w ws z gxw ⟨stP 0 (k + 1), false⟩ T2 Uw g0) := Lib.hid ⟨_, ha, hx⟩
     clear ha hx ho HS
     go_wp2_with fail
     go_roundw
     all_goals have hjj := HJ.out
     case rel => exact ⟨k + 1, by omega, by go_num, HI⟩
     case measure => simp [Go.RowKit.intOf]; omega
    ·obtain rfl : k = 4 := by omega
     obtain ⟨T2, ha, hx⟩ := HI.out
     have HA := Lib.hid ha
     have HX := Lib.hid hx
     clear ha hx HI
     rw [show ((0 + 4 : Nat) : Int) = 4 from rfl]
     have HG := Lib.hid (HA.out.done2 HX.out 1 1 0 (by show (stP 0 4).length ≤ 16; rw [stP_len]; omega) (fun e he => by have := stP_lt 0 4 e he; omega) (by show 0 ≤ 898000; omega) (by show 0 ≤ 1152921504606845000; omega) (by show 0 + 1 ≤ 1152921504606846976; omega) (by show 0 ≤ 4096; omega) (D' := ((made10E gj gb).app ⟨1, 1, l4 (payT ((0 : Nat) : Int) []) (payT ((1 : Nat) : Int) []) (payT ((2 : Nat) : Int) []) (payT ((3 : Nat) : Int) [])⟩)) (P' := (P4 (payT ((0 : Nat) : Int) []) (payT ((1 : Nat) : Int) []) (payT ((2 : Nat) : Int) []) (payT ((3 : Nat) : Int) []) true)) (A' := (⟨markF (l4 (payT ((0 : Nat) : Int) []) (payT ((1 : Nat) : Int) []) (payT ((2 : Nat) : Int) []) (payT ((3 : Nat) : Int) [])) [], false⟩ : AtS)) (X' := ⟨stP 0 4, true⟩) (done4 (gj := gj) (gb := gb) pz0 pz1 pz2 pz3 (payT_len _ _) (payT_len _ _) (payT_len _ _) (payT_len _ _)) rfl)
     go_wp2_with fail
     refine HG.out.mono ?_
     rintro e v31 ⟨Tv31, rfl, ha, hx, ho, ht⟩
     have HA2 := Lib.hid ha
     have HX2 := Lib.hid hx
     clear ha hx ho ht HA HX HG
     have HA := HA2
     have HX := HX2
     clear HA2 HX2
     have HAP : Hid (appE (made10E gj gb).j ⟨1, 1, l4 (payT ((0 : Nat) : Int) []) (payT ((1 : Nat) : Int) []) (payT ((2 : Nat) : Int) []) (payT ((3 : Nat) : Int) [])⟩ = 0) := Lib.hid (app4 pz0 pz1 pz2 pz3 (payT_len _ _) (payT_len _ _) (payT_len _ _) (payT_len _ _))
     clear HX
     obtain ⟨DD, hDD⟩ : ∃ DD, DD = ((made10E gj gb).app ⟨1, 1, l4 (payT ((0 : Nat) : Int) []) (payT ((1 : Nat) : Int) []) (payT ((2 : Nat) : Int) []) (payT ((3 : Nat) : Int) [])⟩) := ⟨_, rfl⟩
     obtain ⟨PP, hPP⟩ : ∃ PP, PP = (P4 (payT ((0 : Nat) : Int) []) (payT ((1 : Nat) : Int) []) (payT ((2 : Nat) : Int) []) (payT ((3 : Nat) : Int) []) true) := ⟨_, rfl⟩
     obtain ⟨AA, hAA⟩ : ∃ AA, AA = (⟨markF (l4 (payT ((0 : Nat) : Int) []) (payT ((1 : Nat) : Int) []) (payT ((2 : Nat) : Int) []) (payT ((3 : Nat) : Int) [])) [], false⟩ : AtS) := ⟨_, rfl⟩
     rw [← hDD, ← hPP, ← hAA] at HA
     have HDD := Lib.hid hDD
     have HPP := Lib.hid hPP
     have HAA := Lib.hid hAA
     have HPG : Hid (PP.pages = 20 ∧ AA.br = false) := Lib.hid (by rw [hPP, hAA]; exact ⟨rfl, rfl⟩)
     clear hDD hPP hAA
     have HB := Lib.hid (HA.out.begin)
     have y3 := HA.out.yk.yb.c3
     go_wp2_with fail
     refine HB.out.mono ?_
     rintro e v32 ⟨gxv, Uv, rfl, ha, hx, hb, hu⟩
     have HA2 := Lib.hid ha
     have HX := Lib.hid hx
     clear ha hx hb hu HA HB y3
     have HA := HA2
     clear HA2
     have HI0 : Hid (∃ T2, NA w v32 z DD PP AA T2 g0 gj ∧ NX w v32 z gxv ⟨stP 4 0, false⟩ T2 Uv g0) := Lib.hid ⟨_, HA.out, HX.out⟩
     clear HA HX
     go_wp2_with fail
     go_loopw [37] (fun v wt => ∃ k : Nat, k ≤ 6 ∧ v = .int .i64 ((4 + k : Nat) : Int) ∧ Hid (∃ T2, NA w wt z DD PP AA T2 g0 gj ∧ NX w wt z gxv ⟨stP 4 k, false⟩ T2 Uv g0)) (fun v _ => 10 - (Go.RowKit.intOf v).toNat)
     case atStart => exact ⟨0, Nat.zero_le _, rfl, HI0⟩
     case round =>
      clear HI0
      obtain ⟨k, hk, rfl, HI⟩ := hrel
      by_cases hlt : k < 6
      ·have t1 : decide (((4 + k : Nat) : Int) < 10) = true := decide_eq_true (by omega)
       have t2 : decide (4 + k < 10) = true := decide_eq_true (by omega)
       obtain ⟨j, hj⟩ : ∃ j, j = 4 + k := ⟨_, rfl⟩
       have HJ := Lib.hid hj
       rw [← hj] at t1 t2
       rw [← hj]
       have j0 : (0 : Int) ≤ (j : Int) := Int.natCast_nonneg _
       have j1 : (j : Int) < 10 := by omega
       clear hj hlt hk
       go_wp2_with fail
       refine (HPAY.out (j : Int) wr).mono ?_
       rintro e wp ⟨rfl, hob, hb⟩
       obtain ⟨T2, ha, hx⟩ := HI.out
       have HS := Lib.hid ((ha.below hb).set (hx.below hb) (j : Int) _ 4080 4080 (payT (j : Int) []) (ob_br hob (payT_len _ _)) (by omega) (by omega) (by show (stP 4 k).length ≤ 16; rw [stP_len]; have := HJ.out; omega) (r := 0) (X' := ⟨stP 4 (k + 1), false⟩) (by have := HJ.out; subst this; exact (aset_end HPG.out.2 HPG.out.1 (by omega) (by omega)).1) (by have := HJ.out; subst this; exact (aset_end HPG.out.2 HPG.out.1 (by omega) (by omega)).2))
       clear hob hb ha hx HI
       go_wp2_with fail
       refine HS.out.mono ?_
       rintro e ws ⟨rfl, ha, hx, ho⟩
       have HI : Hid (∃ T2, NA w ws z DD PP AA T2 g0 gj ∧ NX w ws z gxv ⟨stP 4 (k + 1), false⟩ T2 Uv g0) := Lib.hid ⟨_, ha, hx⟩
       clear ha hx ho HS
       go_wp2_with fail
       go_roundw
       all_goals have hjj := HJ.out
       case rel => exact ⟨k + 1, by omega, by go_num, HI⟩
       case measure => simp [Go.RowKit.intOf]; omega
      ·obtain rfl : k = 6 := by omega
       obtain ⟨T2, ha, hx⟩ := HI.out
       have HA := Lib.hid ha
       have HX := Lib.hid hx
       clear ha hx HI
       rw [show ((4 + 6 : Nat) : Int) = 10 from rfl]
       have HG := Lib.hid (HA.out.arm 0 (by omega) (by omega))
       have y0 := HA.out.yk.yb.c0
       go_wp2_with fail
       refine HG.out.mono ?_
       rintro e v33 ⟨Tv33, rfl, ha, hm⟩
       have hx : NX w v33 z gxv ⟨stP 4 6, false⟩ Tv33 Uv g0 := ⟨HX.out.xz.step hm, HX.out.ug⟩
       have HA2 := Lib.hid ha
       have HX2 := Lib.hid hx
       clear ha hx hm HA HX HG y0
       have HA := HA2
       have HX := HX2
       clear HA2 HX2
       have hdk : Dark { DD with d := armD DD.d 0 } := by
        rw [HDD.out]
        exact Dark.of2 HAP.out
       have HDK := Lib.hid hdk
       have HLA : Hid (DD.j.la ≤ 1 ∧ DD.d.pending = [] ∧ DD.gj = gj ∧ PP.count = 0) := Lib.hid (by
        rw [HDD.out, HPP.out]
        exact ⟨appJ_la _ _, rfl, rfl, rfl⟩)
       have HML : Hid (AA.im.length ≤ 4) := Lib.hid (by
        rw [HAA.out]
        exact (markF_le (l4 (payT ((0 : Nat) : Int) []) (payT ((1 : Nat) : Int) []) (payT ((2 : Nat) : Int) []) (payT ((3 : Nat) : Int) [])) [] List.Pairwise.nil).1)
       obtain ⟨DE, hDE⟩ : ∃ DE : EnS, DE = { DD with d := armD DD.d 0 } := ⟨_, rfl⟩
       rw [← hDE] at HA HDK
       have HLE : Hid (DE.j.la ≤ 1 ∧ DE.d.pending = [] ∧ DE.gj = gj) := Lib.hid (by
        rw [hDE]
        exact ⟨HLA.out.1, HLA.out.2.1, HLA.out.2.2.1⟩)
       clear hDE hdk
       have HG := Lib.hid (HA.out.done2 HX.out 2 0 6 (by show (stP 4 6).length ≤ 16; rw [stP_len]; omega) (fun e he => by have := stP_lt 4 6 e he; omega) (by rw [HLE.out.2.1]; exact Nat.zero_le _) (by rw [HLA.out.2.2.2]; exact Nat.zero_le _) (by have := HLE.out.1; omega) (by have := HML.out; omega) (D' := logD DE 1) (P' := (P4 (payT ((0 : Nat) : Int) []) (payT ((1 : Nat) : Int) []) (payT ((2 : Nat) : Int) []) (payT ((3 : Nat) : Int) []) false)) (A' := AA) (X' := ⟨stP 4 6, false⟩) (by rw [HPP.out, HAA.out]; exact done6 HDK.out) (logD_gj _ _))
       go_wp2_with fail
       refine HG.out.mono ?_
       rintro e v34 ⟨Tv34, rfl, ha, hx, ho, ht⟩
       have HA2 := Lib.hid ha
       have HX2 := Lib.hid hx
       clear ha hx ho ht HA HX HG
       have HA := HA2
       have HX := HX2
       clear HA2 HX2
       have HXv := HX
       clear HX
       have HB := Lib.hid (HA.out.begin)
       have y3 := HA.out.yk.yb.c3
       go_wp2_with fail
       refine HB.out.mono ?_
       rintro e v35 ⟨gxy, Uy, rfl, ha, hx, hb, hu⟩
       have HDy : Hid (∀ k, Uv k → ¬ Uy k) := Lib.hid (fun k e e2 => by have := (HXv.out.xz.lt e).2.1; have := hu k e2; omega)
       have HK2 := Lib.hid (HXv.out.below hb)
       clear HXv
       have HXv := HK2
       clear HK2
       have HA2 := Lib.hid ha
       have HX := Lib.hid hx
       clear ha hx hb hu HA HB y3
       have HA := HA2
       clear HA2
       have HG := Lib.hid (HA.out.get HX.out 0 (by omega) (by omega) (by rw [(HDK.out.l6 1 (by omega)).2]; exact Nat.zero_le _) (Nat.zero_le _) (D' := (agetR (logD DE 1) (P4 (payT ((0 : Nat) : Int) []) (payT ((1 : Nat) : Int) []) (payT ((2 : Nat) : Int) []) (payT ((3 : Nat) : Int) []) false) AA newX 0).1) (P' := (agetR (logD DE 1) (P4 (payT ((0 : Nat) : Int) []) (payT ((1 : Nat) : Int) []) (payT ((2 : Nat) : Int) []) (payT ((3 : Nat) : Int) []) false) AA newX 0).2.1) (r := (agetR (logD DE 1) (P4 (payT ((0 : Nat) : Int) []) (payT ((1 : Nat) : Int) []) (payT ((2 : Nat) : Int) []) (payT ((3 : Nat) : Int) []) false) AA newX 0).2.2) rfl (SameG.aget _ _ _ _ _).1)
       go_wp2_with fail
       refine HG.out.mono ?_
       rintro e v36 ⟨vvv36, Tv36, rfl, ha, hx, ho, ht⟩
       have HK2 := Lib.hid (HXv.out.other HX.out HDy.out ho ht)
       clear HXv
       have HXv := HK2
       clear HK2
       have HA2 := Lib.hid ha
       have HX2 := Lib.hid hx
       clear ha hx ho ht HA HX HG
       have HA := HA2
       have HX := HX2
       clear HA2 HX2
       generalize (agetR (logD DE 1) (P4 (payT ((0 : Nat) : Int) []) (payT ((1 : Nat) : Int) []) (payT ((2 : Nat) : Int) []) (payT ((3 : Nat) : Int) []) false) AA newX 0) = rr at *
       clear HX
       have HO := Lib.hid HXv.out.over
       have HBR := Lib.hid HA.out.broken
       rw [HPG.out.2] at HBR
       have y3 := HA.out.yk.yb.c3
       go_wp2_with fail
       refine HO.out.mono ?_
       rintro e we ⟨rfl, rfl⟩
       go_wp2_with fail
       refine HBR.out.mono ?_
       rintro e we ⟨rfl, rfl⟩
       go_wp2_with fail
       refine HBR.out.mono ?_
       rintro e we ⟨rfl, rfl⟩
       have HX := HXv
       clear HO HBR HXv y3 HDD HPP HAA HPG HLA HML HLE HDK HAP
       have HM := Lib.hid (made10_any 2 w v36 HA.out.az.bel (by omega) (by omega))
       clear HA HX
       go_wp2_with fail
       refine HM.out.mono ?_
       rintro e w1 ⟨z, gj, gb, T, rfl, haz, hb1⟩
       have hba := gr_alloc (gr_refl w1) (.cells #[.pointer (some ⟨z.gd, 0, none⟩), .pointer (some ⟨gj, 0, none⟩), .pointer (some ⟨z.gp, 0, none⟩), .pointer (some ⟨z.ga, 0, none⟩)] 53)
       have HA : Hid (NA w (w1.alloc (.cells #[.pointer (some ⟨z.gd, 0, none⟩), .pointer (some ⟨gj, 0, none⟩), .pointer (some ⟨z.gp, 0, none⟩), .pointer (some ⟨z.ga, 0, none⟩)] 53)) z (made10E gj gb) (newP 120 20 2 1 0) newA T w1.heap.size gj) := Lib.hid ⟨haz.below hba, ⟨heap_alloc_new _ _, fun e => by have := (haz.lt e).2; omega⟩, rfl⟩
       clear haz hb1 hba HM
       unfold yV
       go_wp2_with fail
       generalize w1.alloc (.cells #[.pointer (some ⟨z.gd, 0, none⟩), .pointer (some ⟨gj, 0, none⟩), .pointer (some ⟨z.gp, 0, none⟩), .pointer (some ⟨z.ga, 0, none⟩)] 53) = wa at *
       generalize w1.heap.size = g0 at *
       have HB := Lib.hid (HA.out.begin)
       have y3 := HA.out.yk.yb.c3
       go_wp2_with fail
       refine HB.out.mono ?_
       rintro e v38 ⟨gxk, Uk, rfl, ha, hx, hb, hu⟩
       have HA2 := Lib.hid ha
       have HX := Lib.hid hx
       clear ha hx hb hu HA HB y3
       have HA := HA2
       clear HA2
       have HI0 : Hid (∃ T2, NA w v38 z (made10E gj gb) (newP 120 20 2 1 0) newA T2 g0 gj ∧ NX w v38 z gxk ⟨stP 5 0, false⟩ T2 Uk g0) := Lib.hid ⟨_, HA.out, HX.out⟩
       clear HA HX
       go_wp2_with fail
       go_loopw [46] (fun v wt => ∃ k : Nat, k ≤ 3 ∧ v = .int .i64 ((5 + k : Nat) : Int) ∧ Hid (∃ T2, NA w wt z (made10E gj gb) (newP 120 20 2 1 0) newA T2 g0 gj ∧ NX w wt z gxk ⟨stP 5 k, false⟩ T2 Uk g0)) (fun v _ => 8 - (Go.RowKit.intOf v).toNat)
       case atStart => exact ⟨0, Nat.zero_le _, rfl, HI0⟩
       case round =>
        clear HI0
        obtain ⟨k, hk, rfl, HI⟩ := hrel
        by_cases hlt : k < 3
        ·have t1 : decide (((5 + k : Nat) : Int) < 8) = true := decide_eq_true (by omega)
         have t2 : decide (5 + k < 8) = true := decide_eq_true (by omega)
         obtain ⟨j, hj⟩ : ∃ j, j = 5 + k := ⟨_, rfl⟩
         have HJ := Lib.hid hj
         rw [← hj] at t1 t2
         rw [← hj]
         have j0 : (0 : Int) ≤ (j : Int) := Int.natCast_nonneg _
         have j1 : (j : Int) < 8 := by omega
         clear hj hlt hk
         go_wp2_with fail
         refine (HPAY.out (j : Int) wr).mono ?_
         rintro e wp ⟨rfl, hob, hb⟩
         obtain ⟨T2, ha, hx⟩ := HI.out
         have HS := Lib.hid ((ha.below hb).set (hx.below hb) (j : Int) _ 4080 4080 (payT (j : Int) []) (ob_br hob (payT_len _ _)) (by omega) (by omega) (by show (stP 5 k).length ≤ 16; rw [stP_len]; have := HJ.out; omega) (r := 0) (X' := ⟨stP 5 (k + 1), false⟩) (by have := HJ.out; subst this; exact (aset_end rfl rfl (by omega) (by omega)).1) (by have := HJ.out; subst this; exact (aset_end rfl rfl (by omega) (by omega)).2))
         clear hob hb ha hx HI
         go_wp2_with fail
         refine HS.out.mono ?_
         rintro e ws ⟨rfl, ha, hx, ho⟩
         have HI : Hid (∃ T2, NA w ws z (made10E gj gb) (newP 120 20 2 1 0) newA T2 g0 gj ∧ NX w ws z gxk ⟨stP 5 (k + 1), false⟩ T2 Uk g0) := Lib.hid ⟨_, ha, hx⟩
         clear ha hx ho HS
         go_wp2_with fail
         go_roundw
         all_goals have hjj := HJ.out
         case rel => exact ⟨k + 1, by omega, by go_num, HI⟩
         case measure => simp [Go.RowKit.intOf]; omega
        ·obtain rfl : k = 3 := by omega
         obtain ⟨T2, ha, hx⟩ := HI.out
         have HA := Lib.hid ha
         have HX := Lib.hid hx
         clear ha hx HI
         rw [show ((5 + 3 : Nat) : Int) = 8 from rfl]
         have HG := Lib.hid (HA.out.arm 0 (by omega) (by omega))
         have y0 := HA.out.yk.yb.c0
         go_wp2_with fail
         refine HG.out.mono ?_
         rintro e v39 ⟨Tv39, rfl, ha, hm⟩
         have hx : NX w v39 z gxk ⟨stP 5 3, false⟩ Tv39 Uk g0 := ⟨HX.out.xz.step hm, HX.out.ug⟩
         have HA2 := Lib.hid ha
         have HX2 := Lib.hid hx
         clear ha hx hm HA HX HG y0
         have HA := HA2
         have HX := HX2
         clear HA2 HX2
         obtain ⟨E5, P5, hdn, hpe, hpc⟩ := done3 (gj := gj) (gb := gb) pz5 pz6 pz7 (payT_len _ _) (payT_len _ _) (payT_len _ _)
         have hg5 : E5.gj = gj := by
          have h := (SameG.done { made10E gj gb with d := armD (newD 140) 0 } (newP 120 20 2 1 0) newA ⟨stK (payT ((5 : Nat) : Int) []) (payT ((6 : Nat) : Int) []) (payT ((7 : Nat) : Int) []), false⟩ 1).1
          rw [hdn] at h
          exact h
         have HDN := Lib.hid hdn
         have HPE := Lib.hid hpe
         have HPC := Lib.hid hpc
         have HG5 := Lib.hid hg5
         clear hdn hpe hpc hg5
         have HG := Lib.hid (HA.out.done2 HX.out 1 0 6 (by show (stP 5 3).length ≤ 16; rw [stP_len]; omega) (fun e he => by have := stP_lt 5 3 e he; omega) (by show 0 ≤ 898000; omega) (by show 0 ≤ 1152921504606845000; omega) (by show 0 + 1 ≤ 1152921504606846976; omega) (by show 0 ≤ 4096; omega) (D' := E5) (P' := P5) (A' := ⟨[], true⟩) (X' := ⟨stP 5 3, false⟩) HDN.out HG5.out)
         go_wp2_with fail
         refine HG.out.mono ?_
         rintro e v40 ⟨Tv40, rfl, ha, hx, ho, ht⟩
         have HA2 := Lib.hid ha
         have HX2 := Lib.hid hx
         clear ha hx ho ht HA HX HG
         have HA := HA2
         have HX := HX2
         clear HA2 HX2
         have HXk := HX
         clear HX
         have HB := Lib.hid (HA.out.begin)
         have y3 := HA.out.yk.yb.c3
         go_wp2_with fail
         refine HB.out.mono ?_
         rintro e v41 ⟨gxq, Uq, rfl, ha, hx, hb, hu⟩
         have HDq : Hid (∀ k, Uk k → ¬ Uq k) := Lib.hid (fun k e e2 => by have := (HXk.out.xz.lt e).2.1; have := hu k e2; omega)
         have HK2 := Lib.hid (HXk.out.below hb)
         clear HXk
         have HXk := HK2
         clear HK2
         have HA2 := Lib.hid ha
         have HX := Lib.hid hx
         clear ha hx hb hu HA HB y3
         have HA := HA2
         clear HA2
         have HG := Lib.hid (HA.out.get HX.out 0 (by omega) (by omega) (by rw [HPE.out]; exact Nat.zero_le _) (by rw [HPC.out]; exact Nat.zero_le _) (D' := E5) (P' := P5) (r := 4) rfl rfl)
         go_wp2_with fail
         refine HG.out.mono ?_
         rintro e v42 ⟨vvv42, Tv42, rfl, ha, hx, ho, ht⟩
         have HK2 := Lib.hid (HXk.out.other HX.out HDq.out ho ht)
         clear HXk
         have HXk := HK2
         clear HK2
         have HA2 := Lib.hid ha
         have HX2 := Lib.hid hx
         clear ha hx ho ht HA HX HG
         have HA := HA2
         have HX := HX2
         clear HA2 HX2
         clear HX
         have HO := Lib.hid HXk.out.over
         have HBR := Lib.hid HA.out.broken
         have y3 := HA.out.yk.yb.c3
         go_wp2_with fail
         refine HBR.out.mono ?_
         rintro e we ⟨rfl, rfl⟩
         go_wp2_with fail
         refine HO.out.mono ?_
         rintro e we ⟨rfl, rfl⟩
         have HFB := Lib.hid HA.out.az.bel
         have HAW := Lib.hid (awake10_any v42)
         clear HO HBR y3 HXk HA HDN HPE HPC HG5
         go_wp2_with fail
         refine HAW.out.mono ?_
         rintro e we ⟨rfl, hbe⟩
         have HFE := Lib.hid (gr_trans HFB.out hbe)
         clear hbe
         go_wp2_with fail
         go_ret
         exact ⟨rfl, HFE.out⟩
end Go.Proofs.YtnkeclpgpiogoaaGreat
