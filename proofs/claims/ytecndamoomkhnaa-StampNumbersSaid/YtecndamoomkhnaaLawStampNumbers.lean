/-
  The walk of StampNumbers.
-/
import Derived.Test.YtecndamoomkhnaaLawStampTorn
namespace Go.Proofs.Ytecndamoomkhnaa
open Go.RowKit

set_option maxHeartbeats 2000000 in
set_option maxRecDepth 100000 in
theorem StampNumbers_walk (w : World) :
    Calls Try.prog 9 #[] w fun e w' => e = .returned (.bool true) ∧ Below w.heap.size w w' := by
  obtain ⟨i0, hi0, hz0, hz1, hz2⟩ := info_parts info_u8
  have mk1 := run_mk_bytes 4081 (by omega) 4081 rfl
  have mk2 := run_mk_bytes 4080 (by omega) 4080 rfl
  have mk3 := run_mk_bytes 4095 (by omega) 4095 rfl
  have mk4 := run_mk_bytes 4096 (by omega) 4096 rfl
  -- a block of noughts is sealed with the stamp 0
  obtain ⟨Z, hZ⟩ : ∃ Z : List UInt8, List.replicate 4096 0 = Z := ⟨_, rfl⟩
  obtain ⟨Y0, hY0⟩ : ∃ Y0 : List UInt8, List.replicate 4080 0 = Y0 := ⟨_, rfl⟩
  have hZe : Z = leB 0 8 ++ Y0 ++ leB 0 8 := by
    rw [← hZ, ← hY0, show leB 0 8 = List.replicate 8 (0 : UInt8) from by decide, List.replicate_append_replicate, List.replicate_append_replicate]
  have hYl : Y0.length = 4080 := by rw [← hY0, List.length_replicate]
  obtain ⟨z1, z2, z3⟩ := open_seal (leB 0 8) Y0 (leB_length _ _) hYl
  rw [← hZe, show leN (leB 0 8) = 0 from by decide] at z2
  rw [← hZe] at z1 z3
  have HZ := Lib.hid hZ
  have HYL := Lib.hid hYl
  have HY0 := Lib.hid hY0
  have Z1 := Lib.hid z1
  have Z2 := Lib.hid z2
  have Z3 := Lib.hid z3
  clear hZ hYl hZe z1 z2 z3 hY0
  go_enter Try.func9, Try.ntmps9
  go_wp2_with fail
  refine (Seal_long _ 4081 4081 1 _ (by omega) (by omega)).mono ?_
  rintro e w' ⟨rfl, rfl⟩
  go_wp2_with fail
  refine (Seal_fits _ 4080 4080 1 Y0 _ (by rw [← HY0.out]; exact BR.zero _ _ 4080 _ (by simp)) (by omega) (by omega)).mono ?_
  rintro e w1 ⟨v1, rfl, _, hb1⟩
  have hb2 := gr_trans (gr_alloc (gr_alloc (gr_refl w) _) _) hb1
  clear hb1
  go_wp2_with fail
  refine (Open_short _ 4095 4095 _ (by omega) (by omega)).mono ?_
  rintro e w' ⟨rfl, rfl⟩
  go_wp2_with fail
  refine (Open_short _ 0 0 _ (by omega) (by omega)).mono ?_
  rintro e w' ⟨rfl, rfl⟩
  go_wp2_with fail
  refine (Open_any _ 4096 Z _ (by rw [← HZ.out]; exact BR.zero _ _ 4096 _ (by simp)) (by omega)).mono ?_
  rw [Z1.out, Z2.out, Z3.out]
  rintro e w2 ⟨v2, rfl, ho2, hb3⟩
  obtain ⟨A2, c2, rfl, r2, hc2, _⟩ := ho2.formN (n := 4080) HYL.out
  have hb4 := gr_trans (gr_alloc (gr_alloc hb2 _) _) hb3
  clear hb2 hb3 ho2 mk1 mk2 mk3 mk4 r2
  go_wp2_with fail
  refine (Parts_any 4294967298 _ (by omega)).mono ?_
  rintro e w' ⟨rfl, rfl⟩
  go_wp2_with fail
  refine (Of_any (-1) (-1) _).mono ?_
  rintro e w' ⟨rfl, rfl⟩
  rw [show ((-1 : Int) % 4294967296 * 4294967296 + (-1) % 4294967296) = ((18446744073709551615 : Nat) : Int) from by decide]
  go_wp2_with fail
  refine (Parts_any 18446744073709551615 _ (by omega)).mono ?_
  rintro e w' ⟨rfl, rfl⟩
  go_wp2_with fail
  refine (Made_any 1 4080 _ (by omega)).mono ?_
  rintro e w3 ⟨l1, rfl, hl1, hB1, hb5⟩
  have R1 := hB1.readsAll
  rw [hl1] at R1
  have HL1 := Lib.hid hl1
  clear hl1 hB1
  go_wp2_with fail
  refine (Seal_fits _ 4080 4080 2 l1 _ R1 (by omega) (by omega)).mono ?_
  rw [show 4080 - 4080 = 0 from rfl, List.replicate_zero, List.append_nil]
  rintro e w4 ⟨v4, rfl, ho4, hb6⟩
  have hb7 := gr_trans (gr_trans hb4 hb5) hb6
  clear hb4 hb5 hb6 R1
  go_wp2_with fail
  refine (Made_any 2 4080 _ (by omega)).mono ?_
  rintro e w5 ⟨l2, rfl, hl2, hB2, hb8⟩
  have R2 := hB2.readsAll
  rw [hl2] at R2
  have HL2 := Lib.hid hl2
  clear hl2 hB2
  have ho4' := ho4.below hb8
  go_wp2_with fail
  refine (Seal_fits _ 4080 4080 3 l2 _ R2 (by omega) (by omega)).mono ?_
  rw [show 4080 - 4080 = 0 from rfl, List.replicate_zero, List.append_nil]
  rintro e w6 ⟨v6, rfl, ho6, hb9⟩
  have ho5 := ho4'.below hb9
  have hb10 := gr_trans (gr_trans hb7 hb8) hb9
  clear hb7 hb8 hb9 ho4 ho4' R2
  have hX : (leB 2 8 ++ l1 ++ leB 2 8).length = 4096 := by simp only [List.length_append, leB_length, HL1.out]
  have hY : (leB 3 8 ++ l2 ++ leB 3 8).length = 4096 := by simp only [List.length_append, leB_length, HL2.out]
  have htn : openE ((leB 3 8 ++ l2 ++ leB 3 8).take 100 ++ (leB 2 8 ++ l1 ++ leB 2 8).drop 100) = 140 := by
    have h1 : ((leB 3 8 ++ l2 ++ leB 3 8).take 100).length = 100 := by rw [List.length_take, hY]; rfl
    have h2 : ((leB 3 8 ++ l2 ++ leB 3 8).take 100 ++ (leB 2 8 ++ l1 ++ leB 2 8).drop 100).take 8 = leB 3 8 := by
      rw [List.take_append, h1, List.take_take, List.append_assoc, show min 8 100 = 8 from rfl, List.take_left' (leB_length _ _)]
      simp
    have h3 : ((leB 3 8 ++ l2 ++ leB 3 8).take 100 ++ (leB 2 8 ++ l1 ++ leB 2 8).drop 100).drop 4088 = leB 2 8 := by
      rw [List.drop_append, List.drop_eq_nil_of_le (by omega), List.nil_append, h1, List.drop_drop]
      exact List.drop_left' (by rw [List.length_append, leB_length, HL1.out])
    unfold openE sealed
    rw [h2, h3]
    decide
  have HTN := Lib.hid htn
  clear htn
  generalize leB 2 8 ++ l1 ++ leB 2 8 = X at *
  generalize leB 3 8 ++ l2 ++ leB 3 8 = Y at *
  have HX := Lib.hid hX
  have hTL : (Y.take 100 ++ X.drop 100).length = 4096 := by rw [List.length_append, List.length_take, List.length_drop, hX, hY]; rfl
  have HTL := Lib.hid hTL
  have hyl : (Y.take 100).length ≤ 100 := by rw [List.length_take]; omega
  obtain ⟨A1, c1, rfl, r1, hc1, hm1⟩ := ho5.formN (n := 4096) hX
  obtain ⟨A3, c3, rfl, r3, hc3, hm3⟩ := ho6.formN (n := 4096) hY
  clear ho5 ho6 hX hY hTL
  have hcutY := fun W => run_cut_h (P := Try.prog) W 22 5 i0 Try.underlying22 hi0 1 hz1 A3 4096 c3 (100 : Int) 100 rfl (by omega)
  have hcutX := fun W => run_cut_l (P := Try.prog) W 22 5 i0 Try.underlying22 hi0 1 hz1 A1 4096 c1 (100 : Int) 100 rfl (by omega)
  have r3' := r3.pre (j := 100) (by omega)
  have r1' := r1.cut (k := 100) (j := 4096) (c := c1) (by omega) (by omega) hc1
  generalize cutA A1 c1 100 1 = A1c at *
  have CB := Lib.hid (CopyBytes_any A3 100 c3 (Y.take 100) w6.drew r3' (by omega))
  go_upto_region 12 with fail
  go_cut [24] (fun s24 wx => s24 = .int .i64 140 ∧ Below w6.heap.size w6 wx)
  case first =>
    go_region_law (first
      | (refine step_append_Rd _ rfl (.tmp 82) (.tmp 84) _ rfl w6.heap.size 5 i0 _ 1 1 Try.underlying22 hi0 hz0 hz1 hz2 rfl v7 (Y.take 100).length _ rfl ho7 A1c (4096 - 100) _ _ rfl (BR.below (BR.drew r1') hb11) (one_bv _) (by omega) (by simp only [maxLen]; omega) hb11.size ?_; intro v8 w8 hown8 hg8 _ _; have ho8 : OB w8 w6.heap.size v8 (Y.take 100 ++ X.drop 100) := OB.of_own hown8 (by rw [show (X.drop 100).take (4096 - 100) = X.drop 100 from List.take_of_length_le (by rw [List.length_drop, HX.out]; omega), List.map_append]); have hb12 := gr_own (a := w6) ⟨hb11.os, hb11.tape, hb11.output, hb11.size, hb11.block⟩ ho7 hg8; clear ho7 hg8 hown8; obtain ⟨At, ct, rfl, rt, hct, _⟩ := ho8.formN (n := 4096) HTL.out)
      | (go_simp; go_at_call 19; refine CB.out.mono ?_; rintro e w7 ⟨v7, rfl, ho7, hb11⟩)
      | (go_simp; go_at_call 30; refine (Open_any At ct _ _ rt hct).mono ?_; rw [HTN.out]; rintro e w9 ⟨v9, rfl, _, hb13⟩))
    all_goals
      go_wp2_with fail
      go_meet
      exact ⟨rfl, gr_trans hb12 hb13⟩
  case rest =>
    obtain ⟨rfl, hbt⟩ := hcut
    go_wp2_with fail
    refine (Of_any (-1) 0 _).mono ?_
    rintro e w' ⟨rfl, rfl⟩
    rw [show ((-1 : Int) % 4294967296 * 4294967296 + 0 % 4294967296) = 18446744069414584320 from by decide]
    go_wp2_with fail
    refine (awake04_any _).mono ?_
    rintro e w10 ⟨rfl, hb14⟩
    go_wp2
    go_ret
    exact ⟨rfl, gr_trans (gr_trans hb10 hbt) hb14⟩

end Go.Proofs.Ytecndamoomkhnaa
