/-
  The reference of chapter 05: Encode.
-/
import Derived.Test.YthpjjoahffagcaaRgA
namespace Go.Proofs.Ythpjjoahffagcaa
open Go.RowKit

/-- The bytes written so far. -/
structure ES (w0 w : World) (A : Option Addr) (c : Nat) (L : List UInt8) : Prop where
  ob : OB w w0.heap.size (.slice A L.length c) L
  bel : Below w0.heap.size w0 w
section
variable {w0 w w' : World} {A : Option Addr} {c : Nat} {L : List UInt8}
theorem ES.nil (w0 : World) : ES w0 w0 none 0 [] := ⟨OB.nil _ _, gr_refl _⟩
theorem ES.below (h : ES w0 w A c L) (hb : Below w.heap.size w w') : ES w0 w' A c L := ⟨h.ob.below hb, gr_trans h.bel hb⟩
theorem ES.br (h : ES w0 w A c L) : BR w A L.length L := by
  obtain ⟨A', c', e, hr, _, _⟩ := h.ob.form
  injection e with e _ _
  subst e
  exact hr
/-- What ref01.Add does to them. -/
theorem ES.add (h : ES w0 w A c L) (v s : Nat) (hL : L.length ≤ 211106232532984) (hs : s ≤ 8) (hv : v < 18446744073709551616) :
    Calls Try.prog 49 #[.slice A L.length c, .int .u64 v, .int .i64 s] w fun e w' => ∃ A' c' M, e = .returned (.slice A' (List.length M) c') ∧ Hid (M = L ++ leB v s) ∧ M.length ≤ L.length + s ∧ Hid (ES w0 w' A' c' M) ∧ Hid (Below w.heap.size w w') := by
  refine (refAdd_any A L.length c L w v s h.br hL hs hv).mono ?_
  rintro e w' ⟨r, rfl, ho, hb⟩
  obtain ⟨A', c', e, _, _, _⟩ := ho.form
  subst e
  exact ⟨A', c', _, rfl, Lib.hid rfl, by rw [List.length_append, leB_length]; exact Nat.le_refl _, Lib.hid ⟨ho.lower h.bel.size, gr_trans h.bel hb⟩, Lib.hid hb⟩
theorem ES.part (h : ES w0 w A c L) (B : Option Addr) (m d : Nat) (p : List UInt8) (hp : BR w B m p) (hL : L.length ≤ 211106232467456) (hm : m ≤ 65535) :
    Calls Try.prog 50 #[.slice A L.length c, .slice B m d] w fun e w' => ∃ A' c' M, e = .returned (.tuple #[.slice A' (List.length M) c', .int .i64 0]) ∧ Hid (M = L ++ (leB m 2 ++ p)) ∧ M.length ≤ L.length + (2 + m) ∧ Hid (ES w0 w' A' c' M) ∧ Hid (Below w.heap.size w w') := by
  refine (refAddPart_fits A B L.length c m d L p w h.br hp hL hm).mono ?_
  rintro e w' ⟨r, rfl, ho, hb⟩
  obtain ⟨A', c', e, _, _, _⟩ := ho.form
  subst e
  exact ⟨A', c', _, rfl, Lib.hid (List.append_assoc _ _ _), by rw [List.length_append, List.length_append, leB_length, hp.len]; omega, Lib.hid ⟨ho.lower h.bel.size, gr_trans h.bel hb⟩, Lib.hid hb⟩
end
theorem leB_one (k : Nat) (_hk : k < 256) : leB k 1 = [UInt8.ofNat k] := by
  simp [leB]

set_option maxRecDepth 100000 in
set_option maxHeartbeats 8000000 in
theorem refEncode_yes (k tx : Nat) (A : Option Addr) (n d : Nat) (cs : List Ch) (w : World) (hc : CR w A n cs) (hr : (Rec.mk k tx cs).right = true) :
    Calls Try.prog 26 #[.agg #[.int .u8 (k : Int), .int .i64 (tx : Int), .slice A n d]] w fun e w' => ∃ v, e = .returned (.tuple #[v, .int .i64 0]) ∧ OB w' w.heap.size v (encR ⟨k, tx, cs⟩) ∧ Below w.heap.size w w' := by
  obtain ⟨g1, g2, g3, g4, g5⟩ := right_good hr
  simp only at g1 g2 g3 g4 g5
  have hlen := hc.len
  have hB := gr_alloc (gr_refl w) (.cells #[.int .u8 (k : Int), .int .i64 (tx : Int), .slice A n d] 38)
  have X := refRight_any (k : Int) (tx : Int) A n d cs _ (hc.below hB) (by omega) (fun c hc => by have h := g5 c hc; unfold chG at h; omega) (fun c hc => by have h := g5 c hc; unfold chG at h; omega) (fun c hc p hp => by have h := (g5 c hc).2.2.2.2 p hp; unfold pcG at h; omega)
  have hr' : rightR (k : Int) (tx : Int) cs = true := hr
  rw [hr'] at X
  have HX := Lib.hid X
  have HBX := Lib.hid (B3.new w (.int .u8 (k : Int)) (.int .i64 (tx : Int)) (.slice A n d) (t := 38) (by decide))
  have HB := Lib.hid hB
  have HC := Lib.hid (hc.below hB)
  have HSM := Lib.hid (encB_small hr)
  have G5 := Lib.hid g5
  have HLN := Lib.hid hlen
  have b1 : (0 : Int) ≤ (k : Int) := Int.natCast_nonneg _
  have b2 : (k : Int) ≤ 255 := by omega
  have b3 : (0 : Int) ≤ (tx : Int) := Int.natCast_nonneg _
  have b4 : (tx : Int) ≤ 4611686018427387904 := g3
  have b5 : (0 : Int) ≤ (n : Int) := Int.natCast_nonneg _
  have b6 : (n : Int) ≤ 16 := by omega
  have hk4 : k < 256 := by omega
  have hx4 : tx < 18446744073709551616 := by omega
  clear hr hr' hc X g1 g2 g3 g5 hlen
  go_enter Try.func26, Try.ntmps26
  go_wp2_with fail
  generalize w.alloc (.cells #[.int .u8 (k : Int), .int .i64 (tx : Int), .slice A n d] 38) = wA at *
  refine HX.out.mono ?_
  rintro e w1 ⟨rfl, hb1⟩
  have HBX1 := Lib.hid (HBX.out.nb (NB.below hb1))
  have r0 := HBX1.out.c0
  have ES1 := Lib.hid ((ES.nil wA).below hb1)
  clear hb1 HX HBX
  go_wp2_with fail
  clear r0
  refine (ES1.out.add k 1 (by simp) (by omega) (by omega)).mono ?_
  rintro e w2 ⟨A2, c2, L2, rfl, HL2, hl2, ES2, HB2⟩
  have HBX2 := Lib.hid (HBX1.out.nb (NB.below HB2.out))
  have r1 := HBX2.out.c1
  clear HBX1 ES1 HB2
  go_wp2_with fail
  clear r1
  refine (ES2.out.add tx 8 (by simp at hl2; omega) (by omega) hx4).mono ?_
  rintro e w3 ⟨A3, c3, L3, rfl, HL3, hl3, ES3, HB3⟩
  have HBX3 := Lib.hid (HBX2.out.nb (NB.below HB3.out))
  have r2 := HBX3.out.c2
  clear HBX2 ES2 HB3
  go_wp2_with fail
  clear r2
  refine (ES3.out.add n 2 (by simp at hl2; omega) (by omega) (by omega)).mono ?_
  rintro e w4 ⟨A4, c4, L4, rfl, HL4, hl4, ES4, HB4⟩
  have HBX4 := Lib.hid (HBX3.out.nb (NB.below HB4.out))
  clear HBX3 ES3 HB4
  have HD : Hid (L4 = UInt8.ofNat k :: (leB tx 8 ++ leB n 2)) := Lib.hid (by rw [HL4.out, HL3.out, HL2.out, leB_one k hk4]; simp)
  have hd4 : L4.length ≤ 11 := by simp at hl2; omega
  clear HL2 HL3 HL4 hl2 hl3 hl4
  go_wp2_with fail
  have hL4 : L4.length ≤ 100 + 0 * 4300000000 := by omega
  clear hd4
  have HBA := Lib.hid HB.out
  go_loopw [4, 5, 6, 7] (fun v i _ _ wr => ∃ (j : Nat) (L : List UInt8) (Av : Option Addr) (cv : Nat), j ≤ n ∧ i = .int .i64 j ∧ v = .slice Av L.length cv ∧ L.length ≤ 100 + j * 4300000000 ∧ Hid (ES wA wr Av cv L) ∧ Hid (B3 wr w.heap.size (.int .u8 (k : Int)) (.int .i64 (tx : Int)) (.slice A n d) 38) ∧ Hid (L = UInt8.ofNat k :: (leB tx 8 ++ (leB n 2 ++ encCs (cs.take j))))) (fun _ i _ _ _ => n - (intOf i).toNat)
  case atStart => exact ⟨0, L4, A4, c4, Nat.zero_le _, rfl, rfl, hL4, ES4, HBX4, Lib.hid (by rw [HD.out]; simp [encCs])⟩
  case round =>
    clear ES4 HBX4 HD hL4
    obtain ⟨j, L, Av, cv, hj, rfl, rfl, hL, ES9, HBR, HE⟩ := hrel
    have x2 := HBR.out.c2
    by_cases hlt : j < n
    · have t1 : decide ((j : Int) < (n : Int)) = true := decide_eq_true (by omega)
      have t2 : decide (j < n) = true := decide_eq_true hlt
      have hjl : j < cs.length := by rw [HLN.out]; exact hlt
      obtain ⟨g, o, B, cB, D, cD, rfl, p0, p1, p2, p3, p4, p5, p6, p7, p8⟩ := HC.out.at_ (i := j) hlt
      have HET := Lib.hid (encCs_take hjl)
      have HG := Lib.hid (G5.out (cs.getD j ch0) (ch_mem hjl))
      generalize cs.getD j ch0 = ch at *
      obtain ⟨pg, img, pps⟩ := ch
      simp only at p0 p1 p2 p3 p4 p5 p6 p7 p8
      have hg := HG.out
      obtain ⟨pgn, rfl⟩ := Int.eq_ofNat_of_zero_le hg.1
      have i1 : (0 : Int) ≤ (pgn : Int) := Int.natCast_nonneg _
      have i2 : (pgn : Int) ≤ 4294967295 := by have := hg.2.1; simp only at this; omega
      have i3 : pgn < 18446744073709551616 := by omega
      have i4 : (0 : Int) ≤ (j : Int) := Int.natCast_nonneg _
      have i5 : (j : Int) < (n : Int) := by omega
      have i6 : pps.length ≤ 65535 := by have := hg.2.2.2.1; simp only at this; omega
      have i7 : img.length ≤ 4080 := by have := hg.2.2.1; simp only at this; omega
      have HP3 := Lib.hid p3
      have HP6 := Lib.hid p6
      have HGP := Lib.hid hg.2.2.2.2
      have hL' : L.length ≤ 64500000100 := by omega
      have p0' := keep_of_below ES9.out.bel p0
      have p1' := keep_of_below ES9.out.bel p1
      have p2' := keep_of_below ES9.out.bel p2
      clear hg hjl hlt p0 p1 p2 p3 p4 p5 p6 p7 p8
      go_upto_region 10 with fail
      have hbx := gr_alloc (gr_refl wr) (.cells #[.int .i64 (pgn : Int), .slice B img.length cB, .slice D pps.length cD] 56)
      have HCB := Lib.hid (B3.new wr (.int .i64 (pgn : Int)) (.slice B img.length cB) (.slice D pps.length cD) (t := 56) (by decide))
      have ESd := Lib.hid (ES9.out.below hbx)
      have HBd := Lib.hid (HBR.out.nb (NB.below hbx))
      clear hbx ES9 HBR p0' p1' p2' x2
      generalize wr.heap.size = cb at *
      generalize wr.alloc (.cells #[.int .i64 (pgn : Int), .slice B img.length cB, .slice D pps.length cD] 56) = Wd at *
      have c0 := HCB.out.c0
      go_wp2_with fail
      clear c0
      refine (ESd.out.add pgn 4 (by omega) (by omega) i3).mono ?_
      rintro e w5 ⟨A5, c5, L5, rfl, HL5, hl5, ES5, HB5⟩
      have HCB5 := Lib.hid (HCB.out.nb (NB.below HB5.out))
      have HBd5 := Lib.hid (HBd.out.nb (NB.below HB5.out))
      have c1 := HCB5.out.c1
      clear HCB HBd HB5 ESd
      by_cases him : 0 < img.length
      · have t3 : decide ((0 : Int) < (img.length : Int)) = true := decide_eq_true (by omega)
        have t4 : decide (0 < img.length) = true := decide_eq_true (by omega)
        go_upto_region 12 with fail
        clear c1
        have hbl6 := gr_alloc (gr_refl w5) (.cells #[.int .u8 1] 5)
        have ES6 := Lib.hid (ES5.out.below hbl6)
        have BR6 := Lib.hid (BR.litAt w5 5 [1] #[.int .u8 1] _ 1 rfl rfl rfl)
        have HCB6 := Lib.hid (HCB5.out.nb (NB.below hbl6))
        have HBd6 := Lib.hid (HBd5.out.nb (NB.below hbl6))
        clear hbl6 ES5 HCB5 HBd5
        go_upto_region 13 with (at_builtin; refine wpList_append_B _ rfl (.tmp 47) (.tmp 48) rfl rfl ES6.out.ob rfl (BR6.out) (by omega) ES6.out.bel.size ?_; intro A7 c7 W7 L7 HL7 hq7 o7 bb7 nb7; have hl7 := Nat.le_of_eq hq7; clear hq7; have ES7 := Lib.hid (ES.mk o7 (ES6.out.bel.trans bb7)); have HCB7 := Lib.hid (HCB6.out.nb nb7); have HBd7 := Lib.hid (HBd6.out.nb nb7); clear o7 bb7 nb7)
        clear ES6 HCB6 HBd6 BR6
        have c1 := HCB7.out.c1
        have HI := Lib.hid (HP3.out.below ES7.out.bel)
        go_wp2_with (at_builtin; refine wpList_append_B _ rfl (.tmp 50) (.tmp 52) rfl rfl ES7.out.ob rfl (HI.out) (by omega) ES7.out.bel.size ?_; intro A8 c8 W8 L8 HL8 hq8 o8 bb8 nb8; have hl8 := Nat.le_of_eq hq8; clear hq8; have ES8 := Lib.hid (ES.mk o8 (ES7.out.bel.trans bb8)); have HBd8 := Lib.hid (HBd7.out.nb nb8); clear o8 bb8 nb8)
        clear ES7 HI c1
        go_roundw
        case rel => exact ⟨j + 1, L8, A8, c8, by omega, by go_num, rfl, by omega, ES8, HBd8, Lib.hid (by rw [HL8.out, HL7.out, HL5.out, HE.out, HET.out]; unfold encC; simp only; rw [if_pos him]; simp)⟩
        case measure => simp [intOf]; omega
      · have t3 : decide ((0 : Int) < (img.length : Int)) = false := decide_eq_false (by omega)
        have t4 : decide (0 < img.length) = false := decide_eq_false (by omega)
        go_upto_region 14 with fail
        clear c1
        have hbl6 := gr_alloc (gr_refl w5) (.cells #[.int .u8 0] 5)
        have ES6 := Lib.hid (ES5.out.below hbl6)
        have BR6 := Lib.hid (BR.litAt w5 5 [0] #[.int .u8 0] _ 1 rfl rfl rfl)
        have HCB6 := Lib.hid (HCB5.out.nb (NB.below hbl6))
        have HBd6 := Lib.hid (HBd5.out.nb (NB.below hbl6))
        clear hbl6 ES5 HCB5 HBd5
        go_upto_region 15 with (at_builtin; refine wpList_append_B _ rfl (.tmp 54) (.tmp 55) rfl rfl ES6.out.ob rfl (BR6.out) (by omega) ES6.out.bel.size ?_; intro A7 c7 W7 L7 HL7 hq7 o7 bb7 nb7; have hl7 := Nat.le_of_eq hq7; clear hq7; have ES7 := Lib.hid (ES.mk o7 (ES6.out.bel.trans bb7)); have HCB7 := Lib.hid (HCB6.out.nb nb7); have HBd7 := Lib.hid (HBd6.out.nb nb7); clear o7 bb7 nb7)
        clear ES6 HCB6 HBd6 BR6
        have c2 := HCB7.out.c2
        go_wp2_with fail
        clear c2
        refine (ES7.out.add pps.length 2 (by omega) (by omega) (by omega)).mono ?_
        rintro e w8 ⟨A8, c8, L8, rfl, HL8, hl8, ES8, HB8⟩
        have HCB8 := Lib.hid (HCB7.out.nb (NB.below HB8.out))
        have HBd8 := Lib.hid (HBd7.out.nb (NB.below HB8.out))
        clear HCB7 HBd7 HB8 ES7
        have HE8 : Hid (L8 = UInt8.ofNat k :: (leB tx 8 ++ (leB n 2 ++ encCs (cs.take j))) ++ (leB pgn 4 ++ (0 :: leB pps.length 2))) := Lib.hid (by rw [HL8.out, HL7.out, HL5.out, HE.out]; simp)
        have hl8' : L8.length ≤ L.length + 100 := by omega
        clear hl5 hl7 hl8 HL5 HL7 HL8
        go_wp2_with fail
        go_loopw [4, 7, 79] (fun v i _ wz => ∃ (q : Nat) (M : List UInt8) (Am : Option Addr) (cm : Nat), q ≤ pps.length ∧ i = .int .i64 q ∧ v = .slice Am M.length cm ∧ M.length ≤ L.length + 100 + q * 65600 ∧ Hid (ES wA wz Am cm M) ∧ Hid (B3 wz w.heap.size (.int .u8 (k : Int)) (.int .i64 (tx : Int)) (.slice (some ⟨g, o, none⟩) n d) 38) ∧ Hid (B3 wz cb (.int .i64 (pgn : Int)) (.slice B img.length cB) (.slice D pps.length cD) 56) ∧ Hid (Below w8.heap.size w8 wz) ∧ Hid (M = L8 ++ encPs (pps.take q))) (fun _ i _ _ => pps.length - (intOf i).toNat)
        case atStart => exact ⟨0, L8, A8, c8, Nat.zero_le _, rfl, rfl, by omega, ES8, HBd8, HCB8, Lib.hid (gr_refl _), Lib.hid (by simp [encPs])⟩
        case round =>
          clear ES8 HBd8 HCB8
          obtain ⟨q, M, Am, cm, hq, rfl, rfl, hM, ESm, HBm, HCm, HBW, HEm⟩ := hrel
          have y2 := HCm.out.c2
          by_cases hlq : q < pps.length
          · have u1 : decide ((q : Int) < (pps.length : Int)) = true := decide_eq_true (by omega)
            have u2 : decide (q < pps.length) = true := decide_eq_true hlq
            obtain ⟨gp, op, Bp, cp, rfl, z1, z2, z3, z4, z5⟩ := HP6.out.at_ (i := q) hlq
            have HPT := Lib.hid (encPs_take hlq)
            have hgp := HGP.out _ (pc_mem hlq)
            generalize pps.getD q (0, []) = pc at *
            obtain ⟨pa, pb⟩ := pc
            simp only at z1 z2 z3 z4 z5
            obtain ⟨pan, rfl⟩ := Int.eq_ofNat_of_zero_le hgp.1
            have v1 : (0 : Int) ≤ (pan : Int) := Int.natCast_nonneg _
            have v2 : (pan : Int) ≤ 65535 := by have := hgp.2.1; simp only at this; omega
            have v3 : pan < 18446744073709551616 := by omega
            have v4 : (0 : Int) ≤ (q : Int) := Int.natCast_nonneg _
            have v5 : (q : Int) < (pps.length : Int) := by omega
            have v6 : pb.length ≤ 65535 := by have := hgp.2.2; simp only at this; omega
            have Z1 := Lib.hid z1
            have Z2 := Lib.hid z2
            have Z3 := Lib.hid z3
            have k1 := keep_of_below ESm.out.bel z1
            clear hgp z1 z2 z3 z4 z5
            go_wp2_with fail
            refine (ESm.out.add pan 2 (by omega) (by omega) v3).mono ?_
            rintro e wy ⟨Ay, cy, My, rfl, HLy, hly, ESy, HBy⟩
            have HCy := Lib.hid (HCm.out.nb (NB.below HBy.out))
            have HDy := Lib.hid (HBm.out.nb (NB.below HBy.out))
            have y3 := HCy.out.c2
            have k2 := keep_of_below ESy.out.bel Z2.out
            clear y2 k1 HBm HCm ESm
            go_wp2_with fail
            refine (ESy.out.part Bp pb.length cp pb (Z3.out.below ESy.out.bel) (by omega) v6).mono ?_
            rintro e wx ⟨Ax, cx, Mx, rfl, HLx, hlx, ESx, HBx⟩
            have HCx := Lib.hid (HCy.out.nb (NB.below HBx.out))
            have HDx := Lib.hid (HDy.out.nb (NB.below HBx.out))
            have HWx := Lib.hid (gr_trans (gr_trans HBW.out HBy.out) HBx.out)
            clear y3 k2 HCy HDy ESy HBy HBx
            go_wp2_with fail
            go_roundw
            case rel => exact ⟨q + 1, Mx, Ax, cx, by omega, by go_num, rfl, by omega, ESx, HDx, HCx, HWx, Lib.hid (by rw [HLx.out, HLy.out, HEm.out, HPT.out]; unfold encP; simp)⟩
            case measure => simp [intOf]; omega
          · obtain rfl : q = pps.length := by omega
            have u1 : decide ((pps.length : Int) < (pps.length : Int)) = false := decide_eq_false (by omega)
            have hm7 : M.length ≤ L.length + 4299999999 := by omega
            go_wp2_with fail
            go_roundw
            case rel => exact ⟨j + 1, M, Am, cm, by omega, by go_num, rfl, by omega, ESm, HBm, Lib.hid (by rw [HEm.out, HE8.out, HET.out, List.take_of_length_le (Nat.le_refl _)]; unfold encC; simp only; rw [if_neg him]; simp)⟩
            case measure => simp [intOf]; omega
    · obtain rfl : j = n := by omega
      have t1 : decide ((j : Int) < (j : Int)) = false := decide_eq_false (by omega)
      have HFIN : Hid (L = encB ⟨k, tx, cs⟩) := Lib.hid (by rw [HE.out, List.take_of_length_le (Nat.le_of_eq HLN.out)]; unfold encB; simp only; rw [HLN.out]; rfl)
      have hsm : L.length ≤ 400000 := by rw [HFIN.out]; exact HSM.out
      go_wp2_with fail
      refine ((ES.nil wr).add L.length 4 (by simp) (by omega) (by omega)).mono ?_
      rintro e w5 ⟨A5, c5, L5, rfl, HL5, hl5, ES5, HB5⟩
      have HBRL := Lib.hid (ES9.out.br.below HB5.out)
      simp only [List.length_nil, Nat.zero_add] at hl5
      go_wp2_with (at_builtin; refine wpList_append_B _ rfl (.tmp 93) (.tmp 94) rfl rfl ES5.out.ob rfl (HBRL.out) (by omega) ES5.out.bel.size ?_; intro A8 c8 W8 L8 HL8 hq8 o8 bb8 nb8; have OB8 := Lib.hid o8; have HB8 := Lib.hid (HB5.out.trans bb8); clear hq8 o8 bb8 nb8)
      go_ret2
      refine ⟨_, rfl, ?_, gr_trans HBA.out (gr_trans ES9.out.bel HB8.out)⟩
      have e8 : L8 = encR ⟨k, tx, cs⟩ := by rw [HL8.out, HL5.out, HFIN.out]; rfl
      rw [← e8]
      exact OB8.out.lower (gr_trans HBA.out ES9.out.bel).size

end Go.Proofs.Ythpjjoahffagcaa
