/-
  The walk of RolesRise.
-/
import Derived.Test.YtfgkadkmgciamaaRoT
import Derived.Deep.CutBlock
namespace Go.Proofs.Ytfgkadkmgciamaa
open Go Go.RowKit

set_option maxRecDepth 100000 in
set_option maxHeartbeats 8000000 in
theorem RolesRise_any (A : Option Addr) (n c : Nat) (l : List Mb) (B : Option Addr) (nb cb : Nat) (ol : List Bool) (q : Mb) (w : World) (h : ER EM 2 w A n l) (hB : LR w B nb ol) (_hn : n ≤ 4398046511103) (_hnb : nb ≤ 9223372036854775807) (hf : Fit l) (hq1 : q.1.length ≤ maxLen) (hq2 : q.2.length ≤ maxLen) :
    Calls Try.prog 7 #[.slice A n c, .slice B nb cb, .agg #[.string ⟨q.1.toArray⟩, .string ⟨q.2.toArray⟩]] w fun e w' => e = .returned (.bool true) ∧ Below w.heap.size w w' := by
  obtain ⟨i0, z, hi0, hz0, hzs, hz1, hz2⟩ := info_Str'
  have HA := Lib.hid (gr_alloc (gr_refl w) (.cells #[.string ⟨q.1.toArray⟩, .string ⟨q.2.toArray⟩] 52))
  have HC := Lib.hid (heap_alloc_new w (.cells #[.string ⟨q.1.toArray⟩, .string ⟨q.2.toArray⟩] 52))
  have HS := Lib.hid h
  have HLB := Lib.hid hB
  have HF := Lib.hid hf
  have HQ1 := Lib.hid hq1
  have HQ2 := Lib.hid hq2
  clear h hf hq1 hq2 hB
  go_enter Try.func7, Try.ntmps7
  go_upto_region 1 with fail
  generalize w.alloc (.cells #[.string ⟨q.1.toArray⟩, .string ⟨q.2.toArray⟩] 52) = w1 at *
  have c0 : w1.cell? ⟨w.heap.size, 0, none⟩ = some (.string ⟨q.1.toArray⟩) := by rw [cell_of_row w1 _ 0 _ _ _ HC.out]; rfl
  have c1 : w1.cell? ⟨w.heap.size, 1, none⟩ = some (.string ⟨q.2.toArray⟩) := by rw [cell_of_row w1 _ 1 _ _ _ HC.out]; rfl
  go_upto_region 2 with (go_quiet (fail))
  have HB2 := Lib.hid (HA.out.trans ((gr_drewN (gr_refl w1) nq).mono HA.out.size))
  generalize w1.drewN nq = w2 at *
  clear c0 c1 HC HA
  go_upto_block 0 with fail
  go_cut [9, 10, 11, 12] (fun s9 _ _ _ wx => ∃ m, RM 40 m s9 wx ∧ Below w.heap.size w wx)
  case first =>
    go_wp2_with fail
    go_loopw [9, 10, 11, 12] (fun v i _ _ wr => ∃ (k : Nat) (m : List Mb), k ≤ n ∧ k ≤ 40 ∧ i = .int .i64 (k : Int) ∧ RM k m v wr ∧ Below w.heap.size w wr) (fun _ i _ _ _ => 40 - (intOf i).toNat)
    case atStart => exact ⟨0, [], Nat.zero_le _, Nat.zero_le _, rfl, RM.start _ _, HB2.out⟩
    case round =>
      clear HB2
      obtain ⟨k, m, hkn, hk4, rfl, ⟨⟨Am, cm, rfl, hem⟩, hac, hfm, hml⟩, hbw⟩ := hrel
      have HAC := Lib.hid hac
      have HFM := Lib.hid hfm
      have HML := Lib.hid hml
      have HE := Lib.hid hem
      have HBW := Lib.hid hbw
      clear hac hfm hml hem
      by_cases hlt : k < n ∧ k < 40
      · have t1 : decide ((k : Int) < (n : Int)) = true := decide_eq_true (by omega)
        have t2 : decide (k < n) = true := decide_eq_true hlt.1
        have t3 : decide ((k : Int) < 40) = true := decide_eq_true (by omega)
        have i0' : (0 : Int) ≤ (k : Int) := Int.natCast_nonneg _
        have i1' : (k : Int) < (n : Int) := by omega
        obtain ⟨g, o, x, rfl, hx, q0, q1⟩ := (HS.out.below hbw).atMb hlt.1
        have HQ0 := Lib.hid q0
        have HQ1' := Lib.hid q1
        have HXF := Lib.hid (HF.out x (List.mem_of_getElem? hx))
        have HLB1 := Lib.hid (HLB.out.below hbw)
        clear hx hbw
        have hmn := HML.out
        go_wp2_with fail
        refine (Join_any Am m.length cm m x wr HE.out (by omega) HFM.out HXF.out.2).mono ?_
        rintro e w3 ⟨hj, hb3⟩
        obtain ⟨v, r, out, rfl, hjq, ho⟩ := hj.q
        have HK := Lib.hid (hjq.kept HAC.out HFM.out HXF.out)
        have HO3 := Lib.hid ho
        have HE3 := Lib.hid (HE.out.below hb3)
        have HB3 := Lib.hid (HBW.out.trans (hb3.mono HBW.out.size))
        have HLB3 := Lib.hid (HLB1.out.below hb3)
        have p0 := keep_of_below hb3 HQ0.out
        have p1 := keep_of_below hb3 HQ1'.out
        clear hj hjq ho hb3 q0 q1 HLB1
        by_cases hkb : k < nb
        · have t4 : decide ((k : Int) < (nb : Int)) = true := decide_eq_true (by omega)
          have t5 : decide (k < nb) = true := decide_eq_true hkb
          have i2' : (k : Int) < (nb : Int) := by omega
          obtain ⟨g2, o2, hBe, y0⟩ := HLB3.out.at_ hkb
          cases hBe
          obtain ⟨b, hb⟩ : ∃ b, b = ol.getD k false := ⟨_, rfl⟩
          rw [← hb] at y0
          clear hb
          cases b
          · clear p0 p1
            by_cases hr : r = 0
            · subst hr
              have te : ((0 : Int) == 0) = true := rfl
              obtain ⟨A5, c5, rfl, h5, _, _⟩ := HO3.out.form
              have HR5 := Lib.hid h5
              clear h5
              go_wp2_with fail
              go_roundw
              case rel => exact ⟨k + 1, out, by omega, by omega, by go_num, ⟨⟨A5, c5, rfl, HR5.out⟩, (HK.out rfl).1, (HK.out rfl).2.1, Nat.le_trans (HK.out rfl).2.2 (Nat.succ_le_succ HML.out)⟩, HB3.out⟩
              case measure => simp [intOf]; omega
            · have te : (r == 0) = false := beq_eq_false_iff_ne.2 hr
              clear hr
              go_wp2_with fail
              go_roundw
              case rel => exact ⟨k + 1, m, by omega, by omega, by go_num, ⟨⟨Am, cm, rfl, HE3.out⟩, HAC.out, HFM.out, Nat.le_succ_of_le HML.out⟩, HB3.out⟩
              case measure => simp [intOf]; omega
          · clear HK HO3
            have P0 := Lib.hid p0
            have P1 := Lib.hid p1
            go_upto_region 8 with fail
            clear y0
            go_wp2_with fail
            refine (Leave_any Am m.length cm m x w3 HE3.out (by omega)).mono ?_
            rintro e w4 ⟨hj, hb4⟩
            obtain ⟨v', r, out, rfl, hjq, ho⟩ := hj.q
            have HK := Lib.hid (hjq.kept HAC.out HFM.out)
            have HO4 := Lib.hid ho
            have HE4 := Lib.hid (HE3.out.below hb4)
            have HB4 := Lib.hid (HB3.out.trans (hb4.mono HB3.out.size))
            clear hj hjq ho hb4
            by_cases hr : r = 0
            · subst hr
              have te : ((0 : Int) == 0) = true := rfl
              obtain ⟨A5, c5, rfl, h5, _, _⟩ := HO4.out.form
              have HR5 := Lib.hid h5
              clear h5
              go_wp2_with fail
              go_roundw
              case rel => exact ⟨k + 1, out, by omega, by omega, by go_num, ⟨⟨A5, c5, rfl, HR5.out⟩, (HK.out rfl).1, (HK.out rfl).2.1, Nat.le_trans (HK.out rfl).2.2 (Nat.succ_le_succ HML.out)⟩, HB4.out⟩
              case measure => simp [intOf]; omega
            · have te : (r == 0) = false := beq_eq_false_iff_ne.2 hr
              clear hr
              go_wp2_with fail
              go_roundw
              case rel => exact ⟨k + 1, m, by omega, by omega, by go_num, ⟨⟨Am, cm, rfl, HE4.out⟩, HAC.out, HFM.out, Nat.le_succ_of_le HML.out⟩, HB4.out⟩
              case measure => simp [intOf]; omega
        · have t4 : decide ((k : Int) < (nb : Int)) = false := decide_eq_false (by omega)
          have t5 : decide (k < nb) = false := decide_eq_false hkb
          clear p0 p1
          by_cases hr : r = 0
          · subst hr
            have te : ((0 : Int) == 0) = true := rfl
            obtain ⟨A5, c5, rfl, h5, _, _⟩ := HO3.out.form
            have HR5 := Lib.hid h5
            clear h5
            go_wp2_with fail
            go_roundw
            case rel => exact ⟨k + 1, out, by omega, by omega, by go_num, ⟨⟨A5, c5, rfl, HR5.out⟩, (HK.out rfl).1, (HK.out rfl).2.1, Nat.le_trans (HK.out rfl).2.2 (Nat.succ_le_succ HML.out)⟩, HB3.out⟩
            case measure => simp [intOf]; omega
          · have te : (r == 0) = false := beq_eq_false_iff_ne.2 hr
            clear hr
            go_wp2_with fail
            go_roundw
            case rel => exact ⟨k + 1, m, by omega, by omega, by go_num, ⟨⟨Am, cm, rfl, HE3.out⟩, HAC.out, HFM.out, Nat.le_succ_of_le HML.out⟩, HB3.out⟩
            case measure => simp [intOf]; omega
      · have HR : Hid (RM 40 m (.slice Am m.length cm) wr) := Lib.hid ⟨⟨Am, cm, rfl, HE.out⟩, HAC.out, HFM.out, Nat.le_trans HML.out hk4⟩
        by_cases h1 : k < n
        · have t1 : decide ((k : Int) < (n : Int)) = true := decide_eq_true (by omega)
          have t3 : decide ((k : Int) < 40) = false := decide_eq_false (by omega)
          go_wp2_with fail
          go_meet
          exact ⟨m, HR.out, hbw⟩
        · have t1 : decide ((k : Int) < (n : Int)) = false := decide_eq_false (by omega)
          go_wp2_with fail
          go_meet
          exact ⟨m, HR.out, hbw⟩
  case rest =>
    obtain ⟨m, ⟨⟨Am, cm, rfl, hem⟩, hac, hfm, hml⟩, hbw⟩ := hcut
    obtain ⟨cl, hcl⟩ := clos_exists m q.1
    obtain ⟨dl, hdl⟩ := clos_exists m q.2
    have HCL := Lib.hid hcl
    have HDL := Lib.hid hdl
    have hcn := clos_len hcl
    have hdn := clos_len hdl
    have HAC := Lib.hid hac
    have HFM := Lib.hid hfm
    have HE := Lib.hid hem
    have HBW := Lib.hid hbw
    clear hac hfm hem hbw hcl hdl HB2
    go_wp2_with fail
    refine (Closure_at HCL.out Am m.length cm wc HE.out (by omega) HFM.out HQ1.out).mono ?_
    rintro e w4 ⟨v4, rfl, ho4, hb4⟩
    obtain ⟨A4, c4, rfl, hr4, _, _⟩ := ho4.form
    have HR4 := Lib.hid hr4
    have HE4 := Lib.hid (HE.out.below hb4)
    have HB4 := Lib.hid (HBW.out.trans (hb4.mono HBW.out.size))
    clear ho4 hr4 hb4
    go_wp2_with fail
    refine (Closure_at HDL.out Am m.length cm w4 HE4.out (by omega) HFM.out HQ2.out).mono ?_
    rintro e w5 ⟨v5, rfl, ho5, hb5⟩
    obtain ⟨A5, c5, rfl, hr5, _, _⟩ := ho5.form
    have HR5 := Lib.hid hr5
    have HR4' := Lib.hid (HR4.out.below hb5)
    have HE5 := Lib.hid (HE4.out.below hb5)
    have HB5 := Lib.hid (HB4.out.trans (hb5.mono HB4.out.size))
    clear ho5 hr5 hb5
    go_wp2_with fail
    go_loopg [15, 17, 19] (cl.length) (fun gk s i _ wr => ∃ (k : Nat), gk + k = cl.length ∧ i = .int .i64 (k : Int) ∧ s = .bool ((cl.take k).contains q.2) ∧ Below w5.heap.size w5 wr)
    case atStart => exact ⟨0, by omega, rfl, by simp, gr_refl w5⟩
    case round =>
      obtain ⟨k, hkk, rfl, rfl, hbr⟩ := hrel
      have HBR := Lib.hid hbr
      by_cases hlt : k < cl.length
      · have t1 : decide ((k : Int) < (cl.length : Int)) = true := decide_eq_true (by omega)
        have t2 : decide (k < cl.length) = true := decide_eq_true hlt
        have i0' : (0 : Int) ≤ (k : Int) := Int.natCast_nonneg _
        have i1' : (k : Int) < (cl.length : Int) := by omega
        obtain ⟨g, o, x, hAe, hx, q0⟩ := (HR4'.out.below hbr).atStr hlt
        subst hAe
        have HX := Lib.hid hx
        have HXM := Lib.hid (List.mem_of_getElem? hx)
        have HT := Lib.hid (contains_take (s := q.2) hx)
        have heq := fun W => run_eqlS 9 x q.2 W
        obtain ⟨b, hb⟩ : ∃ b, b = (cl.take k).contains q.2 := ⟨_, rfl⟩
        rw [← hb] at HT ⊢
        clear hb hx hbr
        go_upto_region 16 with fail
        go_cut [15] (fun s wx => s = .bool ((cl.take (k + 1)).contains q.2) ∧ wr = wx)
        case first =>
          cases b
          · go_wp2_with fail
            go_meet
            exact ⟨by rw [HT.out]; rfl, rfl⟩
          · go_wp2_with fail
            go_meet
            exact ⟨by rw [HT.out]; rfl, rfl⟩
        case rest =>
          obtain ⟨rfl, rfl⟩ := hcut
          clear heq
          go_upto_region 17 with fail
          go_cut [104] (fun s wx => s = .bool false ∧ Below wr.heap.size wr wx)
          case first =>
            cases k with
            | zero =>
              have z0 : ((0 : Nat) : Int) = 0 := rfl
              rw [z0]
              go_quiet (fail)
              go_wp2_with fail
              go_meet
              exact ⟨rfl, gr_drewN (gr_refl wr) nq⟩
            | succ k =>
              obtain ⟨g', o', y, hAe, hy, q1⟩ := (HR4'.out.below HBR.out).atStr (i := k) (by omega)
              cases hAe
              have hxy := rise_at HCL.out.1 hy HX.out
              have l1 : Op.bytesLess x y = false := by rw [bytesLess_lt]; exact decide_eq_false fun k => lt_irr _ (List.lt_trans hxy k)
              have l2 : (x == y) = false := beq_eq_false_iff_ne.2 fun e => by subst e; exact lt_irr _ hxy
              clear hxy
              have t3 : decide (0 < (k : Int) + 1) = true := decide_eq_true (by omega)
              have hk1 : (((k + 1 : Nat) : Int) - 1) = (k : Int) := by omega
              have j0 : (0 : Int) ≤ (k : Int) := Int.natCast_nonneg _
              have j1 : (k : Int) < (cl.length : Int) := by omega
              have j3 : (0 : Int) ≤ (k : Int) + 1 := by omega
              have j4 : (k : Int) + 1 < (cl.length : Int) := by omega
              clear hy
              go_quiet (fail)
              go_wp2_with fail
              go_meet
              exact ⟨rfl, gr_drewN (gr_refl wr) nq⟩
          case rest =>
            obtain ⟨rfl, hbc⟩ := hcut
            have p0 := keep_of_below hbc q0
            have HBC := Lib.hid (HBR.out.trans (hbc.mono HBR.out.size))
            clear q0 hbc
            obtain ⟨el, hel⟩ := clos_exists m x
            have HEL := Lib.hid hel
            have hen := clos_len hel
            clear hel
            go_wp2_with fail
            refine (Closure_at HEL.out Am m.length cm wc (HE5.out.below HBC.out) (by omega) HFM.out ?_).mono ?_
            · exact (clos_fit HCL.out HFM.out HQ1.out _ HXM.out)
            rintro e w6 ⟨v6, rfl, ho6, hb6⟩
            obtain ⟨A6, c6, rfl, hr6, _, _⟩ := ho6.form
            have HR6 := Lib.hid hr6
            have HB6 := Lib.hid (HBC.out.trans (hb6.mono HBC.out.size))
            clear ho6 hr6 hb6 p0
            go_wp2_with fail
            go_loopw [19, 112] (fun _ i wr => ∃ (j : Nat), j ≤ el.length ∧ i = .int .i64 (j : Int) ∧ wr = w6) (fun _ i _ => el.length - (intOf i).toNat)
            case atStart => exact ⟨0, Nat.zero_le _, rfl, rfl⟩
            case round =>
              obtain ⟨j, hj, rfl, rfl⟩ := hrel
              by_cases hlj : j < el.length
              · have t1 : decide ((j : Int) < (el.length : Int)) = true := decide_eq_true (by omega)
                have t2 : decide (j < el.length) = true := decide_eq_true hlj
                have i0' : (0 : Int) ≤ (j : Int) := Int.natCast_nonneg _
                have i1' : (j : Int) < (el.length : Int) := by omega
                obtain ⟨g6, o6, z6, hAe, hz, q6⟩ := HR6.out.atStr hlj
                subst hAe
                have HZ : Hid (cl.contains z6 = true) := Lib.hid (List.contains_iff_mem.2 ((HCL.out.2 _).2 (((HCL.out.2 _).1 HXM.out).trans ((HEL.out.2 _).1 (List.mem_of_getElem? hz)))))
                clear hz
                go_wp2_with fail
                refine (has21_any _ cl.length c4 cl z6 wr (SL_of_ER (HR4'.out.below HB6.out)) (by omega)).mono ?_
                rintro e w7 ⟨rfl, rfl⟩
                rw [HZ.out]
                go_wp2_with fail
                go_roundw
                case rel => exact ⟨j + 1, by omega, by go_num, by trivial⟩
                case measure => simp [intOf]; omega
              · obtain rfl : j = el.length := by omega
                have t1 : decide ((el.length : Int) < (el.length : Int)) = false := decide_eq_false (by omega)
                go_wp2_with fail
                go_roundg (gk - 1)
                case measure => omega
                case rel => exact ⟨k + 1, by omega, by go_num, by simp, HB6.out⟩
      · obtain rfl : k = cl.length := by omega
        have t1 : decide ((cl.length : Int) < (cl.length : Int)) = false := decide_eq_false (by omega)
        obtain ⟨bx, hbx⟩ : ∃ b, b = cl.contains q.2 := ⟨_, rfl⟩
        rw [List.take_of_length_le (Nat.le_refl _), ← hbx]
        have HBX := Lib.hid hbx
        have HR4b := Lib.hid (HR4'.out.below HBR.out)
        have HR5b := Lib.hid (HR5.out.below HBR.out)
        have HEb := Lib.hid (HE5.out.below HBR.out)
        have HBb := Lib.hid (HB5.out.trans (HBR.out.mono HB5.out.size))
        clear hbx hbr hlt HBR HR4 HR4' HR5 HE5 HE4 HB4 HE HBW
        generalize hw8 : wr = w8 at *
        clear hw8
        go_wp2_with fail
        go_loopw [16, 20] (fun s i wr => ∃ (k : Nat), k ≤ dl.length ∧ i = .int .i64 (k : Int) ∧ s = .bool ((dl.take k).contains q.1) ∧ wr = w8) (fun _ i _ => dl.length - (intOf i).toNat)
        case atStart => exact ⟨0, Nat.zero_le _, rfl, by simp, rfl⟩
        case round =>
          obtain ⟨k, hk, rfl, rfl, rfl⟩ := hrel
          by_cases hlt : k < dl.length
          · have t1 : decide ((k : Int) < (dl.length : Int)) = true := decide_eq_true (by omega)
            have t2 : decide (k < dl.length) = true := decide_eq_true hlt
            have i0' : (0 : Int) ≤ (k : Int) := Int.natCast_nonneg _
            have i1' : (k : Int) < (dl.length : Int) := by omega
            obtain ⟨g, o, x, hAe, hx, q0⟩ := HR5b.out.atStr hlt
            subst hAe
            have HT := Lib.hid (contains_take (s := q.1) hx)
            have heq := fun W => run_eqlS 9 x q.1 W
            obtain ⟨b, hb⟩ : ∃ b, b = (dl.take k).contains q.1 := ⟨_, rfl⟩
            rw [← hb] at HT ⊢
            clear hb hx
            cases b
            · go_wp2_with fail
              go_roundw
              case rel => exact ⟨k + 1, by omega, by go_num, by rw [HT.out]; rfl, by trivial⟩
              case measure => simp [intOf]; omega
            · go_wp2_with fail
              go_roundw
              case rel => exact ⟨k + 1, by omega, by go_num, by rw [HT.out]; rfl, by trivial⟩
              case measure => simp [intOf]; omega
          · obtain rfl : k = dl.length := by omega
            have t1 : decide ((dl.length : Int) < (dl.length : Int)) = false := decide_eq_false (by omega)
            obtain ⟨bz, hbz⟩ : ∃ b, b = dl.contains q.1 := ⟨_, rfl⟩
            rw [List.take_of_length_le (Nat.le_refl _), ← hbz]
            have HBZ := Lib.hid hbz
            have HA1 : Hid (cl.contains q.1 = true) := Lib.hid (List.contains_iff_mem.2 ((HCL.out.2 _).2 .refl))
            have HA2 : Hid (dl.contains q.2 = true) := Lib.hid (List.contains_iff_mem.2 ((HDL.out.2 _).2 .refl))
            have HBAD : Hid (bx = true → bz = true → q.1 = q.2) := Lib.hid (fun e1 e2 => HAC.out _ _ ((HCL.out.2 _).1 (List.contains_iff_mem.1 (by rw [← HBX.out]; exact e1))) ((HDL.out.2 _).1 (List.contains_iff_mem.1 (by rw [← HBZ.out]; exact e2))))
            clear hbz hlt hk HBX HBZ
            generalize hw8 : wr = w8 at *
            clear hw8
            go_upto_region 29 with fail
            go_cut [156] (fun s wx => s = .bool false ∧ w8 = wx)
            case first =>
              have hneq := fun W => run_neqS 9 q.1 q.2 W
              by_cases hq : q.1 = q.2
              · have te : (q.1 == q.2) = true := beq_iff_eq.2 hq
                clear hq
                go_wp2_with fail
                refine (has21_any A4 cl.length c4 cl q.1 w8 (SL_of_ER HR4b.out) (by omega)).mono ?_
                rintro e w9 ⟨rfl, rfl⟩
                rw [HA1.out]
                go_wp2_with fail
                refine (has21_any A5 dl.length c5 dl q.2 w8 (SL_of_ER HR5b.out) (by omega)).mono ?_
                rintro e w9 ⟨rfl, rfl⟩
                rw [HA2.out]
                go_wp2_with fail
                go_meet
                exact ⟨rfl, rfl⟩
              · have te : (q.1 == q.2) = false := beq_eq_false_iff_ne.2 hq
                cases bx
                · clear hq
                  go_wp2_with fail
                  refine (has21_any A4 cl.length c4 cl q.1 w8 (SL_of_ER HR4b.out) (by omega)).mono ?_
                  rintro e w9 ⟨rfl, rfl⟩
                  rw [HA1.out]
                  go_wp2_with fail
                  refine (has21_any A5 dl.length c5 dl q.2 w8 (SL_of_ER HR5b.out) (by omega)).mono ?_
                  rintro e w9 ⟨rfl, rfl⟩
                  rw [HA2.out]
                  go_wp2_with fail
                  go_meet
                  exact ⟨rfl, rfl⟩
                · cases bz
                  · clear hq
                    go_wp2_with fail
                    refine (has21_any A4 cl.length c4 cl q.1 w8 (SL_of_ER HR4b.out) (by omega)).mono ?_
                    rintro e w9 ⟨rfl, rfl⟩
                    rw [HA1.out]
                    go_wp2_with fail
                    refine (has21_any A5 dl.length c5 dl q.2 w8 (SL_of_ER HR5b.out) (by omega)).mono ?_
                    rintro e w9 ⟨rfl, rfl⟩
                    rw [HA2.out]
                    go_wp2_with fail
                    go_meet
                    exact ⟨rfl, rfl⟩
                  · exact absurd (HBAD.out rfl rfl) hq
            case rest =>
              obtain ⟨rfl, rfl⟩ := hcut
              clear HBAD HA1 HA2
              go_wp2_with fail
              refine (Join_any Am m.length cm m q w8 HEb.out (by omega) HFM.out HQ2.out).mono ?_
              rintro e w9 ⟨hj, hb9⟩
              obtain ⟨v, r, out, rfl, hjq, ho⟩ := hj.q
              have HB9 := Lib.hid (HBb.out.trans (hb9.mono HBb.out.size))
              have HR4c := Lib.hid (HR4b.out.below hb9)
              have HR5c := Lib.hid (HR5b.out.below hb9)
              by_cases hr : r = 0
              · subst hr
                have te : ((0 : Int) == 0) = true := rfl
                have HKF := Lib.hid (hjq.kept HAC.out HFM.out ⟨HQ1.out, HQ2.out⟩ rfl)
                have HOUT : Hid (out = m ++ [q]) := Lib.hid (by
                  rcases hjq with ⟨e, _⟩ | ⟨e, _⟩ | ⟨_, e, _⟩
                  · cases e
                  · cases e
                  · exact e)
                obtain ⟨A9, c9, rfl, hr9, _, _⟩ := ho.form
                have HR9 := Lib.hid hr9
                obtain ⟨fl, hfl⟩ := clos_exists out q.1
                have HFL := Lib.hid hfl
                have hfn := clos_len hfl
                have hon := HKF.out.2.2
                obtain ⟨xs, hxs⟩ : ∃ xs, xs = cl ++ dl := ⟨_, rfl⟩
                have hxl : xs.length = cl.length + dl.length := by rw [hxs, List.length_append]
                have HXS := Lib.hid hxs
                have HIN : Hid (∀ z, z ∈ xs → fl.contains z = true) := Lib.hid (fun z hz => List.contains_iff_mem.2 ((hfl.2 _).2 (by
                  rw [HOUT.out]
                  rw [hxs] at hz
                  rcases List.mem_append.1 hz with hz | hz
                  · exact ((HCL.out.2 _).1 hz).mono fun y hy => List.mem_append.2 (.inl hy)
                  · exact (Reach.step (m := q) .refl (List.mem_append.2 (.inr (List.mem_singleton.2 rfl)))).trans (((HDL.out.2 _).1 hz).mono fun y hy => List.mem_append.2 (.inl hy)))))
                clear hj hjq ho hb9 hr9 hfl hxs
                go_wp2_with fail
                refine (CopyTexts_any A4 cl.length c4 cl w9 HR4c.out (by omega)).mono ?_
                rintro e w10 ⟨v10, rfl, ho10, hb10⟩
                obtain ⟨Av, cv, rfl, _, _, _⟩ := ho10.form
                have HO10 := Lib.hid ho10
                have HB10 := Lib.hid (HB9.out.trans (hb10.mono HB9.out.size))
                have HR9a := Lib.hid (HR9.out.below hb10)
                have HR5d := Lib.hid (HR5c.out.below hb10)
                have HZ10 := Lib.hid hb10.size
                have H910 := Lib.hid hb10
                clear ho10 hb10
                go_wp2_with (at_builtin; refine wpList_append_Rd _ rfl (.tmp 168) (.tmp 169) _ rfl w9.heap.size 9 i0 _ 1 16 Try.underlying40 hi0 hz0 hz1 hz2 hzs (.slice Av cl.length cv) cl.length _ rfl HO10.out A5 dl.length c5 (dl.flatMap ES) rfl HR5d.out.2 (fun u hu => by obtain ⟨s, _, hs⟩ := List.mem_flatMap.1 hu; exact ES_one s u hs) (by omega) (by simp only [maxLen]; omega) HZ10.out ?_; intro v11 w11 hown11 hg11 _ _; have HO11 : Hid (EO ES 1 9 w11 w9.heap.size v11 xs) := Lib.hid (by rw [HXS.out]; unfold EO; rw [List.length_append, List.flatMap_append]; exact hown11); obtain ⟨A11, c11, rfl, hr11, _, _⟩ := HO11.out.form)
                have HR11 := Lib.hid hr11
                have h910 : Below w9.heap.size w10 w11 := (gr_refl w10 |>.mono HZ10.out).grown hg11 HZ10.out (fun j hj => (HO10.out.lt j hj).1)
                have HB11 := Lib.hid (HB10.out.trans (h910.mono HB9.out.size))
                have HR9b := Lib.hid (HR9.out.below (H910.out.trans h910))
                clear hr11 hown11 hg11 h910 HO10 HO11 HB10 HR9 HR9a HR5d HR5c HR4c HXS
                go_loopw [24, 172] (fun _ i wr => ∃ (j : Nat), j ≤ xs.length ∧ i = .int .i64 (j : Int) ∧ Below w11.heap.size w11 wr) (fun _ i _ => xs.length - (intOf i).toNat)
                case atStart => exact ⟨0, Nat.zero_le _, rfl, gr_refl _⟩
                case round =>
                  obtain ⟨j, hj, rfl, hbw⟩ := hrel
                  have HBW := Lib.hid hbw
                  by_cases hlt : j < xs.length
                  · have t1 : decide ((j : Int) < (xs.length : Int)) = true := decide_eq_true (by omega)
                    have t2 : decide (j < xs.length) = true := decide_eq_true hlt
                    have i0' : (0 : Int) ≤ (j : Int) := Int.natCast_nonneg _
                    have i1' : (j : Int) < (xs.length : Int) := by omega
                    obtain ⟨g, o, x, hAe, hx, q0⟩ := (HR11.out.below hbw).atStr hlt
                    subst hAe
                    have HZ := Lib.hid (HIN.out x (List.mem_of_getElem? hx))
                    clear hx hbw
                    go_wp2_with fail
                    refine (Closure_at HFL.out A9 out.length c9 wr (HR9b.out.below HBW.out) (by omega) HKF.out.2.1 HQ1.out).mono ?_
                    rintro e w12 ⟨v12, rfl, ho12, hb12⟩
                    obtain ⟨A12, c12, rfl, hr12, _, _⟩ := ho12.form
                    have HR12 := Lib.hid hr12
                    have HB12 := Lib.hid (HBW.out.trans (hb12.mono HBW.out.size))
                    clear ho12 hr12 hb12 q0
                    go_wp2_with fail
                    refine (has21_any A12 fl.length c12 fl x w12 (SL_of_ER HR12.out) (by omega)).mono ?_
                    rintro e w13 ⟨rfl, rfl⟩
                    rw [HZ.out]
                    go_wp2_with fail
                    go_roundw
                    case rel => exact ⟨j + 1, by omega, by go_num, HB12.out⟩
                    case measure => simp [intOf]; omega
                  · obtain rfl : j = xs.length := by omega
                    have t1 : decide ((xs.length : Int) < (xs.length : Int)) = false := decide_eq_false (by omega)
                    have HB14 := Lib.hid (HB11.out.trans (hbw.mono HB11.out.size))
                    clear hbw HBW
                    go_wp2_with fail
                    refine (awake21_any wr).mono ?_
                    rintro e w15 ⟨rfl, hbz⟩
                    have HBZ := Lib.hid (HB14.out.trans (hbz.mono HB14.out.size))
                    clear hbz
                    go_wp2_with fail
                    go_ret
                    exact ⟨rfl, HBZ.out⟩
              · have te : (r == 0) = false := beq_eq_false_iff_ne.2 hr
                clear hr hj hjq ho hb9
                go_wp2_with fail
                refine (awake21_any w9).mono ?_
                rintro e w10 ⟨rfl, hbz⟩
                have HBZ := Lib.hid (HB9.out.trans (hbz.mono HB9.out.size))
                clear hbz
                go_wp2_with fail
                go_ret
                exact ⟨rfl, HBZ.out⟩

end Go.Proofs.Ytfgkadkmgciamaa
