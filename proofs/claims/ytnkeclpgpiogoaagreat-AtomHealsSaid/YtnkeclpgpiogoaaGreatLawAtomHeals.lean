/-
  The walk of AtomHeals.
-/
import Derived.Test.YtnkeclpgpiogoaaGreatPkC10
namespace Go.Proofs.YtnkeclpgpiogoaaGreat
open Go Go.RowKit Go.Maps
set_option maxRecDepth 100000 in
theorem nob_nils (w : World) (k : Nat) (cs : Array Value) (h : w.heap[k]? = some (.cells cs 35 (0, 0))) : NoB w k := fun cs fr h2 => by
 rw [h] at h2
 injection h2 with h2
 injection h2 with _ h2 _
 revert h2
 decide
set_option maxRecDepth 100000 in
set_option maxHeartbeats 4000000 in
theorem AtomHeals_any (frames : Int) (A : Option Addr) (nn cw : Nat) (l : List Int) (atx : Int) (w : World) (ha : IR w A nn l) (_hnn : nn ≤ 4611686018427387904) :
  Calls Tryz.prog 8 #[.int .i64 frames, .slice A nn cw, .int .i64 atx] w fun e w' => e = .returned (.bool true) ∧ Below w.heap.size w w' := by
 have HPk := Lib.hid (Pick_any frames 5 w (by omega) (by omega))
 obtain ⟨r, hr⟩ := Int.eq_ofNat_of_zero_le (Int.emod_nonneg frames (show (5 : Int) ≠ 0 by omega))
 have hr5 : r < 5 := by
  have := Int.emod_lt_of_pos frames (show (0 : Int) < 5 by omega)
  omega
 rw [hr] at HPk
 have HM : Hid (Calls Tryz.prog 26 #[.int .i64 (2 + (r : Int))] w fun e w' => ∃ z gj gb T, e = .returned (.tuple #[yV z gj, .bool true]) ∧ AZ w w' z (made10E gj gb) (newP 120 20 (2 + r) 1 0) newA T ∧ Below w.heap.size w w') := Lib.hid (by
  rw [show (2 + (r : Int)) = ((2 + r : Nat) : Int) by push_cast; rfl]
  exact made10_any (2 + r) w w (gr_refl w) (by omega) (by omega))
 have HA := Lib.hid ha
 clear ha hr
 go_enter Tryz.func8, Tryz.ntmps8
 go_wp2_with fail
 refine HPk.out.mono ?_
 rintro e w0 ⟨rfl, rfl⟩
 go_wp2_with fail
 refine HM.out.mono ?_
 rintro e w1 ⟨z, gj, gb, T, rfl, haz, hb1⟩
 have hs0 := SJ.new10 haz (by omega) (by omega)
 have hyk := YK.new hs0
 have HS1 := Lib.hid hs0
 obtain ⟨wa, hwa⟩ : ∃ wa, wa = w1.alloc (.cells #[.pointer (some ⟨z.gd, 0, none⟩), .pointer (some ⟨gj, 0, none⟩), .pointer (some ⟨z.gp, 0, none⟩), .pointer (some ⟨z.ga, 0, none⟩)] 53) := ⟨_, rfl⟩
 have hsz : wa.heap.size = w1.heap.size + 1 := by rw [hwa]; exact World.size_alloc _ _
 have hba : Below w1.heap.size w1 wa := by rw [hwa]; exact gr_alloc (gr_refl w1) _
 rw [← hwa] at hyk
 have hm1 := run_mk_nils 20 (by omega) 20 rfl wa
 have hm2 := run_mk_nils 20 (by omega) 20 rfl (wa.alloc (.cells (nils 20) 35))
 have hsz2 : (wa.alloc (.cells (nils 20) 35)).heap.size = w1.heap.size + 1 + 1 := by rw [World.size_alloc, hsz]
 have hT : ∀ k, w1.heap.size ≤ k → ¬ T k := fun k hk e => by have := (hs0.lt e).2; omega
 have p1 := PF.new wa T (fun _ => zP) (hT _ (by omega)) w1.heap.size (by omega)
 have p2 := PF.new (wa.alloc (.cells (nils 20) 35)) T anyP (hT _ (by omega)) w1.heap.size (by omega)
 have b2 := gr_alloc (gr_refl wa) (.cells (nils 20) 35)
 have b3 := gr_alloc (gr_refl (wa.alloc (.cells (nils 20) 35))) (.cells (nils 20) 35)
 have p1' := p1.below b3
 have hyk2 := (hyk.below b2).below b3
 have hbw := gr_trans hba (gr_trans b2 b3)
 rw [hsz] at p1' hm1
 rw [hsz2] at p2 hm2
 have HI0 : Hid (Below w1.heap.size w1 ((wa.alloc (.cells (nils 20) 35)).alloc (.cells (nils 20) 35)) ∧ YK ((wa.alloc (.cells (nils 20) 35)).alloc (.cells (nils 20) 35)) z gj w1.heap.size T ∧ PF ((wa.alloc (.cells (nils 20) 35)).alloc (.cells (nils 20) 35)) w1.heap.size T (w1.heap.size + 1) 0 (fun _ => zP) ∧ PF ((wa.alloc (.cells (nils 20) 35)).alloc (.cells (nils 20) 35)) w1.heap.size T (w1.heap.size + 1 + 1) 0 anyP) := Lib.hid ⟨hbw, hyk2, p1', p2⟩
 have HTN := Lib.hid hT
 rw [hwa] at hm1 hm2 HI0
 clear haz hb1 hs0 hyk hsz hba hsz2 hT p1 p2 b2 b3 p1' hyk2 hbw hwa
 unfold yV
 go_wp2_with fail
 generalize ((w1.alloc (.cells #[.pointer (some ⟨z.gd, 0, none⟩), .pointer (some ⟨gj, 0, none⟩), .pointer (some ⟨z.gp, 0, none⟩), .pointer (some ⟨z.ga, 0, none⟩)] 53)).alloc (.cells (nils 20) 35)).alloc (.cells (nils 20) 35) = w2 at *
 clear hm1 hm2
 go_loopw [11] (fun x wr => ∃ k : Nat, k ≤ 20 ∧ x = .int .i64 (k : Int) ∧ Hid (Below w1.heap.size w1 wr ∧ YK wr z gj w1.heap.size T ∧ PF wr w1.heap.size T (w1.heap.size + 1) k (fun _ => zP) ∧ PF wr w1.heap.size T (w1.heap.size + 1 + 1) k anyP)) (fun x _ => 20 - (Go.RowKit.intOf x).toNat)
 case atStart => exact ⟨0, Nat.zero_le _, rfl, HI0⟩
 case round =>
  clear HI0
  obtain ⟨k, hk, rfl, HI⟩ := hrel
  by_cases hlt : k < 20
  ·have t1 : decide ((k : Int) < 20) = true := decide_eq_true (by omega)
   have t2 : decide (k < 20) = true := decide_eq_true hlt
   have i1 : (0 : Int) ≤ (k : Int) := Int.natCast_nonneg _
   have i2 : (k : Int) < 20 := by omega
   obtain ⟨q1, q2, q3, q4⟩ := HI.out
   have hmk := run_mk_bytes 4080 (by omega) 4080 rfl wr
   have o0 := OB.zero wr 4080 (by decide)
   have hba := gr_alloc (gr_refl wr) (.cells (zeroB 4080) 5)
   have r3 := q3.below hba
   have r4 := q4.below hba
   have fz1 := r3.frozen k
   obtain ⟨v1, ce1⟩ := r3.cell hlt
   have hv1 : PgV (wr.alloc (.cells (zeroB 4080) 5)) T (.slice (some ⟨wr.heap.size, 0, none⟩) 4080 4080) zP := PgV.of_ob o0 (List.length_replicate ..) (fun j hj => HTN.out j (Nat.le_trans q1.size hj))
   obtain ⟨s3, so3⟩ := r3.put hlt hv1
   have s4 := r4.off so3 (fun j e => .inr ⟨by rw [e]; exact r3.nob, by rw [e]; omega⟩) (fun _ e => .inl e)
   have y3 := (q2.below hba).off so3 (fun e => by omega) (fun _ e => .inl e)
   have b3 := (q1.trans (hba.mono q1.size)).trans (so3.below (fun j e => by rw [e]; exact r3.bg) (q1.trans (hba.mono q1.size)).size)
   have HB : Hid (Below w1.heap.size w1 ((wr.alloc (.cells (zeroB 4080) 5)).setCell ⟨w1.heap.size + 1, k, none⟩ (.slice (some ⟨wr.heap.size, 0, none⟩) 4080 4080))) := Lib.hid b3
   have HY := Lib.hid y3
   have H3 := Lib.hid s3
   have H4 := Lib.hid s4
   clear q1 q2 q3 q4 o0 hba r3 r4 hv1 s3 so3 s4 y3 b3
   go_wp2_with fail
   generalize (wr.alloc (.cells (zeroB 4080) 5)).setCell ⟨w1.heap.size + 1, k, none⟩ (.slice (some ⟨wr.heap.size, 0, none⟩) 4080 4080) = wb at *
   refine (Made_any ((k : Int) + 5) 4080 wb (by omega)).mono ?_
   rintro e wc ⟨rfl, hbb, hbc⟩
   have r4 := H4.out.below hbc
   have r3 := H3.out.below hbc
   have yc := HY.out.below hbc
   have bc := gr_trans HB.out (hbc.mono (Nat.le_refl _))
   have hvb : PgV wc T (.slice (some ⟨wb.heap.size, 0, none⟩) 4080 4080) (anyP k) := by
    exact ⟨_, 0, 4080, rfl, bb_br hbb (madeL_len _ _), HTN.out _ HB.out.size, _, _, hbb⟩
   have fz2 := r4.frozen k
   obtain ⟨v2, ce2⟩ := r4.cell hlt
   obtain ⟨s4, so4⟩ := r4.put hlt hvb
   have s3 := r3.off so4 (fun j e => .inr ⟨by rw [e]; exact r4.nob, by rw [e]; omega⟩) (fun _ e => .inl e)
   have y4 := yc.off so4 (fun e => by omega) (fun _ e => .inl e)
   have b4 := bc.trans (so4.below (fun j e => by rw [e]; exact r4.bg) bc.size)
   have HI2 : Hid (Below w1.heap.size w1 (wc.setCell ⟨w1.heap.size + 1 + 1, k, none⟩ (.slice (some ⟨wb.heap.size, 0, none⟩) 4080 4080)) ∧ YK (wc.setCell ⟨w1.heap.size + 1 + 1, k, none⟩ (.slice (some ⟨wb.heap.size, 0, none⟩) 4080 4080)) z gj w1.heap.size T ∧ PF (wc.setCell ⟨w1.heap.size + 1 + 1, k, none⟩ (.slice (some ⟨wb.heap.size, 0, none⟩) 4080 4080)) w1.heap.size T (w1.heap.size + 1) (k + 1) (fun _ => zP) ∧ PF (wc.setCell ⟨w1.heap.size + 1 + 1, k, none⟩ (.slice (some ⟨wb.heap.size, 0, none⟩) 4080 4080)) w1.heap.size T (w1.heap.size + 1 + 1) (k + 1) anyP) := Lib.hid ⟨b4, y4, s3, s4⟩
   clear hbb hbc r4 r3 yc bc hvb s4 so4 s3 y4 b4
   go_wp2_with fail
   generalize wc.setCell ⟨w1.heap.size + 1 + 1, k, none⟩ (.slice (some ⟨wb.heap.size, 0, none⟩) 4080 4080) = wd at *
   go_roundw
   case rel => exact ⟨k + 1, by omega, by push_cast; rfl, HI2⟩
   case measure => simp only [Go.RowKit.intOf]; omega
  ·obtain rfl : k = 20 := by omega
   obtain ⟨q1, q2, q3, q4⟩ := HI.out
   have HH0 : Hid (HeI w wr z gj w1.heap.size (w1.heap.size + 1 + 1) (w1.heap.size + 1) 0 0) := Lib.hid ⟨T, _, [], 0, [], HS1.out.below q1, HeP.new _, q3.all.pr, q4.all.pr, q2⟩
   have HPA := Lib.hid (Pick_any atx 20 wr (by omega) (by omega))
   generalize atx % 20 = a at HPA
   clear q1 q2 q3 q4 HI HS1 HTN HM HPk hr5
   go_wp2_with fail
   rw [show ((20 : Nat) : Int) = 20 from rfl]
   refine HPA.out.mono ?_
   rintro e w3 ⟨rfl, rfl⟩
   clear HPA
   generalize w1.heap.size = g0 at *
   obtain ⟨g9, hg9⟩ : ∃ g9, g9 = g0 + 1 := ⟨_, rfl⟩
   obtain ⟨ga, hga⟩ : ∃ ga, ga = g0 + 1 + 1 := ⟨_, rfl⟩
   rw [← hga, ← hg9] at HH0
   go_wp2_with fail
   rw [← hga, ← hg9]
   clear hga hg9
   go_loopw [9, 12, 13] (fun v9 v12 v13 wt => ∃ (i fr g c1 : Nat), i ≤ 20 ∧ v9 = .slice (some ⟨g, 0, none⟩) 20 c1 ∧ v12 = .int .i64 (fr : Int) ∧ v13 = .int .i64 (i : Int) ∧ Hid (HeI w wt z gj g0 ga g i fr)) (fun _ _ v13 _ => 20 - (Go.RowKit.intOf v13).toNat)
   case atStart => exact ⟨0, 0, g9, 20, Nat.zero_le _, rfl, rfl, rfl, HH0⟩
   case round =>
    clear HH0
    obtain ⟨i, fr, g, c1, hi20, rfl, rfl, rfl, HH⟩ := hrel
    go_upto_region 14 with fail
    go_cut [71] from 58 to 107 (fun s71 wx => ∃ b : Bool, s71 = .bool b ∧ (b = true → i < nn ∧ i < 20) ∧ Hid (HeI w wx z gj g0 ga g i fr))
    case first =>
     by_cases h1 : i < nn
     ·have t1 : decide ((i : Int) < (nn : Int)) = true := decide_eq_true (by omega)
      by_cases h2 : i < 20
      ·have t2 : decide ((i : Int) < 20) = true := decide_eq_true (by omega)
       obtain ⟨T, nw, recs, V, im, hs, hp, pr, pa, yk⟩ := HH.out.ex
       have HR := Lib.hid (Room_sj hs)
       have y1 := yk.yb.c1
       clear hs hp pr pa yk
       go_wp2_with fail
       refine HR.out.mono ?_
       rintro e wm ⟨rm, rfl, hrm, hbm⟩
       have HH2 := Lib.hid (HH.out.below hbm)
       clear hbm
       go_wp2_with fail
       go_meet
       exact ⟨_, rfl, fun _ => ⟨h1, h2⟩, HH2⟩
      ·have t2 : decide ((i : Int) < 20) = false := decide_eq_false (by omega)
       go_wp2_with fail
       go_meet
       exact ⟨false, rfl, (fun e => by cases e), HH⟩
     ·have t1 : decide ((i : Int) < (nn : Int)) = false := decide_eq_false (by omega)
      go_wp2_with fail
      go_meet
      exact ⟨false, rfl, (fun e => by cases e), HH⟩
    case rest =>
     clear HH
     obtain ⟨b, rfl, hb, HH⟩ := hcut
     cases b
     ·clear hb
      obtain ⟨T, nw, recs, V, im, hs, hp, pr, pa, yk⟩ := HH.out.ex
      have y1 := yk.yb.c1
      have HF := Lib.hid (Flush_sj hs (by omega))
      have HX := Lib.hid (And.intro pr (And.intro pa yk))
      have HP := Lib.hid hp
      clear hs hp pr pa yk HH
      go_wp2_with fail
      refine HF.out.mono ?_
      rintro e wf ⟨rfl, Tf, hsf, hmf⟩
      have ykf := HX.out.2.2.mv hmf
      have y0 := ykf.yb.c0
      have HSC := Lib.hid (Scan_sf hsf (by omega))
      have HSF := Lib.hid hsf.sj
      have HX2 := Lib.hid (And.intro (HX.out.1.mv hmf) (And.intro (HX.out.2.1.mv hmf) ykf))
      clear hsf hmf ykf y1
      go_wp2_with fail
      refine HSC.out.mono ?_
      rintro e wc ⟨v, p1, p2, rfl, hv, hbc⟩
      obtain ⟨vA, vc, rfl, hvn, hvm⟩ : ∃ A c, v = .slice A recs.length c ∧ recs.length ≤ c ∧ c ≤ maxLen := by
       obtain ⟨us, h, _⟩ := hv
       exact own_form h
      have hrx := RX.of_orw hv rfl
      have HRX := Lib.hid hrx
      have HRD := Lib.hid (redo_any (HX2.out.2.1.below hbc) (hrx.cut HP.out.f hvn) (fun k e => (HSF.out.lt e).2) hbc.size HP.out.he.ok HP.out.he.redo (by have := HP.out.r; omega) 20 (vc - fr))
      have HBC := Lib.hid hbc
      obtain ⟨ic, hic, hy0, hy1, hy2⟩ := info_parts info_record
      have hcut := fun W => run_cut_l (P := Tryz.prog) W 62 114 ic Tryz.underlying62 hic 3 hy1 vA recs.length vc (fr : Int) fr rfl HP.out.f
      have t1 : decide ((recs.length : Int) < (fr : Int)) = false := decide_eq_false (by have := HP.out.f; omega)
      have t2 : decide (recs.length < fr) = false := decide_eq_false (by have := HP.out.f; omega)
      clear hv hbc hrx y0 hvn hvm HF HSC
      go_wp2_with fail
      refine HRD.out.mono ?_
      rintro e wq ⟨gq, cq, rfl, poq, hbq⟩
      have hmk := run_mk_boolsU 20 (by omega) 20 rfl wq
      have htb : TB (wq.alloc (.cells (boolsA (fun _ => false) 20) 4)) wq.heap.size (touchF ((recs.take fr).drop fr)) 20 := by
       rw [touch_from]
       exact heap_alloc_new wq _
      have HT0 : Hid (TB (wq.alloc (.cells (boolsA (fun _ => false) 20) 4)) wq.heap.size (touchF ((recs.take fr).drop fr)) 20 ∧ Below wq.heap.size wq (wq.alloc (.cells (boolsA (fun _ => false) 20) 4))) := Lib.hid ⟨htb, gr_alloc (gr_refl wq) _⟩
      have HQ := Lib.hid (And.intro (HSF.out.below (gr_trans HBC.out hbq)) (And.intro ((HX2.out.1.below HBC.out).below hbq) (And.intro ((HX2.out.2.1.below HBC.out).below hbq) (And.intro poq.pr ((HX2.out.2.2.below HBC.out).below hbq)))))
      have HRXQ := Lib.hid (HRX.out.below hbq)
      clear htb poq hbq hcut t1 t2 hic hy0 hy1 hy2 HRD HRX HX2 HX HBC HSF
      go_wp2_with fail
      clear hmk
      generalize wq.alloc (.cells (boolsA (fun _ => false) 20) 4) = wt0 at *
      go_loopw [26] (fun x wt => ∃ i2 : Nat, fr ≤ i2 ∧ i2 ≤ recs.length ∧ x = .int .i64 (i2 : Int) ∧ Hid (TB wt wq.heap.size (touchF ((recs.take i2).drop fr)) 20 ∧ Below wq.heap.size wq wt)) (fun x _ => recs.length - (Go.RowKit.intOf x).toNat)
      case atStart => exact ⟨fr, Nat.le_refl _, HP.out.f, rfl, HT0⟩
      case round =>
       clear HT0
       obtain ⟨i2, hf2, hi2, rfl, HT⟩ := hrel
       by_cases hlt : i2 < recs.length
       ·have hrb : recs.length ≤ 20 := by have := HP.out.r; omega
        have t1 : decide ((i2 : Int) < (recs.length : Int)) = true := decide_eq_true (by omega)
        have t2 : decide (i2 < recs.length) = true := decide_eq_true hlt
        have j0 : (0 : Int) ≤ (i2 : Int) := Int.natCast_nonneg _
        have j1 : (i2 : Int) < (recs.length : Int) := by omega
        have HLT := Lib.hid hlt
        obtain ⟨m, hm⟩ : ∃ m, m = (recs.getD i2 rec0).cs.length := ⟨_, rfl⟩
        have HM := Lib.hid hm
        clear hm
        go_wp2_with fail
        go_loopw [27] (fun y wu => ∃ k2 : Nat, k2 ≤ m ∧ y = .int .i64 (k2 : Int) ∧ Hid (TB wu wq.heap.size (mrkF recs fr i2 k2) 20 ∧ Below wq.heap.size wq wu)) (fun y _ => m - (Go.RowKit.intOf y).toNat)
        case atStart => exact ⟨0, Nat.zero_le _, rfl, by rw [mrk_zero]; exact HT⟩
        case round =>
         clear HT
         obtain ⟨k2, hk2, rfl, HT⟩ := hrel
         obtain ⟨gr, orr, v2, rfl, ce1, how⟩ := (HRXQ.out.below HT.out.2).at_ HLT.out
         obtain ⟨D, dc, rfl, hmx⟩ : ∃ D dc, v2 = .slice D m dc ∧ m ≤ maxLen := by
          obtain ⟨us, h, _⟩ := how
          obtain ⟨A, c, h, hc1, hc2⟩ := own_form h
          exact ⟨A, c, by rw [HM.out]; exact h, by rw [HM.out]; exact Nat.le_trans hc1 hc2⟩
         by_cases hk : k2 < m
         ·have t3 : decide ((k2 : Int) < (m : Int)) = true := decide_eq_true (by omega)
          have t4 : decide (k2 < m) = true := decide_eq_true hk
          have j2 : (0 : Int) ≤ (k2 : Int) := Int.natCast_nonneg _
          have j3 : (k2 : Int) < (m : Int) := by omega
          have hkm : k2 < (recs.getD i2 rec0).cs.length := by rw [← HM.out]; exact hk
          obtain ⟨gd, od, u1, u2, rfl, cc, _⟩ := how.at_ HM.out.symm hk
          obtain ⟨p, hp1, hp2⟩ := mrk_page HP.out.he.ok hf2 HLT.out hkm
          rw [hp1] at cc
          have t5 : decide ((p : Int) < 20) = true := decide_eq_true (by omega)
          have t6 : decide (p < 20) = true := decide_eq_true hp2
          have j4 : (0 : Int) ≤ (p : Int) := Int.natCast_nonneg _
          have j5 : (p : Int) < 20 := by omega
          have fz := HT.out.1.frozen p
          have ce := HT.out.1.cell hp2
          have hst := HT.out.1.set hp2 true
          rw [mrk_step hkm hp1] at hst
          have HT2 : Hid (TB (wr.setCell ⟨wq.heap.size, p, none⟩ (.bool true)) wq.heap.size (mrkF recs fr i2 (k2 + 1)) 20 ∧ Below wq.heap.size wq (wr.setCell ⟨wq.heap.size, p, none⟩ (.bool true))) := Lib.hid ⟨hst, HT.out.2.trans (((Off.refl (fun j => j = wq.heap.size) wr).setCell (S := fun j => j = wq.heap.size) _ rfl).below (fun j e => by rw [e]; exact Nat.le_refl _) HT.out.2.size)⟩
          have HKM := Lib.hid hkm
          have hmb : m ≤ 9223372036854775807 := by simp only [maxLen] at hmx; omega
          clear hst how hkm hp1 hmx
          go_wp2_with fail
          go_roundw
          all_goals have hmm := HM.out
          case rel => exact ⟨k2 + 1, by omega, by go_num, HT2⟩
          case measure => simp [Go.RowKit.intOf]; omega
         ·obtain rfl : k2 = m := by omega
          have t3 : decide ((k2 : Int) < (k2 : Int)) = false := decide_eq_false (by omega)
          have t4 : decide (k2 < k2) = false := decide_eq_false (by omega)
          have HT2 : Hid (TB wr wq.heap.size (touchF ((recs.take (i2 + 1)).drop fr)) 20 ∧ Below wq.heap.size wq wr) := Lib.hid ⟨by rw [← mrk_all hf2 HLT.out, ← HM.out]; exact HT.out.1, HT.out.2⟩
          clear how hmx
          go_wp2_with fail
          go_roundw
          all_goals have hll := HLT.out
          case rel => exact ⟨i2 + 1, by omega, by omega, by go_num, HT2⟩
          case measure => simp [Go.RowKit.intOf]; omega
       ·obtain rfl : i2 = recs.length := by omega
        have t1 : decide ((recs.length : Int) < (recs.length : Int)) = false := decide_eq_false (by omega)
        have t2 : decide (recs.length < recs.length) = false := decide_eq_false (by omega)
        have HL0 : Hid (HeL w wr z gj g0 ga g gq wq.heap.size (32 * i + 0) nw (mixN im nw anyP) (inM im) recs V im) := Lib.hid (by
         obtain ⟨q1, q2, q3, q4, q5⟩ := HQ.out
         obtain ⟨r1, r2⟩ := HT.out
         refine ⟨Tf, q1.below r2, q2.below r2, q3.below r2, q4.below r2, q5.below r2, ?_, fun e => by have := (q1.lt e).2; omega⟩
         rw [touch_all] at r1
         rw [show inM im = touchF (recs.drop fr) from funext HP.out.he.named]
         exact r1)
        clear HT HQ HRXQ
        go_wp2_with fail
        generalize wq.heap.size = gt at *
        go_loopw [28] (fun x wu => ∃ k3 : Nat, k3 ≤ 20 ∧ x = .int .i64 (k3 : Int) ∧ Hid (HeL w wu z gj g0 ga g gq gt (32 * i + k3) nw (mixN im nw anyP) (inM im) recs V im)) (fun x _ => 20 - (Go.RowKit.intOf x).toNat)
        case atStart => exact ⟨0, Nat.zero_le _, rfl, HL0⟩
        case round =>
         clear HL0
         obtain ⟨k3, hk3, rfl, HL⟩ := hrel
         by_cases hl3 : k3 < 20
         ·have t3 : decide ((k3 : Int) < 20) = true := decide_eq_true (by omega)
          have t4 : decide (k3 < 20) = true := decide_eq_true hl3
          have j0 : (0 : Int) ≤ (k3 : Int) := Int.natCast_nonneg _
          have j1 : (k3 : Int) < 20 := by omega
          obtain ⟨T3, s1, s2, s3, s4, s5, s6, s7⟩ := HL.out.ex
          have y2 := s5.yb.c2
          have HG := Lib.hid (PGet_sj s1 k3 hl3 (by omega))
          have HMV : Hid (∀ (T4 : Nat → Prop) (wn : World), SJ w wn z 20 120 gj T4 nw (32 * i + k3 + 1) recs V im → Mv T3 T4 wr wn → HeL w wn z gj g0 ga g gq gt (32 * i + k3 + 1) nw (mixN im nw anyP) (inM im) recs V im) := Lib.hid (fun T4 wn hsn hm => HeL.mv hsn hm s2 s3 s4 s5 s6 s7)
          have HNL : Hid ((nw k3).length = 4080) := Lib.hid (s2.len hl3)
          clear s1 s2 s3 s4 s5 s6 s7 HL
          go_wp2_with fail
          refine HG.out.mono ?_
          rintro e wg ⟨v, rfl, hob, T4, wn, hsn, hmv, hbn, _⟩
          have HL2 := Lib.hid ((HMV.out T4 wn hsn hmv).below hbn)
          obtain ⟨qv, vc2, rfl, brv, _, _⟩ := hob.formN HNL.out
          obtain ⟨T5, s1, s2, s3, s4, s5, s6, s7⟩ := HL2.out.ex
          obtain ⟨gn1, on1, cn1, ce1, br1⟩ := s2.at0 hl3
          obtain ⟨gn2, on2, cn2, ce2, br2⟩ := s4.at0 hl3
          obtain ⟨gn3, on3, cn3, ce3, br3⟩ := s3.at0 hl3
          have CE1 := Lib.hid ce1
          have CE2 := Lib.hid ce2
          have CE3 := Lib.hid ce3
          have SB1 : Hid (∀ W, Below wg.heap.size wg W → Calls Tryz.prog 18 #[.slice qv 4080 vc2, .slice (some ⟨gn1, on1, none⟩) 4080 cn1] W fun e w' => e = .returned (.bool true) ∧ W = w') := Lib.hid (fun W hW => (SameBytes_any _ _ 4080 4080 vc2 cn1 _ _ W (brv.below hW) (br1.below hW)).mono (fun e w' hx => ⟨by rw [hx.1, beq_self_eq_true], hx.2⟩))
          have y2b := y2
          clear y2b y2
          clear hsn hmv hbn hob ce1 ce2 ce3 s1 s2 s3 s4 s5 s7 HMV HG
          cases htk : inM im k3 with
          | true =>
           have CE4 : Hid (wg.cell? ⟨gt, k3, none⟩ = some (.bool true)) := Lib.hid (by rw [s6.cell hl3, htk])
           have SB2 : Hid (∀ W, Below wg.heap.size wg W → Calls Tryz.prog 18 #[.slice (some ⟨gn2, on2, none⟩) 4080 cn2, .slice qv 4080 vc2] W fun e w' => e = .returned (.bool true) ∧ W = w') := Lib.hid (fun W hW => (SameBytes_any _ _ 4080 4080 cn2 vc2 _ _ W (br2.below hW) (brv.below hW)).mono (fun e w' hx => ⟨by rw [hx.1, show mixN im nw anyP k3 = nw k3 from if_pos htk, beq_self_eq_true], hx.2⟩))
           have SB3 := Lib.hid trivial
           clear brv br1 br2 br3 s6
           go_upto_region 45 with fail
           refine' wp_region_mono (by kernel_rfl) (by kernel_rfl) (by kernel_rfl) (by kernel_rfl) (by kernel_rfl) (by kernel_rfl)
            [MP.is (.int .i64 0), MP.is (.bool false), MP.is (.bool false), MP.is (.slice qv 4080 vc2), MP.is (.slice (some ⟨g, 0, none⟩) 20 c1), MP.is (.int .i64 (k3 : Int)), MP.is (.pointer (some ⟨g, k3, none⟩)), MP.is (.slice (some ⟨gn1, on1, none⟩) 4080 cn1), MP.is (.bool true), MP.is (.bool false), MP.is (.bool false), MP.is (.bool false), MP.is (.slice (some ⟨gt, 0, none⟩) 20 20), MP.is (.int .i64 (k3 : Int)), MP.is (.pointer (some ⟨gt, k3, none⟩)), MP.is (.bool true), MP.is (.bool true), MP.is (.slice (some ⟨gq, 0, none⟩) 20 cq), MP.is (.int .i64 (k3 : Int)), MP.is (.pointer (some ⟨gq, k3, none⟩)), MP.is (.slice (some ⟨gn2, on2, none⟩) 4080 cn2), MP.is (.slice qv 4080 vc2), MP.is (.bool true), MP.is (.bool false), MP.is (.bool false), MP.is (.bool false), MP.is (.bool false), MP.is (.slice (some ⟨gt, 0, none⟩) 20 20), MP.is (.int .i64 (k3 : Int)), MP.is (.pointer (some ⟨gt, k3, none⟩)), MP.is (.bool true), MP.is (.bool false), MP.is (.bool false), MP.is (undef), MP.is (undef), MP.is (undef), MP.is (undef), MP.is (undef), MP.is (undef), MP.is (undef), MP.is (undef), MP.is (undef), MP.is (undef), MP.is (.bool false), MP.is (.bool false)] ?hAA1 ?hst1 ?hend1
           case hAA1 =>
            intro f
            conv => lhs; simp only [putA, dstOf, List.size_toArray, List.length_cons, List.length_nil, Nat.zero_add, Nat.reduceAdd, List.getElem?_toArray, List.getElem?_cons_zero, List.getElem?_cons_succ, Option.bind_some, Act.put, List.setIfInBounds_toArray, List.set_cons_zero, List.set_cons_succ]
            first | done | exact rfl
           case hst1 =>
            change Steps _ _ _ _ _ [0, 1, 2, 3, 4, 5, 6, 7, 8, 9, 10, 11, 12, 13, 14, 15, 16, 17, 18, 19, 20, 21, 22, 23, 24, 25, 26, 27, 28, 29, 30, 31, 32, 33, 34, 35, 36, 37, 38, 39, 40, 41, 42, 43, 44]
            refine Steps.cons rfl ?_ ?_
            ·intro f wz hB h K Q hK
             clear h
             try simp only [List.getElem_toArray, List.getElem_cons_zero]
             try rw [if_pos (by rfl)]
             go_simp
             exact hK _ _ (gr_refl _) rfl
            refine Steps.cons rfl ?_ ?_
            ·intro f wz hB h K Q hK
             have h0 : (MP.is (.int .i64 0)).p (f 0) wz := h 0 (by kernel_rfl)
             have e0 : f 0 = (.int .i64 0) := h0
             simp only [e0] at hK ⊢
             clear e0
             clear h
             try rw [if_pos (by rfl)]
             go_simp
             exact hK _ _ (gr_refl _) rfl
            refine Steps.cons rfl ?_ ?_
            ·intro f wz hB h K Q hK
             have h1 : (MP.is (.bool false)).p (f 1) wz := h 1 (by kernel_rfl)
             have e1 : f 1 = (.bool false) := h1
             simp only [e1] at hK ⊢
             clear e1
             clear h
             try rw [if_pos (by rfl)]
             go_simp
             exact hK _ _ (gr_refl _) rfl
            refine Steps.cons rfl ?_ ?_
            ·intro f wz hB h K Q hK
             have h2 : (MP.is (.bool false)).p (f 2) wz := h 2 (by kernel_rfl)
             have e2 : f 2 = (.bool false) := h2
             simp only [e2] at hK ⊢
             clear e2
             clear h
             try rw [if_pos (by rfl)]
             go_simp
             exact hK _ _ (gr_refl _) rfl
            refine Steps.cons rfl ?_ ?_
            ·intro f wz hB h K Q hK
             have h2 : (MP.is (.bool false)).p (f 2) wz := h 2 (by kernel_rfl)
             have e2 : f 2 = (.bool false) := h2
             simp only [e2] at hK ⊢
             clear e2
             clear h
             try rw [if_pos (by rfl)]
             go_simp
             exact hK _ _ (gr_refl _) rfl
            refine Steps.cons rfl ?_ ?_
            ·intro f wz hB h K Q hK
             have h2 : (MP.is (.bool false)).p (f 2) wz := h 2 (by kernel_rfl)
             have e2 : f 2 = (.bool false) := h2
             simp only [e2] at hK ⊢
             clear e2
             clear h
             try rw [if_pos (by rfl)]
             go_simp
             exact hK _ _ (gr_refl _) rfl
            refine Steps.cons rfl ?_ ?_
            ·intro f wz hB h K Q hK
             have h2 : (MP.is (.bool false)).p (f 2) wz := h 2 (by kernel_rfl)
             have e2 : f 2 = (.bool false) := h2
             have h4 : (MP.is (.slice (some ⟨g, 0, none⟩) 20 c1)).p (f 4) wz := h 4 (by kernel_rfl)
             have e4 : f 4 = (.slice (some ⟨g, 0, none⟩) 20 c1) := h4
             have h5 : (MP.is (.int .i64 (k3 : Int))).p (f 5) wz := h 5 (by kernel_rfl)
             have e5 : f 5 = (.int .i64 (k3 : Int)) := h5
             simp only [e2, e4, e5] at hK ⊢
             clear e2 e4 e5
             clear h
             try rw [if_pos (by rfl)]
             go_simp
             exact hK _ _ (gr_refl _) rfl
            refine Steps.cons rfl ?_ ?_
            ·intro f wz hB h K Q hK
             have h2 : (MP.is (.bool false)).p (f 2) wz := h 2 (by kernel_rfl)
             have e2 : f 2 = (.bool false) := h2
             have h6 : (MP.is (.pointer (some ⟨g, k3, none⟩))).p (f 6) wz := h 6 (by kernel_rfl)
             have e6 : f 6 = (.pointer (some ⟨g, k3, none⟩)) := h6
             simp only [e2, e6] at hK ⊢
             clear e2 e6
             clear h
             try rw [if_pos (by rfl)]
             have y0 := keep_of_below (bel_drew hB) CE1.out
             have y1 := keep_of_below (bel_drew hB) CE2.out
             have y2 := keep_of_below (bel_drew hB) CE3.out
             have y3 := keep_of_below (bel_drew hB) CE4.out
             go_simp
             exact hK _ _ (gr_refl _) rfl
            refine Steps.cons rfl ?_ ?_
            ·intro f wz hB h K Q hK
             have h2 : (MP.is (.bool false)).p (f 2) wz := h 2 (by kernel_rfl)
             have e2 : f 2 = (.bool false) := h2
             have h3 : (MP.is (.slice qv 4080 vc2)).p (f 3) wz := h 3 (by kernel_rfl)
             have e3 : f 3 = (.slice qv 4080 vc2) := h3
             have h7 : (MP.is (.slice (some ⟨gn1, on1, none⟩) 4080 cn1)).p (f 7) wz := h 7 (by kernel_rfl)
             have e7 : f 7 = (.slice (some ⟨gn1, on1, none⟩) 4080 cn1) := h7
             simp only [e2, e3, e7] at hK ⊢
             clear e2 e3 e7
             clear h
             try rw [if_pos (by rfl)]
             go_simp
             refine (SB1.out _ (bel_drew hB)).mono ?_
             rintro e w5 ⟨rfl, rfl⟩
             exact hK _ _ (gr_refl _) rfl
            refine Steps.cons rfl ?_ ?_
            ·intro f wz hB h K Q hK
             have h2 : (MP.is (.bool false)).p (f 2) wz := h 2 (by kernel_rfl)
             have e2 : f 2 = (.bool false) := h2
             have h8 : (MP.is (.bool true)).p (f 8) wz := h 8 (by kernel_rfl)
             have e8 : f 8 = (.bool true) := h8
             simp only [e2, e8] at hK ⊢
             clear e2 e8
             clear h
             try rw [if_pos (by rfl)]
             go_simp
             exact hK _ _ (gr_refl _) rfl
            refine Steps.cons rfl ?_ ?_
            ·intro f wz hB h K Q hK
             have h2 : (MP.is (.bool false)).p (f 2) wz := h 2 (by kernel_rfl)
             have e2 : f 2 = (.bool false) := h2
             have h9 : (MP.is (.bool false)).p (f 9) wz := h 9 (by kernel_rfl)
             have e9 : f 9 = (.bool false) := h9
             simp only [e2, e9] at hK ⊢
             clear e2 e9
             clear h
             try rw [if_pos (by rfl)]
             go_simp
             exact hK _ _ (gr_refl _) rfl
            refine Steps.cons rfl ?_ ?_
            ·intro f wz hB h K Q hK
             have h10 : (MP.is (.bool false)).p (f 10) wz := h 10 (by kernel_rfl)
             have e10 : f 10 = (.bool false) := h10
             simp only [e10] at hK ⊢
             clear e10
             clear h
             try rw [if_pos (by rfl)]
             go_simp
             exact hK _ _ (gr_refl _) rfl
            refine Steps.cons rfl ?_ ?_
            ·intro f wz hB h K Q hK
             have h11 : (MP.is (.bool false)).p (f 11) wz := h 11 (by kernel_rfl)
             have e11 : f 11 = (.bool false) := h11
             simp only [e11] at hK ⊢
             clear e11
             clear h
             try rw [if_pos (by rfl)]
             go_simp
             exact hK _ _ (gr_refl _) rfl
            refine Steps.cons rfl ?_ ?_
            ·intro f wz hB h K Q hK
             have h11 : (MP.is (.bool false)).p (f 11) wz := h 11 (by kernel_rfl)
             have e11 : f 11 = (.bool false) := h11
             simp only [e11] at hK ⊢
             clear e11
             clear h
             try rw [if_pos (by rfl)]
             go_simp
             exact hK _ _ (gr_refl _) rfl
            refine Steps.cons rfl ?_ ?_
            ·intro f wz hB h K Q hK
             have h11 : (MP.is (.bool false)).p (f 11) wz := h 11 (by kernel_rfl)
             have e11 : f 11 = (.bool false) := h11
             have h12 : (MP.is (.slice (some ⟨gt, 0, none⟩) 20 20)).p (f 12) wz := h 12 (by kernel_rfl)
             have e12 : f 12 = (.slice (some ⟨gt, 0, none⟩) 20 20) := h12
             have h13 : (MP.is (.int .i64 (k3 : Int))).p (f 13) wz := h 13 (by kernel_rfl)
             have e13 : f 13 = (.int .i64 (k3 : Int)) := h13
             simp only [e11, e12, e13] at hK ⊢
             clear e11 e12 e13
             clear h
             try rw [if_pos (by rfl)]
             go_simp
             exact hK _ _ (gr_refl _) rfl
            refine Steps.cons rfl ?_ ?_
            ·intro f wz hB h K Q hK
             have h11 : (MP.is (.bool false)).p (f 11) wz := h 11 (by kernel_rfl)
             have e11 : f 11 = (.bool false) := h11
             have h14 : (MP.is (.pointer (some ⟨gt, k3, none⟩))).p (f 14) wz := h 14 (by kernel_rfl)
             have e14 : f 14 = (.pointer (some ⟨gt, k3, none⟩)) := h14
             simp only [e11, e14] at hK ⊢
             clear e11 e14
             clear h
             try rw [if_pos (by rfl)]
             have y0 := keep_of_below (bel_drew hB) CE1.out
             have y1 := keep_of_below (bel_drew hB) CE2.out
             have y2 := keep_of_below (bel_drew hB) CE3.out
             have y3 := keep_of_below (bel_drew hB) CE4.out
             go_simp
             exact hK _ _ (gr_refl _) rfl
            refine Steps.cons rfl ?_ ?_
            ·intro f wz hB h K Q hK
             have h11 : (MP.is (.bool false)).p (f 11) wz := h 11 (by kernel_rfl)
             have e11 : f 11 = (.bool false) := h11
             have h15 : (MP.is (.bool true)).p (f 15) wz := h 15 (by kernel_rfl)
             have e15 : f 15 = (.bool true) := h15
             simp only [e11, e15] at hK ⊢
             clear e11 e15
             clear h
             try rw [if_pos (by rfl)]
             go_simp
             exact hK _ _ (gr_refl _) rfl
            refine Steps.cons rfl ?_ ?_
            ·intro f wz hB h K Q hK
             have h16 : (MP.is (.bool true)).p (f 16) wz := h 16 (by kernel_rfl)
             have e16 : f 16 = (.bool true) := h16
             simp only [e16] at hK ⊢
             clear e16
             clear h
             try rw [if_pos (by rfl)]
             go_simp
             exact hK _ _ (gr_refl _) rfl
            refine Steps.cons rfl ?_ ?_
            ·intro f wz hB h K Q hK
             have h16 : (MP.is (.bool true)).p (f 16) wz := h 16 (by kernel_rfl)
             have e16 : f 16 = (.bool true) := h16
             simp only [e16] at hK ⊢
             clear e16
             clear h
             try rw [if_pos (by rfl)]
             go_simp
             exact hK _ _ (gr_refl _) rfl
            refine Steps.cons rfl ?_ ?_
            ·intro f wz hB h K Q hK
             have h16 : (MP.is (.bool true)).p (f 16) wz := h 16 (by kernel_rfl)
             have e16 : f 16 = (.bool true) := h16
             have h17 : (MP.is (.slice (some ⟨gq, 0, none⟩) 20 cq)).p (f 17) wz := h 17 (by kernel_rfl)
             have e17 : f 17 = (.slice (some ⟨gq, 0, none⟩) 20 cq) := h17
             have h18 : (MP.is (.int .i64 (k3 : Int))).p (f 18) wz := h 18 (by kernel_rfl)
             have e18 : f 18 = (.int .i64 (k3 : Int)) := h18
             simp only [e16, e17, e18] at hK ⊢
             clear e16 e17 e18
             clear h
             try rw [if_pos (by rfl)]
             go_simp
             exact hK _ _ (gr_refl _) rfl
            refine Steps.cons rfl ?_ ?_
            ·intro f wz hB h K Q hK
             have h16 : (MP.is (.bool true)).p (f 16) wz := h 16 (by kernel_rfl)
             have e16 : f 16 = (.bool true) := h16
             have h19 : (MP.is (.pointer (some ⟨gq, k3, none⟩))).p (f 19) wz := h 19 (by kernel_rfl)
             have e19 : f 19 = (.pointer (some ⟨gq, k3, none⟩)) := h19
             simp only [e16, e19] at hK ⊢
             clear e16 e19
             clear h
             try rw [if_pos (by rfl)]
             have y0 := keep_of_below (bel_drew hB) CE1.out
             have y1 := keep_of_below (bel_drew hB) CE2.out
             have y2 := keep_of_below (bel_drew hB) CE3.out
             have y3 := keep_of_below (bel_drew hB) CE4.out
             go_simp
             exact hK _ _ (gr_refl _) rfl
            refine Steps.cons rfl ?_ ?_
            ·intro f wz hB h K Q hK
             have h16 : (MP.is (.bool true)).p (f 16) wz := h 16 (by kernel_rfl)
             have e16 : f 16 = (.bool true) := h16
             simp only [e16] at hK ⊢
             clear e16
             clear h
             try rw [if_pos (by rfl)]
             go_simp
             exact hK _ _ (gr_refl _) rfl
            refine Steps.cons rfl ?_ ?_
            ·intro f wz hB h K Q hK
             have h16 : (MP.is (.bool true)).p (f 16) wz := h 16 (by kernel_rfl)
             have e16 : f 16 = (.bool true) := h16
             have h20 : (MP.is (.slice (some ⟨gn2, on2, none⟩) 4080 cn2)).p (f 20) wz := h 20 (by kernel_rfl)
             have e20 : f 20 = (.slice (some ⟨gn2, on2, none⟩) 4080 cn2) := h20
             have h21 : (MP.is (.slice qv 4080 vc2)).p (f 21) wz := h 21 (by kernel_rfl)
             have e21 : f 21 = (.slice qv 4080 vc2) := h21
             simp only [e16, e20, e21] at hK ⊢
             clear e16 e20 e21
             clear h
             try rw [if_pos (by rfl)]
             go_simp
             refine (SB2.out _ (bel_drew hB)).mono ?_
             rintro e w5 ⟨rfl, rfl⟩
             exact hK _ _ (gr_refl _) rfl
            refine Steps.cons rfl ?_ ?_
            ·intro f wz hB h K Q hK
             have h16 : (MP.is (.bool true)).p (f 16) wz := h 16 (by kernel_rfl)
             have e16 : f 16 = (.bool true) := h16
             have h22 : (MP.is (.bool true)).p (f 22) wz := h 22 (by kernel_rfl)
             have e22 : f 22 = (.bool true) := h22
             simp only [e16, e22] at hK ⊢
             clear e16 e22
             clear h
             try rw [if_pos (by rfl)]
             go_simp
             exact hK _ _ (gr_refl _) rfl
            refine Steps.cons rfl ?_ ?_
            ·intro f wz hB h K Q hK
             have h11 : (MP.is (.bool false)).p (f 11) wz := h 11 (by kernel_rfl)
             have e11 : f 11 = (.bool false) := h11
             have h16 : (MP.is (.bool true)).p (f 16) wz := h 16 (by kernel_rfl)
             have e16 : f 16 = (.bool true) := h16
             have h23 : (MP.is (.bool false)).p (f 23) wz := h 23 (by kernel_rfl)
             have e23 : f 23 = (.bool false) := h23
             simp only [e11, e16, e23] at hK ⊢
             clear e11 e16 e23
             clear h
             try rw [if_pos (by rfl)]
             go_simp
             exact hK _ _ (gr_refl _) rfl
            refine Steps.cons rfl ?_ ?_
            ·intro f wz hB h K Q hK
             have h11 : (MP.is (.bool false)).p (f 11) wz := h 11 (by kernel_rfl)
             have e11 : f 11 = (.bool false) := h11
             have h24 : (MP.is (.bool false)).p (f 24) wz := h 24 (by kernel_rfl)
             have e24 : f 24 = (.bool false) := h24
             simp only [e11, e24] at hK ⊢
             clear e11 e24
             clear h
             try rw [if_pos (by rfl)]
             go_simp
             exact hK _ _ (gr_refl _) rfl
            refine Steps.cons rfl ?_ ?_
            ·intro f wz hB h K Q hK
             have h25 : (MP.is (.bool false)).p (f 25) wz := h 25 (by kernel_rfl)
             have e25 : f 25 = (.bool false) := h25
             simp only [e25] at hK ⊢
             clear e25
             clear h
             try rw [if_pos (by rfl)]
             go_simp
             exact hK _ _ (gr_refl _) rfl
            refine Steps.cons rfl ?_ ?_
            ·intro f wz hB h K Q hK
             have h26 : (MP.is (.bool false)).p (f 26) wz := h 26 (by kernel_rfl)
             have e26 : f 26 = (.bool false) := h26
             simp only [e26] at hK ⊢
             clear e26
             clear h
             try rw [if_pos (by rfl)]
             go_simp
             exact hK _ _ (gr_refl _) rfl
            refine Steps.cons rfl ?_ ?_
            ·intro f wz hB h K Q hK
             have h26 : (MP.is (.bool false)).p (f 26) wz := h 26 (by kernel_rfl)
             have e26 : f 26 = (.bool false) := h26
             simp only [e26] at hK ⊢
             clear e26
             clear h
             try rw [if_pos (by rfl)]
             go_simp
             exact hK _ _ (gr_refl _) rfl
            refine Steps.cons rfl ?_ ?_
            ·intro f wz hB h K Q hK
             have h26 : (MP.is (.bool false)).p (f 26) wz := h 26 (by kernel_rfl)
             have e26 : f 26 = (.bool false) := h26
             have h27 : (MP.is (.slice (some ⟨gt, 0, none⟩) 20 20)).p (f 27) wz := h 27 (by kernel_rfl)
             have e27 : f 27 = (.slice (some ⟨gt, 0, none⟩) 20 20) := h27
             have h28 : (MP.is (.int .i64 (k3 : Int))).p (f 28) wz := h 28 (by kernel_rfl)
             have e28 : f 28 = (.int .i64 (k3 : Int)) := h28
             simp only [e26, e27, e28] at hK ⊢
             clear e26 e27 e28
             clear h
             try rw [if_pos (by rfl)]
             go_simp
             exact hK _ _ (gr_refl _) rfl
            refine Steps.cons rfl ?_ ?_
            ·intro f wz hB h K Q hK
             have h26 : (MP.is (.bool false)).p (f 26) wz := h 26 (by kernel_rfl)
             have e26 : f 26 = (.bool false) := h26
             have h29 : (MP.is (.pointer (some ⟨gt, k3, none⟩))).p (f 29) wz := h 29 (by kernel_rfl)
             have e29 : f 29 = (.pointer (some ⟨gt, k3, none⟩)) := h29
             simp only [e26, e29] at hK ⊢
             clear e26 e29
             clear h
             try rw [if_pos (by rfl)]
             have y0 := keep_of_below (bel_drew hB) CE1.out
             have y1 := keep_of_below (bel_drew hB) CE2.out
             have y2 := keep_of_below (bel_drew hB) CE3.out
             have y3 := keep_of_below (bel_drew hB) CE4.out
             go_simp
             exact hK _ _ (gr_refl _) rfl
            refine Steps.cons rfl ?_ ?_
            ·intro f wz hB h K Q hK
             have h26 : (MP.is (.bool false)).p (f 26) wz := h 26 (by kernel_rfl)
             have e26 : f 26 = (.bool false) := h26
             have h30 : (MP.is (.bool true)).p (f 30) wz := h 30 (by kernel_rfl)
             have e30 : f 30 = (.bool true) := h30
             simp only [e26, e30] at hK ⊢
             clear e26 e30
             clear h
             try rw [if_pos (by rfl)]
             go_simp
             exact hK _ _ (gr_refl _) rfl
            refine Steps.cons rfl ?_ ?_
            ·intro f wz hB h K Q hK
             have h26 : (MP.is (.bool false)).p (f 26) wz := h 26 (by kernel_rfl)
             have e26 : f 26 = (.bool false) := h26
             have h31 : (MP.is (.bool false)).p (f 31) wz := h 31 (by kernel_rfl)
             have e31 : f 31 = (.bool false) := h31
             simp only [e26, e31] at hK ⊢
             clear e26 e31
             clear h
             try rw [if_pos (by rfl)]
             go_simp
             exact hK _ _ (gr_refl _) rfl
            refine Steps.cons rfl ?_ ?_
            ·intro f wz hB h K Q hK
             have h32 : (MP.is (.bool false)).p (f 32) wz := h 32 (by kernel_rfl)
             have e32 : f 32 = (.bool false) := h32
             simp only [e32] at hK ⊢
             clear e32
             clear h
             rw [if_neg (by intro e; exact Bool.noConfusion (show false = true from e))]
             exact hK _ _ (gr_refl _) rfl
            refine Steps.cons rfl ?_ ?_
            ·intro f wz hB h K Q hK
             have h32 : (MP.is (.bool false)).p (f 32) wz := h 32 (by kernel_rfl)
             have e32 : f 32 = (.bool false) := h32
             simp only [e32] at hK ⊢
             clear e32
             clear h
             rw [if_neg (by intro e; exact Bool.noConfusion (show false = true from e))]
             exact hK _ _ (gr_refl _) rfl
            refine Steps.cons rfl ?_ ?_
            ·intro f wz hB h K Q hK
             have h32 : (MP.is (.bool false)).p (f 32) wz := h 32 (by kernel_rfl)
             have e32 : f 32 = (.bool false) := h32
             have h33 : (MP.is (undef)).p (f 33) wz := h 33 (by kernel_rfl)
             have e33 : f 33 = (undef) := h33
             have h34 : (MP.is (undef)).p (f 34) wz := h 34 (by kernel_rfl)
             have e34 : f 34 = (undef) := h34
             simp only [e32, e33, e34] at hK ⊢
             clear e32 e33 e34
             clear h
             rw [if_neg (by intro e; exact Bool.noConfusion (show false = true from e))]
             exact hK _ _ (gr_refl _) rfl
            refine Steps.cons rfl ?_ ?_
            ·intro f wz hB h K Q hK
             have h32 : (MP.is (.bool false)).p (f 32) wz := h 32 (by kernel_rfl)
             have e32 : f 32 = (.bool false) := h32
             have h35 : (MP.is (undef)).p (f 35) wz := h 35 (by kernel_rfl)
             have e35 : f 35 = (undef) := h35
             simp only [e32, e35] at hK ⊢
             clear e32 e35
             clear h
             rw [if_neg (by intro e; exact Bool.noConfusion (show false = true from e))]
             exact hK _ _ (gr_refl _) rfl
            refine Steps.cons rfl ?_ ?_
            ·intro f wz hB h K Q hK
             have h32 : (MP.is (.bool false)).p (f 32) wz := h 32 (by kernel_rfl)
             have e32 : f 32 = (.bool false) := h32
             simp only [e32] at hK ⊢
             clear e32
             clear h
             rw [if_neg (by intro e; exact Bool.noConfusion (show false = true from e))]
             exact hK _ _ (gr_refl _) rfl
            refine Steps.cons rfl ?_ ?_
            ·intro f wz hB h K Q hK
             have h32 : (MP.is (.bool false)).p (f 32) wz := h 32 (by kernel_rfl)
             have e32 : f 32 = (.bool false) := h32
             simp only [e32] at hK ⊢
             clear e32
             clear h
             rw [if_neg (by intro e; exact Bool.noConfusion (show false = true from e))]
             exact hK _ _ (gr_refl _) rfl
            refine Steps.cons rfl ?_ ?_
            ·intro f wz hB h K Q hK
             have h32 : (MP.is (.bool false)).p (f 32) wz := h 32 (by kernel_rfl)
             have e32 : f 32 = (.bool false) := h32
             have h37 : (MP.is (undef)).p (f 37) wz := h 37 (by kernel_rfl)
             have e37 : f 37 = (undef) := h37
             have h38 : (MP.is (undef)).p (f 38) wz := h 38 (by kernel_rfl)
             have e38 : f 38 = (undef) := h38
             simp only [e32, e37, e38] at hK ⊢
             clear e32 e37 e38
             clear h
             rw [if_neg (by intro e; exact Bool.noConfusion (show false = true from e))]
             exact hK _ _ (gr_refl _) rfl
            refine Steps.cons rfl ?_ ?_
            ·intro f wz hB h K Q hK
             have h32 : (MP.is (.bool false)).p (f 32) wz := h 32 (by kernel_rfl)
             have e32 : f 32 = (.bool false) := h32
             have h39 : (MP.is (undef)).p (f 39) wz := h 39 (by kernel_rfl)
             have e39 : f 39 = (undef) := h39
             simp only [e32, e39] at hK ⊢
             clear e32 e39
             clear h
             rw [if_neg (by intro e; exact Bool.noConfusion (show false = true from e))]
             exact hK _ _ (gr_refl _) rfl
            refine Steps.cons rfl ?_ ?_
            ·intro f wz hB h K Q hK
             have h32 : (MP.is (.bool false)).p (f 32) wz := h 32 (by kernel_rfl)
             have e32 : f 32 = (.bool false) := h32
             have h36 : (MP.is (undef)).p (f 36) wz := h 36 (by kernel_rfl)
             have e36 : f 36 = (undef) := h36
             have h40 : (MP.is (undef)).p (f 40) wz := h 40 (by kernel_rfl)
             have e40 : f 40 = (undef) := h40
             simp only [e32, e36, e40] at hK ⊢
             clear e32 e36 e40
             clear h
             rw [if_neg (by intro e; exact Bool.noConfusion (show false = true from e))]
             exact hK _ _ (gr_refl _) rfl
            refine Steps.cons rfl ?_ ?_
            ·intro f wz hB h K Q hK
             have h32 : (MP.is (.bool false)).p (f 32) wz := h 32 (by kernel_rfl)
             have e32 : f 32 = (.bool false) := h32
             have h41 : (MP.is (undef)).p (f 41) wz := h 41 (by kernel_rfl)
             have e41 : f 41 = (undef) := h41
             simp only [e32, e41] at hK ⊢
             clear e32 e41
             clear h
             rw [if_neg (by intro e; exact Bool.noConfusion (show false = true from e))]
             exact hK _ _ (gr_refl _) rfl
            refine Steps.cons rfl ?_ ?_
            ·intro f wz hB h K Q hK
             have h26 : (MP.is (.bool false)).p (f 26) wz := h 26 (by kernel_rfl)
             have e26 : f 26 = (.bool false) := h26
             have h32 : (MP.is (.bool false)).p (f 32) wz := h 32 (by kernel_rfl)
             have e32 : f 32 = (.bool false) := h32
             have h42 : (MP.is (undef)).p (f 42) wz := h 42 (by kernel_rfl)
             have e42 : f 42 = (undef) := h42
             simp only [e26, e32, e42] at hK ⊢
             clear e26 e32 e42
             clear h
             try rw [if_pos (by rfl)]
             go_simp
             exact hK _ _ (gr_refl _) rfl
            refine Steps.cons rfl ?_ ?_
            ·intro f wz hB h K Q hK
             have h26 : (MP.is (.bool false)).p (f 26) wz := h 26 (by kernel_rfl)
             have e26 : f 26 = (.bool false) := h26
             have h43 : (MP.is (.bool false)).p (f 43) wz := h 43 (by kernel_rfl)
             have e43 : f 43 = (.bool false) := h43
             simp only [e26, e43] at hK ⊢
             clear e26 e43
             clear h
             try rw [if_pos (by rfl)]
             go_simp
             exact hK _ _ (gr_refl _) rfl
            exact Steps.nil
           intro f w7 hB7 hR
           have e0 : f 0 = (.int .i64 0) := hR 0 (by decide)
           have e1 : f 1 = (.bool false) := hR 1 (by decide)
           have e2 : f 2 = (.bool false) := hR 2 (by decide)
           have e3 : f 3 = (.slice qv 4080 vc2) := hR 3 (by decide)
           have e4 : f 4 = (.slice (some ⟨g, 0, none⟩) 20 c1) := hR 4 (by decide)
           have e5 : f 5 = (.int .i64 (k3 : Int)) := hR 5 (by decide)
           have e6 : f 6 = (.pointer (some ⟨g, k3, none⟩)) := hR 6 (by decide)
           have e7 : f 7 = (.slice (some ⟨gn1, on1, none⟩) 4080 cn1) := hR 7 (by decide)
           have e8 : f 8 = (.bool true) := hR 8 (by decide)
           have e9 : f 9 = (.bool false) := hR 9 (by decide)
           have e10 : f 10 = (.bool false) := hR 10 (by decide)
           have e11 : f 11 = (.bool false) := hR 11 (by decide)
           have e12 : f 12 = (.slice (some ⟨gt, 0, none⟩) 20 20) := hR 12 (by decide)
           have e13 : f 13 = (.int .i64 (k3 : Int)) := hR 13 (by decide)
           have e14 : f 14 = (.pointer (some ⟨gt, k3, none⟩)) := hR 14 (by decide)
           have e15 : f 15 = (.bool true) := hR 15 (by decide)
           have e16 : f 16 = (.bool true) := hR 16 (by decide)
           have e17 : f 17 = (.slice (some ⟨gq, 0, none⟩) 20 cq) := hR 17 (by decide)
           have e18 : f 18 = (.int .i64 (k3 : Int)) := hR 18 (by decide)
           have e19 : f 19 = (.pointer (some ⟨gq, k3, none⟩)) := hR 19 (by decide)
           have e20 : f 20 = (.slice (some ⟨gn2, on2, none⟩) 4080 cn2) := hR 20 (by decide)
           have e21 : f 21 = (.slice qv 4080 vc2) := hR 21 (by decide)
           have e22 : f 22 = (.bool true) := hR 22 (by decide)
           have e23 : f 23 = (.bool false) := hR 23 (by decide)
           have e24 : f 24 = (.bool false) := hR 24 (by decide)
           have e25 : f 25 = (.bool false) := hR 25 (by decide)
           have e26 : f 26 = (.bool false) := hR 26 (by decide)
           have e27 : f 27 = (.slice (some ⟨gt, 0, none⟩) 20 20) := hR 27 (by decide)
           have e28 : f 28 = (.int .i64 (k3 : Int)) := hR 28 (by decide)
           have e29 : f 29 = (.pointer (some ⟨gt, k3, none⟩)) := hR 29 (by decide)
           have e30 : f 30 = (.bool true) := hR 30 (by decide)
           have e31 : f 31 = (.bool false) := hR 31 (by decide)
           have e32 : f 32 = (.bool false) := hR 32 (by decide)
           have e33 : f 33 = (undef) := hR 33 (by decide)
           have e34 : f 34 = (undef) := hR 34 (by decide)
           have e35 : f 35 = (undef) := hR 35 (by decide)
           have e36 : f 36 = (undef) := hR 36 (by decide)
           have e37 : f 37 = (undef) := hR 37 (by decide)
           have e38 : f 38 = (undef) := hR 38 (by decide)
           have e39 : f 39 = (undef) := hR 39 (by decide)
           have e40 : f 40 = (undef) := hR 40 (by decide)
           have e41 : f 41 = (undef) := hR 41 (by decide)
           have e42 : f 42 = (undef) := hR 42 (by decide)
           have e43 : f 43 = (.bool false) := hR 43 (by decide)
           have e44 : f 44 = (.bool false) := hR 44 (by decide)
           simp only [e0, e1, e2, e3, e4, e5, e6, e7, e8, e9, e10, e11, e12, e13, e14, e15, e16, e17, e18, e19, e20, e21, e22, e23, e24, e25, e26, e27, e28, e29, e30, e31, e32, e33, e34, e35, e36, e37, e38, e39, e40, e41, e42, e43, e44]
           clear e0 e1 e2 e3 e4 e5 e6 e7 e8 e9 e10 e11 e12 e13 e14 e15 e16 e17 e18 e19 e20 e21 e22 e23 e24 e25 e26 e27 e28 e29 e30 e31 e32 e33 e34 e35 e36 e37 e38 e39 e40 e41 e42 e43 e44 hR
           have HL3 := Lib.hid (HL2.out.below (bel_drew hB7))
           clear hB7 CE1 CE2 CE3 CE4 SB1 SB2 SB3 HL2 htk
           go_wp2_with fail
           go_roundw
           case rel => exact ⟨k3 + 1, by omega, by go_num, HL3⟩
           case measure => simp [Go.RowKit.intOf]; omega
          | false =>
           have CE4 : Hid (wg.cell? ⟨gt, k3, none⟩ = some (.bool false)) := Lib.hid (by rw [s6.cell hl3, htk])
           have SB3 : Hid (∀ W, Below wg.heap.size wg W → Calls Tryz.prog 18 #[.slice (some ⟨gn2, on2, none⟩) 4080 cn2, .slice (some ⟨gn3, on3, none⟩) 4080 cn3] W fun e w' => e = .returned (.bool true) ∧ W = w') := Lib.hid (fun W hW => (SameBytes_any _ _ 4080 4080 cn2 cn3 _ _ W (br2.below hW) (br3.below hW)).mono (fun e w' hx => ⟨by rw [hx.1, show mixN im nw anyP k3 = anyP k3 from if_neg (by rw [htk]; exact Bool.false_ne_true), beq_self_eq_true], hx.2⟩))
           have SB2 := Lib.hid trivial
           clear brv br1 br2 br3 s6
           go_upto_region 45 with fail
           refine' wp_region_mono (by kernel_rfl) (by kernel_rfl) (by kernel_rfl) (by kernel_rfl) (by kernel_rfl) (by kernel_rfl)
            [MP.is (.int .i64 0), MP.is (.bool false), MP.is (.bool false), MP.is (.slice qv 4080 vc2), MP.is (.slice (some ⟨g, 0, none⟩) 20 c1), MP.is (.int .i64 (k3 : Int)), MP.is (.pointer (some ⟨g, k3, none⟩)), MP.is (.slice (some ⟨gn1, on1, none⟩) 4080 cn1), MP.is (.bool true), MP.is (.bool false), MP.is (.bool false), MP.is (.bool false), MP.is (.slice (some ⟨gt, 0, none⟩) 20 20), MP.is (.int .i64 (k3 : Int)), MP.is (.pointer (some ⟨gt, k3, none⟩)), MP.is (.bool false), MP.is (.bool false), MP.is (undef), MP.is (undef), MP.is (undef), MP.is (undef), MP.is (undef), MP.is (undef), MP.is (undef), MP.is (.bool false), MP.is (.bool false), MP.is (.bool false), MP.is (.slice (some ⟨gt, 0, none⟩) 20 20), MP.is (.int .i64 (k3 : Int)), MP.is (.pointer (some ⟨gt, k3, none⟩)), MP.is (.bool false), MP.is (.bool true), MP.is (.bool true), MP.is (.slice (some ⟨gq, 0, none⟩) 20 cq), MP.is (.int .i64 (k3 : Int)), MP.is (.pointer (some ⟨gq, k3, none⟩)), MP.is (.slice (some ⟨gn2, on2, none⟩) 4080 cn2), MP.is (.slice (some ⟨ga, 0, none⟩) 20 20), MP.is (.int .i64 (k3 : Int)), MP.is (.pointer (some ⟨ga, k3, none⟩)), MP.is (.slice (some ⟨gn3, on3, none⟩) 4080 cn3), MP.is (.bool true), MP.is (.bool false), MP.is (.bool false), MP.is (.bool false)] ?hAA2 ?hst2 ?hend2
           case hAA2 =>
            intro f
            conv => lhs; simp only [putA, dstOf, List.size_toArray, List.length_cons, List.length_nil, Nat.zero_add, Nat.reduceAdd, List.getElem?_toArray, List.getElem?_cons_zero, List.getElem?_cons_succ, Option.bind_some, Act.put, List.setIfInBounds_toArray, List.set_cons_zero, List.set_cons_succ]
            first | done | exact rfl
           case hst2 =>
            change Steps _ _ _ _ _ [0, 1, 2, 3, 4, 5, 6, 7, 8, 9, 10, 11, 12, 13, 14, 15, 16, 17, 18, 19, 20, 21, 22, 23, 24, 25, 26, 27, 28, 29, 30, 31, 32, 33, 34, 35, 36, 37, 38, 39, 40, 41, 42, 43, 44]
            refine Steps.cons rfl ?_ ?_
            ·intro f wz hB h K Q hK
             clear h
             try simp only [List.getElem_toArray, List.getElem_cons_zero]
             try rw [if_pos (by rfl)]
             go_simp
             exact hK _ _ (gr_refl _) rfl
            refine Steps.cons rfl ?_ ?_
            ·intro f wz hB h K Q hK
             have h0 : (MP.is (.int .i64 0)).p (f 0) wz := h 0 (by kernel_rfl)
             have e0 : f 0 = (.int .i64 0) := h0
             simp only [e0] at hK ⊢
             clear e0
             clear h
             try rw [if_pos (by rfl)]
             go_simp
             exact hK _ _ (gr_refl _) rfl
            refine Steps.cons rfl ?_ ?_
            ·intro f wz hB h K Q hK
             have h1 : (MP.is (.bool false)).p (f 1) wz := h 1 (by kernel_rfl)
             have e1 : f 1 = (.bool false) := h1
             simp only [e1] at hK ⊢
             clear e1
             clear h
             try rw [if_pos (by rfl)]
             go_simp
             exact hK _ _ (gr_refl _) rfl
            refine Steps.cons rfl ?_ ?_
            ·intro f wz hB h K Q hK
             have h2 : (MP.is (.bool false)).p (f 2) wz := h 2 (by kernel_rfl)
             have e2 : f 2 = (.bool false) := h2
             simp only [e2] at hK ⊢
             clear e2
             clear h
             try rw [if_pos (by rfl)]
             go_simp
             exact hK _ _ (gr_refl _) rfl
            refine Steps.cons rfl ?_ ?_
            ·intro f wz hB h K Q hK
             have h2 : (MP.is (.bool false)).p (f 2) wz := h 2 (by kernel_rfl)
             have e2 : f 2 = (.bool false) := h2
             simp only [e2] at hK ⊢
             clear e2
             clear h
             try rw [if_pos (by rfl)]
             go_simp
             exact hK _ _ (gr_refl _) rfl
            refine Steps.cons rfl ?_ ?_
            ·intro f wz hB h K Q hK
             have h2 : (MP.is (.bool false)).p (f 2) wz := h 2 (by kernel_rfl)
             have e2 : f 2 = (.bool false) := h2
             simp only [e2] at hK ⊢
             clear e2
             clear h
             try rw [if_pos (by rfl)]
             go_simp
             exact hK _ _ (gr_refl _) rfl
            refine Steps.cons rfl ?_ ?_
            ·intro f wz hB h K Q hK
             have h2 : (MP.is (.bool false)).p (f 2) wz := h 2 (by kernel_rfl)
             have e2 : f 2 = (.bool false) := h2
             have h4 : (MP.is (.slice (some ⟨g, 0, none⟩) 20 c1)).p (f 4) wz := h 4 (by kernel_rfl)
             have e4 : f 4 = (.slice (some ⟨g, 0, none⟩) 20 c1) := h4
             have h5 : (MP.is (.int .i64 (k3 : Int))).p (f 5) wz := h 5 (by kernel_rfl)
             have e5 : f 5 = (.int .i64 (k3 : Int)) := h5
             simp only [e2, e4, e5] at hK ⊢
             clear e2 e4 e5
             clear h
             try rw [if_pos (by rfl)]
             go_simp
             exact hK _ _ (gr_refl _) rfl
            refine Steps.cons rfl ?_ ?_
            ·intro f wz hB h K Q hK
             have h2 : (MP.is (.bool false)).p (f 2) wz := h 2 (by kernel_rfl)
             have e2 : f 2 = (.bool false) := h2
             have h6 : (MP.is (.pointer (some ⟨g, k3, none⟩))).p (f 6) wz := h 6 (by kernel_rfl)
             have e6 : f 6 = (.pointer (some ⟨g, k3, none⟩)) := h6
             simp only [e2, e6] at hK ⊢
             clear e2 e6
             clear h
             try rw [if_pos (by rfl)]
             have y0 := keep_of_below (bel_drew hB) CE1.out
             have y1 := keep_of_below (bel_drew hB) CE2.out
             have y2 := keep_of_below (bel_drew hB) CE3.out
             have y3 := keep_of_below (bel_drew hB) CE4.out
             go_simp
             exact hK _ _ (gr_refl _) rfl
            refine Steps.cons rfl ?_ ?_
            ·intro f wz hB h K Q hK
             have h2 : (MP.is (.bool false)).p (f 2) wz := h 2 (by kernel_rfl)
             have e2 : f 2 = (.bool false) := h2
             have h3 : (MP.is (.slice qv 4080 vc2)).p (f 3) wz := h 3 (by kernel_rfl)
             have e3 : f 3 = (.slice qv 4080 vc2) := h3
             have h7 : (MP.is (.slice (some ⟨gn1, on1, none⟩) 4080 cn1)).p (f 7) wz := h 7 (by kernel_rfl)
             have e7 : f 7 = (.slice (some ⟨gn1, on1, none⟩) 4080 cn1) := h7
             simp only [e2, e3, e7] at hK ⊢
             clear e2 e3 e7
             clear h
             try rw [if_pos (by rfl)]
             go_simp
             refine (SB1.out _ (bel_drew hB)).mono ?_
             rintro e w5 ⟨rfl, rfl⟩
             exact hK _ _ (gr_refl _) rfl
            refine Steps.cons rfl ?_ ?_
            ·intro f wz hB h K Q hK
             have h2 : (MP.is (.bool false)).p (f 2) wz := h 2 (by kernel_rfl)
             have e2 : f 2 = (.bool false) := h2
             have h8 : (MP.is (.bool true)).p (f 8) wz := h 8 (by kernel_rfl)
             have e8 : f 8 = (.bool true) := h8
             simp only [e2, e8] at hK ⊢
             clear e2 e8
             clear h
             try rw [if_pos (by rfl)]
             go_simp
             exact hK _ _ (gr_refl _) rfl
            refine Steps.cons rfl ?_ ?_
            ·intro f wz hB h K Q hK
             have h2 : (MP.is (.bool false)).p (f 2) wz := h 2 (by kernel_rfl)
             have e2 : f 2 = (.bool false) := h2
             have h9 : (MP.is (.bool false)).p (f 9) wz := h 9 (by kernel_rfl)
             have e9 : f 9 = (.bool false) := h9
             simp only [e2, e9] at hK ⊢
             clear e2 e9
             clear h
             try rw [if_pos (by rfl)]
             go_simp
             exact hK _ _ (gr_refl _) rfl
            refine Steps.cons rfl ?_ ?_
            ·intro f wz hB h K Q hK
             have h10 : (MP.is (.bool false)).p (f 10) wz := h 10 (by kernel_rfl)
             have e10 : f 10 = (.bool false) := h10
             simp only [e10] at hK ⊢
             clear e10
             clear h
             try rw [if_pos (by rfl)]
             go_simp
             exact hK _ _ (gr_refl _) rfl
            refine Steps.cons rfl ?_ ?_
            ·intro f wz hB h K Q hK
             have h11 : (MP.is (.bool false)).p (f 11) wz := h 11 (by kernel_rfl)
             have e11 : f 11 = (.bool false) := h11
             simp only [e11] at hK ⊢
             clear e11
             clear h
             try rw [if_pos (by rfl)]
             go_simp
             exact hK _ _ (gr_refl _) rfl
            refine Steps.cons rfl ?_ ?_
            ·intro f wz hB h K Q hK
             have h11 : (MP.is (.bool false)).p (f 11) wz := h 11 (by kernel_rfl)
             have e11 : f 11 = (.bool false) := h11
             simp only [e11] at hK ⊢
             clear e11
             clear h
             try rw [if_pos (by rfl)]
             go_simp
             exact hK _ _ (gr_refl _) rfl
            refine Steps.cons rfl ?_ ?_
            ·intro f wz hB h K Q hK
             have h11 : (MP.is (.bool false)).p (f 11) wz := h 11 (by kernel_rfl)
             have e11 : f 11 = (.bool false) := h11
             have h12 : (MP.is (.slice (some ⟨gt, 0, none⟩) 20 20)).p (f 12) wz := h 12 (by kernel_rfl)
             have e12 : f 12 = (.slice (some ⟨gt, 0, none⟩) 20 20) := h12
             have h13 : (MP.is (.int .i64 (k3 : Int))).p (f 13) wz := h 13 (by kernel_rfl)
             have e13 : f 13 = (.int .i64 (k3 : Int)) := h13
             simp only [e11, e12, e13] at hK ⊢
             clear e11 e12 e13
             clear h
             try rw [if_pos (by rfl)]
             go_simp
             exact hK _ _ (gr_refl _) rfl
            refine Steps.cons rfl ?_ ?_
            ·intro f wz hB h K Q hK
             have h11 : (MP.is (.bool false)).p (f 11) wz := h 11 (by kernel_rfl)
             have e11 : f 11 = (.bool false) := h11
             have h14 : (MP.is (.pointer (some ⟨gt, k3, none⟩))).p (f 14) wz := h 14 (by kernel_rfl)
             have e14 : f 14 = (.pointer (some ⟨gt, k3, none⟩)) := h14
             simp only [e11, e14] at hK ⊢
             clear e11 e14
             clear h
             try rw [if_pos (by rfl)]
             have y0 := keep_of_below (bel_drew hB) CE1.out
             have y1 := keep_of_below (bel_drew hB) CE2.out
             have y2 := keep_of_below (bel_drew hB) CE3.out
             have y3 := keep_of_below (bel_drew hB) CE4.out
             go_simp
             exact hK _ _ (gr_refl _) rfl
            refine Steps.cons rfl ?_ ?_
            ·intro f wz hB h K Q hK
             have h11 : (MP.is (.bool false)).p (f 11) wz := h 11 (by kernel_rfl)
             have e11 : f 11 = (.bool false) := h11
             have h15 : (MP.is (.bool false)).p (f 15) wz := h 15 (by kernel_rfl)
             have e15 : f 15 = (.bool false) := h15
             simp only [e11, e15] at hK ⊢
             clear e11 e15
             clear h
             try rw [if_pos (by rfl)]
             go_simp
             exact hK _ _ (gr_refl _) rfl
            refine Steps.cons rfl ?_ ?_
            ·intro f wz hB h K Q hK
             have h16 : (MP.is (.bool false)).p (f 16) wz := h 16 (by kernel_rfl)
             have e16 : f 16 = (.bool false) := h16
             simp only [e16] at hK ⊢
             clear e16
             clear h
             rw [if_neg (by intro e; exact Bool.noConfusion (show false = true from e))]
             exact hK _ _ (gr_refl _) rfl
            refine Steps.cons rfl ?_ ?_
            ·intro f wz hB h K Q hK
             have h16 : (MP.is (.bool false)).p (f 16) wz := h 16 (by kernel_rfl)
             have e16 : f 16 = (.bool false) := h16
             simp only [e16] at hK ⊢
             clear e16
             clear h
             rw [if_neg (by intro e; exact Bool.noConfusion (show false = true from e))]
             exact hK _ _ (gr_refl _) rfl
            refine Steps.cons rfl ?_ ?_
            ·intro f wz hB h K Q hK
             have h16 : (MP.is (.bool false)).p (f 16) wz := h 16 (by kernel_rfl)
             have e16 : f 16 = (.bool false) := h16
             have h17 : (MP.is (undef)).p (f 17) wz := h 17 (by kernel_rfl)
             have e17 : f 17 = (undef) := h17
             have h18 : (MP.is (undef)).p (f 18) wz := h 18 (by kernel_rfl)
             have e18 : f 18 = (undef) := h18
             simp only [e16, e17, e18] at hK ⊢
             clear e16 e17 e18
             clear h
             rw [if_neg (by intro e; exact Bool.noConfusion (show false = true from e))]
             exact hK _ _ (gr_refl _) rfl
            refine Steps.cons rfl ?_ ?_
            ·intro f wz hB h K Q hK
             have h16 : (MP.is (.bool false)).p (f 16) wz := h 16 (by kernel_rfl)
             have e16 : f 16 = (.bool false) := h16
             have h19 : (MP.is (undef)).p (f 19) wz := h 19 (by kernel_rfl)
             have e19 : f 19 = (undef) := h19
             simp only [e16, e19] at hK ⊢
             clear e16 e19
             clear h
             rw [if_neg (by intro e; exact Bool.noConfusion (show false = true from e))]
             exact hK _ _ (gr_refl _) rfl
            refine Steps.cons rfl ?_ ?_
            ·intro f wz hB h K Q hK
             have h16 : (MP.is (.bool false)).p (f 16) wz := h 16 (by kernel_rfl)
             have e16 : f 16 = (.bool false) := h16
             simp only [e16] at hK ⊢
             clear e16
             clear h
             rw [if_neg (by intro e; exact Bool.noConfusion (show false = true from e))]
             exact hK _ _ (gr_refl _) rfl
            refine Steps.cons rfl ?_ ?_
            ·intro f wz hB h K Q hK
             have h16 : (MP.is (.bool false)).p (f 16) wz := h 16 (by kernel_rfl)
             have e16 : f 16 = (.bool false) := h16
             have h20 : (MP.is (undef)).p (f 20) wz := h 20 (by kernel_rfl)
             have e20 : f 20 = (undef) := h20
             have h21 : (MP.is (undef)).p (f 21) wz := h 21 (by kernel_rfl)
             have e21 : f 21 = (undef) := h21
             simp only [e16, e20, e21] at hK ⊢
             clear e16 e20 e21
             clear h
             rw [if_neg (by intro e; exact Bool.noConfusion (show false = true from e))]
             exact hK _ _ (gr_refl _) rfl
            refine Steps.cons rfl ?_ ?_
            ·intro f wz hB h K Q hK
             have h16 : (MP.is (.bool false)).p (f 16) wz := h 16 (by kernel_rfl)
             have e16 : f 16 = (.bool false) := h16
             have h22 : (MP.is (undef)).p (f 22) wz := h 22 (by kernel_rfl)
             have e22 : f 22 = (undef) := h22
             simp only [e16, e22] at hK ⊢
             clear e16 e22
             clear h
             rw [if_neg (by intro e; exact Bool.noConfusion (show false = true from e))]
             exact hK _ _ (gr_refl _) rfl
            refine Steps.cons rfl ?_ ?_
            ·intro f wz hB h K Q hK
             have h11 : (MP.is (.bool false)).p (f 11) wz := h 11 (by kernel_rfl)
             have e11 : f 11 = (.bool false) := h11
             have h16 : (MP.is (.bool false)).p (f 16) wz := h 16 (by kernel_rfl)
             have e16 : f 16 = (.bool false) := h16
             have h23 : (MP.is (undef)).p (f 23) wz := h 23 (by kernel_rfl)
             have e23 : f 23 = (undef) := h23
             simp only [e11, e16, e23] at hK ⊢
             clear e11 e16 e23
             clear h
             try rw [if_pos (by rfl)]
             go_simp
             exact hK _ _ (gr_refl _) rfl
            refine Steps.cons rfl ?_ ?_
            ·intro f wz hB h K Q hK
             have h11 : (MP.is (.bool false)).p (f 11) wz := h 11 (by kernel_rfl)
             have e11 : f 11 = (.bool false) := h11
             have h24 : (MP.is (.bool false)).p (f 24) wz := h 24 (by kernel_rfl)
             have e24 : f 24 = (.bool false) := h24
             simp only [e11, e24] at hK ⊢
             clear e11 e24
             clear h
             try rw [if_pos (by rfl)]
             go_simp
             exact hK _ _ (gr_refl _) rfl
            refine Steps.cons rfl ?_ ?_
            ·intro f wz hB h K Q hK
             have h25 : (MP.is (.bool false)).p (f 25) wz := h 25 (by kernel_rfl)
             have e25 : f 25 = (.bool false) := h25
             simp only [e25] at hK ⊢
             clear e25
             clear h
             try rw [if_pos (by rfl)]
             go_simp
             exact hK _ _ (gr_refl _) rfl
            refine Steps.cons rfl ?_ ?_
            ·intro f wz hB h K Q hK
             have h26 : (MP.is (.bool false)).p (f 26) wz := h 26 (by kernel_rfl)
             have e26 : f 26 = (.bool false) := h26
             simp only [e26] at hK ⊢
             clear e26
             clear h
             try rw [if_pos (by rfl)]
             go_simp
             exact hK _ _ (gr_refl _) rfl
            refine Steps.cons rfl ?_ ?_
            ·intro f wz hB h K Q hK
             have h26 : (MP.is (.bool false)).p (f 26) wz := h 26 (by kernel_rfl)
             have e26 : f 26 = (.bool false) := h26
             simp only [e26] at hK ⊢
             clear e26
             clear h
             try rw [if_pos (by rfl)]
             go_simp
             exact hK _ _ (gr_refl _) rfl
            refine Steps.cons rfl ?_ ?_
            ·intro f wz hB h K Q hK
             have h26 : (MP.is (.bool false)).p (f 26) wz := h 26 (by kernel_rfl)
             have e26 : f 26 = (.bool false) := h26
             have h27 : (MP.is (.slice (some ⟨gt, 0, none⟩) 20 20)).p (f 27) wz := h 27 (by kernel_rfl)
             have e27 : f 27 = (.slice (some ⟨gt, 0, none⟩) 20 20) := h27
             have h28 : (MP.is (.int .i64 (k3 : Int))).p (f 28) wz := h 28 (by kernel_rfl)
             have e28 : f 28 = (.int .i64 (k3 : Int)) := h28
             simp only [e26, e27, e28] at hK ⊢
             clear e26 e27 e28
             clear h
             try rw [if_pos (by rfl)]
             go_simp
             exact hK _ _ (gr_refl _) rfl
            refine Steps.cons rfl ?_ ?_
            ·intro f wz hB h K Q hK
             have h26 : (MP.is (.bool false)).p (f 26) wz := h 26 (by kernel_rfl)
             have e26 : f 26 = (.bool false) := h26
             have h29 : (MP.is (.pointer (some ⟨gt, k3, none⟩))).p (f 29) wz := h 29 (by kernel_rfl)
             have e29 : f 29 = (.pointer (some ⟨gt, k3, none⟩)) := h29
             simp only [e26, e29] at hK ⊢
             clear e26 e29
             clear h
             try rw [if_pos (by rfl)]
             have y0 := keep_of_below (bel_drew hB) CE1.out
             have y1 := keep_of_below (bel_drew hB) CE2.out
             have y2 := keep_of_below (bel_drew hB) CE3.out
             have y3 := keep_of_below (bel_drew hB) CE4.out
             go_simp
             exact hK _ _ (gr_refl _) rfl
            refine Steps.cons rfl ?_ ?_
            ·intro f wz hB h K Q hK
             have h26 : (MP.is (.bool false)).p (f 26) wz := h 26 (by kernel_rfl)
             have e26 : f 26 = (.bool false) := h26
             have h30 : (MP.is (.bool false)).p (f 30) wz := h 30 (by kernel_rfl)
             have e30 : f 30 = (.bool false) := h30
             simp only [e26, e30] at hK ⊢
             clear e26 e30
             clear h
             try rw [if_pos (by rfl)]
             go_simp
             exact hK _ _ (gr_refl _) rfl
            refine Steps.cons rfl ?_ ?_
            ·intro f wz hB h K Q hK
             have h26 : (MP.is (.bool false)).p (f 26) wz := h 26 (by kernel_rfl)
             have e26 : f 26 = (.bool false) := h26
             have h31 : (MP.is (.bool true)).p (f 31) wz := h 31 (by kernel_rfl)
             have e31 : f 31 = (.bool true) := h31
             simp only [e26, e31] at hK ⊢
             clear e26 e31
             clear h
             try rw [if_pos (by rfl)]
             go_simp
             exact hK _ _ (gr_refl _) rfl
            refine Steps.cons rfl ?_ ?_
            ·intro f wz hB h K Q hK
             have h32 : (MP.is (.bool true)).p (f 32) wz := h 32 (by kernel_rfl)
             have e32 : f 32 = (.bool true) := h32
             simp only [e32] at hK ⊢
             clear e32
             clear h
             try rw [if_pos (by rfl)]
             go_simp
             exact hK _ _ (gr_refl _) rfl
            refine Steps.cons rfl ?_ ?_
            ·intro f wz hB h K Q hK
             have h32 : (MP.is (.bool true)).p (f 32) wz := h 32 (by kernel_rfl)
             have e32 : f 32 = (.bool true) := h32
             simp only [e32] at hK ⊢
             clear e32
             clear h
             try rw [if_pos (by rfl)]
             go_simp
             exact hK _ _ (gr_refl _) rfl
            refine Steps.cons rfl ?_ ?_
            ·intro f wz hB h K Q hK
             have h32 : (MP.is (.bool true)).p (f 32) wz := h 32 (by kernel_rfl)
             have e32 : f 32 = (.bool true) := h32
             have h33 : (MP.is (.slice (some ⟨gq, 0, none⟩) 20 cq)).p (f 33) wz := h 33 (by kernel_rfl)
             have e33 : f 33 = (.slice (some ⟨gq, 0, none⟩) 20 cq) := h33
             have h34 : (MP.is (.int .i64 (k3 : Int))).p (f 34) wz := h 34 (by kernel_rfl)
             have e34 : f 34 = (.int .i64 (k3 : Int)) := h34
             simp only [e32, e33, e34] at hK ⊢
             clear e32 e33 e34
             clear h
             try rw [if_pos (by rfl)]
             go_simp
             exact hK _ _ (gr_refl _) rfl
            refine Steps.cons rfl ?_ ?_
            ·intro f wz hB h K Q hK
             have h32 : (MP.is (.bool true)).p (f 32) wz := h 32 (by kernel_rfl)
             have e32 : f 32 = (.bool true) := h32
             have h35 : (MP.is (.pointer (some ⟨gq, k3, none⟩))).p (f 35) wz := h 35 (by kernel_rfl)
             have e35 : f 35 = (.pointer (some ⟨gq, k3, none⟩)) := h35
             simp only [e32, e35] at hK ⊢
             clear e32 e35
             clear h
             try rw [if_pos (by rfl)]
             have y0 := keep_of_below (bel_drew hB) CE1.out
             have y1 := keep_of_below (bel_drew hB) CE2.out
             have y2 := keep_of_below (bel_drew hB) CE3.out
             have y3 := keep_of_below (bel_drew hB) CE4.out
             go_simp
             exact hK _ _ (gr_refl _) rfl
            refine Steps.cons rfl ?_ ?_
            ·intro f wz hB h K Q hK
             have h32 : (MP.is (.bool true)).p (f 32) wz := h 32 (by kernel_rfl)
             have e32 : f 32 = (.bool true) := h32
             simp only [e32] at hK ⊢
             clear e32
             clear h
             try rw [if_pos (by rfl)]
             go_simp
             exact hK _ _ (gr_refl _) rfl
            refine Steps.cons rfl ?_ ?_
            ·intro f wz hB h K Q hK
             have h32 : (MP.is (.bool true)).p (f 32) wz := h 32 (by kernel_rfl)
             have e32 : f 32 = (.bool true) := h32
             simp only [e32] at hK ⊢
             clear e32
             clear h
             try rw [if_pos (by rfl)]
             go_simp
             exact hK _ _ (gr_refl _) rfl
            refine Steps.cons rfl ?_ ?_
            ·intro f wz hB h K Q hK
             have h32 : (MP.is (.bool true)).p (f 32) wz := h 32 (by kernel_rfl)
             have e32 : f 32 = (.bool true) := h32
             have h37 : (MP.is (.slice (some ⟨ga, 0, none⟩) 20 20)).p (f 37) wz := h 37 (by kernel_rfl)
             have e37 : f 37 = (.slice (some ⟨ga, 0, none⟩) 20 20) := h37
             have h38 : (MP.is (.int .i64 (k3 : Int))).p (f 38) wz := h 38 (by kernel_rfl)
             have e38 : f 38 = (.int .i64 (k3 : Int)) := h38
             simp only [e32, e37, e38] at hK ⊢
             clear e32 e37 e38
             clear h
             try rw [if_pos (by rfl)]
             go_simp
             exact hK _ _ (gr_refl _) rfl
            refine Steps.cons rfl ?_ ?_
            ·intro f wz hB h K Q hK
             have h32 : (MP.is (.bool true)).p (f 32) wz := h 32 (by kernel_rfl)
             have e32 : f 32 = (.bool true) := h32
             have h39 : (MP.is (.pointer (some ⟨ga, k3, none⟩))).p (f 39) wz := h 39 (by kernel_rfl)
             have e39 : f 39 = (.pointer (some ⟨ga, k3, none⟩)) := h39
             simp only [e32, e39] at hK ⊢
             clear e32 e39
             clear h
             try rw [if_pos (by rfl)]
             have y0 := keep_of_below (bel_drew hB) CE1.out
             have y1 := keep_of_below (bel_drew hB) CE2.out
             have y2 := keep_of_below (bel_drew hB) CE3.out
             have y3 := keep_of_below (bel_drew hB) CE4.out
             go_simp
             exact hK _ _ (gr_refl _) rfl
            refine Steps.cons rfl ?_ ?_
            ·intro f wz hB h K Q hK
             have h32 : (MP.is (.bool true)).p (f 32) wz := h 32 (by kernel_rfl)
             have e32 : f 32 = (.bool true) := h32
             have h36 : (MP.is (.slice (some ⟨gn2, on2, none⟩) 4080 cn2)).p (f 36) wz := h 36 (by kernel_rfl)
             have e36 : f 36 = (.slice (some ⟨gn2, on2, none⟩) 4080 cn2) := h36
             have h40 : (MP.is (.slice (some ⟨gn3, on3, none⟩) 4080 cn3)).p (f 40) wz := h 40 (by kernel_rfl)
             have e40 : f 40 = (.slice (some ⟨gn3, on3, none⟩) 4080 cn3) := h40
             simp only [e32, e36, e40] at hK ⊢
             clear e32 e36 e40
             clear h
             try rw [if_pos (by rfl)]
             go_simp
             refine (SB3.out _ (bel_drew hB)).mono ?_
             rintro e w5 ⟨rfl, rfl⟩
             exact hK _ _ (gr_refl _) rfl
            refine Steps.cons rfl ?_ ?_
            ·intro f wz hB h K Q hK
             have h32 : (MP.is (.bool true)).p (f 32) wz := h 32 (by kernel_rfl)
             have e32 : f 32 = (.bool true) := h32
             have h41 : (MP.is (.bool true)).p (f 41) wz := h 41 (by kernel_rfl)
             have e41 : f 41 = (.bool true) := h41
             simp only [e32, e41] at hK ⊢
             clear e32 e41
             clear h
             try rw [if_pos (by rfl)]
             go_simp
             exact hK _ _ (gr_refl _) rfl
            refine Steps.cons rfl ?_ ?_
            ·intro f wz hB h K Q hK
             have h26 : (MP.is (.bool false)).p (f 26) wz := h 26 (by kernel_rfl)
             have e26 : f 26 = (.bool false) := h26
             have h32 : (MP.is (.bool true)).p (f 32) wz := h 32 (by kernel_rfl)
             have e32 : f 32 = (.bool true) := h32
             have h42 : (MP.is (.bool false)).p (f 42) wz := h 42 (by kernel_rfl)
             have e42 : f 42 = (.bool false) := h42
             simp only [e26, e32, e42] at hK ⊢
             clear e26 e32 e42
             clear h
             try rw [if_pos (by rfl)]
             go_simp
             exact hK _ _ (gr_refl _) rfl
            refine Steps.cons rfl ?_ ?_
            ·intro f wz hB h K Q hK
             have h26 : (MP.is (.bool false)).p (f 26) wz := h 26 (by kernel_rfl)
             have e26 : f 26 = (.bool false) := h26
             have h43 : (MP.is (.bool false)).p (f 43) wz := h 43 (by kernel_rfl)
             have e43 : f 43 = (.bool false) := h43
             simp only [e26, e43] at hK ⊢
             clear e26 e43
             clear h
             try rw [if_pos (by rfl)]
             go_simp
             exact hK _ _ (gr_refl _) rfl
            exact Steps.nil
           intro f w8 hB8 hR
           have e0 : f 0 = (.int .i64 0) := hR 0 (by decide)
           have e1 : f 1 = (.bool false) := hR 1 (by decide)
           have e2 : f 2 = (.bool false) := hR 2 (by decide)
           have e3 : f 3 = (.slice qv 4080 vc2) := hR 3 (by decide)
           have e4 : f 4 = (.slice (some ⟨g, 0, none⟩) 20 c1) := hR 4 (by decide)
           have e5 : f 5 = (.int .i64 (k3 : Int)) := hR 5 (by decide)
           have e6 : f 6 = (.pointer (some ⟨g, k3, none⟩)) := hR 6 (by decide)
           have e7 : f 7 = (.slice (some ⟨gn1, on1, none⟩) 4080 cn1) := hR 7 (by decide)
           have e8 : f 8 = (.bool true) := hR 8 (by decide)
           have e9 : f 9 = (.bool false) := hR 9 (by decide)
           have e10 : f 10 = (.bool false) := hR 10 (by decide)
           have e11 : f 11 = (.bool false) := hR 11 (by decide)
           have e12 : f 12 = (.slice (some ⟨gt, 0, none⟩) 20 20) := hR 12 (by decide)
           have e13 : f 13 = (.int .i64 (k3 : Int)) := hR 13 (by decide)
           have e14 : f 14 = (.pointer (some ⟨gt, k3, none⟩)) := hR 14 (by decide)
           have e15 : f 15 = (.bool false) := hR 15 (by decide)
           have e16 : f 16 = (.bool false) := hR 16 (by decide)
           have e17 : f 17 = (undef) := hR 17 (by decide)
           have e18 : f 18 = (undef) := hR 18 (by decide)
           have e19 : f 19 = (undef) := hR 19 (by decide)
           have e20 : f 20 = (undef) := hR 20 (by decide)
           have e21 : f 21 = (undef) := hR 21 (by decide)
           have e22 : f 22 = (undef) := hR 22 (by decide)
           have e23 : f 23 = (undef) := hR 23 (by decide)
           have e24 : f 24 = (.bool false) := hR 24 (by decide)
           have e25 : f 25 = (.bool false) := hR 25 (by decide)
           have e26 : f 26 = (.bool false) := hR 26 (by decide)
           have e27 : f 27 = (.slice (some ⟨gt, 0, none⟩) 20 20) := hR 27 (by decide)
           have e28 : f 28 = (.int .i64 (k3 : Int)) := hR 28 (by decide)
           have e29 : f 29 = (.pointer (some ⟨gt, k3, none⟩)) := hR 29 (by decide)
           have e30 : f 30 = (.bool false) := hR 30 (by decide)
           have e31 : f 31 = (.bool true) := hR 31 (by decide)
           have e32 : f 32 = (.bool true) := hR 32 (by decide)
           have e33 : f 33 = (.slice (some ⟨gq, 0, none⟩) 20 cq) := hR 33 (by decide)
           have e34 : f 34 = (.int .i64 (k3 : Int)) := hR 34 (by decide)
           have e35 : f 35 = (.pointer (some ⟨gq, k3, none⟩)) := hR 35 (by decide)
           have e36 : f 36 = (.slice (some ⟨gn2, on2, none⟩) 4080 cn2) := hR 36 (by decide)
           have e37 : f 37 = (.slice (some ⟨ga, 0, none⟩) 20 20) := hR 37 (by decide)
           have e38 : f 38 = (.int .i64 (k3 : Int)) := hR 38 (by decide)
           have e39 : f 39 = (.pointer (some ⟨ga, k3, none⟩)) := hR 39 (by decide)
           have e40 : f 40 = (.slice (some ⟨gn3, on3, none⟩) 4080 cn3) := hR 40 (by decide)
           have e41 : f 41 = (.bool true) := hR 41 (by decide)
           have e42 : f 42 = (.bool false) := hR 42 (by decide)
           have e43 : f 43 = (.bool false) := hR 43 (by decide)
           have e44 : f 44 = (.bool false) := hR 44 (by decide)
           simp only [e0, e1, e2, e3, e4, e5, e6, e7, e8, e9, e10, e11, e12, e13, e14, e15, e16, e17, e18, e19, e20, e21, e22, e23, e24, e25, e26, e27, e28, e29, e30, e31, e32, e33, e34, e35, e36, e37, e38, e39, e40, e41, e42, e43, e44]
           clear e0 e1 e2 e3 e4 e5 e6 e7 e8 e9 e10 e11 e12 e13 e14 e15 e16 e17 e18 e19 e20 e21 e22 e23 e24 e25 e26 e27 e28 e29 e30 e31 e32 e33 e34 e35 e36 e37 e38 e39 e40 e41 e42 e43 e44 hR
           have HL3 := Lib.hid (HL2.out.below (bel_drew hB8))
           clear hB8 CE1 CE2 CE3 CE4 SB1 SB2 SB3 HL2 htk
           go_wp2_with fail
           go_roundw
           case rel => exact ⟨k3 + 1, by omega, by go_num, HL3⟩
           case measure => simp [Go.RowKit.intOf]; omega
         ·obtain rfl : k3 = 20 := by omega
          have HFB : Hid (Below w.heap.size w wr) := Lib.hid (by
           obtain ⟨T3, s1, _⟩ := HL.out.ex
           exact s1.bel)
          have HAW := Lib.hid (awake10_any wr)
          clear HL
          go_wp2_with fail
          refine HAW.out.mono ?_
          rintro e we ⟨rfl, hbe⟩
          have HFE := Lib.hid (gr_trans HFB.out hbe)
          clear hbe
          go_wp2_with fail
          go_ret
          exact ⟨rfl, HFE.out⟩
     ·obtain ⟨h1, h2⟩ := hb rfl
      clear hb
      go_upto_if 76 with fail
      go_cut [12] from 58 to 107 (fun v12 wx => ∃ fr2 : Nat, v12 = .int .i64 (fr2 : Int) ∧ Hid (HeI w wx z gj g0 ga g i fr2))
      case first =>
       by_cases ha : (i : Int) = a
       ·have t1 : ((i : Int) == a) = true := beq_iff_eq.2 ha
        clear ha
        obtain ⟨T, nw, recs, V, im, hs, hp, pr, pa, yk⟩ := HH.out.ex
        have y3 := yk.yb.c3
        have HF := Lib.hid (Fresh_sj hs)
        have HX := Lib.hid (And.intro hp (And.intro pr (And.intro pa yk)))
        clear hs hp pr pa yk
        go_wp2_with fail
        refine HF.out.mono ?_
        rintro e wf ⟨rfl, hsf, hof⟩
        obtain ⟨hp, pr, pa, yk⟩ := HX.out
        have yf := yk.off hof yk.nt (fun _ e => .inl e)
        have y1 := yf.yb.c1
        have HF2 := Lib.hid (And.intro (pr.off hof (fun _ e => e) (fun _ e => .inl e)) (And.intro (pa.off hof (fun _ e => e) (fun _ e => .inl e)) yf))
        have HL := Lib.hid (Last_sj hsf)
        have HSF := Lib.hid hsf
        clear hsf hof hp pr pa yk yf y3
        go_wp2_with fail
        refine HL.out.mono ?_
        rintro e wl ⟨rfl, hbl⟩
        have HH2 : Hid (HeI w wl z gj g0 ga g i recs.length) := Lib.hid ((⟨⟨T, nw, recs, V, [], HSF.out, HX.out.1.fresh, HF2.out.1, HF2.out.2.1, HF2.out.2.2⟩⟩ : HeI w wf z gj g0 ga g i recs.length).below hbl)
        clear hbl
        go_wp2_with fail
        go_meet
        exact ⟨recs.length, rfl, HH2⟩
       ·have t1 : ((i : Int) == a) = false := beq_eq_false_iff_ne.2 ha
        go_wp2_with fail
        go_meet
        exact ⟨fr, rfl, HH⟩
      case rest =>
       clear HH
       obtain ⟨fr2, rfl, HH⟩ := hcut
       obtain ⟨T, nw, recs, V, im, hs, hp, pr, pa, yk⟩ := HH.out.ex
       have t1 : decide ((i : Int) < (nn : Int)) = true := decide_eq_true (by omega)
       have t2 : decide (i < nn) = true := decide_eq_true h1
       have j0 : (0 : Int) ≤ (i : Int) := Int.natCast_nonneg _
       have j1 : (i : Int) < (nn : Int) := by omega
       have y3 := yk.yb.c3
       have HB := Lib.hid (Begin_sj hs)
       have HSB := Lib.hid hs.bel
       have HX := Lib.hid (And.intro hp (And.intro pr (And.intro pa yk)))
       have HSRT := Lib.hid hs.srt
       clear hs hp pr pa yk HH
       go_wp2_with fail
       refine HB.out.mono ?_
       rintro e wb ⟨gx, U, rfl, hsb, hxb, hbb, _, hub⟩
       obtain ⟨hp, pr, pa, yk⟩ := HX.out
       have pr2 : PR2 wb (TU T U) (some ⟨g, 0, none⟩) 20 nw := pr.off (R := fun _ => False) (Off.of_below hbb) (fun _ e => False.elim e) (fun k e => e.elim .inl (fun e => .inr (hub k e)))
       have pa2 : PR2 wb (TU T U) (some ⟨ga, 0, none⟩) 20 anyP := pa.off (R := fun _ => False) (Off.of_below hbb) (fun _ e => False.elim e) (fun k e => e.elim .inl (fun e => .inr (hub k e)))
       have yk2 := yk.below hbb
       have HUG : Hid (¬ U g0) := Lib.hid (fun e => by have := hub g0 e; have := yk.yb.lt; omega)
       obtain ⟨gw, ow, rfl, hcell⟩ := (HA.out.below (gr_trans HSB.out hbb)).at_ h1
       generalize l.getD i 0 = x at hcell
       have HPK := Lib.hid (Pick_any x 1000003 wb (by omega) (by omega))
       have hm0 : 0 ≤ x % 1000003 := Int.emod_nonneg x (by omega)
       have hm1 : x % 1000003 < 1000003 := Int.emod_lt_of_pos x (by omega)
       obtain ⟨m, hm⟩ := Int.eq_ofNat_of_zero_le hm0
       rw [hm] at HPK hm1
       have HST := Lib.hid (step_any hsb hxb pr2 m (by omega) c1)
       have HB2 := Lib.hid (And.intro pa2 yk2)
       have HNL : Hid (∀ p, p < 20 → (nw p).length = 4080) := Lib.hid (fun p hp => pr.len hp)
       clear hm hm0 hm1 hsb hxb hbb hub hp pr pa yk pr2 pa2 yk2 y3
       go_wp2_with fail
       refine HPK.out.mono ?_
       rintro e wb' ⟨rfl, rfl⟩
       go_wp2_with fail
       refine HST.out.mono ?_
       rintro e ws ⟨g2, c2, st, rfl, hss, hxs, hst, pos, hos⟩
       have hpv := HX.out.1
       have HD := Lib.hid (Done_sj hss hxs (i : Int) (by omega) (by omega) (by have := hpv.v; omega) (by have := hpv.r; omega) (by have := hpv.ml; omega) (by omega))
       have pas := HB2.out.1.off hos (fun _ e => .inr e) (fun _ e => .inl e)
       have yks := HB2.out.2.off hos HUG.out (fun _ e => .inl e)
       have HS2 := Lib.hid (And.intro pos.pr (And.intro pas yks))
       have HP2 : Hid (∀ tx : Int, HeP (i + 1) fr2 (V + (st.length + 1)) (recs ++ if chgL im nw st = [] then [] else [(⟨1, tx, chgL im nw st⟩ : Rec)]) (markF (chgL im nw st) im) (nowD nw st)) := Lib.hid (fun tx => hpv.step HSRT.out hxs.ok hst HNL.out tx)
       clear hss hxs hst pos hos hpv pas yks
       go_wp2_with fail
       refine HD.out.mono ?_
       rintro e wd ⟨rfl, T2, hsd, _, hod, htd⟩
       have HH2 : Hid (HeI w wd z gj g0 ga g2 (i + 1) fr2) := Lib.hid ⟨T2, _, _, _, _, hsd.wide (by omega), HP2.out _, HS2.out.1.off hod (fun _ e => e) (fun k e => (htd k e).imp .inl id), HS2.out.2.1.off hod (fun _ e => e) (fun k e => (htd k e).imp .inl id), HS2.out.2.2.off hod (fun e => e.elim HS2.out.2.2.nt HUG.out) htd⟩
       clear hsd hod htd
       go_wp2_with fail
       go_roundw
       case rel => exact ⟨i + 1, fr2, g2, c2, by omega, rfl, rfl, by push_cast; rfl, HH2⟩
       case measure => simp only [Go.RowKit.intOf]; omega
end Go.Proofs.YtnkeclpgpiogoaaGreat
