/-
  The walk of SpaceApart.
-/
import Derived.Test.YtnkeclpgpiogoaaGreatPkA9
namespace Go.Proofs.YtnkeclpgpiogoaaGreat
open Go Go.RowKit Go.Maps
structure SpI (w wr : World) (z : Wh) (n gt : Nat) (k fr : Nat) : Prop where
 ex : ∃ T now recs V im tk, SC w wr z n 400 T now (100 + 40 * k) recs V im ∧ MapI (now 0) n tk ∧ fr + (takenL tk n).length = n ∧ V ≤ 4 + 4 * k ∧ recs.length ≤ 1 + k ∧ im.length ≤ 3 + 3 * k ∧ TB wr gt tk n ∧ ¬ T gt ∧ w.heap.size ≤ gt
set_option maxRecDepth 100000 in
set_option maxHeartbeats 4000000 in
theorem SpaceApart_any (pages : Int) (A : Option Addr) (nn c : Nat) (l : List Int) (w : World) (ha : IR w A nn l) (_hnn : nn ≤ 4611686018427387904) :
  Calls Tryz.prog 3 #[.int .i64 pages, .slice A nn c] w fun e w' => e = .returned (.bool true) ∧ Below w.heap.size w w' := by
 obtain ⟨n, hn⟩ : ∃ n, n = n11 pages := ⟨_, rfl⟩
 have hnle := n11_le pages
 rw [← hn] at hnle
 obtain ⟨hn1, hn2⟩ := hnle
 have HM := Lib.hid (made11_any pages w w (gr_refl w))
 have HPK := Lib.hid (Pick_any pages 40 w (by omega) (by omega))
 have hp1 : (1 : Int) + pages % 40 = (n : Int) := by
  rw [hn]
  unfold n11
  have := Int.emod_nonneg pages (show (40 : Int) ≠ 0 by omega)
  omega
 have HA := Lib.hid ha
 rw [← hn] at HM
 clear hn ha
 generalize pages % 40 = pk at *
 have wr1 : IntKind.i64.wrap (1 + pk) = (n : Int) := by rw [IntKind.wrap_i64]; omega
 go_enter Tryz.func3, Tryz.ntmps3
 go_wp2_with fail
 refine HPK.out.mono ?_
 rintro e w0 ⟨rfl, rfl⟩
 go_wp2_with fail
 refine HM.out.mono ?_
 rintro e w1 ⟨z, gj, gb, T1, rfl, haz, hb1⟩
 have HB := Lib.hid (Begin_sc (SC.new11 haz hn2))
 clear haz hb1
 go_wp2_with fail
 refine HB.out.mono ?_
 rintro e w2 ⟨gx, U, rfl, hs2, hx2, _, _, _⟩
 have HF := Lib.hid (Format_sc hs2 hx2 hn1 (by simp))
 clear hs2 hx2
 go_wp2_with fail
 refine HF.out.mono ?_
 rintro e w3 ⟨rfl, hs3, hx3, _⟩
 have HD := Lib.hid (Done_ap hs3 hx3 (by have := ins_len (p := 0) (m := turnL zP 0) (XOk.new n); simp only [newX, List.length_nil] at this; omega) 1 (by omega) (by omega) (by omega) (by simp) (by simp) (by omega))
 have hm3 : MapI (nowD (fun _ => zP) (insS 0 (turnL zP 0) []) 0) n (fun p => decide (p = 0)) := MapI.fmt hn1
 have HM3 := Lib.hid hm3
 clear hs3 hx3 hm3
 go_wp2_with fail
 refine HD.out.mono ?_
 rintro e w4 ⟨r4, rfl, T4, recs, V, im, hs4, hV, hrc, him, _, _⟩
 have hmk := run_mk_boolsU n (by omega) (n : Int) rfl w4
 have hb5 := gr_alloc (gr_refl w4) (.cells (boolsA (fun _ => false) n) 4)
 have htb : TB (w4.alloc (.cells (boolsA (fun _ => false) n) 4)) w4.heap.size (fun _ => false) n := heap_alloc_new _ _
 have fz := htb.frozen 0
 have hcl := htb.cell (p := 0) hn1
 have hin : (0 : Int) < (n : Int) := by omega
 have hwr : IntKind.i64.wrap ((n : Int) - 1) = ((n - 1 : Nat) : Int) := by rw [IntKind.wrap_i64]; omega
 have HI0 : Hid (SpI w (w4.alloc (.cells ((boolsA (fun _ => false) n).setIfInBounds 0 (.bool true)) 4)) z n w4.heap.size 0 (n - 1)) := Lib.hid (by
  have hnt : ¬ T4 w4.heap.size := fun e => by
   have := (hs4.lt e).2
   omega
  have hsz := hs4.bel.size
  refine ⟨T4, _, recs, V, im, fun p => decide (p = 0), (hs4.below (gr_alloc (gr_refl w4) _)).more (by omega), HM3.out, by rw [taken_new hn1]; omega, by omega, by simp only [List.length_nil] at hrc; omega, by simp only [List.length_nil] at him; omega, ?_, hnt, hsz⟩
  have e : updB (fun _ => false) 0 true = fun p => decide (p = 0) := by
   funext p
   unfold updB
   by_cases h : p = 0
   ·rw [if_pos h, decide_eq_true h]
   ·rw [if_neg h, decide_eq_false h]
  have h := heap_alloc_new w4 (.cells ((boolsA (fun _ => false) n).setIfInBounds 0 (.bool true)) 4)
  rw [boolsA_set hn1, e] at h ⊢
  exact h)
 clear hs4 hV hrc him hb5
 go_wp2_with fail
 clear hmk htb fz hcl
 obtain ⟨gt, hgt⟩ : ∃ gt, gt = w4.heap.size := ⟨_, rfl⟩
 rw [← hgt] at HI0
 rw [← hgt]
 clear hgt
 go_loopw [12, 13] (fun f i wr => ∃ k fr : Nat, k ≤ nn ∧ k ≤ 60 ∧ f = .int .i64 (fr : Int) ∧ i = .int .i64 (k : Int) ∧ Hid (SpI w wr z n gt k fr)) (fun _ i _ => 60 - (Go.RowKit.intOf i).toNat)
 case atStart => exact ⟨0, n - 1, Nat.zero_le _, by omega, by first | rfl | (congr 1; omega), rfl, HI0⟩
 case round =>
  clear HI0
  obtain ⟨k, fr, hk1, hk2, rfl, rfl, HI⟩ := hrel
  by_cases hlt : k < nn ∧ k < 60
  ·obtain ⟨ha1, ha2⟩ := hlt
   have t1 : decide ((k : Int) < (nn : Int)) = true := decide_eq_true (by omega)
   have t2 : decide (k < nn) = true := decide_eq_true ha1
   have t3 : decide ((k : Int) < 60) = true := decide_eq_true (by omega)
   have t4 : decide (k < 60) = true := decide_eq_true ha2
   have j0 : (0 : Int) ≤ (k : Int) := Int.natCast_nonneg _
   have j1 : (k : Int) < (nn : Int) := by omega
   obtain ⟨T0, now, recs0, V0, im0, tk, hs0, hM0, hfr, hV0, hr0, hi0, htb0, hnt0, hgt0⟩ := HI.out.ex
   obtain ⟨g, o, rfl, hcell⟩ := (HA.out.below hs0.bel).at_ ha1
   generalize l.getD k 0 = x at hcell
   have HPK := Lib.hid (Pick_any x 1000003 wr (by omega) (by omega))
   have hm0 : 0 ≤ x % 1000003 := Int.emod_nonneg x (by omega)
   have hm1 : x % 1000003 < 1000003 := Int.emod_lt_of_pos x (by omega)
   have HB0 := Lib.hid (Begin_sc hs0)
   have HTB0 := Lib.hid (And.intro htb0 (And.intro hnt0 hgt0))
   have HM0 := Lib.hid hM0
   have HFR := Lib.hid hfr
   have HBD := Lib.hid (And.intro hV0 (And.intro hr0 hi0))
   have HGL : Hid (gt < wr.heap.size) := Lib.hid htb0.lt
   generalize x % 1000003 = m at HPK hm0 hm1
   have hfr2 : fr ≤ n := by omega
   clear hs0 hM0 hfr hV0 hr0 hi0 htb0 hnt0 hgt0
   go_wp2_with fail
   refine HPK.out.mono ?_
   rintro e w10 ⟨rfl, rfl⟩
   go_wp2_with fail
   refine HB0.out.mono ?_
   rintro e w11 ⟨gx2, U2, rfl, hs11, hx11, hb11, _, hu11⟩
   have HTB : Hid (TB w11 gt tk n ∧ ¬ T0 gt ∧ w.heap.size ≤ gt ∧ ¬ U2 gt) := Lib.hid ⟨HTB0.out.1.below hb11, HTB0.out.2.1, HTB0.out.2.2, fun e => by
    have := hu11 gt e
    have := HGL.out
    omega⟩
   have hM11 : MapI (nowD now [] 0) n tk := HM0.out
   have HTK := Lib.hid (Take_sc hs11 hx11 (by simp) hM11 hn1 (by omega))
   have HGV : Hid (∀ p : Int, _) := Lib.hid (fun p => Give_sc hs11 hx11 (by simp) hM11 hn1 (by omega) p)
   clear hs11 hx11 hb11 hu11 hM11
   by_cases hm3 : m % 3 < 2
   ·have t5 : decide (m % 3 < 2) = true := decide_eq_true hm3
    clear hm3
    go_wp2_with fail
    refine HTK.out.mono ?_
    rintro e w12 (⟨hfull, rfl, T12, hs12, _, ho12, ht12⟩ | ⟨f, hf1, hf2, hf3, hfe, rfl, T12, hs12, hx12, ho12, ht12⟩)
    ·have t6 : ((fr : Int) == 0) = true := by
      have := taken_full hfull
      have := HFR.out
      rw [show fr = 0 by omega]
      rfl
     have HI2 : Hid (SpI w w12 z n gt (k + 1) fr) := Lib.hid ⟨T12, now, recs0, V0, im0, tk, hs12.more (by omega), HM0.out, HFR.out, by have := HBD.out.1; omega, by have := HBD.out.2.1; omega, by have := HBD.out.2.2; omega, HTB.out.1.off ho12 (fun e => e.elim HTB.out.2.1 HTB.out.2.2.2), fun e => (ht12 gt e).elim HTB.out.2.1 (fun e => by have := HTB.out.1.lt; omega), HTB.out.2.2.1⟩
     clear hfull hs12 ho12 ht12
     go_wp2_with fail
     go_roundw
     all_goals have ha1 := of_decide_eq_true t2
     all_goals have ha2 := of_decide_eq_true t4
     case rel => exact ⟨k + 1, fr, by omega, by omega, rfl, by go_num, HI2⟩
     case measure => simp [Go.RowKit.intOf]; omega
    ·clear hfe
     have hcnt := taken_take hf2 hf3
     have hcl := taken_le (tk := updB tk f (!tk f)) (n := n)
     have hfr1 : 1 ≤ fr := by
      have := HFR.out
      omega
     have t6 : ((fr : Int) == 0) = false := beq_eq_false_iff_ne.2 (by omega)
     obtain ⟨st, hst⟩ : ∃ st, st = insS 0 (turnL (nowD now [] 0) f) (insS f zP []) := ⟨_, rfl⟩
     rw [← hst] at hx12
     have hl1 : st.length ≤ 2 := by
      rw [hst]
      have h1 := ins_len (p := f) (m := zP) (XOk.new n)
      have h2 := ins_len (p := 0) (m := turnL (nowD now [] 0) f) ((XOk.new n).ins (p := f) (m := zP) hf2 rfl (.inl (by simp [newX])))
      simp only [newX, List.length_nil] at h1 h2
      omega
     have hz : nowD now st f = zP := by
      rw [hst, nowD_ins, nowD_ins]
      unfold updN
      rw [if_neg (by omega), if_pos rfl]
     have hmap : ∀ q, MapI (nowD now (insS f q st) 0) n (updB tk f (!tk f)) := fun q => by
      rw [nowD_ins]
      unfold updN
      rw [if_neg (by omega), hst]
      exact HM0.out.tkn (st := []) (st2 := insS f zP []) (by omega) hf2 (by omega)
     have hgt := Get_sc hs12 hx12 f hf2 (by omega)
     rw [hz] at hgt
     have HGT := Lib.hid hgt
     have HMAP := Lib.hid hmap
     have HTB12 : Hid (TB w12 gt tk n ∧ ¬ T12 gt) := Lib.hid ⟨HTB.out.1.off ho12 (fun e => e.elim HTB.out.2.1 HTB.out.2.2.2), fun e => (ht12 gt e).elim HTB.out.2.1 (fun e => by have := HTB.out.1.lt; omega)⟩
     have HCN : Hid ((fr - 1) + (takenL (updB tk f (!tk f)) n).length = n) := Lib.hid (by have := HFR.out; omega)
     clear hcnt hcl hst hz hmap hgt hs12 hx12 ho12 ht12
     go_wp2_with fail
     refine HGT.out.mono ?_
     rintro e w13 ⟨v, rfl, hv, T13, wn, hsn, hxn, hmn, hbn, hvn⟩
     obtain ⟨Bv, cv, rfl, hbr, _, _⟩ := hv.formN (n := 4080) rfl
     have hs13 := hsn.below hbn
     have hx13 := hxn.below hbn
     have htb13 := (HTB12.out.1.off hmn.1 HTB12.out.2).below hbn
     have hnt13 : ¬ T13 gt := fun e => (hmn.2 gt e).elim HTB12.out.2 (fun e => by have := HTB12.out.1.lt; omega)
     have hc13 := htb13.cell hf2
     rw [hf3] at hc13
     have hmk2 := run_mk_bytes 4080 (by omega) 4080 rfl w13
     have hb14 := gr_alloc (gr_refl w13) (.cells (zeroB 4080) 5)
     have hoz : OB (w13.alloc (.cells (zeroB 4080) 5)) w13.heap.size (.slice (some ⟨w13.heap.size, 0, none⟩) 4080 4080) zP := OB.zero _ 4080 (by decide)
     have hsb := SameBytes_any Bv (some ⟨w13.heap.size, 0, none⟩) 4080 4080 cv 4080 zP zP _ (hbr.below hb14) (ob_br hoz rfl)
     rw [show (zP == zP) = true from beq_self_eq_true _] at hsb
     have HSB := Lib.hid hsb
     have hmd := Made_any m 4080 (w13.alloc (.cells (zeroB 4080) 5)) (by omega)
     have HMD := Lib.hid hmd
     have hfi0 : (0 : Int) ≤ (f : Int) := Int.natCast_nonneg _
     have hfi1 : (f : Int) < (n : Int) := by omega
     have t7 : decide ((f : Int) < 1) = false := decide_eq_false (by omega)
     have t8 : decide ((n : Int) ≤ (f : Int)) = false := decide_eq_false (by omega)
     have t9 : decide (n ≤ f) = false := decide_eq_false (by omega)
     have t10 : decide (f < n) = true := decide_eq_true hf2
     have HS13 := Lib.hid (hs13.below hb14)
     have HX13 := Lib.hid (hx13.below hb14)
     have HTB13 := Lib.hid (And.intro (htb13.below hb14) hnt13)
     clear hv hsn hxn hmn hbn hvn hs13 hx13 htb13 hb14 hoz hsb hmd hbr hnt13
     go_wp2_with fail
     refine HSB.out.mono ?_
     rintro e w14 ⟨rfl, rfl⟩
     go_wp2_with fail
     refine HMD.out.mono ?_
     rintro e w15 ⟨rfl, hbb15, hb15⟩
     rw [World.size_alloc] at hbb15
     have HST := Lib.hid (Set_sc (HS13.out.below hb15) (HX13.out.below hb15) f (some ⟨w13.heap.size + 1, 0, none⟩) 4080 (madeL m 4080) (bb_br hbb15 (madeL_len _ _)) hf2 (.inl (by omega)))
     have HTB15 := Lib.hid (HTB13.out.1.below hb15)
     clear hbb15 hb15
     go_wp2_with fail
     refine HST.out.mono ?_
     rintro e w16 ⟨rfl, hs16, hx16, ho16⟩
     have htb16 := HTB15.out.off ho16 HTB.out.2.2.2
     have fz := htb16.frozen f
     have hc16 := htb16.cell hf2
     have hwr2 : IntKind.i64.wrap ((fr : Int) - 1) = ((fr - 1 : Nat) : Int) := by rw [IntKind.wrap_i64]; omega
     have hset : Off (· = gt) w16 (w16.setCell ⟨gt, f, none⟩ (.bool true)) := (Off.refl _ _).setCell _ rfl
     have hdn := Done_ap (hs16.nb hset (fun j e => by subst e; exact ⟨htb16.nb, HTB13.out.2, HTB.out.2.2.1⟩)) (hx16.nb hset (fun j e => by subst e; exact htb16.nb) (fun j hj e => by subst e; exact HTB.out.2.2.2 hj)) (by have := ins_len (p := f) (m := madeL m 4080) HX13.out.ok; omega) 1 (by omega) (by omega) (by have := HBD.out.1; omega) (by have := HBD.out.2.1; omega) (by have := HBD.out.2.2; omega) (by omega)
     have HDN := Lib.hid hdn
     have HTB17 : Hid (TB (w16.setCell ⟨gt, f, none⟩ (.bool true)) gt (updB tk f (!tk f)) n) := Lib.hid (by
      have := htb16.set hf2 true
      rw [hf3]
      exact this)
     clear hs16 hx16 ho16 hset hdn htb16
     go_wp2_with fail
     refine HDN.out.mono ?_
     rintro e w18 ⟨r18, rfl, T18, recs1, V1, im1, hs18, hV1, hr1, hi1, ho18, ht18⟩
     have HI2 : Hid (SpI w w18 z n gt (k + 1) (fr - 1)) := Lib.hid ⟨T18, _, recs1, V1, im1, _, hs18.more (by omega), HMAP.out _, HCN.out, by have := HBD.out.1; omega, by have := HBD.out.2.1; omega, by have := HBD.out.2.2; omega, HTB17.out.off ho18 (fun e => e.elim HTB13.out.2 HTB.out.2.2.2), fun e => (ht18 gt e).elim HTB13.out.2 (fun e => by have := HTB17.out.lt; omega), HTB.out.2.2.1⟩
     clear hs18 hV1 hr1 hi1 ho18 ht18
     go_wp2_with fail
     go_roundw
     all_goals have ha1 := of_decide_eq_true t2
     all_goals have ha2 := of_decide_eq_true t4
     case rel => exact ⟨k + 1, fr - 1, by omega, by omega, by first | rfl | (congr 1; omega), by go_num, HI2⟩
     case measure => simp [Go.RowKit.intOf]; omega
   ·have t5 : decide (m % 3 < 2) = false := decide_eq_false hm3
    clear hm3
    obtain ⟨pg, hpg⟩ := Int.eq_ofNat_of_zero_le (Int.emod_nonneg (m / 3) (show ((n : Int) + 1) ≠ 0 by omega))
    have hpn : pg ≤ n := by
     have := Int.emod_lt_of_pos (m / 3) (show (0 : Int) < (n : Int) + 1 by omega)
     omega
    go_wp2_with fail
    rw [hpg]
    refine (HGV.out (pg : Int)).mono ?_
    rintro e w12 (⟨hno, rfl, T12, hs12, hx12, ho12, ht12⟩ | ⟨p, hp, hp1, hp2, hp3, rfl, T12, hs12, hx12, ho12, ht12⟩)
    ·have htb12 := HTB.out.1.off ho12 (fun e => e.elim HTB.out.2.1 HTB.out.2.2.2)
     have hnt12 : ¬ T12 gt := fun e => (ht12 gt e).elim HTB.out.2.1 (fun e => by have := HTB.out.1.lt; omega)
     have HDN := Lib.hid (Done_ap hs12 hx12 (by simp) 1 (by omega) (by omega) (by have := HBD.out.1; omega) (by have := HBD.out.2.1; omega) (by have := HBD.out.2.2; omega) (by omega))
     have HNEXT : Hid (∀ w18 T18 recs1 V1 im1, SC w w18 z n 400 T18 (nowD now []) (100 + 40 * k + 1 + 32) recs1 V1 im1 → V1 ≤ V0 + 4 → recs1.length ≤ recs0.length + 1 → im1.length ≤ im0.length + 3 → Off (TU T12 U2) w12 w18 → (∀ k, T18 k → T12 k ∨ w12.heap.size ≤ k) → SpI w w18 z n gt (k + 1) fr) := Lib.hid (fun w18 T18 recs1 V1 im1 hs18 hV1 hr1 hi1 ho18 ht18 =>
      ⟨T18, _, recs1, V1, im1, tk, hs18.more (by omega), HM0.out, HFR.out, by have := HBD.out.1; omega, by have := HBD.out.2.1; omega, by have := HBD.out.2.2; omega, htb12.off ho18 (fun e => e.elim hnt12 HTB.out.2.2.2), fun e => (ht18 gt e).elim hnt12 (fun e => by have := htb12.lt; omega), HTB.out.2.2.1⟩)
     have hway : (pg = 0) ∨ (0 < pg ∧ pg = n) ∨ (0 < pg ∧ pg < n ∧ tk pg = false) := by
      by_cases h1 : pg = 0
      ·exact .inl h1
      ·by_cases h2 : pg = n
       ·exact .inr (.inl ⟨by omega, h2⟩)
       ·refine .inr (.inr ⟨by omega, by omega, ?_⟩)
        cases htk : tk pg with
        | false => rfl
        | true => exact absurd ⟨by omega, by omega, by rw [Int.toNat_natCast]; exact htk⟩ hno
     have HCL : Hid (∀ (h : pg < n), w12.cell? ⟨gt, pg, none⟩ = some (.bool (tk pg))) := Lib.hid (fun h => htb12.cell h)
     clear hno hs12 hx12 ho12 ht12 htb12 hnt12
     have hfi0 : (0 : Int) ≤ (pg : Int) := Int.natCast_nonneg _
     rcases hway with h1 | ⟨h1, h2⟩ | ⟨h1, h2, h3⟩
     ·have t7 : decide ((0 : Int) < (pg : Int)) = false := decide_eq_false (by omega)
      have t8 : decide (0 < pg) = false := decide_eq_false (by omega)
      clear h1
      go_wp2_with fail
      refine HDN.out.mono ?_
      rintro e w18 ⟨r18, rfl, T18, recs1, V1, im1, hs18, hV1, hr1, hi1, ho18, ht18⟩
      have HI2 := Lib.hid (HNEXT.out w18 T18 recs1 V1 im1 hs18 hV1 hr1 hi1 ho18 ht18)
      clear hs18 hV1 hr1 hi1 ho18 ht18
      go_wp2_with fail
      go_roundw
      all_goals have ha1 := of_decide_eq_true t2
      all_goals have ha2 := of_decide_eq_true t4
      case rel => exact ⟨k + 1, fr, by omega, by omega, rfl, by go_num, HI2⟩
      case measure => simp [Go.RowKit.intOf]; omega
     ·have t7 : decide ((0 : Int) < (pg : Int)) = true := decide_eq_true (by omega)
      have t8 : decide (0 < pg) = true := decide_eq_true h1
      have t9 : decide ((pg : Int) < (n : Int)) = false := decide_eq_false (by omega)
      have t10 : decide (pg < n) = false := decide_eq_false (by omega)
      clear h1 h2
      go_wp2_with fail
      refine HDN.out.mono ?_
      rintro e w18 ⟨r18, rfl, T18, recs1, V1, im1, hs18, hV1, hr1, hi1, ho18, ht18⟩
      have HI2 := Lib.hid (HNEXT.out w18 T18 recs1 V1 im1 hs18 hV1 hr1 hi1 ho18 ht18)
      clear hs18 hV1 hr1 hi1 ho18 ht18
      go_wp2_with fail
      go_roundw
      all_goals have ha1 := of_decide_eq_true t2
      all_goals have ha2 := of_decide_eq_true t4
      case rel => exact ⟨k + 1, fr, by omega, by omega, rfl, by go_num, HI2⟩
      case measure => simp [Go.RowKit.intOf]; omega
     ·have t7 : decide ((0 : Int) < (pg : Int)) = true := decide_eq_true (by omega)
      have t8 : decide (0 < pg) = true := decide_eq_true h1
      have t9 : decide ((pg : Int) < (n : Int)) = true := decide_eq_true (by omega)
      have t10 : decide (pg < n) = true := decide_eq_true h2
      have hfi1 : (pg : Int) < (n : Int) := by omega
      have hc12 := HCL.out h2
      rw [h3] at hc12
      clear h1 h2 h3
      go_wp2_with fail
      refine HDN.out.mono ?_
      rintro e w18 ⟨r18, rfl, T18, recs1, V1, im1, hs18, hV1, hr1, hi1, ho18, ht18⟩
      have HI2 := Lib.hid (HNEXT.out w18 T18 recs1 V1 im1 hs18 hV1 hr1 hi1 ho18 ht18)
      clear hs18 hV1 hr1 hi1 ho18 ht18
      go_wp2_with fail
      go_roundw
      all_goals have ha1 := of_decide_eq_true t2
      all_goals have ha2 := of_decide_eq_true t4
      case rel => exact ⟨k + 1, fr, by omega, by omega, rfl, by go_num, HI2⟩
      case measure => simp [Go.RowKit.intOf]; omega
    ·obtain rfl : pg = p := by omega
     have hcnt := taken_give hp2 hp3
     have htb12 := HTB.out.1.off ho12 (fun e => e.elim HTB.out.2.1 HTB.out.2.2.2)
     have hnt12 : ¬ T12 gt := fun e => (ht12 gt e).elim HTB.out.2.1 (fun e => by have := HTB.out.1.lt; omega)
     obtain ⟨st, hst⟩ : ∃ st, st = insS 0 (turnL (nowD now [] 0) pg) [] := ⟨_, rfl⟩
     rw [← hst] at hx12
     have hl1 : st.length ≤ 3 := by
      rw [hst]
      have h1 := ins_len (p := 0) (m := turnL (nowD now [] 0) pg) (XOk.new n)
      simp only [newX, List.length_nil] at h1
      omega
     have hmap : MapI (nowD now st 0) n (updB tk pg (!tk pg)) := by
      rw [hst]
      exact HM0.out.tkn (st := []) (st2 := []) (by omega) hp2 (by omega)
     have fz := htb12.frozen pg
     have hc12 := htb12.cell hp2
     rw [hp3] at hc12
     have hfi0 : (0 : Int) ≤ (pg : Int) := Int.natCast_nonneg _
     have hfi1 : (pg : Int) < (n : Int) := by omega
     have t7 : decide ((0 : Int) < (pg : Int)) = true := decide_eq_true (by omega)
     have t8 : decide (0 < pg) = true := decide_eq_true (by omega)
     have t9 : decide ((pg : Int) < (n : Int)) = true := decide_eq_true (by omega)
     have t10 : decide (pg < n) = true := decide_eq_true hp2
     have hset : Off (· = gt) w12 (w12.setCell ⟨gt, pg, none⟩ (.bool false)) := (Off.refl _ _).setCell _ rfl
     have HDN := Lib.hid (Done_ap (hs12.nb hset (fun j e => by subst e; exact ⟨htb12.nb, hnt12, HTB.out.2.2.1⟩)) (hx12.nb hset (fun j e => by subst e; exact htb12.nb) (fun j hj e => by subst e; exact HTB.out.2.2.2 hj)) hl1 1 (by omega) (by omega) (by have := HBD.out.1; omega) (by have := HBD.out.2.1; omega) (by have := HBD.out.2.2; omega) (by omega))
     have HTB17 : Hid (TB (w12.setCell ⟨gt, pg, none⟩ (.bool false)) gt (updB tk pg (!tk pg)) n) := Lib.hid (by
      have := htb12.set hp2 false
      rw [hp3]
      exact this)
     have HNT := Lib.hid hnt12
     have HMAP := Lib.hid hmap
     have HCN : Hid ((fr + 1) + (takenL (updB tk pg (!tk pg)) n).length = n) := Lib.hid (by have := HFR.out; omega)
     clear hp hp1 hcnt htb12 hnt12 hst hl1 hmap hset hs12 hx12 ho12 ht12
     go_wp2_with fail
     refine HDN.out.mono ?_
     rintro e w18 ⟨r18, rfl, T18, recs1, V1, im1, hs18, hV1, hr1, hi1, ho18, ht18⟩
     have HI2 : Hid (SpI w w18 z n gt (k + 1) (fr + 1)) := Lib.hid ⟨T18, _, recs1, V1, im1, _, hs18.more (by omega), HMAP.out, HCN.out, by have := HBD.out.1; omega, by have := HBD.out.2.1; omega, by have := HBD.out.2.2; omega, HTB17.out.off ho18 (fun e => e.elim HNT.out HTB.out.2.2.2), fun e => (ht18 gt e).elim HNT.out (fun e => by have := HTB17.out.lt; omega), HTB.out.2.2.1⟩
     clear hs18 hV1 hr1 hi1 ho18 ht18
     go_wp2_with fail
     go_roundw
     all_goals have ha1 := of_decide_eq_true t2
     all_goals have ha2 := of_decide_eq_true t4
     case rel => exact ⟨k + 1, fr + 1, by omega, by omega, by go_num, by go_num, HI2⟩
     case measure => simp [Go.RowKit.intOf]; omega
  ·have hend : ∀ Q : Prop, (decide ((k : Int) < (nn : Int)) = false → decide (k < nn) = false → Q) → (decide ((k : Int) < (nn : Int)) = true → decide (k < nn) = true → decide ((k : Int) < 60) = false → decide (k < 60) = false → Q) → Q := fun Q h1 h2 => by
    by_cases h : k < nn
    ·exact h2 (decide_eq_true (by omega)) (decide_eq_true h) (decide_eq_false (by omega)) (decide_eq_false (by omega))
    ·exact h1 (decide_eq_false (by omega)) (decide_eq_false h)
   obtain ⟨T0, now, recs0, V0, im0, tk, hs0, hM0, hfr, hV0, hr0, hi0, htb0, hnt0, hgt0⟩ := HI.out.ex
   have HB4 := Lib.hid (Begin_sc hs0)
   have hwn : IntKind.i64.wrap ((n : Int) - (fr : Int)) = ((takenL tk n).length : Int) := by rw [IntKind.wrap_i64]; omega
   have hwn2 : ((n : Int) - (fr : Int)) = ((takenL tk n).length : Int) := by omega
   have HM0 := Lib.hid (show MapI (nowD now [] 0) n tk from hM0)
   have HTL : Hid ((takenL tk n).length ≤ n) := Lib.hid taken_le
   clear hs0 hM0 hfr hV0 hr0 hi0 htb0 hnt0 hgt0
   refine hend _ (fun t1 t2 => ?_) (fun t1 t2 t3 t4 => ?_)
   all_goals
    clear hend hlt
    go_wp2_with fail
    refine HB4.out.mono ?_
    rintro e w11 ⟨gx8, U8, rfl, hs11, hx11, _, _, _⟩
    have HAL2 := Lib.hid (All_sc hs11 hx11 HM0.out hn1 (by omega))
    clear hs11 hx11
    generalize (takenL tk n).length = tn at *
    go_wp2_with fail
    refine HAL2.out.mono ?_
    rintro e w12 ⟨B2, k2, rfl, _, T12, hs12, _, _, _⟩
    have HBE := Lib.hid hs12.bel
    have t6 : ((tn : Int) == (tn : Int)) = true := beq_self_eq_true _
    clear hs12
    go_wp2_with fail
    refine (awake11_any w12).mono ?_
    rintro e w16 ⟨rfl, hb16⟩
    have HF := Lib.hid (gr_trans HBE.out hb16)
    clear hb16
    go_wp2_with fail
    go_ret
    exact ⟨rfl, HF.out⟩
end Go.Proofs.YtnkeclpgpiogoaaGreat
