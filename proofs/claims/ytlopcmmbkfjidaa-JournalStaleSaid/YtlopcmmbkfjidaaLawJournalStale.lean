/-
  The walk of JournalStale.
-/
import Derived.Test.YtlopcmmbkfjidaaPkE9
namespace Go.Proofs.Ytlopcmmbkfjidaa
open Go Go.RowKit

def STX (w wr : World) (gd gj ep pl0 ct0 i : Nat) (here : List Rec) (va : Value) : Prop :=
  ∃ fs cur D J S, CX w wr gd gj D J S here [] va (.slice none 0 0) ∧ StS D J ep pl0 ct0 i i fs cur ∧ here = fs.flatten ++ cur ∧ ∀ r ∈ here, recOK r
def STD (w wr : World) (gd ep : Nat) : Prop := ∃ D S, DS w wr gd D S ∧ Calm D ∧ OldE D.blocks ep ∧ D.blocks.length = 8

set_option maxRecDepth 100000 in
set_option maxHeartbeats 16000000 in
theorem JournalStale_any (A : Option Addr) (n cc : Nat) (l : List Int) (A2 : Option Addr) (n2 cc2 : Nat) (l2 : List Int) (K : Option Addr) (nk ck : Nat) (keep : List Bool) (w : World) (hl : IR w A n l) (_hn : n ≤ 17592186043904) (hl2 : IR w A2 n2 l2) (_hn2 : n2 ≤ 17592186043904) (hK : LR w K nk keep) (hnk : nk ≤ 140737488351232) :
    Calls Try.prog 5 #[.slice A n cc, .slice A2 n2 cc2, .slice K nk ck] w fun e w' => e = .returned (.bool true) ∧ Below w.heap.size w w' := by
  obtain ⟨i1, hi1, hy0, hy1, hy2⟩ := info_parts info_record
  have HIR := Lib.hid hl
  have HIR2 := Lib.hid hl2
  have HLR := Lib.hid hK
  have HKA : Hid (∀ ad, K = some ad → 0 < nk → ad.block < w.heap.size) := Lib.hid (fun ad e h0 => by
    obtain ⟨ad', e', hc⟩ := hK.2 h0
    rw [e] at e'
    injection e' with e'
    subst e'
    have hlk : 0 < keep.length := by rw [hK.len]; exact h0
    have := World.block_lt_of_cell? w _ (hc 0 (.bool keep[0]) (by rw [List.getElem?_map, List.getElem?_eq_getElem hlk]; rfl))
    rwa [block_of_add] at this)
  have HD := Lib.hid (DNew_ds 8 w w (by omega) (by omega) (gr_refl w))
  clear hl hl2 hK
  go_enter Try.func5, Try.ntmps5
  go_wp2_with fail
  refine HD.out.mono ?_
  rintro e w2 ⟨gd, S2, rfl, hd2, hb2, _⟩
  have HS2 : Hid (STD w w2 gd 1) := Lib.hid ⟨_, S2, hd2, Calm.new 8, OldE.zer 8 rfl, List.length_replicate ..⟩
  clear hd2 hb2 HD
  go_wp2_with fail
  go_loopw [9, 10, 11, 12, 13, 14, 15, 16, 17, 18, 19, 20, 21, 22, 23, 24, 25] (fun x9 x10 x11 _ _ _ _ _ _ _ _ _ _ _ _ _ _ wr => ∃ (ep at_ : Nat), 1 ≤ ep ∧ ep ≤ 4 ∧ at_ < 8 ∧ x9 = .int .i64 (at_ : Int) ∧ x10 = .int .i64 1 ∧ x11 = .int .i64 (ep : Int) ∧ Hid (STD w wr gd ep)) (fun _ _ x11 _ _ _ _ _ _ _ _ _ _ _ _ _ _ _ => 4 - (intOf x11).toNat)
  case atStart => exact ⟨1, 0, Nat.le_refl _, by omega, by omega, rfl, rfl, rfl, HS2⟩
  case round =>
    clear HS2
    obtain ⟨ep, at_, he1, he4, hat, rfl, rfl, rfl, HS⟩ := hrel
    by_cases hep : ep < 4
    · have t1 : decide ((ep : Int) ≤ 3) = true := decide_eq_true (by omega)
      obtain ⟨D, S, hd, hcm, hold, hnb⟩ := HS.out
      have hmb : mayB D.blocks.length 0 8 ep at_ 1 = true := by
        unfold mayB
        simp only [Bool.and_eq_true, decide_eq_true_eq]
        omega
      have HJN := Lib.hid (JNew_js 0 8 ep at_ 1 hd hmb)
      have HS0 := Lib.hid (StS.new hcm hold hnb hat he1 (by omega))
      have HNB := Lib.hid hnb
      clear HS hd hcm hold hnb hmb
      go_wp2_with fail
      refine HJN.out.mono ?_
      rintro e w3 ⟨gj, S3, rfl, hj3, _, _⟩
      have HC3 : Hid (STX w w3 gd gj ep at_ 1 0 [] (.slice none 0 0)) := Lib.hid ⟨[], [], D, _, S3, ⟨hj3, AllR.nil _ _ _, ⟨rfl, .inl ⟨rfl, rfl⟩⟩⟩, HS0.out, rfl, by simp⟩
      clear hj3 HJN HS0
      have HEP := Lib.hid hep
      have hcase : (((ep : Int) == 2) = true) ∨ (((ep : Int) == 2) = false) := by cases ((ep : Int) == 2) <;> simp
      rcases hcase with te | te
      · skip
        go_upto_region 14 with fail
        clear te
        go_wp2_with fail
        go_loopw [15, 16, 17, 18, 19, 20, 21] (fun x15 x16 x17 x18 _ _ _ wr => ∃ (i : Nat) (here : List Rec) (pl0 ct0 : Nat) (Ah : Option Addr) (ch : Nat), i ≤ n2 ∧ i ≤ 12 ∧ x15 = .slice Ah here.length ch ∧ x16 = .int .i64 (pl0 : Int) ∧ x17 = .int .i64 (ct0 : Int) ∧ x18 = .int .i64 (i : Int) ∧ here.length ≤ i ∧ Hid (STX w wr gd gj ep pl0 ct0 i here (.slice Ah here.length ch))) (fun _ _ _ x18 _ _ _ _ => 12 - (intOf x18).toNat)
        case atStart => exact ⟨0, [], at_, 1, none, 0, Nat.zero_le _, Nat.zero_le _, rfl, rfl, rfl, rfl, Nat.le_refl _, HC3⟩
        case round =>
          clear HC3
          obtain ⟨i, here, pl0, ct0, Ah, ch, hin, hi12, rfl, rfl, rfl, rfl, hhl, HC⟩ := hrel
          generalize hnh : here.length = nh at *
          have HNH := Lib.hid hnh
          clear hnh
          by_cases hgo : i < n2 ∧ i < 12
          · obtain ⟨hlt, h12⟩ := hgo
            have t1 : decide (i < n2) = true := decide_eq_true hlt
            have t2 : decide ((i : Int) < 12) = true := decide_eq_true (by omega)
            have i4 : (0 : Int) ≤ (i : Int) := Int.natCast_nonneg _
            have i5 : (i : Int) < (n2 : Int) := by omega
            obtain ⟨fs, cur, D, JJ, S, cx, st, hhe, hok⟩ := HC.out
            obtain ⟨g, o, hAA, hcell⟩ := (HIR2.out.below cx.js.bel).at_ hlt
            subst hAA
            have HCX := Lib.hid cx
            have HST := Lib.hid st
            have HHE0 := Lib.hid hhe
            have HOK := Lib.hid hok
            have HLT := Lib.hid hlt
            have H12 := Lib.hid h12
            generalize l2.getD i 0 = x at *
            have HSM := Lib.hid (small_any x wr)
            have HSO := Lib.hid (small_ok x)
            clear HC cx st hhe hok hlt h12
            go_wp2_with fail
            refine HSM.out.mono ?_
            rintro e w5 ⟨v5, rfl, oc5, hb5⟩
            obtain ⟨A5, c5, rfl, cr5, _, _⟩ := oc5.cr
            have HHI := Lib.hid (HeldI.new oc5 hb5 HCX.out.lt)
            have HX5 := Lib.hid (HCX.out.below hb5)
            have HCR5 := Lib.hid cr5
            obtain ⟨r, hr⟩ : ∃ r, r = smallR x := ⟨_, rfl⟩
            rw [← hr] at HHI HCR5 HSO ⊢
            clear oc5 hb5 cr5 hr HSM hcell
            obtain ⟨kd, tx, cs⟩ := r
            dsimp only at HHI HCR5
            generalize hlc : cs.length = lc at *
            have HLC := Lib.hid hlc
            clear hlc
            have hb6 := gr_alloc (gr_refl w5) (.cells #[.int .u8 (kd : Int), .int .i64 tx, .slice A5 lc c5] 25)
            have hx6 := heap_alloc_new w5 (.cells #[.int .u8 (kd : Int), .int .i64 tx, .slice A5 lc c5] 25)
            have HX6 := Lib.hid (HX5.out.below hb6)
            have HR6 := Lib.hid hx6
            have HH6 := Lib.hid (HHI.out.step (Mv.of_below hb6))
            have HAP := Lib.hid (JAppend_js HX6.out.js kd tx A5 lc c5 cs (HCR5.out.below hb6) (by have := HSO.out.1; rw [HLC.out] at this; exact this) (fun c hc p hp => (HSO.out.2 c hc).2 p hp) (by have := HST.out.lai; omega))
            clear hb6 hx6
            go_upto_region 20 with fail
            generalize w5.alloc (.cells #[.int .u8 (kd : Int), .int .i64 tx, .slice A5 lc c5] 25) = w6 at *
            generalize w5.heap.size = g6 at *
            have y0 : w6.cell? ⟨g6, 0, none⟩ = some (.int .u8 (kd : Int)) := by rw [cell_of_row _ _ 0 _ _ _ HR6.out]; rfl
            have y1 : w6.cell? ⟨g6, 1, none⟩ = some (.int .i64 tx) := by rw [cell_of_row _ _ 1 _ _ _ HR6.out]; rfl
            have y2 : w6.cell? ⟨g6, 2, none⟩ = some (.slice A5 lc c5) := by rw [cell_of_row _ _ 2 _ _ _ HR6.out]; rfl
            have HAPP := Lib.hid (HST.out.app (r := ⟨kd, tx, cs⟩))
            have HAPN := Lib.hid (HST.out.app_not (r := ⟨kd, tx, cs⟩))
            generalize appE JJ ⟨kd, tx, cs⟩ = ae at *
            generalize appN JJ ⟨kd, tx, cs⟩ = an at *
            generalize appJ JJ ⟨kd, tx, cs⟩ = aj at *
            go_wp2_with fail
            refine HAP.out.mono ?_
            rintro e w7 ⟨rfl, S7, hj7, hm7⟩
            have HX7 := Lib.hid (HX6.out.turn hj7 hm7)
            have HR7 := Lib.hid (HX6.out.turned hm7 HR6.out not_mut_rec)
            have HH7 := Lib.hid (HH6.out.step ((hm7.both (fun k e => .inl e)).both (fun k e => .inl e)))
            clear hj7 hm7 y0 y1 y2 HAP
            by_cases hae : ae = 0
            · have HA1 := Lib.hid (HAPP.out hae (by omega))
              subst hae
              have y0 : w7.cell? ⟨g6, 0, none⟩ = some (.int .u8 (kd : Int)) := by rw [cell_of_row _ _ 0 _ _ _ HR7.out]; rfl
              have y1 : w7.cell? ⟨g6, 1, none⟩ = some (.int .i64 tx) := by rw [cell_of_row _ _ 1 _ _ _ HR7.out]; rfl
              have y2 : w7.cell? ⟨g6, 2, none⟩ = some (.slice A5 lc c5) := by rw [cell_of_row _ _ 2 _ _ _ HR7.out]; rfl
              have hb8 := gr_alloc (gr_refl w7) (.cells #[.int .u8 (kd : Int), .int .i64 tx, .slice A5 lc c5] 25)
              have HX8 := Lib.hid (HX7.out.below hb8)
              have HH8 := Lib.hid (HH7.out.step (Mv.of_below hb8))
              obtain ⟨us, u1, u2, u3⟩ := HX8.out.all
              have U1 : Hid ((w7.alloc (.cells #[.int .u8 (kd : Int), .int .i64 tx, .slice A5 lc c5] 25)).ownsRow w.heap.size 25 3 (.slice Ah nh ch) nh (rcs us)) := Lib.hid (by rw [HNH.out] at u1; exact u1)
              have U0 := Lib.hid u1
              have U2 := Lib.hid u2
              have U3 := Lib.hid u3
              have hbs := HX8.out.js.bel.size
              clear hb8 u1 u2 u3
              go_upto_region 23 with (at_builtin; refine wpList_append_Rd _ rfl (.tmp 75) (.tmp 77) _ rfl w.heap.size 25 i1 _ 3 40 Try.underlying53 hi1 hy0 hy1 hy2 rfl (.slice Ah nh ch) nh (rcs us) rfl U1.out (some ⟨w7.heap.size, 0, none⟩) 1 1 [.int .u8 (kd : Int), .int .i64 tx, .slice A5 lc c5] rfl (Rd.new w7 _ #[.int .u8 (kd : Int), .int .i64 tx, .slice A5 lc c5] 1 3 rfl) (by simp [Value.oneCell']) (by omega) (by simp only [maxLen]; omega) hbs ?_; intro v9 w9 ho9 hg9 _ hbl9; obtain ⟨A9, c9, rfl, _, _⟩ := own_form ho9; have hpa := HX8.out.pushA (k := kd) (tx := tx) U0.out U2.out U3.out HH8.out hg9 hbl9 (by rw [HNH.out]; exact ho9); have HX9 := Lib.hid hpa.1; clear ho9 hg9 hbl9 hpa)
              obtain ⟨here2, hh2⟩ : ∃ here2, here2 = here ++ [⟨kd, tx, cs⟩] := ⟨_, rfl⟩
              have HN2 : Hid (here2.length = nh + 1) := Lib.hid (by rw [hh2, List.length_append, HNH.out]; rfl)
              have HOK2 : Hid (∀ r ∈ here2, recOK r) := Lib.hid (fun r hr => by
                rw [hh2] at hr
                rcases List.mem_append.1 hr with h | h
                · exact HOK.out r h
                · simp only [List.mem_singleton] at h
                  subst h
                  exact HSO.out)
              have HH9 : Hid (here2 = fs.flatten ++ (cur ++ [⟨kd, tx, cs⟩])) := Lib.hid (by rw [hh2, HHE0.out, List.append_assoc])
              rw [← hh2] at HX9
              have hnn : cur ++ [(⟨kd, tx, cs⟩ : Rec)] ≠ [] := by simp
              have HNN := Lib.hid hnn
              clear hh2 hnn y0 y1 y2 U0 U1 U2 U3 HX8 HH8 HX7 HH7 HX6 HH6 HX5 HHI HOK HHE0 HCX HST HAPP HAPN HR6 HR7
              generalize cur ++ [(⟨kd, tx, cs⟩ : Rec)] = cur2 at *
              obtain ⟨par, hpar⟩ : ∃ par : Nat, par = i % 2 := ⟨_, rfl⟩
              have p1 : Int.tmod (i : Int) 2 = (par : Int) := by rw [Int.tmod_eq_emod_of_nonneg (by omega)]; omega
              have p2 : (i : Int) % 2 = (par : Int) := by omega
              clear hpar
              by_cases hp0 : par = 0
              · have tp : ((par : Int) == 0) = true := beq_iff_eq.2 (by omega)
                obtain ⟨fl1, fl2⟩ := HA1.out.flush HNN.out
                have HSF := Lib.hid fl2
                have HFL := Lib.hid (JFlush_js HX9.out.js (by rw [HA1.out.calm.pend]; simp))
                rw [fl1] at HFL
                clear hp0 fl1 fl2
                go_wp2_with fail
                refine HFL.out.mono ?_
                rintro e wA ⟨rfl, S10, hj10, hm10⟩
                have HXA := Lib.hid (HX9.out.turn hj10 hm10)
                have HSA := Lib.hid (HSF.out.more (Nat.le_refl _) (Nat.le_refl _))
                have HHE : Hid (here2 = (fs ++ [cur2]).flatten ++ []) := Lib.hid (by rw [HH9.out]; simp)
                clear hj10 hm10 HSF HFL
                generalize fluJ D aj = JA at *
                generalize fluD D aj = DA at *
                generalize hcc : ([] : List Rec) = curA at HSA HHE
                go_upto_region 26 with fail
                obtain ⟨wv, hjb⟩ := HXA.out.js.jb
                have hus : JA.us ≤ JA.bl := Nat.le_trans (Nat.le_add_right _ _) HXA.out.js.ji.u1
                have HRM := Lib.hid (Room_any hjb hus HXA.out.js.ji.b2)
                have HLA := Lib.hid (fun W (hb : Below wA.heap.size wA W) => Last_any (hjb.below hb))
                have HSY := Lib.hid (fun W (hb : Below wA.heap.size wA W) => Synced_any (hjb.below hb))
                have HNIL := Lib.hid HSA.out.nil_of
                clear hjb hus
                generalize JA.bl - JA.us = rm at *
                generalize hla : JA.la = la at *
                generalize hsy : JA.sy = sy at *
                have HLAE := Lib.hid hla
                have HSYE := Lib.hid hsy
                clear hla hsy
                by_cases hrm : rm = 0
                · have tz : ((rm : Int) == 0) = true := beq_iff_eq.2 (by omega)
                  clear hrm
                  go_wp2_with fail
                  refine HRM.out.mono ?_
                  rintro e w11 ⟨rfl, hb11⟩
                  have HB11 := Lib.hid hb11
                  have HLA2 := Lib.hid (HLA.out w11 hb11)
                  clear hb11
                  go_wp2_with fail
                  refine HLA2.out.mono ?_
                  rintro e w12 ⟨rfl, hb12⟩
                  have HB12 := Lib.hid (gr_trans HB11.out hb12)
                  have HSY2 := Lib.hid (HSY.out w12 HB12.out)
                  clear hb12
                  go_wp2_with fail
                  refine HSY2.out.mono ?_
                  rintro e w13 ⟨rfl, hb13⟩
                  have HB13 := Lib.hid (gr_trans HB12.out hb13)
                  have HX13 := Lib.hid (HXA.out.below HB13.out)
                  clear hb13
                  by_cases hls : la = sy
                  · have hcn := HNIL.out hls
                    have tl : ((la : Int) == (sy : Int)) = true := beq_iff_eq.2 (by omega)
                    subst hcn
                    obtain ⟨fe, fS⟩ := HSA.out.free
                    have HFS := Lib.hid fS
                    have HFR := Lib.hid (JFree_js HX13.out.js)
                    rw [fe] at HFR
                    clear hls fe fS
                    go_wp2_with fail
                    refine HFR.out.mono ?_
                    rintro e w14 ⟨rfl, hj14, hm14⟩
                    have HX14 := Lib.hid (HX13.out.turn hj14 hm14)
                    obtain ⟨wv2, hjb2⟩ := HX14.out.js.jb
                    have HAT := Lib.hid (At_any hjb2)
                    have hfp : (freeJ JA).pl = JA.pl ∧ (freeJ JA).ct = JA.ct := by unfold freeJ; split <;> exact ⟨rfl, rfl⟩
                    rw [hfp.1, hfp.2] at HAT
                    clear hj14 hm14 hjb2 hfp
                    go_wp2_with fail
                    refine HAT.out.mono ?_
                    rintro e w15 ⟨rfl, hb15⟩
                    have HX15 := Lib.hid (HX14.out.below hb15)
                    have HFIN : Hid (STX w w15 gd gj ep JA.pl JA.ct (i + 1) [] (.slice none 0 0)) := Lib.hid ⟨[], [], _, _, _, ⟨HX15.out.js, AllR.nil _ _ _, HX15.out.ends⟩, HFS.out, rfl, by simp⟩
                    clear hb15
                    go_wp2_with fail
                    go_roundw
                    case rel => exact ⟨i + 1, [], JA.pl, JA.ct, none, 0, HLT.out, H12.out, rfl, rfl, rfl, by go_num, Nat.zero_le _, HFIN⟩
                    case measure => simp [intOf]; have := H12.out; omega
                  · have tl : ((la : Int) == (sy : Int)) = false := beq_eq_false_iff_ne.2 (by omega)
                    have HFIN : Hid (STX w w13 gd gj ep pl0 ct0 (i + 1) here2 (.slice A9 (nh + 1) c9)) := Lib.hid ⟨_, _, _, _, _, HX13.out, HSA.out, HHE.out, HOK2.out⟩
                    clear hls
                    go_wp2_with fail
                    go_roundw
                    case rel => exact ⟨i + 1, here2, pl0, ct0, A9, c9, HLT.out, H12.out, by rw [HN2.out], rfl, rfl, by go_num, by rw [HN2.out]; omega, by rw [HN2.out]; exact HFIN⟩
                    case measure => simp [intOf]; have := H12.out; omega
                · have tz : ((rm : Int) == 0) = false := beq_eq_false_iff_ne.2 (by omega)
                  clear hrm
                  go_wp2_with fail
                  refine HRM.out.mono ?_
                  rintro e w11 ⟨rfl, hb11⟩
                  have HFIN : Hid (STX w w11 gd gj ep pl0 ct0 (i + 1) here2 (.slice A9 (nh + 1) c9)) := Lib.hid ⟨_, _, _, _, _, HXA.out.below hb11, HSA.out, HHE.out, HOK2.out⟩
                  clear hb11
                  go_wp2_with fail
                  go_roundw
                  case rel => exact ⟨i + 1, here2, pl0, ct0, A9, c9, HLT.out, H12.out, by rw [HN2.out], rfl, rfl, by go_num, by rw [HN2.out]; omega, by rw [HN2.out]; exact HFIN⟩
                  case measure => simp [intOf]; have := H12.out; omega
              · have tp : ((par : Int) == 0) = false := beq_eq_false_iff_ne.2 (by omega)
                obtain ⟨wA, hwA⟩ : ∃ wA, wA = w9 := ⟨_, rfl⟩
                obtain ⟨JA, hJA⟩ : ∃ JA, JA = aj := ⟨_, rfl⟩
                have HXA := Lib.hid HX9.out
                have HSA := Lib.hid (HA1.out.more (Nat.le_refl _) (Nat.le_succ i))
                have HHE := Lib.hid HH9.out
                rw [← hwA] at HXA ⊢
                rw [← hJA] at HXA HSA
                clear hp0 hwA hJA
                go_upto_region 26 with fail
                obtain ⟨wv, hjb⟩ := HXA.out.js.jb
                have hus : JA.us ≤ JA.bl := Nat.le_trans (Nat.le_add_right _ _) HXA.out.js.ji.u1
                have HRM := Lib.hid (Room_any hjb hus HXA.out.js.ji.b2)
                have HLA := Lib.hid (fun W (hb : Below wA.heap.size wA W) => Last_any (hjb.below hb))
                have HSY := Lib.hid (fun W (hb : Below wA.heap.size wA W) => Synced_any (hjb.below hb))
                have HNIL := Lib.hid HSA.out.nil_of
                clear hjb hus
                generalize JA.bl - JA.us = rm at *
                generalize hla : JA.la = la at *
                generalize hsy : JA.sy = sy at *
                have HLAE := Lib.hid hla
                have HSYE := Lib.hid hsy
                clear hla hsy
                by_cases hrm : rm = 0
                · have tz : ((rm : Int) == 0) = true := beq_iff_eq.2 (by omega)
                  clear hrm
                  go_wp2_with fail
                  refine HRM.out.mono ?_
                  rintro e w11 ⟨rfl, hb11⟩
                  have HB11 := Lib.hid hb11
                  have HLA2 := Lib.hid (HLA.out w11 hb11)
                  clear hb11
                  go_wp2_with fail
                  refine HLA2.out.mono ?_
                  rintro e w12 ⟨rfl, hb12⟩
                  have HB12 := Lib.hid (gr_trans HB11.out hb12)
                  have HSY2 := Lib.hid (HSY.out w12 HB12.out)
                  clear hb12
                  go_wp2_with fail
                  refine HSY2.out.mono ?_
                  rintro e w13 ⟨rfl, hb13⟩
                  have HB13 := Lib.hid (gr_trans HB12.out hb13)
                  have HX13 := Lib.hid (HXA.out.below HB13.out)
                  clear hb13
                  by_cases hls : la = sy
                  · have hcn := HNIL.out hls
                    have tl : ((la : Int) == (sy : Int)) = true := beq_iff_eq.2 (by omega)
                    subst hcn
                    obtain ⟨fe, fS⟩ := HSA.out.free
                    have HFS := Lib.hid fS
                    have HFR := Lib.hid (JFree_js HX13.out.js)
                    rw [fe] at HFR
                    clear hls fe fS
                    go_wp2_with fail
                    refine HFR.out.mono ?_
                    rintro e w14 ⟨rfl, hj14, hm14⟩
                    have HX14 := Lib.hid (HX13.out.turn hj14 hm14)
                    obtain ⟨wv2, hjb2⟩ := HX14.out.js.jb
                    have HAT := Lib.hid (At_any hjb2)
                    have hfp : (freeJ JA).pl = JA.pl ∧ (freeJ JA).ct = JA.ct := by unfold freeJ; split <;> exact ⟨rfl, rfl⟩
                    rw [hfp.1, hfp.2] at HAT
                    clear hj14 hm14 hjb2 hfp
                    go_wp2_with fail
                    refine HAT.out.mono ?_
                    rintro e w15 ⟨rfl, hb15⟩
                    have HX15 := Lib.hid (HX14.out.below hb15)
                    have HFIN : Hid (STX w w15 gd gj ep JA.pl JA.ct (i + 1) [] (.slice none 0 0)) := Lib.hid ⟨[], [], _, _, _, ⟨HX15.out.js, AllR.nil _ _ _, HX15.out.ends⟩, HFS.out, rfl, by simp⟩
                    clear hb15
                    go_wp2_with fail
                    go_roundw
                    case rel => exact ⟨i + 1, [], JA.pl, JA.ct, none, 0, HLT.out, H12.out, rfl, rfl, rfl, by go_num, Nat.zero_le _, HFIN⟩
                    case measure => simp [intOf]; have := H12.out; omega
                  · have tl : ((la : Int) == (sy : Int)) = false := beq_eq_false_iff_ne.2 (by omega)
                    have HFIN : Hid (STX w w13 gd gj ep pl0 ct0 (i + 1) here2 (.slice A9 (nh + 1) c9)) := Lib.hid ⟨_, _, _, _, _, HX13.out, HSA.out, HHE.out, HOK2.out⟩
                    clear hls
                    go_wp2_with fail
                    go_roundw
                    case rel => exact ⟨i + 1, here2, pl0, ct0, A9, c9, HLT.out, H12.out, by rw [HN2.out], rfl, rfl, by go_num, by rw [HN2.out]; omega, by rw [HN2.out]; exact HFIN⟩
                    case measure => simp [intOf]; have := H12.out; omega
                · have tz : ((rm : Int) == 0) = false := beq_eq_false_iff_ne.2 (by omega)
                  clear hrm
                  go_wp2_with fail
                  refine HRM.out.mono ?_
                  rintro e w11 ⟨rfl, hb11⟩
                  have HFIN : Hid (STX w w11 gd gj ep pl0 ct0 (i + 1) here2 (.slice A9 (nh + 1) c9)) := Lib.hid ⟨_, _, _, _, _, HXA.out.below hb11, HSA.out, HHE.out, HOK2.out⟩
                  clear hb11
                  go_wp2_with fail
                  go_roundw
                  case rel => exact ⟨i + 1, here2, pl0, ct0, A9, c9, HLT.out, H12.out, by rw [HN2.out], rfl, rfl, by go_num, by rw [HN2.out]; omega, by rw [HN2.out]; exact HFIN⟩
                  case measure => simp [intOf]; have := H12.out; omega
            · have HA1 := Lib.hid ((HAPN.out hae).more (Nat.le_succ i) (Nat.le_succ i))
              have t4 : (ae != 0) = true := by rw [bne_iff_ne]; exact hae
              have HFIN : Hid (STX w w7 gd gj ep pl0 ct0 (i + 1) here (.slice Ah nh ch)) := Lib.hid ⟨fs, cur, _, _, S7, HX7.out, HA1.out, HHE0.out, HOK.out⟩
              clear hae
              go_wp2_with fail
              go_roundw
              case rel => exact ⟨i + 1, here, pl0, ct0, Ah, ch, HLT.out, H12.out, by rw [HNH.out], rfl, rfl, by go_num, by rw [HNH.out]; omega, by rw [HNH.out]; exact HFIN⟩
              case measure => simp [intOf]; have := H12.out; omega
          · obtain ⟨fs, cur, D, JJ, S, cx, st, hhe, hok⟩ := HC.out
            have HCX := Lib.hid cx
            have HST := Lib.hid st
            have HHE := Lib.hid hhe
            have HOK := Lib.hid hok
            obtain ⟨k1, k2, k3, k4, k5, k6, k7⟩ := st.crash (by omega) keep
            have hp0 := st.p0
            have hc0 := st.c0
            obtain ⟨k, hk⟩ : ∃ k, k = fs.flatten.length := ⟨_, rfl⟩
            have hkn : k ≤ nh := by rw [hk, ← HNH.out, hhe]; simp
            have HTK : Hid (fs.flatten = here.take k) := Lib.hid (by rw [hhe, hk, List.take_left' rfl])
            have HTL : Hid ((here.take k).length = k) := Lib.hid (by rw [List.length_take, HNH.out]; omega)
            rw [HTK.out] at k4
            obtain ⟨U, hU⟩ : ∃ U, U = totL fs := ⟨_, rfl⟩
            rw [← hU] at k5 k6
            have K1 := Lib.hid k1
            have K2 := Lib.hid k2
            have K3 := Lib.hid k3
            have K4 := Lib.hid k4
            have K5 := Lib.hid k5
            obtain ⟨pto, hto⟩ : ∃ pto, pto = (pl0 + U) % 8 := ⟨_, rfl⟩
            obtain ⟨nx, hnx⟩ : ∃ nx, nx = ct0 + U := ⟨_, rfl⟩
            have hto8 : pto < 8 := by omega
            have HTO := Lib.hid hto
            have HNX := Lib.hid hnx
            have q2 : decide (nh < k) = false := decide_eq_false (by omega)
            have q3 : decide (nx < ct0) = false := decide_eq_false (by omega)
            have hex : (decide (i < n2) = false) ∨ (decide (i < n2) = true ∧ decide ((i : Int) < 12) = false) := by
              by_cases h : i < n2
              · exact .inr ⟨decide_eq_true h, decide_eq_false (by omega)⟩
              · exact .inl (decide_eq_false h)
            have HCA := Lib.hid (Crash_js K nk ck keep (-1) 0 cx.js (Rd.below HLR.out cx.js.bel) (fun ad e h0 hs => by have h1 := HKA.out ad e h0; have h2 := (cx.js.kind hs).1; omega) (by omega) (by rw [st.calm.pend]; simp))
            rw [show crashE 0 = 0 from rfl] at HCA
            have HMB : Hid (mayB 8 0 8 ep pl0 ct0 = true) := Lib.hid (by
              unfold mayB
              simp only [Bool.and_eq_true, decide_eq_true_eq]
              omega)
            clear hgo HC cx st hhe hok k1 k2 k3 k4 k5 hk hU hto hnx
            rcases hex with t1 | ⟨t1, t2⟩
            all_goals
              go_wp2_with fail
              refine HCA.out.mono ?_
              rintro e w8 ⟨rfl, S8, hj8, hm8⟩
              have HX8 := Lib.hid (HCX.out.turn hj8 hm8)
              obtain ⟨S9, hd9, _⟩ := hj8.ds
              have HD9 := Lib.hid hd9
              have HSC := Lib.hid (Scan_js 0 8 ep pl0 ct0 hd9 (by rw [K3.out]; exact HMB.out) K1.out.down (by rw [K1.out.pend]; simp))
              rw [K4.out, K5.out, ← HTO.out, ← HNX.out] at HSC
              clear hj8 hm8 hd9 HCA
              go_wp2_with fail
              refine HSC.out.mono ?_
              rintro e w10 ⟨v10, rfl, or10, hb10⟩
              obtain ⟨A10, c10, rfl, rw10, _, _⟩ := or10.rw
              have HX10 := Lib.hid (HX8.out.below hb10)
              obtain ⟨A', c', e', hcc, _⟩ := HX10.out.all.form
              rw [HNH.out] at e' hcc
              injection e' with g1 g2 g3
              subst g1 g3
              have HRA := Lib.hid ((HX10.out.all.rw HNH.out).pre hkn)
              have HRB := Lib.hid rw10
              rw [HTL.out] at HRB
              have HSTD : Hid (STD w w10 gd (ep + 1)) := Lib.hid ⟨_, S9, HD9.out.below hb10, K1.out, K2.out, K3.out⟩
              have hcut := fun W => run_cut_h (P := Try.prog) W 53 25 i1 Try.underlying53 hi1 3 hy1 Ah nh ch (k : Int) k rfl (by omega)
              have HSR := Lib.hid (SameRecords_eq A10 Ah k c10 ch (here.take k) w10 HRB.out HRA.out (by omega) (fun r hr => by
                have h := HOK.out r (List.mem_of_mem_take hr)
                exact ⟨h.1, fun c hc => (h.2 c hc).1⟩))
              clear or10 rw10 hb10 HSC hcc
              rw [HTL.out]
              go_wp2_with fail
              refine HSR.out.mono ?_
              rintro e w11 ⟨rfl, hb11⟩
              have HFS : Hid (STD w w11 gd (ep + 1)) := Lib.hid (by obtain ⟨D', S', d1, d2, d3, d4⟩ := HSTD.out; exact ⟨D', S', d1.below hb11, d2, d3, d4⟩)
              clear hb11 hcut HSR
              go_wp2_with fail
              go_roundw
              case rel => exact ⟨ep + 1, pto, by omega, HEP.out, hto8, rfl, rfl, by go_num, HFS⟩
              case measure => simp [intOf]; have := HEP.out; omega
      · skip
        go_upto_region 14 with fail
        clear te
        go_wp2_with fail
        go_loopw [15, 16, 17, 18, 19, 20, 21] (fun x15 x16 x17 x18 _ _ _ wr => ∃ (i : Nat) (here : List Rec) (pl0 ct0 : Nat) (Ah : Option Addr) (ch : Nat), i ≤ n ∧ i ≤ 12 ∧ x15 = .slice Ah here.length ch ∧ x16 = .int .i64 (pl0 : Int) ∧ x17 = .int .i64 (ct0 : Int) ∧ x18 = .int .i64 (i : Int) ∧ here.length ≤ i ∧ Hid (STX w wr gd gj ep pl0 ct0 i here (.slice Ah here.length ch))) (fun _ _ _ x18 _ _ _ _ => 12 - (intOf x18).toNat)
        case atStart => exact ⟨0, [], at_, 1, none, 0, Nat.zero_le _, Nat.zero_le _, rfl, rfl, rfl, rfl, Nat.le_refl _, HC3⟩
        case round =>
          clear HC3
          obtain ⟨i, here, pl0, ct0, Ah, ch, hin, hi12, rfl, rfl, rfl, rfl, hhl, HC⟩ := hrel
          generalize hnh : here.length = nh at *
          have HNH := Lib.hid hnh
          clear hnh
          by_cases hgo : i < n ∧ i < 12
          · obtain ⟨hlt, h12⟩ := hgo
            have t1 : decide (i < n) = true := decide_eq_true hlt
            have t2 : decide ((i : Int) < 12) = true := decide_eq_true (by omega)
            have i4 : (0 : Int) ≤ (i : Int) := Int.natCast_nonneg _
            have i5 : (i : Int) < (n : Int) := by omega
            obtain ⟨fs, cur, D, JJ, S, cx, st, hhe, hok⟩ := HC.out
            obtain ⟨g, o, hAA, hcell⟩ := (HIR.out.below cx.js.bel).at_ hlt
            subst hAA
            have HCX := Lib.hid cx
            have HST := Lib.hid st
            have HHE0 := Lib.hid hhe
            have HOK := Lib.hid hok
            have HLT := Lib.hid hlt
            have H12 := Lib.hid h12
            generalize l.getD i 0 = x at *
            have HSM := Lib.hid (small_any x wr)
            have HSO := Lib.hid (small_ok x)
            clear HC cx st hhe hok hlt h12
            go_wp2_with fail
            refine HSM.out.mono ?_
            rintro e w5 ⟨v5, rfl, oc5, hb5⟩
            obtain ⟨A5, c5, rfl, cr5, _, _⟩ := oc5.cr
            have HHI := Lib.hid (HeldI.new oc5 hb5 HCX.out.lt)
            have HX5 := Lib.hid (HCX.out.below hb5)
            have HCR5 := Lib.hid cr5
            obtain ⟨r, hr⟩ : ∃ r, r = smallR x := ⟨_, rfl⟩
            rw [← hr] at HHI HCR5 HSO ⊢
            clear oc5 hb5 cr5 hr HSM hcell
            obtain ⟨kd, tx, cs⟩ := r
            dsimp only at HHI HCR5
            generalize hlc : cs.length = lc at *
            have HLC := Lib.hid hlc
            clear hlc
            have hb6 := gr_alloc (gr_refl w5) (.cells #[.int .u8 (kd : Int), .int .i64 tx, .slice A5 lc c5] 25)
            have hx6 := heap_alloc_new w5 (.cells #[.int .u8 (kd : Int), .int .i64 tx, .slice A5 lc c5] 25)
            have HX6 := Lib.hid (HX5.out.below hb6)
            have HR6 := Lib.hid hx6
            have HH6 := Lib.hid (HHI.out.step (Mv.of_below hb6))
            have HAP := Lib.hid (JAppend_js HX6.out.js kd tx A5 lc c5 cs (HCR5.out.below hb6) (by have := HSO.out.1; rw [HLC.out] at this; exact this) (fun c hc p hp => (HSO.out.2 c hc).2 p hp) (by have := HST.out.lai; omega))
            clear hb6 hx6
            go_upto_region 20 with fail
            generalize w5.alloc (.cells #[.int .u8 (kd : Int), .int .i64 tx, .slice A5 lc c5] 25) = w6 at *
            generalize w5.heap.size = g6 at *
            have y0 : w6.cell? ⟨g6, 0, none⟩ = some (.int .u8 (kd : Int)) := by rw [cell_of_row _ _ 0 _ _ _ HR6.out]; rfl
            have y1 : w6.cell? ⟨g6, 1, none⟩ = some (.int .i64 tx) := by rw [cell_of_row _ _ 1 _ _ _ HR6.out]; rfl
            have y2 : w6.cell? ⟨g6, 2, none⟩ = some (.slice A5 lc c5) := by rw [cell_of_row _ _ 2 _ _ _ HR6.out]; rfl
            have HAPP := Lib.hid (HST.out.app (r := ⟨kd, tx, cs⟩))
            have HAPN := Lib.hid (HST.out.app_not (r := ⟨kd, tx, cs⟩))
            generalize appE JJ ⟨kd, tx, cs⟩ = ae at *
            generalize appN JJ ⟨kd, tx, cs⟩ = an at *
            generalize appJ JJ ⟨kd, tx, cs⟩ = aj at *
            go_wp2_with fail
            refine HAP.out.mono ?_
            rintro e w7 ⟨rfl, S7, hj7, hm7⟩
            have HX7 := Lib.hid (HX6.out.turn hj7 hm7)
            have HR7 := Lib.hid (HX6.out.turned hm7 HR6.out not_mut_rec)
            have HH7 := Lib.hid (HH6.out.step ((hm7.both (fun k e => .inl e)).both (fun k e => .inl e)))
            clear hj7 hm7 y0 y1 y2 HAP
            by_cases hae : ae = 0
            · have HA1 := Lib.hid (HAPP.out hae (by omega))
              subst hae
              have y0 : w7.cell? ⟨g6, 0, none⟩ = some (.int .u8 (kd : Int)) := by rw [cell_of_row _ _ 0 _ _ _ HR7.out]; rfl
              have y1 : w7.cell? ⟨g6, 1, none⟩ = some (.int .i64 tx) := by rw [cell_of_row _ _ 1 _ _ _ HR7.out]; rfl
              have y2 : w7.cell? ⟨g6, 2, none⟩ = some (.slice A5 lc c5) := by rw [cell_of_row _ _ 2 _ _ _ HR7.out]; rfl
              have hb8 := gr_alloc (gr_refl w7) (.cells #[.int .u8 (kd : Int), .int .i64 tx, .slice A5 lc c5] 25)
              have HX8 := Lib.hid (HX7.out.below hb8)
              have HH8 := Lib.hid (HH7.out.step (Mv.of_below hb8))
              obtain ⟨us, u1, u2, u3⟩ := HX8.out.all
              have U1 : Hid ((w7.alloc (.cells #[.int .u8 (kd : Int), .int .i64 tx, .slice A5 lc c5] 25)).ownsRow w.heap.size 25 3 (.slice Ah nh ch) nh (rcs us)) := Lib.hid (by rw [HNH.out] at u1; exact u1)
              have U0 := Lib.hid u1
              have U2 := Lib.hid u2
              have U3 := Lib.hid u3
              have hbs := HX8.out.js.bel.size
              clear hb8 u1 u2 u3
              go_upto_region 23 with (at_builtin; refine wpList_append_Rd _ rfl (.tmp 75) (.tmp 77) _ rfl w.heap.size 25 i1 _ 3 40 Try.underlying53 hi1 hy0 hy1 hy2 rfl (.slice Ah nh ch) nh (rcs us) rfl U1.out (some ⟨w7.heap.size, 0, none⟩) 1 1 [.int .u8 (kd : Int), .int .i64 tx, .slice A5 lc c5] rfl (Rd.new w7 _ #[.int .u8 (kd : Int), .int .i64 tx, .slice A5 lc c5] 1 3 rfl) (by simp [Value.oneCell']) (by omega) (by simp only [maxLen]; omega) hbs ?_; intro v9 w9 ho9 hg9 _ hbl9; obtain ⟨A9, c9, rfl, _, _⟩ := own_form ho9; have hpa := HX8.out.pushA (k := kd) (tx := tx) U0.out U2.out U3.out HH8.out hg9 hbl9 (by rw [HNH.out]; exact ho9); have HX9 := Lib.hid hpa.1; clear ho9 hg9 hbl9 hpa)
              obtain ⟨here2, hh2⟩ : ∃ here2, here2 = here ++ [⟨kd, tx, cs⟩] := ⟨_, rfl⟩
              have HN2 : Hid (here2.length = nh + 1) := Lib.hid (by rw [hh2, List.length_append, HNH.out]; rfl)
              have HOK2 : Hid (∀ r ∈ here2, recOK r) := Lib.hid (fun r hr => by
                rw [hh2] at hr
                rcases List.mem_append.1 hr with h | h
                · exact HOK.out r h
                · simp only [List.mem_singleton] at h
                  subst h
                  exact HSO.out)
              have HH9 : Hid (here2 = fs.flatten ++ (cur ++ [⟨kd, tx, cs⟩])) := Lib.hid (by rw [hh2, HHE0.out, List.append_assoc])
              rw [← hh2] at HX9
              have hnn : cur ++ [(⟨kd, tx, cs⟩ : Rec)] ≠ [] := by simp
              have HNN := Lib.hid hnn
              clear hh2 hnn y0 y1 y2 U0 U1 U2 U3 HX8 HH8 HX7 HH7 HX6 HH6 HX5 HHI HOK HHE0 HCX HST HAPP HAPN HR6 HR7
              generalize cur ++ [(⟨kd, tx, cs⟩ : Rec)] = cur2 at *
              obtain ⟨par, hpar⟩ : ∃ par : Nat, par = i % 2 := ⟨_, rfl⟩
              have p1 : Int.tmod (i : Int) 2 = (par : Int) := by rw [Int.tmod_eq_emod_of_nonneg (by omega)]; omega
              have p2 : (i : Int) % 2 = (par : Int) := by omega
              clear hpar
              by_cases hp0 : par = 0
              · have tp : ((par : Int) == 0) = true := beq_iff_eq.2 (by omega)
                obtain ⟨fl1, fl2⟩ := HA1.out.flush HNN.out
                have HSF := Lib.hid fl2
                have HFL := Lib.hid (JFlush_js HX9.out.js (by rw [HA1.out.calm.pend]; simp))
                rw [fl1] at HFL
                clear hp0 fl1 fl2
                go_wp2_with fail
                refine HFL.out.mono ?_
                rintro e wA ⟨rfl, S10, hj10, hm10⟩
                have HXA := Lib.hid (HX9.out.turn hj10 hm10)
                have HSA := Lib.hid (HSF.out.more (Nat.le_refl _) (Nat.le_refl _))
                have HHE : Hid (here2 = (fs ++ [cur2]).flatten ++ []) := Lib.hid (by rw [HH9.out]; simp)
                clear hj10 hm10 HSF HFL
                generalize fluJ D aj = JA at *
                generalize fluD D aj = DA at *
                generalize hcc : ([] : List Rec) = curA at HSA HHE
                go_upto_region 26 with fail
                obtain ⟨wv, hjb⟩ := HXA.out.js.jb
                have hus : JA.us ≤ JA.bl := Nat.le_trans (Nat.le_add_right _ _) HXA.out.js.ji.u1
                have HRM := Lib.hid (Room_any hjb hus HXA.out.js.ji.b2)
                have HLA := Lib.hid (fun W (hb : Below wA.heap.size wA W) => Last_any (hjb.below hb))
                have HSY := Lib.hid (fun W (hb : Below wA.heap.size wA W) => Synced_any (hjb.below hb))
                have HNIL := Lib.hid HSA.out.nil_of
                clear hjb hus
                generalize JA.bl - JA.us = rm at *
                generalize hla : JA.la = la at *
                generalize hsy : JA.sy = sy at *
                have HLAE := Lib.hid hla
                have HSYE := Lib.hid hsy
                clear hla hsy
                by_cases hrm : rm = 0
                · have tz : ((rm : Int) == 0) = true := beq_iff_eq.2 (by omega)
                  clear hrm
                  go_wp2_with fail
                  refine HRM.out.mono ?_
                  rintro e w11 ⟨rfl, hb11⟩
                  have HB11 := Lib.hid hb11
                  have HLA2 := Lib.hid (HLA.out w11 hb11)
                  clear hb11
                  go_wp2_with fail
                  refine HLA2.out.mono ?_
                  rintro e w12 ⟨rfl, hb12⟩
                  have HB12 := Lib.hid (gr_trans HB11.out hb12)
                  have HSY2 := Lib.hid (HSY.out w12 HB12.out)
                  clear hb12
                  go_wp2_with fail
                  refine HSY2.out.mono ?_
                  rintro e w13 ⟨rfl, hb13⟩
                  have HB13 := Lib.hid (gr_trans HB12.out hb13)
                  have HX13 := Lib.hid (HXA.out.below HB13.out)
                  clear hb13
                  by_cases hls : la = sy
                  · have hcn := HNIL.out hls
                    have tl : ((la : Int) == (sy : Int)) = true := beq_iff_eq.2 (by omega)
                    subst hcn
                    obtain ⟨fe, fS⟩ := HSA.out.free
                    have HFS := Lib.hid fS
                    have HFR := Lib.hid (JFree_js HX13.out.js)
                    rw [fe] at HFR
                    clear hls fe fS
                    go_wp2_with fail
                    refine HFR.out.mono ?_
                    rintro e w14 ⟨rfl, hj14, hm14⟩
                    have HX14 := Lib.hid (HX13.out.turn hj14 hm14)
                    obtain ⟨wv2, hjb2⟩ := HX14.out.js.jb
                    have HAT := Lib.hid (At_any hjb2)
                    have hfp : (freeJ JA).pl = JA.pl ∧ (freeJ JA).ct = JA.ct := by unfold freeJ; split <;> exact ⟨rfl, rfl⟩
                    rw [hfp.1, hfp.2] at HAT
                    clear hj14 hm14 hjb2 hfp
                    go_wp2_with fail
                    refine HAT.out.mono ?_
                    rintro e w15 ⟨rfl, hb15⟩
                    have HX15 := Lib.hid (HX14.out.below hb15)
                    have HFIN : Hid (STX w w15 gd gj ep JA.pl JA.ct (i + 1) [] (.slice none 0 0)) := Lib.hid ⟨[], [], _, _, _, ⟨HX15.out.js, AllR.nil _ _ _, HX15.out.ends⟩, HFS.out, rfl, by simp⟩
                    clear hb15
                    go_wp2_with fail
                    go_roundw
                    case rel => exact ⟨i + 1, [], JA.pl, JA.ct, none, 0, HLT.out, H12.out, rfl, rfl, rfl, by go_num, Nat.zero_le _, HFIN⟩
                    case measure => simp [intOf]; have := H12.out; omega
                  · have tl : ((la : Int) == (sy : Int)) = false := beq_eq_false_iff_ne.2 (by omega)
                    have HFIN : Hid (STX w w13 gd gj ep pl0 ct0 (i + 1) here2 (.slice A9 (nh + 1) c9)) := Lib.hid ⟨_, _, _, _, _, HX13.out, HSA.out, HHE.out, HOK2.out⟩
                    clear hls
                    go_wp2_with fail
                    go_roundw
                    case rel => exact ⟨i + 1, here2, pl0, ct0, A9, c9, HLT.out, H12.out, by rw [HN2.out], rfl, rfl, by go_num, by rw [HN2.out]; omega, by rw [HN2.out]; exact HFIN⟩
                    case measure => simp [intOf]; have := H12.out; omega
                · have tz : ((rm : Int) == 0) = false := beq_eq_false_iff_ne.2 (by omega)
                  clear hrm
                  go_wp2_with fail
                  refine HRM.out.mono ?_
                  rintro e w11 ⟨rfl, hb11⟩
                  have HFIN : Hid (STX w w11 gd gj ep pl0 ct0 (i + 1) here2 (.slice A9 (nh + 1) c9)) := Lib.hid ⟨_, _, _, _, _, HXA.out.below hb11, HSA.out, HHE.out, HOK2.out⟩
                  clear hb11
                  go_wp2_with fail
                  go_roundw
                  case rel => exact ⟨i + 1, here2, pl0, ct0, A9, c9, HLT.out, H12.out, by rw [HN2.out], rfl, rfl, by go_num, by rw [HN2.out]; omega, by rw [HN2.out]; exact HFIN⟩
                  case measure => simp [intOf]; have := H12.out; omega
              · have tp : ((par : Int) == 0) = false := beq_eq_false_iff_ne.2 (by omega)
                obtain ⟨wA, hwA⟩ : ∃ wA, wA = w9 := ⟨_, rfl⟩
                obtain ⟨JA, hJA⟩ : ∃ JA, JA = aj := ⟨_, rfl⟩
                have HXA := Lib.hid HX9.out
                have HSA := Lib.hid (HA1.out.more (Nat.le_refl _) (Nat.le_succ i))
                have HHE := Lib.hid HH9.out
                rw [← hwA] at HXA ⊢
                rw [← hJA] at HXA HSA
                clear hp0 hwA hJA
                go_upto_region 26 with fail
                obtain ⟨wv, hjb⟩ := HXA.out.js.jb
                have hus : JA.us ≤ JA.bl := Nat.le_trans (Nat.le_add_right _ _) HXA.out.js.ji.u1
                have HRM := Lib.hid (Room_any hjb hus HXA.out.js.ji.b2)
                have HLA := Lib.hid (fun W (hb : Below wA.heap.size wA W) => Last_any (hjb.below hb))
                have HSY := Lib.hid (fun W (hb : Below wA.heap.size wA W) => Synced_any (hjb.below hb))
                have HNIL := Lib.hid HSA.out.nil_of
                clear hjb hus
                generalize JA.bl - JA.us = rm at *
                generalize hla : JA.la = la at *
                generalize hsy : JA.sy = sy at *
                have HLAE := Lib.hid hla
                have HSYE := Lib.hid hsy
                clear hla hsy
                by_cases hrm : rm = 0
                · have tz : ((rm : Int) == 0) = true := beq_iff_eq.2 (by omega)
                  clear hrm
                  go_wp2_with fail
                  refine HRM.out.mono ?_
                  rintro e w11 ⟨rfl, hb11⟩
                  have HB11 := Lib.hid hb11
                  have HLA2 := Lib.hid (HLA.out w11 hb11)
                  clear hb11
                  go_wp2_with fail
                  refine HLA2.out.mono ?_
                  rintro e w12 ⟨rfl, hb12⟩
                  have HB12 := Lib.hid (gr_trans HB11.out hb12)
                  have HSY2 := Lib.hid (HSY.out w12 HB12.out)
                  clear hb12
                  go_wp2_with fail
                  refine HSY2.out.mono ?_
                  rintro e w13 ⟨rfl, hb13⟩
                  have HB13 := Lib.hid (gr_trans HB12.out hb13)
                  have HX13 := Lib.hid (HXA.out.below HB13.out)
                  clear hb13
                  by_cases hls : la = sy
                  · have hcn := HNIL.out hls
                    have tl : ((la : Int) == (sy : Int)) = true := beq_iff_eq.2 (by omega)
                    subst hcn
                    obtain ⟨fe, fS⟩ := HSA.out.free
                    have HFS := Lib.hid fS
                    have HFR := Lib.hid (JFree_js HX13.out.js)
                    rw [fe] at HFR
                    clear hls fe fS
                    go_wp2_with fail
                    refine HFR.out.mono ?_
                    rintro e w14 ⟨rfl, hj14, hm14⟩
                    have HX14 := Lib.hid (HX13.out.turn hj14 hm14)
                    obtain ⟨wv2, hjb2⟩ := HX14.out.js.jb
                    have HAT := Lib.hid (At_any hjb2)
                    have hfp : (freeJ JA).pl = JA.pl ∧ (freeJ JA).ct = JA.ct := by unfold freeJ; split <;> exact ⟨rfl, rfl⟩
                    rw [hfp.1, hfp.2] at HAT
                    clear hj14 hm14 hjb2 hfp
                    go_wp2_with fail
                    refine HAT.out.mono ?_
                    rintro e w15 ⟨rfl, hb15⟩
                    have HX15 := Lib.hid (HX14.out.below hb15)
                    have HFIN : Hid (STX w w15 gd gj ep JA.pl JA.ct (i + 1) [] (.slice none 0 0)) := Lib.hid ⟨[], [], _, _, _, ⟨HX15.out.js, AllR.nil _ _ _, HX15.out.ends⟩, HFS.out, rfl, by simp⟩
                    clear hb15
                    go_wp2_with fail
                    go_roundw
                    case rel => exact ⟨i + 1, [], JA.pl, JA.ct, none, 0, HLT.out, H12.out, rfl, rfl, rfl, by go_num, Nat.zero_le _, HFIN⟩
                    case measure => simp [intOf]; have := H12.out; omega
                  · have tl : ((la : Int) == (sy : Int)) = false := beq_eq_false_iff_ne.2 (by omega)
                    have HFIN : Hid (STX w w13 gd gj ep pl0 ct0 (i + 1) here2 (.slice A9 (nh + 1) c9)) := Lib.hid ⟨_, _, _, _, _, HX13.out, HSA.out, HHE.out, HOK2.out⟩
                    clear hls
                    go_wp2_with fail
                    go_roundw
                    case rel => exact ⟨i + 1, here2, pl0, ct0, A9, c9, HLT.out, H12.out, by rw [HN2.out], rfl, rfl, by go_num, by rw [HN2.out]; omega, by rw [HN2.out]; exact HFIN⟩
                    case measure => simp [intOf]; have := H12.out; omega
                · have tz : ((rm : Int) == 0) = false := beq_eq_false_iff_ne.2 (by omega)
                  clear hrm
                  go_wp2_with fail
                  refine HRM.out.mono ?_
                  rintro e w11 ⟨rfl, hb11⟩
                  have HFIN : Hid (STX w w11 gd gj ep pl0 ct0 (i + 1) here2 (.slice A9 (nh + 1) c9)) := Lib.hid ⟨_, _, _, _, _, HXA.out.below hb11, HSA.out, HHE.out, HOK2.out⟩
                  clear hb11
                  go_wp2_with fail
                  go_roundw
                  case rel => exact ⟨i + 1, here2, pl0, ct0, A9, c9, HLT.out, H12.out, by rw [HN2.out], rfl, rfl, by go_num, by rw [HN2.out]; omega, by rw [HN2.out]; exact HFIN⟩
                  case measure => simp [intOf]; have := H12.out; omega
            · have HA1 := Lib.hid ((HAPN.out hae).more (Nat.le_succ i) (Nat.le_succ i))
              have t4 : (ae != 0) = true := by rw [bne_iff_ne]; exact hae
              have HFIN : Hid (STX w w7 gd gj ep pl0 ct0 (i + 1) here (.slice Ah nh ch)) := Lib.hid ⟨fs, cur, _, _, S7, HX7.out, HA1.out, HHE0.out, HOK.out⟩
              clear hae
              go_wp2_with fail
              go_roundw
              case rel => exact ⟨i + 1, here, pl0, ct0, Ah, ch, HLT.out, H12.out, by rw [HNH.out], rfl, rfl, by go_num, by rw [HNH.out]; omega, by rw [HNH.out]; exact HFIN⟩
              case measure => simp [intOf]; have := H12.out; omega
          · obtain ⟨fs, cur, D, JJ, S, cx, st, hhe, hok⟩ := HC.out
            have HCX := Lib.hid cx
            have HST := Lib.hid st
            have HHE := Lib.hid hhe
            have HOK := Lib.hid hok
            obtain ⟨k1, k2, k3, k4, k5, k6, k7⟩ := st.crash (by omega) keep
            have hp0 := st.p0
            have hc0 := st.c0
            obtain ⟨k, hk⟩ : ∃ k, k = fs.flatten.length := ⟨_, rfl⟩
            have hkn : k ≤ nh := by rw [hk, ← HNH.out, hhe]; simp
            have HTK : Hid (fs.flatten = here.take k) := Lib.hid (by rw [hhe, hk, List.take_left' rfl])
            have HTL : Hid ((here.take k).length = k) := Lib.hid (by rw [List.length_take, HNH.out]; omega)
            rw [HTK.out] at k4
            obtain ⟨U, hU⟩ : ∃ U, U = totL fs := ⟨_, rfl⟩
            rw [← hU] at k5 k6
            have K1 := Lib.hid k1
            have K2 := Lib.hid k2
            have K3 := Lib.hid k3
            have K4 := Lib.hid k4
            have K5 := Lib.hid k5
            obtain ⟨pto, hto⟩ : ∃ pto, pto = (pl0 + U) % 8 := ⟨_, rfl⟩
            obtain ⟨nx, hnx⟩ : ∃ nx, nx = ct0 + U := ⟨_, rfl⟩
            have hto8 : pto < 8 := by omega
            have HTO := Lib.hid hto
            have HNX := Lib.hid hnx
            have q2 : decide (nh < k) = false := decide_eq_false (by omega)
            have q3 : decide (nx < ct0) = false := decide_eq_false (by omega)
            have hex : (decide (i < n) = false) ∨ (decide (i < n) = true ∧ decide ((i : Int) < 12) = false) := by
              by_cases h : i < n
              · exact .inr ⟨decide_eq_true h, decide_eq_false (by omega)⟩
              · exact .inl (decide_eq_false h)
            have HCA := Lib.hid (Crash_js K nk ck keep (-1) 0 cx.js (Rd.below HLR.out cx.js.bel) (fun ad e h0 hs => by have h1 := HKA.out ad e h0; have h2 := (cx.js.kind hs).1; omega) (by omega) (by rw [st.calm.pend]; simp))
            rw [show crashE 0 = 0 from rfl] at HCA
            have HMB : Hid (mayB 8 0 8 ep pl0 ct0 = true) := Lib.hid (by
              unfold mayB
              simp only [Bool.and_eq_true, decide_eq_true_eq]
              omega)
            clear hgo HC cx st hhe hok k1 k2 k3 k4 k5 hk hU hto hnx
            rcases hex with t1 | ⟨t1, t2⟩
            all_goals
              go_wp2_with fail
              refine HCA.out.mono ?_
              rintro e w8 ⟨rfl, S8, hj8, hm8⟩
              have HX8 := Lib.hid (HCX.out.turn hj8 hm8)
              obtain ⟨S9, hd9, _⟩ := hj8.ds
              have HD9 := Lib.hid hd9
              have HSC := Lib.hid (Scan_js 0 8 ep pl0 ct0 hd9 (by rw [K3.out]; exact HMB.out) K1.out.down (by rw [K1.out.pend]; simp))
              rw [K4.out, K5.out, ← HTO.out, ← HNX.out] at HSC
              clear hj8 hm8 hd9 HCA
              go_wp2_with fail
              refine HSC.out.mono ?_
              rintro e w10 ⟨v10, rfl, or10, hb10⟩
              obtain ⟨A10, c10, rfl, rw10, _, _⟩ := or10.rw
              have HX10 := Lib.hid (HX8.out.below hb10)
              obtain ⟨A', c', e', hcc, _⟩ := HX10.out.all.form
              rw [HNH.out] at e' hcc
              injection e' with g1 g2 g3
              subst g1 g3
              have HRA := Lib.hid ((HX10.out.all.rw HNH.out).pre hkn)
              have HRB := Lib.hid rw10
              rw [HTL.out] at HRB
              have HSTD : Hid (STD w w10 gd (ep + 1)) := Lib.hid ⟨_, S9, HD9.out.below hb10, K1.out, K2.out, K3.out⟩
              have hcut := fun W => run_cut_h (P := Try.prog) W 53 25 i1 Try.underlying53 hi1 3 hy1 Ah nh ch (k : Int) k rfl (by omega)
              have HSR := Lib.hid (SameRecords_eq A10 Ah k c10 ch (here.take k) w10 HRB.out HRA.out (by omega) (fun r hr => by
                have h := HOK.out r (List.mem_of_mem_take hr)
                exact ⟨h.1, fun c hc => (h.2 c hc).1⟩))
              clear or10 rw10 hb10 HSC hcc
              rw [HTL.out]
              go_wp2_with fail
              refine HSR.out.mono ?_
              rintro e w11 ⟨rfl, hb11⟩
              have HFS : Hid (STD w w11 gd (ep + 1)) := Lib.hid (by obtain ⟨D', S', d1, d2, d3, d4⟩ := HSTD.out; exact ⟨D', S', d1.below hb11, d2, d3, d4⟩)
              clear hb11 hcut HSR
              go_wp2_with fail
              go_roundw
              case rel => exact ⟨ep + 1, pto, by omega, HEP.out, hto8, rfl, rfl, by go_num, HFS⟩
              case measure => simp [intOf]; have := HEP.out; omega
    · obtain rfl : ep = 4 := by omega
      obtain ⟨D, S, hd, _⟩ := HS.out
      have HB := Lib.hid hd.1
      have t1 : decide (((4 : Nat) : Int) ≤ 3) = false := rfl
      clear hd HS hep
      go_wp2_with fail
      refine (awake06_any wr).mono ?_
      rintro e w12 ⟨rfl, hb12⟩
      have HB12 := Lib.hid (gr_trans HB.out hb12)
      clear hb12
      go_wp2_with fail
      go_ret
      exact ⟨rfl, HB12.out⟩
end Go.Proofs.Ytlopcmmbkfjidaa
