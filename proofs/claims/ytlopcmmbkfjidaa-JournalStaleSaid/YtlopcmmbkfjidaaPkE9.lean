/-
  Texts of this claim, joined: LawJournalCrash, PlN. No statement of the program is proved here.
-/
import Derived.Test.YtlopcmmbkfjidaaPkE8
import Derived.Test.YtlopcmmbkfjidaaPkE7
/-! LawJournalCrash -/
namespace Go.Proofs.Ytlopcmmbkfjidaa
open Go Go.RowKit

/-- A record within the bounds that a comparison asks. -/
def recOK (r : Rec) : Prop := r.cs.length ≤ 9223372036854775807 ∧ ∀ c ∈ r.cs, c.2.2.length ≤ 9223372036854775807 ∧ ∀ p ∈ c.2.2, p.1 ≤ 9223372036854775807
theorem small_ok (x : Int) : recOK (smallR x) := by
  unfold smallR
  split
  · exact ⟨by simp, by simp⟩
  · split
    · refine ⟨by simp only [imgC_len]; omega, fun c hc => ?_⟩
      unfold imgC at hc
      simp only [List.mem_map, List.mem_range] at hc
      obtain ⟨i, _, rfl⟩ := hc
      exact ⟨by simp, by simp⟩
    · refine ⟨by simp, fun c hc => ?_⟩
      simp only [List.mem_singleton] at hc
      subst hc
      refine ⟨by simp, fun p hp => ?_⟩
      simp only [List.mem_singleton] at hp
      subst hp
      show ((((x % 1000003).toNat % 4000 : Nat) : Int)) ≤ 9223372036854775807
      omega
def CXX (w wr : World) (gd gj : Nat) (K : Option Addr) (nk ck : Nat) (torn : Int) (c : Nat) (al : List Rec) (Er : List Nat) (va ve : Value) : Prop :=
  ∃ fs cur D J S, CX w wr gd gj D J S al Er va ve ∧ CrS D J fs cur Er ∧ al = fs.flatten ++ cur ∧ wr.heap[w.heap.size]? = some (.cells #[.slice K nk ck, .int .i64 torn, .int .i64 (c : Int)] 46 (0, 0)) ∧ ∀ r ∈ al, recOK r
/-- Whether k is among the first j. -/
def whB (Er : List Nat) (k j : Nat) : Bool := (Er.take j).contains k
theorem whB_succ {Er : List Nat} {k j : Nat} (hj : j < Er.length) : whB Er k (j + 1) = (whB Er k j || (Er.getD j 0 == k)) := by
  unfold whB
  rw [List.take_succ_eq_append_getElem hj, List.getD_eq_getElem?_getD, List.getElem?_eq_getElem hj, Option.getD_some]
  rw [Bool.eq_iff_iff, List.contains_iff_mem, List.mem_append, List.mem_singleton, Bool.or_eq_true, List.contains_iff_mem, beq_iff_eq]
  exact ⟨fun h => h.imp id Eq.symm, fun h => h.imp id Eq.symm⟩
theorem info_int6 : (Try.prog.info? 3).map (fun i => (i.zero, i.size, i.bytes)) = some (some (.int .i64 0), 1, 8) := by kernel_rfl

set_option maxRecDepth 100000 in
set_option maxHeartbeats 16000000 in
theorem JournalCrash_any (A : Option Addr) (n cc : Nat) (l : List Int) (arm : Int) (K : Option Addr) (nk ck : Nat) (keep : List Bool) (torn cut : Int) (w : World) (hl : IR w A n l) (_hn : n ≤ 17592186043904) (hq : ∀ z ∈ l, -9223372036854775808 ≤ z ∧ z ≤ 9223372036854775807) (hK : LR w K nk keep) (hnk : nk ≤ 140737488351232) :
    Calls Try.prog 4 #[.slice A n cc, .int .i64 arm, .agg #[.slice K nk ck, .int .i64 torn, .int .i64 cut]] w fun e w' => e = .returned (.bool true) ∧ Below w.heap.size w w' := by
  obtain ⟨i0, hi0, hz0, hz1, hz2⟩ := info_parts info_int6
  obtain ⟨i1, hi1, hy0, hy1, hy2⟩ := info_parts info_record
  have HIR := Lib.hid hl
  have HQ := Lib.hid hq
  have HLR := Lib.hid hK
  have HLEN := Lib.hid hl.len
  have HKA : Hid (∀ ad, K = some ad → 0 < nk → ad.block < w.heap.size) := Lib.hid (fun ad e h0 => by
    obtain ⟨ad', e', hc⟩ := hK.2 h0
    rw [e] at e'
    injection e' with e'
    subst e'
    have hlk : 0 < keep.length := by rw [hK.len]; exact h0
    have := World.block_lt_of_cell? w _ (hc 0 (.bool keep[0]) (by rw [List.getElem?_map, List.getElem?_eq_getElem hlk]; rfl))
    rwa [block_of_add] at this)
  obtain ⟨c, hc⟩ : ∃ c : Nat, cut % 4097 = (c : Int) := ⟨(cut % 4097).toNat, by omega⟩
  have hcl : c ≤ 4096 := by omega
  obtain ⟨a, ha⟩ : ∃ a : Int, arm % 30 = a := ⟨_, rfl⟩
  have ha0 : 0 ≤ a ∧ a < 30 := by omega
  have HP1 := Lib.hid (fun W => Pick_any cut 4097 W (by omega) (by omega))
  have HP2 := Lib.hid (fun W => Pick_any arm 30 W (by omega) (by omega))
  rw [hc] at HP1
  rw [ha] at HP2
  have hb1 := gr_alloc (gr_refl w) (.cells #[.slice K nk ck, .int .i64 torn, .int .i64 (c : Int)] 46)
  have hx1 := heap_alloc_new w (.cells #[.slice K nk ck, .int .i64 torn, .int .i64 (c : Int)] 46)
  have HD := Lib.hid (DNew_ds 14 w (w.alloc (.cells #[.slice K nk ck, .int .i64 torn, .int .i64 (c : Int)] 46)) (by omega) (by omega) hb1)
  have HB1 := Lib.hid hb1
  have HX1 := Lib.hid hx1
  clear hl hq hK hc ha hb1 hx1
  go_enter Try.func4, Try.ntmps4
  go_wp2_with fail
  refine (HP1.out _).mono ?_
  rintro e w1 ⟨rfl, rfl⟩
  go_wp2_with fail
  refine HD.out.mono ?_
  rintro e w2 ⟨gd, S2, rfl, hd2, hb2, _⟩
  have HJN := Lib.hid (JNew_js 1 12 3 5 9 hd2 (show mayB (newD 14).blocks.length 1 12 3 5 9 = true from by rw [show (newD 14).blocks.length = 14 from List.length_replicate ..]; decide))
  have HX2 := Lib.hid ((hb2.block _ (Array.getElem?_eq_some_iff.1 HX1.out).1).trans HX1.out)
  clear hd2 hb2 HD HX1 HB1
  go_wp2_with fail
  refine HJN.out.mono ?_
  rintro e w3 ⟨gj, S3, rfl, hj3, hb3, _⟩
  have HX3 := Lib.hid ((hb3.block _ (Array.getElem?_eq_some_iff.1 HX2.out).1).trans HX2.out)
  have HAR := Lib.hid (Arm_js a hj3 (by omega))
  have HJ3 := Lib.hid hj3
  rw [show armE a = 0 from if_neg (by omega), show armD (newD 14) a = { newD 14 with power := a } from if_neg (by omega)] at HAR
  clear hb3 hj3 HX2 HJN
  go_wp2_with fail
  refine (HP2.out _).mono ?_
  rintro e w4 ⟨rfl, rfl⟩
  go_wp2_with fail
  refine HAR.out.mono ?_
  rintro e w5 ⟨rfl, S5, hj5, hm5⟩
  have HX5 := Lib.hid (blk_keep HX3.out hm5.1 (HJ3.out.avoid (show ¬ MutT 46 from by unfold MutT; decide)))
  have hb6 := gr_alloc (gr_refl w5) (.cells #[.int .i64 0] 3)
  have hx6 := heap_alloc_new w5 (.cells #[.int .i64 0] 3)
  have HC6 : Hid (CXX w (w5.alloc (.cells #[.int .i64 0] 3)) gd gj K nk ck torn c [] [0] (.slice none 0 0) (.slice (some ⟨w5.heap.size, 0, none⟩) 1 1)) := Lib.hid
    ⟨[], [], _, _, S5, ⟨hj5.below hb6, AllR.nil _ _ _, own_lit hx6 rfl hj5.bel.size (by simp [maxLen])⟩, CrS.new a, rfl, (hb6.block _ (Array.getElem?_eq_some_iff.1 HX5.out).1).trans HX5.out, by simp⟩
  clear hj5 hm5 hb6 hx6 HX3 HX5 HJ3 HAR
  go_wp2_with fail
  generalize w5.alloc (.cells #[.int .i64 0] 3) = w6 at *
  go_loopw [11, 12, 13, 14, 15, 16] (fun x11 x12 x13 _ _ _ wr => ∃ (i : Nat) (al : List Rec) (Er : List Nat) (Aa : Option Addr) (ca : Nat) (Ae : Option Addr) (ce : Nat), i ≤ n ∧ i ≤ 40 ∧ x11 = .slice Aa al.length ca ∧ x12 = .slice Ae Er.length ce ∧ x13 = .int .i64 (i : Int) ∧ al.length ≤ i ∧ Er.length ≤ i + 1 ∧ Hid (CXX w wr gd gj K nk ck torn c al Er (.slice Aa al.length ca) (.slice Ae Er.length ce))) (fun _ _ x13 _ _ _ _ => 40 - (intOf x13).toNat)
  case atStart => exact ⟨0, [], [0], none, 0, some ⟨w5.heap.size, 0, none⟩, 1, Nat.zero_le _, Nat.zero_le _, rfl, rfl, rfl, Nat.le_refl _, Nat.le_refl _, HC6⟩
  case round =>
    clear HC6
    obtain ⟨i, al, Er, Aa, ca, Ae, ce, hin, hi40, rfl, rfl, rfl, hal, her, HC⟩ := hrel
    generalize hna : al.length = na at *
    generalize hne : Er.length = ne at *
    have HNA := Lib.hid hna
    have HNE := Lib.hid hne
    clear hna hne
    by_cases hgo : i < n ∧ i < 40
    · obtain ⟨hlt, h40⟩ := hgo
      have t1 : decide (i < n) = true := decide_eq_true hlt
      have t2 : decide ((i : Int) < 40) = true := decide_eq_true (by omega)
      have i4 : (0 : Int) ≤ (i : Int) := Int.natCast_nonneg _
      have i5 : (i : Int) < (n : Int) := by omega
      obtain ⟨fs, cur, D, JJ, S, cx, cr, hae, hbx, hok⟩ := HC.out
      obtain ⟨g, o, rfl, hcell⟩ := (HIR.out.below cx.js.bel).at_ hlt
      have hx := HQ.out (l.getD i 0) (by rw [List.getD_eq_getElem?_getD, List.getElem?_eq_getElem (by rw [HLEN.out]; exact hlt)]; exact List.getElem_mem _)
      have HCX := Lib.hid cx
      have HCR := Lib.hid cr
      have HAE := Lib.hid hae
      have HBX := Lib.hid hbx
      have HOK := Lib.hid hok
      have HLT := Lib.hid hlt
      have H40 := Lib.hid h40
      generalize l.getD i 0 = x at *
      have HP5 := Lib.hid (fun W => Pick_any x 5 W (by omega) (by omega))
      obtain ⟨y, hy⟩ : ∃ y : Int, x % 5 = y := ⟨_, rfl⟩
      rw [hy] at HP5
      clear hy HC cx cr hae hbx hok hlt h40
      go_wp2_with fail
      refine (HP5.out _).mono ?_
      rintro e w7 ⟨rfl, rfl⟩
      by_cases hy0' : y = 0
      · have t3 : (y == 0) = true := beq_iff_eq.2 hy0'
        have hbl := gr_alloc (gr_refl wr) (.cells #[.int .i64 (na : Int)] 3)
        have HXl := Lib.hid (HCX.out.below hbl)
        have HBl := Lib.hid ((hbl.block _ (Array.getElem?_eq_some_iff.1 HBX.out).1).trans HBX.out)
        have HO1 : Hid ((wr.alloc (.cells #[.int .i64 (na : Int)] 3)).ownsRow w.heap.size 3 1 (.slice Ae ne ce) ne (Er.map fun (x : Nat) => Value.int .i64 (x : Int))) := Lib.hid (by have := HXl.out.ends; rw [HNE.out] at this; exact this)
        have hbs := HXl.out.js.bel.size
        clear hbl hy0'
        go_wp2_with (at_builtin; refine wpList_append_Rd _ rfl (.tmp 65) (.tmp 68) _ rfl w.heap.size 3 i0 _ 1 8 Try.underlying43 hi0 hz0 hz1 hz2 rfl (.slice Ae ne ce) ne _ rfl HO1.out (some ⟨wr.heap.size, 0, none⟩) 1 1 [.int .i64 (na : Int)] rfl (Rd.new wr _ #[.int .i64 (na : Int)] 1 1 rfl) (by simp [Value.oneCell']) (by omega) (by simp only [maxLen]; omega) hbs ?_; intro v4 w4 ho4 hg4 _ hbl4; obtain ⟨A4, c4, rfl, _, _⟩ := own_form ho4; have hpe := HXl.out.pushE (x := na) hg4 hbl4 (by rw [HNE.out]; exact ho4); have HX4 := Lib.hid hpe.1; have HB4 := Lib.hid (hpe.2 HBl.out (by decide)); clear ho4 hg4 hbl4 hpe)
        refine (JFlush_js HX4.out.js (by have := HCR.out.pend; omega)).mono ?_
        rintro e w8 ⟨rfl, S8, hj8, hm8⟩
        have HX8 := Lib.hid (HX4.out.turn hj8 hm8)
        have HB8 := Lib.hid (HX4.out.turned hm8 HB4.out (by unfold MutT; decide))
        obtain ⟨fs', cur', q1, q2⟩ := HCR.out.flush
        rw [← HAE.out, HNA.out] at q2
        have HFIN : Hid (CXX w w8 gd gj K nk ck torn c al (Er ++ [na]) (.slice Aa na ca) (.slice A4 (ne + 1) c4)) := Lib.hid ⟨fs', cur', _, _, S8, HX8.out, q2, by rw [q1]; exact HAE.out, HB8.out, HOK.out⟩
        clear hj8 hm8 q1 q2
        go_wp2_with fail
        go_roundw
        case rel => exact ⟨i + 1, al, Er ++ [na], Aa, ca, A4, c4, HLT.out, H40.out, by rw [HNA.out], by rw [List.length_append, HNE.out]; rfl, by go_num, by rw [HNA.out]; omega, by rw [List.length_append, HNE.out]; simp; omega, by rw [HNA.out, List.length_append, HNE.out]; exact HFIN⟩
        case measure => simp [intOf]; have := H40.out; omega
      · have t3 : (y == 0) = false := beq_eq_false_iff_ne.2 hy0'
        obtain ⟨z, hz⟩ : ∃ z : Int, Int.tdiv x 5 = z := ⟨_, rfl⟩
        have hzb : -9223372036854775808 ≤ z ∧ z ≤ 9223372036854775807 := by
          rw [← hz]
          rcases Int.le_total 0 x with h | h
          · rw [Int.tdiv_eq_ediv_of_nonneg h]; omega
          · have e : Int.tdiv x 5 = -(Int.tdiv (-x) 5) := by rw [Int.neg_tdiv]; omega
            rw [e, Int.tdiv_eq_ediv_of_nonneg (by omega)]; omega
        have HSM := Lib.hid (small_any z wr)
        have HSO := Lib.hid (small_ok z)
        clear hy0'
        go_wp2_with fail
        refine HSM.out.mono ?_
        rintro e w5 ⟨v5, rfl, oc5, hb5⟩
        obtain ⟨A5, c5, rfl, cr5, _, _⟩ := oc5.cr
        have HHI := Lib.hid (HeldI.new oc5 hb5 HCX.out.lt)
        have HX5 := Lib.hid (HCX.out.below hb5)
        have HB5 := Lib.hid ((hb5.block _ (Array.getElem?_eq_some_iff.1 HBX.out).1).trans HBX.out)
        have HCR5 := Lib.hid cr5
        obtain ⟨r, hr⟩ : ∃ r, r = smallR z := ⟨_, rfl⟩
        rw [← hr] at HHI HCR5 HSO ⊢
        clear oc5 hb5 cr5 hr HSM
        obtain ⟨kd, tx, cs⟩ := r
        dsimp only at HHI HCR5
        generalize hlc : cs.length = lc at *
        have HLC := Lib.hid hlc
        clear hlc
        have hb6 := gr_alloc (gr_refl w5) (.cells #[.int .u8 (kd : Int), .int .i64 tx, .slice A5 lc c5] 25)
        have hx6 := heap_alloc_new w5 (.cells #[.int .u8 (kd : Int), .int .i64 tx, .slice A5 lc c5] 25)
        have HX6 := Lib.hid (HX5.out.below hb6)
        have HB6 := Lib.hid ((hb6.block _ (Array.getElem?_eq_some_iff.1 HB5.out).1).trans HB5.out)
        have HR6 := Lib.hid hx6
        have HH6 := Lib.hid (HHI.out.step (Mv.of_below hb6))
        have HAP := Lib.hid (JAppend_js HX6.out.js kd tx A5 lc c5 cs (HCR5.out.below hb6) (by have := HSO.out.1; rw [HLC.out] at this; exact this) (fun c hc p hp => (HSO.out.2 c hc).2 p hp) (by rw [HCR.out.la, ← HAE.out, HNA.out]; omega))
        clear hb6 hx6
        go_upto_region 15 with fail
        generalize w5.alloc (.cells #[.int .u8 (kd : Int), .int .i64 tx, .slice A5 lc c5] 25) = w6 at *
        generalize w5.heap.size = g6 at *
        have y0 : w6.cell? ⟨g6, 0, none⟩ = some (.int .u8 (kd : Int)) := by rw [cell_of_row _ _ 0 _ _ _ HR6.out]; rfl
        have y1 : w6.cell? ⟨g6, 1, none⟩ = some (.int .i64 tx) := by rw [cell_of_row _ _ 1 _ _ _ HR6.out]; rfl
        have y2 : w6.cell? ⟨g6, 2, none⟩ = some (.slice A5 lc c5) := by rw [cell_of_row _ _ 2 _ _ _ HR6.out]; rfl
        have HAPP := Lib.hid (HCR.out.app (r := ⟨kd, tx, cs⟩))
        have HAPN := Lib.hid (HCR.out.app_not (r := ⟨kd, tx, cs⟩))
        have HANN : Hid (appN JJ ⟨kd, tx, cs⟩ = if appE JJ ⟨kd, tx, cs⟩ = 0 then JJ.la + 1 else 0) := Lib.hid rfl
        have HJLA := Lib.hid HCR.out.la
        generalize appE JJ ⟨kd, tx, cs⟩ = ae at *
        generalize appN JJ ⟨kd, tx, cs⟩ = an at *
        generalize appJ JJ ⟨kd, tx, cs⟩ = aj at *
        go_wp2_with fail
        refine HAP.out.mono ?_
        rintro e w7 ⟨rfl, S7, hj7, hm7⟩
        have HX7 := Lib.hid (HX6.out.turn hj7 hm7)
        have HB7 := Lib.hid (HX6.out.turned hm7 HB6.out (by unfold MutT; decide))
        have HR7 := Lib.hid (HX6.out.turned hm7 HR6.out not_mut_rec)
        have HH7 := Lib.hid (HH6.out.step ((hm7.both (fun k e => .inl e)).both (fun k e => .inl e)))
        clear hj7 hm7 y0 y1 y2 HAP
        by_cases hae : ae = 0
        · have HA1 := Lib.hid (HAPP.out hae (by rw [HJLA.out, ← HAE.out, HNA.out]; omega))
          have han : an = na + 1 := by rw [HANN.out, if_pos hae, HJLA.out, ← HAE.out, HNA.out]
          subst hae han
          have y0 : w7.cell? ⟨g6, 0, none⟩ = some (.int .u8 (kd : Int)) := by rw [cell_of_row _ _ 0 _ _ _ HR7.out]; rfl
          have y1 : w7.cell? ⟨g6, 1, none⟩ = some (.int .i64 tx) := by rw [cell_of_row _ _ 1 _ _ _ HR7.out]; rfl
          have y2 : w7.cell? ⟨g6, 2, none⟩ = some (.slice A5 lc c5) := by rw [cell_of_row _ _ 2 _ _ _ HR7.out]; rfl
          have hb8 := gr_alloc (gr_refl w7) (.cells #[.int .u8 (kd : Int), .int .i64 tx, .slice A5 lc c5] 25)
          have HX8 := Lib.hid (HX7.out.below hb8)
          have HB8 := Lib.hid ((hb8.block _ (Array.getElem?_eq_some_iff.1 HB7.out).1).trans HB7.out)
          have HH8 := Lib.hid (HH7.out.step (Mv.of_below hb8))
          obtain ⟨us, u1, u2, u3⟩ := HX8.out.all
          have U1 : Hid ((w7.alloc (.cells #[.int .u8 (kd : Int), .int .i64 tx, .slice A5 lc c5] 25)).ownsRow w.heap.size 25 3 (.slice Aa na ca) na (rcs us)) := Lib.hid (by rw [HNA.out] at u1; exact u1)
          have U0 := Lib.hid u1
          have U2 := Lib.hid u2
          have U3 := Lib.hid u3
          have hbs := HX8.out.js.bel.size
          clear hb8 u1 u2 u3
          go_wp2_with (at_builtin; refine wpList_append_Rd _ rfl (.tmp 86) (.tmp 88) _ rfl w.heap.size 25 i1 _ 3 40 Try.underlying53 hi1 hy0 hy1 hy2 rfl (.slice Aa na ca) na (rcs us) rfl U1.out (some ⟨w7.heap.size, 0, none⟩) 1 1 [.int .u8 (kd : Int), .int .i64 tx, .slice A5 lc c5] rfl (Rd.new w7 _ #[.int .u8 (kd : Int), .int .i64 tx, .slice A5 lc c5] 1 3 rfl) (by simp [Value.oneCell']) (by omega) (by simp only [maxLen]; omega) hbs ?_; intro v9 w9 ho9 hg9 _ hbl9; obtain ⟨A9, c9, rfl, _, _⟩ := own_form ho9; have hpa := HX8.out.pushA (k := kd) (tx := tx) U0.out U2.out U3.out HH8.out hg9 hbl9 (by rw [HNA.out]; exact ho9); have HX9 := Lib.hid hpa.1; have HB9 := Lib.hid (hpa.2 HB8.out (by decide)); clear ho9 hg9 hbl9 hpa)
          have HFIN : Hid (CXX w w9 gd gj K nk ck torn c (al ++ [⟨kd, tx, cs⟩]) Er (.slice A9 (na + 1) c9) (.slice Ae ne ce)) := Lib.hid ⟨fs, cur ++ [⟨kd, tx, cs⟩], _, _, S7, HX9.out, HA1.out, by rw [HAE.out, List.append_assoc], HB9.out, fun r hr => by
            rcases List.mem_append.1 hr with h | h
            · exact HOK.out r h
            · simp only [List.mem_singleton] at h
              subst h
              exact HSO.out⟩
          go_roundw
          case rel => exact ⟨i + 1, al ++ [⟨kd, tx, cs⟩], Er, A9, c9, Ae, ce, HLT.out, H40.out, by rw [List.length_append, HNA.out]; rfl, by rw [HNE.out], by go_num, by rw [List.length_append, HNA.out]; simp; omega, by rw [HNE.out]; omega, by rw [List.length_append, HNA.out, HNE.out]; exact HFIN⟩
          case measure => simp [intOf]; have := H40.out; omega
        · have HA1 := Lib.hid (HAPN.out hae)
          have t4 : (ae != 0) = true := by rw [bne_iff_ne]; exact hae
          have HFIN : Hid (CXX w w7 gd gj K nk ck torn c al Er (.slice Aa na ca) (.slice Ae ne ce)) := Lib.hid ⟨fs, cur, _, _, S7, HX7.out, HA1.out, HAE.out, HB7.out, HOK.out⟩
          clear hae
          go_wp2_with fail
          go_roundw
          case rel => exact ⟨i + 1, al, Er, Aa, ca, Ae, ce, HLT.out, H40.out, by rw [HNA.out], by rw [HNE.out], by go_num, by rw [HNA.out]; omega, by rw [HNE.out]; omega, by rw [HNA.out, HNE.out]; exact HFIN⟩
          case measure => simp [intOf]; have := H40.out; omega
    · obtain ⟨fs, cur, D, JJ, S, cx, cr, hae, hbx, hok⟩ := HC.out
      obtain ⟨wv, hjb⟩ := cx.js.jb
      have HCX := Lib.hid cx
      have HCR := Lib.hid cr
      have HAE := Lib.hid hae
      have HBX := Lib.hid hbx
      have HOK := Lib.hid hok
      have HSY := Lib.hid (Synced_any hjb)
      obtain ⟨k, U, k1, k2, k3, k4, k5, k6, k7, k8, k9⟩ := cr.crash keep torn c hcl
      rw [← hae] at k1 k4
      rw [HNA.out] at k1
      have K3 := Lib.hid k3
      have K4 := Lib.hid k4
      have K5 := Lib.hid k5
      have K7 := Lib.hid k7
      have K8 := Lib.hid k8
      have K9 := Lib.hid k9
      have HTL : Hid ((al.take k).length = k) := Lib.hid (by rw [List.length_take, HNA.out]; omega)
      obtain ⟨pa, hpa⟩ : ∃ pa, pa = (5 + U) % 12 := ⟨_, rfl⟩
      obtain ⟨pc, hpc⟩ : ∃ pc, pc = 9 + U := ⟨_, rfl⟩
      obtain ⟨yy, hyy⟩ : ∃ yy, yy = 5 + U := ⟨_, rfl⟩
      have e1 : 5 + (pc : Int) - 9 = (yy : Int) := by omega
      have e2 : Int.tmod (yy : Int) 12 = (pa : Int) := by rw [Int.tmod_eq_emod_of_nonneg (by omega)]; omega
      have e3 : (yy : Int) % 12 = (pa : Int) := by omega
      have hpc9 : 9 ≤ pc := by omega
      have hpcb : pc ≤ 21 := by omega
      have HPA := Lib.hid hpa
      have HPC := Lib.hid hpc
      have q2 : decide (k < JJ.sy) = false := decide_eq_false (by omega)
      have q3 : decide (na < k) = false := decide_eq_false (by omega)
      have q4 : decide ((pc : Int) < 9) = false := decide_eq_false (by omega)
      have hex : (decide (i < n) = false) ∨ (decide (i < n) = true ∧ decide ((i : Int) < 40) = false) := by
        by_cases h : i < n
        · exact .inr ⟨decide_eq_true h, decide_eq_false (by omega)⟩
        · exact .inl (decide_eq_false h)
      clear hgo HC cx cr hae hbx hok hjb k2 k3 k4 k5 k6 k7 k8 k9 hpa hpc hyy
      rcases hex with t1 | ⟨t1, t2⟩
      all_goals
        go_wp2_with fail
        refine HSY.out.mono ?_
        rintro e w7 ⟨rfl, hb7⟩
        have HX7 := Lib.hid (HCX.out.below hb7)
        have HB7 := Lib.hid ((hb7.block _ (Array.getElem?_eq_some_iff.1 HBX.out).1).trans HBX.out)
        have y0 : w7.cell? ⟨w.heap.size, 0, none⟩ = some (.slice K nk ck) := by rw [cell_of_row _ _ 0 _ _ _ HB7.out]; rfl
        have y1 : w7.cell? ⟨w.heap.size, 1, none⟩ = some (.int .i64 torn) := by rw [cell_of_row _ _ 1 _ _ _ HB7.out]; rfl
        have y2 : w7.cell? ⟨w.heap.size, 2, none⟩ = some (.int .i64 (c : Int)) := by rw [cell_of_row _ _ 2 _ _ _ HB7.out]; rfl
        have HCA := Lib.hid (Crash_js K nk ck keep torn (c : Int) HX7.out.js (Rd.below HLR.out HX7.out.js.bel) (fun ad e h0 hs => by have h1 := HKA.out ad e h0; have h2 := (HX7.out.js.kind hs).1; omega) (by omega) (by have := HCR.out.pend; omega))
        rw [crashE_in c hcl] at HCA
        clear hb7
        go_wp2_with fail
        refine HCA.out.mono ?_
        rintro e w8 ⟨rfl, S8, hj8, hm8⟩
        have HX8 := Lib.hid (HX7.out.turn hj8 hm8)
        obtain ⟨S9, hd9, _⟩ := hj8.ds
        have HSC := Lib.hid (Scan_js 1 12 3 5 9 hd9 (by rw [K9.out]; decide) K7.out (by rw [K8.out]; simp))
        rw [K4.out, K5.out, ← HPA.out, ← HPC.out] at HSC
        clear hj8 hm8 hd9 HCA y0 y1 y2
        go_wp2_with fail
        refine HSC.out.mono ?_
        rintro e w10 ⟨v10, rfl, or10, hb10⟩
        obtain ⟨A10, c10, rfl, rw10, _, _⟩ := or10.rw
        have HX10 := Lib.hid (HX8.out.below hb10)
        have hform := HX10.out.all.form
        obtain ⟨A', c', e', hcc, _⟩ := hform
        rw [HNA.out] at e' hcc
        injection e' with g1 g2 g3
        subst g1 g3
        have HRA := Lib.hid ((HX10.out.all.rw HNA.out).pre k1)
        have HRB := Lib.hid rw10
        rw [HTL.out] at HRB
        have hcut := fun W => run_cut_h (P := Try.prog) W 53 25 i1 Try.underlying53 hi1 3 hy1 Aa na ca (k : Int) k rfl (by omega)
        have HSR := Lib.hid (SameRecords_eq A10 Aa k c10 ca (al.take k) w10 HRB.out HRA.out (by omega) (fun r hr => by
          have h := HOK.out r (List.mem_of_mem_take hr)
          exact ⟨h.1, fun c hc => (h.2 c hc).1⟩))
        clear or10 rw10 hb10 HSC hcc
        rw [HTL.out]
        go_wp2_with fail
        refine HSR.out.mono ?_
        rintro e w11 ⟨rfl, hb11⟩
        have HX11 := Lib.hid (HX10.out.below hb11)
        have HIE : Hid (IR w11 Ae ne (Er.map fun (x : Nat) => (x : Int))) := Lib.hid (by
          have := HX11.out.ends
          rw [HNE.out] at this
          have e : (Er.map fun (x : Nat) => Value.int .i64 (x : Int)) = (Er.map fun (x : Nat) => (x : Int)).map (Value.int .i64) := by rw [List.map_map]; rfl
          rw [e] at this
          exact own_rd this)
        clear hb11 hcut HSR
        go_wp2_with fail
        go_loop [22, 23] (fun x22 x23 => ∃ j : Nat, j ≤ ne ∧ x23 = .int .i64 (j : Int) ∧ x22 = .bool (whB Er k j)) (fun _ x23 => ne - (intOf x23).toNat)
        case atStart => exact ⟨0, Nat.zero_le _, rfl, rfl⟩
        case round =>
          obtain ⟨j, hj, rfl, rfl⟩ := hrel
          by_cases hjn : j < ne
          · have r1 : decide (j < ne) = true := decide_eq_true hjn
            have j4 : (0 : Int) ≤ (j : Int) := Int.natCast_nonneg _
            have j5 : (j : Int) < (ne : Int) := by omega
            have HWS := Lib.hid (whB_succ (Er := Er) (k := k) (j := j) (by rw [HNE.out]; exact hjn))
            obtain ⟨gg, oo, rfl, hce⟩ := HIE.out.at_ hjn
            have e4 : (Er.map fun (x : Nat) => (x : Int)).getD j 0 = ((Er.getD j 0 : Nat) : Int) := by
              rw [List.getD_eq_getElem?_getD, List.getD_eq_getElem?_getD, List.getElem?_map]
              cases Er[j]? <;> rfl
            rw [e4] at hce
            clear e4
            generalize Er.getD j 0 = ee at *
            obtain ⟨bq, hbq⟩ : ∃ bq, (ee == k) = bq := ⟨_, rfl⟩
            have r3 : ((ee : Int) == (k : Int)) = bq := by
              rw [← hbq, Bool.eq_iff_iff, beq_iff_eq, beq_iff_eq]
              omega
            rw [hbq] at HWS
            have HJN := Lib.hid hjn
            generalize whB Er k j = wb at *
            clear hbq hjn
            cases wb
            · go_wp2_with fail
              go_round
              case rel => exact ⟨j + 1, HJN.out, by go_num, by rw [HWS.out]; rfl⟩
              case measure => simp [intOf]; have := HJN.out; omega
            · go_wp2_with fail
              go_round
              case rel => exact ⟨j + 1, HJN.out, by go_num, by rw [HWS.out]; rfl⟩
              case measure => simp [intOf]; have := HJN.out; omega
          · obtain rfl : j = ne := by omega
            have hw : whB Er k j = true := by
              unfold whB
              rw [List.take_of_length_le (by rw [HNE.out]; exact Nat.le_refl _), List.contains_iff_mem]
              exact K3.out
            rw [hw]
            clear hw
            go_wp2_with fail
            refine (awake06_any w11).mono ?_
            rintro e w12 ⟨rfl, hb12⟩
            have HB12 := Lib.hid (gr_trans HX11.out.js.bel hb12)
            clear hb12
            go_wp2_with fail
            go_ret
            exact ⟨rfl, HB12.out⟩
end Go.Proofs.Ytlopcmmbkfjidaa

/-! PlN -/
namespace Go.Proofs.Ytlopcmmbkfjidaa
open Go Go.RowKit

/-- No block of the ring bears a stamp of the epoch e or of a later one. -/
def OldE (B : List (List UInt8)) (e : Nat) : Prop := ∀ p, p < 8 → ∀ e', e ≤ e' → e' < 4294967296 → ∀ c, c < 4294967296 → NoSt (B.getD p []) (ofN e' c)
structure StS (D : DiskS) (J : JnS) (ep pl0 ct0 ia ic : Nat) (fs : List (List Rec)) (cur : List Rec) : Prop where
  lg : Lg D.blocks J pl0 ct0 fs cur
  calm : Calm D
  old : OldE D.blocks (ep + 1)
  fi : J.fi = 0
  bl : J.bl = 8
  ep' : J.ep = ep
  la : J.la = J.sy + cur.length
  lai : J.la ≤ ia
  cti : J.ct ≤ 1 + 8 * ic
  nb : D.blocks.length = 8
  p0 : pl0 < 8
  c0 : 1 ≤ ct0
theorem OldE.zer (n : Nat) (hn : n = 8) : OldE (List.replicate n zer) 1 := by
  subst hn
  intro p hp e' h1 h2 c hc
  rw [List.getD_eq_getElem?_getD, List.getElem?_replicate, if_pos hp]
  refine NoSt.zer_ ?_
  unfold ofN
  omega
theorem StS.new {D : DiskS} {ep pl : Nat} (hc : Calm D) (ho : OldE D.blocks ep) (hn : D.blocks.length = 8) (hp : pl < 8) (he : 1 ≤ ep) (he2 : ep < 4294967295) : StS D (newJ 0 8 ep pl 1) ep pl 1 0 0 [] [] := by
  refine ⟨⟨⟨by show 1 ≤ 8; omega, by show 8 ≤ 1024; omega, by show 0 ≤ 4096; omega, hp, by simp [newJ, needL], by simp [newJ, needL], by show 0 ≤ _; omega⟩, rfl, rfl, by simp, ?_, trivial, rfl, ?_, rfl, fun p hp' c _ hc => ?_, by show ep < 4294967296; omega⟩, hc, fun p hp e' h1 h2 c hc => ho p hp e' (by omega) h2 c hc, rfl, rfl, rfl, rfl, Nat.le_refl _, Nat.le_refl _, hn, hp, Nat.le_refl _⟩
  · show 0 + 8 ≤ D.blocks.length
    omega
  · show pl = (pl + 0) % 8
    omega
  · have := ho p hp' ep (Nat.le_refl _) (by omega) c hc
    show NoSt (D.blocks.getD (0 + p) []) (ofN ep c)
    rw [Nat.zero_add]
    exact this
section
variable {D : DiskS} {J : JnS} {ep pl0 ct0 ia ic : Nat} {fs : List (List Rec)} {cur : List Rec}
theorem StS.more (h : StS D J ep pl0 ct0 ia ic fs cur) {ia' ic' : Nat} (h1 : ia ≤ ia') (h2 : ic ≤ ic') : StS D J ep pl0 ct0 ia' ic' fs cur :=
  ⟨h.lg, h.calm, h.old, h.fi, h.bl, h.ep', h.la, Nat.le_trans h.lai h1, by have := h.cti; omega, h.nb, h.p0, h.c0⟩
theorem StS.app (h : StS D J ep pl0 ct0 ia ic fs cur) {r : Rec} (h0 : appE J r = 0) (hl : ia + 1 ≤ 1000000) : StS D (appJ J r) ep pl0 ct0 (ia + 1) ic fs (cur ++ [r]) := by
  have hla := h.lai
  have e : appJ J r = { J with waits := J.waits ++ encR r, la := J.la + 1 } := by unfold appJ; rw [if_pos h0]
  refine ⟨h.lg.app h0 (by omega), h.calm, h.old, ?_, ?_, ?_, ?_, ?_, ?_, h.nb, h.p0, h.c0⟩
  · rw [e]; exact h.fi
  · rw [e]; exact h.bl
  · rw [e]; exact h.ep'
  · rw [e]
    show J.la + 1 = J.sy + (cur ++ [r]).length
    rw [h.la]
    simp only [List.length_append, List.length_cons, List.length_nil]
    omega
  · rw [e]
    show J.la + 1 ≤ ia + 1
    omega
  · rw [e]; exact h.cti
theorem StS.app_not (h : StS D J ep pl0 ct0 ia ic fs cur) {r : Rec} (h0 : appE J r ≠ 0) : StS D (appJ J r) ep pl0 ct0 ia ic fs cur := by
  unfold appJ
  rw [if_neg h0]
  exact h
theorem StS.flush (h : StS D J ep pl0 ct0 ia ic fs cur) (hc : cur ≠ []) : fluE D J = 0 ∧ StS (fluD D J) (fluJ D J) ep pl0 ct0 ia (ic + 1) (fs ++ [cur]) [] := by
  obtain ⟨f1, f2, f3, f4⟩ := flu_calm h.lg h.calm hc
  refine ⟨f1, ?_⟩
  have hl := h.lg.flushed hc
  have hfit := h.lg.fits
  rw [h.bl] at hfit
  have hN := h.lg.need
  rw [f2]
  refine ⟨by rw [f4]; exact hl, f3, ?_, h.fi, h.bl, h.ep', ?_, h.lai, ?_, by rw [f4, carry_len]; exact h.nb, h.p0, h.c0⟩
  · rw [f4]
    obtain ⟨c1, c2⟩ := h.lg.carry
    rw [h.fi, h.bl] at c1 c2
    intro p hp e' h1 h2 c hcc
    by_cases hx : ∃ i, i < flN cur ∧ (J.pl + i) % 8 = p
    · obtain ⟨i, hi, rfl⟩ := hx
      have := c1 i hi
      rw [Nat.zero_add] at this
      rw [this]
      have hcts := h.lg.counts
      exact NoSt.seal_ (ofN_lt _ _) (payL_len _ _) (ofN_ne h.lg.ep h2 (by omega) hcc (.inl (by rw [h.ep']; omega)))
    · have := c2 p hp (fun i hi e => hx ⟨i, hi, e⟩)
      rw [Nat.zero_add] at this
      rw [this]
      exact h.old p hp e' h1 h2 c hcc
  · show J.la = J.la + 0
    rfl
  · show J.ct + needL J.waits.length ≤ 1 + 8 * (ic + 1)
    rw [hN]
    have := h.cti
    omega
theorem StS.nil_of (h : StS D J ep pl0 ct0 ia ic fs cur) (h0 : J.la = J.sy) : cur = [] := by
  have := h.la
  exact List.eq_nil_of_length_eq_zero (by omega)
theorem StS.free (h : StS D J ep pl0 ct0 ia ic fs []) : freeE J = 0 ∧ StS D (freeJ J) ep J.pl J.ct ia ic [] [] := by
  have hw : J.waits = [] := h.lg.wl
  have f1 : freeE J = 0 := by unfold freeE; rw [h.lg.br, if_neg (by simp), hw, if_neg (by simp)]
  have f2 : freeJ J = { J with us := 0 } := by unfold freeJ; rw [if_pos f1]
  have hct := h.lg.ct
  have hp := h.lg.ji.p1
  rw [h.bl] at hp
  refine ⟨f1, ?_⟩
  rw [f2]
  exact ⟨h.lg.freed, h.calm, h.old, h.fi, h.bl, h.ep', h.la, h.lai, h.cti, h.nb, hp, by have := h.c0; omega⟩
theorem StS.crash (h : StS D J ep pl0 ct0 ia ic fs cur) (hi : ic ≤ 1000) (keep : List Bool) : Calm (crashD D keep (-1) 0) ∧ OldE (crashD D keep (-1) 0).blocks (ep + 1) ∧ (crashD D keep (-1) 0).blocks.length = 8 ∧ scanR (crashD D keep (-1) 0) 0 8 ep pl0 ct0 = fs.flatten ∧ scanU (crashD D keep (-1) 0) 0 8 ep pl0 ct0 = totL fs ∧ totL fs ≤ 8 ∧ ct0 ≤ 10000 := by
  have e : crashD D keep (-1) ((0 : Nat) : Int) = calmD D.blocks [] := by
    rw [crashD_in D keep (-1) 0 (by omega), h.calm.pend]
    rfl
  have e2 : crashD D keep (-1) 0 = calmD D.blocks [] := e
  rw [e2]
  have hct := h.lg.ct
  have hfit := h.lg.fits
  have hcti := h.cti
  rw [h.bl] at hfit
  have hs := h.lg.scan (D := calmD D.blocks []) (by omega) rfl rfl
  rw [h.fi, h.bl, h.ep'] at hs
  exact ⟨⟨rfl, rfl, rfl, rfl⟩, h.old, h.nb, hs.1, hs.2, by omega, by omega⟩
end

end Go.Proofs.Ytlopcmmbkfjidaa
