/-
  The walk of RecordTells.
-/
import Derived.Test.YthpjjoahffagcaaRgC
import Derived.Test.YthpjjoahffagcaaRdL
namespace Go.Proofs.Ythpjjoahffagcaa
open Go.RowKit

set_option maxRecDepth 100000 in
set_option maxHeartbeats 4000000 in
theorem RecordTells_any (k : Nat) (tx : Int) (A : Option Addr) (n c : Nat) (cs : List Ch) (k' tx' : Int) (B : Option Addr) (m d : Nat) (ds : List Ch) (w : World) (ha : CR w A n cs) (hb : CR w B m ds) (hn : n ≤ 2513169434843) (hm : m ≤ 2513169434843)
    (hpa : ∀ c ∈ cs, (-9223372036854775808 ≤ c.1 ∧ c.1 ≤ 9223372036854775807) ∧ c.2.1.length ≤ 140737488351232 ∧ c.2.2.length ≤ 4398046511000 ∧ ∀ p ∈ c.2.2, -9223372036854775808 ≤ p.1 ∧ p.1 ≤ 9223372036854775807 ∧ p.2.length ≤ 140737488351232) (hpb : ∀ c ∈ ds, c.2.2.length ≤ 4398046511000) :
    Calls Try.prog 6 #[.agg #[.int .u8 (k : Int), .int .i64 tx, .slice A n c], .agg #[.int .u8 k', .int .i64 tx', .slice B m d]] w fun e w' => e = .returned (.bool true) ∧ Below w.heap.size w w' := by
  have P1 : Hid (∀ c ∈ cs, c.2.1.length ≤ 140737488351232 ∧ c.2.2.length ≤ 4398046511104 ∧ ∀ p ∈ c.2.2, p.2.length ≤ 211106232532992) := Lib.hid (fun c hc => by
    obtain ⟨_, h2, h3, h4⟩ := hpa c hc
    exact ⟨h2, by omega, fun p hp => by have := (h4 p hp).2.2; omega⟩)
  have P2 : Hid (∀ c ∈ cs, ∀ p ∈ c.2.2, p.1 ≤ 9223372036854775807) := Lib.hid (fun c hc p hp => ((hpa c hc).2.2.2 p hp).2.1)
  have P3 : Hid (∀ c ∈ cs, -9223372036854775808 ≤ c.1 ∧ c.1 ≤ 9223372036854775807) := Lib.hid (fun c hc => (hpa c hc).1)
  have P4 : Hid (∀ c ∈ cs, c.2.2.length ≤ 9223372036854775807) := Lib.hid (fun c hc => by have := (hpa c hc).2.2.1; omega)
  have P5 : Hid (∀ c ∈ cs, ∀ p ∈ c.2.2, -9223372036854775808 ≤ p.1 ∧ p.1 ≤ 9223372036854775807) := Lib.hid (fun c hc p hp => ⟨((hpa c hc).2.2.2 p hp).1, ((hpa c hc).2.2.2 p hp).2.1⟩)
  have P6 : Hid (∀ c ∈ ds, c.2.2.length ≤ 9223372036854775807) := Lib.hid (fun c hc => by have := hpb c hc; omega)
  have b1 := gr_alloc (gr_refl w) (.cells #[.int .u8 (k : Int), .int .i64 tx, .slice A n c] 38)
  have x1 := B3.new w (.int .u8 (k : Int)) (.int .i64 tx) (.slice A n c) (t := 38) (by decide)
  have b2 := gr_alloc b1 (.cells #[.int .u8 k', .int .i64 tx', .slice B m d] 38)
  have x2 := B3.new (w.alloc (.cells #[.int .u8 (k : Int), .int .i64 tx, .slice A n c] 38)) (.int .u8 k') (.int .i64 tx') (.slice B m d) (t := 38) (by decide)
  have x1' := x1.nb (NB.below (gr_alloc (gr_refl _) (.cells #[.int .u8 k', .int .i64 tx', .slice B m d] 38)))
  rw [World.size_alloc] at x2
  have HB0 := Lib.hid b2
  have HXA := Lib.hid x1'
  have HXB := Lib.hid x2
  have HA0 := Lib.hid (ha.below b2)
  have HC0 := Lib.hid (hb.below b2)
  clear b1 b2 x1 x2 x1' ha hb hpa hpb
  go_enter Try.func6, Try.ntmps6
  go_wp2_with fail
  generalize (w.alloc (.cells #[.int .u8 (k : Int), .int .i64 tx, .slice A n c] 38)).alloc (.cells #[.int .u8 k', .int .i64 tx', .slice B m d] 38) = w0 at *
  refine (CopyRecord_any (k : Int) tx A n c cs w0 HA0.out hn P1.out).mono ?_
  rintro e w1 ⟨v1, rfl, ho1, hb1⟩
  obtain ⟨A1, c1, rfl, hr1, _, _⟩ := ho1.cr
  have hl1 := hr1.len
  have hl2 := HA0.out.len
  have hln : cs.length = n := hl2
  rw [hln] at hr1 ⊢
  have hbx := gr_alloc (gr_refl w1) (.cells #[.int .u8 (k : Int), .int .i64 tx, .slice A1 n c1] 38)
  have HXX := Lib.hid (B3.new w1 (.int .u8 (k : Int)) (.int .i64 tx) (.slice A1 n c1) (t := 38) (by decide))
  have HX1 := Lib.hid (hr1.below hbx)
  have HB1 := Lib.hid (gr_trans (gr_trans HB0.out hb1) hbx)
  have HXA1 := Lib.hid (HXA.out.nb (NB.below (gr_trans hb1 hbx)))
  have HXB1 := Lib.hid (HXB.out.nb (NB.below (gr_trans hb1 hbx)))
  have HA1 := Lib.hid (HA0.out.below (gr_trans hb1 hbx))
  have HC1 := Lib.hid (HC0.out.below (gr_trans hb1 hbx))
  clear hb1 hbx ho1 hr1 hl1 hl2 hln HB0 HXA HXB HA0 HC0
  go_upto_region 2 with fail
  generalize w1.alloc (.cells #[.int .u8 (k : Int), .int .i64 tx, .slice A1 n c1] 38) = W at *
  generalize w1.heap.size = gx at *
  have z0 := HXX.out.c0
  have z1 := HXX.out.c1
  have z2 := HXX.out.c2
  go_wp2_with fail
  refine (Encode_any k tx A1 n c1 cs W HX1.out (by omega) P2.out).mono ?_
  rintro e w3 ⟨v3, rfl, ho3, hb3⟩
  obtain ⟨A3, c3, rfl, _, _, _⟩ := ho3.form
  have HO3 := Lib.hid ho3
  have HB3 := Lib.hid hb3
  clear z0 z1 z2 ho3 hb3
  have z0 := (HXA1.out.nb (NB.below HB3.out)).c0
  have z1 := (HXA1.out.nb (NB.below HB3.out)).c1
  have z2 := (HXA1.out.nb (NB.below HB3.out)).c2
  go_wp2_with fail
  refine (refEncode_any k tx A n c cs w3 (HA1.out.below HB3.out) (by omega) P3.out P4.out P5.out).mono ?_
  rintro e w4 ⟨v4, rfl, ho4, hb4⟩
  obtain ⟨A4, c4, rfl, br4, _, _⟩ := ho4.form
  obtain ⟨_, _, e3, br3, _, _⟩ := (HO3.out.below hb4).form
  injection e3 with e3 _ e3'
  subst e3 e3'
  have HBR3 := Lib.hid br3
  have HBR4 := Lib.hid br4
  have HB4 := Lib.hid (gr_trans HB3.out hb4)
  clear z0 z1 z2 ho4 hb4 br3 br4 HO3 HB3
  have QA := Lib.hid (And.intro (HXA1.out.nb (NB.below HB4.out)).c0 (And.intro (HXA1.out.nb (NB.below HB4.out)).c1 (HXA1.out.nb (NB.below HB4.out)).c2))
  have QB := Lib.hid (And.intro (HXB1.out.nb (NB.below HB4.out)).c0 (And.intro (HXB1.out.nb (NB.below HB4.out)).c1 (HXB1.out.nb (NB.below HB4.out)).c2))
  have QX := Lib.hid (And.intro (HXX.out.nb (NB.below HB4.out)).c0 (And.intro (HXX.out.nb (NB.below HB4.out)).c1 (HXX.out.nb (NB.below HB4.out)).c2))
  have HX4 := Lib.hid (HX1.out.below HB4.out)
  have HA4 := Lib.hid (HA1.out.below HB4.out)
  have HC4 := Lib.hid (HC1.out.below HB4.out)
  have HBW := Lib.hid (gr_trans HB1.out HB4.out)
  have HR1 : Hid (∀ wz, Below w4.heap.size w4 wz → Calls Try.prog 27 #[.agg #[.int .u8 (k : Int), .int .i64 tx, .slice A1 n c1]] wz fun r w' => r = .returned (.bool (rightR k tx cs)) ∧ Below wz.heap.size wz w') := Lib.hid (fun wz h => Right_any k tx A1 n c1 cs wz (HX4.out.below h) (by omega) P2.out)
  have HR2 : Hid (∀ wz, Below w4.heap.size w4 wz → Calls Try.prog 28 #[.agg #[.int .u8 (k : Int), .int .i64 tx, .slice A n c]] wz fun r w' => r = .returned (.bool (rightR k tx cs)) ∧ Below wz.heap.size wz w') := Lib.hid (fun wz h => refRight_any k tx A n c cs wz (HA4.out.below h) (by omega) P3.out P4.out P5.out)
  have HS1 : Hid (∀ wz, Below w4.heap.size w4 wz → Calls Try.prog 29 #[.agg #[.int .u8 (k : Int), .int .i64 tx, .slice A1 n c1], .agg #[.int .u8 k', .int .i64 tx', .slice B m d]] wz fun e w' => e = .returned (.bool (decide ((k : Int) = k' ∧ tx = tx' ∧ cs = ds))) ∧ Below wz.heap.size wz w') := Lib.hid (fun wz h => Same_any (k : Int) k' tx tx' A1 B n m c1 d cs ds wz (HX4.out.below h) (HC4.out.below h) (by omega) (by omega) P4.out P6.out)
  have HS2 : Hid (∀ wz, Below w4.heap.size w4 wz → Calls Try.prog 20 #[.agg #[.int .u8 (k : Int), .int .i64 tx, .slice A n c], .agg #[.int .u8 k', .int .i64 tx', .slice B m d]] wz fun e w' => e = .returned (.bool (decide ((k : Int) = k' ∧ tx = tx' ∧ cs = ds))) ∧ Below wz.heap.size wz w') := Lib.hid (fun wz h => SameRecord_any (k : Int) k' tx tx' A B n m c d cs ds wz (HA4.out.below h) (HC4.out.below h) (by omega) (by omega) P4.out P6.out)
  have HS3 : Hid (∀ wz, Below w4.heap.size w4 wz → Calls Try.prog 20 #[.agg #[.int .u8 (k : Int), .int .i64 tx, .slice A1 n c1], .agg #[.int .u8 (k : Int), .int .i64 tx, .slice A n c]] wz fun e w' => e = .returned (.bool true) ∧ Below wz.heap.size wz w') := Lib.hid (fun wz h => by
    have := SameRecord_any (k : Int) (k : Int) tx tx A1 A n n c1 c cs cs wz (HX4.out.below h) (HA4.out.below h) (by omega) (by omega) P4.out P4.out
    rw [show decide ((k : Int) = (k : Int) ∧ tx = tx ∧ cs = cs) = true from decide_eq_true ⟨rfl, rfl, rfl⟩] at this
    exact this)
  generalize rightR (k : Int) tx cs = rr at *
  generalize decide ((k : Int) = k' ∧ tx = tx' ∧ cs = ds) = sm at *
  generalize encE ⟨k, tx, cs⟩ = ee at *
  generalize encL ⟨k, tx, cs⟩ = el at *
  clear HXX HX1 HXA1 HXB1 HA1 HC1 HB1 HB4
  go_upto_region 4 with fail
  refine' wp_region_mono (by kernel_rfl) (by kernel_rfl) (by kernel_rfl) (by kernel_rfl) (by kernel_rfl) (by kernel_rfl)
    [MP.is (.agg #[.int .u8 (k : Int), .int .i64 tx, .slice A1 n c1]), MP.is (.bool rr), MP.is (.agg #[.int .u8 (k : Int), .int .i64 tx, .slice A n c]), MP.is (.bool rr), MP.is (.bool true), MP.is (.bool true), MP.is (.agg #[.int .u8 (k : Int), .int .i64 tx, .slice A1 n c1]), MP.is (.agg #[.int .u8 k', .int .i64 tx', .slice B m d]), MP.is (.bool sm), MP.is (.agg #[.int .u8 (k : Int), .int .i64 tx, .slice A n c]), MP.is (.agg #[.int .u8 k', .int .i64 tx', .slice B m d]), MP.is (.bool sm), MP.is (.bool true), MP.is (.bool true), MP.is (.bool true), MP.is (.int .i64 (ee : Int)), MP.is (.int .i64 (ee : Int)), MP.is (.bool true), MP.is (.bool true), MP.is (.bool true), MP.is (.slice A3 el.length c3), MP.is (.slice A4 el.length c4), MP.is (.bool true), MP.is (.bool true), MP.is (.bool true), MP.is (.agg #[.int .u8 (k : Int), .int .i64 tx, .slice A1 n c1]), MP.is (.agg #[.int .u8 (k : Int), .int .i64 tx, .slice A n c]), MP.is (.bool true), MP.is (.bool true), MP.is (.bool true), MP.is (.bool true), MP.is (.bool true), MP.is (.bool true)] ?hAA1 ?hst1 ?hend1
  case hAA1 =>
    intro f
    conv => lhs; simp only [putA, dstOf, List.size_toArray, List.length_cons, List.length_nil, Nat.zero_add, Nat.reduceAdd, List.getElem?_toArray, List.getElem?_cons_zero, List.getElem?_cons_succ, Option.bind_some, Act.put, List.setIfInBounds_toArray, List.set_cons_zero, List.set_cons_succ]
    first | done | exact rfl
  case hst1 =>
    change Steps _ _ _ _ _ [0, 1, 2, 3, 4, 5, 6, 7, 8, 9, 10, 11, 12, 13, 14, 15, 16, 17, 18, 19, 20, 21, 22, 23, 24, 25, 26, 27, 28, 29, 30, 31, 32]
    refine Steps.cons rfl ?_ ?_
    · intro f wz hB h K Q hK
      try simp only [List.getElem_toArray, List.getElem_cons_zero]
      have y0 := keep_of_below (bel_drew hB) QA.out.1
      have y1 := keep_of_below (bel_drew hB) QA.out.2.1
      have y2 := keep_of_below (bel_drew hB) QA.out.2.2
      have y3 := keep_of_below (bel_drew hB) QB.out.1
      have y4 := keep_of_below (bel_drew hB) QB.out.2.1
      have y5 := keep_of_below (bel_drew hB) QB.out.2.2
      have y6 := keep_of_below (bel_drew hB) QX.out.1
      have y7 := keep_of_below (bel_drew hB) QX.out.2.1
      have y8 := keep_of_below (bel_drew hB) QX.out.2.2
      go_simp
      exact hK _ _ (gr_refl _) rfl
    refine Steps.cons rfl ?_ ?_
    · intro f wz hB h K Q hK
      have h0 : (MP.is (.agg #[.int .u8 (k : Int), .int .i64 tx, .slice A1 n c1])).p (f 0) wz := h 0 (by kernel_rfl)
      have e0 : f 0 = (.agg #[.int .u8 (k : Int), .int .i64 tx, .slice A1 n c1]) := h0
      simp only [e0] at hK ⊢
      clear e0
      try simp only [List.getElem_toArray, List.getElem_cons_succ, List.getElem_cons_zero]
      go_simp
      refine (HR1.out _ (bel_drew hB)).mono ?_
      rintro e w5 ⟨rfl, hb5⟩
      exact hK _ _ hb5 rfl
    refine Steps.cons rfl ?_ ?_
    · intro f wz hB h K Q hK
      try simp only [List.getElem_toArray, List.getElem_cons_succ, List.getElem_cons_zero]
      have y0 := keep_of_below (bel_drew hB) QA.out.1
      have y1 := keep_of_below (bel_drew hB) QA.out.2.1
      have y2 := keep_of_below (bel_drew hB) QA.out.2.2
      have y3 := keep_of_below (bel_drew hB) QB.out.1
      have y4 := keep_of_below (bel_drew hB) QB.out.2.1
      have y5 := keep_of_below (bel_drew hB) QB.out.2.2
      have y6 := keep_of_below (bel_drew hB) QX.out.1
      have y7 := keep_of_below (bel_drew hB) QX.out.2.1
      have y8 := keep_of_below (bel_drew hB) QX.out.2.2
      go_simp
      exact hK _ _ (gr_refl _) rfl
    refine Steps.cons rfl ?_ ?_
    · intro f wz hB h K Q hK
      have h2 : (MP.is (.agg #[.int .u8 (k : Int), .int .i64 tx, .slice A n c])).p (f 2) wz := h 2 (by kernel_rfl)
      have e2 : f 2 = (.agg #[.int .u8 (k : Int), .int .i64 tx, .slice A n c]) := h2
      simp only [e2] at hK ⊢
      clear e2
      try simp only [List.getElem_toArray, List.getElem_cons_succ, List.getElem_cons_zero]
      go_simp
      refine (HR2.out _ (bel_drew hB)).mono ?_
      rintro e w5 ⟨rfl, hb5⟩
      exact hK _ _ hb5 rfl
    refine Steps.cons rfl ?_ ?_
    · intro f wz hB h K Q hK
      have h1 : (MP.is (.bool rr)).p (f 1) wz := h 1 (by kernel_rfl)
      have e1 : f 1 = (.bool rr) := h1
      have h3 : (MP.is (.bool rr)).p (f 3) wz := h 3 (by kernel_rfl)
      have e3 : f 3 = (.bool rr) := h3
      simp only [e1, e3] at hK ⊢
      clear e1 e3
      try simp only [List.getElem_toArray, List.getElem_cons_succ, List.getElem_cons_zero]
      go_simp
      exact hK _ _ (gr_refl _) rfl
    refine Steps.cons rfl ?_ ?_
    · intro f wz hB h K Q hK
      have h4 : (MP.is (.bool true)).p (f 4) wz := h 4 (by kernel_rfl)
      have e4 : f 4 = (.bool true) := h4
      simp only [e4] at hK ⊢
      clear e4
      try simp only [List.getElem_toArray, List.getElem_cons_succ, List.getElem_cons_zero]
      go_simp
      exact hK _ _ (gr_refl _) rfl
    refine Steps.cons rfl ?_ ?_
    · intro f wz hB h K Q hK
      have h5 : (MP.is (.bool true)).p (f 5) wz := h 5 (by kernel_rfl)
      have e5 : f 5 = (.bool true) := h5
      simp only [e5] at hK ⊢
      clear e5
      try simp only [List.getElem_toArray, List.getElem_cons_succ, List.getElem_cons_zero]
      have y0 := keep_of_below (bel_drew hB) QA.out.1
      have y1 := keep_of_below (bel_drew hB) QA.out.2.1
      have y2 := keep_of_below (bel_drew hB) QA.out.2.2
      have y3 := keep_of_below (bel_drew hB) QB.out.1
      have y4 := keep_of_below (bel_drew hB) QB.out.2.1
      have y5 := keep_of_below (bel_drew hB) QB.out.2.2
      have y6 := keep_of_below (bel_drew hB) QX.out.1
      have y7 := keep_of_below (bel_drew hB) QX.out.2.1
      have y8 := keep_of_below (bel_drew hB) QX.out.2.2
      go_simp
      exact hK _ _ (gr_refl _) rfl
    refine Steps.cons rfl ?_ ?_
    · intro f wz hB h K Q hK
      have h5 : (MP.is (.bool true)).p (f 5) wz := h 5 (by kernel_rfl)
      have e5 : f 5 = (.bool true) := h5
      simp only [e5] at hK ⊢
      clear e5
      try simp only [List.getElem_toArray, List.getElem_cons_succ, List.getElem_cons_zero]
      have y0 := keep_of_below (bel_drew hB) QA.out.1
      have y1 := keep_of_below (bel_drew hB) QA.out.2.1
      have y2 := keep_of_below (bel_drew hB) QA.out.2.2
      have y3 := keep_of_below (bel_drew hB) QB.out.1
      have y4 := keep_of_below (bel_drew hB) QB.out.2.1
      have y5 := keep_of_below (bel_drew hB) QB.out.2.2
      have y6 := keep_of_below (bel_drew hB) QX.out.1
      have y7 := keep_of_below (bel_drew hB) QX.out.2.1
      have y8 := keep_of_below (bel_drew hB) QX.out.2.2
      go_simp
      exact hK _ _ (gr_refl _) rfl
    refine Steps.cons rfl ?_ ?_
    · intro f wz hB h K Q hK
      have h5 : (MP.is (.bool true)).p (f 5) wz := h 5 (by kernel_rfl)
      have e5 : f 5 = (.bool true) := h5
      have h6 : (MP.is (.agg #[.int .u8 (k : Int), .int .i64 tx, .slice A1 n c1])).p (f 6) wz := h 6 (by kernel_rfl)
      have e6 : f 6 = (.agg #[.int .u8 (k : Int), .int .i64 tx, .slice A1 n c1]) := h6
      have h7 : (MP.is (.agg #[.int .u8 k', .int .i64 tx', .slice B m d])).p (f 7) wz := h 7 (by kernel_rfl)
      have e7 : f 7 = (.agg #[.int .u8 k', .int .i64 tx', .slice B m d]) := h7
      simp only [e5, e6, e7] at hK ⊢
      clear e5 e6 e7
      try simp only [List.getElem_toArray, List.getElem_cons_succ, List.getElem_cons_zero]
      go_simp
      refine (HS1.out _ (bel_drew hB)).mono ?_
      rintro e w5 ⟨rfl, hb5⟩
      exact hK _ _ hb5 rfl
    refine Steps.cons rfl ?_ ?_
    · intro f wz hB h K Q hK
      have h5 : (MP.is (.bool true)).p (f 5) wz := h 5 (by kernel_rfl)
      have e5 : f 5 = (.bool true) := h5
      simp only [e5] at hK ⊢
      clear e5
      try simp only [List.getElem_toArray, List.getElem_cons_succ, List.getElem_cons_zero]
      have y0 := keep_of_below (bel_drew hB) QA.out.1
      have y1 := keep_of_below (bel_drew hB) QA.out.2.1
      have y2 := keep_of_below (bel_drew hB) QA.out.2.2
      have y3 := keep_of_below (bel_drew hB) QB.out.1
      have y4 := keep_of_below (bel_drew hB) QB.out.2.1
      have y5 := keep_of_below (bel_drew hB) QB.out.2.2
      have y6 := keep_of_below (bel_drew hB) QX.out.1
      have y7 := keep_of_below (bel_drew hB) QX.out.2.1
      have y8 := keep_of_below (bel_drew hB) QX.out.2.2
      go_simp
      exact hK _ _ (gr_refl _) rfl
    refine Steps.cons rfl ?_ ?_
    · intro f wz hB h K Q hK
      have h5 : (MP.is (.bool true)).p (f 5) wz := h 5 (by kernel_rfl)
      have e5 : f 5 = (.bool true) := h5
      simp only [e5] at hK ⊢
      clear e5
      try simp only [List.getElem_toArray, List.getElem_cons_succ, List.getElem_cons_zero]
      have y0 := keep_of_below (bel_drew hB) QA.out.1
      have y1 := keep_of_below (bel_drew hB) QA.out.2.1
      have y2 := keep_of_below (bel_drew hB) QA.out.2.2
      have y3 := keep_of_below (bel_drew hB) QB.out.1
      have y4 := keep_of_below (bel_drew hB) QB.out.2.1
      have y5 := keep_of_below (bel_drew hB) QB.out.2.2
      have y6 := keep_of_below (bel_drew hB) QX.out.1
      have y7 := keep_of_below (bel_drew hB) QX.out.2.1
      have y8 := keep_of_below (bel_drew hB) QX.out.2.2
      go_simp
      exact hK _ _ (gr_refl _) rfl
    refine Steps.cons rfl ?_ ?_
    · intro f wz hB h K Q hK
      have h5 : (MP.is (.bool true)).p (f 5) wz := h 5 (by kernel_rfl)
      have e5 : f 5 = (.bool true) := h5
      have h9 : (MP.is (.agg #[.int .u8 (k : Int), .int .i64 tx, .slice A n c])).p (f 9) wz := h 9 (by kernel_rfl)
      have e9 : f 9 = (.agg #[.int .u8 (k : Int), .int .i64 tx, .slice A n c]) := h9
      have h10 : (MP.is (.agg #[.int .u8 k', .int .i64 tx', .slice B m d])).p (f 10) wz := h 10 (by kernel_rfl)
      have e10 : f 10 = (.agg #[.int .u8 k', .int .i64 tx', .slice B m d]) := h10
      simp only [e5, e9, e10] at hK ⊢
      clear e5 e9 e10
      try simp only [List.getElem_toArray, List.getElem_cons_succ, List.getElem_cons_zero]
      go_simp
      refine (HS2.out _ (bel_drew hB)).mono ?_
      rintro e w5 ⟨rfl, hb5⟩
      exact hK _ _ hb5 rfl
    refine Steps.cons rfl ?_ ?_
    · intro f wz hB h K Q hK
      have h5 : (MP.is (.bool true)).p (f 5) wz := h 5 (by kernel_rfl)
      have e5 : f 5 = (.bool true) := h5
      have h8 : (MP.is (.bool sm)).p (f 8) wz := h 8 (by kernel_rfl)
      have e8 : f 8 = (.bool sm) := h8
      have h11 : (MP.is (.bool sm)).p (f 11) wz := h 11 (by kernel_rfl)
      have e11 : f 11 = (.bool sm) := h11
      simp only [e5, e8, e11] at hK ⊢
      clear e5 e8 e11
      try simp only [List.getElem_toArray, List.getElem_cons_succ, List.getElem_cons_zero]
      go_simp
      exact hK _ _ (gr_refl _) rfl
    refine Steps.cons rfl ?_ ?_
    · intro f wz hB h K Q hK
      have h5 : (MP.is (.bool true)).p (f 5) wz := h 5 (by kernel_rfl)
      have e5 : f 5 = (.bool true) := h5
      have h12 : (MP.is (.bool true)).p (f 12) wz := h 12 (by kernel_rfl)
      have e12 : f 12 = (.bool true) := h12
      simp only [e5, e12] at hK ⊢
      clear e5 e12
      try simp only [List.getElem_toArray, List.getElem_cons_succ, List.getElem_cons_zero]
      go_simp
      exact hK _ _ (gr_refl _) rfl
    refine Steps.cons rfl ?_ ?_
    · intro f wz hB h K Q hK
      have h13 : (MP.is (.bool true)).p (f 13) wz := h 13 (by kernel_rfl)
      have e13 : f 13 = (.bool true) := h13
      simp only [e13] at hK ⊢
      clear e13
      try simp only [List.getElem_toArray, List.getElem_cons_succ, List.getElem_cons_zero]
      go_simp
      exact hK _ _ (gr_refl _) rfl
    refine Steps.cons rfl ?_ ?_
    · intro f wz hB h K Q hK
      have h14 : (MP.is (.bool true)).p (f 14) wz := h 14 (by kernel_rfl)
      have e14 : f 14 = (.bool true) := h14
      simp only [e14] at hK ⊢
      clear e14
      try simp only [List.getElem_toArray, List.getElem_cons_succ, List.getElem_cons_zero]
      go_simp
      exact hK _ _ (gr_refl _) rfl
    refine Steps.cons rfl ?_ ?_
    · intro f wz hB h K Q hK
      have h14 : (MP.is (.bool true)).p (f 14) wz := h 14 (by kernel_rfl)
      have e14 : f 14 = (.bool true) := h14
      simp only [e14] at hK ⊢
      clear e14
      try simp only [List.getElem_toArray, List.getElem_cons_succ, List.getElem_cons_zero]
      go_simp
      exact hK _ _ (gr_refl _) rfl
    refine Steps.cons rfl ?_ ?_
    · intro f wz hB h K Q hK
      have h14 : (MP.is (.bool true)).p (f 14) wz := h 14 (by kernel_rfl)
      have e14 : f 14 = (.bool true) := h14
      have h15 : (MP.is (.int .i64 (ee : Int))).p (f 15) wz := h 15 (by kernel_rfl)
      have e15 : f 15 = (.int .i64 (ee : Int)) := h15
      have h16 : (MP.is (.int .i64 (ee : Int))).p (f 16) wz := h 16 (by kernel_rfl)
      have e16 : f 16 = (.int .i64 (ee : Int)) := h16
      simp only [e14, e15, e16] at hK ⊢
      clear e14 e15 e16
      try simp only [List.getElem_toArray, List.getElem_cons_succ, List.getElem_cons_zero]
      go_simp
      exact hK _ _ (gr_refl _) rfl
    refine Steps.cons rfl ?_ ?_
    · intro f wz hB h K Q hK
      have h14 : (MP.is (.bool true)).p (f 14) wz := h 14 (by kernel_rfl)
      have e14 : f 14 = (.bool true) := h14
      have h17 : (MP.is (.bool true)).p (f 17) wz := h 17 (by kernel_rfl)
      have e17 : f 17 = (.bool true) := h17
      simp only [e14, e17] at hK ⊢
      clear e14 e17
      try simp only [List.getElem_toArray, List.getElem_cons_succ, List.getElem_cons_zero]
      go_simp
      exact hK _ _ (gr_refl _) rfl
    refine Steps.cons rfl ?_ ?_
    · intro f wz hB h K Q hK
      have h18 : (MP.is (.bool true)).p (f 18) wz := h 18 (by kernel_rfl)
      have e18 : f 18 = (.bool true) := h18
      simp only [e18] at hK ⊢
      clear e18
      try simp only [List.getElem_toArray, List.getElem_cons_succ, List.getElem_cons_zero]
      go_simp
      exact hK _ _ (gr_refl _) rfl
    refine Steps.cons rfl ?_ ?_
    · intro f wz hB h K Q hK
      have h19 : (MP.is (.bool true)).p (f 19) wz := h 19 (by kernel_rfl)
      have e19 : f 19 = (.bool true) := h19
      simp only [e19] at hK ⊢
      clear e19
      try simp only [List.getElem_toArray, List.getElem_cons_succ, List.getElem_cons_zero]
      go_simp
      exact hK _ _ (gr_refl _) rfl
    refine Steps.cons rfl ?_ ?_
    · intro f wz hB h K Q hK
      have h19 : (MP.is (.bool true)).p (f 19) wz := h 19 (by kernel_rfl)
      have e19 : f 19 = (.bool true) := h19
      simp only [e19] at hK ⊢
      clear e19
      try simp only [List.getElem_toArray, List.getElem_cons_succ, List.getElem_cons_zero]
      go_simp
      exact hK _ _ (gr_refl _) rfl
    refine Steps.cons rfl ?_ ?_
    · intro f wz hB h K Q hK
      have h19 : (MP.is (.bool true)).p (f 19) wz := h 19 (by kernel_rfl)
      have e19 : f 19 = (.bool true) := h19
      have h20 : (MP.is (.slice A3 el.length c3)).p (f 20) wz := h 20 (by kernel_rfl)
      have e20 : f 20 = (.slice A3 el.length c3) := h20
      have h21 : (MP.is (.slice A4 el.length c4)).p (f 21) wz := h 21 (by kernel_rfl)
      have e21 : f 21 = (.slice A4 el.length c4) := h21
      simp only [e19, e20, e21] at hK ⊢
      clear e19 e20 e21
      try simp only [List.getElem_toArray, List.getElem_cons_succ, List.getElem_cons_zero]
      go_simp
      refine (SameBytes_any A3 A4 el.length el.length c3 c4 el el _ (HBR3.out.below (bel_drew hB)) (HBR4.out.below (bel_drew hB))).mono ?_
      rw [show (el == el) = true from beq_self_eq_true _]
      rintro e w5 ⟨rfl, rfl⟩
      exact hK _ _ (gr_refl _) rfl
    refine Steps.cons rfl ?_ ?_
    · intro f wz hB h K Q hK
      have h19 : (MP.is (.bool true)).p (f 19) wz := h 19 (by kernel_rfl)
      have e19 : f 19 = (.bool true) := h19
      have h22 : (MP.is (.bool true)).p (f 22) wz := h 22 (by kernel_rfl)
      have e22 : f 22 = (.bool true) := h22
      simp only [e19, e22] at hK ⊢
      clear e19 e22
      try simp only [List.getElem_toArray, List.getElem_cons_succ, List.getElem_cons_zero]
      go_simp
      exact hK _ _ (gr_refl _) rfl
    refine Steps.cons rfl ?_ ?_
    · intro f wz hB h K Q hK
      have h23 : (MP.is (.bool true)).p (f 23) wz := h 23 (by kernel_rfl)
      have e23 : f 23 = (.bool true) := h23
      simp only [e23] at hK ⊢
      clear e23
      try simp only [List.getElem_toArray, List.getElem_cons_succ, List.getElem_cons_zero]
      go_simp
      exact hK _ _ (gr_refl _) rfl
    refine Steps.cons rfl ?_ ?_
    · intro f wz hB h K Q hK
      have h24 : (MP.is (.bool true)).p (f 24) wz := h 24 (by kernel_rfl)
      have e24 : f 24 = (.bool true) := h24
      simp only [e24] at hK ⊢
      clear e24
      try simp only [List.getElem_toArray, List.getElem_cons_succ, List.getElem_cons_zero]
      have y0 := keep_of_below (bel_drew hB) QA.out.1
      have y1 := keep_of_below (bel_drew hB) QA.out.2.1
      have y2 := keep_of_below (bel_drew hB) QA.out.2.2
      have y3 := keep_of_below (bel_drew hB) QB.out.1
      have y4 := keep_of_below (bel_drew hB) QB.out.2.1
      have y5 := keep_of_below (bel_drew hB) QB.out.2.2
      have y6 := keep_of_below (bel_drew hB) QX.out.1
      have y7 := keep_of_below (bel_drew hB) QX.out.2.1
      have y8 := keep_of_below (bel_drew hB) QX.out.2.2
      go_simp
      exact hK _ _ (gr_refl _) rfl
    refine Steps.cons rfl ?_ ?_
    · intro f wz hB h K Q hK
      have h24 : (MP.is (.bool true)).p (f 24) wz := h 24 (by kernel_rfl)
      have e24 : f 24 = (.bool true) := h24
      simp only [e24] at hK ⊢
      clear e24
      try simp only [List.getElem_toArray, List.getElem_cons_succ, List.getElem_cons_zero]
      have y0 := keep_of_below (bel_drew hB) QA.out.1
      have y1 := keep_of_below (bel_drew hB) QA.out.2.1
      have y2 := keep_of_below (bel_drew hB) QA.out.2.2
      have y3 := keep_of_below (bel_drew hB) QB.out.1
      have y4 := keep_of_below (bel_drew hB) QB.out.2.1
      have y5 := keep_of_below (bel_drew hB) QB.out.2.2
      have y6 := keep_of_below (bel_drew hB) QX.out.1
      have y7 := keep_of_below (bel_drew hB) QX.out.2.1
      have y8 := keep_of_below (bel_drew hB) QX.out.2.2
      go_simp
      exact hK _ _ (gr_refl _) rfl
    refine Steps.cons rfl ?_ ?_
    · intro f wz hB h K Q hK
      have h24 : (MP.is (.bool true)).p (f 24) wz := h 24 (by kernel_rfl)
      have e24 : f 24 = (.bool true) := h24
      have h25 : (MP.is (.agg #[.int .u8 (k : Int), .int .i64 tx, .slice A1 n c1])).p (f 25) wz := h 25 (by kernel_rfl)
      have e25 : f 25 = (.agg #[.int .u8 (k : Int), .int .i64 tx, .slice A1 n c1]) := h25
      have h26 : (MP.is (.agg #[.int .u8 (k : Int), .int .i64 tx, .slice A n c])).p (f 26) wz := h 26 (by kernel_rfl)
      have e26 : f 26 = (.agg #[.int .u8 (k : Int), .int .i64 tx, .slice A n c]) := h26
      simp only [e24, e25, e26] at hK ⊢
      clear e24 e25 e26
      try simp only [List.getElem_toArray, List.getElem_cons_succ, List.getElem_cons_zero]
      go_simp
      refine (HS3.out _ (bel_drew hB)).mono ?_
      rintro e w5 ⟨rfl, hb5⟩
      exact hK _ _ hb5 rfl
    refine Steps.cons rfl ?_ ?_
    · intro f wz hB h K Q hK
      have h24 : (MP.is (.bool true)).p (f 24) wz := h 24 (by kernel_rfl)
      have e24 : f 24 = (.bool true) := h24
      have h27 : (MP.is (.bool true)).p (f 27) wz := h 27 (by kernel_rfl)
      have e27 : f 27 = (.bool true) := h27
      simp only [e24, e27] at hK ⊢
      clear e24 e27
      try simp only [List.getElem_toArray, List.getElem_cons_succ, List.getElem_cons_zero]
      go_simp
      exact hK _ _ (gr_refl _) rfl
    refine Steps.cons rfl ?_ ?_
    · intro f wz hB h K Q hK
      have h28 : (MP.is (.bool true)).p (f 28) wz := h 28 (by kernel_rfl)
      have e28 : f 28 = (.bool true) := h28
      simp only [e28] at hK ⊢
      clear e28
      try simp only [List.getElem_toArray, List.getElem_cons_succ, List.getElem_cons_zero]
      go_simp
      exact hK _ _ (gr_refl _) rfl
    refine Steps.cons rfl ?_ ?_
    · intro f wz hB h K Q hK
      have h29 : (MP.is (.bool true)).p (f 29) wz := h 29 (by kernel_rfl)
      have e29 : f 29 = (.bool true) := h29
      simp only [e29] at hK ⊢
      clear e29
      try simp only [List.getElem_toArray, List.getElem_cons_succ, List.getElem_cons_zero]
      go_simp
      refine (awake05_any _).mono ?_
      rintro e w5 ⟨rfl, hb5⟩
      exact hK _ _ hb5 rfl
    refine Steps.cons rfl ?_ ?_
    · intro f wz hB h K Q hK
      have h29 : (MP.is (.bool true)).p (f 29) wz := h 29 (by kernel_rfl)
      have e29 : f 29 = (.bool true) := h29
      have h30 : (MP.is (.bool true)).p (f 30) wz := h 30 (by kernel_rfl)
      have e30 : f 30 = (.bool true) := h30
      simp only [e29, e30] at hK ⊢
      clear e29 e30
      try simp only [List.getElem_toArray, List.getElem_cons_succ, List.getElem_cons_zero]
      go_simp
      exact hK _ _ (gr_refl _) rfl
    refine Steps.cons rfl ?_ ?_
    · intro f wz hB h K Q hK
      have h31 : (MP.is (.bool true)).p (f 31) wz := h 31 (by kernel_rfl)
      have e31 : f 31 = (.bool true) := h31
      simp only [e31] at hK ⊢
      clear e31
      try simp only [List.getElem_toArray, List.getElem_cons_succ, List.getElem_cons_zero]
      go_simp
      exact hK _ _ (gr_refl _) rfl
    exact Steps.nil
  intro f w2 hB2 hR
  have e0 : f 0 = (.agg #[.int .u8 (k : Int), .int .i64 tx, .slice A1 n c1]) := hR 0 (by decide)
  have e1 : f 1 = (.bool rr) := hR 1 (by decide)
  have e2 : f 2 = (.agg #[.int .u8 (k : Int), .int .i64 tx, .slice A n c]) := hR 2 (by decide)
  have e3 : f 3 = (.bool rr) := hR 3 (by decide)
  have e4 : f 4 = (.bool true) := hR 4 (by decide)
  have e5 : f 5 = (.bool true) := hR 5 (by decide)
  have e6 : f 6 = (.agg #[.int .u8 (k : Int), .int .i64 tx, .slice A1 n c1]) := hR 6 (by decide)
  have e7 : f 7 = (.agg #[.int .u8 k', .int .i64 tx', .slice B m d]) := hR 7 (by decide)
  have e8 : f 8 = (.bool sm) := hR 8 (by decide)
  have e9 : f 9 = (.agg #[.int .u8 (k : Int), .int .i64 tx, .slice A n c]) := hR 9 (by decide)
  have e10 : f 10 = (.agg #[.int .u8 k', .int .i64 tx', .slice B m d]) := hR 10 (by decide)
  have e11 : f 11 = (.bool sm) := hR 11 (by decide)
  have e12 : f 12 = (.bool true) := hR 12 (by decide)
  have e13 : f 13 = (.bool true) := hR 13 (by decide)
  have e14 : f 14 = (.bool true) := hR 14 (by decide)
  have e15 : f 15 = (.int .i64 (ee : Int)) := hR 15 (by decide)
  have e16 : f 16 = (.int .i64 (ee : Int)) := hR 16 (by decide)
  have e17 : f 17 = (.bool true) := hR 17 (by decide)
  have e18 : f 18 = (.bool true) := hR 18 (by decide)
  have e19 : f 19 = (.bool true) := hR 19 (by decide)
  have e20 : f 20 = (.slice A3 el.length c3) := hR 20 (by decide)
  have e21 : f 21 = (.slice A4 el.length c4) := hR 21 (by decide)
  have e22 : f 22 = (.bool true) := hR 22 (by decide)
  have e23 : f 23 = (.bool true) := hR 23 (by decide)
  have e24 : f 24 = (.bool true) := hR 24 (by decide)
  have e25 : f 25 = (.agg #[.int .u8 (k : Int), .int .i64 tx, .slice A1 n c1]) := hR 25 (by decide)
  have e26 : f 26 = (.agg #[.int .u8 (k : Int), .int .i64 tx, .slice A n c]) := hR 26 (by decide)
  have e27 : f 27 = (.bool true) := hR 27 (by decide)
  have e28 : f 28 = (.bool true) := hR 28 (by decide)
  have e29 : f 29 = (.bool true) := hR 29 (by decide)
  have e30 : f 30 = (.bool true) := hR 30 (by decide)
  have e31 : f 31 = (.bool true) := hR 31 (by decide)
  have e32 : f 32 = (.bool true) := hR 32 (by decide)
  simp only [e0, e1, e2, e3, e4, e5, e6, e7, e8, e9, e10, e11, e12, e13, e14, e15, e16, e17, e18, e19, e20, e21, e22, e23, e24, e25, e26, e27, e28, e29, e30, e31, e32]
  clear e0 e1 e2 e3 e4 e5 e6 e7 e8 e9 e10 e11 e12 e13 e14 e15 e16 e17 e18 e19 e20 e21 e22 e23 e24 e25 e26 e27 e28 e29 e30 e31 e32 hR
  go_wp2_with fail
  go_ret
  exact ⟨rfl, gr_trans HBW.out (bel_drew hB2)⟩

end Go.Proofs.Ythpjjoahffagcaa
