/-
  The walk of RolesGrants.
-/
import Derived.Test.YtfgkadkmgciamaaRoZ
import Derived.Test.YtfgkadkmgciamaaRoU
import Derived.Test.YtfgkadkmgciamaaLawRolesMembers
namespace Go.Proofs.Ytfgkadkmgciamaa
open Go Go.RowKit

def giveO (l : List Gr) (ow : Str) (g : Gr) : List Gr := if giveE l ow g = 0 then giveL l g else []
theorem giveO_len (l : List Gr) (ow : Str) (g : Gr) : (giveO l ow g).length ≤ l.length + 1 := by
  unfold giveO
  split
  · rcases giveL_len (g := g) l with h | h <;> omega
  · simp
theorem GiveP.qo {l : List Gr} {ow : Str} {g : Gr} {base : Nat} {e : Ending} {w' : World} (h : GiveP l ow g base e w') : ∃ v, e = .returned (.tuple #[v, .int .i64 (giveE l ow g)]) ∧ EO EG 5 30 w' base v (giveO l ow g) := by
  rcases h with ⟨rfl, h⟩ | ⟨v, rfl, h, h2⟩
  · exact ⟨_, rfl, by unfold giveO; rw [if_neg h]; exact EO.nil _ _⟩
  · exact ⟨v, by rw [h], by unfold giveO; rw [if_pos h]; exact h2⟩
def TQ (l : List Gr) (ow : Str) (g : Gr) (r : Int) (out : List Gr) : Prop := (r = 311 ∧ out = [] ∧ (restL l g).length = l.length) ∨ (r = 0 ∧ (restL l g).length ≠ l.length ∧ Tk l ow g out)
theorem TQ.unique {l : List Gr} {ow : Str} {g : Gr} {r r' : Int} {o o' : List Gr} (h : TQ l ow g r o) (h' : TQ l ow g r' o') : r = r' ∧ o = o' := by
  rcases h with ⟨rfl, rfl, h⟩ | ⟨rfl, h, h2⟩ <;> rcases h' with ⟨rfl, rfl, k⟩ | ⟨rfl, k, k2⟩
  · exact ⟨rfl, rfl⟩
  · exact absurd h k
  · exact absurd k h
  · exact ⟨rfl, h2.unique k2⟩
theorem TakeP.qo {l : List Gr} {ow : Str} {g : Gr} {base : Nat} {e : Ending} {w' : World} (h : TakeP l ow g base e w') : ∃ v r out, e = .returned (.tuple #[v, .int .i64 r]) ∧ TQ l ow g r out ∧ EO EG 5 30 w' base v out := by
  rcases h with ⟨rfl, h⟩ | ⟨v, out, rfl, h, h2, h3⟩
  · exact ⟨_, _, [], rfl, .inl ⟨rfl, rfl, h⟩, EO.nil _ _⟩
  · exact ⟨v, _, out, rfl, .inr ⟨rfl, h, h2⟩, h3⟩
theorem TQ.len {l : List Gr} {ow : Str} {g : Gr} {r : Int} {o : List Gr} (h : TQ l ow g r o) : o.length ≤ l.length + 1 := by
  rcases h with ⟨_, rfl, _⟩ | ⟨_, _, h⟩
  · simp
  · have := h.len
    have := restL_len l g
    omega
def MP.eg (l : List Gr) : MP := ⟨fun v w => ∃ A c, v = .slice A l.length c ∧ ER EG 5 w A l.length l, fun _ _ _ hb h => by
  obtain ⟨A, c, e, q⟩ := h
  exact ⟨A, c, e, q.below hb⟩⟩
theorem cells4 {w : World} {b : Nat} {QA : Option Addr} {m d : Nat} {ow tb : Str} {pv : Int} (h : w.heap[b]? = some (.cells #[.slice QA m d, .string ⟨ow.toArray⟩, .string ⟨tb.toArray⟩, .int .u8 pv] 43 (0, 0))) : w.cell? ⟨b, 0, none⟩ = some (.slice QA m d) ∧ w.cell? ⟨b, 1, none⟩ = some (.string ⟨ow.toArray⟩) ∧ w.cell? ⟨b, 2, none⟩ = some (.string ⟨tb.toArray⟩) ∧ w.cell? ⟨b, 3, none⟩ = some (.int .u8 pv) :=
  ⟨by rw [cell_of_row w b 0 _ _ _ h]; rfl, by rw [cell_of_row w b 1 _ _ _ h]; rfl, by rw [cell_of_row w b 2 _ _ _ h]; rfl, by rw [cell_of_row w b 3 _ _ _ h]; rfl⟩

set_option maxRecDepth 100000 in
set_option maxHeartbeats 8000000 in
theorem RolesGrants_any (A QA : Option Addr) (n c m d : Nat) (l : List Gr) (g : Gr) (cl : List Str) (ow tb : Str) (pv : Int) (w : World) (h : ER EG 5 w A n l) (hc : ER ES 1 w QA m cl) (hn : n ≤ 2199023255500) (hm : m ≤ 12000000000000) (hf : FitG l) (ho : ow.length ≤ maxLen) :
    Calls Try.prog 5 #[.slice A n c, .agg #[.string ⟨g.tb.toArray⟩, .int .u8 g.pv, .string ⟨g.gt.toArray⟩, .string ⟨g.gb.toArray⟩, .bool g.op], .agg #[.slice QA m d, .string ⟨ow.toArray⟩, .string ⟨tb.toArray⟩, .int .u8 pv]] w fun e w' => e = .returned (.bool true) ∧ Below w.heap.size w w' := by
  have HL := Lib.hid h.1
  have HCL := Lib.hid hc.1
  have HF := Lib.hid hf
  have HOW := Lib.hid ho
  have ha1 := gr_alloc (gr_refl w) (.cells #[.string ⟨g.tb.toArray⟩, .int .u8 g.pv, .string ⟨g.gt.toArray⟩, .string ⟨g.gb.toArray⟩, .bool g.op] 30)
  have hca := heap_alloc_new w (.cells #[.string ⟨g.tb.toArray⟩, .int .u8 g.pv, .string ⟨g.gt.toArray⟩, .string ⟨g.gb.toArray⟩, .bool g.op] 30)
  have hs1 : (w.alloc (.cells #[.string ⟨g.tb.toArray⟩, .int .u8 g.pv, .string ⟨g.gt.toArray⟩, .string ⟨g.gb.toArray⟩, .bool g.op] 30)).heap.size = w.heap.size + 1 := World.size_alloc _ _
  have ha2 := gr_alloc (gr_refl (w.alloc (.cells #[.string ⟨g.tb.toArray⟩, .int .u8 g.pv, .string ⟨g.gt.toArray⟩, .string ⟨g.gb.toArray⟩, .bool g.op] 30))) (.cells #[.slice QA m d, .string ⟨ow.toArray⟩, .string ⟨tb.toArray⟩, .int .u8 pv] 43)
  have hcb := heap_alloc_new (w.alloc (.cells #[.string ⟨g.tb.toArray⟩, .int .u8 g.pv, .string ⟨g.gt.toArray⟩, .string ⟨g.gb.toArray⟩, .bool g.op] 30)) (.cells #[.slice QA m d, .string ⟨ow.toArray⟩, .string ⟨tb.toArray⟩, .int .u8 pv] 43)
  rw [hs1] at hcb
  have HCG := Lib.hid ((ha2.block w.heap.size (Array.getElem?_eq_some_iff.1 hca).1).trans hca)
  have HCQ := Lib.hid hcb
  have HA := Lib.hid (ha1.trans (ha2.mono ha1.size))
  have HS := Lib.hid (h.below HA.out)
  have HQ := Lib.hid (hc.below HA.out)
  clear h hc hf ho ha1 ha2 hca hcb
  go_enter Try.func5, Try.ntmps5
  go_upto_region 1 with fail
  try rw [hs1]
  clear hs1
  generalize (w.alloc (.cells #[.string ⟨g.tb.toArray⟩, .int .u8 g.pv, .string ⟨g.gt.toArray⟩, .string ⟨g.gb.toArray⟩, .bool g.op] 30)).alloc (.cells #[.slice QA m d, .string ⟨ow.toArray⟩, .string ⟨tb.toArray⟩, .int .u8 pv] 43) = w1 at *
  have D0 := Lib.hid (cells4 HCQ.out).1
  refine' wp_region_mono (by kernel_rfl) (by kernel_rfl) (by kernel_rfl) (by kernel_rfl) (by kernel_rfl) (by kernel_rfl)
    [MP.is (.slice A n c), MP.eg l, MP.is (.pointer (some ⟨w.heap.size + 1, 0, none⟩)), MP.is (.slice QA m d), MP.vs cl, MP.eg l, MP.vs cl] ?hAA1 ?hst1 ?hend1
  case hAA1 =>
    intro f
    conv => lhs; simp only [putA, dstOf, List.size_toArray, List.length_cons, List.length_nil, Nat.zero_add, Nat.reduceAdd, List.getElem?_toArray, List.getElem?_cons_zero, List.getElem?_cons_succ, Option.bind_some, Act.put, List.setIfInBounds_toArray, List.set_cons_zero, List.set_cons_succ]
    first | done | exact rfl
  case hst1 =>
    change Steps _ _ _ _ _ [0, 1, 2, 3, 4, 5, 6]
    refine Steps.cons rfl ?_ ?_
    · intro f wz hB h K Q hK
      try simp only [List.getElem_toArray, List.getElem_cons_zero]
      go_simp
      exact hK _ _ (gr_refl _) rfl
    refine Steps.cons rfl ?_ ?_
    · intro f wz hB h K Q hK
      have h0 : (MP.is (.slice A n c)).p (f 0) wz := h 0 (by kernel_rfl)
      have e0 : f 0 = (.slice A n c) := h0
      simp only [e0] at hK ⊢
      clear e0
      try simp only [List.getElem_toArray, List.getElem_cons_succ, List.getElem_cons_zero]
      go_simp
      refine (CopyGrants_any A n c l wz (HS.out.below (bel_drew hB)) (by omega)).mono ?_
      rintro e w5 ⟨v5, rfl, ho5, hb5⟩
      obtain ⟨A5, c5, rfl, her5, _, _⟩ := ho5.form
      exact hK _ _ hb5 ⟨_, _, rfl, her5⟩
    refine Steps.cons rfl ?_ ?_
    · intro f wz hB h K Q hK
      try simp only [List.getElem_toArray, List.getElem_cons_succ, List.getElem_cons_zero]
      go_simp
      exact hK _ _ (gr_refl _) rfl
    refine Steps.cons rfl ?_ ?_
    · intro f wz hB h K Q hK
      have h2 : (MP.is (.pointer (some ⟨w.heap.size + 1, 0, none⟩))).p (f 2) wz := h 2 (by kernel_rfl)
      have e2 : f 2 = (.pointer (some ⟨w.heap.size + 1, 0, none⟩)) := h2
      simp only [e2] at hK ⊢
      clear e2
      try simp only [List.getElem_toArray, List.getElem_cons_succ, List.getElem_cons_zero]
      have y0 := keep_of_below (bel_drew hB) D0.out
      go_simp
      exact hK _ _ (gr_refl _) rfl
    refine Steps.cons rfl ?_ ?_
    · intro f wz hB h K Q hK
      have h3 : (MP.is (.slice QA m d)).p (f 3) wz := h 3 (by kernel_rfl)
      have e3 : f 3 = (.slice QA m d) := h3
      simp only [e3] at hK ⊢
      clear e3
      try simp only [List.getElem_toArray, List.getElem_cons_succ, List.getElem_cons_zero]
      go_simp
      refine (CopyTexts_any QA m d cl wz (HQ.out.below (bel_drew hB)) (by omega)).mono ?_
      rintro e w5 ⟨v5, rfl, ho5, hb5⟩
      obtain ⟨A5, c5, rfl, her5, _, _⟩ := ho5.form
      exact hK _ _ hb5 ⟨_, _, rfl, her5⟩
    refine Steps.cons rfl ?_ ?_
    · intro f wz hB h K Q hK
      have h1 : (MP.eg l).p (f 1) wz := h 1 (by kernel_rfl)
      obtain ⟨A1, c1, e1, q1⟩ := h1
      simp only [e1] at hK ⊢
      clear e1
      try simp only [List.getElem_toArray, List.getElem_cons_succ, List.getElem_cons_zero]
      go_simp
      exact hK _ _ (gr_refl _) ⟨_, _, rfl, q1⟩
    refine Steps.cons rfl ?_ ?_
    · intro f wz hB h K Q hK
      have h4 : (MP.vs cl).p (f 4) wz := h 4 (by kernel_rfl)
      obtain ⟨A4, c4, e4, q4⟩ := h4
      simp only [e4] at hK ⊢
      clear e4
      try simp only [List.getElem_toArray, List.getElem_cons_succ, List.getElem_cons_zero]
      go_simp
      exact hK _ _ (gr_refl _) ⟨_, _, rfl, q4⟩
    exact Steps.nil
  intro f w2 hB2 hR
  have e0 : f 0 = (.slice A n c) := hR 0 (by decide)
  obtain ⟨A12, c12, e1, q12⟩ := (show (MP.eg l).p (f 1) w2 from hR 1 (by decide))
  have e2 : f 2 = (.pointer (some ⟨w.heap.size + 1, 0, none⟩)) := hR 2 (by decide)
  have e3 : f 3 = (.slice QA m d) := hR 3 (by decide)
  obtain ⟨A42, c42, e4, q42⟩ := (show (MP.vs cl).p (f 4) w2 from hR 4 (by decide))
  obtain ⟨A52, c52, e5, q52⟩ := (show (MP.eg l).p (f 5) w2 from hR 5 (by decide))
  obtain ⟨A62, c62, e6, q62⟩ := (show (MP.vs cl).p (f 6) w2 from hR 6 (by decide))
  simp only [e0, e1, e2, e3, e4, e5, e6]
  clear e0 e1 e2 e3 e4 e5 e6 hR
  rw [HL.out] at q52 ⊢
  rw [HCL.out] at q62 ⊢
  have HI2 := Lib.hid q52
  have HN2 := Lib.hid q62
  have hd := bel_drew hB2
  have HB2 := Lib.hid (HA.out.trans (hd.mono HA.out.size))
  have HS2 := Lib.hid (HS.out.below hd)
  have HQ2 := Lib.hid (HQ.out.below hd)
  have HWG : Hid (w.heap.size < w1.heap.size) := Lib.hid (Array.getElem?_eq_some_iff.1 HCG.out).1
  have HWQ : Hid (w.heap.size + 1 < w1.heap.size) := Lib.hid (Array.getElem?_eq_some_iff.1 HCQ.out).1
  have HCG2 := Lib.hid ((hd.block _ HWG.out).trans HCG.out)
  have HCQ2 := Lib.hid ((hd.block _ HWQ.out).trans HCQ.out)
  have HZG : Hid (w.heap.size < w2.heap.size) := Lib.hid (Nat.lt_of_lt_of_le HWG.out hd.size)
  have HZQ : Hid (w.heap.size + 1 < w2.heap.size) := Lib.hid (Nat.lt_of_lt_of_le HWQ.out hd.size)
  clear hd hB2 q12 q42 q52 q62
  obtain ⟨c0, c1, c2, c3, c4⟩ := cells5 HCG2.out
  obtain ⟨d0, d1, d2, d3⟩ := cells4 HCQ2.out
  go_wp2_with fail
  refine (Give_any A52 n c52 l ow g w2 HI2.out (by omega)).mono ?_
  rintro e w3 ⟨hj, hb3⟩
  obtain ⟨v3, rfl, ho3⟩ := hj.qo
  have HO3 := Lib.hid ho3
  have HLT3 := Lib.hid (World.ownsRow.lt ho3)
  have HB3 := Lib.hid hb3
  have HCG3 := Lib.hid ((hb3.block _ HZG.out).trans HCG2.out)
  have HCQ3 := Lib.hid ((hb3.block _ HZQ.out).trans HCQ2.out)
  clear hj ho3 hb3 c0 c1 c2 c3 c4 d0 d1 d2 d3
  obtain ⟨c0, c1, c2, c3, c4⟩ := cells5 HCG3.out
  obtain ⟨d0, d1, d2, d3⟩ := cells4 HCQ3.out
  go_wp2_with fail
  refine (refGive_any A n c l ow g w3 (HS2.out.below HB3.out) (by omega)).mono ?_
  rintro e w4 ⟨hj, hb4⟩
  obtain ⟨v4, rfl, ho4⟩ := hj.qo
  have HW34 : Hid (w3.heap.size ≤ w4.heap.size) := Lib.hid hb4.size
  have HO4 := Lib.hid ho4
  have HO3' := Lib.hid (HO3.out.below hb4)
  have HB4 := Lib.hid (HB3.out.trans (hb4.mono HB3.out.size))
  have HCG4 := Lib.hid ((HB4.out.block _ HZG.out).trans HCG2.out)
  have HCQ4 := Lib.hid ((HB4.out.block _ HZQ.out).trans HCQ2.out)
  clear hj ho4 hb4 c0 c1 c2 c3 c4 d0 d1 d2 d3 HO3 HCG3 HCQ3
  obtain ⟨c0, c1, c2, c3, c4⟩ := cells5 HCG4.out
  obtain ⟨d0, d1, d2, d3⟩ := cells4 HCQ4.out
  go_wp2_with fail
  refine (Take_any A52 n c52 l ow g w4 (HI2.out.below HB4.out) (by omega) HF.out HOW.out).mono ?_
  rintro e w5 ⟨hj, hb5⟩
  obtain ⟨v5, r5, out5, rfl, hq5, ho5⟩ := hj.qo
  have HQ5 := Lib.hid hq5
  have HO5 := Lib.hid ho5
  have HO3 := Lib.hid (HO3'.out.below hb5)
  have HO4' := Lib.hid (HO4.out.below hb5)
  have H45 := Lib.hid hb5
  have HB5 := Lib.hid (HB4.out.trans (hb5.mono HB4.out.size))
  have HCG5 := Lib.hid ((HB5.out.block _ HZG.out).trans HCG2.out)
  have HCQ5 := Lib.hid ((HB5.out.block _ HZQ.out).trans HCQ2.out)
  clear hj hq5 ho5 hb5 c0 c1 c2 c3 c4 d0 d1 d2 d3 HO3' HO4 HCG4 HCQ4
  obtain ⟨c0, c1, c2, c3, c4⟩ := cells5 HCG5.out
  obtain ⟨d0, d1, d2, d3⟩ := cells4 HCQ5.out
  go_wp2_with fail
  refine (refTake_any A n c l ow g w5 (HS2.out.below HB5.out) (by omega)).mono ?_
  rintro e w6 ⟨hj, hb6⟩
  obtain ⟨v6, r6, out6, rfl, hq6, ho6⟩ := hj.qo
  obtain ⟨rfl, rfl⟩ := hq6.unique HQ5.out
  have HB6 := Lib.hid (HB5.out.trans (hb6.mono HB5.out.size))
  have H46 := Lib.hid (H45.out.trans (hb6.mono H45.out.size))
  obtain ⟨A3, c3', rfl, hr3, _, _⟩ := (HO3.out.below hb6).form
  obtain ⟨A4, c4', rfl, hr4, _, _⟩ := (HO4'.out.below hb6).form
  obtain ⟨A5, c5', rfl, hr5, _, _⟩ := (HO5.out.below hb6).form
  obtain ⟨A6, c6', rfl, hr6, _, _⟩ := ho6.form
  obtain ⟨out1, ho1⟩ : ∃ x, x = giveO l ow g := ⟨_, rfl⟩
  have HL3 : Hid (out1.length ≤ n + 1) := Lib.hid (by rw [ho1, ← HL.out]; exact giveO_len l ow g)
  have HL5 : Hid (out6.length ≤ n + 1) := Lib.hid (by rw [← HL.out]; exact HQ5.out.len)
  have O3 := Lib.hid (HO3.out.below hb6)
  have O5 := Lib.hid (HO5.out.below hb6)
  rw [← ho1] at hr3 hr4 O3 HLT3 ⊢
  have R3 := Lib.hid hr3
  have R4 := Lib.hid hr4
  have R5 := Lib.hid hr5
  have R6 := Lib.hid hr6
  have HCQ6 := Lib.hid ((HB6.out.block _ HZQ.out).trans HCQ2.out)
  generalize giveE l ow g = r1 at *
  clear hj hq6 ho6 hb6 hr3 hr4 hr5 hr6 HO3 HO4' HO5 c0 c1 c2 c3 c4 d0 d1 d2 d3 ho1 HCG2 HCG5 HCQ5
  obtain ⟨d0, d1, d2, d3⟩ := cells4 HCQ6.out
  go_wp2_with fail
  refine (May_any A52 A62 n c52 m c62 l cl ow tb pv w6 (HI2.out.below HB6.out) (HN2.out.below HB6.out) (by omega) (by omega)).mono ?_
  rintro e w7 ⟨rfl, hb7⟩
  have B7 := Lib.hid hb7
  have HB7 := Lib.hid (HB6.out.trans (hb7.mono HB6.out.size))
  have HCQ7 := Lib.hid ((HB7.out.block _ HZQ.out).trans HCQ2.out)
  clear hb7 d0 d1 d2 d3 HCQ6
  obtain ⟨d0, d1, d2, d3⟩ := cells4 HCQ7.out
  go_wp2_with fail
  refine (refMay_any A QA n c m d l cl ow tb pv w7 (HS2.out.below HB7.out) (HQ2.out.below HB7.out) (by omega) (by omega)).mono ?_
  rintro e w8 ⟨rfl, rfl⟩
  generalize mayL l cl ow tb pv = mr at *
  obtain ⟨hr, hhr⟩ : ∃ x, x = hasL l cl ow tb pv := ⟨_, rfl⟩
  have HHR := Lib.hid hhr
  clear d0 d1 d2 d3 hhr
  have X0 := Lib.hid (cells4 HCQ7.out).1
  have X1 := Lib.hid (cells4 HCQ7.out).2.1
  have X2 := Lib.hid (cells4 HCQ7.out).2.2.1
  have X3 := Lib.hid (cells4 HCQ7.out).2.2.2
  go_upto_region 8 with fail
  refine' wp_region_mono (by kernel_rfl) (by kernel_rfl) (by kernel_rfl) (by kernel_rfl) (by kernel_rfl) (by kernel_rfl)
    [MP.is (.int .i64 r1), MP.is (.int .i64 r1), MP.is (.bool false), MP.is (.bool false), MP.is (.int .i64 r6), MP.is (.int .i64 r6), MP.is (.bool false), MP.is (.bool false), MP.is (.bool false), MP.is (.slice A3 out1.length c3'), MP.is (.slice A4 out1.length c4'), MP.is (.bool true), MP.is (.bool false), MP.is (.bool false), MP.is (.bool false), MP.is (.slice A5 out6.length c5'), MP.is (.slice A6 out6.length c6'), MP.is (.bool true), MP.is (.bool false), MP.is (.bool false), MP.is (.bool false), MP.is (.string ⟨mr.1.toArray⟩), MP.is (.string ⟨mr.1.toArray⟩), MP.is (.bool false), MP.is (.bool false), MP.is (.bool false), MP.is (.bool mr.2), MP.is (.bool mr.2), MP.is (.bool false), MP.is (.bool false), MP.is (.bool false), MP.is (.slice A52 n c52), MP.is (.slice A62 m c62), MP.is (.pointer (some ⟨w.heap.size + 1, 1, none⟩)), MP.is (.string ⟨ow.toArray⟩), MP.is (.pointer (some ⟨w.heap.size + 1, 2, none⟩)), MP.is (.string ⟨tb.toArray⟩), MP.is (.pointer (some ⟨w.heap.size + 1, 3, none⟩)), MP.is (.int .u8 pv), MP.is (.bool hr), MP.is (.slice A n c), MP.is (.pointer (some ⟨w.heap.size + 1, 0, none⟩)), MP.is (.slice QA m d), MP.is (.pointer (some ⟨w.heap.size + 1, 1, none⟩)), MP.is (.string ⟨ow.toArray⟩), MP.is (.pointer (some ⟨w.heap.size + 1, 2, none⟩)), MP.is (.string ⟨tb.toArray⟩), MP.is (.pointer (some ⟨w.heap.size + 1, 3, none⟩)), MP.is (.int .u8 pv), MP.is (.bool hr), MP.is (.bool false), MP.is (.bool false)] ?hAA2 ?hst2 ?hend2
  case hAA2 =>
    intro f
    conv => lhs; simp only [putA, dstOf, List.size_toArray, List.length_cons, List.length_nil, Nat.zero_add, Nat.reduceAdd, List.getElem?_toArray, List.getElem?_cons_zero, List.getElem?_cons_succ, Option.bind_some, Act.put, List.setIfInBounds_toArray, List.set_cons_zero, List.set_cons_succ]
    first | done | exact rfl
  case hst2 =>
    change Steps _ _ _ _ _ [0, 1, 2, 3, 4, 5, 6, 7, 8, 9, 10, 11, 12, 13, 14, 15, 16, 17, 18, 19, 20, 21, 22, 23, 24, 25, 26, 27, 28, 29, 30, 31, 32, 33, 34, 35, 36, 37, 38, 39, 40, 41, 42, 43, 44, 45, 46, 47, 48, 49, 50, 51]
    refine Steps.cons rfl ?_ ?_
    · intro f wz hB h K Q hK
      try simp only [List.getElem_toArray, List.getElem_cons_zero]
      go_simp
      exact hK _ _ (gr_refl _) rfl
    refine Steps.cons rfl ?_ ?_
    · intro f wz hB h K Q hK
      try simp only [List.getElem_toArray, List.getElem_cons_succ, List.getElem_cons_zero]
      go_simp
      exact hK _ _ (gr_refl _) rfl
    refine Steps.cons rfl ?_ ?_
    · intro f wz hB h K Q hK
      have h0 : (MP.is (.int .i64 r1)).p (f 0) wz := h 0 (by kernel_rfl)
      have e0 : f 0 = (.int .i64 r1) := h0
      have h1 : (MP.is (.int .i64 r1)).p (f 1) wz := h 1 (by kernel_rfl)
      have e1 : f 1 = (.int .i64 r1) := h1
      simp only [e0, e1] at hK ⊢
      clear e0 e1
      try simp only [List.getElem_toArray, List.getElem_cons_succ, List.getElem_cons_zero]
      have te : (r1 == r1) = true := beq_self_eq_true _
      go_simp
      exact hK _ _ (gr_refl _) rfl
    refine Steps.cons rfl ?_ ?_
    · intro f wz hB h K Q hK
      have h2 : (MP.is (.bool false)).p (f 2) wz := h 2 (by kernel_rfl)
      have e2 : f 2 = (.bool false) := h2
      simp only [e2] at hK ⊢
      clear e2
      try simp only [List.getElem_toArray, List.getElem_cons_succ, List.getElem_cons_zero]
      go_simp
      exact hK _ _ (gr_refl _) rfl
    refine Steps.cons rfl ?_ ?_
    · intro f wz hB h K Q hK
      have h3 : (MP.is (.bool false)).p (f 3) wz := h 3 (by kernel_rfl)
      have e3 : f 3 = (.bool false) := h3
      simp only [e3] at hK ⊢
      clear e3
      try simp only [List.getElem_toArray, List.getElem_cons_succ, List.getElem_cons_zero]
      go_simp
      exact hK _ _ (gr_refl _) rfl
    refine Steps.cons rfl ?_ ?_
    · intro f wz hB h K Q hK
      have h3 : (MP.is (.bool false)).p (f 3) wz := h 3 (by kernel_rfl)
      have e3 : f 3 = (.bool false) := h3
      simp only [e3] at hK ⊢
      clear e3
      try simp only [List.getElem_toArray, List.getElem_cons_succ, List.getElem_cons_zero]
      go_simp
      exact hK _ _ (gr_refl _) rfl
    refine Steps.cons rfl ?_ ?_
    · intro f wz hB h K Q hK
      have h3 : (MP.is (.bool false)).p (f 3) wz := h 3 (by kernel_rfl)
      have e3 : f 3 = (.bool false) := h3
      have h4 : (MP.is (.int .i64 r6)).p (f 4) wz := h 4 (by kernel_rfl)
      have e4 : f 4 = (.int .i64 r6) := h4
      have h5 : (MP.is (.int .i64 r6)).p (f 5) wz := h 5 (by kernel_rfl)
      have e5 : f 5 = (.int .i64 r6) := h5
      simp only [e3, e4, e5] at hK ⊢
      clear e3 e4 e5
      try simp only [List.getElem_toArray, List.getElem_cons_succ, List.getElem_cons_zero]
      have te : (r6 == r6) = true := beq_self_eq_true _
      go_simp
      exact hK _ _ (gr_refl _) rfl
    refine Steps.cons rfl ?_ ?_
    · intro f wz hB h K Q hK
      have h3 : (MP.is (.bool false)).p (f 3) wz := h 3 (by kernel_rfl)
      have e3 : f 3 = (.bool false) := h3
      have h6 : (MP.is (.bool false)).p (f 6) wz := h 6 (by kernel_rfl)
      have e6 : f 6 = (.bool false) := h6
      simp only [e3, e6] at hK ⊢
      clear e3 e6
      try simp only [List.getElem_toArray, List.getElem_cons_succ, List.getElem_cons_zero]
      go_simp
      exact hK _ _ (gr_refl _) rfl
    refine Steps.cons rfl ?_ ?_
    · intro f wz hB h K Q hK
      have h7 : (MP.is (.bool false)).p (f 7) wz := h 7 (by kernel_rfl)
      have e7 : f 7 = (.bool false) := h7
      simp only [e7] at hK ⊢
      clear e7
      try simp only [List.getElem_toArray, List.getElem_cons_succ, List.getElem_cons_zero]
      go_simp
      exact hK _ _ (gr_refl _) rfl
    refine Steps.cons rfl ?_ ?_
    · intro f wz hB h K Q hK
      have h8 : (MP.is (.bool false)).p (f 8) wz := h 8 (by kernel_rfl)
      have e8 : f 8 = (.bool false) := h8
      simp only [e8] at hK ⊢
      clear e8
      try simp only [List.getElem_toArray, List.getElem_cons_succ, List.getElem_cons_zero]
      go_simp
      exact hK _ _ (gr_refl _) rfl
    refine Steps.cons rfl ?_ ?_
    · intro f wz hB h K Q hK
      have h8 : (MP.is (.bool false)).p (f 8) wz := h 8 (by kernel_rfl)
      have e8 : f 8 = (.bool false) := h8
      simp only [e8] at hK ⊢
      clear e8
      try simp only [List.getElem_toArray, List.getElem_cons_succ, List.getElem_cons_zero]
      go_simp
      exact hK _ _ (gr_refl _) rfl
    refine Steps.cons rfl ?_ ?_
    · intro f wz hB h K Q hK
      have h8 : (MP.is (.bool false)).p (f 8) wz := h 8 (by kernel_rfl)
      have e8 : f 8 = (.bool false) := h8
      have h9 : (MP.is (.slice A3 out1.length c3')).p (f 9) wz := h 9 (by kernel_rfl)
      have e9 : f 9 = (.slice A3 out1.length c3') := h9
      have h10 : (MP.is (.slice A4 out1.length c4')).p (f 10) wz := h 10 (by kernel_rfl)
      have e10 : f 10 = (.slice A4 out1.length c4') := h10
      simp only [e8, e9, e10] at hK ⊢
      clear e8 e9 e10
      try simp only [List.getElem_toArray, List.getElem_cons_succ, List.getElem_cons_zero]
      go_simp
      refine (SameGrants_any A3 A4 out1.length c3' c4' out1 wz (R3.out.below (B7.out.trans ((bel_drew hB).mono B7.out.size))) (R4.out.below (B7.out.trans ((bel_drew hB).mono B7.out.size))) (by have := HL3.out; omega)).mono ?_
      rintro e w9 ⟨rfl, hb9⟩
      exact hK _ _ hb9 rfl
    refine Steps.cons rfl ?_ ?_
    · intro f wz hB h K Q hK
      have h8 : (MP.is (.bool false)).p (f 8) wz := h 8 (by kernel_rfl)
      have e8 : f 8 = (.bool false) := h8
      have h11 : (MP.is (.bool true)).p (f 11) wz := h 11 (by kernel_rfl)
      have e11 : f 11 = (.bool true) := h11
      simp only [e8, e11] at hK ⊢
      clear e8 e11
      try simp only [List.getElem_toArray, List.getElem_cons_succ, List.getElem_cons_zero]
      go_simp
      exact hK _ _ (gr_refl _) rfl
    refine Steps.cons rfl ?_ ?_
    · intro f wz hB h K Q hK
      have h8 : (MP.is (.bool false)).p (f 8) wz := h 8 (by kernel_rfl)
      have e8 : f 8 = (.bool false) := h8
      have h12 : (MP.is (.bool false)).p (f 12) wz := h 12 (by kernel_rfl)
      have e12 : f 12 = (.bool false) := h12
      simp only [e8, e12] at hK ⊢
      clear e8 e12
      try simp only [List.getElem_toArray, List.getElem_cons_succ, List.getElem_cons_zero]
      go_simp
      exact hK _ _ (gr_refl _) rfl
    refine Steps.cons rfl ?_ ?_
    · intro f wz hB h K Q hK
      have h13 : (MP.is (.bool false)).p (f 13) wz := h 13 (by kernel_rfl)
      have e13 : f 13 = (.bool false) := h13
      simp only [e13] at hK ⊢
      clear e13
      try simp only [List.getElem_toArray, List.getElem_cons_succ, List.getElem_cons_zero]
      go_simp
      exact hK _ _ (gr_refl _) rfl
    refine Steps.cons rfl ?_ ?_
    · intro f wz hB h K Q hK
      have h14 : (MP.is (.bool false)).p (f 14) wz := h 14 (by kernel_rfl)
      have e14 : f 14 = (.bool false) := h14
      simp only [e14] at hK ⊢
      clear e14
      try simp only [List.getElem_toArray, List.getElem_cons_succ, List.getElem_cons_zero]
      go_simp
      exact hK _ _ (gr_refl _) rfl
    refine Steps.cons rfl ?_ ?_
    · intro f wz hB h K Q hK
      have h14 : (MP.is (.bool false)).p (f 14) wz := h 14 (by kernel_rfl)
      have e14 : f 14 = (.bool false) := h14
      simp only [e14] at hK ⊢
      clear e14
      try simp only [List.getElem_toArray, List.getElem_cons_succ, List.getElem_cons_zero]
      go_simp
      exact hK _ _ (gr_refl _) rfl
    refine Steps.cons rfl ?_ ?_
    · intro f wz hB h K Q hK
      have h14 : (MP.is (.bool false)).p (f 14) wz := h 14 (by kernel_rfl)
      have e14 : f 14 = (.bool false) := h14
      have h15 : (MP.is (.slice A5 out6.length c5')).p (f 15) wz := h 15 (by kernel_rfl)
      have e15 : f 15 = (.slice A5 out6.length c5') := h15
      have h16 : (MP.is (.slice A6 out6.length c6')).p (f 16) wz := h 16 (by kernel_rfl)
      have e16 : f 16 = (.slice A6 out6.length c6') := h16
      simp only [e14, e15, e16] at hK ⊢
      clear e14 e15 e16
      try simp only [List.getElem_toArray, List.getElem_cons_succ, List.getElem_cons_zero]
      go_simp
      refine (SameGrants_any A5 A6 out6.length c5' c6' out6 wz (R5.out.below (B7.out.trans ((bel_drew hB).mono B7.out.size))) (R6.out.below (B7.out.trans ((bel_drew hB).mono B7.out.size))) (by have := HL5.out; omega)).mono ?_
      rintro e w9 ⟨rfl, hb9⟩
      exact hK _ _ hb9 rfl
    refine Steps.cons rfl ?_ ?_
    · intro f wz hB h K Q hK
      have h14 : (MP.is (.bool false)).p (f 14) wz := h 14 (by kernel_rfl)
      have e14 : f 14 = (.bool false) := h14
      have h17 : (MP.is (.bool true)).p (f 17) wz := h 17 (by kernel_rfl)
      have e17 : f 17 = (.bool true) := h17
      simp only [e14, e17] at hK ⊢
      clear e14 e17
      try simp only [List.getElem_toArray, List.getElem_cons_succ, List.getElem_cons_zero]
      go_simp
      exact hK _ _ (gr_refl _) rfl
    refine Steps.cons rfl ?_ ?_
    · intro f wz hB h K Q hK
      have h14 : (MP.is (.bool false)).p (f 14) wz := h 14 (by kernel_rfl)
      have e14 : f 14 = (.bool false) := h14
      have h18 : (MP.is (.bool false)).p (f 18) wz := h 18 (by kernel_rfl)
      have e18 : f 18 = (.bool false) := h18
      simp only [e14, e18] at hK ⊢
      clear e14 e18
      try simp only [List.getElem_toArray, List.getElem_cons_succ, List.getElem_cons_zero]
      go_simp
      exact hK _ _ (gr_refl _) rfl
    refine Steps.cons rfl ?_ ?_
    · intro f wz hB h K Q hK
      have h19 : (MP.is (.bool false)).p (f 19) wz := h 19 (by kernel_rfl)
      have e19 : f 19 = (.bool false) := h19
      simp only [e19] at hK ⊢
      clear e19
      try simp only [List.getElem_toArray, List.getElem_cons_succ, List.getElem_cons_zero]
      go_simp
      exact hK _ _ (gr_refl _) rfl
    refine Steps.cons rfl ?_ ?_
    · intro f wz hB h K Q hK
      have h20 : (MP.is (.bool false)).p (f 20) wz := h 20 (by kernel_rfl)
      have e20 : f 20 = (.bool false) := h20
      simp only [e20] at hK ⊢
      clear e20
      try simp only [List.getElem_toArray, List.getElem_cons_succ, List.getElem_cons_zero]
      go_simp
      exact hK _ _ (gr_refl _) rfl
    refine Steps.cons rfl ?_ ?_
    · intro f wz hB h K Q hK
      have h20 : (MP.is (.bool false)).p (f 20) wz := h 20 (by kernel_rfl)
      have e20 : f 20 = (.bool false) := h20
      simp only [e20] at hK ⊢
      clear e20
      try simp only [List.getElem_toArray, List.getElem_cons_succ, List.getElem_cons_zero]
      go_simp
      exact hK _ _ (gr_refl _) rfl
    refine Steps.cons rfl ?_ ?_
    · intro f wz hB h K Q hK
      have h20 : (MP.is (.bool false)).p (f 20) wz := h 20 (by kernel_rfl)
      have e20 : f 20 = (.bool false) := h20
      have h21 : (MP.is (.string ⟨mr.1.toArray⟩)).p (f 21) wz := h 21 (by kernel_rfl)
      have e21 : f 21 = (.string ⟨mr.1.toArray⟩) := h21
      have h22 : (MP.is (.string ⟨mr.1.toArray⟩)).p (f 22) wz := h 22 (by kernel_rfl)
      have e22 : f 22 = (.string ⟨mr.1.toArray⟩) := h22
      simp only [e20, e21, e22] at hK ⊢
      clear e20 e21 e22
      try simp only [List.getElem_toArray, List.getElem_cons_succ, List.getElem_cons_zero]
      have te : (mr.1 == mr.1) = true := beq_self_eq_true _
      go_simp
      exact hK _ _ (gr_refl _) rfl
    refine Steps.cons rfl ?_ ?_
    · intro f wz hB h K Q hK
      have h20 : (MP.is (.bool false)).p (f 20) wz := h 20 (by kernel_rfl)
      have e20 : f 20 = (.bool false) := h20
      have h23 : (MP.is (.bool false)).p (f 23) wz := h 23 (by kernel_rfl)
      have e23 : f 23 = (.bool false) := h23
      simp only [e20, e23] at hK ⊢
      clear e20 e23
      try simp only [List.getElem_toArray, List.getElem_cons_succ, List.getElem_cons_zero]
      go_simp
      exact hK _ _ (gr_refl _) rfl
    refine Steps.cons rfl ?_ ?_
    · intro f wz hB h K Q hK
      have h24 : (MP.is (.bool false)).p (f 24) wz := h 24 (by kernel_rfl)
      have e24 : f 24 = (.bool false) := h24
      simp only [e24] at hK ⊢
      clear e24
      try simp only [List.getElem_toArray, List.getElem_cons_succ, List.getElem_cons_zero]
      go_simp
      exact hK _ _ (gr_refl _) rfl
    refine Steps.cons rfl ?_ ?_
    · intro f wz hB h K Q hK
      have h25 : (MP.is (.bool false)).p (f 25) wz := h 25 (by kernel_rfl)
      have e25 : f 25 = (.bool false) := h25
      simp only [e25] at hK ⊢
      clear e25
      try simp only [List.getElem_toArray, List.getElem_cons_succ, List.getElem_cons_zero]
      go_simp
      exact hK _ _ (gr_refl _) rfl
    refine Steps.cons rfl ?_ ?_
    · intro f wz hB h K Q hK
      have h25 : (MP.is (.bool false)).p (f 25) wz := h 25 (by kernel_rfl)
      have e25 : f 25 = (.bool false) := h25
      simp only [e25] at hK ⊢
      clear e25
      try simp only [List.getElem_toArray, List.getElem_cons_succ, List.getElem_cons_zero]
      go_simp
      exact hK _ _ (gr_refl _) rfl
    refine Steps.cons rfl ?_ ?_
    · intro f wz hB h K Q hK
      have h25 : (MP.is (.bool false)).p (f 25) wz := h 25 (by kernel_rfl)
      have e25 : f 25 = (.bool false) := h25
      have h26 : (MP.is (.bool mr.2)).p (f 26) wz := h 26 (by kernel_rfl)
      have e26 : f 26 = (.bool mr.2) := h26
      have h27 : (MP.is (.bool mr.2)).p (f 27) wz := h 27 (by kernel_rfl)
      have e27 : f 27 = (.bool mr.2) := h27
      simp only [e25, e26, e27] at hK ⊢
      clear e25 e26 e27
      try simp only [List.getElem_toArray, List.getElem_cons_succ, List.getElem_cons_zero]
      go_simp
      exact hK _ _ (gr_refl _) rfl
    refine Steps.cons rfl ?_ ?_
    · intro f wz hB h K Q hK
      have h25 : (MP.is (.bool false)).p (f 25) wz := h 25 (by kernel_rfl)
      have e25 : f 25 = (.bool false) := h25
      have h28 : (MP.is (.bool false)).p (f 28) wz := h 28 (by kernel_rfl)
      have e28 : f 28 = (.bool false) := h28
      simp only [e25, e28] at hK ⊢
      clear e25 e28
      try simp only [List.getElem_toArray, List.getElem_cons_succ, List.getElem_cons_zero]
      go_simp
      exact hK _ _ (gr_refl _) rfl
    refine Steps.cons rfl ?_ ?_
    · intro f wz hB h K Q hK
      have h29 : (MP.is (.bool false)).p (f 29) wz := h 29 (by kernel_rfl)
      have e29 : f 29 = (.bool false) := h29
      simp only [e29] at hK ⊢
      clear e29
      try simp only [List.getElem_toArray, List.getElem_cons_succ, List.getElem_cons_zero]
      go_simp
      exact hK _ _ (gr_refl _) rfl
    refine Steps.cons rfl ?_ ?_
    · intro f wz hB h K Q hK
      have h30 : (MP.is (.bool false)).p (f 30) wz := h 30 (by kernel_rfl)
      have e30 : f 30 = (.bool false) := h30
      simp only [e30] at hK ⊢
      clear e30
      try simp only [List.getElem_toArray, List.getElem_cons_succ, List.getElem_cons_zero]
      go_simp
      exact hK _ _ (gr_refl _) rfl
    refine Steps.cons rfl ?_ ?_
    · intro f wz hB h K Q hK
      have h30 : (MP.is (.bool false)).p (f 30) wz := h 30 (by kernel_rfl)
      have e30 : f 30 = (.bool false) := h30
      simp only [e30] at hK ⊢
      clear e30
      try simp only [List.getElem_toArray, List.getElem_cons_succ, List.getElem_cons_zero]
      go_simp
      exact hK _ _ (gr_refl _) rfl
    refine Steps.cons rfl ?_ ?_
    · intro f wz hB h K Q hK
      have h30 : (MP.is (.bool false)).p (f 30) wz := h 30 (by kernel_rfl)
      have e30 : f 30 = (.bool false) := h30
      simp only [e30] at hK ⊢
      clear e30
      try simp only [List.getElem_toArray, List.getElem_cons_succ, List.getElem_cons_zero]
      go_simp
      exact hK _ _ (gr_refl _) rfl
    refine Steps.cons rfl ?_ ?_
    · intro f wz hB h K Q hK
      have h30 : (MP.is (.bool false)).p (f 30) wz := h 30 (by kernel_rfl)
      have e30 : f 30 = (.bool false) := h30
      have h33 : (MP.is (.pointer (some ⟨w.heap.size + 1, 1, none⟩))).p (f 33) wz := h 33 (by kernel_rfl)
      have e33 : f 33 = (.pointer (some ⟨w.heap.size + 1, 1, none⟩)) := h33
      simp only [e30, e33] at hK ⊢
      clear e30 e33
      try simp only [List.getElem_toArray, List.getElem_cons_succ, List.getElem_cons_zero]
      have y0 := keep_of_below (bel_drew hB) X0.out
      have y1 := keep_of_below (bel_drew hB) X1.out
      have y2 := keep_of_below (bel_drew hB) X2.out
      have y3 := keep_of_below (bel_drew hB) X3.out
      go_simp
      exact hK _ _ (gr_refl _) rfl
    refine Steps.cons rfl ?_ ?_
    · intro f wz hB h K Q hK
      have h30 : (MP.is (.bool false)).p (f 30) wz := h 30 (by kernel_rfl)
      have e30 : f 30 = (.bool false) := h30
      simp only [e30] at hK ⊢
      clear e30
      try simp only [List.getElem_toArray, List.getElem_cons_succ, List.getElem_cons_zero]
      go_simp
      exact hK _ _ (gr_refl _) rfl
    refine Steps.cons rfl ?_ ?_
    · intro f wz hB h K Q hK
      have h30 : (MP.is (.bool false)).p (f 30) wz := h 30 (by kernel_rfl)
      have e30 : f 30 = (.bool false) := h30
      have h35 : (MP.is (.pointer (some ⟨w.heap.size + 1, 2, none⟩))).p (f 35) wz := h 35 (by kernel_rfl)
      have e35 : f 35 = (.pointer (some ⟨w.heap.size + 1, 2, none⟩)) := h35
      simp only [e30, e35] at hK ⊢
      clear e30 e35
      try simp only [List.getElem_toArray, List.getElem_cons_succ, List.getElem_cons_zero]
      have y0 := keep_of_below (bel_drew hB) X0.out
      have y1 := keep_of_below (bel_drew hB) X1.out
      have y2 := keep_of_below (bel_drew hB) X2.out
      have y3 := keep_of_below (bel_drew hB) X3.out
      go_simp
      exact hK _ _ (gr_refl _) rfl
    refine Steps.cons rfl ?_ ?_
    · intro f wz hB h K Q hK
      have h30 : (MP.is (.bool false)).p (f 30) wz := h 30 (by kernel_rfl)
      have e30 : f 30 = (.bool false) := h30
      simp only [e30] at hK ⊢
      clear e30
      try simp only [List.getElem_toArray, List.getElem_cons_succ, List.getElem_cons_zero]
      go_simp
      exact hK _ _ (gr_refl _) rfl
    refine Steps.cons rfl ?_ ?_
    · intro f wz hB h K Q hK
      have h30 : (MP.is (.bool false)).p (f 30) wz := h 30 (by kernel_rfl)
      have e30 : f 30 = (.bool false) := h30
      have h37 : (MP.is (.pointer (some ⟨w.heap.size + 1, 3, none⟩))).p (f 37) wz := h 37 (by kernel_rfl)
      have e37 : f 37 = (.pointer (some ⟨w.heap.size + 1, 3, none⟩)) := h37
      simp only [e30, e37] at hK ⊢
      clear e30 e37
      try simp only [List.getElem_toArray, List.getElem_cons_succ, List.getElem_cons_zero]
      have y0 := keep_of_below (bel_drew hB) X0.out
      have y1 := keep_of_below (bel_drew hB) X1.out
      have y2 := keep_of_below (bel_drew hB) X2.out
      have y3 := keep_of_below (bel_drew hB) X3.out
      go_simp
      exact hK _ _ (gr_refl _) rfl
    refine Steps.cons rfl ?_ ?_
    · intro f wz hB h K Q hK
      have h30 : (MP.is (.bool false)).p (f 30) wz := h 30 (by kernel_rfl)
      have e30 : f 30 = (.bool false) := h30
      have h31 : (MP.is (.slice A52 n c52)).p (f 31) wz := h 31 (by kernel_rfl)
      have e31 : f 31 = (.slice A52 n c52) := h31
      have h32 : (MP.is (.slice A62 m c62)).p (f 32) wz := h 32 (by kernel_rfl)
      have e32 : f 32 = (.slice A62 m c62) := h32
      have h34 : (MP.is (.string ⟨ow.toArray⟩)).p (f 34) wz := h 34 (by kernel_rfl)
      have e34 : f 34 = (.string ⟨ow.toArray⟩) := h34
      have h36 : (MP.is (.string ⟨tb.toArray⟩)).p (f 36) wz := h 36 (by kernel_rfl)
      have e36 : f 36 = (.string ⟨tb.toArray⟩) := h36
      have h38 : (MP.is (.int .u8 pv)).p (f 38) wz := h 38 (by kernel_rfl)
      have e38 : f 38 = (.int .u8 pv) := h38
      simp only [e30, e31, e32, e34, e36, e38] at hK ⊢
      clear e30 e31 e32 e34 e36 e38
      try simp only [List.getElem_toArray, List.getElem_cons_succ, List.getElem_cons_zero]
      go_simp
      refine (Has_any A52 A62 n c52 m c62 l cl ow tb pv wz (HI2.out.below (HB7.out.trans ((bel_drew hB).mono HB7.out.size))) (HN2.out.below (HB7.out.trans ((bel_drew hB).mono HB7.out.size))) (by omega) (by omega)).mono ?_
      rw [← HHR.out]
      rintro e w9 ⟨rfl, hb9⟩
      exact hK _ _ hb9 rfl
    refine Steps.cons rfl ?_ ?_
    · intro f wz hB h K Q hK
      have h30 : (MP.is (.bool false)).p (f 30) wz := h 30 (by kernel_rfl)
      have e30 : f 30 = (.bool false) := h30
      simp only [e30] at hK ⊢
      clear e30
      try simp only [List.getElem_toArray, List.getElem_cons_succ, List.getElem_cons_zero]
      go_simp
      exact hK _ _ (gr_refl _) rfl
    refine Steps.cons rfl ?_ ?_
    · intro f wz hB h K Q hK
      have h30 : (MP.is (.bool false)).p (f 30) wz := h 30 (by kernel_rfl)
      have e30 : f 30 = (.bool false) := h30
      simp only [e30] at hK ⊢
      clear e30
      try simp only [List.getElem_toArray, List.getElem_cons_succ, List.getElem_cons_zero]
      go_simp
      exact hK _ _ (gr_refl _) rfl
    refine Steps.cons rfl ?_ ?_
    · intro f wz hB h K Q hK
      have h30 : (MP.is (.bool false)).p (f 30) wz := h 30 (by kernel_rfl)
      have e30 : f 30 = (.bool false) := h30
      have h41 : (MP.is (.pointer (some ⟨w.heap.size + 1, 0, none⟩))).p (f 41) wz := h 41 (by kernel_rfl)
      have e41 : f 41 = (.pointer (some ⟨w.heap.size + 1, 0, none⟩)) := h41
      simp only [e30, e41] at hK ⊢
      clear e30 e41
      try simp only [List.getElem_toArray, List.getElem_cons_succ, List.getElem_cons_zero]
      have y0 := keep_of_below (bel_drew hB) X0.out
      have y1 := keep_of_below (bel_drew hB) X1.out
      have y2 := keep_of_below (bel_drew hB) X2.out
      have y3 := keep_of_below (bel_drew hB) X3.out
      go_simp
      exact hK _ _ (gr_refl _) rfl
    refine Steps.cons rfl ?_ ?_
    · intro f wz hB h K Q hK
      have h30 : (MP.is (.bool false)).p (f 30) wz := h 30 (by kernel_rfl)
      have e30 : f 30 = (.bool false) := h30
      simp only [e30] at hK ⊢
      clear e30
      try simp only [List.getElem_toArray, List.getElem_cons_succ, List.getElem_cons_zero]
      go_simp
      exact hK _ _ (gr_refl _) rfl
    refine Steps.cons rfl ?_ ?_
    · intro f wz hB h K Q hK
      have h30 : (MP.is (.bool false)).p (f 30) wz := h 30 (by kernel_rfl)
      have e30 : f 30 = (.bool false) := h30
      have h43 : (MP.is (.pointer (some ⟨w.heap.size + 1, 1, none⟩))).p (f 43) wz := h 43 (by kernel_rfl)
      have e43 : f 43 = (.pointer (some ⟨w.heap.size + 1, 1, none⟩)) := h43
      simp only [e30, e43] at hK ⊢
      clear e30 e43
      try simp only [List.getElem_toArray, List.getElem_cons_succ, List.getElem_cons_zero]
      have y0 := keep_of_below (bel_drew hB) X0.out
      have y1 := keep_of_below (bel_drew hB) X1.out
      have y2 := keep_of_below (bel_drew hB) X2.out
      have y3 := keep_of_below (bel_drew hB) X3.out
      go_simp
      exact hK _ _ (gr_refl _) rfl
    refine Steps.cons rfl ?_ ?_
    · intro f wz hB h K Q hK
      have h30 : (MP.is (.bool false)).p (f 30) wz := h 30 (by kernel_rfl)
      have e30 : f 30 = (.bool false) := h30
      simp only [e30] at hK ⊢
      clear e30
      try simp only [List.getElem_toArray, List.getElem_cons_succ, List.getElem_cons_zero]
      go_simp
      exact hK _ _ (gr_refl _) rfl
    refine Steps.cons rfl ?_ ?_
    · intro f wz hB h K Q hK
      have h30 : (MP.is (.bool false)).p (f 30) wz := h 30 (by kernel_rfl)
      have e30 : f 30 = (.bool false) := h30
      have h45 : (MP.is (.pointer (some ⟨w.heap.size + 1, 2, none⟩))).p (f 45) wz := h 45 (by kernel_rfl)
      have e45 : f 45 = (.pointer (some ⟨w.heap.size + 1, 2, none⟩)) := h45
      simp only [e30, e45] at hK ⊢
      clear e30 e45
      try simp only [List.getElem_toArray, List.getElem_cons_succ, List.getElem_cons_zero]
      have y0 := keep_of_below (bel_drew hB) X0.out
      have y1 := keep_of_below (bel_drew hB) X1.out
      have y2 := keep_of_below (bel_drew hB) X2.out
      have y3 := keep_of_below (bel_drew hB) X3.out
      go_simp
      exact hK _ _ (gr_refl _) rfl
    refine Steps.cons rfl ?_ ?_
    · intro f wz hB h K Q hK
      have h30 : (MP.is (.bool false)).p (f 30) wz := h 30 (by kernel_rfl)
      have e30 : f 30 = (.bool false) := h30
      simp only [e30] at hK ⊢
      clear e30
      try simp only [List.getElem_toArray, List.getElem_cons_succ, List.getElem_cons_zero]
      go_simp
      exact hK _ _ (gr_refl _) rfl
    refine Steps.cons rfl ?_ ?_
    · intro f wz hB h K Q hK
      have h30 : (MP.is (.bool false)).p (f 30) wz := h 30 (by kernel_rfl)
      have e30 : f 30 = (.bool false) := h30
      have h47 : (MP.is (.pointer (some ⟨w.heap.size + 1, 3, none⟩))).p (f 47) wz := h 47 (by kernel_rfl)
      have e47 : f 47 = (.pointer (some ⟨w.heap.size + 1, 3, none⟩)) := h47
      simp only [e30, e47] at hK ⊢
      clear e30 e47
      try simp only [List.getElem_toArray, List.getElem_cons_succ, List.getElem_cons_zero]
      have y0 := keep_of_below (bel_drew hB) X0.out
      have y1 := keep_of_below (bel_drew hB) X1.out
      have y2 := keep_of_below (bel_drew hB) X2.out
      have y3 := keep_of_below (bel_drew hB) X3.out
      go_simp
      exact hK _ _ (gr_refl _) rfl
    refine Steps.cons rfl ?_ ?_
    · intro f wz hB h K Q hK
      have h30 : (MP.is (.bool false)).p (f 30) wz := h 30 (by kernel_rfl)
      have e30 : f 30 = (.bool false) := h30
      have h40 : (MP.is (.slice A n c)).p (f 40) wz := h 40 (by kernel_rfl)
      have e40 : f 40 = (.slice A n c) := h40
      have h42 : (MP.is (.slice QA m d)).p (f 42) wz := h 42 (by kernel_rfl)
      have e42 : f 42 = (.slice QA m d) := h42
      have h44 : (MP.is (.string ⟨ow.toArray⟩)).p (f 44) wz := h 44 (by kernel_rfl)
      have e44 : f 44 = (.string ⟨ow.toArray⟩) := h44
      have h46 : (MP.is (.string ⟨tb.toArray⟩)).p (f 46) wz := h 46 (by kernel_rfl)
      have e46 : f 46 = (.string ⟨tb.toArray⟩) := h46
      have h48 : (MP.is (.int .u8 pv)).p (f 48) wz := h 48 (by kernel_rfl)
      have e48 : f 48 = (.int .u8 pv) := h48
      simp only [e30, e40, e42, e44, e46, e48] at hK ⊢
      clear e30 e40 e42 e44 e46 e48
      try simp only [List.getElem_toArray, List.getElem_cons_succ, List.getElem_cons_zero]
      go_simp
      refine (refHas_any A QA n c m d l cl ow tb pv wz (HS2.out.below (HB7.out.trans ((bel_drew hB).mono HB7.out.size))) (HQ2.out.below (HB7.out.trans ((bel_drew hB).mono HB7.out.size))) (by omega) (by omega)).mono ?_
      rw [← HHR.out]
      rintro e w9 ⟨rfl, rfl⟩
      exact hK _ _ (gr_refl _) rfl
    refine Steps.cons rfl ?_ ?_
    · intro f wz hB h K Q hK
      have h30 : (MP.is (.bool false)).p (f 30) wz := h 30 (by kernel_rfl)
      have e30 : f 30 = (.bool false) := h30
      have h39 : (MP.is (.bool hr)).p (f 39) wz := h 39 (by kernel_rfl)
      have e39 : f 39 = (.bool hr) := h39
      have h49 : (MP.is (.bool hr)).p (f 49) wz := h 49 (by kernel_rfl)
      have e49 : f 49 = (.bool hr) := h49
      simp only [e30, e39, e49] at hK ⊢
      clear e30 e39 e49
      try simp only [List.getElem_toArray, List.getElem_cons_succ, List.getElem_cons_zero]
      go_simp
      exact hK _ _ (gr_refl _) rfl
    refine Steps.cons rfl ?_ ?_
    · intro f wz hB h K Q hK
      have h30 : (MP.is (.bool false)).p (f 30) wz := h 30 (by kernel_rfl)
      have e30 : f 30 = (.bool false) := h30
      have h50 : (MP.is (.bool false)).p (f 50) wz := h 50 (by kernel_rfl)
      have e50 : f 50 = (.bool false) := h50
      simp only [e30, e50] at hK ⊢
      clear e30 e50
      try simp only [List.getElem_toArray, List.getElem_cons_succ, List.getElem_cons_zero]
      go_simp
      exact hK _ _ (gr_refl _) rfl
    exact Steps.nil
  intro f w11 hB11 hR
  have e0 : f 0 = (.int .i64 r1) := hR 0 (by decide)
  have e1 : f 1 = (.int .i64 r1) := hR 1 (by decide)
  have e2 : f 2 = (.bool false) := hR 2 (by decide)
  have e3 : f 3 = (.bool false) := hR 3 (by decide)
  have e4 : f 4 = (.int .i64 r6) := hR 4 (by decide)
  have e5 : f 5 = (.int .i64 r6) := hR 5 (by decide)
  have e6 : f 6 = (.bool false) := hR 6 (by decide)
  have e7 : f 7 = (.bool false) := hR 7 (by decide)
  have e8 : f 8 = (.bool false) := hR 8 (by decide)
  have e9 : f 9 = (.slice A3 out1.length c3') := hR 9 (by decide)
  have e10 : f 10 = (.slice A4 out1.length c4') := hR 10 (by decide)
  have e11 : f 11 = (.bool true) := hR 11 (by decide)
  have e12 : f 12 = (.bool false) := hR 12 (by decide)
  have e13 : f 13 = (.bool false) := hR 13 (by decide)
  have e14 : f 14 = (.bool false) := hR 14 (by decide)
  have e15 : f 15 = (.slice A5 out6.length c5') := hR 15 (by decide)
  have e16 : f 16 = (.slice A6 out6.length c6') := hR 16 (by decide)
  have e17 : f 17 = (.bool true) := hR 17 (by decide)
  have e18 : f 18 = (.bool false) := hR 18 (by decide)
  have e19 : f 19 = (.bool false) := hR 19 (by decide)
  have e20 : f 20 = (.bool false) := hR 20 (by decide)
  have e21 : f 21 = (.string ⟨mr.1.toArray⟩) := hR 21 (by decide)
  have e22 : f 22 = (.string ⟨mr.1.toArray⟩) := hR 22 (by decide)
  have e23 : f 23 = (.bool false) := hR 23 (by decide)
  have e24 : f 24 = (.bool false) := hR 24 (by decide)
  have e25 : f 25 = (.bool false) := hR 25 (by decide)
  have e26 : f 26 = (.bool mr.2) := hR 26 (by decide)
  have e27 : f 27 = (.bool mr.2) := hR 27 (by decide)
  have e28 : f 28 = (.bool false) := hR 28 (by decide)
  have e29 : f 29 = (.bool false) := hR 29 (by decide)
  have e30 : f 30 = (.bool false) := hR 30 (by decide)
  have e31 : f 31 = (.slice A52 n c52) := hR 31 (by decide)
  have e32 : f 32 = (.slice A62 m c62) := hR 32 (by decide)
  have e33 : f 33 = (.pointer (some ⟨w.heap.size + 1, 1, none⟩)) := hR 33 (by decide)
  have e34 : f 34 = (.string ⟨ow.toArray⟩) := hR 34 (by decide)
  have e35 : f 35 = (.pointer (some ⟨w.heap.size + 1, 2, none⟩)) := hR 35 (by decide)
  have e36 : f 36 = (.string ⟨tb.toArray⟩) := hR 36 (by decide)
  have e37 : f 37 = (.pointer (some ⟨w.heap.size + 1, 3, none⟩)) := hR 37 (by decide)
  have e38 : f 38 = (.int .u8 pv) := hR 38 (by decide)
  have e39 : f 39 = (.bool hr) := hR 39 (by decide)
  have e40 : f 40 = (.slice A n c) := hR 40 (by decide)
  have e41 : f 41 = (.pointer (some ⟨w.heap.size + 1, 0, none⟩)) := hR 41 (by decide)
  have e42 : f 42 = (.slice QA m d) := hR 42 (by decide)
  have e43 : f 43 = (.pointer (some ⟨w.heap.size + 1, 1, none⟩)) := hR 43 (by decide)
  have e44 : f 44 = (.string ⟨ow.toArray⟩) := hR 44 (by decide)
  have e45 : f 45 = (.pointer (some ⟨w.heap.size + 1, 2, none⟩)) := hR 45 (by decide)
  have e46 : f 46 = (.string ⟨tb.toArray⟩) := hR 46 (by decide)
  have e47 : f 47 = (.pointer (some ⟨w.heap.size + 1, 3, none⟩)) := hR 47 (by decide)
  have e48 : f 48 = (.int .u8 pv) := hR 48 (by decide)
  have e49 : f 49 = (.bool hr) := hR 49 (by decide)
  have e50 : f 50 = (.bool false) := hR 50 (by decide)
  have e51 : f 51 = (.bool false) := hR 51 (by decide)
  simp only [e0, e1, e2, e3, e4, e5, e6, e7, e8, e9, e10, e11, e12, e13, e14, e15, e16, e17, e18, e19, e20, e21, e22, e23, e24, e25, e26, e27, e28, e29, e30, e31, e32, e33, e34, e35, e36, e37, e38, e39, e40, e41, e42, e43, e44, e45, e46, e47, e48, e49, e50, e51]
  clear e0 e1 e2 e3 e4 e5 e6 e7 e8 e9 e10 e11 e12 e13 e14 e15 e16 e17 e18 e19 e20 e21 e22 e23 e24 e25 e26 e27 e28 e29 e30 e31 e32 e33 e34 e35 e36 e37 e38 e39 e40 e41 e42 e43 e44 e45 e46 e47 e48 e49 e50 e51 hR
  have hd := bel_drew hB11
  have B11 := Lib.hid (B7.out.trans (hd.mono B7.out.size))
  have B2L := Lib.hid (HB7.out.trans (hd.mono HB7.out.size))
  have O3b : Hid (w11.ownsRow w2.heap.size 30 5 (.slice A3 out1.length c3') out1.length (out1.flatMap EG)) := Lib.hid (O3.out.below B11.out)
  have O5b : Hid (w11.ownsRow w4.heap.size 30 5 (.slice A5 out6.length c5') out6.length (out6.flatMap EG)) := Lib.hid (O5.out.below B11.out)
  have Z3 : Hid (w2.heap.size ≤ w4.heap.size ∧ w4.heap.size ≤ w11.heap.size) := Lib.hid ⟨HB4.out.size, Nat.le_trans H46.out.size B11.out.size⟩
  clear hd hB11 R3 R4 R5 R6 O3 O5
  go_wp2_with fail
  go_loopw [21] (fun i wr => ∃ (j : Nat) (xs : List Value), j ≤ out1.length ∧ i = .int .i64 (j : Int) ∧ wr.ownsRow w2.heap.size 30 5 (.slice A3 out1.length c3') out1.length xs ∧ Off (fun k => w2.heap.size ≤ k ∧ k < w4.heap.size) w11 wr) (fun i _ => out1.length - (intOf i).toNat)
  case atStart => exact ⟨0, _, Nat.zero_le _, rfl, O3b.out, Off.refl _ _⟩
  case round =>
    clear O3b
    obtain ⟨j, xs, hj, rfl, how, hof⟩ := hrel
    have HOW := Lib.hid how
    have HOF := Lib.hid hof
    by_cases hlt : j < out1.length
    · have t1 : decide ((j : Int) < (out1.length : Int)) = true := decide_eq_true (by omega)
      have t2 : decide (j < out1.length) = true := decide_eq_true hlt
      have i0' : (0 : Int) ≤ (j : Int) := Int.natCast_nonneg _
      have i1' : (j : Int) < (out1.length : Int) := by omega
      obtain ⟨gq, cc, e, hbg, _⟩ := own_blockK how (by omega)
      cases e
      have hg4 := Nat.lt_of_lt_of_le (HLT3.out gq rfl).2 HW34.out
      obtain ⟨u, y0⟩ := own_cellK how (j := j * 5 + 2) (by omega)
      have f0 := own_frozen how (j * 5 + 2)
      have HN := Lib.hid (own_setK how (j * 5 + 2) (.string ⟨#[115, 112, 111, 105, 108, 116]⟩))
      have HOF2 := Lib.hid (hof.setCell (g := gq) (j := j * 5 + 2) (.string ⟨#[115, 112, 111, 105, 108, 116]⟩) ⟨hbg, hg4⟩)
      have hLb := HL3.out
      clear how hof
      go_wp2_with fail
      go_roundw
      case rel => exact ⟨j + 1, _, by omega, by go_num, HN.out, HOF2.out⟩
      case measure => simp [intOf]; omega
    · have hje : j = out1.length := by omega
      have t1 : decide ((j : Int) < (out1.length : Int)) = false := decide_eq_false (by omega)
      have t2 : decide (j < out1.length) = false := decide_eq_false (by omega)
      clear how hof hlt
      have O5c : Hid (wr.ownsRow w4.heap.size 30 5 (.slice A5 out6.length c5') out6.length (out6.flatMap EG)) := Lib.hid (ownsRow_off O5b.out HOF.out (fun k hk hS => by have := (World.ownsRow.lt O5b.out k hk).1; omega))
      have BXX := Lib.hid (HOF.out.below (fun k hk => hk.1) (Nat.le_trans Z3.out.1 Z3.out.2))
      have ZW : Hid (w4.heap.size ≤ wr.heap.size) := Lib.hid (Nat.le_trans Z3.out.2 HOF.out.size)
      clear HOW HOF O5b hje hj
      generalize hw12 : wr = w12 at *
      clear hw12
      go_wp2_with fail
      go_loopw [22] (fun i wr => ∃ (j : Nat) (xs : List Value), j ≤ out6.length ∧ i = .int .i64 (j : Int) ∧ wr.ownsRow w4.heap.size 30 5 (.slice A5 out6.length c5') out6.length xs ∧ Off (fun k => w4.heap.size ≤ k) w12 wr) (fun i _ => out6.length - (intOf i).toNat)
      case atStart => exact ⟨0, _, Nat.zero_le _, rfl, O5c.out, Off.refl _ _⟩
      case round =>
        clear O5c
        obtain ⟨j, xs, hj, rfl, how, hof⟩ := hrel
        have HOW := Lib.hid how
        have HOF := Lib.hid hof
        by_cases hlt : j < out6.length
        · have t1 : decide ((j : Int) < (out6.length : Int)) = true := decide_eq_true (by omega)
          have t2 : decide (j < out6.length) = true := decide_eq_true hlt
          have i0' : (0 : Int) ≤ (j : Int) := Int.natCast_nonneg _
          have i1' : (j : Int) < (out6.length : Int) := by omega
          obtain ⟨gq, cc, e, hbg, _⟩ := own_blockK how (by omega)
          cases e
          have hg4 := hbg
          obtain ⟨u, y0⟩ := own_cellK how (j := j * 5 + 2) (by omega)
          have f0 := own_frozen how (j * 5 + 2)
          have HN := Lib.hid (own_setK how (j * 5 + 2) (.string ⟨#[115, 112, 111, 105, 108, 116]⟩))
          have HOF2 := Lib.hid (hof.setCell (g := gq) (j := j * 5 + 2) (.string ⟨#[115, 112, 111, 105, 108, 116]⟩) hbg)
          have hLb := HL5.out
          clear how hof
          go_wp2_with fail
          go_roundw
          case rel => exact ⟨j + 1, _, by omega, by go_num, HN.out, HOF2.out⟩
          case measure => simp [intOf]; omega
        · have hje : j = out6.length := by omega
          have t1 : decide ((j : Int) < (out6.length : Int)) = false := decide_eq_false (by omega)
          have t2 : decide (j < out6.length) = false := decide_eq_false (by omega)
          clear how hof hlt
          have BY := Lib.hid (B2L.out.trans (BXX.out.trans (HOF.out.below (fun k hk => Nat.le_trans Z3.out.1 hk) (Nat.le_trans Z3.out.1 ZW.out))))
          clear HOW HOF hje hj
          go_wp2_with fail
          refine (SameGrants_any A52 A n c52 c l wr (HI2.out.below BY.out) (HS2.out.below BY.out) (by omega)).mono ?_
          rintro e w20 ⟨rfl, hb20⟩
          have B20 := Lib.hid (BY.out.trans (hb20.mono BY.out.size))
          have hcq := (B20.out.block _ HZQ.out).trans HCQ2.out
          obtain ⟨d0, d1, d2, d3⟩ := cells4 hcq
          clear hb20 hcq d1 d2 d3
          go_wp2_with fail
          refine (SameTexts_any A62 QA m c62 d cl w20 (HN2.out.below B20.out) (HQ2.out.below B20.out) (by omega)).mono ?_
          rintro e w21 ⟨rfl, hb21⟩
          have B21 := Lib.hid (B20.out.trans (hb21.mono B20.out.size))
          clear hb21 d0
          go_wp2_with fail
          refine (awake21_any w21).mono ?_
          rintro e w22 ⟨rfl, hb22⟩
          have B22 := Lib.hid (HB2.out.trans ((B21.out.trans (hb22.mono B21.out.size)).mono HB2.out.size))
          clear hb22
          go_wp2_with fail
          go_ret
          exact ⟨rfl, B22.out⟩
end Go.Proofs.Ytfgkadkmgciamaa
