/-
  roles.Sound.
-/
import Derived.Test.YtfgkadkmgciamaaRoQ
namespace Go.Proofs.Ytfgkadkmgciamaa
open Go Go.RowKit Go.Maps Go.WideMaps

def FitT (t : List Tb) : Prop := ∀ x ∈ t, x.2.1.length ≤ maxLen
/-- A grant's table stands, and whoever gave it holds it. -/
def OkG (l : List Gr) (t : List Tb) (g : Gr) : Prop := ∃ (k : Nat) (x : Tb), t[k]? = some x ∧ x.1 = g.tb ∧ (∀ (j : Nat) (y : Tb), j < k → t[j]? = some y → y.1 ≠ g.tb) ∧ Held l x.2.1 g.tb g.pv g.gb
def SoundP (l : List Gr) (t : List Tb) (r : Bool) : Prop := r = true ↔ ∀ g ∈ l, OkG l t g
theorem SoundP.unique {l : List Gr} {t : List Tb} {a b : Bool} (ha : SoundP l t a) (hb : SoundP l t b) : a = b := Bool.eq_iff_iff.2 (Iff.trans ha hb.symm)
theorem egSound : ∀ args w, (callFunc 33 args).run Try.prog w = .ok (.enter 33 args) w := enters_of Try.func33 (by kernel_rfl) rfl

set_option maxRecDepth 100000 in
set_option maxHeartbeats 2000000 in
theorem soundC (g : Gr) (bg : Nat) (x : Tb) (w : World) (y : w.cell? ⟨bg, 0, none⟩ = some (.string ⟨g.tb.toArray⟩)) :
    Calls Try.prog 33 #[.agg #[.string ⟨x.1.toArray⟩, .string ⟨x.2.1.toArray⟩, .slice x.2.2.1 x.2.2.2.1 x.2.2.2.2], .pointer (some ⟨bg, 0, none⟩)] w fun e w' => e = .returned (.bool (x.1 == g.tb)) ∧ Below w.heap.size w w' := by
  have HA := Lib.hid (gr_alloc (gr_refl w) (.cells #[.string ⟨x.1.toArray⟩, .string ⟨x.2.1.toArray⟩, .slice x.2.2.1 x.2.2.2.1 x.2.2.2.2] 35))
  have HCA := Lib.hid (heap_alloc_new w (.cells #[.string ⟨x.1.toArray⟩, .string ⟨x.2.1.toArray⟩, .slice x.2.2.1 x.2.2.2.1 x.2.2.2.2] 35))
  obtain ⟨r0, hr0⟩ : ∃ r, r = (x.1 == g.tb) := ⟨_, rfl⟩
  rw [← hr0]
  have t0 : (x.1 == g.tb) = r0 := hr0.symm
  clear hr0
  go_enter Try.func33, Try.ntmps33
  go_upto_region 1 with fail
  generalize w.alloc (.cells #[.string ⟨x.1.toArray⟩, .string ⟨x.2.1.toArray⟩, .slice x.2.2.1 x.2.2.2.1 x.2.2.2.2] 35) = w1 at *
  have c0 : w1.cell? ⟨w.heap.size, 0, none⟩ = some (.string ⟨x.1.toArray⟩) := by rw [cell_of_row w1 _ 0 _ _ _ HCA.out]; rfl
  have y := keep_of_below HA.out y
  cases r0
  all_goals
    go_wp2_with fail
    go_ret
    exact ⟨rfl, HA.out⟩

/-- A map of those that hold. -/
def MP.ms (H : Str → Prop) : MP := ⟨fun v w => ∃ b ks, v = .map (some b) ∧ MS w b ks ∧ ∀ x, x ∈ ks ↔ H x, fun _ _ _ hb h => by
  obtain ⟨b, ks, e, h1, h2⟩ := h
  exact ⟨b, ks, e, h1.below hb, h2⟩⟩
def MP.tp (r : Bool) : MP := ⟨fun v _ => ∃ cv, v = .tuple #[.int .i64 cv, .bool r], fun _ _ _ _ h => h⟩

set_option maxRecDepth 100000 in
set_option maxHeartbeats 4000000 in
theorem Sound_any (A B : Option Addr) (n c m d : Nat) (l : List Gr) (t : List Tb) (w : World) (h : ER EG 5 w A n l) (ht : ER ET 3 w B m t) (hn : n ≤ 2199023255552) (hm : m ≤ 9223372036854775807) (hf : FitG l) (hft : FitT t) :
    Calls Try.prog 8 #[.slice A n c, .slice B m d] w fun e w' => ∃ r, e = .returned (.bool r) ∧ SoundP l t r ∧ Below w.heap.size w w' := by
  have HS := Lib.hid h
  have HT := Lib.hid ht
  have HL := Lib.hid h.1
  have HTL := Lib.hid ht.1
  have HF := Lib.hid hf
  have HFT := Lib.hid hft
  clear h ht hf hft
  go_enter Try.func8, Try.ntmps8
  go_wp2_with fail
  go_loopw [6, 7, 8, 9, 12] (fun _ _ _ _ i wr => ∃ (j : Nat), j ≤ n ∧ i = .int .i64 (j : Int) ∧ Below w.heap.size w wr ∧ Hid (∀ g ∈ l.take j, OkG l t g)) (fun _ _ _ _ i _ => n - (intOf i).toNat)
  case atStart => exact ⟨0, Nat.zero_le _, rfl, gr_refl w, Lib.hid (fun g hg => by simp at hg)⟩
  case round =>
    obtain ⟨j, hj, rfl, hb, HOK⟩ := hrel
    have HB := Lib.hid hb
    by_cases hlt : j < n
    · have t1 : decide ((j : Int) < (n : Int)) = true := decide_eq_true (by omega)
      have t2 : decide (j < n) = true := decide_eq_true hlt
      have i0' : (0 : Int) ≤ (j : Int) := Int.natCast_nonneg _
      have i1' : (j : Int) < (n : Int) := by omega
      obtain ⟨ga, o, g, rfl, hx, q0, q1, q2, q3, q4⟩ := (HS.out.below hb).atGr hlt
      have HX := Lib.hid hx
      have HXM := Lib.hid (List.mem_of_getElem? hx)
      have hba := gr_alloc (gr_refl wr) (.cells #[.string ⟨g.tb.toArray⟩, .int .u8 g.pv, .string ⟨g.gt.toArray⟩, .string ⟨g.gb.toArray⟩, .bool g.op] 30)
      have hca : (wr.alloc (.cells #[.string ⟨g.tb.toArray⟩, .int .u8 g.pv, .string ⟨g.gt.toArray⟩, .string ⟨g.gb.toArray⟩, .bool g.op] 30)).heap[wr.heap.size]? = some (.cells #[.string ⟨g.tb.toArray⟩, .int .u8 g.pv, .string ⟨g.gt.toArray⟩, .string ⟨g.gb.toArray⟩, .bool g.op] 30 (0, 0)) := heap_alloc_new wr _
      have HB3 := Lib.hid (hb.trans (hba.mono hb.size))
      clear hx hb hba
      go_upto_region 4 with fail
      generalize wr.alloc (.cells #[.string ⟨g.tb.toArray⟩, .int .u8 g.pv, .string ⟨g.gt.toArray⟩, .string ⟨g.gb.toArray⟩, .bool g.op] 30) = w3 at *
      clear q0 q1 q2 q3 q4
      have HC3 := Lib.hid hca
      clear hca
      have HIX := Lib.hid (IndexFuncTb_any 33 #[.pointer (some ⟨wr.heap.size, 0, none⟩)] egSound (fun x => x.1 == g.tb) B m d t w3 (HT.out.below HB3.out) hm (fun W x _ hW => by
        refine (soundC g wr.heap.size x W (keep_of_below hW (cells5 HC3.out).1)).mono ?_
        rintro e w' ⟨rfl, hb⟩
        exact ⟨rfl, hW.trans (hb.mono hW.size)⟩))
      go_wp2_with fail
      refine HIX.out.mono ?_
      rintro e w4 ⟨r, rfl, hidx, hb4⟩
      have HIDX := Lib.hid hidx
      have HB4 := Lib.hid (HB3.out.trans (hb4.mono HB3.out.size))
      have HC4 := Lib.hid ((hb4.block _ (Array.getElem?_eq_some_iff.1 HC3.out).1).trans HC3.out)
      clear hidx hb4 HIX
      rcases HIDX.out with ⟨rfl, hno⟩ | ⟨k, x, rfl, hxt, hpx, hbef⟩
      · have HNO : Hid (¬ OkG l t g) := Lib.hid (by
          rintro ⟨k, x, h1, h2, _⟩
          have h3 : (x.1 == g.tb) = false := hno x (List.mem_of_getElem? h1)
          rw [h2] at h3
          simp at h3)
        clear hno
        go_wp2_with fail
        go_ret
        exact ⟨false, rfl, ⟨fun h => (by cases h), fun h => absurd (h g HXM.out) HNO.out⟩, HB4.out⟩
      · have hkm : k < m := by rw [← HTL.out]; exact (List.getElem?_eq_some_iff.1 hxt).1
        have t9 : decide ((k : Int) < 0) = false := decide_eq_false (by omega)
        have k0' : (0 : Int) ≤ (k : Int) := Int.natCast_nonneg _
        have k1' : (k : Int) < (m : Int) := by omega
        obtain ⟨gt, ot, x2, rfl, hx2, y0, y1, y2⟩ := (HT.out.below HB4.out).atTb hkm
        obtain rfl : x = x2 := by rw [hxt] at hx2; injection hx2
        obtain ⟨r, hr⟩ : ∃ r : Bool, r = true ↔ Held l x.2.1 g.tb g.pv g.gb := by
          by_cases hh : Held l x.2.1 g.tb g.pv g.gb
          · exact ⟨true, by simp [hh]⟩
          · exact ⟨false, by simp [hh]⟩
        have HR := Lib.hid hr
        have HXT := Lib.hid hxt
        have HPX := Lib.hid hpx
        have HBF := Lib.hid hbef
        have Y1 := Lib.hid y1
        obtain ⟨c0, c1, c2, c3, c4⟩ := cells5 HC4.out
        have D0 := Lib.hid c0
        have D1 := Lib.hid c1
        have D3 := Lib.hid c3
        clear hr hxt hpx hbef y0 y1 y2 c0 c1 c2 c3 c4 hx2
        go_upto_region 7 with fail
        refine' wp_region_mono (by kernel_rfl) (by kernel_rfl) (by kernel_rfl) (by kernel_rfl) (by kernel_rfl) (by kernel_rfl)
          [MP.is (.slice (some ⟨ga, o, none⟩) n c), MP.is (.slice (some ⟨gt, ot, none⟩) m d), MP.is (.int .i64 (k : Int)), MP.is (.pointer (some ⟨gt, ot + k * 3, none⟩)), MP.is (.pointer (some ⟨gt, ot + k * 3 + 1, none⟩)), MP.is (.string ⟨x.2.1.toArray⟩), MP.is (.pointer (some ⟨wr.heap.size, 0, none⟩)), MP.is (.string ⟨g.tb.toArray⟩), MP.is (.pointer (some ⟨wr.heap.size, 1, none⟩)), MP.is (.int .u8 g.pv), MP.ms (Held l x.2.1 g.tb g.pv), MP.is (.pointer (some ⟨wr.heap.size, 3, none⟩)), MP.is (.string ⟨g.gb.toArray⟩), MP.tp r, MP.tp r, MP.any, MP.is (.bool r), MP.any, MP.is (.bool r)] ?hAA1 ?hst1 ?hend1
        case hAA1 =>
          intro f
          conv => lhs; simp only [putA, dstOf, List.size_toArray, List.length_cons, List.length_nil, Nat.zero_add, Nat.reduceAdd, List.getElem?_toArray, List.getElem?_cons_zero, List.getElem?_cons_succ, Option.bind_some, Act.put, List.setIfInBounds_toArray, List.set_cons_zero, List.set_cons_succ]
          first | done | exact rfl
        case hst1 =>
          change Steps _ _ _ _ _ [0, 1, 2, 3, 4, 5, 6, 7, 8, 9, 10, 11, 12, 13, 14, 15, 16, 17, 18]
          refine Steps.cons rfl ?_ ?_
          · intro f wz hB h K Q hK
            try simp only [List.getElem_toArray, List.getElem_cons_zero]
            go_simp
            exact hK _ _ (gr_refl _) rfl
          refine Steps.cons rfl ?_ ?_
          · intro f wz hB h K Q hK
            try simp only [List.getElem_toArray, List.getElem_cons_succ, List.getElem_cons_zero]
            go_simp
            exact hK _ _ (gr_refl _) rfl
          refine Steps.cons rfl ?_ ?_
          · intro f wz hB h K Q hK
            try simp only [List.getElem_toArray, List.getElem_cons_succ, List.getElem_cons_zero]
            go_simp
            exact hK _ _ (gr_refl _) rfl
          refine Steps.cons rfl ?_ ?_
          · intro f wz hB h K Q hK
            have h1 : (MP.is (.slice (some ⟨gt, ot, none⟩) m d)).p (f 1) wz := h 1 (by kernel_rfl)
            have e1 : f 1 = (.slice (some ⟨gt, ot, none⟩) m d) := h1
            have h2 : (MP.is (.int .i64 (k : Int))).p (f 2) wz := h 2 (by kernel_rfl)
            have e2 : f 2 = (.int .i64 (k : Int)) := h2
            simp only [e1, e2] at hK ⊢
            clear e1 e2
            try simp only [List.getElem_toArray, List.getElem_cons_succ, List.getElem_cons_zero]
            go_simp
            exact hK _ _ (gr_refl _) rfl
          refine Steps.cons rfl ?_ ?_
          · intro f wz hB h K Q hK
            have h3 : (MP.is (.pointer (some ⟨gt, ot + k * 3, none⟩))).p (f 3) wz := h 3 (by kernel_rfl)
            have e3 : f 3 = (.pointer (some ⟨gt, ot + k * 3, none⟩)) := h3
            simp only [e3] at hK ⊢
            clear e3
            try simp only [List.getElem_toArray, List.getElem_cons_succ, List.getElem_cons_zero]
            go_simp
            exact hK _ _ (gr_refl _) rfl
          refine Steps.cons rfl ?_ ?_
          · intro f wz hB h K Q hK
            have h4 : (MP.is (.pointer (some ⟨gt, ot + k * 3 + 1, none⟩))).p (f 4) wz := h 4 (by kernel_rfl)
            have e4 : f 4 = (.pointer (some ⟨gt, ot + k * 3 + 1, none⟩)) := h4
            simp only [e4] at hK ⊢
            clear e4
            try simp only [List.getElem_toArray, List.getElem_cons_succ, List.getElem_cons_zero]
            have y0 := keep_of_below (bel_drew hB) Y1.out
            have y1 := keep_of_below (bel_drew hB) D0.out
            have y2 := keep_of_below (bel_drew hB) D1.out
            have y3 := keep_of_below (bel_drew hB) D3.out
            go_simp
            exact hK _ _ (gr_refl _) rfl
          refine Steps.cons rfl ?_ ?_
          · intro f wz hB h K Q hK
            try simp only [List.getElem_toArray, List.getElem_cons_succ, List.getElem_cons_zero]
            go_simp
            exact hK _ _ (gr_refl _) rfl
          refine Steps.cons rfl ?_ ?_
          · intro f wz hB h K Q hK
            have h6 : (MP.is (.pointer (some ⟨wr.heap.size, 0, none⟩))).p (f 6) wz := h 6 (by kernel_rfl)
            have e6 : f 6 = (.pointer (some ⟨wr.heap.size, 0, none⟩)) := h6
            simp only [e6] at hK ⊢
            clear e6
            try simp only [List.getElem_toArray, List.getElem_cons_succ, List.getElem_cons_zero]
            have y0 := keep_of_below (bel_drew hB) Y1.out
            have y1 := keep_of_below (bel_drew hB) D0.out
            have y2 := keep_of_below (bel_drew hB) D1.out
            have y3 := keep_of_below (bel_drew hB) D3.out
            go_simp
            exact hK _ _ (gr_refl _) rfl
          refine Steps.cons rfl ?_ ?_
          · intro f wz hB h K Q hK
            try simp only [List.getElem_toArray, List.getElem_cons_succ, List.getElem_cons_zero]
            go_simp
            exact hK _ _ (gr_refl _) rfl
          refine Steps.cons rfl ?_ ?_
          · intro f wz hB h K Q hK
            have h8 : (MP.is (.pointer (some ⟨wr.heap.size, 1, none⟩))).p (f 8) wz := h 8 (by kernel_rfl)
            have e8 : f 8 = (.pointer (some ⟨wr.heap.size, 1, none⟩)) := h8
            simp only [e8] at hK ⊢
            clear e8
            try simp only [List.getElem_toArray, List.getElem_cons_succ, List.getElem_cons_zero]
            have y0 := keep_of_below (bel_drew hB) Y1.out
            have y1 := keep_of_below (bel_drew hB) D0.out
            have y2 := keep_of_below (bel_drew hB) D1.out
            have y3 := keep_of_below (bel_drew hB) D3.out
            go_simp
            exact hK _ _ (gr_refl _) rfl
          refine Steps.cons rfl ?_ ?_
          · intro f wz hB h K Q hK
            have h0 : (MP.is (.slice (some ⟨ga, o, none⟩) n c)).p (f 0) wz := h 0 (by kernel_rfl)
            have e0 : f 0 = (.slice (some ⟨ga, o, none⟩) n c) := h0
            have h5 : (MP.is (.string ⟨x.2.1.toArray⟩)).p (f 5) wz := h 5 (by kernel_rfl)
            have e5 : f 5 = (.string ⟨x.2.1.toArray⟩) := h5
            have h7 : (MP.is (.string ⟨g.tb.toArray⟩)).p (f 7) wz := h 7 (by kernel_rfl)
            have e7 : f 7 = (.string ⟨g.tb.toArray⟩) := h7
            have h9 : (MP.is (.int .u8 g.pv)).p (f 9) wz := h 9 (by kernel_rfl)
            have e9 : f 9 = (.int .u8 g.pv) := h9
            simp only [e0, e5, e7, e9] at hK ⊢
            clear e0 e5 e7 e9
            try simp only [List.getElem_toArray, List.getElem_cons_succ, List.getElem_cons_zero]
            go_simp
            refine (givers_any (some ⟨ga, o, none⟩) n c l x.2.1 g.tb g.pv wz (HS.out.below (HB4.out.trans ((bel_drew hB).mono HB4.out.size))) (by omega) HF.out (HFT.out x (List.mem_of_getElem? HXT.out))).mono ?_
            rintro e w5 ⟨b5, ks5, rfl, hms5, _, hks5, hb5⟩
            exact hK _ _ hb5 ⟨b5, ks5, rfl, hms5, hks5⟩
          refine Steps.cons rfl ?_ ?_
          · intro f wz hB h K Q hK
            try simp only [List.getElem_toArray, List.getElem_cons_succ, List.getElem_cons_zero]
            go_simp
            exact hK _ _ (gr_refl _) rfl
          refine Steps.cons rfl ?_ ?_
          · intro f wz hB h K Q hK
            have h11 : (MP.is (.pointer (some ⟨wr.heap.size, 3, none⟩))).p (f 11) wz := h 11 (by kernel_rfl)
            have e11 : f 11 = (.pointer (some ⟨wr.heap.size, 3, none⟩)) := h11
            simp only [e11] at hK ⊢
            clear e11
            try simp only [List.getElem_toArray, List.getElem_cons_succ, List.getElem_cons_zero]
            have y0 := keep_of_below (bel_drew hB) Y1.out
            have y1 := keep_of_below (bel_drew hB) D0.out
            have y2 := keep_of_below (bel_drew hB) D1.out
            have y3 := keep_of_below (bel_drew hB) D3.out
            go_simp
            exact hK _ _ (gr_refl _) rfl
          refine Steps.cons rfl ?_ ?_
          · intro f wz hB h K Q hK
            have h10 : (MP.ms (Held l x.2.1 g.tb g.pv)).p (f 10) wz := h 10 (by kernel_rfl)
            obtain ⟨b10, ks10, e10, q10, r10⟩ := h10
            have h12 : (MP.is (.string ⟨g.gb.toArray⟩)).p (f 12) wz := h 12 (by kernel_rfl)
            have e12 : f 12 = (.string ⟨g.gb.toArray⟩) := h12
            simp only [e10, e12] at hK ⊢
            clear e10 e12
            try simp only [List.getElem_toArray, List.getElem_cons_succ, List.getElem_cons_zero]
            obtain ⟨cv, hlk⟩ := q10.look g.gb (HF.out g HXM.out).2
            have ec : ks10.contains g.gb = r := Bool.eq_iff_iff.2 (by rw [List.contains_iff_mem, r10 g.gb]; exact HR.out.symm)
            rw [ec] at hlk
            go_simp
            exact hK _ _ (gr_refl _) ⟨cv, rfl⟩
          refine Steps.cons rfl ?_ ?_
          · intro f wz hB h K Q hK
            have h13 : (MP.tp r).p (f 13) wz := h 13 (by kernel_rfl)
            obtain ⟨cv13, e13⟩ := h13
            simp only [e13] at hK ⊢
            clear e13
            try simp only [List.getElem_toArray, List.getElem_cons_succ, List.getElem_cons_zero]
            go_simp
            exact hK _ _ (gr_refl _) ⟨_, rfl⟩
          refine Steps.cons rfl ?_ ?_
          · intro f wz hB h K Q hK
            have h14 : (MP.tp r).p (f 14) wz := h 14 (by kernel_rfl)
            obtain ⟨cv14, e14⟩ := h14
            simp only [e14] at hK ⊢
            clear e14
            try simp only [List.getElem_toArray, List.getElem_cons_succ, List.getElem_cons_zero]
            go_simp
            exact hK _ _ (gr_refl _) trivial
          refine Steps.cons rfl ?_ ?_
          · intro f wz hB h K Q hK
            have h14 : (MP.tp r).p (f 14) wz := h 14 (by kernel_rfl)
            obtain ⟨cv14, e14⟩ := h14
            simp only [e14] at hK ⊢
            clear e14
            try simp only [List.getElem_toArray, List.getElem_cons_succ, List.getElem_cons_zero]
            go_simp
            exact hK _ _ (gr_refl _) rfl
          refine Steps.cons rfl ?_ ?_
          · intro f wz hB h K Q hK
            have h15 : (MP.any).p (f 15) wz := h 15 (by kernel_rfl)
            try simp only [List.getElem_toArray, List.getElem_cons_succ, List.getElem_cons_zero]
            go_simp
            exact hK _ _ (gr_refl _) trivial
          refine Steps.cons rfl ?_ ?_
          · intro f wz hB h K Q hK
            have h16 : (MP.is (.bool r)).p (f 16) wz := h 16 (by kernel_rfl)
            have e16 : f 16 = (.bool r) := h16
            simp only [e16] at hK ⊢
            clear e16
            try simp only [List.getElem_toArray, List.getElem_cons_succ, List.getElem_cons_zero]
            go_simp
            exact hK _ _ (gr_refl _) rfl
          exact Steps.nil
        intro f w5 hB5 hR
        have e0 : f 0 = (.slice (some ⟨ga, o, none⟩) n c) := hR 0 (by decide)
        have e1 : f 1 = (.slice (some ⟨gt, ot, none⟩) m d) := hR 1 (by decide)
        have e2 : f 2 = (.int .i64 (k : Int)) := hR 2 (by decide)
        have e3 : f 3 = (.pointer (some ⟨gt, ot + k * 3, none⟩)) := hR 3 (by decide)
        have e4 : f 4 = (.pointer (some ⟨gt, ot + k * 3 + 1, none⟩)) := hR 4 (by decide)
        have e5 : f 5 = (.string ⟨x.2.1.toArray⟩) := hR 5 (by decide)
        have e6 : f 6 = (.pointer (some ⟨wr.heap.size, 0, none⟩)) := hR 6 (by decide)
        have e7 : f 7 = (.string ⟨g.tb.toArray⟩) := hR 7 (by decide)
        have e8 : f 8 = (.pointer (some ⟨wr.heap.size, 1, none⟩)) := hR 8 (by decide)
        have e9 : f 9 = (.int .u8 g.pv) := hR 9 (by decide)
        obtain ⟨b105, ks105, e10, q105, r105⟩ := (show (MP.ms (Held l x.2.1 g.tb g.pv)).p (f 10) w5 from hR 10 (by decide))
        have e11 : f 11 = (.pointer (some ⟨wr.heap.size, 3, none⟩)) := hR 11 (by decide)
        have e12 : f 12 = (.string ⟨g.gb.toArray⟩) := hR 12 (by decide)
        obtain ⟨cv135, e13⟩ := (show (MP.tp r).p (f 13) w5 from hR 13 (by decide))
        obtain ⟨cv145, e14⟩ := (show (MP.tp r).p (f 14) w5 from hR 14 (by decide))
        generalize f 15 = x155
        have e16 : f 16 = (.bool r) := hR 16 (by decide)
        generalize f 17 = x175
        have e18 : f 18 = (.bool r) := hR 18 (by decide)
        simp only [e0, e1, e2, e3, e4, e5, e6, e7, e8, e9, e10, e11, e12, e13, e14, e16, e18]
        clear e0 e1 e2 e3 e4 e5 e6 e7 e8 e9 e10 e11 e12 e13 e14 e16 e18 hR
        have HB5 := Lib.hid (HB4.out.trans ((bel_drew hB5).mono HB4.out.size))
        clear hB5
        cases r
        · have HNO : Hid (¬ OkG l t g) := Lib.hid (by
            rintro ⟨k2, x2, h1, h2, h3, h4⟩
            have e0 : x.1 = g.tb := beq_iff_eq.1 HPX.out
            have ek : k2 = k := by
              rcases Nat.lt_trichotomy k2 k with hh | hh | hh
              · have h5 : (x2.1 == g.tb) = false := HBF.out k2 x2 hh h1
                rw [h2] at h5
                simp at h5
              · exact hh
              · exact absurd e0 (h3 k x hh HXT.out)
            rw [ek, HXT.out] at h1
            injection h1 with h1
            rw [← h1] at h4
            exact absurd (HR.out.2 h4) (by decide))
          go_wp2_with fail
          go_ret
          exact ⟨false, rfl, ⟨fun h => (by cases h), fun h => absurd (h g HXM.out) HNO.out⟩, HB5.out⟩
        · have HYES : Hid (OkG l t g) := Lib.hid ⟨k, x, HXT.out, beq_iff_eq.1 HPX.out, fun j y hj hy => beq_eq_false_iff_ne.1 (HBF.out j y hj hy), HR.out.1 rfl⟩
          go_wp2_with fail
          go_roundw
          case rel => exact ⟨j + 1, by omega, by go_num, HB5.out, Lib.hid (fun g2 hg2 => by
            rw [take_snoc HX.out] at hg2
            rcases List.mem_append.1 hg2 with hg2 | hg2
            · exact HOK.out g2 hg2
            · rw [List.mem_singleton.1 hg2]
              exact HYES.out)⟩
          case measure => simp [intOf]; omega
    · obtain rfl : j = n := by omega
      have t1 : decide ((j : Int) < (j : Int)) = false := decide_eq_false (by omega)
      have HALL : Hid (∀ g ∈ l, OkG l t g) := Lib.hid (by have := HOK.out; rwa [List.take_of_length_le (by rw [HL.out]; omega)] at this)
      clear hb
      go_wp2_with fail
      go_ret
      exact ⟨true, rfl, ⟨fun _ => HALL.out, fun _ => rfl⟩, HB.out⟩

end Go.Proofs.Ytfgkadkmgciamaa
