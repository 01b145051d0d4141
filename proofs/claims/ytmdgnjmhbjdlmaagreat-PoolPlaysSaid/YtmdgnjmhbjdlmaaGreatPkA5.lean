/-
  Texts of this claim, joined: DpE, DpF, DpG, DpH, DpI, DpJ, DpK, RefA, RefB, StD, StE, PrA, PrB. No statement of the program is proved here.
-/
import Derived.Test.YtmdgnjmhbjdlmaaGreatPkA4
import Derived.Test.YtmdgnjmhbjdlmaaGreatPkA2
import Derived.Test.YtmdgnjmhbjdlmaaGreatPkA1
import Derived.Lib.AppendZerosOnto
/-! DpE -/
namespace Go.Proofs.YtmdgnjmhbjdlmaaGreat
open Go.RowKit
theorem opV_down (bA wA : Option Addr) (bn bc wn wc : Nat) (po fa wi : Int) (w : World) :
  Calls Tryz.prog 88 #[.agg #[.slice bA bn bc, .slice wA wn wc, .bool true, .int .i64 po, .int .i64 fa, .int .i64 wi]] w fun e w' => e = .returned (.tuple #[.agg #[.slice bA bn bc, .slice wA wn wc, .bool true, .int .i64 po, .int .i64 fa, .int .i64 wi], .int .i64 6]) ∧ Below w.heap.size w w' := by
 have HT := Lib.hid (two6 w (.slice bA bn bc) (.slice wA wn wc) (.bool true) (.int .i64 po) (.int .i64 fa) (.int .i64 wi))
 go_enter Tryz.func88, Tryz.ntmps88
 go_upto_region 1 with fail
 obtain ⟨x1, x2, hb⟩ := HT.out _ rfl
 generalize (w.alloc (.cells #[.slice bA bn bc, .slice wA wn wc, .bool true, .int .i64 po, .int .i64 fa, .int .i64 wi] 33)).alloc (.cells #[.slice none 0 0, .slice none 0 0, .bool false, .int .i64 0, .int .i64 0, .int .i64 0] 33) = w1 at *
 have y0 := x1.c0
 have y1 := x1.c1
 have y2 := x1.c2
 have y3 := x1.c3
 have y4 := x1.c4
 have y5 := x1.c5
 have r0 := x2.c0
 have r1 := x2.c1
 have r2 := x2.c2
 have r3 := x2.c3
 have r4 := x2.c4
 have r5 := x2.c5
 have f0 := x2.fz 0
 have f1 := x2.fz 1
 have f2 := x2.fz 2
 have f3 := x2.fz 3
 have f4 := x2.fz 4
 have f5 := x2.fz 5
 have HS := Lib.hid (set6 x2 (.slice bA bn bc) (.slice wA wn wc) (.bool true) (.int .i64 po) (.int .i64 fa) (.int .i64 wi) hb (by omega))
 go_wp2_with fail
 clear r0 f0 r1 f1 r2 f2 r3 f3 r4 f4 r5 f5
 obtain ⟨s1, s2⟩ := HS.out _ rfl
 clear HS
 generalize ((((((w1.setCell ⟨w.heap.size + 1, 0, none⟩ (.slice bA bn bc)).setCell ⟨w.heap.size + 1, 1, none⟩ (.slice wA wn wc)).setCell ⟨w.heap.size + 1, 2, none⟩ (.bool true)).setCell ⟨w.heap.size + 1, 3, none⟩ (.int .i64 po)).setCell ⟨w.heap.size + 1, 4, none⟩ (.int .i64 fa)).setCell ⟨w.heap.size + 1, 5, none⟩ (.int .i64 wi)) = wf at *
 have z0 := s1.c0
 have z1 := s1.c1
 have z2 := s1.c2
 have z3 := s1.c3
 have z4 := s1.c4
 have z5 := s1.c5
 refine bodyPost_ret (v := .tuple #[.agg #[.slice bA bn bc, .slice wA wn wc, .bool true, .int .i64 po, .int .i64 fa, .int .i64 wi], .int .i64 (6)]) (by simp [results, Tryz.results88, go_sem, z0, z1, z2, z3, z4, z5]) rfl ?_
 exact ⟨rfl, s2⟩
set_option maxRecDepth 100000 in
set_option maxHeartbeats 4000000 in
theorem opV_up (bA wA : Option Addr) (bn bc wn wc : Nat) (po fa wi : Int) (w : World) (p1 : -1 ≤ po) (p2 : po ≤ 9223372036854775807) (f1 : -1 ≤ fa) (f2 : fa ≤ 9223372036854775807) :
  Calls Tryz.prog 88 #[.agg #[.slice bA bn bc, .slice wA wn wc, .bool false, .int .i64 po, .int .i64 fa, .int .i64 wi]] w fun e w' => e = .returned (.tuple #[.agg #[.slice bA bn bc, .slice wA wn wc, .bool (opD false po), .int .i64 (opL false po), .int .i64 (opL false fa), .int .i64 wi], .int .i64 (opE false po fa wi)]) ∧ Below w.heap.size w w' := by
 have HT := Lib.hid (two6 w (.slice bA bn bc) (.slice wA wn wc) (.bool false) (.int .i64 po) (.int .i64 fa) (.int .i64 wi))
 obtain hpo | hpo | hpo : po = -1 ∨ po = 0 ∨ 0 < po := by omega
 ·obtain hfa | hfa | hfa : fa = -1 ∨ fa = 0 ∨ 0 < fa := by omega
  ·have a1 : (po == 0) = false := by exact beq_eq_false_iff_ne.2 (by omega)
   have a2 : decide (0 ≤ po) = false := decide_eq_false (by omega)
   have b1 : (fa == 0) = false := by exact beq_eq_false_iff_ne.2 (by omega)
   have b2 : decide (0 ≤ fa) = false := decide_eq_false (by omega)
   have HE : Hid (opE false po fa wi = 0 ∧ opD false po = false ∧ opL false po = po ∧ opL false fa = fa) := Lib.hid (by
    unfold opE opD opL stB stL
    rw [a1, b1]
    simp
    omega)
   have PB := Lib.hid (And.intro p1 (And.intro p2 (And.intro f1 f2)))
   clear hpo hfa
   go_enter Tryz.func88, Tryz.ntmps88
   go_upto_region 1 with fail
   obtain ⟨x1, x2, hb⟩ := HT.out _ rfl
   generalize (w.alloc (.cells #[.slice bA bn bc, .slice wA wn wc, .bool false, .int .i64 po, .int .i64 fa, .int .i64 wi] 33)).alloc (.cells #[.slice none 0 0, .slice none 0 0, .bool false, .int .i64 0, .int .i64 0, .int .i64 0] 33) = w1 at *
   have y0 := x1.c0
   have y1 := x1.c1
   have y2 := x1.c2
   have y3 := x1.c3
   have y4 := x1.c4
   have y5 := x1.c5
   clear HT
   go_upto_region 3 with fail
   go_quiet (fail)
   have x1 := x1.below (gr_drewN (gr_refl w1) nq)
   have x2 := x2.below (gr_drewN (gr_refl w1) nq)
   have hb := gr_drewN hb nq
   clear y0 y1 y2 y3 y4 y5
   generalize w1.drewN nq = w2 at *
   have y3 := x1.c3
   go_upto_region 6 with fail
   clear y3
   have y4 := x1.c4
   go_upto_region 8 with fail
   clear y4
   have y0 := x1.c0
   have y1 := x1.c1
   have y2 := x1.c2
   have y3 := x1.c3
   have y4 := x1.c4
   have y5 := x1.c5
   have r0 := x2.c0
   have r1 := x2.c1
   have r2 := x2.c2
   have r3 := x2.c3
   have r4 := x2.c4
   have r5 := x2.c5
   have f0 := x2.fz 0
   have f1 := x2.fz 1
   have f2 := x2.fz 2
   have f3 := x2.fz 3
   have f4 := x2.fz 4
   have f5 := x2.fz 5
   have HS := Lib.hid (set6 x2 (.slice bA bn bc) (.slice wA wn wc) (.bool false) (.int .i64 po) (.int .i64 fa) (.int .i64 wi) hb (by omega))
   go_wp2_with fail
   clear r0 f0 r1 f1 r2 f2 r3 f3 r4 f4 r5 f5
   obtain ⟨s1, s2⟩ := HS.out _ rfl
   clear HS
   generalize ((((((w2.setCell ⟨w.heap.size + 1, 0, none⟩ (.slice bA bn bc)).setCell ⟨w.heap.size + 1, 1, none⟩ (.slice wA wn wc)).setCell ⟨w.heap.size + 1, 2, none⟩ (.bool false)).setCell ⟨w.heap.size + 1, 3, none⟩ (.int .i64 po)).setCell ⟨w.heap.size + 1, 4, none⟩ (.int .i64 fa)).setCell ⟨w.heap.size + 1, 5, none⟩ (.int .i64 wi)) = wf at *
   have z0 := s1.c0
   have z1 := s1.c1
   have z2 := s1.c2
   have z3 := s1.c3
   have z4 := s1.c4
   have z5 := s1.c5
   refine bodyPost_ret (v := .tuple #[.agg #[.slice bA bn bc, .slice wA wn wc, .bool false, .int .i64 po, .int .i64 fa, .int .i64 wi], .int .i64 (0)]) (by simp [results, Tryz.results88, go_sem, z0, z1, z2, z3, z4, z5]) rfl ?_
   obtain ⟨h1, h2, h3, h4⟩ := HE.out
   rw [h1, h2, h3, h4]
   exact ⟨rfl, s2⟩
  ·have a1 : (po == 0) = false := by exact beq_eq_false_iff_ne.2 (by omega)
   have a2 : decide (0 ≤ po) = false := decide_eq_false (by omega)
   have b1 : (fa == 0) = true := by rw [hfa]; rfl
   have b2 : decide (0 ≤ fa) = true := decide_eq_true (by omega)
   have HE : Hid (opE false po fa wi = wi ∧ opD false po = false ∧ opL false po = po ∧ opL false fa = fa - 1) := Lib.hid (by
    unfold opE opD opL stB stL
    rw [a1, b1]
    simp
    omega)
   have PB := Lib.hid (And.intro p1 (And.intro p2 (And.intro f1 f2)))
   clear hpo hfa
   go_enter Tryz.func88, Tryz.ntmps88
   go_upto_region 1 with fail
   obtain ⟨x1, x2, hb⟩ := HT.out _ rfl
   generalize (w.alloc (.cells #[.slice bA bn bc, .slice wA wn wc, .bool false, .int .i64 po, .int .i64 fa, .int .i64 wi] 33)).alloc (.cells #[.slice none 0 0, .slice none 0 0, .bool false, .int .i64 0, .int .i64 0, .int .i64 0] 33) = w1 at *
   have y0 := x1.c0
   have y1 := x1.c1
   have y2 := x1.c2
   have y3 := x1.c3
   have y4 := x1.c4
   have y5 := x1.c5
   clear HT
   go_upto_region 3 with fail
   go_quiet (fail)
   have x1 := x1.below (gr_drewN (gr_refl w1) nq)
   have x2 := x2.below (gr_drewN (gr_refl w1) nq)
   have hb := gr_drewN hb nq
   clear y0 y1 y2 y3 y4 y5
   generalize w1.drewN nq = w2 at *
   have y3 := x1.c3
   go_upto_region 6 with fail
   clear y3
   have y4 := x1.c4
   have q4 := x1.fz 4
   have x1' := x1.set4 (.int .i64 (fa - 1))
   have x2' := x2.setO (k := w.heap.size) (j := 4) (u := .int .i64 (fa - 1)) (by omega)
   have hb' : Below w.heap.size w (w2.setCell ⟨w.heap.size, 4, none⟩ (.int .i64 (fa - 1))) := hb.setCell (Nat.le_refl _) _
   go_upto_region 8 with fail
   clear y4 q4 x1 x2 hb
   generalize w2.setCell ⟨w.heap.size, 4, none⟩ (.int .i64 (fa - 1)) = w4 at *
   have x1 := x1'
   have x2 := x2'
   have hb := hb'
   clear x1' x2' hb'
   have y0 := x1.c0
   have y1 := x1.c1
   have y2 := x1.c2
   have y3 := x1.c3
   have y4 := x1.c4
   have y5 := x1.c5
   go_upto_region 12 with fail
   clear y0 y1 y2 y3 y4 y5
   refine wp_region_any (by kernel_rfl) ?_
   change wpAny _ _ _ _ _ _ _ (World.drew w4)
   have hD := bel_drew (w := w4) (gr_refl _)
   have x1 := x1.below hD
   have x2 := x2.below hD
   have hb := gr_trans hb hD
   generalize w4.drew = wt at *
   refine wpAny_of_held (S := fun W => B6 W w.heap.size (.slice bA bn bc) (.slice wA wn wc) (.bool false) (.int .i64 po) (.int .i64 (fa - 1)) (.int .i64 wi)) _ _ _ _ ?_
   have hHeld := x1
   refine wpAnyH_take (i := 0) (v := .agg #[.slice bA bn bc, .slice wA wn wc, .bool false, .int .i64 po, .int .i64 (fa - 1), .int .i64 wi]) rfl (by kernel_rfl) (by kernel_rfl) (by kernel_rfl) (fun _ _ _ h => h) (Or.inl ⟨by rfl, ?_⟩) hHeld ?_
   ·intro W hS
    (try dsimp only at hS)
    have y0 := (show B6 W w.heap.size (.slice bA bn bc) (.slice wA wn wc) (.bool false) (.int .i64 po) (.int .i64 (fa - 1)) (.int .i64 wi) from hS).c0
    have y1 := (show B6 W w.heap.size (.slice bA bn bc) (.slice wA wn wc) (.bool false) (.int .i64 po) (.int .i64 (fa - 1)) (.int .i64 wi) from hS).c1
    have y2 := (show B6 W w.heap.size (.slice bA bn bc) (.slice wA wn wc) (.bool false) (.int .i64 po) (.int .i64 (fa - 1)) (.int .i64 wi) from hS).c2
    have y3 := (show B6 W w.heap.size (.slice bA bn bc) (.slice wA wn wc) (.bool false) (.int .i64 po) (.int .i64 (fa - 1)) (.int .i64 wi) from hS).c3
    have y4 := (show B6 W w.heap.size (.slice bA bn bc) (.slice wA wn wc) (.bool false) (.int .i64 po) (.int .i64 (fa - 1)) (.int .i64 wi) from hS).c4
    have y5 := (show B6 W w.heap.size (.slice bA bn bc) (.slice wA wn wc) (.bool false) (.int .i64 po) (.int .i64 (fa - 1)) (.int .i64 wi) from hS).c5
    go_simp
   try simp only [Act.put, List.setIfInBounds_toArray]
   refine wpAnyH_take (i := 1) (v := .pointer (some ⟨w.heap.size, 5, none⟩)) rfl (by kernel_rfl) (by kernel_rfl) (by kernel_rfl) (fun _ _ _ h => h) (Or.inl ⟨by rfl, ?_⟩) hHeld ?_
   ·intro W hS
    (try dsimp only at hS)
    go_simp
   try simp only [Act.put]
   refine wpAnyH_take (i := 2) (v := .int .i64 wi) rfl (by kernel_rfl) (by kernel_rfl) (by kernel_rfl) (fun _ _ _ h => h) (Or.inl ⟨by rfl, ?_⟩) hHeld ?_
   ·intro W hS
    (try dsimp only at hS)
    have y5 := (show B6 W w.heap.size (.slice bA bn bc) (.slice wA wn wc) (.bool false) (.int .i64 po) (.int .i64 (fa - 1)) (.int .i64 wi) from hS).c5
    go_simp
   try simp only [Act.put]
   have r0 := x2.c0
   have r1 := x2.c1
   have r2 := x2.c2
   have r3 := x2.c3
   have r4 := x2.c4
   have r5 := x2.c5
   have f0 := x2.fz 0
   have f1 := x2.fz 1
   have f2 := x2.fz 2
   have f3 := x2.fz 3
   have f4 := x2.fz 4
   have f5 := x2.fz 5
   have HS := Lib.hid (set6 x2 (.slice bA bn bc) (.slice wA wn wc) (.bool false) (.int .i64 po) (.int .i64 (fa - 1)) (.int .i64 wi) hb (by omega))
   refine wpAnyH_ready (rs := [3]) (by kernel_rfl) (by simp) ?_
   refine AllReadyH.cons rfl (fun KK hK => ?_) AllReadyH.nil
   go_simp
   refine hK.out _ _ ?_ (fun hHeld2 => ?_)
   ·exact ((((((hHeld.setO (k := w.heap.size + 1) (j := 0) (u := .slice bA bn bc) (by omega)).setO (k := w.heap.size + 1) (j := 1) (u := .slice wA wn wc) (by omega)).setO (k := w.heap.size + 1) (j := 2) (u := .bool false) (by omega)).setO (k := w.heap.size + 1) (j := 3) (u := .int .i64 po) (by omega)).setO (k := w.heap.size + 1) (j := 4) (u := .int .i64 (fa - 1)) (by omega)).setO (k := w.heap.size + 1) (j := 5) (u := .int .i64 wi) (by omega))
   clear hK KK hHeld
   have hHeld := hHeld2
   clear hHeld2
   try simp only [Act.put, List.setIfInBounds_toArray, List.set_cons_zero, List.set_cons_succ]
   refine wpAnyH_ready (rs := [4]) (by kernel_rfl) (by simp) ?_
   refine AllReadyH.cons rfl (fun KK hK => ?_) AllReadyH.nil
   go_simp
   refine hK.out _ _ ?_ (fun hHeld2 => ?_)
   ·exact hHeld
   clear hK KK hHeld
   have hHeld := hHeld2
   clear hHeld2
   try simp only [Act.put, List.setIfInBounds_toArray, List.set_cons_zero, List.set_cons_succ]
   refine wpAnyH_done (by kernel_rfl) ?_ _
   go_wp2_with fail
   clear hHeld
   clear r0 f0 r1 f1 r2 f2 r3 f3 r4 f4 r5 f5
   obtain ⟨s1, s2⟩ := HS.out _ rfl
   clear HS
   generalize ((((((wt.setCell ⟨w.heap.size + 1, 0, none⟩ (.slice bA bn bc)).setCell ⟨w.heap.size + 1, 1, none⟩ (.slice wA wn wc)).setCell ⟨w.heap.size + 1, 2, none⟩ (.bool false)).setCell ⟨w.heap.size + 1, 3, none⟩ (.int .i64 po)).setCell ⟨w.heap.size + 1, 4, none⟩ (.int .i64 (fa - 1))).setCell ⟨w.heap.size + 1, 5, none⟩ (.int .i64 wi)) = wf at *
   have z0 := s1.c0
   have z1 := s1.c1
   have z2 := s1.c2
   have z3 := s1.c3
   have z4 := s1.c4
   have z5 := s1.c5
   refine bodyPost_ret (v := .tuple #[.agg #[.slice bA bn bc, .slice wA wn wc, .bool false, .int .i64 po, .int .i64 (fa - 1), .int .i64 wi], .int .i64 wi]) (by simp [results, Tryz.results88, go_sem, z0, z1, z2, z3, z4, z5]) rfl ?_
   obtain ⟨h1, h2, h3, h4⟩ := HE.out
   rw [h1, h2, h3, h4]
   exact ⟨rfl, s2⟩
  ·have a1 : (po == 0) = false := by exact beq_eq_false_iff_ne.2 (by omega)
   have a2 : decide (0 ≤ po) = false := decide_eq_false (by omega)
   have b1 : (fa == 0) = false := by exact beq_eq_false_iff_ne.2 (by omega)
   have b2 : decide (0 ≤ fa) = true := decide_eq_true (by omega)
   have HE : Hid (opE false po fa wi = 0 ∧ opD false po = false ∧ opL false po = po ∧ opL false fa = fa - 1) := Lib.hid (by
    unfold opE opD opL stB stL
    rw [a1, b1]
    simp
    omega)
   have PB := Lib.hid (And.intro p1 (And.intro p2 (And.intro f1 f2)))
   clear hpo hfa
   go_enter Tryz.func88, Tryz.ntmps88
   go_upto_region 1 with fail
   obtain ⟨x1, x2, hb⟩ := HT.out _ rfl
   generalize (w.alloc (.cells #[.slice bA bn bc, .slice wA wn wc, .bool false, .int .i64 po, .int .i64 fa, .int .i64 wi] 33)).alloc (.cells #[.slice none 0 0, .slice none 0 0, .bool false, .int .i64 0, .int .i64 0, .int .i64 0] 33) = w1 at *
   have y0 := x1.c0
   have y1 := x1.c1
   have y2 := x1.c2
   have y3 := x1.c3
   have y4 := x1.c4
   have y5 := x1.c5
   clear HT
   go_upto_region 3 with fail
   go_quiet (fail)
   have x1 := x1.below (gr_drewN (gr_refl w1) nq)
   have x2 := x2.below (gr_drewN (gr_refl w1) nq)
   have hb := gr_drewN hb nq
   clear y0 y1 y2 y3 y4 y5
   generalize w1.drewN nq = w2 at *
   have y3 := x1.c3
   go_upto_region 6 with fail
   clear y3
   have y4 := x1.c4
   have q4 := x1.fz 4
   have x1' := x1.set4 (.int .i64 (fa - 1))
   have x2' := x2.setO (k := w.heap.size) (j := 4) (u := .int .i64 (fa - 1)) (by omega)
   have hb' : Below w.heap.size w (w2.setCell ⟨w.heap.size, 4, none⟩ (.int .i64 (fa - 1))) := hb.setCell (Nat.le_refl _) _
   go_upto_region 8 with fail
   clear y4 q4 x1 x2 hb
   generalize w2.setCell ⟨w.heap.size, 4, none⟩ (.int .i64 (fa - 1)) = w4 at *
   have x1 := x1'
   have x2 := x2'
   have hb := hb'
   clear x1' x2' hb'
   have y0 := x1.c0
   have y1 := x1.c1
   have y2 := x1.c2
   have y3 := x1.c3
   have y4 := x1.c4
   have y5 := x1.c5
   have r0 := x2.c0
   have r1 := x2.c1
   have r2 := x2.c2
   have r3 := x2.c3
   have r4 := x2.c4
   have r5 := x2.c5
   have f0 := x2.fz 0
   have f1 := x2.fz 1
   have f2 := x2.fz 2
   have f3 := x2.fz 3
   have f4 := x2.fz 4
   have f5 := x2.fz 5
   have HS := Lib.hid (set6 x2 (.slice bA bn bc) (.slice wA wn wc) (.bool false) (.int .i64 po) (.int .i64 (fa - 1)) (.int .i64 wi) hb (by omega))
   go_wp2_with fail
   clear r0 f0 r1 f1 r2 f2 r3 f3 r4 f4 r5 f5
   obtain ⟨s1, s2⟩ := HS.out _ rfl
   clear HS
   generalize ((((((w4.setCell ⟨w.heap.size + 1, 0, none⟩ (.slice bA bn bc)).setCell ⟨w.heap.size + 1, 1, none⟩ (.slice wA wn wc)).setCell ⟨w.heap.size + 1, 2, none⟩ (.bool false)).setCell ⟨w.heap.size + 1, 3, none⟩ (.int .i64 po)).setCell ⟨w.heap.size + 1, 4, none⟩ (.int .i64 (fa - 1))).setCell ⟨w.heap.size + 1, 5, none⟩ (.int .i64 wi)) = wf at *
   have z0 := s1.c0
   have z1 := s1.c1
   have z2 := s1.c2
   have z3 := s1.c3
   have z4 := s1.c4
   have z5 := s1.c5
   refine bodyPost_ret (v := .tuple #[.agg #[.slice bA bn bc, .slice wA wn wc, .bool false, .int .i64 po, .int .i64 (fa - 1), .int .i64 wi], .int .i64 (0)]) (by simp [results, Tryz.results88, go_sem, z0, z1, z2, z3, z4, z5]) rfl ?_
   obtain ⟨h1, h2, h3, h4⟩ := HE.out
   rw [h1, h2, h3, h4]
   exact ⟨rfl, s2⟩
 ·obtain hfa | hfa | hfa : fa = -1 ∨ fa = 0 ∨ 0 < fa := by omega
  ·have a1 : (po == 0) = true := by rw [hpo]; rfl
   have a2 : decide (0 ≤ po) = true := decide_eq_true (by omega)
   have b1 : (fa == 0) = false := by exact beq_eq_false_iff_ne.2 (by omega)
   have b2 : decide (0 ≤ fa) = false := decide_eq_false (by omega)
   have HE : Hid (opE false po fa wi = 6 ∧ opD false po = true ∧ opL false po = po - 1 ∧ opL false fa = fa) := Lib.hid (by
    unfold opE opD opL stB stL
    rw [a1, b1]
    simp
    omega)
   have PB := Lib.hid (And.intro p1 (And.intro p2 (And.intro f1 f2)))
   clear hpo hfa
   go_enter Tryz.func88, Tryz.ntmps88
   go_upto_region 1 with fail
   obtain ⟨x1, x2, hb⟩ := HT.out _ rfl
   generalize (w.alloc (.cells #[.slice bA bn bc, .slice wA wn wc, .bool false, .int .i64 po, .int .i64 fa, .int .i64 wi] 33)).alloc (.cells #[.slice none 0 0, .slice none 0 0, .bool false, .int .i64 0, .int .i64 0, .int .i64 0] 33) = w1 at *
   have y0 := x1.c0
   have y1 := x1.c1
   have y2 := x1.c2
   have y3 := x1.c3
   have y4 := x1.c4
   have y5 := x1.c5
   clear HT
   go_upto_region 3 with fail
   go_quiet (fail)
   have x1 := x1.below (gr_drewN (gr_refl w1) nq)
   have x2 := x2.below (gr_drewN (gr_refl w1) nq)
   have hb := gr_drewN hb nq
   clear y0 y1 y2 y3 y4 y5
   generalize w1.drewN nq = w2 at *
   have y3 := x1.c3
   have q3 := x1.fz 3
   have x1' := x1.set3 (.int .i64 (po - 1))
   have x2' := x2.setO (k := w.heap.size) (j := 3) (u := .int .i64 (po - 1)) (by omega)
   have hb' : Below w.heap.size w (w2.setCell ⟨w.heap.size, 3, none⟩ (.int .i64 (po - 1))) := hb.setCell (Nat.le_refl _) _
   go_upto_region 6 with fail
   clear y3 q3 x1 x2 hb
   generalize w2.setCell ⟨w.heap.size, 3, none⟩ (.int .i64 (po - 1)) = w3 at *
   have x1 := x1'
   have x2 := x2'
   have hb := hb'
   clear x1' x2' hb'
   have y4 := x1.c4
   go_upto_region 8 with fail
   clear y4
   have y2 := x1.c2
   have q2 := x1.fz 2
   have x1' := x1.set2 (.bool true)
   have x2' := x2.setO (k := w.heap.size) (j := 2) (u := .bool true) (by omega)
   have hb' : Below w.heap.size w (w3.setCell ⟨w.heap.size, 2, none⟩ (.bool true)) := hb.setCell (Nat.le_refl _) _
   go_upto_region 10 with fail
   clear y2 q2 x1 x2 hb
   generalize w3.setCell ⟨w.heap.size, 2, none⟩ (.bool true) = w5 at *
   have y0 := x1'.c0
   have y1 := x1'.c1
   have y2 := x1'.c2
   have y3 := x1'.c3
   have y4 := x1'.c4
   have y5 := x1'.c5
   have r0 := x2'.c0
   have r1 := x2'.c1
   have r2 := x2'.c2
   have r3 := x2'.c3
   have r4 := x2'.c4
   have r5 := x2'.c5
   have f0 := x2'.fz 0
   have f1 := x2'.fz 1
   have f2 := x2'.fz 2
   have f3 := x2'.fz 3
   have f4 := x2'.fz 4
   have f5 := x2'.fz 5
   have HS := Lib.hid (set6 x2' (.slice bA bn bc) (.slice wA wn wc) (.bool true) (.int .i64 (po - 1)) (.int .i64 fa) (.int .i64 wi) hb' (by omega))
   go_wp2_with fail
   clear r0 f0 r1 f1 r2 f2 r3 f3 r4 f4 r5 f5
   obtain ⟨s1, s2⟩ := HS.out _ rfl
   clear HS
   generalize ((((((w5.setCell ⟨w.heap.size + 1, 0, none⟩ (.slice bA bn bc)).setCell ⟨w.heap.size + 1, 1, none⟩ (.slice wA wn wc)).setCell ⟨w.heap.size + 1, 2, none⟩ (.bool true)).setCell ⟨w.heap.size + 1, 3, none⟩ (.int .i64 (po - 1))).setCell ⟨w.heap.size + 1, 4, none⟩ (.int .i64 fa)).setCell ⟨w.heap.size + 1, 5, none⟩ (.int .i64 wi)) = wf at *
   have z0 := s1.c0
   have z1 := s1.c1
   have z2 := s1.c2
   have z3 := s1.c3
   have z4 := s1.c4
   have z5 := s1.c5
   refine bodyPost_ret (v := .tuple #[.agg #[.slice bA bn bc, .slice wA wn wc, .bool true, .int .i64 (po - 1), .int .i64 fa, .int .i64 wi], .int .i64 (6)]) (by simp [results, Tryz.results88, go_sem, z0, z1, z2, z3, z4, z5]) rfl ?_
   obtain ⟨h1, h2, h3, h4⟩ := HE.out
   rw [h1, h2, h3, h4]
   exact ⟨rfl, s2⟩
  ·have a1 : (po == 0) = true := by rw [hpo]; rfl
   have a2 : decide (0 ≤ po) = true := decide_eq_true (by omega)
   have b1 : (fa == 0) = true := by rw [hfa]; rfl
   have b2 : decide (0 ≤ fa) = true := decide_eq_true (by omega)
   have HE : Hid (opE false po fa wi = 6 ∧ opD false po = true ∧ opL false po = po - 1 ∧ opL false fa = fa - 1) := Lib.hid (by
    unfold opE opD opL stB stL
    rw [a1, b1]
    simp
    omega)
   have PB := Lib.hid (And.intro p1 (And.intro p2 (And.intro f1 f2)))
   clear hpo hfa
   go_enter Tryz.func88, Tryz.ntmps88
   go_upto_region 1 with fail
   obtain ⟨x1, x2, hb⟩ := HT.out _ rfl
   generalize (w.alloc (.cells #[.slice bA bn bc, .slice wA wn wc, .bool false, .int .i64 po, .int .i64 fa, .int .i64 wi] 33)).alloc (.cells #[.slice none 0 0, .slice none 0 0, .bool false, .int .i64 0, .int .i64 0, .int .i64 0] 33) = w1 at *
   have y0 := x1.c0
   have y1 := x1.c1
   have y2 := x1.c2
   have y3 := x1.c3
   have y4 := x1.c4
   have y5 := x1.c5
   clear HT
   go_upto_region 3 with fail
   go_quiet (fail)
   have x1 := x1.below (gr_drewN (gr_refl w1) nq)
   have x2 := x2.below (gr_drewN (gr_refl w1) nq)
   have hb := gr_drewN hb nq
   clear y0 y1 y2 y3 y4 y5
   generalize w1.drewN nq = w2 at *
   have y3 := x1.c3
   have q3 := x1.fz 3
   have x1' := x1.set3 (.int .i64 (po - 1))
   have x2' := x2.setO (k := w.heap.size) (j := 3) (u := .int .i64 (po - 1)) (by omega)
   have hb' : Below w.heap.size w (w2.setCell ⟨w.heap.size, 3, none⟩ (.int .i64 (po - 1))) := hb.setCell (Nat.le_refl _) _
   go_upto_region 6 with fail
   clear y3 q3 x1 x2 hb
   generalize w2.setCell ⟨w.heap.size, 3, none⟩ (.int .i64 (po - 1)) = w3 at *
   have x1 := x1'
   have x2 := x2'
   have hb := hb'
   clear x1' x2' hb'
   have y4 := x1.c4
   have q4 := x1.fz 4
   have x1' := x1.set4 (.int .i64 (fa - 1))
   have x2' := x2.setO (k := w.heap.size) (j := 4) (u := .int .i64 (fa - 1)) (by omega)
   have hb' : Below w.heap.size w (w3.setCell ⟨w.heap.size, 4, none⟩ (.int .i64 (fa - 1))) := hb.setCell (Nat.le_refl _) _
   go_upto_region 8 with fail
   clear y4 q4 x1 x2 hb
   generalize w3.setCell ⟨w.heap.size, 4, none⟩ (.int .i64 (fa - 1)) = w4 at *
   have x1 := x1'
   have x2 := x2'
   have hb := hb'
   clear x1' x2' hb'
   have y2 := x1.c2
   have q2 := x1.fz 2
   have x1' := x1.set2 (.bool true)
   have x2' := x2.setO (k := w.heap.size) (j := 2) (u := .bool true) (by omega)
   have hb' : Below w.heap.size w (w4.setCell ⟨w.heap.size, 2, none⟩ (.bool true)) := hb.setCell (Nat.le_refl _) _
   go_upto_region 10 with fail
   clear y2 q2 x1 x2 hb
   generalize w4.setCell ⟨w.heap.size, 2, none⟩ (.bool true) = w5 at *
   have y0 := x1'.c0
   have y1 := x1'.c1
   have y2 := x1'.c2
   have y3 := x1'.c3
   have y4 := x1'.c4
   have y5 := x1'.c5
   have r0 := x2'.c0
   have r1 := x2'.c1
   have r2 := x2'.c2
   have r3 := x2'.c3
   have r4 := x2'.c4
   have r5 := x2'.c5
   have f0 := x2'.fz 0
   have f1 := x2'.fz 1
   have f2 := x2'.fz 2
   have f3 := x2'.fz 3
   have f4 := x2'.fz 4
   have f5 := x2'.fz 5
   have HS := Lib.hid (set6 x2' (.slice bA bn bc) (.slice wA wn wc) (.bool true) (.int .i64 (po - 1)) (.int .i64 (fa - 1)) (.int .i64 wi) hb' (by omega))
   go_wp2_with fail
   clear r0 f0 r1 f1 r2 f2 r3 f3 r4 f4 r5 f5
   obtain ⟨s1, s2⟩ := HS.out _ rfl
   clear HS
   generalize ((((((w5.setCell ⟨w.heap.size + 1, 0, none⟩ (.slice bA bn bc)).setCell ⟨w.heap.size + 1, 1, none⟩ (.slice wA wn wc)).setCell ⟨w.heap.size + 1, 2, none⟩ (.bool true)).setCell ⟨w.heap.size + 1, 3, none⟩ (.int .i64 (po - 1))).setCell ⟨w.heap.size + 1, 4, none⟩ (.int .i64 (fa - 1))).setCell ⟨w.heap.size + 1, 5, none⟩ (.int .i64 wi)) = wf at *
   have z0 := s1.c0
   have z1 := s1.c1
   have z2 := s1.c2
   have z3 := s1.c3
   have z4 := s1.c4
   have z5 := s1.c5
   refine bodyPost_ret (v := .tuple #[.agg #[.slice bA bn bc, .slice wA wn wc, .bool true, .int .i64 (po - 1), .int .i64 (fa - 1), .int .i64 wi], .int .i64 (6)]) (by simp [results, Tryz.results88, go_sem, z0, z1, z2, z3, z4, z5]) rfl ?_
   obtain ⟨h1, h2, h3, h4⟩ := HE.out
   rw [h1, h2, h3, h4]
   exact ⟨rfl, s2⟩
  ·have a1 : (po == 0) = true := by rw [hpo]; rfl
   have a2 : decide (0 ≤ po) = true := decide_eq_true (by omega)
   have b1 : (fa == 0) = false := by exact beq_eq_false_iff_ne.2 (by omega)
   have b2 : decide (0 ≤ fa) = true := decide_eq_true (by omega)
   have HE : Hid (opE false po fa wi = 6 ∧ opD false po = true ∧ opL false po = po - 1 ∧ opL false fa = fa - 1) := Lib.hid (by
    unfold opE opD opL stB stL
    rw [a1, b1]
    simp
    omega)
   have PB := Lib.hid (And.intro p1 (And.intro p2 (And.intro f1 f2)))
   clear hpo hfa
   go_enter Tryz.func88, Tryz.ntmps88
   go_upto_region 1 with fail
   obtain ⟨x1, x2, hb⟩ := HT.out _ rfl
   generalize (w.alloc (.cells #[.slice bA bn bc, .slice wA wn wc, .bool false, .int .i64 po, .int .i64 fa, .int .i64 wi] 33)).alloc (.cells #[.slice none 0 0, .slice none 0 0, .bool false, .int .i64 0, .int .i64 0, .int .i64 0] 33) = w1 at *
   have y0 := x1.c0
   have y1 := x1.c1
   have y2 := x1.c2
   have y3 := x1.c3
   have y4 := x1.c4
   have y5 := x1.c5
   clear HT
   go_upto_region 3 with fail
   go_quiet (fail)
   have x1 := x1.below (gr_drewN (gr_refl w1) nq)
   have x2 := x2.below (gr_drewN (gr_refl w1) nq)
   have hb := gr_drewN hb nq
   clear y0 y1 y2 y3 y4 y5
   generalize w1.drewN nq = w2 at *
   have y3 := x1.c3
   have q3 := x1.fz 3
   have x1' := x1.set3 (.int .i64 (po - 1))
   have x2' := x2.setO (k := w.heap.size) (j := 3) (u := .int .i64 (po - 1)) (by omega)
   have hb' : Below w.heap.size w (w2.setCell ⟨w.heap.size, 3, none⟩ (.int .i64 (po - 1))) := hb.setCell (Nat.le_refl _) _
   go_upto_region 6 with fail
   clear y3 q3 x1 x2 hb
   generalize w2.setCell ⟨w.heap.size, 3, none⟩ (.int .i64 (po - 1)) = w3 at *
   have x1 := x1'
   have x2 := x2'
   have hb := hb'
   clear x1' x2' hb'
   have y4 := x1.c4
   have q4 := x1.fz 4
   have x1' := x1.set4 (.int .i64 (fa - 1))
   have x2' := x2.setO (k := w.heap.size) (j := 4) (u := .int .i64 (fa - 1)) (by omega)
   have hb' : Below w.heap.size w (w3.setCell ⟨w.heap.size, 4, none⟩ (.int .i64 (fa - 1))) := hb.setCell (Nat.le_refl _) _
   go_upto_region 8 with fail
   clear y4 q4 x1 x2 hb
   generalize w3.setCell ⟨w.heap.size, 4, none⟩ (.int .i64 (fa - 1)) = w4 at *
   have x1 := x1'
   have x2 := x2'
   have hb := hb'
   clear x1' x2' hb'
   have y2 := x1.c2
   have q2 := x1.fz 2
   have x1' := x1.set2 (.bool true)
   have x2' := x2.setO (k := w.heap.size) (j := 2) (u := .bool true) (by omega)
   have hb' : Below w.heap.size w (w4.setCell ⟨w.heap.size, 2, none⟩ (.bool true)) := hb.setCell (Nat.le_refl _) _
   go_upto_region 10 with fail
   clear y2 q2 x1 x2 hb
   generalize w4.setCell ⟨w.heap.size, 2, none⟩ (.bool true) = w5 at *
   have y0 := x1'.c0
   have y1 := x1'.c1
   have y2 := x1'.c2
   have y3 := x1'.c3
   have y4 := x1'.c4
   have y5 := x1'.c5
   have r0 := x2'.c0
   have r1 := x2'.c1
   have r2 := x2'.c2
   have r3 := x2'.c3
   have r4 := x2'.c4
   have r5 := x2'.c5
   have f0 := x2'.fz 0
   have f1 := x2'.fz 1
   have f2 := x2'.fz 2
   have f3 := x2'.fz 3
   have f4 := x2'.fz 4
   have f5 := x2'.fz 5
   have HS := Lib.hid (set6 x2' (.slice bA bn bc) (.slice wA wn wc) (.bool true) (.int .i64 (po - 1)) (.int .i64 (fa - 1)) (.int .i64 wi) hb' (by omega))
   go_wp2_with fail
   clear r0 f0 r1 f1 r2 f2 r3 f3 r4 f4 r5 f5
   obtain ⟨s1, s2⟩ := HS.out _ rfl
   clear HS
   generalize ((((((w5.setCell ⟨w.heap.size + 1, 0, none⟩ (.slice bA bn bc)).setCell ⟨w.heap.size + 1, 1, none⟩ (.slice wA wn wc)).setCell ⟨w.heap.size + 1, 2, none⟩ (.bool true)).setCell ⟨w.heap.size + 1, 3, none⟩ (.int .i64 (po - 1))).setCell ⟨w.heap.size + 1, 4, none⟩ (.int .i64 (fa - 1))).setCell ⟨w.heap.size + 1, 5, none⟩ (.int .i64 wi)) = wf at *
   have z0 := s1.c0
   have z1 := s1.c1
   have z2 := s1.c2
   have z3 := s1.c3
   have z4 := s1.c4
   have z5 := s1.c5
   refine bodyPost_ret (v := .tuple #[.agg #[.slice bA bn bc, .slice wA wn wc, .bool true, .int .i64 (po - 1), .int .i64 (fa - 1), .int .i64 wi], .int .i64 (6)]) (by simp [results, Tryz.results88, go_sem, z0, z1, z2, z3, z4, z5]) rfl ?_
   obtain ⟨h1, h2, h3, h4⟩ := HE.out
   rw [h1, h2, h3, h4]
   exact ⟨rfl, s2⟩
 ·obtain hfa | hfa | hfa : fa = -1 ∨ fa = 0 ∨ 0 < fa := by omega
  ·have a1 : (po == 0) = false := by exact beq_eq_false_iff_ne.2 (by omega)
   have a2 : decide (0 ≤ po) = true := decide_eq_true (by omega)
   have b1 : (fa == 0) = false := by exact beq_eq_false_iff_ne.2 (by omega)
   have b2 : decide (0 ≤ fa) = false := decide_eq_false (by omega)
   have HE : Hid (opE false po fa wi = 0 ∧ opD false po = false ∧ opL false po = po - 1 ∧ opL false fa = fa) := Lib.hid (by
    unfold opE opD opL stB stL
    rw [a1, b1]
    simp
    omega)
   have PB := Lib.hid (And.intro p1 (And.intro p2 (And.intro f1 f2)))
   clear hpo hfa
   go_enter Tryz.func88, Tryz.ntmps88
   go_upto_region 1 with fail
   obtain ⟨x1, x2, hb⟩ := HT.out _ rfl
   generalize (w.alloc (.cells #[.slice bA bn bc, .slice wA wn wc, .bool false, .int .i64 po, .int .i64 fa, .int .i64 wi] 33)).alloc (.cells #[.slice none 0 0, .slice none 0 0, .bool false, .int .i64 0, .int .i64 0, .int .i64 0] 33) = w1 at *
   have y0 := x1.c0
   have y1 := x1.c1
   have y2 := x1.c2
   have y3 := x1.c3
   have y4 := x1.c4
   have y5 := x1.c5
   clear HT
   go_upto_region 3 with fail
   go_quiet (fail)
   have x1 := x1.below (gr_drewN (gr_refl w1) nq)
   have x2 := x2.below (gr_drewN (gr_refl w1) nq)
   have hb := gr_drewN hb nq
   clear y0 y1 y2 y3 y4 y5
   generalize w1.drewN nq = w2 at *
   have y3 := x1.c3
   have q3 := x1.fz 3
   have x1' := x1.set3 (.int .i64 (po - 1))
   have x2' := x2.setO (k := w.heap.size) (j := 3) (u := .int .i64 (po - 1)) (by omega)
   have hb' : Below w.heap.size w (w2.setCell ⟨w.heap.size, 3, none⟩ (.int .i64 (po - 1))) := hb.setCell (Nat.le_refl _) _
   go_upto_region 6 with fail
   clear y3 q3 x1 x2 hb
   generalize w2.setCell ⟨w.heap.size, 3, none⟩ (.int .i64 (po - 1)) = w3 at *
   have x1 := x1'
   have x2 := x2'
   have hb := hb'
   clear x1' x2' hb'
   have y4 := x1.c4
   go_upto_region 8 with fail
   clear y4
   have y0 := x1.c0
   have y1 := x1.c1
   have y2 := x1.c2
   have y3 := x1.c3
   have y4 := x1.c4
   have y5 := x1.c5
   have r0 := x2.c0
   have r1 := x2.c1
   have r2 := x2.c2
   have r3 := x2.c3
   have r4 := x2.c4
   have r5 := x2.c5
   have f0 := x2.fz 0
   have f1 := x2.fz 1
   have f2 := x2.fz 2
   have f3 := x2.fz 3
   have f4 := x2.fz 4
   have f5 := x2.fz 5
   have HS := Lib.hid (set6 x2 (.slice bA bn bc) (.slice wA wn wc) (.bool false) (.int .i64 (po - 1)) (.int .i64 fa) (.int .i64 wi) hb (by omega))
   go_wp2_with fail
   clear r0 f0 r1 f1 r2 f2 r3 f3 r4 f4 r5 f5
   obtain ⟨s1, s2⟩ := HS.out _ rfl
   clear HS
   generalize ((((((w3.setCell ⟨w.heap.size + 1, 0, none⟩ (.slice bA bn bc)).setCell ⟨w.heap.size + 1, 1, none⟩ (.slice wA wn wc)).setCell ⟨w.heap.size + 1, 2, none⟩ (.bool false)).setCell ⟨w.heap.size + 1, 3, none⟩ (.int .i64 (po - 1))).setCell ⟨w.heap.size + 1, 4, none⟩ (.int .i64 fa)).setCell ⟨w.heap.size + 1, 5, none⟩ (.int .i64 wi)) = wf at *
   have z0 := s1.c0
   have z1 := s1.c1
   have z2 := s1.c2
   have z3 := s1.c3
   have z4 := s1.c4
   have z5 := s1.c5
   refine bodyPost_ret (v := .tuple #[.agg #[.slice bA bn bc, .slice wA wn wc, .bool false, .int .i64 (po - 1), .int .i64 fa, .int .i64 wi], .int .i64 (0)]) (by simp [results, Tryz.results88, go_sem, z0, z1, z2, z3, z4, z5]) rfl ?_
   obtain ⟨h1, h2, h3, h4⟩ := HE.out
   rw [h1, h2, h3, h4]
   exact ⟨rfl, s2⟩
  ·have a1 : (po == 0) = false := by exact beq_eq_false_iff_ne.2 (by omega)
   have a2 : decide (0 ≤ po) = true := decide_eq_true (by omega)
   have b1 : (fa == 0) = true := by rw [hfa]; rfl
   have b2 : decide (0 ≤ fa) = true := decide_eq_true (by omega)
   have HE : Hid (opE false po fa wi = wi ∧ opD false po = false ∧ opL false po = po - 1 ∧ opL false fa = fa - 1) := Lib.hid (by
    unfold opE opD opL stB stL
    rw [a1, b1]
    simp
    omega)
   have PB := Lib.hid (And.intro p1 (And.intro p2 (And.intro f1 f2)))
   clear hpo hfa
   go_enter Tryz.func88, Tryz.ntmps88
   go_upto_region 1 with fail
   obtain ⟨x1, x2, hb⟩ := HT.out _ rfl
   generalize (w.alloc (.cells #[.slice bA bn bc, .slice wA wn wc, .bool false, .int .i64 po, .int .i64 fa, .int .i64 wi] 33)).alloc (.cells #[.slice none 0 0, .slice none 0 0, .bool false, .int .i64 0, .int .i64 0, .int .i64 0] 33) = w1 at *
   have y0 := x1.c0
   have y1 := x1.c1
   have y2 := x1.c2
   have y3 := x1.c3
   have y4 := x1.c4
   have y5 := x1.c5
   clear HT
   go_upto_region 3 with fail
   go_quiet (fail)
   have x1 := x1.below (gr_drewN (gr_refl w1) nq)
   have x2 := x2.below (gr_drewN (gr_refl w1) nq)
   have hb := gr_drewN hb nq
   clear y0 y1 y2 y3 y4 y5
   generalize w1.drewN nq = w2 at *
   have y3 := x1.c3
   have q3 := x1.fz 3
   have x1' := x1.set3 (.int .i64 (po - 1))
   have x2' := x2.setO (k := w.heap.size) (j := 3) (u := .int .i64 (po - 1)) (by omega)
   have hb' : Below w.heap.size w (w2.setCell ⟨w.heap.size, 3, none⟩ (.int .i64 (po - 1))) := hb.setCell (Nat.le_refl _) _
   go_upto_region 6 with fail
   clear y3 q3 x1 x2 hb
   generalize w2.setCell ⟨w.heap.size, 3, none⟩ (.int .i64 (po - 1)) = w3 at *
   have x1 := x1'
   have x2 := x2'
   have hb := hb'
   clear x1' x2' hb'
   have y4 := x1.c4
   have q4 := x1.fz 4
   have x1' := x1.set4 (.int .i64 (fa - 1))
   have x2' := x2.setO (k := w.heap.size) (j := 4) (u := .int .i64 (fa - 1)) (by omega)
   have hb' : Below w.heap.size w (w3.setCell ⟨w.heap.size, 4, none⟩ (.int .i64 (fa - 1))) := hb.setCell (Nat.le_refl _) _
   go_upto_region 8 with fail
   clear y4 q4 x1 x2 hb
   generalize w3.setCell ⟨w.heap.size, 4, none⟩ (.int .i64 (fa - 1)) = w4 at *
   have x1 := x1'
   have x2 := x2'
   have hb := hb'
   clear x1' x2' hb'
   have y0 := x1.c0
   have y1 := x1.c1
   have y2 := x1.c2
   have y3 := x1.c3
   have y4 := x1.c4
   have y5 := x1.c5
   go_upto_region 12 with fail
   clear y0 y1 y2 y3 y4 y5
   refine wp_region_any (by kernel_rfl) ?_
   change wpAny _ _ _ _ _ _ _ (World.drew w4)
   have hD := bel_drew (w := w4) (gr_refl _)
   have x1 := x1.below hD
   have x2 := x2.below hD
   have hb := gr_trans hb hD
   generalize w4.drew = wt at *
   refine wpAny_of_held (S := fun W => B6 W w.heap.size (.slice bA bn bc) (.slice wA wn wc) (.bool false) (.int .i64 (po - 1)) (.int .i64 (fa - 1)) (.int .i64 wi)) _ _ _ _ ?_
   have hHeld := x1
   refine wpAnyH_take (i := 0) (v := .agg #[.slice bA bn bc, .slice wA wn wc, .bool false, .int .i64 (po - 1), .int .i64 (fa - 1), .int .i64 wi]) rfl (by kernel_rfl) (by kernel_rfl) (by kernel_rfl) (fun _ _ _ h => h) (Or.inl ⟨by rfl, ?_⟩) hHeld ?_
   ·intro W hS
    (try dsimp only at hS)
    have y0 := (show B6 W w.heap.size (.slice bA bn bc) (.slice wA wn wc) (.bool false) (.int .i64 (po - 1)) (.int .i64 (fa - 1)) (.int .i64 wi) from hS).c0
    have y1 := (show B6 W w.heap.size (.slice bA bn bc) (.slice wA wn wc) (.bool false) (.int .i64 (po - 1)) (.int .i64 (fa - 1)) (.int .i64 wi) from hS).c1
    have y2 := (show B6 W w.heap.size (.slice bA bn bc) (.slice wA wn wc) (.bool false) (.int .i64 (po - 1)) (.int .i64 (fa - 1)) (.int .i64 wi) from hS).c2
    have y3 := (show B6 W w.heap.size (.slice bA bn bc) (.slice wA wn wc) (.bool false) (.int .i64 (po - 1)) (.int .i64 (fa - 1)) (.int .i64 wi) from hS).c3
    have y4 := (show B6 W w.heap.size (.slice bA bn bc) (.slice wA wn wc) (.bool false) (.int .i64 (po - 1)) (.int .i64 (fa - 1)) (.int .i64 wi) from hS).c4
    have y5 := (show B6 W w.heap.size (.slice bA bn bc) (.slice wA wn wc) (.bool false) (.int .i64 (po - 1)) (.int .i64 (fa - 1)) (.int .i64 wi) from hS).c5
    go_simp
   try simp only [Act.put, List.setIfInBounds_toArray]
   refine wpAnyH_take (i := 1) (v := .pointer (some ⟨w.heap.size, 5, none⟩)) rfl (by kernel_rfl) (by kernel_rfl) (by kernel_rfl) (fun _ _ _ h => h) (Or.inl ⟨by rfl, ?_⟩) hHeld ?_
   ·intro W hS
    (try dsimp only at hS)
    go_simp
   try simp only [Act.put]
   refine wpAnyH_take (i := 2) (v := .int .i64 wi) rfl (by kernel_rfl) (by kernel_rfl) (by kernel_rfl) (fun _ _ _ h => h) (Or.inl ⟨by rfl, ?_⟩) hHeld ?_
   ·intro W hS
    (try dsimp only at hS)
    have y5 := (show B6 W w.heap.size (.slice bA bn bc) (.slice wA wn wc) (.bool false) (.int .i64 (po - 1)) (.int .i64 (fa - 1)) (.int .i64 wi) from hS).c5
    go_simp
   try simp only [Act.put]
   have r0 := x2.c0
   have r1 := x2.c1
   have r2 := x2.c2
   have r3 := x2.c3
   have r4 := x2.c4
   have r5 := x2.c5
   have f0 := x2.fz 0
   have f1 := x2.fz 1
   have f2 := x2.fz 2
   have f3 := x2.fz 3
   have f4 := x2.fz 4
   have f5 := x2.fz 5
   have HS := Lib.hid (set6 x2 (.slice bA bn bc) (.slice wA wn wc) (.bool false) (.int .i64 (po - 1)) (.int .i64 (fa - 1)) (.int .i64 wi) hb (by omega))
   refine wpAnyH_ready (rs := [3]) (by kernel_rfl) (by simp) ?_
   refine AllReadyH.cons rfl (fun KK hK => ?_) AllReadyH.nil
   go_simp
   refine hK.out _ _ ?_ (fun hHeld2 => ?_)
   ·exact ((((((hHeld.setO (k := w.heap.size + 1) (j := 0) (u := .slice bA bn bc) (by omega)).setO (k := w.heap.size + 1) (j := 1) (u := .slice wA wn wc) (by omega)).setO (k := w.heap.size + 1) (j := 2) (u := .bool false) (by omega)).setO (k := w.heap.size + 1) (j := 3) (u := .int .i64 (po - 1)) (by omega)).setO (k := w.heap.size + 1) (j := 4) (u := .int .i64 (fa - 1)) (by omega)).setO (k := w.heap.size + 1) (j := 5) (u := .int .i64 wi) (by omega))
   clear hK KK hHeld
   have hHeld := hHeld2
   clear hHeld2
   try simp only [Act.put, List.setIfInBounds_toArray, List.set_cons_zero, List.set_cons_succ]
   refine wpAnyH_ready (rs := [4]) (by kernel_rfl) (by simp) ?_
   refine AllReadyH.cons rfl (fun KK hK => ?_) AllReadyH.nil
   go_simp
   refine hK.out _ _ ?_ (fun hHeld2 => ?_)
   ·exact hHeld
   clear hK KK hHeld
   have hHeld := hHeld2
   clear hHeld2
   try simp only [Act.put, List.setIfInBounds_toArray, List.set_cons_zero, List.set_cons_succ]
   refine wpAnyH_done (by kernel_rfl) ?_ _
   go_wp2_with fail
   clear hHeld
   clear r0 f0 r1 f1 r2 f2 r3 f3 r4 f4 r5 f5
   obtain ⟨s1, s2⟩ := HS.out _ rfl
   clear HS
   generalize ((((((wt.setCell ⟨w.heap.size + 1, 0, none⟩ (.slice bA bn bc)).setCell ⟨w.heap.size + 1, 1, none⟩ (.slice wA wn wc)).setCell ⟨w.heap.size + 1, 2, none⟩ (.bool false)).setCell ⟨w.heap.size + 1, 3, none⟩ (.int .i64 (po - 1))).setCell ⟨w.heap.size + 1, 4, none⟩ (.int .i64 (fa - 1))).setCell ⟨w.heap.size + 1, 5, none⟩ (.int .i64 wi)) = wf at *
   have z0 := s1.c0
   have z1 := s1.c1
   have z2 := s1.c2
   have z3 := s1.c3
   have z4 := s1.c4
   have z5 := s1.c5
   refine bodyPost_ret (v := .tuple #[.agg #[.slice bA bn bc, .slice wA wn wc, .bool false, .int .i64 (po - 1), .int .i64 (fa - 1), .int .i64 wi], .int .i64 wi]) (by simp [results, Tryz.results88, go_sem, z0, z1, z2, z3, z4, z5]) rfl ?_
   obtain ⟨h1, h2, h3, h4⟩ := HE.out
   rw [h1, h2, h3, h4]
   exact ⟨rfl, s2⟩
  ·have a1 : (po == 0) = false := by exact beq_eq_false_iff_ne.2 (by omega)
   have a2 : decide (0 ≤ po) = true := decide_eq_true (by omega)
   have b1 : (fa == 0) = false := by exact beq_eq_false_iff_ne.2 (by omega)
   have b2 : decide (0 ≤ fa) = true := decide_eq_true (by omega)
   have HE : Hid (opE false po fa wi = 0 ∧ opD false po = false ∧ opL false po = po - 1 ∧ opL false fa = fa - 1) := Lib.hid (by
    unfold opE opD opL stB stL
    rw [a1, b1]
    simp
    omega)
   have PB := Lib.hid (And.intro p1 (And.intro p2 (And.intro f1 f2)))
   clear hpo hfa
   go_enter Tryz.func88, Tryz.ntmps88
   go_upto_region 1 with fail
   obtain ⟨x1, x2, hb⟩ := HT.out _ rfl
   generalize (w.alloc (.cells #[.slice bA bn bc, .slice wA wn wc, .bool false, .int .i64 po, .int .i64 fa, .int .i64 wi] 33)).alloc (.cells #[.slice none 0 0, .slice none 0 0, .bool false, .int .i64 0, .int .i64 0, .int .i64 0] 33) = w1 at *
   have y0 := x1.c0
   have y1 := x1.c1
   have y2 := x1.c2
   have y3 := x1.c3
   have y4 := x1.c4
   have y5 := x1.c5
   clear HT
   go_upto_region 3 with fail
   go_quiet (fail)
   have x1 := x1.below (gr_drewN (gr_refl w1) nq)
   have x2 := x2.below (gr_drewN (gr_refl w1) nq)
   have hb := gr_drewN hb nq
   clear y0 y1 y2 y3 y4 y5
   generalize w1.drewN nq = w2 at *
   have y3 := x1.c3
   have q3 := x1.fz 3
   have x1' := x1.set3 (.int .i64 (po - 1))
   have x2' := x2.setO (k := w.heap.size) (j := 3) (u := .int .i64 (po - 1)) (by omega)
   have hb' : Below w.heap.size w (w2.setCell ⟨w.heap.size, 3, none⟩ (.int .i64 (po - 1))) := hb.setCell (Nat.le_refl _) _
   go_upto_region 6 with fail
   clear y3 q3 x1 x2 hb
   generalize w2.setCell ⟨w.heap.size, 3, none⟩ (.int .i64 (po - 1)) = w3 at *
   have x1 := x1'
   have x2 := x2'
   have hb := hb'
   clear x1' x2' hb'
   have y4 := x1.c4
   have q4 := x1.fz 4
   have x1' := x1.set4 (.int .i64 (fa - 1))
   have x2' := x2.setO (k := w.heap.size) (j := 4) (u := .int .i64 (fa - 1)) (by omega)
   have hb' : Below w.heap.size w (w3.setCell ⟨w.heap.size, 4, none⟩ (.int .i64 (fa - 1))) := hb.setCell (Nat.le_refl _) _
   go_upto_region 8 with fail
   clear y4 q4 x1 x2 hb
   generalize w3.setCell ⟨w.heap.size, 4, none⟩ (.int .i64 (fa - 1)) = w4 at *
   have x1 := x1'
   have x2 := x2'
   have hb := hb'
   clear x1' x2' hb'
   have y0 := x1.c0
   have y1 := x1.c1
   have y2 := x1.c2
   have y3 := x1.c3
   have y4 := x1.c4
   have y5 := x1.c5
   have r0 := x2.c0
   have r1 := x2.c1
   have r2 := x2.c2
   have r3 := x2.c3
   have r4 := x2.c4
   have r5 := x2.c5
   have f0 := x2.fz 0
   have f1 := x2.fz 1
   have f2 := x2.fz 2
   have f3 := x2.fz 3
   have f4 := x2.fz 4
   have f5 := x2.fz 5
   have HS := Lib.hid (set6 x2 (.slice bA bn bc) (.slice wA wn wc) (.bool false) (.int .i64 (po - 1)) (.int .i64 (fa - 1)) (.int .i64 wi) hb (by omega))
   go_wp2_with fail
   clear r0 f0 r1 f1 r2 f2 r3 f3 r4 f4 r5 f5
   obtain ⟨s1, s2⟩ := HS.out _ rfl
   clear HS
   generalize ((((((w4.setCell ⟨w.heap.size + 1, 0, none⟩ (.slice bA bn bc)).setCell ⟨w.heap.size + 1, 1, none⟩ (.slice wA wn wc)).setCell ⟨w.heap.size + 1, 2, none⟩ (.bool false)).setCell ⟨w.heap.size + 1, 3, none⟩ (.int .i64 (po - 1))).setCell ⟨w.heap.size + 1, 4, none⟩ (.int .i64 (fa - 1))).setCell ⟨w.heap.size + 1, 5, none⟩ (.int .i64 wi)) = wf at *
   have z0 := s1.c0
   have z1 := s1.c1
   have z2 := s1.c2
   have z3 := s1.c3
   have z4 := s1.c4
   have z5 := s1.c5
   refine bodyPost_ret (v := .tuple #[.agg #[.slice bA bn bc, .slice wA wn wc, .bool false, .int .i64 (po - 1), .int .i64 (fa - 1), .int .i64 wi], .int .i64 (0)]) (by simp [results, Tryz.results88, go_sem, z0, z1, z2, z3, z4, z5]) rfl ?_
   obtain ⟨h1, h2, h3, h4⟩ := HE.out
   rw [h1, h2, h3, h4]
   exact ⟨rfl, s2⟩
end Go.Proofs.YtmdgnjmhbjdlmaaGreat

/-! DpF -/
namespace Go.Proofs.YtmdgnjmhbjdlmaaGreat
open Go.RowKit
structure LO (G : Nat → Prop) (w0 w : World) (Av : Value) (us : List Value) (bs : List (List UInt8)) : Prop where
 bel : Below w0.heap.size w0 w
 row : w.ownsRow w0.heap.size 57 1 Av bs.length us
 bv : ∀ (i : Nat) (u : Value) (l : List UInt8), us[i]? = some u → bs[i]? = some l → VG (fun k => G k ∨ (w0.heap.size ≤ k ∧ Av.ownBlock ≠ some k)) w u l
section
variable {G : Nat → Prop} {w0 w w2 : World} {Av : Value} {us : List Value} {bs : List (List UInt8)}
theorem VG.below {G : Nat → Prop} {w w' : World} {u : Value} {l : List UInt8} (h : VG G w u l) (hb : Below w.heap.size w w') : VG G w' u l := h.off (S := fun _ => False) (Off.of_below hb) (fun _ h => h.elim)
theorem LO.below (h : LO G w0 w Av us bs) (hb : Below w.heap.size w w2) : LO G w0 w2 Av us bs :=
 ⟨gr_trans h.bel hb, ownsRow_off h.row (Off.of_below (S := fun _ => False) hb) (fun _ _ h => h), fun i u l h1 h2 => (h.bv i u l h1 h2).below hb⟩
theorem LO.ul (h : LO G w0 w Av us bs) : us.length = bs.length := by have := h.row.1; simpa using this
theorem LO.lay (h : LO G w0 w Av us bs) (hG : ∀ k, G k → k < w0.heap.size) {O c i : Nat} {u : Value} {l : List UInt8} (hA : Av = .slice (some ⟨O, 0, none⟩) bs.length c) (hi : i < bs.length)
  (hv : VG (fun k => G k ∨ (w0.heap.size ≤ k ∧ Av.ownBlock ≠ some k)) w u l) : LO G w0 (w.setCell ⟨O, i, none⟩ u) Av (us.set i u) (bs.set i l) := by
 have od : Off (· = O) w (w.setCell ⟨O, i, none⟩ u) := (Off.refl _ w).setCell _ rfl
 have hO : Av.ownBlock = some O := by rw [hA]; rfl
 have hOb : w0.heap.size ≤ O := (h.row.lt O hO).1
 have hS : ∀ k, k = O → ¬ (G k ∨ (w0.heap.size ≤ k ∧ Av.ownBlock ≠ some k)) := by
  rintro k rfl (hg | ⟨_, hn⟩)
  ·have := hG _ hg; omega
  ·exact hn hO
 refine ⟨h.bel.setCell hOb _, ?_, fun j v m hj hm => ?_⟩
 ·rcases h.row.2 with ⟨e, h0⟩ | ⟨q, cap, cur, e, hb, hq, hnc, hm, hcs, ht⟩
  ·rw [hA] at e; cases e
  ·rw [hA] at e
   cases e
   refine ⟨by have := h.row.1; simpa using this, .inr ⟨O, c, cur.setIfInBounds i u, by rw [hA]; simp, hb, ?_, by simpa using hnc, hm, by simpa using hcs, ?_⟩⟩
   ·simp only [World.setCell, Array.getElem?_modify, if_pos, hq]
    simp
   ·rw [Array.toList_setIfInBounds, List.take_set, List.length_set, ht]
 ·rw [List.getElem?_set] at hj hm
  by_cases e : i = j
  ·subst e
   rw [if_pos rfl] at hj hm
   rw [if_pos (by rw [h.ul]; exact hi)] at hj
   rw [if_pos hi] at hm
   cases hj
   cases hm
   exact hv.off od hS
  ·rw [if_neg e] at hj hm
   exact (h.bv j v m hj hm).off od hS
theorem LO.at_ (h : LO G w0 w Av us bs) {i : Nat} (hi : i < bs.length) : ∃ O c u, Av = .slice (some ⟨O, 0, none⟩) bs.length c ∧ w.cell? ⟨O, i, none⟩ = some u ∧ w.frozen? ⟨O, i, none⟩ = false ∧ VG (fun k => G k ∨ (w0.heap.size ≤ k ∧ Av.ownBlock ≠ some k)) w u (bs.getD i []) := by
 obtain ⟨O, c, e⟩ := own_plain h.row (by omega)
 have hu : us[i]? = some (us[i]'(by rw [h.ul]; exact hi)) := List.getElem?_eq_getElem _
 refine ⟨O, c, _, e, by rw [show (⟨O, i, none⟩ : Addr) = (⟨O, 0, none⟩ : Addr).add i from by by_cases h0 : i = 0 <;> simp [Addr.add, h0]]; exact h.row.cells (g := O) (by rw [e]; rfl) i _ hu, ?_, h.bv i _ _ hu (by simp [List.getD, List.getElem?_eq_getElem hi])⟩
 rcases h.row.2 with ⟨e2, h0⟩ | ⟨q, cap, cur, e2, hb, hq, hnc, hm, hcs, ht⟩
 ·rw [e] at e2; cases e2
 ·rw [e] at e2
  cases e2
  simp [World.frozen?, hq]
theorem LO.fresh (h : LO G w0 w Av us bs) {base c : Nat} {A : Option Addr} {l : List UInt8} (hb : w0.heap.size ≤ base) (ho : OB w base (.slice A 4096 c) l) (hl : l.length = 4096) : VG (fun k => G k ∨ (w0.heap.size ≤ k ∧ Av.ownBlock ≠ some k)) w (.slice A 4096 c) l := by
 obtain ⟨A', c', e, hr, hc, hm⟩ := ho.formN hl
 injection e with e1 _ e3
 subst e1 e3
 refine ⟨hl, A, c, rfl, hr, fun ad ea => .inr ⟨?_, fun hk => ?_⟩, hc, hm⟩
 ·have := own_plain (n := l.length) ho (by omega)
  obtain ⟨g, c2, e⟩ := this
  rw [ea] at e
  injection e with e _ _
  injection e with e
  subst e
  exact Nat.le_trans hb (ho.lt g (by rw [ea]; rfl)).1
 ·have ho' : w.ownsRow base 5 1 (.slice A 4096 c) 4096 (l.map Proofs.YtmdgnjmhbjdlmaaGreat.bv) := by have := ho; unfold OB at this; rw [hl] at this; exact this
  obtain ⟨cur, fr, h1⟩ := own_at ho' ea
  obtain ⟨cur2, h2⟩ := own_blk h.row hk
  rw [h1] at h2
  injection h2 with h2
  injection h2 with _ h3 _
  exact absurd h3 (by decide)
end
theorem VG.shut {G : Nat → Prop} {w0 w : World} {P : Nat → Prop} {u : Value} {l : List UInt8} (h : VG (fun k => G k ∨ (w0.heap.size ≤ k ∧ P k)) w u l) : VG (plusG G w0 w) w u l := by
 obtain ⟨h0, A, c, e, h1, h2, h3⟩ := h
 refine ⟨h0, A, c, e, h1, fun ad ea => ?_, h3⟩
 rcases h2 ad ea with h | ⟨h, _⟩
 ·exact .inl h
 ·refine .inr ⟨h, ?_⟩
  obtain ⟨g, o, e2, hc⟩ := Rd.plain h1 (by omega) (by omega)
  rw [ea] at e2
  cases e2
  have hl : 0 < (l.map bv).length := by rw [List.length_map, h0]; omega
  exact World.block_lt_of_cell? w _ (hc 0 _ (List.getElem?_eq_getElem hl))
theorem BR.cutE {w : World} {A : Option Addr} {n : Nat} {l : List UInt8} (h : BR w A n l) {k c : Nat} (hk : k ≤ n) (hc : n ≤ c) : BR w (cutA A c k 1) (n - k) (l.drop k) := by
 have := h.cut hk (Nat.le_refl n) hc
 rwa [List.take_of_length_le (by rw [List.length_drop, h.len]; omega)] at this
def MP.obx (base n : Nat) (l : List UInt8) : MP := ⟨fun v w => ∃ A c, v = .slice A n c ∧ w.ownsRow base 5 1 (.slice A n c) n (l.map bv), fun _ _ _ hb ⟨A, c, e, h⟩ => ⟨A, c, e, ownsRow_off h (Off.of_below (S := fun _ => False) hb) (fun _ _ h => h)⟩⟩
end Go.Proofs.YtmdgnjmhbjdlmaaGreat

/-! DpG -/
namespace Go.Proofs.YtmdgnjmhbjdlmaaGreat
open Go.RowKit
theorem twoC (w : World) (x0 x1 x2 x3 x4 x5 y0 y1 y2 : Value) : ∀ w1, w1 = (w.alloc (.cells #[x0, x1, x2, x3, x4, x5] 33)).alloc (.cells #[y0, y1, y2] 47) →
  B6 w1 w.heap.size x0 x1 x2 x3 x4 x5 ∧ w1.heap[w.heap.size + 1]? = some (.cells #[y0, y1, y2] 47 (0, 0)) ∧ Below w.heap.size w w1 := by
 rintro w1 rfl
 have h := B6.new w x0 x1 x2 x3 x4 x5
 have hb := gr_alloc (gr_refl w) (.cells #[x0, x1, x2, x3, x4, x5] 33)
 have hs : (w.alloc (.cells #[x0, x1, x2, x3, x4, x5] 33)).heap.size = w.heap.size + 1 := World.size_alloc _ _
 generalize w.alloc (.cells #[x0, x1, x2, x3, x4, x5] 33) = w2 at *
 rw [← hs]
 exact ⟨h.below (gr_alloc (gr_refl w2) _), heap_alloc_new w2 _, gr_alloc hb _⟩
theorem RKd.one {G : Nat → Prop} {w : World} {bA wA : Option Addr} {bus : List Value} {wus : List (Int × Value)} {D : DiskS} (h : RKd G w bA bus wA wus D) : ∀ u ∈ bus, u.oneCell' = true := by
 intro u hu
 obtain ⟨i, hi, e⟩ := List.mem_iff_getElem.1 hu
 have hl := h.br.1.1
 have hd : i < D.blocks.length := by omega
 obtain ⟨_, A, c, e2, _⟩ := h.bv i u _ (by rw [List.getElem?_eq_getElem hi, e]) (List.getElem?_eq_getElem hd)
 rw [e2]
 rfl
set_option maxRecDepth 100000 in
set_option maxHeartbeats 4000000 in
theorem refLeft_any (G : Nat → Prop) (v : Value) (D : DiskS) (K : Option Addr) (nk ck : Nat) (keep : List Bool) (torn : Int) (cu : Nat) (w : World) (h : RK G w v D) (hG : ∀ k, G k → k < w.heap.size) (hK : LR w K nk keep) (hnk : nk ≤ 9223372036854775807) (hcu : cu ≤ 4096) (hn1 : D.blocks.length ≤ 4096) (hp : D.pending.length ≤ 1000000) :
  Calls Tryz.prog 69 #[v, .agg #[.slice K nk ck, .int .i64 torn, .int .i64 (cu : Int)]] w fun e w' => ∃ A c us, e = .returned (.slice A D.blocks.length c) ∧ D.blocks.length ≤ c ∧ c ≤ maxLen ∧ RdG (plusG G w w') w' 1 A D.blocks.length us ∧
   (∀ (i : Nat) (u : Value) (l : List UInt8), us[i]? = some u → (crashTo keep torn cu D.blocks D.pending D.pending.length)[i]? = some l → VG (plusG G w w') w' u l) ∧ Below w.heap.size w w' := by
 obtain ⟨bA, bc, wA, wc, bus, wus, rfl, k1, k2, k3, k4, hd⟩ := h
 have HT := Lib.hid (twoC w (.slice bA D.blocks.length bc) (.slice wA D.pending.length wc) (.bool D.down) (.int .i64 D.power) (.int .i64 D.fault) (.int .i64 D.wi) (.slice K nk ck) (.int .i64 torn) (.int .i64 (cu : Int)))
 obtain ⟨i0, hi0, hz0, hz1, hz2⟩ := info_parts info_lists
 obtain ⟨i1, hi1, hy0, hy1, hy2⟩ := info_parts info_u8
 have HDD := Lib.hid hd
 have HGG := Lib.hid hG
 have HKK := Lib.hid hK
 have HN1 := Lib.hid hn1
 clear hd hG hK
 unfold maxLen at k2 k4
 go_enter Tryz.func69, Tryz.ntmps69
 go_upto_region 1 with fail
 obtain ⟨x1, x2, hb⟩ := HT.out _ rfl
 generalize (w.alloc (.cells #[.slice bA D.blocks.length bc, .slice wA D.pending.length wc, .bool D.down, .int .i64 D.power, .int .i64 D.fault, .int .i64 D.wi] 33)).alloc (.cells #[.slice K nk ck, .int .i64 torn, .int .i64 (cu : Int)] 47) = w1 at *
 clear HT
 have hs1 : w.heap.size + 1 < w1.heap.size := (Array.getElem?_eq_some_iff.1 x2).1
 have y0 := x1.c0
 go_wp2_with (at_builtin; refine wpList_append_Rd _ rfl _ _ _ rfl w1.heap.size 57 i0 _ 1 24 Tryz.underlying30 hi0 hz0 hz1 hz2 rfl (.slice none 0 0) 0 [] rfl ⟨rfl, .inl ⟨rfl, rfl⟩⟩ bA D.blocks.length bc bus rfl ((HDD.out.below hb).br.1) HDD.out.one (by omega) (by simp only [maxLen]; omega) (Nat.le_refl _) ?_; intro v2 w2 hown2 hg2 _ _; clear y0)
 rw [Nat.zero_add, List.nil_append] at hown2
 have hb12 : Below w1.heap.size w1 w2 := (gr_refl w1).grown hg2 (Nat.le_refl _) (by simp [Value.ownBlock])
 have HG1 : Hid (∀ k, G k → k < w1.heap.size) := Lib.hid (fun k hk => by have := HGG.out k hk; omega)
 have HLO : Hid (LO G w1 w2 v2 bus D.blocks) := Lib.hid ⟨hb12, hown2, fun i u l h1 h2 => ((HDD.out.bv i u l h1 h2).below (gr_trans hb hb12)).mono (fun k hk => .inl hk)⟩
 have HX1 := Lib.hid x1
 have HX2 := Lib.hid x2
 have HB := Lib.hid hb
 have HCL : Hid (∀ k, (crashTo keep torn cu D.blocks D.pending k).length = D.blocks.length) := Lib.hid (fun k => crashTo_len _ _ _ _ _ k)
 have HST : Hid (∀ k, crashTo keep torn cu D.blocks D.pending (k + 1) = crash1 keep torn cu k (crashTo keep torn cu D.blocks D.pending k) (D.pending.getD k (0, []))) := Lib.hid (fun k => rfl)
 have HWA : Hid (∀ k, k < D.pending.length → ∃ g' o' u', wA = some ⟨g', o', none⟩ ∧ w.cell? ⟨g', o' + k * 2, none⟩ = some (.int .i64 (((D.pending.getD k (0, [])).1 : Nat) : Int)) ∧ w.cell? ⟨g', o' + k * 2 + 1, none⟩ = some u' ∧ VG G w u' (D.pending.getD k (0, [])).2 ∧ (D.pending.getD k (0, [])).1 < D.blocks.length) := Lib.hid (fun k hk => HDD.out.wat hk)
 have HC0 : Hid (crashTo keep torn cu D.blocks D.pending 0 = D.blocks) := Lib.hid rfl
 obtain ⟨A2, c2, rfl, hc2, hc2'⟩ := own_form hown2
 have HLO0 : Hid (LO G w1 w2 (.slice A2 D.blocks.length c2) bus (crashTo keep torn cu D.blocks D.pending 0)) := Lib.hid (by rw [HC0.out]; exact HLO.out)
 clear hown2 hg2 hb12 x1 x2 hb HDD HLO HC0
 generalize hnb : D.blocks.length = nb at *
 generalize hnp : D.pending.length = np at *
 have HNB := Lib.hid hnb
 have HNP := Lib.hid hnp
 clear hnb hnp
 go_wp2_with fail
 go_loopw [6] (fun i wr => ∃ (k : Nat) (us : List Value), k ≤ np ∧ i = .int .i64 (k : Int) ∧ Hid (LO G w1 wr (.slice A2 nb c2) us (crashTo keep torn cu D.blocks D.pending k))) (fun i _ => np - (intOf i).toNat)
 case atStart => exact ⟨0, bus, Nat.zero_le _, rfl, HLO0⟩
 case round =>
  clear HLO0
  obtain ⟨k, us, hk, rfl, HL⟩ := hrel
  have hX1 := HX1.out.below HL.out.bel
  have hX2 : wr.heap[w.heap.size + 1]? = some (.cells #[.slice K nk ck, .int .i64 torn, .int .i64 (cu : Int)] 47 (0, 0)) := (HL.out.bel.block _ hs1).trans HX2.out
  have y1 := hX1.c1
  have z0 : wr.cell? ⟨w.heap.size + 1, 0, none⟩ = some (.slice K nk ck) := by rw [cell_of_row wr _ 0 _ _ _ hX2]; rfl
  have z1 : wr.cell? ⟨w.heap.size + 1, 1, none⟩ = some (.int .i64 torn) := by rw [cell_of_row wr _ 1 _ _ _ hX2]; rfl
  have z2 : wr.cell? ⟨w.heap.size + 1, 2, none⟩ = some (.int .i64 (cu : Int)) := by rw [cell_of_row wr _ 2 _ _ _ hX2]; rfl
  have HBW := Lib.hid (gr_trans HB.out (HL.out.bel.mono (by omega)))
  clear hX1 hX2
  by_cases hlt : k < np
  ·have t1 : decide ((k : Int) < (np : Int)) = true := decide_eq_true (by omega)
   have t1' : decide (k < np) = true := decide_eq_true hlt
   have j0 : (0 : Int) ≤ (k : Int) := Int.natCast_nonneg _
   have j1 : (k : Int) < (np : Int) := by omega
   obtain ⟨g', o', u', rfl, q1, q2, q3, q4⟩ := HWA.out k hlt
   have HL1 := HST.out k
   generalize D.pending.getD k (0, []) = p at *
   obtain ⟨p1, p2⟩ := p
   dsimp only at q1 q2 q3 q4 HL1
   have HLH := Lib.hid HL1
   have HP := Lib.hid (q3.below HBW.out)
   have yq1 := keep_of_below HBW.out q1
   have yq2 := keep_of_below HBW.out q2
   clear q1 q2 q3 HL1
   obtain ⟨O, cO, uo, eA, co, fo, hvo⟩ := HL.out.at_ (i := p1) (by rw [HCL.out]; exact q4)
   rw [HCL.out] at eA
   injection eA with eA _ eC
   subst eA eC
   have i0' : (0 : Int) ≤ (p1 : Int) := Int.natCast_nonneg _
   have i1' : (p1 : Int) < (nb : Int) := by omega
   have HVO := Lib.hid hvo
   clear hvo
   by_cases ht : (k : Int) = torn
   ·subst ht
    have t2 : ((k : Int) == (k : Int)) = true := by simp
    have t2' : (k == k) = true := by simp
    obtain ⟨hl5, Ap, cp, rfl, hrp, _, hcp, _⟩ := HP.out
    obtain ⟨hlo, Ao, cO2, rfl, hro, _, hco, _⟩ := HVO.out
    have HRP := Lib.hid (hrp.pre hcu)
    have HRO := Lib.hid (hro.cutE hcu hco)
    have hcut1 := fun W => run_cut_h (P := Tryz.prog) W 57 5 i1 Tryz.underlying57 hi1 1 hy1 Ap 4096 cp (cu : Int) cu rfl (by omega)
    have hcut2 := fun W => run_cut_l (P := Tryz.prog) W 57 5 i1 Tryz.underlying57 hi1 1 hy1 Ao 4096 cO2 (cu : Int) cu rfl hcu
    have HLEN : Hid ((p2.take cu).length = cu ∧ (((crashTo keep (k : Int) cu D.blocks D.pending k).getD p1 []).drop cu).length = 4096 - cu) := Lib.hid ⟨by rw [List.length_take, hl5]; omega, by rw [List.length_drop, hlo]⟩
    have HSTEP : Hid (∀ (w3 : World) (A : Option Addr) (c : Nat), Below wr.heap.size wr w3 → OB w3 wr.heap.size (.slice A 4096 c) (p2.take cu ++ ((crashTo keep (k : Int) cu D.blocks D.pending k).getD p1 []).drop cu) → LO G w1 (w3.setCell ⟨O, p1, none⟩ (.slice A 4096 c)) (.slice (some ⟨O, 0, none⟩) nb c2) (us.set p1 (.slice A 4096 c)) (crashTo keep (k : Int) cu D.blocks D.pending (k + 1))) := Lib.hid (by
     intro w3 A c hb3 hob
     rw [HLH.out]
     unfold crash1
     rw [if_pos rfl]
     have hL3 := HL.out.below hb3
     exact hL3.lay HG1.out (by rw [HCL.out]) (by rw [HCL.out]; exact q4) (hL3.fresh HL.out.bel.size hob (by rw [List.length_append, HLEN.out.1, HLEN.out.2]; omega)))
    clear hl5 hrp hlo hro HP HVO HL HLH hlt hk
    go_upto_region 9 with fail
    have Y1 := Lib.hid y1
    have YQ := Lib.hid yq2
    have Z2 := Lib.hid z2
    have YO := Lib.hid co
    clear y1 yq1 yq2 z0 z1 z2 co
    refine wp_region_lastL (by kernel_rfl) (by simp) (by kernel_rfl) (by kernel_rfl) ?_
    simp only [List.dropLast, List.length_cons, List.length_nil]
    refine' wpAny_to_tail (l0 := #[false, false, false, false, false, false, false, false, false, false, false]) (by kernel_rfl) (by kernel_rfl) (by kernel_rfl) (by kernel_rfl) (by kernel_rfl)
     [MP.is (.slice none 0 0), MP.is (.pointer (some ⟨w.heap.size, 1, none⟩)), MP.is (.slice (some ⟨g', o', none⟩) np wc), MP.is (.int .i64 (k : Int)), MP.is (.pointer (some ⟨g', o' + k * 2, none⟩)), MP.is (.pointer (some ⟨g', o' + k * 2 + 1, none⟩)), MP.is (.slice Ap 4096 cp), MP.is (.pointer (some ⟨w.heap.size + 1, 2, none⟩)), MP.is (.int .i64 (cu : Int)), MP.is (.slice Ap cu cp), MP.obx wr.heap.size cu (p2.take cu)]
     (fun _ => false) #[true, true, true, true, true, true, true, true, true, true, true] rfl (by kernel_rfl) rfl (by kernel_rfl) (by kernel_rfl) (by kernel_rfl) (by kernel_rfl) (fun _ => undef) (by rfl) ?hR01 ?hAA1 ?hst1 ?hend1
    case hR01 =>
     intro j hj
     have hj2 : j ∈ [] := hj
     cases hj2
    case hAA1 =>
     intro f
     conv => lhs; simp only [putA, dstOf, List.size_toArray, List.length_cons, List.length_nil, Nat.zero_add, Nat.reduceAdd, List.getElem?_toArray, List.getElem?_cons_zero, List.getElem?_cons_succ, Option.bind_some, Act.put, List.setIfInBounds_toArray, List.set_cons_zero, List.set_cons_succ]
     first | done | exact rfl
    case hst1 =>
     refine Steps.of_list (l' := [0, 1, 2, 3, 4, 5, 6, 7, 8, 9, 10]) (by kernel_rfl) ?_
     refine Steps.cons rfl ?_ ?_
     ·intro f wz hB h K Q hK
      try simp only [List.getElem_toArray, List.getElem_cons_zero]
      go_simp
      exact hK _ _ (gr_refl _) rfl
     refine Steps.cons rfl ?_ ?_
     ·intro f wz hB h K Q hK
      go_simp
      exact hK _ _ (gr_refl _) rfl
     refine Steps.cons rfl ?_ ?_
     ·intro f wz hB h K Q hK
      have h1 : (MP.is (.pointer (some ⟨w.heap.size, 1, none⟩))).p (f 1) wz := h 1 (by kernel_rfl)
      have e1 : f 1 = (.pointer (some ⟨w.heap.size, 1, none⟩)) := h1
      simp only [e1] at hK ⊢
      clear e1
      have y0 := keep_of_below hB Y1.out
      have y1 := keep_of_below hB YQ.out
      have y2 := keep_of_below hB Z2.out
      go_simp
      exact hK _ _ (gr_refl _) rfl
     refine Steps.cons rfl ?_ ?_
     ·intro f wz hB h K Q hK
      go_simp
      exact hK _ _ (gr_refl _) rfl
     refine Steps.cons rfl ?_ ?_
     ·intro f wz hB h K Q hK
      have h2 : (MP.is (.slice (some ⟨g', o', none⟩) np wc)).p (f 2) wz := h 2 (by kernel_rfl)
      have e2 : f 2 = (.slice (some ⟨g', o', none⟩) np wc) := h2
      have h3 : (MP.is (.int .i64 (k : Int))).p (f 3) wz := h 3 (by kernel_rfl)
      have e3 : f 3 = (.int .i64 (k : Int)) := h3
      simp only [e2, e3] at hK ⊢
      clear e2 e3
      go_simp
      exact hK _ _ (gr_refl _) rfl
     refine Steps.cons rfl ?_ ?_
     ·intro f wz hB h K Q hK
      have h4 : (MP.is (.pointer (some ⟨g', o' + k * 2, none⟩))).p (f 4) wz := h 4 (by kernel_rfl)
      have e4 : f 4 = (.pointer (some ⟨g', o' + k * 2, none⟩)) := h4
      simp only [e4] at hK ⊢
      clear e4
      go_simp
      exact hK _ _ (gr_refl _) rfl
     refine Steps.cons rfl ?_ ?_
     ·intro f wz hB h K Q hK
      have h5 : (MP.is (.pointer (some ⟨g', o' + k * 2 + 1, none⟩))).p (f 5) wz := h 5 (by kernel_rfl)
      have e5 : f 5 = (.pointer (some ⟨g', o' + k * 2 + 1, none⟩)) := h5
      simp only [e5] at hK ⊢
      clear e5
      have y0 := keep_of_below hB Y1.out
      have y1 := keep_of_below hB YQ.out
      have y2 := keep_of_below hB Z2.out
      go_simp
      exact hK _ _ (gr_refl _) rfl
     refine Steps.cons rfl ?_ ?_
     ·intro f wz hB h K Q hK
      go_simp
      exact hK _ _ (gr_refl _) rfl
     refine Steps.cons rfl ?_ ?_
     ·intro f wz hB h K Q hK
      have h7 : (MP.is (.pointer (some ⟨w.heap.size + 1, 2, none⟩))).p (f 7) wz := h 7 (by kernel_rfl)
      have e7 : f 7 = (.pointer (some ⟨w.heap.size + 1, 2, none⟩)) := h7
      simp only [e7] at hK ⊢
      clear e7
      have y0 := keep_of_below hB Y1.out
      have y1 := keep_of_below hB YQ.out
      have y2 := keep_of_below hB Z2.out
      go_simp
      exact hK _ _ (gr_refl _) rfl
     refine Steps.cons rfl ?_ ?_
     ·intro f wz hB h K Q hK
      have h6 : (MP.is (.slice Ap 4096 cp)).p (f 6) wz := h 6 (by kernel_rfl)
      have e6 : f 6 = (.slice Ap 4096 cp) := h6
      have h8 : (MP.is (.int .i64 (cu : Int))).p (f 8) wz := h 8 (by kernel_rfl)
      have e8 : f 8 = (.int .i64 (cu : Int)) := h8
      simp only [e6, e8] at hK ⊢
      clear e6 e8
      go_simp
      exact hK _ _ (gr_refl _) rfl
     refine Steps.cons rfl ?_ ?_
     ·intro f wz hB h K Q hK
      have h0 : (MP.is (.slice none 0 0)).p (f 0) wz := h 0 (by kernel_rfl)
      have e0 : f 0 = (.slice none 0 0) := h0
      have h9 : (MP.is (.slice Ap cu cp)).p (f 9) wz := h 9 (by kernel_rfl)
      have e9 : f 9 = (.slice Ap cu cp) := h9
      simp only [e0, e9] at hK ⊢
      clear e0 e9
      try rw [if_pos (by rfl)]
      refine wp_append_Rd _ (.tmp 30) (.tmp 39) _ rfl wr.heap.size 5 i1 _ 1 1 Tryz.underlying57 hi1 hy0 hy1 hy2 rfl (.slice none 0 0) 0 [] rfl ⟨rfl, .inl ⟨rfl, rfl⟩⟩ Ap cu cp ((p2.take cu).map bv) rfl (HRP.out.below (bel_drew hB)) (one_bv _) (by omega) (by simp only [maxLen]; omega) (bel_drew hB).size ?_
      intro v8 w8 ho8 hg8 _ _
      rw [Nat.zero_add, List.nil_append] at ho8
      obtain ⟨A8, c8, rfl, _, _⟩ := own_form ho8
      exact hK _ _ ((gr_refl _).grown hg8 (Nat.le_refl _) (by simp [Value.ownBlock])) ⟨A8, c8, rfl, ho8⟩
     exact Steps.nil
    intro f w3 hB3 hR
    conv => arg 7; simp only [putL, dstOf, List.size_toArray, List.length_cons, List.length_nil, Nat.zero_add, Nat.reduceAdd, List.getElem?_toArray, List.getElem?_cons_zero, List.getElem?_cons_succ, Option.bind_some, Act.put, List.setIfInBounds_toArray, List.set_cons_zero, List.set_cons_succ, Array.getD_eq_getD_getElem?, Option.getD_some, if_true, if_false, Bool.false_eq_true]
    have e0 : f 0 = (.slice none 0 0) := hR 0 (by decide) rfl
    have e1 : f 1 = (.pointer (some ⟨w.heap.size, 1, none⟩)) := hR 1 (by decide) rfl
    have e2 : f 2 = (.slice (some ⟨g', o', none⟩) np wc) := hR 2 (by decide) rfl
    have e3 : f 3 = (.int .i64 (k : Int)) := hR 3 (by decide) rfl
    have e4 : f 4 = (.pointer (some ⟨g', o' + k * 2, none⟩)) := hR 4 (by decide) rfl
    have e5 : f 5 = (.pointer (some ⟨g', o' + k * 2 + 1, none⟩)) := hR 5 (by decide) rfl
    have e6 : f 6 = (.slice Ap 4096 cp) := hR 6 (by decide) rfl
    have e7 : f 7 = (.pointer (some ⟨w.heap.size + 1, 2, none⟩)) := hR 7 (by decide) rfl
    have e8 : f 8 = (.int .i64 (cu : Int)) := hR 8 (by decide) rfl
    have e9 : f 9 = (.slice Ap cu cp) := hR 9 (by decide) rfl
    obtain ⟨A103, c103, e10, r103⟩ := (show (MP.obx wr.heap.size cu (p2.take cu)).p (f 10) w3 from hR 10 (by decide) rfl)
    simp only [e0, e1, e2, e3, e4, e5, e6, e7, e8, e9, e10]
    clear e0 e1 e2 e3 e4 e5 e6 e7 e8 e9 e10 hR
    refine wpAny_of_held (S := fun _ => True) _ _ _ _ ?_
    refine wpAnyH_done (by kernel_rfl) ?_ _
    refine lastQ_step (o := _) rfl (fun KK hK => ?_)
    go_simp
    refine hK _ _ ?_
    clear hK KK
    have hb3 := bel_drew hB3
    have YO3 := Lib.hid (keep_of_below hb3 YO.out)
    have Z23 := Lib.hid (keep_of_below hb3 Z2.out)
    have HR3 := Lib.hid r103
    clear r103 YQ Y1
    go_upto_region 10 with fail
    refine wp_region_lastL (by kernel_rfl) (by simp) (by kernel_rfl) (by kernel_rfl) ?_
    simp only [List.dropLast, List.length_cons, List.length_nil]
    refine wpAny_take (i := 0) (v := (.slice (some ⟨O, 0, none⟩) nb c2)) rfl (by kernel_rfl) (by kernel_rfl) (by kernel_rfl) (fun _ _ _ h => h) (Or.inl ⟨by rfl, fun _ => rfl⟩) ?_
    simp only [Act.put, List.getElem_toArray, List.getElem_cons_zero, List.setIfInBounds_toArray, List.set_cons_zero, List.set_cons_succ]
    refine wpAny_take (i := 1) (v := (.int .i64 (p1 : Int))) rfl (by kernel_rfl) (by kernel_rfl) (by kernel_rfl) (fun _ _ _ h => h) (Or.inl ⟨by rfl, fun _ => rfl⟩) ?_
    simp only [Act.put, List.getElem_toArray, List.getElem_cons_succ, List.getElem_cons_zero, List.setIfInBounds_toArray, List.set_cons_zero, List.set_cons_succ]
    refine' wpAny_to_tail (l0 := #[true, true, false, false, false, false, false, false, false, false, false, false]) (by kernel_rfl) (by kernel_rfl) (by kernel_rfl) (by kernel_rfl) (by kernel_rfl)
     [MP.is (.slice (some ⟨O, 0, none⟩) nb c2), MP.is (.int .i64 (p1 : Int)), MP.is (.slice A103 cu c103), MP.is (.slice (some ⟨O, 0, none⟩) nb c2), MP.is (.int .i64 (p1 : Int)), MP.is (.pointer (some ⟨O, p1, none⟩)), MP.is (.slice Ao 4096 cO2), MP.is (.pointer (some ⟨w.heap.size + 1, 2, none⟩)), MP.is (.int .i64 (cu : Int)), MP.is (.slice (cutA Ao cO2 cu 1) (4096 - cu) (cO2 - cu)), MP.any, MP.is (.pointer (some ⟨O, p1, none⟩))]
     (fun j => j == 10 || j == 11) #[true, true, true, true, true, true, true, true, true, true, false, false] rfl (by kernel_rfl) rfl (by kernel_rfl) (by kernel_rfl) (by kernel_rfl) (by kernel_rfl) (fun j => if j = 0 then (.slice (some ⟨O, 0, none⟩) nb c2) else if j = 1 then (.int .i64 (p1 : Int)) else undef) (by rfl) ?hR02 ?hAA2 ?hst2 ?hend2
    case hR02 =>
     intro j hj
     have hj2 : j ∈ [0, 1] := hj
     simp only [List.mem_cons, List.not_mem_nil, or_false] at hj2
     rcases hj2 with rfl | rfl
     all_goals exact rfl
    case hAA2 =>
     intro f
     conv => lhs; simp only [putA, dstOf, List.size_toArray, List.length_cons, List.length_nil, Nat.zero_add, Nat.reduceAdd, List.getElem?_toArray, List.getElem?_cons_zero, List.getElem?_cons_succ, Option.bind_some, Act.put, List.setIfInBounds_toArray, List.set_cons_zero, List.set_cons_succ]
     first | done | exact rfl
    case hst2 =>
     refine Steps.of_list (l' := [2, 3, 4, 5, 6, 7, 8, 9]) (by kernel_rfl) ?_
     refine Steps.cons rfl ?_ ?_
     ·intro f wz hB h K Q hK
      go_simp
      exact hK _ _ (gr_refl _) rfl
     refine Steps.cons rfl ?_ ?_
     ·intro f wz hB h K Q hK
      go_simp
      exact hK _ _ (gr_refl _) rfl
     refine Steps.cons rfl ?_ ?_
     ·intro f wz hB h K Q hK
      go_simp
      exact hK _ _ (gr_refl _) rfl
     refine Steps.cons rfl ?_ ?_
     ·intro f wz hB h K Q hK
      have h3 : (MP.is (.slice (some ⟨O, 0, none⟩) nb c2)).p (f 3) wz := h 3 (by kernel_rfl)
      have e3 : f 3 = (.slice (some ⟨O, 0, none⟩) nb c2) := h3
      have h4 : (MP.is (.int .i64 (p1 : Int))).p (f 4) wz := h 4 (by kernel_rfl)
      have e4 : f 4 = (.int .i64 (p1 : Int)) := h4
      simp only [e3, e4] at hK ⊢
      clear e3 e4
      go_simp
      exact hK _ _ (gr_refl _) rfl
     refine Steps.cons rfl ?_ ?_
     ·intro f wz hB h K Q hK
      have h5 : (MP.is (.pointer (some ⟨O, p1, none⟩))).p (f 5) wz := h 5 (by kernel_rfl)
      have e5 : f 5 = (.pointer (some ⟨O, p1, none⟩)) := h5
      simp only [e5] at hK ⊢
      clear e5
      have y0 := keep_of_below hB YO3.out
      have y1 := keep_of_below hB Z23.out
      go_simp
      exact hK _ _ (gr_refl _) rfl
     refine Steps.cons rfl ?_ ?_
     ·intro f wz hB h K Q hK
      go_simp
      exact hK _ _ (gr_refl _) rfl
     refine Steps.cons rfl ?_ ?_
     ·intro f wz hB h K Q hK
      have h7 : (MP.is (.pointer (some ⟨w.heap.size + 1, 2, none⟩))).p (f 7) wz := h 7 (by kernel_rfl)
      have e7 : f 7 = (.pointer (some ⟨w.heap.size + 1, 2, none⟩)) := h7
      simp only [e7] at hK ⊢
      clear e7
      have y0 := keep_of_below hB YO3.out
      have y1 := keep_of_below hB Z23.out
      go_simp
      exact hK _ _ (gr_refl _) rfl
     refine Steps.cons rfl ?_ ?_
     ·intro f wz hB h K Q hK
      have h6 : (MP.is (.slice Ao 4096 cO2)).p (f 6) wz := h 6 (by kernel_rfl)
      have e6 : f 6 = (.slice Ao 4096 cO2) := h6
      have h8 : (MP.is (.int .i64 (cu : Int))).p (f 8) wz := h 8 (by kernel_rfl)
      have e8 : f 8 = (.int .i64 (cu : Int)) := h8
      simp only [e6, e8] at hK ⊢
      clear e6 e8
      go_simp
      exact hK _ _ (gr_refl _) rfl
     exact Steps.nil
    intro f w4 hB4 hR
    conv => arg 7; simp only [putL, dstOf, List.size_toArray, List.length_cons, List.length_nil, Nat.zero_add, Nat.reduceAdd, List.getElem?_toArray, List.getElem?_cons_zero, List.getElem?_cons_succ, Option.bind_some, Act.put, List.setIfInBounds_toArray, List.set_cons_zero, List.set_cons_succ, Array.getD_eq_getD_getElem?, Option.getD_some, if_true, if_false, Bool.false_eq_true]
    have e0 : f 0 = (.slice (some ⟨O, 0, none⟩) nb c2) := hR 0 (by decide) rfl
    have e1 : f 1 = (.int .i64 (p1 : Int)) := hR 1 (by decide) rfl
    have e2 : f 2 = (.slice A103 cu c103) := hR 2 (by decide) rfl
    have e3 : f 3 = (.slice (some ⟨O, 0, none⟩) nb c2) := hR 3 (by decide) rfl
    have e4 : f 4 = (.int .i64 (p1 : Int)) := hR 4 (by decide) rfl
    have e5 : f 5 = (.pointer (some ⟨O, p1, none⟩)) := hR 5 (by decide) rfl
    have e6 : f 6 = (.slice Ao 4096 cO2) := hR 6 (by decide) rfl
    have e7 : f 7 = (.pointer (some ⟨w.heap.size + 1, 2, none⟩)) := hR 7 (by decide) rfl
    have e8 : f 8 = (.int .i64 (cu : Int)) := hR 8 (by decide) rfl
    have e9 : f 9 = (.slice (cutA Ao cO2 cu 1) (4096 - cu) (cO2 - cu)) := hR 9 (by decide) rfl
    simp only [e0, e1, e2, e3, e4, e5, e6, e7, e8, e9]
    clear e0 e1 e2 e3 e4 e5 e6 e7 e8 e9 hR
    have hb4 := gr_trans hb3 (bel_drew hB4)
    have hr4 := ownsRow_off HR3.out (Off.of_below (S := fun _ => False) (bel_drew hB4)) (fun _ _ h => h)
    refine wpAny_of_held (S := fun _ => True) _ _ _ _ ?_
    refine wpAnyH_ready (rs := [10]) (by kernel_rfl) (by simp) ?_
    refine AllReadyH.cons rfl (fun KK hK => ?_) AllReadyH.nil
    rw [if_pos (by rfl)]
    refine wp_append_Rd _ (.tmp 43) (.tmp 50) _ rfl wr.heap.size 5 i1 _ 1 1 Tryz.underlying57 hi1 hy0 hy1 hy2 rfl (.slice A103 cu c103) cu ((p2.take cu).map bv) rfl hr4 (cutA Ao cO2 cu 1) (4096 - cu) (cO2 - cu) ((((crashTo keep (k : Int) cu D.blocks D.pending k).getD p1 []).drop cu).map bv) rfl (HRO.out.below hb4) (one_bv _) (by omega) (by simp only [maxLen]; omega) hb4.size ?_
    intro v8 w8 ho8 hg8 _ _
    rw [show cu + (4096 - cu) = 4096 from by omega, ← List.map_append] at ho8
    have hb8 := gr_own hb4 hr4 hg8
    obtain ⟨A8, c8, rfl, _, _⟩ := own_form ho8
    have HF := Lib.hid (HSTEP.out w8 A8 c8 hb8 (by unfold OB; rw [List.length_append, HLEN.out.1, HLEN.out.2, show cu + (4096 - cu) = 4096 from by omega]; exact ho8))
    have co8 := keep_of_below hb8 YO.out
    have fo8 := (hb8.frozen (p := ⟨O, p1, none⟩) (World.block_lt_of_cell? _ _ YO.out)).trans fo
    clear ho8 hg8 hr4 hb4 hb3 fo
    refine hK.out _ _ trivial (fun _ => ?_)
    clear hK KK
    try simp only [Act.put, List.setIfInBounds_toArray, List.set_cons_zero, List.set_cons_succ]
    refine wpAnyH_ready (rs := [11]) (by kernel_rfl) (by simp) ?_
    refine AllReadyH.cons rfl (fun KK hK => ?_) AllReadyH.nil
    go_simp
    refine hK.out _ _ trivial (fun _ => ?_)
    clear hK KK
    try simp only [List.setIfInBounds_toArray, List.set_cons_zero, List.set_cons_succ]
    refine wpAnyH_done (by kernel_rfl) ?_ _
    refine lastQ_step (o := _) rfl (fun KK hK => ?_)
    go_simp
    refine hK _ _ ?_
    clear hK KK
    go_wp2_with fail
    go_roundw
    case rel => exact ⟨k + 1, _, by omega, by go_num, HF⟩
    case measure => simp [intOf]; omega
   ·have t2 : ((k : Int) == torn) = false := beq_eq_false_iff_ne.2 ht
    by_cases hkp : keep.getD k false = true
    ·have hkn : k < nk := by
      rcases Nat.lt_or_ge k nk with h | h
      ·exact h
      ·rw [List.getD, List.getElem?_eq_none (by rw [HKK.out.len]; exact h)] at hkp; cases hkp
     have hKr : LR wr K nk keep := HKK.out.below HBW.out
     obtain ⟨gk, ok', eK, ck0⟩ := hKr.at_ hkn
     rw [hkp] at ck0
     subst eK
     have t3 : decide ((k : Int) < (nk : Int)) = true := decide_eq_true (by omega)
     have t3' : decide (k < nk) = true := decide_eq_true hkn
     have k3 : (k : Int) < (nk : Int) := by omega
     have HNEW : Hid (LO G w1 (wr.setCell ⟨O, p1, none⟩ u') (.slice (some ⟨O, 0, none⟩) nb c2) (us.set p1 u') (crashTo keep torn cu D.blocks D.pending (k + 1))) := Lib.hid (by
      rw [HLH.out]
      unfold crash1
      rw [if_neg ht, if_pos hkp]
      exact HL.out.lay HG1.out (by rw [HCL.out]) (by rw [HCL.out]; exact q4) (HP.out.mono (fun _ h => .inl h)))
     obtain ⟨_, Ap, cp, rfl, _, _, _, _⟩ := HP.out
     clear HL HLH HP hkp ht hKr HVO
     go_wp2_with fail
     go_roundw
     case rel => exact ⟨k + 1, _, by omega, by go_num, HNEW⟩
     case measure => simp [intOf]; omega
    ·have HNEW : Hid (LO G w1 wr (.slice (some ⟨O, 0, none⟩) nb c2) us (crashTo keep torn cu D.blocks D.pending (k + 1))) := Lib.hid (by
      rw [HLH.out]
      unfold crash1
      rw [if_neg ht, if_neg hkp]
      exact HL.out)
     by_cases hkn : k < nk
     ·have hKr : LR wr K nk keep := HKK.out.below HBW.out
      obtain ⟨gk, ok', eK, ck0⟩ := hKr.at_ hkn
      have hkf : keep.getD k false = false := by simpa using hkp
      rw [hkf] at ck0
      subst eK
      have t3 : decide ((k : Int) < (nk : Int)) = true := decide_eq_true (by omega)
      have t3' : decide (k < nk) = true := decide_eq_true hkn
      have k3 : (k : Int) < (nk : Int) := by omega
      clear HL HLH HP hkp hkf ht hKr HVO
      go_wp2_with fail
      go_roundw
      case rel => exact ⟨k + 1, us, by omega, by go_num, HNEW⟩
      case measure => simp [intOf]; omega
     ·have t3 : decide ((k : Int) < (nk : Int)) = false := decide_eq_false (by omega)
      have t3' : decide (k < nk) = false := decide_eq_false hkn
      clear HL HLH HP hkp ht HVO
      go_wp2_with fail
      go_roundw
      case rel => exact ⟨k + 1, us, by omega, by go_num, HNEW⟩
      case measure => simp [intOf]; omega
  ·obtain rfl : k = np := by omega
   have t1 : decide ((k : Int) < (k : Int)) = false := decide_eq_false (by omega)
   clear z0 z1 z2
   go_wp2_with fail
   go_ret
   have hrow := HL.out.row
   rw [HCL.out] at hrow
   rw [HNB.out, HNP.out]
   refine ⟨A2, c2, us, rfl, hc2, hc2', ⟨Rd.of_own hrow, fun ad e h0 => .inr ⟨?_, ?_⟩⟩, fun i u l h1 h2 => ?_, HBW.out⟩
   ·obtain ⟨g, c, e2⟩ := own_plain hrow h0
    injection e2 with e2 _ _
    rw [e] at e2
    cases e2
    have := (hrow.lt g (by rw [e]; rfl)).1
    show w.heap.size ≤ g
    omega
   ·obtain ⟨cur, fr, h3⟩ := own_at hrow e
    exact (Array.getElem?_eq_some_iff.1 h3).1
   ·refine VG.shut (w0 := w) (P := fun _ => True) ((HL.out.bv i u l h1 h2).mono (fun k hk => ?_))
    rcases hk with h | ⟨h, _⟩
    ·exact .inl h
    ·exact .inr ⟨by omega, trivial⟩
end Go.Proofs.YtmdgnjmhbjdlmaaGreat

/-! DpH -/
namespace Go.Proofs.YtmdgnjmhbjdlmaaGreat
open Go.RowKit
theorem B6.set0 {w : World} {g : Nat} {x0 x1 x2 x3 x4 x5 : Value} (h : B6 w g x0 x1 x2 x3 x4 x5) (u : Value) : B6 (w.setCell ⟨g, 0, none⟩ u) g u x1 x2 x3 x4 x5 := by
 unfold B6 at h ⊢
 simp only [World.setCell, Array.getElem?_modify, if_pos, h]
 rfl
theorem B6.set1 {w : World} {g : Nat} {x0 x1 x2 x3 x4 x5 : Value} (h : B6 w g x0 x1 x2 x3 x4 x5) (u : Value) : B6 (w.setCell ⟨g, 1, none⟩ u) g x0 u x2 x3 x4 x5 := by
 unfold B6 at h ⊢
 simp only [World.setCell, Array.getElem?_modify, if_pos, h]
 rfl
theorem set6o {w : World} {g : Nat} {y0 y1 y2 y3 y4 y5 : Value} (h : B6 w g y0 y1 y2 y3 y4 y5) (u0 u1 u2 u3 u4 u5 : Value) {w0 : World} (hb : Below w0.heap.size w0 w) (hg : w0.heap.size ≤ g) :
  ∀ w2, w2 = (((((w.setCell ⟨g, 0, none⟩ u0).setCell ⟨g, 1, none⟩ u1).setCell ⟨g, 2, none⟩ u2).setCell ⟨g, 3, none⟩ u3).setCell ⟨g, 4, none⟩ u4).setCell ⟨g, 5, none⟩ u5 → B6 w2 g u0 u1 u2 u3 u4 u5 ∧ Below w0.heap.size w0 w2 ∧ Off (· = g) w w2 := by
 intro w2 e
 obtain ⟨a, b⟩ := set6 h u0 u1 u2 u3 u4 u5 hb hg w2 e
 refine ⟨a, b, ?_⟩
 rw [e]
 exact ((((((Off.refl (· = g) w).setCell _ rfl).setCell _ rfl).setCell _ rfl).setCell _ rfl).setCell _ rfl).setCell _ rfl
theorem threeC (w : World) (x0 x1 x2 x3 x4 x5 y0 y1 y2 : Value) : ∀ w1, w1 = ((w.alloc (.cells #[x0, x1, x2, x3, x4, x5] 33)).alloc (.cells #[y0, y1, y2] 47)).alloc (.cells #[.slice none 0 0, .slice none 0 0, .bool false, .int .i64 0, .int .i64 0, .int .i64 0] 33) →
  B6 w1 w.heap.size x0 x1 x2 x3 x4 x5 ∧ w1.heap[w.heap.size + 1]? = some (.cells #[y0, y1, y2] 47 (0, 0)) ∧ B6 w1 (w.heap.size + 1 + 1) (.slice none 0 0) (.slice none 0 0) (.bool false) (.int .i64 0) (.int .i64 0) (.int .i64 0) ∧ Below w.heap.size w w1 := by
 rintro w1 rfl
 obtain ⟨a, b, c⟩ := twoC w x0 x1 x2 x3 x4 x5 y0 y1 y2 _ rfl
 have hs : ((w.alloc (.cells #[x0, x1, x2, x3, x4, x5] 33)).alloc (.cells #[y0, y1, y2] 47)).heap.size = w.heap.size + 1 + 1 := by rw [World.size_alloc, World.size_alloc]
 generalize (w.alloc (.cells #[x0, x1, x2, x3, x4, x5] 33)).alloc (.cells #[y0, y1, y2] 47) = w2 at *
 have hb := gr_alloc (gr_refl w2) (.cells #[.slice none 0 0, .slice none 0 0, .bool false, .int .i64 0, .int .i64 0, .int .i64 0] 33)
 refine ⟨a.below hb, (hb.block _ (Array.getElem?_eq_some_iff.1 b).1).trans b, ?_, gr_trans c hb⟩
 rw [← hs]
 exact B6.new w2 _ _ _ _ _ _
theorem plusG.mono {G : Nat → Prop} {w w1 w2 w3 : World} (h1 : w.heap.size ≤ w1.heap.size) (h2 : w2.heap.size ≤ w3.heap.size) : ∀ k, plusG G w1 w2 k → plusG G w w3 k := by
 rintro k (h | ⟨h, h'⟩)
 ·exact .inl h
 ·exact .inr ⟨by omega, by omega⟩
theorem RK.of_left {G : Nat → Prop} {w : World} {A : Option Addr} {c n : Nat} {us : List Value} {bs : List (List UInt8)} (hn : bs.length = n) (h1 : n ≤ c) (h2 : c ≤ maxLen) (hr : RdG G w 1 A n us) (hv : ∀ (i : Nat) (u : Value) (l : List UInt8), us[i]? = some u → bs[i]? = some l → VG G w u l) (dn : Bool) (po fa wi : Int) :
  RK G w (.agg #[.slice A n c, .slice none 0 0, .bool dn, .int .i64 po, .int .i64 fa, .int .i64 wi]) ⟨bs, [], dn, po, fa, wi⟩ := by
 subst hn
 exact ⟨A, c, none, 0, us, [], rfl, h1, h2, Nat.le_refl _, by simp [maxLen], ⟨hr, hv, ⟨⟨rfl, fun h => absurd h (by simp)⟩, fun _ e => by cases e⟩, fun i q p h => by simp at h, rfl⟩⟩
theorem opV_any (bA wA : Option Addr) (bn bc wn wc : Nat) (dn : Bool) (po fa wi : Int) (w : World) (p1 : -1 ≤ po) (p2 : po ≤ 9223372036854775807) (f1 : -1 ≤ fa) (f2 : fa ≤ 9223372036854775807) :
  Calls Tryz.prog 88 #[.agg #[.slice bA bn bc, .slice wA wn wc, .bool dn, .int .i64 po, .int .i64 fa, .int .i64 wi]] w fun e w' => e = .returned (.tuple #[.agg #[.slice bA bn bc, .slice wA wn wc, .bool (opD dn po), .int .i64 (opL dn po), .int .i64 (opL dn fa), .int .i64 wi], .int .i64 (opE dn po fa wi)]) ∧ Below w.heap.size w w' := by
 cases dn
 ·exact opV_up bA wA bn bc wn wc po fa wi w p1 p2 f1 f2
 ·exact opV_down bA wA bn bc wn wc po fa wi w
set_option maxRecDepth 100000 in
set_option maxHeartbeats 4000000 in
theorem refCrash_any (G : Nat → Prop) (v : Value) (D : DiskS) (K : Option Addr) (nk ck : Nat) (keep : List Bool) (torn cut : Int) (w : World) (h : RK G w v D) (hG : ∀ k, G k → k < w.heap.size) (hK : LR w K nk keep) (hnk : nk ≤ 9223372036854775807) (hn1 : D.blocks.length ≤ 4096) (hp : D.pending.length ≤ 1000000) :
  Calls Tryz.prog 40 #[v, .agg #[.slice K nk ck, .int .i64 torn, .int .i64 cut]] w fun e w' => ∃ v', e = .returned (.tuple #[v', .int .i64 (crashE cut)]) ∧ RK (plusG G w w') w' v' (crashD D keep torn cut) ∧ Below w.heap.size w w' := by
 have HR := Lib.hid h
 have HG := Lib.hid hG
 have HL : Hid (∀ (W : World) (cu : Nat), Below w.heap.size w W → cu ≤ 4096 → _) := Lib.hid (fun W cu hb hcu => refLeft_any G v D K nk ck keep torn cu W (h.below hb) (fun k hk => Nat.lt_of_lt_of_le (hG k hk) hb.size) (hK.below hb) hnk hcu hn1 hp)
 obtain ⟨bA, bc, wA, wc, bus, wus, rfl, k1, k2, k3, k4, hd⟩ := h
 have HT := Lib.hid (threeC w (.slice bA D.blocks.length bc) (.slice wA D.pending.length wc) (.bool D.down) (.int .i64 D.power) (.int .i64 D.fault) (.int .i64 D.wi) (.slice K nk ck) (.int .i64 torn) (.int .i64 cut))
 have HLN : Hid (∀ cu k, (crashTo keep torn cu D.blocks D.pending k).length = D.blocks.length) := Lib.hid (fun cu k => crashTo_len _ _ _ _ _ k)
 clear hd hG hK k1 k2 k3 k4
 by_cases hc : cut < 0 ∨ 4096 < cut
 ·have HE : Hid (crashE cut = 2) := Lib.hid (by unfold crashE; rw [if_pos hc])
  have HD : Hid (crashD D keep torn cut = D) := Lib.hid (by unfold crashD; rw [if_pos (by rw [HE.out]; simp)])
  have HF : Hid (∀ wf, Below w.heap.size w wf → _) := Lib.hid (fun wf hb => (HR.out.below hb).mono (G' := plusG G w wf) (fun k hk => .inl hk))
  clear HL HR HLN
  generalize D.blocks.length = bn at *
  generalize D.pending.length = wn at *
  by_cases c1 : cut < 0
  ·have t1 : decide (cut < 0) = true := decide_eq_true c1
   go_enter Tryz.func40, Tryz.ntmps40
   go_upto_region 1 with fail
   obtain ⟨x1, x2, x3, hb⟩ := HT.out _ rfl
   generalize ((w.alloc (.cells #[.slice bA bn bc, .slice wA wn wc, .bool D.down, .int .i64 D.power, .int .i64 D.fault, .int .i64 D.wi] 33)).alloc (.cells #[.slice K nk ck, .int .i64 torn, .int .i64 cut] 47)).alloc (.cells #[.slice none 0 0, .slice none 0 0, .bool false, .int .i64 0, .int .i64 0, .int .i64 0] 33) = w1 at *
   have q2 : w1.cell? ⟨w.heap.size + 1, 2, none⟩ = some (.int .i64 cut) := by rw [cell_of_row w1 _ 2 _ _ _ x2]; rfl
   go_upto_region 2 with fail
   have y0 := x1.c0
   have y1 := x1.c1
   have y2 := x1.c2
   have y3 := x1.c3
   have y4 := x1.c4
   have y5 := x1.c5
   have r0 := x3.c0
   have r1 := x3.c1
   have r2 := x3.c2
   have r3 := x3.c3
   have r4 := x3.c4
   have r5 := x3.c5
   have f0 := x3.fz 0
   have f1 := x3.fz 1
   have f2 := x3.fz 2
   have f3 := x3.fz 3
   have f4 := x3.fz 4
   have f5 := x3.fz 5
   have HS := Lib.hid (set6o x3 (.slice bA bn bc) (.slice wA wn wc) (.bool D.down) (.int .i64 D.power) (.int .i64 D.fault) (.int .i64 D.wi) hb (by omega))
   go_wp2_with fail
   clear r0 f0 r1 f1 r2 f2 r3 f3 r4 f4 r5 f5
   obtain ⟨s1, s2, s3⟩ := HS.out _ rfl
   clear HS
   generalize ((((((w1.setCell ⟨w.heap.size + 1 + 1, 0, none⟩ (.slice bA bn bc)).setCell ⟨w.heap.size + 1 + 1, 1, none⟩ (.slice wA wn wc)).setCell ⟨w.heap.size + 1 + 1, 2, none⟩ (.bool D.down)).setCell ⟨w.heap.size + 1 + 1, 3, none⟩ (.int .i64 D.power)).setCell ⟨w.heap.size + 1 + 1, 4, none⟩ (.int .i64 D.fault)).setCell ⟨w.heap.size + 1 + 1, 5, none⟩ (.int .i64 D.wi)) = wf at *
   have z0 := s1.c0
   have z1 := s1.c1
   have z2 := s1.c2
   have z3 := s1.c3
   have z4 := s1.c4
   have z5 := s1.c5
   refine bodyPost_ret (v := .tuple #[.agg #[.slice bA bn bc, .slice wA wn wc, .bool D.down, .int .i64 D.power, .int .i64 D.fault, .int .i64 D.wi], .int .i64 (2)]) (by simp [results, Tryz.results40, go_sem, z0, z1, z2, z3, z4, z5]) rfl ?_
   rw [HE.out, HD.out]
   exact ⟨_, rfl, HF.out wf s2, s2⟩
  ·have t1 : decide (cut < 0) = false := decide_eq_false c1
   have t2 : decide (4096 < cut) = true := decide_eq_true (by omega)
   go_enter Tryz.func40, Tryz.ntmps40
   go_upto_region 1 with fail
   obtain ⟨x1, x2, x3, hb⟩ := HT.out _ rfl
   generalize ((w.alloc (.cells #[.slice bA bn bc, .slice wA wn wc, .bool D.down, .int .i64 D.power, .int .i64 D.fault, .int .i64 D.wi] 33)).alloc (.cells #[.slice K nk ck, .int .i64 torn, .int .i64 cut] 47)).alloc (.cells #[.slice none 0 0, .slice none 0 0, .bool false, .int .i64 0, .int .i64 0, .int .i64 0] 33) = w1 at *
   have q2 : w1.cell? ⟨w.heap.size + 1, 2, none⟩ = some (.int .i64 cut) := by rw [cell_of_row w1 _ 2 _ _ _ x2]; rfl
   go_upto_region 2 with fail
   have y0 := x1.c0
   have y1 := x1.c1
   have y2 := x1.c2
   have y3 := x1.c3
   have y4 := x1.c4
   have y5 := x1.c5
   have r0 := x3.c0
   have r1 := x3.c1
   have r2 := x3.c2
   have r3 := x3.c3
   have r4 := x3.c4
   have r5 := x3.c5
   have f0 := x3.fz 0
   have f1 := x3.fz 1
   have f2 := x3.fz 2
   have f3 := x3.fz 3
   have f4 := x3.fz 4
   have f5 := x3.fz 5
   have HS := Lib.hid (set6o x3 (.slice bA bn bc) (.slice wA wn wc) (.bool D.down) (.int .i64 D.power) (.int .i64 D.fault) (.int .i64 D.wi) hb (by omega))
   go_wp2_with fail
   clear r0 f0 r1 f1 r2 f2 r3 f3 r4 f4 r5 f5
   obtain ⟨s1, s2, s3⟩ := HS.out _ rfl
   clear HS
   generalize ((((((w1.setCell ⟨w.heap.size + 1 + 1, 0, none⟩ (.slice bA bn bc)).setCell ⟨w.heap.size + 1 + 1, 1, none⟩ (.slice wA wn wc)).setCell ⟨w.heap.size + 1 + 1, 2, none⟩ (.bool D.down)).setCell ⟨w.heap.size + 1 + 1, 3, none⟩ (.int .i64 D.power)).setCell ⟨w.heap.size + 1 + 1, 4, none⟩ (.int .i64 D.fault)).setCell ⟨w.heap.size + 1 + 1, 5, none⟩ (.int .i64 D.wi)) = wf at *
   have z0 := s1.c0
   have z1 := s1.c1
   have z2 := s1.c2
   have z3 := s1.c3
   have z4 := s1.c4
   have z5 := s1.c5
   refine bodyPost_ret (v := .tuple #[.agg #[.slice bA bn bc, .slice wA wn wc, .bool D.down, .int .i64 D.power, .int .i64 D.fault, .int .i64 D.wi], .int .i64 (2)]) (by simp [results, Tryz.results40, go_sem, z0, z1, z2, z3, z4, z5]) rfl ?_
   rw [HE.out, HD.out]
   exact ⟨_, rfl, HF.out wf s2, s2⟩
 ·obtain ⟨cu, rfl⟩ := Int.eq_ofNat_of_zero_le (show 0 ≤ cut by omega)
  have hcu : cu ≤ 4096 := by omega
  have t1 : decide ((cu : Int) < 0) = false := decide_eq_false (by omega)
  have t2 : decide (4096 < (cu : Int)) = false := decide_eq_false (by omega)
  have HE : Hid (crashE (cu : Int) = 0) := Lib.hid (by unfold crashE; rw [if_neg hc])
  have HD : Hid (crashD D keep torn (cu : Int) = ⟨crashTo keep torn cu D.blocks D.pending D.pending.length, [], false, -1, -1, 0⟩) := Lib.hid (by unfold crashD; rw [if_neg (by rw [HE.out]; simp), Int.toNat_natCast])
  have HLN1 := Lib.hid (HLN.out cu D.pending.length)
  have HL := Lib.hid (fun W hb => HL.out W cu hb hcu)
  clear hc HR HLN
  generalize crashTo keep torn cu D.blocks D.pending D.pending.length = bs at *
  generalize D.blocks.length = bn at *
  generalize D.pending.length = wn at *
  go_enter Tryz.func40, Tryz.ntmps40
  go_upto_region 1 with fail
  obtain ⟨x1, x2, x3, hb⟩ := HT.out _ rfl
  generalize ((w.alloc (.cells #[.slice bA bn bc, .slice wA wn wc, .bool D.down, .int .i64 D.power, .int .i64 D.fault, .int .i64 D.wi] 33)).alloc (.cells #[.slice K nk ck, .int .i64 torn, .int .i64 (cu : Int)] 47)).alloc (.cells #[.slice none 0 0, .slice none 0 0, .bool false, .int .i64 0, .int .i64 0, .int .i64 0] 33) = w1 at *
  have q2 : w1.cell? ⟨w.heap.size + 1, 2, none⟩ = some (.int .i64 (cu : Int)) := by rw [cell_of_row w1 _ 2 _ _ _ x2]; rfl
  go_upto_region 3 with fail
  have q0 : w1.cell? ⟨w.heap.size + 1, 0, none⟩ = some (.slice K nk ck) := by rw [cell_of_row w1 _ 0 _ _ _ x2]; rfl
  have q1 : w1.cell? ⟨w.heap.size + 1, 1, none⟩ = some (.int .i64 torn) := by rw [cell_of_row w1 _ 1 _ _ _ x2]; rfl
  have hs1 : w.heap.size + 1 + 1 < w1.heap.size := (Array.getElem?_eq_some_iff.1 x3).1
  have y0 := x1.c0
  have y1 := x1.c1
  have y2 := x1.c2
  have y3 := x1.c3
  have y4 := x1.c4
  have y5 := x1.c5
  go_wp2_with fail
  refine (HL.out w1 hb).mono ?_
  rintro e w2 ⟨A, c, us, rfl, l1, l2, l3, l4, hb2⟩
  have x3 := x3.below hb2
  have hb := gr_trans hb (hb2.mono (by omega))
  have HF : Hid (∀ wf, Off (· = w.heap.size + 1 + 1) w2 wf → RK (plusG G w wf) wf (.agg #[.slice A bn c, .slice none 0 0, .bool false, .int .i64 (-1), .int .i64 (-1), .int .i64 0]) ⟨bs, [], false, -1, -1, 0⟩) := Lib.hid (fun wf ho =>
   ((RK.of_left HLN1.out l1 l2 l3 l4 false (-1) (-1) 0).off ho (by
    rintro k rfl (hk | ⟨hk, _⟩)
    ·have := HG.out _ hk; omega
    ·omega)).mono (plusG.mono (by omega) ho.size))
  clear l3 l4 y0 y1 y2 y3 y4 y5 q0 q1 q2 x1 x2 HL HT
  have r0 := x3.c0
  have r1 := x3.c1
  have r2 := x3.c2
  have r3 := x3.c3
  have r4 := x3.c4
  have r5 := x3.c5
  have f0 := x3.fz 0
  have f1 := x3.fz 1
  have f2 := x3.fz 2
  have f3 := x3.fz 3
  have f4 := x3.fz 4
  have f5 := x3.fz 5
  have HS := Lib.hid (set6o x3 (.slice A bn c) (.slice none 0 0) (.bool false) (.int .i64 (-1)) (.int .i64 (-1)) (.int .i64 0) hb (by omega))
  go_wp2_with fail
  clear r0 f0 r1 f1 r2 f2 r3 f3 r4 f4 r5 f5
  obtain ⟨s1, s2, s3⟩ := HS.out _ rfl
  clear HS
  generalize ((((((w2.setCell ⟨w.heap.size + 1 + 1, 0, none⟩ (.slice A bn c)).setCell ⟨w.heap.size + 1 + 1, 1, none⟩ (.slice none 0 0)).setCell ⟨w.heap.size + 1 + 1, 2, none⟩ (.bool false)).setCell ⟨w.heap.size + 1 + 1, 3, none⟩ (.int .i64 (-1))).setCell ⟨w.heap.size + 1 + 1, 4, none⟩ (.int .i64 (-1))).setCell ⟨w.heap.size + 1 + 1, 5, none⟩ (.int .i64 0)) = wf at *
  have z0 := s1.c0
  have z1 := s1.c1
  have z2 := s1.c2
  have z3 := s1.c3
  have z4 := s1.c4
  have z5 := s1.c5
  refine bodyPost_ret (v := .tuple #[.agg #[.slice A bn c, .slice none 0 0, .bool false, .int .i64 (-1), .int .i64 (-1), .int .i64 0], .int .i64 (0)]) (by simp [results, Tryz.results40, go_sem, z0, z1, z2, z3, z4, z5]) rfl ?_
  rw [HE.out, HD.out]
  exact ⟨_, rfl, HF.out wf s3, s2⟩
end Go.Proofs.YtmdgnjmhbjdlmaaGreat

/-! DpI -/
namespace Go.Proofs.YtmdgnjmhbjdlmaaGreat
open Go.RowKit
theorem info_bool03 : (Tryz.prog.info? 4).map (fun i => (i.zero, i.size, i.bytes)) = some (some (.bool false), 1, 1) := by kernel_rfl
theorem RKd.op {G : Nat → Prop} {w : World} {bA wA : Option Addr} {bus : List Value} {wus : List (Int × Value)} {D D' : DiskS} (h : RKd G w bA bus wA wus D) (h1 : D'.blocks = D.blocks) (h2 : D'.pending = D.pending) : RKd G w bA bus wA wus D' := by
 cases D
 cases D'
 subst h1 h2
 exact ⟨h.br, h.bv, h.wr, h.wv, h.wl⟩
set_option maxRecDepth 100000 in
set_option maxHeartbeats 4000000 in
theorem refSync03_any (G : Nat → Prop) (v : Value) (D : DiskS) (w : World) (h : RK G w v D) (hG : ∀ k, G k → k < w.heap.size) (p1 : -1 ≤ D.power) (p2 : D.power ≤ 9223372036854775807) (f1 : -1 ≤ D.fault) (f2 : D.fault ≤ 9223372036854775807) (hn1 : D.blocks.length ≤ 4096) (hp : D.pending.length ≤ 1000000) :
  Calls Tryz.prog 68 #[v] w fun e w' => ∃ v', e = .returned (.tuple #[v', .int .i64 (opC D)]) ∧ RK (plusG G w w') w' v' (syncD D) ∧ Below w.heap.size w w' := by
 have HG := Lib.hid hG
 have HL : Hid (∀ (W : World) (K : Option Addr) (ck : Nat), Below w.heap.size w W → LR W K D.pending.length (List.replicate D.pending.length true) → _) := Lib.hid (fun W K ck hb hK => refLeft_any G v D K D.pending.length ck (List.replicate D.pending.length true) (-1) 0 W (h.below hb) (fun k hk => Nat.lt_of_lt_of_le (hG k hk) hb.size) hK (by omega) (by omega) hn1 hp)
 have HCA : Hid (crashTo (List.replicate D.pending.length true) (-1) 0 D.blocks D.pending D.pending.length = carry D.blocks D.pending) := Lib.hid (by rw [crash_all _ _ _ _ (Nat.le_refl _) (Nat.le_refl _), List.take_length])
 rw [HCA.out] at HL
 have HCL : Hid ((carry D.blocks D.pending).length = D.blocks.length) := Lib.hid (carry_len _ _)
 obtain ⟨bA, bc, wA, wc, bus, wus, rfl, k1, k2, k3, k4, hd⟩ := h
 have HT := Lib.hid (two6 w (.slice bA D.blocks.length bc) (.slice wA D.pending.length wc) (.bool D.down) (.int .i64 D.power) (.int .i64 D.fault) (.int .i64 D.wi))
 have HO := Lib.hid (fun W => opV_any bA wA D.blocks.length bc D.pending.length wc D.down D.power D.fault D.wi W p1 p2 f1 f2)
 have HRO : Hid (∀ wf, Below w.heap.size w wf → RK (plusG G w wf) wf (.agg #[.slice bA D.blocks.length bc, .slice wA D.pending.length wc, .bool (opD D.down D.power), .int .i64 (opL D.down D.power), .int .i64 (opL D.down D.fault), .int .i64 D.wi]) (opS D)) := Lib.hid (fun wf hb => ⟨bA, bc, wA, wc, bus, wus, rfl, k1, k2, k3, k4, ((hd.below hb).mono (fun k hk => .inl hk)).op rfl rfl⟩)
 have HSD : Hid ((opE D.down D.power D.fault D.wi ≠ 0 → syncD D = opS D) ∧ (opE D.down D.power D.fault D.wi = 0 → syncD D = ⟨carry D.blocks D.pending, [], opD D.down D.power, opL D.down D.power, opL D.down D.fault, D.wi⟩)) := Lib.hid ⟨fun h => by unfold syncD; exact if_pos h, fun h => by unfold syncD; rw [if_neg (fun h2 => h2 h)]; rfl⟩
 have HOC : Hid (opC D = opE D.down D.power D.fault D.wi) := Lib.hid rfl
 clear hd hG k1 k2 k3 k4
 obtain ⟨i0, hi0, hz0, hz1, hz2⟩ := info_parts info_bool03
 generalize carry D.blocks D.pending = bs at *
 generalize D.blocks.length = bn at *
 generalize D.pending.length = wn at *
 generalize opE D.down D.power D.fault D.wi = oe at *
 generalize opD D.down D.power = od at *
 generalize opL D.down D.power = op at *
 generalize opL D.down D.fault = of_ at *
 go_enter Tryz.func68, Tryz.ntmps68
 go_upto_region 1 with fail
 obtain ⟨x1, x2, hb⟩ := HT.out _ rfl
 clear HT
 generalize (w.alloc (.cells #[.slice bA bn bc, .slice wA wn wc, .bool D.down, .int .i64 D.power, .int .i64 D.fault, .int .i64 D.wi] 33)).alloc (.cells #[.slice none 0 0, .slice none 0 0, .bool false, .int .i64 0, .int .i64 0, .int .i64 0] 33) = w1 at *
 have hlt1 : w.heap.size + 1 < w1.heap.size := (Array.getElem?_eq_some_iff.1 x2).1
 have y0 := x1.c0
 have y1 := x1.c1
 have y2 := x1.c2
 have y3 := x1.c3
 have y4 := x1.c4
 have y5 := x1.c5
 go_wp2_with fail
 refine (HO.out w1).mono ?_
 rintro e w2 ⟨rfl, hb2⟩
 have x1 := x1.below hb2
 have x2 := x2.below hb2
 have hb := gr_trans hb (hb2.mono (by omega))
 have htg : w.heap.size + 1 < w2.heap.size := (Array.getElem?_eq_some_iff.1 x2).1
 have hba := gr_alloc (gr_refl w2) (.cells #[.slice bA bn bc, .slice wA wn wc, .bool od, .int .i64 op, .int .i64 of_, .int .i64 D.wi] 33)
 have s1 := B6.new w2 (.slice bA bn bc) (.slice wA wn wc) (.bool od) (.int .i64 op) (.int .i64 of_) (.int .i64 D.wi)
 clear y0 y1 y2 y3 y4 y5 HO
 go_upto_region 2 with fail
 generalize w2.alloc (.cells #[.slice bA bn bc, .slice wA wn wc, .bool od, .int .i64 op, .int .i64 of_, .int .i64 D.wi] 33) = w3 at *
 have x1 := x1.below hba
 have x2 := x2.below hba
 have hlt3 : w2.heap.size < w3.heap.size := (Array.getElem?_eq_some_iff.1 s1).1
 have hb := gr_trans hb (hba.mono (by omega))
 clear hba
 generalize w2.heap.size = tg at *
 by_cases ho : oe = 0
 ·subst ho
  have HXE := Lib.hid (HSD.out.2 rfl)
  clear HSD HRO
  have HX1 := Lib.hid x1
  have HX2 := Lib.hid x2
  have HS1 := Lib.hid s1
  have HB3 := Lib.hid hb
  clear x1 x2 s1 hb
  go_wp2_with fail
  go_loopw [6, 7] (fun va i wr => ∃ (j : Nat), j ≤ wn ∧ i = .int .i64 (j : Int) ∧ Hid (wr.ownsRow w3.heap.size 4 1 va j (List.replicate j (.bool true)) ∧ Below w3.heap.size w3 wr)) (fun _ i _ => wn - (intOf i).toNat)
  case atStart => exact ⟨0, Nat.zero_le _, rfl, Lib.hid ⟨⟨rfl, .inl ⟨rfl, rfl⟩⟩, gr_refl _⟩⟩
  case round =>
   obtain ⟨j, hj, rfl, HJ⟩ := hrel
   have y1 := (HX1.out.below HJ.out.2).c1
   have hrow := HJ.out.1
   obtain ⟨Av, cv, rfl, hcv, hcv'⟩ := own_form hrow
   have hsz := HJ.out.2.size
   by_cases hlt : j < wn
   ·have t1 : decide ((j : Int) < (wn : Int)) = true := decide_eq_true (by omega)
    have t1' : decide (j < wn) = true := decide_eq_true hlt
    have HR1 := Lib.hid (Rd.new wr 4 #[.bool true] 1 1 rfl)
    have hrow2 := ownsRow_off hrow (Off.of_below (S := fun _ => False) (gr_alloc (gr_refl wr) (.cells #[.bool true] 4))) (fun _ _ h => h)
    have hba := gr_alloc HJ.out.2 (.cells #[.bool true] 4)
    clear hrow
    go_wp2_with (at_builtin; refine wpList_append_Rd _ rfl (.tmp 24) (.tmp 25) _ rfl w3.heap.size 4 i0 _ 1 1 Tryz.underlying45 hi0 hz0 hz1 hz2 rfl (.slice Av j cv) j _ rfl hrow2 (some ⟨wr.heap.size, 0, none⟩) 1 1 [.bool true] rfl HR1.out (by simp [Value.oneCell']) (by omega) (by simp only [maxLen]; omega) (by rw [World.size_alloc]; omega) ?_; intro v4 w4 hown4 hg4 _ _)
    have HJ4 : Hid (w4.ownsRow w3.heap.size 4 1 v4 (j + 1) (List.replicate (j + 1) (.bool true)) ∧ Below w3.heap.size w3 w4) := Lib.hid ⟨by rw [List.replicate_succ']; exact hown4, gr_own hba hrow2 hg4⟩
    clear hown4 hg4 hrow2 hba
    go_roundw
    case rel => exact ⟨j + 1, by omega, by go_num, HJ4⟩
    case measure => simp [intOf]; omega
   ·obtain rfl : j = wn := by omega
    have t1 : decide ((j : Int) < (j : Int)) = false := decide_eq_false (by omega)
    have HLR := Lib.hid (trues_lr hrow)
    have x1 := HX1.out.below HJ.out.2
    have x2 := HX2.out.below HJ.out.2
    have s1 := HS1.out.below HJ.out.2
    have hb := gr_trans HB3.out (HJ.out.2.mono (by omega))
    have HBR := Lib.hid hb
    clear hrow HJ HX1 HX2 HS1 HB3 y1
    have y0 := x1.c0
    have y1 := x1.c1
    have y2 := x1.c2
    have y3 := x1.c3
    have y4 := x1.c4
    have y5 := x1.c5
    go_wp2_with fail
    refine (HL.out wr Av cv HBR.out HLR.out).mono ?_
    rintro e w5 ⟨A, c, us, rfl, l1, l2, l3, l4, hb5⟩
    have x2 := x2.below hb5
    have s1 := s1.below hb5
    have hb := gr_trans hb (hb5.mono (by omega))
    have HF : Hid (∀ wf, Off (fun k => k = tg ∨ k = w.heap.size + 1) w5 wf → RK (plusG G w wf) wf (.agg #[.slice A bn c, .slice none 0 0, .bool od, .int .i64 op, .int .i64 of_, .int .i64 D.wi]) ⟨bs, [], od, op, of_, D.wi⟩) := Lib.hid (fun wf ho =>
     ((RK.of_left HCL.out l1 l2 l3 l4 od op of_ D.wi).off ho (by
      rintro k (rfl | rfl) (hk | ⟨hk, _⟩)
      ·have := HG.out _ hk; omega
      ·omega
      ·have := HG.out _ hk; omega
      ·omega)).mono (plusG.mono (by omega) ho.size))
    clear l3 l4 y0 y1 y2 y3 y4 y5 x1 HL
    have q0 := s1.c0
    have g0 := s1.fz 0
    have o1 : Off (fun k => k = tg ∨ k = w.heap.size + 1) w5 (w5.setCell ⟨tg, 0, none⟩ (.slice A bn c)) := (Off.refl _ w5).setCell _ (.inl rfl)
    have s1 := s1.set0 (.slice A bn c)
    have x2 := x2.setO (k := tg) (j := 0) (u := .slice A bn c) (by omega)
    have hb := hb.setCell (p := ⟨tg, 0, none⟩) (show w.heap.size ≤ tg by omega) (.slice A bn c)
    go_upto_region 10 with fail
    clear q0 g0
    generalize w5.setCell ⟨tg, 0, none⟩ (.slice A bn c) = w6 at *
    have q0 := s1.c1
    have g0 := s1.fz 1
    have o1 := o1.setCell (g := tg) (j := 1) (.slice none 0 0) (.inl rfl)
    have s1 := s1.set1 (.slice none 0 0)
    have x2 := x2.setO (k := tg) (j := 1) (u := .slice none 0 0) (by omega)
    have hb := hb.setCell (p := ⟨tg, 1, none⟩) (show w.heap.size ≤ tg by omega) (.slice none 0 0)
    go_upto_region 11 with fail
    clear q0 g0
    generalize w6.setCell ⟨tg, 1, none⟩ (.slice none 0 0) = w7 at *
    have y0 := s1.c0
    have y1 := s1.c1
    have y2 := s1.c2
    have y3 := s1.c3
    have y4 := s1.c4
    have y5 := s1.c5
    clear s1
    have r0 := x2.c0
    have r1 := x2.c1
    have r2 := x2.c2
    have r3 := x2.c3
    have r4 := x2.c4
    have r5 := x2.c5
    have f0 := x2.fz 0
    have f1 := x2.fz 1
    have f2 := x2.fz 2
    have f3 := x2.fz 3
    have f4 := x2.fz 4
    have f5 := x2.fz 5
    have HS := Lib.hid (set6o x2 (.slice A bn c) (.slice none 0 0) (.bool od) (.int .i64 op) (.int .i64 of_) (.int .i64 D.wi) hb (by omega))
    go_wp2_with fail
    clear r0 f0 r1 f1 r2 f2 r3 f3 r4 f4 r5 f5
    obtain ⟨s1, s2, s3⟩ := HS.out _ rfl
    clear HS
    generalize ((((((w7.setCell ⟨w.heap.size + 1, 0, none⟩ (.slice A bn c)).setCell ⟨w.heap.size + 1, 1, none⟩ (.slice none 0 0)).setCell ⟨w.heap.size + 1, 2, none⟩ (.bool od)).setCell ⟨w.heap.size + 1, 3, none⟩ (.int .i64 op)).setCell ⟨w.heap.size + 1, 4, none⟩ (.int .i64 of_)).setCell ⟨w.heap.size + 1, 5, none⟩ (.int .i64 D.wi)) = wf at *
    have z0 := s1.c0
    have z1 := s1.c1
    have z2 := s1.c2
    have z3 := s1.c3
    have z4 := s1.c4
    have z5 := s1.c5
    refine bodyPost_ret (v := .tuple #[.agg #[.slice A bn c, .slice none 0 0, .bool od, .int .i64 op, .int .i64 of_, .int .i64 D.wi], .int .i64 (0)]) (by simp [results, Tryz.results68, go_sem, z0, z1, z2, z3, z4, z5]) rfl ?_
    rw [HOC.out, HXE.out]
    exact ⟨_, rfl, HF.out wf (o1.trans (s3.mono (fun k _ hk => .inr hk))), s2⟩
 ·have t1 : (oe != 0) = true := bne_iff_ne.2 ho
  have HXE := Lib.hid (HSD.out.1 ho)
  clear HSD ho HL HCA HCL
  have y0 := s1.c0
  have y1 := s1.c1
  have y2 := s1.c2
  have y3 := s1.c3
  have y4 := s1.c4
  have y5 := s1.c5
  clear s1 x1
  have r0 := x2.c0
  have r1 := x2.c1
  have r2 := x2.c2
  have r3 := x2.c3
  have r4 := x2.c4
  have r5 := x2.c5
  have f0 := x2.fz 0
  have f1 := x2.fz 1
  have f2 := x2.fz 2
  have f3 := x2.fz 3
  have f4 := x2.fz 4
  have f5 := x2.fz 5
  have HS := Lib.hid (set6o x2 (.slice bA bn bc) (.slice wA wn wc) (.bool od) (.int .i64 op) (.int .i64 of_) (.int .i64 D.wi) hb (by omega))
  go_wp2_with fail
  clear r0 f0 r1 f1 r2 f2 r3 f3 r4 f4 r5 f5
  obtain ⟨s1, s2, s3⟩ := HS.out _ rfl
  clear HS
  generalize ((((((w3.setCell ⟨w.heap.size + 1, 0, none⟩ (.slice bA bn bc)).setCell ⟨w.heap.size + 1, 1, none⟩ (.slice wA wn wc)).setCell ⟨w.heap.size + 1, 2, none⟩ (.bool od)).setCell ⟨w.heap.size + 1, 3, none⟩ (.int .i64 op)).setCell ⟨w.heap.size + 1, 4, none⟩ (.int .i64 of_)).setCell ⟨w.heap.size + 1, 5, none⟩ (.int .i64 D.wi)) = wf at *
  have z0 := s1.c0
  have z1 := s1.c1
  have z2 := s1.c2
  have z3 := s1.c3
  have z4 := s1.c4
  have z5 := s1.c5
  refine bodyPost_ret (v := .tuple #[.agg #[.slice bA bn bc, .slice wA wn wc, .bool od, .int .i64 op, .int .i64 of_, .int .i64 D.wi], .int .i64 (oe)]) (by simp [results, Tryz.results68, go_sem, z0, z1, z2, z3, z4, z5]) rfl ?_
  rw [HOC.out, HXE.out]
  exact ⟨_, rfl, HRO.out wf s2, s2⟩
end Go.Proofs.YtmdgnjmhbjdlmaaGreat

/-! DpJ -/
namespace Go.Proofs.YtmdgnjmhbjdlmaaGreat
open Go Go.RowKit
theorem info_refW : (Tryz.prog.info? 133).map (fun i => (i.zero, i.size, i.bytes)) = some (some (.agg #[.int .i64 0, .slice none 0 0]), 2, 32) := by kernel_rfl
theorem RKd.oneW {G : Nat → Prop} {w : World} {bA wA : Option Addr} {bus : List Value} {wus : List (Int × Value)} {D : DiskS} (h : RKd G w bA bus wA wus D) : ∀ u ∈ wrs wus, u.oneCell' = true := by
 have hv : ∀ q ∈ wus, q.2.oneCell' = true := by
  intro q hq
  obtain ⟨i, hi, e⟩ := List.mem_iff_getElem.1 hq
  have hd : i < D.pending.length := by rw [← h.wl]; exact hi
  obtain ⟨_, _, _, A, c, e2, _⟩ := h.wv i q _ (by rw [List.getElem?_eq_getElem hi, e]) (List.getElem?_eq_getElem hd)
  rw [e2]
  rfl
 clear h
 induction wus with
 | nil => intro u hu; cases hu
 | cons q qs ih =>
  intro u hu
  simp only [wrs, List.mem_cons] at hu
  rcases hu with rfl | rfl | hu
  ·rfl
  ·exact hv q (by simp)
  ·exact ih (fun q hq => hv q (by simp [hq])) u hu
theorem wrs_push (ps : List (Int × Value)) (q : Int × Value) : wrs (ps ++ [q]) = wrs ps ++ [.int .i64 q.1, q.2] := by
 induction ps with
 | nil => rfl
 | cons p ps ih => simp only [List.cons_append, wrs, ih]
theorem RKd.push {G G' : Nat → Prop} {w : World} {bA wA A8 : Option Addr} {bus : List Value} {wus : List (Int × Value)} {D D' : DiskS} (h : RKd G w bA bus wA wus D) {base c8 b : Nat} {u : Value} {l : List UInt8} (hb : b < D.blocks.length)
  (ho : w.ownsRow base 133 2 (.slice A8 (D.pending.length + 1) c8) (D.pending.length + 1) (wrs (wus ++ [((b : Int), u)]))) (hu : VG G' w u l) (hG : ∀ k, G k → G' k) (hG2 : ∀ k, base ≤ k → k < w.heap.size → G' k) (e1 : D'.blocks = D.blocks) (e2 : D'.pending = D.pending ++ [(b, l)]) : RKd G' w bA bus A8 (wus ++ [((b : Int), u)]) D' := by
 have h' := h.mono hG
 refine ⟨by rw [e1]; exact h'.br, by rw [e1]; exact h'.bv, ?_, ?_, by rw [e2, List.length_append, List.length_append, h.wl]; rfl⟩
 ·rw [e2, List.length_append]
  refine ⟨Rd.of_own ho, fun ad ea _ => ?_⟩
  obtain ⟨cur, fr, h3⟩ := own_at ho ea
  obtain ⟨g, c, e⟩ := own_plain ho (by omega)
  injection e with e _ _
  rw [ea] at e
  cases e
  exact hG2 g (ho.lt g (by rw [ea]; rfl)).1 (Array.getElem?_eq_some_iff.1 h3).1
 ·intro i q p hq hp
  rw [e2] at hp
  rw [e1]
  have hl := h.wl
  rcases Nat.lt_or_ge i D.pending.length with hi | hi
  ·rw [List.getElem?_append_left (by omega)] at hq
   rw [List.getElem?_append_left hi] at hp
   exact h'.wv i q p hq hp
  ·rw [List.getElem?_append_right (by omega)] at hq
   rw [List.getElem?_append_right hi] at hp
   obtain ⟨e3, e4⟩ : i - wus.length = 0 ∧ i - D.pending.length = 0 := by
    have := (List.getElem?_eq_some_iff.1 hp).1
    simp at this
    omega
   rw [e3] at hq
   rw [e4] at hp
   simp at hq hp
   subst hq hp
   exact ⟨rfl, hb, hu⟩
theorem own_beside {w w4 : World} {base base' : Nat} {e e' : TypeId} {size size' n n' : Nat} {v v' : Value} {xs xs' : List Value} (h : w.ownsRow base e size v n xs) (k : w.ownsRow base' e' size' v' n' xs') (hne : e ≠ e') (hg : w.grownBy w4 v'.ownBlock) : w4.ownsRow base e size v n xs :=
 ownsRow_off h (Off.of_grown (S := fun k => v'.ownBlock = some k) hg (fun _ e => e)) (fun q hq hs => by
  obtain ⟨c1, e1⟩ := own_blk h hq
  obtain ⟨c2, e2⟩ := own_blk k hs
  exact cells_ne e1 e2 hne)
theorem VG.own {G : Nat → Prop} {w : World} {base c : Nat} {A : Option Addr} {l : List UInt8} (hl : l.length = 4096) (ho : w.ownsRow base 5 1 (.slice A 4096 c) 4096 (l.map bv)) (hG2 : ∀ k, base ≤ k → k < w.heap.size → G k) : VG G w (.slice A 4096 c) l := by
 have hob : OB w base (.slice A 4096 c) l := by unfold OB; rw [hl]; exact ho
 obtain ⟨A', c', e, hr, hc, hm⟩ := hob.formN hl
 injection e with e1 _ e3
 subst e1 e3
 refine ⟨hl, A, c, rfl, hr, fun ad ea => ?_, hc, hm⟩
 obtain ⟨cur, fr, h3⟩ := own_at ho ea
 obtain ⟨g, c, e⟩ := own_plain ho (by omega)
 injection e with e _ _
 rw [ea] at e
 cases e
 exact hG2 g (ho.lt g (by rw [ea]; rfl)).1 (Array.getElem?_eq_some_iff.1 h3).1
set_option maxRecDepth 100000 in
set_option maxHeartbeats 4000000 in
theorem refPut03_any (G : Nat → Prop) (v : Value) (D : DiskS) (b : Int) (A : Option Addr) (n c : Nat) (l : List UInt8) (w : World) (h : RK G w v D) (hG : ∀ k, G k → k < w.heap.size) (hA : BR w A n l) (p1 : -1 ≤ D.power) (p2 : D.power ≤ 9223372036854775807) (f1 : -1 ≤ D.fault) (f2 : D.fault ≤ 9223372036854775807) (hp : D.pending.length ≤ 1000000) (hnn : n ≤ 1000000) :
  Calls Tryz.prog 87 #[v, .int .i64 b, .slice A n c] w fun e w' => ∃ v', e = .returned (.tuple #[v', .int .i64 (writeE D b n)]) ∧ RK (plusG G w w') w' v' (writeD D b l) ∧ Below w.heap.size w w' := by
 have HG := Lib.hid hG
 have HLN := Lib.hid hA.len
 have HAA := Lib.hid hA
 have HRV := Lib.hid h
 obtain ⟨bA, bc, wA, wc, bus, wus, rfl, k1, k2, k3, k4, hd⟩ := h
 have HT := Lib.hid (two6 w (.slice bA D.blocks.length bc) (.slice wA D.pending.length wc) (.bool D.down) (.int .i64 D.power) (.int .i64 D.fault) (.int .i64 D.wi))
 have HO := Lib.hid (fun W => opV_any bA wA D.blocks.length bc D.pending.length wc D.down D.power D.fault D.wi W p1 p2 f1 f2)
 have IS := Lib.hid (fun W => refIs_any bA wA D.blocks.length bc D.pending.length wc D.down D.power D.fault D.wi b W)
 have HRO : Hid (∀ wf, Below w.heap.size w wf → RK (plusG G w wf) wf (.agg #[.slice bA D.blocks.length bc, .slice wA D.pending.length wc, .bool (opD D.down D.power), .int .i64 (opL D.down D.power), .int .i64 (opL D.down D.fault), .int .i64 D.wi]) (opS D)) := Lib.hid (fun wf hb => ⟨bA, bc, wA, wc, bus, wus, rfl, k1, k2, k3, k4, ((hd.below hb).mono (fun k hk => .inl hk)).op rfl rfl⟩)
 have HRS : Hid (∀ wf, Below w.heap.size w wf → RK (plusG G w wf) wf (.agg #[.slice bA D.blocks.length bc, .slice wA D.pending.length wc, .bool D.down, .int .i64 D.power, .int .i64 D.fault, .int .i64 D.wi]) D) := Lib.hid (fun wf hb => (HRV.out.below hb).mono (fun k hk => .inl hk))
 have HOC : Hid (opC D = opE D.down D.power D.fault D.wi) := Lib.hid rfl
 have HDD := Lib.hid hd
 have HAK := Lib.hid (ask_is D b)
 have HK1 := Lib.hid k1
 have HK2 := Lib.hid k2
 unfold maxLen at k2 k4
 clear hd hG hA HRV k1
 by_cases hin : 0 ≤ b ∧ b < (D.blocks.length : Int)
 ·have HE0 : Hid (askE D b = 0) := Lib.hid (by rw [HAK.out, if_pos (decide_eq_true hin)])
  rw [decide_eq_true hin] at IS
  obtain ⟨bi, rfl⟩ := Int.eq_ofNat_of_zero_le hin.1
  have hbi : bi < D.blocks.length := by omega
  clear hin HAK
  by_cases hn : n = 4096
  ·subst hn
   have HWE : Hid (writeE D (bi : Int) 4096 = opC D) := Lib.hid (by unfold writeE; rw [if_neg (by rw [HE0.out]; simp), if_neg (by simp)])
   have HWD : Hid ((opE D.down D.power D.fault D.wi ≠ 0 → writeD D (bi : Int) l = opS D) ∧ (opE D.down D.power D.fault D.wi = 0 → writeD D (bi : Int) l = { opS D with pending := D.pending ++ [(bi, l)] })) := Lib.hid ⟨fun h => by
    unfold writeD
    rw [if_neg (by rw [HE0.out, HLN.out]; simp), if_pos (show opC D ≠ 0 from h)], fun h => by
    unfold writeD
    rw [if_neg (by rw [HE0.out, HLN.out]; simp), if_neg (show ¬ opC D ≠ 0 from fun h2 => h2 h), Int.toNat_natCast]⟩
   obtain ⟨i0, hi0, hz0, hz1, hz2⟩ := info_parts info_refW
   have HPU : Hid (∀ (w3 w8 : World) (A8 : Option Addr) (c8 : Nat) (u : Value), Below w.heap.size w w8 → w.heap.size ≤ w3.heap.size → D.pending.length + 1 ≤ c8 → c8 ≤ maxLen → w8.ownsRow w3.heap.size 133 2 (.slice A8 (D.pending.length + 1) c8) (D.pending.length + 1) (wrs wus ++ [.int .i64 (bi : Int), u]) → VG (plusG G w3 w8) w8 u l →
     RK (plusG G w3 w8) w8 (.agg #[.slice bA D.blocks.length bc, .slice A8 (D.pending.length + 1) c8, .bool (opD D.down D.power), .int .i64 (opL D.down D.power), .int .i64 (opL D.down D.fault), .int .i64 D.wi]) { opS D with pending := D.pending ++ [(bi, l)] }) := Lib.hid (by
    intro w3 w8 A8 c8 u hb8 h38 q1 q2 ho hv
    have ho' : w8.ownsRow w3.heap.size 133 2 (.slice A8 (D.pending.length + 1) c8) (D.pending.length + 1) (wrs (wus ++ [((bi : Int), u)])) := by rw [wrs_push]; exact ho
    have hl : ({ opS D with pending := D.pending ++ [(bi, l)] } : DiskS).pending.length = D.pending.length + 1 := by simp
    refine ⟨bA, bc, A8, c8, bus, wus ++ [((bi : Int), u)], by rw [hl]; rfl, HK1.out, HK2.out, by rw [hl]; exact q1, q2, ?_⟩
    exact (HDD.out.below hb8).push hbi ho' hv (fun k hk => .inl hk) (fun k h1 h2 => .inr ⟨h1, h2⟩) rfl rfl)
   have HRW := Lib.hid (show Rd w 2 wA D.pending.length (wrs wus) from HDD.out.wr.1)
   have HOW := Lib.hid HDD.out.oneW
   clear HRS HE0 HK1 HK2 hbi HDD
   generalize D.blocks.length = bn at *
   generalize D.pending.length = wn at *
   generalize opE D.down D.power D.fault D.wi = oe at *
   generalize opD D.down D.power = od at *
   generalize opL D.down D.power = op at *
   generalize opL D.down D.fault = of_ at *
   go_enter Tryz.func87, Tryz.ntmps87
   go_upto_region 1 with fail
   obtain ⟨x1, x2, hb⟩ := HT.out _ rfl
   clear HT
   generalize (w.alloc (.cells #[.slice bA bn bc, .slice wA wn wc, .bool D.down, .int .i64 D.power, .int .i64 D.fault, .int .i64 D.wi] 33)).alloc (.cells #[.slice none 0 0, .slice none 0 0, .bool false, .int .i64 0, .int .i64 0, .int .i64 0] 33) = w1 at *
   have hlt1 : w.heap.size + 1 < w1.heap.size := (Array.getElem?_eq_some_iff.1 x2).1
   have y0 := x1.c0
   have y1 := x1.c1
   have y2 := x1.c2
   have y3 := x1.c3
   have y4 := x1.c4
   have y5 := x1.c5
   go_wp2_with fail
   refine (IS.out w1).mono ?_
   rintro e w1b ⟨rfl, hbI⟩
   have x1 := x1.below hbI
   have x2 := x2.below hbI
   have hb := gr_trans hb (hbI.mono (by omega))
   have hlt1 : w.heap.size + 1 < w1b.heap.size := (Array.getElem?_eq_some_iff.1 x2).1
   clear y0 y1 y2 y3 y4 y5 hbI IS
   have y0 := x1.c0
   have y1 := x1.c1
   have y2 := x1.c2
   have y3 := x1.c3
   have y4 := x1.c4
   have y5 := x1.c5
   go_wp2_with fail
   refine (HO.out w1b).mono ?_
   rintro e w2 ⟨rfl, hb2⟩
   have x1 := x1.below hb2
   have x2 := x2.below hb2
   have hb := gr_trans hb (hb2.mono (by omega))
   have htg : w.heap.size + 1 < w2.heap.size := (Array.getElem?_eq_some_iff.1 x2).1
   have hba := gr_alloc (gr_refl w2) (.cells #[.slice bA bn bc, .slice wA wn wc, .bool od, .int .i64 op, .int .i64 of_, .int .i64 D.wi] 33)
   have s1 := B6.new w2 (.slice bA bn bc) (.slice wA wn wc) (.bool od) (.int .i64 op) (.int .i64 of_) (.int .i64 D.wi)
   clear y0 y1 y2 y3 y4 y5 HO
   go_upto_region 4 with fail
   generalize w2.alloc (.cells #[.slice bA bn bc, .slice wA wn wc, .bool od, .int .i64 op, .int .i64 of_, .int .i64 D.wi] 33) = w3 at *
   have x1 := x1.below hba
   have x2 := x2.below hba
   have hlt3 : w2.heap.size < w3.heap.size := (Array.getElem?_eq_some_iff.1 s1).1
   have hb := gr_trans hb (hba.mono (by omega))
   clear hba
   generalize w2.heap.size = tg at *
   by_cases ho : oe = 0
   ·subst ho
    have HXE := Lib.hid (HWD.out.2 rfl)
    clear HWD HRO
    have HB3 := Lib.hid hb
    have y1 := x1.c1
    have HOR := Lib.hid (HRW.out.below hb)
    go_wp2_with (at_builtin; refine wpList_append_Rd _ rfl _ _ _ rfl w3.heap.size 133 i0 _ 2 32 Tryz.underlying31 hi0 hz0 hz1 hz2 rfl (.slice none 0 0) 0 [] rfl ⟨rfl, .inl ⟨rfl, rfl⟩⟩ wA wn wc (wrs wus) rfl HOR.out HOW.out (by omega) (by simp only [maxLen]; omega) (Nat.le_refl _) ?_; intro v4 w4 hown4 hg4 _ _; skip)
    rw [Nat.zero_add, List.nil_append] at hown4
    obtain ⟨Av, cv, rfl, hcv, hcv'⟩ := own_form hown4
    have hb34 : Below w3.heap.size w3 w4 := (gr_refl w3).grown hg4 (Nat.le_refl _) (by simp [Value.ownBlock])
    have HB34 := Lib.hid hb34
    have HROW := Lib.hid hown4
    have HA4 := Lib.hid (HAA.out.below (gr_trans HB3.out (hb34.mono (by omega))))
    clear hown4 hg4 hb34 y1 HOR HRW HOW HAA
    refine (CopyBytes_any A 4096 c l w4 HA4.out (by omega)).mono ?_
    rintro e w5 ⟨v5, rfl, ob5, hb5⟩
    obtain ⟨A5, c5, rfl, _, _, _⟩ := ob5.formN HLN.out
    have ho5 : w5.ownsRow w3.heap.size 5 1 (.slice A5 4096 c5) 4096 (l.map bv) := by have := ob5.lower HB34.out.size; unfold OB at this; rw [HLN.out] at this; exact this
    have hba := gr_alloc (gr_refl w5) (.cells #[.int .i64 (bi : Int), .slice A5 4096 c5] 133)
    have hb4q := gr_trans hb5 hba
    have hb3q := gr_trans HB34.out hb4q
    have HRQ := Lib.hid (ownsRow_off HROW.out (Off.of_below (S := fun _ => False) hb4q) (fun _ _ h => h))
    have HR5 := Lib.hid (ownsRow_off ho5 (Off.of_below (S := fun _ => False) hba) (fun _ _ h => h))
    have HZ5 := Lib.hid (Rd.new w5 133 #[.int .i64 (bi : Int), .slice A5 4096 c5] 1 2 rfl)
    have HB3Q := Lib.hid hb3q
    have hsz4 := HB34.out.size
    clear ho5 ob5 hb3q hb4q hba hb5 HROW
    go_upto_region 9 with ((at_builtin); (refine wpList_append_Rd _ rfl (.tmp 34) (.tmp 39) _ rfl w3.heap.size 133 i0 _ 2 32 Tryz.underlying31 hi0 hz0 hz1 hz2 rfl (.slice Av wn cv) wn (wrs wus) rfl HRQ.out (some ⟨w5.heap.size, 0, none⟩) 1 1 [.int .i64 (bi : Int), .slice A5 4096 c5] rfl HZ5.out (by simp [Value.oneCell']) (by omega) (by simp only [maxLen]; omega) HB3Q.out.size ?_); (intro v8 w8 ho8 hg8 _ _); (have hb38 := gr_own HB3Q.out HRQ.out hg8); (have hv8 := VG.own (G := plusG G w3 w8) HLN.out (own_beside HR5.out HRQ.out (by decide) hg8) (fun k h1 h2 => .inr ⟨h1, h2⟩)); (obtain ⟨A8, c8, rfl, hc8, hc8'⟩ := own_form ho8); (have hb8 := gr_trans HB3.out (hb38.mono (by omega))); (have HR8 := Lib.hid (HPU.out w3 w8 A8 c8 _ hb8 HB3.out.size hc8 hc8' ho8 hv8)); (have s1 := s1.below hb38); (have x2 := x2.below hb38); (have hsz8 := hb38.size); (have q0 := s1.c1); (have g0 := s1.fz 1); (clear ho8 hg8 hv8 hb38 HPU HRQ HR5 HZ5))
    have o1 : Off (fun k => k = tg ∨ k = w.heap.size + 1) w8 (w8.setCell ⟨tg, 1, none⟩ (.slice A8 (wn + 1) c8)) := (Off.refl _ w8).setCell _ (.inl rfl)
    have s1 := s1.set1 (.slice A8 (wn + 1) c8)
    have x2 := x2.setO (k := tg) (j := 1) (u := .slice A8 (wn + 1) c8) (by omega)
    have hb := hb8.setCell (p := ⟨tg, 1, none⟩) (show w.heap.size ≤ tg by omega) (.slice A8 (wn + 1) c8)
    clear q0 g0 hb8
    generalize w8.setCell ⟨tg, 1, none⟩ (.slice A8 (wn + 1) c8) = w9 at *
    have HF : Hid (∀ wf, Off (fun k => k = tg ∨ k = w.heap.size + 1) w8 wf → RK (plusG G w wf) wf (.agg #[.slice bA bn bc, .slice A8 (wn + 1) c8, .bool od, .int .i64 op, .int .i64 of_, .int .i64 D.wi]) { opS D with pending := D.pending ++ [(bi, l)] }) := Lib.hid (fun wf ho =>
     (HR8.out.off ho (by
      rintro k (rfl | rfl) (hk | ⟨hk, _⟩)
      ·have := HG.out _ hk; omega
      ·omega
      ·have := HG.out _ hk; omega
      ·omega)).mono (plusG.mono (by omega) ho.size))
    clear HR8
    have y0 := s1.c0
    have y1 := s1.c1
    have y2 := s1.c2
    have y3 := s1.c3
    have y4 := s1.c4
    have y5 := s1.c5
    clear s1 x1
    have r0 := x2.c0
    have r1 := x2.c1
    have r2 := x2.c2
    have r3 := x2.c3
    have r4 := x2.c4
    have r5 := x2.c5
    have f0 := x2.fz 0
    have f1 := x2.fz 1
    have f2 := x2.fz 2
    have f3 := x2.fz 3
    have f4 := x2.fz 4
    have f5 := x2.fz 5
    have HS := Lib.hid (set6o x2 (.slice bA bn bc) (.slice A8 (wn + 1) c8) (.bool od) (.int .i64 op) (.int .i64 of_) (.int .i64 D.wi) hb (by omega))
    go_wp2_with fail
    clear r0 f0 r1 f1 r2 f2 r3 f3 r4 f4 r5 f5
    obtain ⟨s1, s2, s3⟩ := HS.out _ rfl
    clear HS
    generalize ((((((w9.setCell ⟨w.heap.size + 1, 0, none⟩ (.slice bA bn bc)).setCell ⟨w.heap.size + 1, 1, none⟩ (.slice A8 (wn + 1) c8)).setCell ⟨w.heap.size + 1, 2, none⟩ (.bool od)).setCell ⟨w.heap.size + 1, 3, none⟩ (.int .i64 op)).setCell ⟨w.heap.size + 1, 4, none⟩ (.int .i64 of_)).setCell ⟨w.heap.size + 1, 5, none⟩ (.int .i64 D.wi)) = wf at *
    have z0 := s1.c0
    have z1 := s1.c1
    have z2 := s1.c2
    have z3 := s1.c3
    have z4 := s1.c4
    have z5 := s1.c5
    refine bodyPost_ret (v := .tuple #[.agg #[.slice bA bn bc, .slice A8 (wn + 1) c8, .bool od, .int .i64 op, .int .i64 of_, .int .i64 D.wi], .int .i64 (0)]) (by simp [results, Tryz.results87, go_sem, z0, z1, z2, z3, z4, z5]) rfl ?_
    rw [HWE.out, HOC.out, HXE.out]
    exact ⟨_, rfl, HF.out wf (o1.trans (s3.mono (fun k _ hk => .inr hk))), s2⟩
   ·have t1 : (oe != 0) = true := bne_iff_ne.2 ho
    have HXE := Lib.hid (HWD.out.1 ho)
    clear HWD ho HPU
    have y0 := s1.c0
    have y1 := s1.c1
    have y2 := s1.c2
    have y3 := s1.c3
    have y4 := s1.c4
    have y5 := s1.c5
    clear s1 x1
    have r0 := x2.c0
    have r1 := x2.c1
    have r2 := x2.c2
    have r3 := x2.c3
    have r4 := x2.c4
    have r5 := x2.c5
    have f0 := x2.fz 0
    have f1 := x2.fz 1
    have f2 := x2.fz 2
    have f3 := x2.fz 3
    have f4 := x2.fz 4
    have f5 := x2.fz 5
    have HS := Lib.hid (set6o x2 (.slice bA bn bc) (.slice wA wn wc) (.bool od) (.int .i64 op) (.int .i64 of_) (.int .i64 D.wi) hb (by omega))
    go_wp2_with fail
    clear r0 f0 r1 f1 r2 f2 r3 f3 r4 f4 r5 f5
    obtain ⟨s1, s2, s3⟩ := HS.out _ rfl
    clear HS
    generalize ((((((w3.setCell ⟨w.heap.size + 1, 0, none⟩ (.slice bA bn bc)).setCell ⟨w.heap.size + 1, 1, none⟩ (.slice wA wn wc)).setCell ⟨w.heap.size + 1, 2, none⟩ (.bool od)).setCell ⟨w.heap.size + 1, 3, none⟩ (.int .i64 op)).setCell ⟨w.heap.size + 1, 4, none⟩ (.int .i64 of_)).setCell ⟨w.heap.size + 1, 5, none⟩ (.int .i64 D.wi)) = wf at *
    have z0 := s1.c0
    have z1 := s1.c1
    have z2 := s1.c2
    have z3 := s1.c3
    have z4 := s1.c4
    have z5 := s1.c5
    refine bodyPost_ret (v := .tuple #[.agg #[.slice bA bn bc, .slice wA wn wc, .bool od, .int .i64 op, .int .i64 of_, .int .i64 D.wi], .int .i64 (oe)]) (by simp [results, Tryz.results87, go_sem, z0, z1, z2, z3, z4, z5]) rfl ?_
    rw [HWE.out, HOC.out, HXE.out]
    exact ⟨_, rfl, HRO.out wf s2, s2⟩
  ·have HE : Hid (writeE D (bi : Int) n = 2 ∧ writeD D (bi : Int) l = D) := Lib.hid ⟨by unfold writeE; rw [if_neg (by rw [HE0.out]; simp), if_pos hn], by unfold writeD; rw [if_pos (Or.inr (by rw [HLN.out]; exact hn))]⟩
   have t2 : ((n : Int) != 4096) = true := bne_iff_ne.2 (by omega)
   clear HO HRO HOC HDD HE0 HAA HLN hbi HK1 HK2
   generalize D.blocks.length = bn at *
   generalize D.pending.length = wn at *
   go_enter Tryz.func87, Tryz.ntmps87
   go_upto_region 1 with fail
   obtain ⟨x1, x2, hb⟩ := HT.out _ rfl
   clear HT
   generalize (w.alloc (.cells #[.slice bA bn bc, .slice wA wn wc, .bool D.down, .int .i64 D.power, .int .i64 D.fault, .int .i64 D.wi] 33)).alloc (.cells #[.slice none 0 0, .slice none 0 0, .bool false, .int .i64 0, .int .i64 0, .int .i64 0] 33) = w1 at *
   have hlt1 : w.heap.size + 1 < w1.heap.size := (Array.getElem?_eq_some_iff.1 x2).1
   have y0 := x1.c0
   have y1 := x1.c1
   have y2 := x1.c2
   have y3 := x1.c3
   have y4 := x1.c4
   have y5 := x1.c5
   go_wp2_with fail
   refine (IS.out w1).mono ?_
   rintro e w1b ⟨rfl, hbI⟩
   have x1 := x1.below hbI
   have x2 := x2.below hbI
   have hb := gr_trans hb (hbI.mono (by omega))
   have hlt1 : w.heap.size + 1 < w1b.heap.size := (Array.getElem?_eq_some_iff.1 x2).1
   clear y0 y1 y2 y3 y4 y5 hbI IS
   have y0 := x1.c0
   have y1 := x1.c1
   have y2 := x1.c2
   have y3 := x1.c3
   have y4 := x1.c4
   have y5 := x1.c5
   go_upto_region 2 with fail
   have r0 := x2.c0
   have r1 := x2.c1
   have r2 := x2.c2
   have r3 := x2.c3
   have r4 := x2.c4
   have r5 := x2.c5
   have f0 := x2.fz 0
   have f1 := x2.fz 1
   have f2 := x2.fz 2
   have f3 := x2.fz 3
   have f4 := x2.fz 4
   have f5 := x2.fz 5
   have HS := Lib.hid (set6o x2 (.slice bA bn bc) (.slice wA wn wc) (.bool D.down) (.int .i64 D.power) (.int .i64 D.fault) (.int .i64 D.wi) hb (by omega))
   go_wp2_with fail
   clear r0 f0 r1 f1 r2 f2 r3 f3 r4 f4 r5 f5
   obtain ⟨s1, s2, s3⟩ := HS.out _ rfl
   clear HS
   generalize ((((((w1b.setCell ⟨w.heap.size + 1, 0, none⟩ (.slice bA bn bc)).setCell ⟨w.heap.size + 1, 1, none⟩ (.slice wA wn wc)).setCell ⟨w.heap.size + 1, 2, none⟩ (.bool D.down)).setCell ⟨w.heap.size + 1, 3, none⟩ (.int .i64 D.power)).setCell ⟨w.heap.size + 1, 4, none⟩ (.int .i64 D.fault)).setCell ⟨w.heap.size + 1, 5, none⟩ (.int .i64 D.wi)) = wf at *
   have z0 := s1.c0
   have z1 := s1.c1
   have z2 := s1.c2
   have z3 := s1.c3
   have z4 := s1.c4
   have z5 := s1.c5
   refine bodyPost_ret (v := .tuple #[.agg #[.slice bA bn bc, .slice wA wn wc, .bool D.down, .int .i64 D.power, .int .i64 D.fault, .int .i64 D.wi], .int .i64 (2)]) (by simp [results, Tryz.results87, go_sem, z0, z1, z2, z3, z4, z5]) rfl ?_
   rw [HE.out.1, HE.out.2]
   exact ⟨_, rfl, HRS.out wf s2, s2⟩
 ·have HE : Hid (writeE D b n = 2 ∧ writeD D b l = D) := Lib.hid (by
   have h2 : askE D b = 2 := by rw [HAK.out, if_neg (by rw [decide_eq_false hin]; simp)]
   exact ⟨by unfold writeE; rw [if_pos (by rw [h2]; decide), h2], by unfold writeD; rw [if_pos (Or.inl (by rw [h2]; decide))]⟩)
  rw [decide_eq_false hin] at IS
  clear hin HO HRO HOC HDD HAA HLN HAK HK1 HK2
  generalize D.blocks.length = bn at *
  generalize D.pending.length = wn at *
  go_enter Tryz.func87, Tryz.ntmps87
  go_upto_region 1 with fail
  obtain ⟨x1, x2, hb⟩ := HT.out _ rfl
  clear HT
  generalize (w.alloc (.cells #[.slice bA bn bc, .slice wA wn wc, .bool D.down, .int .i64 D.power, .int .i64 D.fault, .int .i64 D.wi] 33)).alloc (.cells #[.slice none 0 0, .slice none 0 0, .bool false, .int .i64 0, .int .i64 0, .int .i64 0] 33) = w1 at *
  have hlt1 : w.heap.size + 1 < w1.heap.size := (Array.getElem?_eq_some_iff.1 x2).1
  have y0 := x1.c0
  have y1 := x1.c1
  have y2 := x1.c2
  have y3 := x1.c3
  have y4 := x1.c4
  have y5 := x1.c5
  go_wp2_with fail
  refine (IS.out w1).mono ?_
  rintro e w1b ⟨rfl, hbI⟩
  have x1 := x1.below hbI
  have x2 := x2.below hbI
  have hb := gr_trans hb (hbI.mono (by omega))
  have hlt1 : w.heap.size + 1 < w1b.heap.size := (Array.getElem?_eq_some_iff.1 x2).1
  clear y0 y1 y2 y3 y4 y5 hbI IS
  have y0 := x1.c0
  have y1 := x1.c1
  have y2 := x1.c2
  have y3 := x1.c3
  have y4 := x1.c4
  have y5 := x1.c5
  go_upto_region 2 with fail
  have r0 := x2.c0
  have r1 := x2.c1
  have r2 := x2.c2
  have r3 := x2.c3
  have r4 := x2.c4
  have r5 := x2.c5
  have f0 := x2.fz 0
  have f1 := x2.fz 1
  have f2 := x2.fz 2
  have f3 := x2.fz 3
  have f4 := x2.fz 4
  have f5 := x2.fz 5
  have HS := Lib.hid (set6o x2 (.slice bA bn bc) (.slice wA wn wc) (.bool D.down) (.int .i64 D.power) (.int .i64 D.fault) (.int .i64 D.wi) hb (by omega))
  go_wp2_with fail
  clear r0 f0 r1 f1 r2 f2 r3 f3 r4 f4 r5 f5
  obtain ⟨s1, s2, s3⟩ := HS.out _ rfl
  clear HS
  generalize ((((((w1b.setCell ⟨w.heap.size + 1, 0, none⟩ (.slice bA bn bc)).setCell ⟨w.heap.size + 1, 1, none⟩ (.slice wA wn wc)).setCell ⟨w.heap.size + 1, 2, none⟩ (.bool D.down)).setCell ⟨w.heap.size + 1, 3, none⟩ (.int .i64 D.power)).setCell ⟨w.heap.size + 1, 4, none⟩ (.int .i64 D.fault)).setCell ⟨w.heap.size + 1, 5, none⟩ (.int .i64 D.wi)) = wf at *
  have z0 := s1.c0
  have z1 := s1.c1
  have z2 := s1.c2
  have z3 := s1.c3
  have z4 := s1.c4
  have z5 := s1.c5
  refine bodyPost_ret (v := .tuple #[.agg #[.slice bA bn bc, .slice wA wn wc, .bool D.down, .int .i64 D.power, .int .i64 D.fault, .int .i64 D.wi], .int .i64 (2)]) (by simp [results, Tryz.results87, go_sem, z0, z1, z2, z3, z4, z5]) rfl ?_
  rw [HE.out.1, HE.out.2]
  exact ⟨_, rfl, HRS.out wf s2, s2⟩
end Go.Proofs.YtmdgnjmhbjdlmaaGreat

/-! DpK -/
namespace Go.Proofs.YtmdgnjmhbjdlmaaGreat
open Go Go.RowKit
def zv (g : Nat) : Value := .slice (some ⟨g, 0, none⟩) 4096 4096
structure NI (w wr : World) (i : Nat) (v : Value) : Prop where
 r : B6 wr w.heap.size (.slice none 0 0) (.slice none 0 0) (.bool false) (.int .i64 0) (.int .i64 0) (.int .i64 0)
 t : B6 wr (w.heap.size + 1) v (.slice none 0 0) (.bool false) (.int .i64 (-1)) (.int .i64 (-1)) (.int .i64 0)
 z : BB wr (w.heap.size + 1 + 1) zer
 row : wr.ownsRow (w.heap.size + 3) 57 1 v i (List.replicate i (zv (w.heap.size + 1 + 1)))
 bel : Below w.heap.size w wr
 sz : w.heap.size + 3 ≤ wr.heap.size
theorem NI.start (w : World) : ∀ w1, w1 = ((w.alloc (.cells #[.slice none 0 0, .slice none 0 0, .bool false, .int .i64 0, .int .i64 0, .int .i64 0] 33)).alloc (.cells #[.slice none 0 0, .slice none 0 0, .bool false, .int .i64 (-1), .int .i64 (-1), .int .i64 0] 33)).alloc (.cells (zeroB 4096) 5) → NI w w1 0 (.slice none 0 0) := by
 rintro w1 rfl
 have h0 := B6.new w (.slice none 0 0) (.slice none 0 0) (.bool false) (.int .i64 0) (.int .i64 0) (.int .i64 0)
 have b0 := gr_alloc (gr_refl w) (.cells #[.slice none 0 0, .slice none 0 0, .bool false, .int .i64 0, .int .i64 0, .int .i64 0] 33)
 have s0 : (w.alloc (.cells #[.slice none 0 0, .slice none 0 0, .bool false, .int .i64 0, .int .i64 0, .int .i64 0] 33)).heap.size = w.heap.size + 1 := World.size_alloc _ _
 generalize w.alloc (.cells #[.slice none 0 0, .slice none 0 0, .bool false, .int .i64 0, .int .i64 0, .int .i64 0] 33) = w2 at *
 have h1 := B6.new w2 (.slice none 0 0) (.slice none 0 0) (.bool false) (.int .i64 (-1)) (.int .i64 (-1)) (.int .i64 0)
 have b1 := gr_alloc (gr_refl w2) (.cells #[.slice none 0 0, .slice none 0 0, .bool false, .int .i64 (-1), .int .i64 (-1), .int .i64 0] 33)
 have s1 : (w2.alloc (.cells #[.slice none 0 0, .slice none 0 0, .bool false, .int .i64 (-1), .int .i64 (-1), .int .i64 0] 33)).heap.size = w.heap.size + 1 + 1 := by rw [World.size_alloc, s0]
 generalize w2.alloc (.cells #[.slice none 0 0, .slice none 0 0, .bool false, .int .i64 (-1), .int .i64 (-1), .int .i64 0] 33) = w3 at *
 have h2 := BB.zero w3 4096
 have b2 := gr_alloc (gr_refl w3) (.cells (zeroB 4096) 5)
 rw [s0] at h1
 rw [s1] at h2
 exact ⟨(h0.below b1).below b2, h1.below b2, h2, ⟨rfl, .inl ⟨rfl, rfl⟩⟩, gr_trans (gr_trans b0 b1) b2, by rw [World.size_alloc, s1]; omega⟩
theorem NI.step {w wr w4 : World} {i : Nat} {v v' : Value} (h : NI w wr i v) {o : Obj} (hg : (wr.alloc o).grownBy w4 v.ownBlock) (ho : w4.ownsRow (w.heap.size + 3) 57 1 v' (i + 1) (List.replicate (i + 1) (zv (w.heap.size + 1 + 1)))) :
  (w4.cell? ⟨w.heap.size + 1, 0, none⟩ = some v ∧ w4.frozen? ⟨w.heap.size + 1, 0, none⟩ = false) ∧ NI w (w4.setCell ⟨w.heap.size + 1, 0, none⟩ v') (i + 1) v' := by
 have hsz := h.sz
 have hb : Below (w.heap.size + 3) wr w4 := ((gr_alloc (gr_refl wr) o).mono hsz).grown hg (by simp; omega) (fun k hk => (h.row.lt k hk).1)
 have kp : ∀ k, k < w.heap.size + 3 → w4.heap[k]? = wr.heap[k]? := fun k hk => hb.block k hk
 have r4 : B6 w4 w.heap.size (.slice none 0 0) (.slice none 0 0) (.bool false) (.int .i64 0) (.int .i64 0) (.int .i64 0) := (kp _ (by omega)).trans h.r
 have t4 : B6 w4 (w.heap.size + 1) v (.slice none 0 0) (.bool false) (.int .i64 (-1)) (.int .i64 (-1)) (.int .i64 0) := (kp _ (by omega)).trans h.t
 have z4 : BB w4 (w.heap.size + 1 + 1) zer := (kp _ (by omega)).trans h.z
 have od : Off (· = w.heap.size + 1) w4 (w4.setCell ⟨w.heap.size + 1, 0, none⟩ v') := (Off.refl _ w4).setCell _ rfl
 refine ⟨⟨t4.c0, t4.fz 0⟩, r4.setO (by omega), t4.set0 v', (od.block _ z4.lt (by show ¬ w.heap.size + 1 + 1 = w.heap.size + 1; omega)).trans z4, ownsRow_off ho od (fun k hk e => ?_), ?_, ?_⟩
 ·have := (ho.lt k hk).1
  have e' : k = w.heap.size + 1 := e
  omega
 ·exact (h.bel.trans (hb.mono (by omega))).setCell (p := ⟨w.heap.size + 1, 0, none⟩) (show w.heap.size ≤ w.heap.size + 1 by omega) _
 ·have := hb.size
  have := od.size
  omega
set_option maxRecDepth 100000 in
set_option maxHeartbeats 4000000 in
theorem refNew03_good (n : Nat) (w : World) (h1 : 1 ≤ n) (h2 : n ≤ 4096) :
  Calls Tryz.prog 6 #[.int .i64 (n : Int)] w fun e w' => ∃ v, e = .returned (.tuple #[v, .int .i64 0]) ∧ RK (plusG (fun _ => False) w w') w' v (newD n) ∧ Below w.heap.size w w' := by
 have t1 : decide ((n : Int) < 1) = false := decide_eq_false (by omega)
 have t2 : decide (4096 < (n : Int)) = false := decide_eq_false (by omega)
 obtain ⟨i0, hi0, hz0, hz1, hz2⟩ := info_parts info_lists
 have mk := run_mk_bytes 4096 (by omega) 4096 rfl
 have HS0 := Lib.hid (NI.start w)
 go_enter Tryz.func6, Tryz.ntmps6
 go_upto_region 5 with fail
 have HN0 := Lib.hid (HS0.out _ rfl)
 clear HS0 mk
 generalize ((w.alloc (.cells #[.slice none 0 0, .slice none 0 0, .bool false, .int .i64 0, .int .i64 0, .int .i64 0] 33)).alloc (.cells #[.slice none 0 0, .slice none 0 0, .bool false, .int .i64 (-1), .int .i64 (-1), .int .i64 0] 33)).alloc (.cells (zeroB 4096) 5) = w1 at *
 go_wp2_with fail
 go_loopw [6] (fun i wr => ∃ (j : Nat) (v : Value), j ≤ n ∧ i = .int .i64 (j : Int) ∧ Hid (NI w wr j v)) (fun i _ => n - (intOf i).toNat)
 case atStart => exact ⟨0, _, Nat.zero_le _, rfl, HN0⟩
 case round =>
  clear HN0
  obtain ⟨j, v, hj, rfl, HJ⟩ := hrel
  obtain ⟨Av, cv, rfl, hcv, hcv'⟩ := own_form HJ.out.row
  have y0 := HJ.out.t.c0
  by_cases hlt : j < n
  ·have t3 : decide ((j : Int) < (n : Int)) = true := decide_eq_true (by omega)
   have t3' : decide (j < n) = true := decide_eq_true hlt
   have HZ5 := Lib.hid (Rd.new wr 57 #[zv (w.heap.size + 1 + 1)] 1 1 rfl)
   have HR5 := Lib.hid (ownsRow_off HJ.out.row (Off.of_below (S := fun _ => False) (gr_alloc (gr_refl wr) (.cells #[zv (w.heap.size + 1 + 1)] 57))) (fun _ _ h => h))
   have hsz := HJ.out.sz
   go_upto_region 7 with ((at_builtin); (refine wpList_append_Rd _ rfl (.tmp 22) (.tmp 24) _ rfl (w.heap.size + 3) 57 i0 _ 1 24 Tryz.underlying30 hi0 hz0 hz1 hz2 rfl (.slice Av j cv) j (List.replicate j (zv (w.heap.size + 1 + 1))) rfl HR5.out (some ⟨wr.heap.size, 0, none⟩) 1 1 [zv (w.heap.size + 1 + 1)] rfl HZ5.out (by simp [Value.oneCell', zv]) (by omega) (by simp only [maxLen]; omega) (by rw [World.size_alloc]; omega) ?_); (intro v4 w4 hown4 hg4 _ _); (have hst := HJ.out.step hg4 (by rw [List.replicate_succ']; exact hown4)); (obtain ⟨⟨c4, f4⟩, HN⟩ := hst); (have HN4 := Lib.hid HN); (obtain ⟨A4, c4', rfl, _, _⟩ := own_form hown4); (clear hown4 hg4 HN HZ5 HR5))
   clear c4 f4 y0
   generalize w4.setCell ⟨w.heap.size + 1, 0, none⟩ (.slice A4 (j + 1) c4') = w5 at *
   go_wp2_with fail
   go_roundw
   case rel => exact ⟨j + 1, _, by omega, by go_num, HN4⟩
   case measure => simp [intOf]; omega
  ·obtain rfl : j = n := by omega
   have t3 : decide ((j : Int) < (j : Int)) = false := decide_eq_false (by omega)
   clear y0
   have hlw : w.heap.size < wr.heap.size := by have := HJ.out.sz; omega
   have x2 := HJ.out.r
   have hb := HJ.out.bel
   have x1 := HJ.out.t
   have y0 := x1.c0
   have y1 := x1.c1
   have y2 := x1.c2
   have y3 := x1.c3
   have y4 := x1.c4
   have y5 := x1.c5
   have r0 := x2.c0
   have r1 := x2.c1
   have r2 := x2.c2
   have r3 := x2.c3
   have r4 := x2.c4
   have r5 := x2.c5
   have f0 := x2.fz 0
   have f1 := x2.fz 1
   have f2 := x2.fz 2
   have f3 := x2.fz 3
   have f4 := x2.fz 4
   have f5 := x2.fz 5
   have HS := Lib.hid (set6o x2 (.slice Av j cv) (.slice none 0 0) (.bool false) (.int .i64 (-1)) (.int .i64 (-1)) (.int .i64 0) hb (by omega))
   go_wp2_with fail
   clear r0 f0 r1 f1 r2 f2 r3 f3 r4 f4 r5 f5
   obtain ⟨s1, s2, s3⟩ := HS.out _ rfl
   clear HS
   generalize ((((((wr.setCell ⟨w.heap.size, 0, none⟩ (.slice Av j cv)).setCell ⟨w.heap.size, 1, none⟩ (.slice none 0 0)).setCell ⟨w.heap.size, 2, none⟩ (.bool false)).setCell ⟨w.heap.size, 3, none⟩ (.int .i64 (-1))).setCell ⟨w.heap.size, 4, none⟩ (.int .i64 (-1))).setCell ⟨w.heap.size, 5, none⟩ (.int .i64 0)) = wf at *
   have z0 := s1.c0
   have z1 := s1.c1
   have z2 := s1.c2
   have z3 := s1.c3
   have z4 := s1.c4
   have z5 := s1.c5
   refine bodyPost_ret (v := .tuple #[.agg #[.slice Av j cv, .slice none 0 0, .bool false, .int .i64 (-1), .int .i64 (-1), .int .i64 0], .int .i64 (0)]) (by simp [results, Tryz.results6, go_sem, z0, z1, z2, z3, z4, z5]) rfl ?_
   refine ⟨_, rfl, ?_, s2⟩
   have hz := HJ.out.z
   have hrow := HJ.out.row
   have hz5 : BB wf (w.heap.size + 1 + 1) zer := (s3.block _ hz.lt (by show ¬ w.heap.size + 1 + 1 = w.heap.size; omega)).trans hz
   have hr5 := ownsRow_off hrow s3 (fun k hk e => by have := (hrow.lt k hk).1; have e2 : k = w.heap.size := e; omega)
   have hsw := s3.size
   refine ⟨Av, cv, none, 0, List.replicate j (zv (w.heap.size + 1 + 1)), [], by simp [newD], by simp [newD]; exact hcv, hcv', Nat.le_refl _, by simp [maxLen], ?_, ?_, ?_, ?_, rfl⟩
   ·refine ⟨by simpa [newD] using Rd.of_own hr5, fun ad ea _ => ?_⟩
    obtain ⟨cur, fr, h3⟩ := own_at hr5 ea
    obtain ⟨g, c, e⟩ := own_plain hr5 (by omega)
    injection e with e _ _
    rw [ea] at e
    cases e
    exact .inr ⟨by have := (hr5.lt g (by rw [ea]; rfl)).1; show w.heap.size ≤ g; omega, (Array.getElem?_eq_some_iff.1 h3).1⟩
   ·intro i u l hu hl
    have hu2 : u = zv (w.heap.size + 1 + 1) := (List.mem_replicate.1 (List.mem_of_getElem? hu)).2
    have hl2 : l = zer := (List.mem_replicate.1 (List.mem_of_getElem? (show (List.replicate j zer)[i]? = some l from hl))).2
    subst hu2 hl2
    have hr := hz5.readsAll
    rw [zer_len] at hr
    exact ⟨zer_len, some ⟨w.heap.size + 1 + 1, 0, none⟩, 4096, rfl, hr, fun ad e => by cases e; exact .inr ⟨by show w.heap.size ≤ w.heap.size + 1 + 1; omega, hz5.lt⟩, Nat.le_refl _, by simp [maxLen]⟩
   ·exact ⟨⟨rfl, fun h => absurd h (by simp [newD])⟩, fun _ e => by cases e⟩
   ·intro i q p h
    simp at h
end Go.Proofs.YtmdgnjmhbjdlmaaGreat

/-! RefA -/
namespace Go.Proofs.YtmdgnjmhbjdlmaaGreat
open Go.RowKit
set_option maxHeartbeats 400000 in
theorem refNumber_none (A : Option Addr) (n c : Nat) (w : World) (at_ size : Int) (hn : n ≤ 9223372036854775807) (h0 : 0 ≤ size) (h8 : size ≤ 8) (h : at_ < 0 ∨ (n : Int) - size < at_) (hb : -9223372036854775808 ≤ at_) (hb2 : at_ ≤ 9223372036854775807) :
  Calls Tryz.prog 78 #[.slice A n c, .int .i64 at_, .int .i64 size] w fun e w' => e = .returned (.tuple #[.int .u64 0, .bool false]) ∧ w = w' := by
 by_cases h1 : at_ < 0
 ·have h1' : decide (at_ < 0) = true := by simpa using h1
  go_enter Tryz.func78, Tryz.ntmps78
  go_wp2
  go_ret2
  exact ⟨rfl, rfl⟩
 ·have h1' : decide (at_ < 0) = false := by simpa using h1
  by_cases h3 : (n : Int) < size
  ·have h3' : decide ((n : Int) < size) = true := by simpa using h3
   go_enter Tryz.func78, Tryz.ntmps78
   go_wp2
   go_ret2
   exact ⟨rfl, rfl⟩
  ·have h3' : decide ((n : Int) < size) = false := by simpa using h3
   have h2 : decide ((n : Int) - size < at_) = true := by simp; omega
   go_enter Tryz.func78, Tryz.ntmps78
   go_wp2
   go_ret2
   exact ⟨rfl, rfl⟩
theorem drop_head (l : List UInt8) (j : Nat) (h : j < l.length) : l.drop j = l.getD j 0 :: l.drop (j + 1) := by
 rw [List.drop_eq_getElem_cons h]; simp [List.getD, List.getElem?_eq_getElem h]
set_option maxHeartbeats 400000 in
theorem refNumber_some (A : Option Addr) (n c : Nat) (l : List UInt8) (w : World) (k s : Nat) (ha : BR w A n l) (hn : n ≤ 9223372036854775807) (h8 : s ≤ 8) (h : k + s ≤ n) :
  Calls Tryz.prog 78 #[.slice A n c, .int .i64 k, .int .i64 s] w fun e w' => e = .returned (.tuple #[.int .u64 (leN ((l.drop k).take s)), .bool true]) ∧ w = w' := by
 have h1' : decide ((k : Int) < 0) = false := by simp
 have h2 : decide ((n : Int) - s < k) = false := by simp; omega
 have h3 : decide (n < s) = false := by simp; omega
 go_enter Tryz.func78, Tryz.ntmps78
 go_wp2
 go_loop [8, 9] (fun v i => ∃ j x : Nat, j ≤ s ∧ i = .int .i64 ((s : Int) - 1 - j) ∧ v = .int .u64 x ∧ Hid (x = leN ((l.drop (k + s - j)).take j))) (fun _ i => (intOf i + 1).toNat)
 case atStart => exact ⟨0, 0, Nat.zero_le _, by simp, rfl, Lib.hid (by simp [leN])⟩
 case round =>
  obtain ⟨j, x, hj, rfl, rfl, hx⟩ := hrel
  by_cases hlt : j < s
  ·obtain ⟨g, o, rfl, hc⟩ := ha.at_ (k := k + (s - 1 - j)) (by omega)
   have hxl : x < 72057594037927936 := by
    have h1 := leN_lt ((l.drop (k + s - j)).take j)
    have h2 : ((l.drop (k + s - j)).take j).length ≤ j := by simp; omega
    have h3 : 256 ^ ((l.drop (k + s - j)).take j).length ≤ 256 ^ 7 := Nat.pow_le_pow_right (by decide) (by omega)
    have h4 : (256 : Nat) ^ 7 = 72057594037927936 := by decide
    rw [hx.out]
    omega
   have hyl : (l.getD (k + (s - 1 - j)) 0).toNat < 256 := UInt8.toNat_lt _
   have hy : Hid (256 * x + (l.getD (k + (s - 1 - j)) 0).toNat = leN ((l.drop (k + s - (j + 1))).take (j + 1))) := by
    show _ = _
    have e1 : k + s - (j + 1) = k + (s - 1 - j) := by omega
    have hl := ha.len
    rw [e1, drop_head l _ (by omega), List.take_succ_cons, leN, hx.out]
    have e2 : k + (s - 1 - j) + 1 = k + s - j := by omega
    rw [e2]
    omega
   generalize (l.getD (k + (s - 1 - j)) 0).toNat = y at *
   have e3 : k + (s - 1 - j) = k + s - 1 - j := by omega
   rw [e3] at hc
   have e5 : ((k : Int) + ((s : Int) - 1 - (j : Int))).toNat = k + s - 1 - j := by omega
   go_wp2
   go_round
   case rel => exact ⟨j + 1, 256 * x + y, by omega, by go_num, by go_num, hy⟩
   case measure => simp [intOf]; omega
  ·go_wp2
   go_ret2
   have : j = s := by omega
   subst this
   refine ⟨?_, rfl⟩
   rw [hx.out]
   simp
theorem refNumber_any (A : Option Addr) (n c : Nat) (l : List UInt8) (w : World) (at_ : Int) (s : Nat) (ha : BR w A n l) (hn : n ≤ 9223372036854775807) (h8 : s ≤ 8) (hb : -9223372036854775808 ≤ at_) (hb2 : at_ ≤ 9223372036854775807) :
  Calls Tryz.prog 78 #[.slice A n c, .int .i64 at_, .int .i64 (s : Int)] w fun e w' =>
   e = .returned (.tuple #[.int .u64 (((numAt l at_ s).getD 0 : Nat) : Int), .bool (numAt l at_ s).isSome]) ∧ w = w' := by
 have hl := ha.len
 by_cases h : at_ < 0 ∨ (n : Int) - s < at_
 ·refine (refNumber_none A n c w at_ s hn (by omega) (by omega) h hb hb2).mono ?_
  rintro e w' ⟨rfl, rfl⟩
  have : numAt l at_ s = none := by unfold numAt; rw [hl, if_pos h]
  rw [this]
  exact ⟨rfl, rfl⟩
 ·have hk : at_ = (at_.toNat : Int) := by omega
  have e : numAt l at_ s = some (leN ((l.drop at_.toNat).take s)) := by unfold numAt; rw [hl, if_neg h]
  rw [e]
  generalize at_.toNat = k at hk ⊢
  subst hk
  exact refNumber_some A n c l w k s ha hn h8 (by omega)
set_option maxRecDepth 100000 in
set_option maxHeartbeats 800000 in
theorem refAdd_any (A : Option Addr) (n c : Nat) (l : List UInt8) (w : World) (v s : Nat) (ha : BR w A n l) (hn : n ≤ 211106232532984) (hs : s ≤ 8) (hv : v < 18446744073709551616) :
  Calls Tryz.prog 97 #[.slice A n c, .int .u64 v, .int .i64 s] w fun e w' => ∃ r, e = .returned r ∧ OB w' w.heap.size r (l ++ leB v s) ∧ Below w.heap.size w w' := by
 obtain ⟨i0, hi0, hz0, hz1, hz2⟩ := info_parts info_u8
 have HV := Lib.hid hv
 clear hv
 go_enter Tryz.func97, Tryz.ntmps97
 go_wp2_with (at_builtin; refine wpList_append_Rd _ rfl (.tmp 9) (.tmp 10) _ rfl w.heap.size 5 i0 _ 1 1 Tryz.underlying57 hi0 hz0 hz1 hz2 rfl (.slice none 0 0) 0 [] rfl ⟨rfl, .inl ⟨rfl, rfl⟩⟩ A n c _ rfl ha (one_bv l) (by omega) (by simp only [maxLen]; omega) (Nat.le_refl _) ?_; intro v1 w1 hown1 hg1 _ _)
 have ho1 : OB w1 w.heap.size v1 (l ++ leB v 0) := OB.of_own hown1 (by simp [leB])
 have hb1 : Below w.heap.size w w1 := (Below.refl _ _).grown hg1 (Nat.le_refl _) (by simp [Value.ownBlock])
 have HL := Lib.hid ha.len
 clear hown1 hg1
 go_loopw [1, 7, 8] (fun x r i wr => ∃ j : Nat, j ≤ s ∧ i = .int .i64 j ∧ x = .int .u64 ((v / 256 ^ j : Nat) : Int) ∧ OB wr w.heap.size r (l ++ leB v j) ∧ Below w.heap.size w wr) (fun _ _ i _ => s - (intOf i).toNat)
 case atStart => exact ⟨0, Nat.zero_le _, rfl, by simp, ho1, hb1⟩
 case round =>
  obtain ⟨j, hj, rfl, rfl, ho, hb⟩ := hrel
  clear ho1 hb1
  by_cases hlt : j < s
  ·have hlen : (l ++ leB v j).length = n + j := by rw [List.length_append, leB_length, HL.out]
   have HLEN := Lib.hid hlen
   have hlen2 : (l ++ leB v j).length ≤ n + j := by omega
   have hdd : Hid (v / 256 ^ j / 256 = v / 256 ^ (j + 1)) := by show _ = _; rw [Nat.div_div_eq_div_mul, Nat.pow_succ]
   have hbyte : Hid (bv (UInt8.ofNat (v / 256 ^ j)) = .int .u8 (((v / 256 ^ j : Nat) : Int) % 256)) := by
    show _ = _
    unfold bv
    congr 1
   clear hlen
   generalize hy : v / 256 ^ j = y at *
   have HY := Lib.hid hy
   clear hy
   go_wp2_with (at_builtin; refine wpList_append_Rd _ rfl (.tmp 17) (.tmp 21) _ rfl w.heap.size 5 i0 _ 1 1 Tryz.underlying57 hi0 hz0 hz1 hz2 rfl u7 (l ++ leB v j).length _ rfl (World.ownsRow.alloc ho _) _ 1 1 _ rfl (Rd.new wr _ #[_] 1 1 rfl) (by simp [Value.oneCell']) (by omega) (by simp only [maxLen]; omega) (by have := hb.size; simp; omega) ?_; intro v2 w2 hown2 hg2 _ hat2)
   have hb2 : Below w.heap.size w w2 := (hb.alloc hb.size _).grown hg2 (by have := hb.size; simp; omega) (fun k hk => (World.ownsRow.lt ho k hk).1)
   have ho2 : OB w2 w.heap.size v2 (l ++ leB v (j + 1)) := by
    refine OB.of_own hown2 ?_
    rw [leB_snoc, ← List.append_assoc, HY.out]
    simp [hbyte.out]
   clear hown2 hg2 hat2 hlen2
   go_wp2
   go_roundw
   case rel => exact ⟨j + 1, by omega, by go_num, by (have hyl : y < 18446744073709551616 := by (rw [← HY.out]; exact Nat.lt_of_le_of_lt (Nat.div_le_self _ _) HV.out)); rw [← hdd.out, IntKind.wrap_u64]; congr 1; omega, ho2, hb2⟩
   case measure => simp [intOf]; omega
  ·go_wp2
   go_ret
   have : j = s := by omega
   subst this
   exact ⟨_, rfl, ho, hb⟩
end Go.Proofs.YtmdgnjmhbjdlmaaGreat

/-! RefB -/
namespace Go.Proofs.YtmdgnjmhbjdlmaaGreat
open Go.RowKit
end Go.Proofs.YtmdgnjmhbjdlmaaGreat

/-! StD -/
namespace Go.Proofs.YtmdgnjmhbjdlmaaGreat
open Go.RowKit
theorem zeroCells_u8 (k : Nat) : (Builtin.zeroCells (Value.cells (.int .u8 0)) k).toList = (List.replicate k (0 : UInt8)).map bv := by
 have h : Builtin.zeroCells (Value.cells (.int .u8 0)) k = zeroB k := by
  unfold Builtin.zeroCells zeroB madeCells
  simp [Value.cells]
 rw [h, zeroB_toList]
theorem run_append_zeros (w : World) (base : Nat) (ty : TypeId) (A : Option Addr) (c N : Nat) (l : List UInt8) (k : Nat) (x : Int) (hx : x = k) (hN : l.length = N) (hown : OB w base (.slice A N c) l) (hne : 0 < l.length) (hb : base ≤ w.heap.size) (hbig : l.length + k ≤ 140737488355328) :
  ∃ v' w', (Builtin.append_ #[57, 3] ty #[.slice A N c, .int .i64 x]).run Tryz.prog w = .ok v' w' ∧ OB w' base v' (l ++ List.replicate k 0) ∧ w.grownBy w' (Value.slice A N c).ownBlock := by
 subst hN
 obtain ⟨i0, hi0, hz0, hz1, hz2⟩ := info_parts info_u8
 subst hx
 have hw : IntKind.i64.wrap (k : Int) = k := by rw [IntKind.wrap_i64]; omega
 have hneg : ¬ ((k : Int) < 0) := by omega
 have h48i : ¬ (281474976710656 < (k : Int)) := by omega
 rcases hown.2 with ⟨e, h0⟩ | ⟨g, cap, cur, e, hbg, hg, hnc, hcm, hcs, htake⟩
 ·omega
 ·cases e
  simp only [Nat.mul_one] at hcs htake
  by_cases hroom : l.length + k ≤ c
  ·rcases Nat.eq_zero_or_pos k with h0 | h0
   ·subst h0
    refine ⟨_, w, ?_, by simpa using hown, World.grownBy.refl w _⟩
    have hw0 : IntKind.i64.wrap 0 = 0 := by decide
    simp [Builtin.append_, run_underlying Tryz.underlying57, run_underlying Tryz.underlying3, sizeOf, typeInfo, hi0, hz2, asInt, asIntOf, hw0, hnc, storeCells]
   ·have hst := run_storeCells_at Tryz.prog g l.length 5 ((List.replicate k (0 : UInt8)).map bv) 0 cur w hg (by simp; omega) (one_bv _)
    simp only [Nat.add_zero] at hst
    have hzc := zeroCells_u8 k
    have hns : ¬ (k = 0) := by omega
    simp only [List.map_replicate, List.length_replicate] at hst hzc
    refine ⟨.slice (some ⟨g, 0, none⟩) (l.length + k) c, w.setRow g (cur.toList.take l.length ++ (List.replicate k (0 : UInt8)).map bv ++ cur.toList.drop (l.length + ((List.replicate k (0 : UInt8)).map bv).length)).toArray, ?_, OB.of_own (n := l.length + k) (xs := l.map bv ++ (List.replicate k (0 : UInt8)).map bv) ⟨by simp, .inr ⟨g, c, _, rfl, hbg, setRow_heap w g cur _ _ _ hg, hroom, hcm, ?_, ?_⟩⟩ (by simp), ⟨rfl, rfl, rfl, by simp, fun j _ hj => setRow_other w g j _ (fun e => hj (by simp [Value.ownBlock, e]))⟩⟩
    ·simp [Builtin.append_, run_underlying Tryz.underlying57, run_underlying Tryz.underlying3, sizeOf, typeInfo, zeroValue, hi0, hz0, hz1, hz2, asInt, asIntOf, hw, hroom, hneg, h48i, hns, hzc, hst, add_plain]
    ·simp; omega
    ·rw [Nat.mul_one]
     have h1 : (cur.toList.take l.length ++ (List.replicate k (0 : UInt8)).map bv).length = l.length + k := by simp; omega
     rw [← htake]
     exact List.take_left' h1
  ·have holds : ∀ j u, (l.map bv)[j]? = some u → w.cell? ((⟨g, 0, none⟩ : Addr).add j) = some u := hown.cells (g := g) rfl
   have hfirst : (Builtin.firstCells i0.size l.length (.slice (some ⟨g, 0, none⟩) l.length c)).run Tryz.prog w.drew = .ok (l.map bv).toArray w.drew :=
    run_firstCells_some (P := Tryz.prog) w.drew i0.size l.length ⟨g, 0, none⟩ l.length c (l.map bv) (by simp [hz1]) holds
   have hq := nextslicecap_quarter (need := l.length + k) (old := c) (by omega)
   have hr := Lib.run_append_grow_zeros (P := Tryz.prog) w 57 3 ty 5 i0 (.int .u8 0) .i64 .i64 Tryz.underlying57 Tryz.underlying3 hi0 hz0 (some ⟨g, 0, none⟩) l.length c (l.map bv) hfirst k (by omega) (by omega) (by omega) (by omega) (by rw [hz2]; omega) (by rw [hz2]; omega)
   have hge := grownCap_ge w (l.length + k) c 5
   have hcm2 : grownCap w (l.length + k) c 5 ≤ maxLen := grownCap_le_maxLen w _ _ _ (by simp only [maxLen]; omega)
   refine ⟨_, _, hr, OB.of_own (n := l.length + k) (xs := l.map bv ++ (List.replicate k (0 : UInt8)).map bv) ⟨by simp, .inr ⟨w.heap.size, _, _, rfl, hb, heap_alloc_new w.drew _, hge, hcm2, ?_, ?_⟩⟩ (by simp), ⟨rfl, rfl, rfl, by simp, fun j hj _ => Below.heap_alloc w.drew _ j hj⟩⟩
   ·simp only [Array.size_append, List.size_toArray, List.length_map, size_zeroCells, Value.cells]
    simp
    omega
   ·simp only [Array.toList_append, zeroCells_u8, Nat.mul_one]
    have h1 : (l.map bv ++ (List.replicate k (0 : UInt8)).map bv).length = l.length + k := by simp
    exact List.take_left' h1
set_option maxHeartbeats 400000 in
set_option maxRecDepth 100000 in
theorem refSeal_fits (A : Option Addr) (n c v : Nat) (l : List UInt8) (w : World) (ha : BR w A n l) (hn : n ≤ 4080) (hv : v < 18446744073709551616) :
  Calls Tryz.prog 85 #[.slice A n c, .int .u64 v] w fun e w' => ∃ r, e = .returned (.tuple #[r, .int .i64 0]) ∧ OB w' w.heap.size r (leB v 8 ++ (l ++ List.replicate (4080 - n) 0) ++ leB v 8) ∧ Below w.heap.size w w' := by
 obtain ⟨i0, hi0, hz0, hz1, hz2⟩ := info_parts info_u8
 have hn' : decide ((4080 : Int) < (n : Int)) = false := by simp; omega
 have HV := Lib.hid hv
 have HL := Lib.hid ha.len
 clear hv
 go_enter Tryz.func85, Tryz.ntmps85
 go_wp2_with fail
 refine (refAdd_any none 0 0 [] w v 8 (BR.none_ _ _) (by omega) (by omega) HV.out).mono ?_
 rintro e w1 ⟨v1, rfl, ho1, hb1⟩
 rw [List.nil_append] at ho1
 have ha1 := ha.below hb1
 have hlb : (leB v 8).length ≤ 8 := by rw [leB_length]; omega
 go_wp2_with (first
  | (at_builtin; refine wpList_append_Rd _ rfl (.tmp 12) (.tmp 13) _ rfl w.heap.size 5 i0 _ 1 1 Tryz.underlying57 hi0 hz0 hz1 hz2 rfl v1 (leB v 8).length _ rfl ho1 A n c _ rfl ha1 (one_bv l) (by omega) (by simp only [maxLen]; omega) hb1.size ?_; intro v2 w2 hown2 hg2 _ _; have hb2 := gr_own hb1 ho1 hg2; obtain ⟨A2, c2, rfl, hc2, hm2⟩ := own_form hown2; clear ho1)
  | (at_builtin; obtain ⟨v3, w3, hr3, ho3, hg3⟩ := run_append_zeros w2 w.heap.size 57 A2 c2 ((leB v 8).length + n) (leB v 8 ++ l) (4080 - n) (4080 - (n : Int)) (by omega) (by rw [List.length_append, HL.out]) (OB.of_own hown2 (by simp)) (by rw [List.length_append, leB_length]; omega) hb2.size (by rw [List.length_append, leB_length, HL.out]; omega); refine Lib.wpList_append_run _ rfl (.tmp 15) (.tmp 18) _ _ rfl _ _ rfl rfl _ _ hr3 ?_; clear hr3; have hb3 := gr_own hb2 hown2 hg3; obtain ⟨A3, c3, rfl, r3, hc3, hm3⟩ := ho3.formN (n := 4088) (by simp only [List.length_append, leB_length, HL.out, List.length_replicate]; omega)))
 refine (refAdd_any A3 4088 c3 _ w3 v 8 r3 (by omega) (by omega) HV.out).mono ?_
 rintro e w4 ⟨v4, rfl, ho4, hb4⟩
 go_wp2
 go_ret2
 refine ⟨v4, rfl, ?_, gr_trans hb3 hb4⟩
 have := OB.lower ho4 hb3.size
 simpa only [List.append_assoc] using this
end Go.Proofs.YtmdgnjmhbjdlmaaGreat

/-! StE -/
namespace Go.Proofs.YtmdgnjmhbjdlmaaGreat
open Go.RowKit
theorem leN_inj : ∀ (a b : List UInt8), a.length = b.length → leN a = leN b → a = b
 | [], [], _, _ => rfl
 | [], _ :: _, h, _ => by simp at h
 | _ :: _, [], h, _ => by simp at h
 | x :: a, y :: b, h, e => by
  simp only [leN] at e
  have hx := x.toNat_lt
  have hy := y.toNat_lt
  have h1 : x.toNat = y.toNat := by omega
  have h2 : leN a = leN b := by omega
  rw [UInt8.toNat_inj.1 h1, leN_inj a b (by simpa using h) h2]
theorem leN_bne (a b : List UInt8) (h : a.length = b.length) : (((leN a : Nat) : Int) != ((leN b : Nat) : Int)) = !(a == b) := by
 rw [Bool.eq_iff_iff]
 simp only [bne_iff_ne, Bool.not_eq_true', beq_eq_false_iff_ne]
 constructor
 ·intro hne e; exact hne (by rw [e])
 ·intro hne e; exact hne (leN_inj a b h (by omega))
set_option maxHeartbeats 400000 in
set_option maxRecDepth 100000 in
theorem refOpen_any (A : Option Addr) (c : Nat) (l : List UInt8) (w : World) (ha : BR w A 4096 l) (hc : 4096 ≤ c) :
  Calls Tryz.prog 61 #[.slice A 4096 c] w fun e w' => ∃ r, e = .returned (.tuple #[r, .int .u64 ((openS l : Nat) : Int), .int .i64 (openE l)]) ∧ OB w' w.heap.size r (openP l) ∧ Below w.heap.size w w' := by
 obtain ⟨i0, hi0, hz0, hz1, hz2⟩ := info_parts info_u8
 have hl := ha.len
 have n1 : numAt l 0 8 = some (leN (l.take 8)) := by unfold numAt; rw [if_neg (by omega)]; rfl
 have n2 : numAt l 4088 8 = some (leN (l.drop 4088)) := by
  unfold numAt
  rw [if_neg (by omega)]
  congr 2
  exact List.take_of_length_le (by rw [List.length_drop]; omega)
 have hbn := leN_bne (l.take 8) (l.drop 4088) (by rw [List.length_take, List.length_drop]; omega)
 have c1 := refNumber_any A 4096 c l w 0 8 ha (by omega) (by omega) (by omega) (by omega)
 have c2 := refNumber_any A 4096 c l w 4088 8 ha (by omega) (by omega) (by omega) (by omega)
 rw [n1] at c1
 rw [n2] at c2
 simp only [Option.getD_some, Option.isSome_some] at c1 c2
 have hcut := fun W => run_cut_lh (P := Tryz.prog) W 57 5 i0 Tryz.underlying57 hi0 1 hz1 A 4096 c 8 4088 8 4088 rfl rfl (by omega) (by omega)
 have hpay := ha.cut (k := 8) (j := 4088) (c := c) (by omega) (by omega) hc
 have HP : Hid (openP l = if (l.take 8 == l.drop 4088) then (l.drop 8).take 4080 else []) := rfl
 have HE : Hid (openE l = if (l.take 8 == l.drop 4088) then 0 else 140) := rfl
 have HS : Hid (openS l = if (l.take 8 == l.drop 4088) then leN (l.take 8) else 0) := rfl
 generalize (l.take 8 == l.drop 4088) = sl at *
 generalize leN (l.take 8) = x at *
 generalize leN (l.drop 4088) = y at *
 generalize cutA A c 8 1 = A8 at *
 have C1 := Lib.hid c1
 have C2 := Lib.hid c2
 clear c1 c2 n1 n2 hl
 cases sl with
 | false =>
  simp only [Bool.not_false] at hbn
  go_enter Tryz.func61, Tryz.ntmps61
  go_wp2_with fail
  refine C1.out.mono ?_
  rintro e w' ⟨rfl, rfl⟩
  go_wp2_with fail
  refine C2.out.mono ?_
  rintro e w' ⟨rfl, rfl⟩
  go_wp2
  go_ret3
  refine ⟨_, by rw [HS.out, HE.out]; rfl, ?_, gr_refl _⟩
  rw [HP.out]
  exact OB.nil _ _
 | true =>
  simp only [Bool.not_true] at hbn
  go_enter Tryz.func61, Tryz.ntmps61
  go_wp2_with fail
  refine C1.out.mono ?_
  rintro e w' ⟨rfl, rfl⟩
  go_wp2_with fail
  refine C2.out.mono ?_
  rintro e w' ⟨rfl, rfl⟩
  go_wp2_with (at_builtin; refine wpList_append_Rd _ rfl (.tmp 26) (.tmp 28) _ rfl w.heap.size 5 i0 _ 1 1 Tryz.underlying57 hi0 hz0 hz1 hz2 rfl (.slice none 0 0) 0 [] rfl ⟨rfl, .inl ⟨rfl, rfl⟩⟩ A8 4080 _ _ rfl hpay (one_bv _) (by omega) (by simp only [maxLen]; omega) (Nat.le_refl _) ?_; intro v1 w1 hown1 hg1 _ _)
  go_ret3
  refine ⟨v1, by rw [HS.out, HE.out]; rfl, ?_, (Below.refl _ _).grown hg1 (Nat.le_refl _) (by simp [Value.ownBlock])⟩
  rw [HP.out]
  exact OB.of_own hown1 (by simp)
set_option maxHeartbeats 400000 in
theorem refOf_any (a b : Int) (w : World) :
  Calls Tryz.prog 86 #[.int .i64 a, .int .i64 b] w fun e w' => e = .returned (.int .u64 (a % 4294967296 * 4294967296 + b % 4294967296)) ∧ w = w' := by
 go_enter Tryz.func86, Tryz.ntmps86
 go_wp2
 go_ret
 refine ⟨ret_i ?_, rfl⟩
 simp only [IntKind.wrap_u64]
 rw [Int.tmod_eq_emod_of_nonneg (Int.emod_nonneg a (by decide)), Int.tmod_eq_emod_of_nonneg (Int.emod_nonneg b (by decide))]
 omega
end Go.Proofs.YtmdgnjmhbjdlmaaGreat

/-! PrA -/
namespace Go.Proofs.YtmdgnjmhbjdlmaaGreat
open Go Go.RowKit
/-! Boxes. -/
def B14 (w : World) (g : Nat) (x0 x1 x2 x3 x4 x5 x6 x7 x8 x9 x10 x11 x12 x13 : Value) : Prop := w.heap[g]? = some (.cells #[x0, x1, x2, x3, x4, x5, x6, x7, x8, x9, x10, x11, x12, x13] 42 (0, 0))
section
variable {w w' : World} {g : Nat} {x0 x1 x2 x3 x4 x5 x6 x7 x8 x9 x10 x11 x12 x13 : Value}
theorem B14.new (w : World) (x0 x1 x2 x3 x4 x5 x6 x7 x8 x9 x10 x11 x12 x13 : Value) : B14 (w.alloc (.cells #[x0, x1, x2, x3, x4, x5, x6, x7, x8, x9, x10, x11, x12, x13] 42)) w.heap.size x0 x1 x2 x3 x4 x5 x6 x7 x8 x9 x10 x11 x12 x13 := heap_alloc_new w _
theorem B14.lt (h : B14 w g x0 x1 x2 x3 x4 x5 x6 x7 x8 x9 x10 x11 x12 x13) : g < w.heap.size := (Array.getElem?_eq_some_iff.1 h).1
theorem B14.below (h : B14 w g x0 x1 x2 x3 x4 x5 x6 x7 x8 x9 x10 x11 x12 x13) (hb : Below w.heap.size w w') : B14 w' g x0 x1 x2 x3 x4 x5 x6 x7 x8 x9 x10 x11 x12 x13 := (hb.block _ (Array.getElem?_eq_some_iff.1 h).1).trans h
theorem B14.off {S : Nat → Prop} (h : B14 w g x0 x1 x2 x3 x4 x5 x6 x7 x8 x9 x10 x11 x12 x13) (ho : Off S w w') (hg : ¬ S g) : B14 w' g x0 x1 x2 x3 x4 x5 x6 x7 x8 x9 x10 x11 x12 x13 := (ho.block g (Array.getElem?_eq_some_iff.1 h).1 hg).trans h
theorem B14.c0 (h : B14 w g x0 x1 x2 x3 x4 x5 x6 x7 x8 x9 x10 x11 x12 x13) : w.cell? ⟨g, 0, none⟩ = some x0 := by rw [cell_of_row w g 0 _ _ _ h]; rfl
theorem B14.c1 (h : B14 w g x0 x1 x2 x3 x4 x5 x6 x7 x8 x9 x10 x11 x12 x13) : w.cell? ⟨g, 1, none⟩ = some x1 := by rw [cell_of_row w g 1 _ _ _ h]; rfl
theorem B14.c2 (h : B14 w g x0 x1 x2 x3 x4 x5 x6 x7 x8 x9 x10 x11 x12 x13) : w.cell? ⟨g, 2, none⟩ = some x2 := by rw [cell_of_row w g 2 _ _ _ h]; rfl
theorem B14.c3 (h : B14 w g x0 x1 x2 x3 x4 x5 x6 x7 x8 x9 x10 x11 x12 x13) : w.cell? ⟨g, 3, none⟩ = some x3 := by rw [cell_of_row w g 3 _ _ _ h]; rfl
theorem B14.c4 (h : B14 w g x0 x1 x2 x3 x4 x5 x6 x7 x8 x9 x10 x11 x12 x13) : w.cell? ⟨g, 4, none⟩ = some x4 := by rw [cell_of_row w g 4 _ _ _ h]; rfl
theorem B14.c5 (h : B14 w g x0 x1 x2 x3 x4 x5 x6 x7 x8 x9 x10 x11 x12 x13) : w.cell? ⟨g, 5, none⟩ = some x5 := by rw [cell_of_row w g 5 _ _ _ h]; rfl
theorem B14.c6 (h : B14 w g x0 x1 x2 x3 x4 x5 x6 x7 x8 x9 x10 x11 x12 x13) : w.cell? ⟨g, 6, none⟩ = some x6 := by rw [cell_of_row w g 6 _ _ _ h]; rfl
theorem B14.c7 (h : B14 w g x0 x1 x2 x3 x4 x5 x6 x7 x8 x9 x10 x11 x12 x13) : w.cell? ⟨g, 7, none⟩ = some x7 := by rw [cell_of_row w g 7 _ _ _ h]; rfl
theorem B14.c8 (h : B14 w g x0 x1 x2 x3 x4 x5 x6 x7 x8 x9 x10 x11 x12 x13) : w.cell? ⟨g, 8, none⟩ = some x8 := by rw [cell_of_row w g 8 _ _ _ h]; rfl
theorem B14.c9 (h : B14 w g x0 x1 x2 x3 x4 x5 x6 x7 x8 x9 x10 x11 x12 x13) : w.cell? ⟨g, 9, none⟩ = some x9 := by rw [cell_of_row w g 9 _ _ _ h]; rfl
theorem B14.c10 (h : B14 w g x0 x1 x2 x3 x4 x5 x6 x7 x8 x9 x10 x11 x12 x13) : w.cell? ⟨g, 10, none⟩ = some x10 := by rw [cell_of_row w g 10 _ _ _ h]; rfl
theorem B14.c11 (h : B14 w g x0 x1 x2 x3 x4 x5 x6 x7 x8 x9 x10 x11 x12 x13) : w.cell? ⟨g, 11, none⟩ = some x11 := by rw [cell_of_row w g 11 _ _ _ h]; rfl
theorem B14.c12 (h : B14 w g x0 x1 x2 x3 x4 x5 x6 x7 x8 x9 x10 x11 x12 x13) : w.cell? ⟨g, 12, none⟩ = some x12 := by rw [cell_of_row w g 12 _ _ _ h]; rfl
theorem B14.c13 (h : B14 w g x0 x1 x2 x3 x4 x5 x6 x7 x8 x9 x10 x11 x12 x13) : w.cell? ⟨g, 13, none⟩ = some x13 := by rw [cell_of_row w g 13 _ _ _ h]; rfl
theorem B14.fz (h : B14 w g x0 x1 x2 x3 x4 x5 x6 x7 x8 x9 x10 x11 x12 x13) (j : Nat) : w.frozen? ⟨g, j, none⟩ = false := by unfold B14 at h; simp [World.frozen?, h]
theorem B14.set0 (h : B14 w g x0 x1 x2 x3 x4 x5 x6 x7 x8 x9 x10 x11 x12 x13) (u : Value) : B14 (w.setCell ⟨g, 0, none⟩ u) g u x1 x2 x3 x4 x5 x6 x7 x8 x9 x10 x11 x12 x13 := by
 unfold B14 at h ⊢
 simp only [World.setCell, Array.getElem?_modify, if_pos, h]
 rfl
theorem B14.set1 (h : B14 w g x0 x1 x2 x3 x4 x5 x6 x7 x8 x9 x10 x11 x12 x13) (u : Value) : B14 (w.setCell ⟨g, 1, none⟩ u) g x0 u x2 x3 x4 x5 x6 x7 x8 x9 x10 x11 x12 x13 := by
 unfold B14 at h ⊢
 simp only [World.setCell, Array.getElem?_modify, if_pos, h]
 rfl
theorem B14.set2 (h : B14 w g x0 x1 x2 x3 x4 x5 x6 x7 x8 x9 x10 x11 x12 x13) (u : Value) : B14 (w.setCell ⟨g, 2, none⟩ u) g x0 x1 u x3 x4 x5 x6 x7 x8 x9 x10 x11 x12 x13 := by
 unfold B14 at h ⊢
 simp only [World.setCell, Array.getElem?_modify, if_pos, h]
 rfl
theorem B14.set3 (h : B14 w g x0 x1 x2 x3 x4 x5 x6 x7 x8 x9 x10 x11 x12 x13) (u : Value) : B14 (w.setCell ⟨g, 3, none⟩ u) g x0 x1 x2 u x4 x5 x6 x7 x8 x9 x10 x11 x12 x13 := by
 unfold B14 at h ⊢
 simp only [World.setCell, Array.getElem?_modify, if_pos, h]
 rfl
theorem B14.set4 (h : B14 w g x0 x1 x2 x3 x4 x5 x6 x7 x8 x9 x10 x11 x12 x13) (u : Value) : B14 (w.setCell ⟨g, 4, none⟩ u) g x0 x1 x2 x3 u x5 x6 x7 x8 x9 x10 x11 x12 x13 := by
 unfold B14 at h ⊢
 simp only [World.setCell, Array.getElem?_modify, if_pos, h]
 rfl
theorem B14.set5 (h : B14 w g x0 x1 x2 x3 x4 x5 x6 x7 x8 x9 x10 x11 x12 x13) (u : Value) : B14 (w.setCell ⟨g, 5, none⟩ u) g x0 x1 x2 x3 x4 u x6 x7 x8 x9 x10 x11 x12 x13 := by
 unfold B14 at h ⊢
 simp only [World.setCell, Array.getElem?_modify, if_pos, h]
 rfl
theorem B14.set6 (h : B14 w g x0 x1 x2 x3 x4 x5 x6 x7 x8 x9 x10 x11 x12 x13) (u : Value) : B14 (w.setCell ⟨g, 6, none⟩ u) g x0 x1 x2 x3 x4 x5 u x7 x8 x9 x10 x11 x12 x13 := by
 unfold B14 at h ⊢
 simp only [World.setCell, Array.getElem?_modify, if_pos, h]
 rfl
theorem B14.set7 (h : B14 w g x0 x1 x2 x3 x4 x5 x6 x7 x8 x9 x10 x11 x12 x13) (u : Value) : B14 (w.setCell ⟨g, 7, none⟩ u) g x0 x1 x2 x3 x4 x5 x6 u x8 x9 x10 x11 x12 x13 := by
 unfold B14 at h ⊢
 simp only [World.setCell, Array.getElem?_modify, if_pos, h]
 rfl
theorem B14.set8 (h : B14 w g x0 x1 x2 x3 x4 x5 x6 x7 x8 x9 x10 x11 x12 x13) (u : Value) : B14 (w.setCell ⟨g, 8, none⟩ u) g x0 x1 x2 x3 x4 x5 x6 x7 u x9 x10 x11 x12 x13 := by
 unfold B14 at h ⊢
 simp only [World.setCell, Array.getElem?_modify, if_pos, h]
 rfl
theorem B14.set9 (h : B14 w g x0 x1 x2 x3 x4 x5 x6 x7 x8 x9 x10 x11 x12 x13) (u : Value) : B14 (w.setCell ⟨g, 9, none⟩ u) g x0 x1 x2 x3 x4 x5 x6 x7 x8 u x10 x11 x12 x13 := by
 unfold B14 at h ⊢
 simp only [World.setCell, Array.getElem?_modify, if_pos, h]
 rfl
theorem B14.set10 (h : B14 w g x0 x1 x2 x3 x4 x5 x6 x7 x8 x9 x10 x11 x12 x13) (u : Value) : B14 (w.setCell ⟨g, 10, none⟩ u) g x0 x1 x2 x3 x4 x5 x6 x7 x8 x9 u x11 x12 x13 := by
 unfold B14 at h ⊢
 simp only [World.setCell, Array.getElem?_modify, if_pos, h]
 rfl
theorem B14.set11 (h : B14 w g x0 x1 x2 x3 x4 x5 x6 x7 x8 x9 x10 x11 x12 x13) (u : Value) : B14 (w.setCell ⟨g, 11, none⟩ u) g x0 x1 x2 x3 x4 x5 x6 x7 x8 x9 x10 u x12 x13 := by
 unfold B14 at h ⊢
 simp only [World.setCell, Array.getElem?_modify, if_pos, h]
 rfl
theorem B14.set12 (h : B14 w g x0 x1 x2 x3 x4 x5 x6 x7 x8 x9 x10 x11 x12 x13) (u : Value) : B14 (w.setCell ⟨g, 12, none⟩ u) g x0 x1 x2 x3 x4 x5 x6 x7 x8 x9 x10 x11 u x13 := by
 unfold B14 at h ⊢
 simp only [World.setCell, Array.getElem?_modify, if_pos, h]
 rfl
theorem B14.set13 (h : B14 w g x0 x1 x2 x3 x4 x5 x6 x7 x8 x9 x10 x11 x12 x13) (u : Value) : B14 (w.setCell ⟨g, 13, none⟩ u) g x0 x1 x2 x3 x4 x5 x6 x7 x8 x9 x10 x11 x12 u := by
 unfold B14 at h ⊢
 simp only [World.setCell, Array.getElem?_modify, if_pos, h]
 rfl
theorem B14.all (h : B14 w g x0 x1 x2 x3 x4 x5 x6 x7 x8 x9 x10 x11 x12 x13) (u0 u1 u2 u3 u4 u5 u6 u7 u8 u9 u10 u11 u12 u13 : Value) : ∀ w2, w2 = ((((((((((((((w.setCell ⟨g, 0, none⟩ u0).setCell ⟨g, 1, none⟩ u1).setCell ⟨g, 2, none⟩ u2).setCell ⟨g, 3, none⟩ u3).setCell ⟨g, 4, none⟩ u4).setCell ⟨g, 5, none⟩ u5).setCell ⟨g, 6, none⟩ u6).setCell ⟨g, 7, none⟩ u7).setCell ⟨g, 8, none⟩ u8).setCell ⟨g, 9, none⟩ u9).setCell ⟨g, 10, none⟩ u10).setCell ⟨g, 11, none⟩ u11).setCell ⟨g, 12, none⟩ u12).setCell ⟨g, 13, none⟩ u13) → B14 w2 g u0 u1 u2 u3 u4 u5 u6 u7 u8 u9 u10 u11 u12 u13 ∧ Off (· = g) w w2 := by
 rintro w2 rfl
 refine ⟨?_, ((((((((((((((Off.refl (fun k => k = g) w).setCell _ rfl).setCell _ rfl).setCell _ rfl).setCell _ rfl).setCell _ rfl).setCell _ rfl).setCell _ rfl).setCell _ rfl).setCell _ rfl).setCell _ rfl).setCell _ rfl).setCell _ rfl).setCell _ rfl).setCell _ rfl⟩
 exact ((((((((((((((h.set0 u0).set1 u1).set2 u2).set3 u3).set4 u4).set5 u5).set6 u6).set7 u7).set8 u8).set9 u9).set10 u10).set11 u11).set12 u12).set13 u13)
end
def F5 (w : World) (g : Nat) (x0 x1 x2 x3 x4 : Value) : Prop := w.heap[g]? = some (.cells #[x0, x1, x2, x3, x4] 98 (0, 0))
section
variable {w w' : World} {g : Nat} {x0 x1 x2 x3 x4 : Value}
theorem F5.new (w : World) (x0 x1 x2 x3 x4 : Value) : F5 (w.alloc (.cells #[x0, x1, x2, x3, x4] 98)) w.heap.size x0 x1 x2 x3 x4 := heap_alloc_new w _
theorem F5.lt (h : F5 w g x0 x1 x2 x3 x4) : g < w.heap.size := (Array.getElem?_eq_some_iff.1 h).1
theorem F5.below (h : F5 w g x0 x1 x2 x3 x4) (hb : Below w.heap.size w w') : F5 w' g x0 x1 x2 x3 x4 := (hb.block _ (Array.getElem?_eq_some_iff.1 h).1).trans h
theorem F5.off {S : Nat → Prop} (h : F5 w g x0 x1 x2 x3 x4) (ho : Off S w w') (hg : ¬ S g) : F5 w' g x0 x1 x2 x3 x4 := (ho.block g (Array.getElem?_eq_some_iff.1 h).1 hg).trans h
theorem F5.c0 (h : F5 w g x0 x1 x2 x3 x4) : w.cell? ⟨g, 0, none⟩ = some x0 := by rw [cell_of_row w g 0 _ _ _ h]; rfl
theorem F5.c1 (h : F5 w g x0 x1 x2 x3 x4) : w.cell? ⟨g, 1, none⟩ = some x1 := by rw [cell_of_row w g 1 _ _ _ h]; rfl
theorem F5.c2 (h : F5 w g x0 x1 x2 x3 x4) : w.cell? ⟨g, 2, none⟩ = some x2 := by rw [cell_of_row w g 2 _ _ _ h]; rfl
theorem F5.c3 (h : F5 w g x0 x1 x2 x3 x4) : w.cell? ⟨g, 3, none⟩ = some x3 := by rw [cell_of_row w g 3 _ _ _ h]; rfl
theorem F5.c4 (h : F5 w g x0 x1 x2 x3 x4) : w.cell? ⟨g, 4, none⟩ = some x4 := by rw [cell_of_row w g 4 _ _ _ h]; rfl
theorem F5.fz (h : F5 w g x0 x1 x2 x3 x4) (j : Nat) : w.frozen? ⟨g, j, none⟩ = false := by unfold F5 at h; simp [World.frozen?, h]
theorem F5.set0 (h : F5 w g x0 x1 x2 x3 x4) (u : Value) : F5 (w.setCell ⟨g, 0, none⟩ u) g u x1 x2 x3 x4 := by
 unfold F5 at h ⊢
 simp only [World.setCell, Array.getElem?_modify, if_pos, h]
 rfl
theorem F5.set1 (h : F5 w g x0 x1 x2 x3 x4) (u : Value) : F5 (w.setCell ⟨g, 1, none⟩ u) g x0 u x2 x3 x4 := by
 unfold F5 at h ⊢
 simp only [World.setCell, Array.getElem?_modify, if_pos, h]
 rfl
theorem F5.set2 (h : F5 w g x0 x1 x2 x3 x4) (u : Value) : F5 (w.setCell ⟨g, 2, none⟩ u) g x0 x1 u x3 x4 := by
 unfold F5 at h ⊢
 simp only [World.setCell, Array.getElem?_modify, if_pos, h]
 rfl
theorem F5.set3 (h : F5 w g x0 x1 x2 x3 x4) (u : Value) : F5 (w.setCell ⟨g, 3, none⟩ u) g x0 x1 x2 u x4 := by
 unfold F5 at h ⊢
 simp only [World.setCell, Array.getElem?_modify, if_pos, h]
 rfl
theorem F5.set4 (h : F5 w g x0 x1 x2 x3 x4) (u : Value) : F5 (w.setCell ⟨g, 4, none⟩ u) g x0 x1 x2 x3 u := by
 unfold F5 at h ⊢
 simp only [World.setCell, Array.getElem?_modify, if_pos, h]
 rfl
theorem F5.all (h : F5 w g x0 x1 x2 x3 x4) (u0 u1 u2 u3 u4 : Value) : ∀ w2, w2 = (((((w.setCell ⟨g, 0, none⟩ u0).setCell ⟨g, 1, none⟩ u1).setCell ⟨g, 2, none⟩ u2).setCell ⟨g, 3, none⟩ u3).setCell ⟨g, 4, none⟩ u4) → F5 w2 g u0 u1 u2 u3 u4 ∧ Off (· = g) w w2 := by
 rintro w2 rfl
 refine ⟨?_, (((((Off.refl (fun k => k = g) w).setCell _ rfl).setCell _ rfl).setCell _ rfl).setCell _ rfl).setCell _ rfl⟩
 exact (((((h.set0 u0).set1 u1).set2 u2).set3 u3).set4 u4)
end
theorem B14.disk {w : World} {g : Nat} {x0 x1 x2 x3 x4 x5 x6 x7 x8 x9 x10 x11 x12 x13 : Value} (h : B14 w g x0 x1 x2 x3 x4 x5 x6 x7 x8 x9 x10 x11 x12 x13) (u0 u1 u2 u3 u4 u5 : Value) : ∀ w2, w2 = ((((((w.setCell ⟨g, 0, none⟩ u0).setCell ⟨g, 1, none⟩ u1).setCell ⟨g, 2, none⟩ u2).setCell ⟨g, 3, none⟩ u3).setCell ⟨g, 4, none⟩ u4).setCell ⟨g, 5, none⟩ u5) → B14 w2 g u0 u1 u2 u3 u4 u5 x6 x7 x8 x9 x10 x11 x12 x13 ∧ Off (· = g) w w2 := by
 rintro w2 rfl
 refine ⟨?_, ((((((Off.refl (fun k => k = g) w).setCell _ rfl).setCell _ rfl).setCell _ rfl).setCell _ rfl).setCell _ rfl).setCell _ rfl⟩
 exact ((((((h.set0 u0).set1 u1).set2 u2).set3 u3).set4 u4).set5 u5)
theorem two14 (w : World) (x0 x1 x2 x3 x4 x5 x6 x7 x8 x9 x10 x11 x12 x13 : Value) : ∀ w1, w1 = (w.alloc (.cells #[x0, x1, x2, x3, x4, x5, x6, x7, x8, x9, x10, x11, x12, x13] 42)).alloc (.cells #[.slice none 0 0, .slice none 0 0, .bool false, .int .i64 0, .int .i64 0, .int .i64 0, .int .i64 0, .int .i64 0, .int .i64 0, .int .i64 0, .int .i64 0, .int .i64 0, .slice none 0 0, .int .i64 0] 42) →
  B14 w1 w.heap.size x0 x1 x2 x3 x4 x5 x6 x7 x8 x9 x10 x11 x12 x13 ∧ B14 w1 (w.heap.size + 1) (.slice none 0 0) (.slice none 0 0) (.bool false) (.int .i64 0) (.int .i64 0) (.int .i64 0) (.int .i64 0) (.int .i64 0) (.int .i64 0) (.int .i64 0) (.int .i64 0) (.int .i64 0) (.slice none 0 0) (.int .i64 0) ∧ Below w.heap.size w w1 ∧ w1.heap.size = w.heap.size + 2 := by
 rintro w1 rfl
 have h := B14.new w x0 x1 x2 x3 x4 x5 x6 x7 x8 x9 x10 x11 x12 x13
 have hb := gr_alloc (gr_refl w) (.cells #[x0, x1, x2, x3, x4, x5, x6, x7, x8, x9, x10, x11, x12, x13] 42)
 have hs : (w.alloc (.cells #[x0, x1, x2, x3, x4, x5, x6, x7, x8, x9, x10, x11, x12, x13] 42)).heap.size = w.heap.size + 1 := World.size_alloc _ _
 generalize w.alloc (.cells #[x0, x1, x2, x3, x4, x5, x6, x7, x8, x9, x10, x11, x12, x13] 42) = w2 at *
 rw [← hs]
 exact ⟨h.below (gr_alloc (gr_refl w2) _), B14.new w2 _ _ _ _ _ _ _ _ _ _ _ _ _ _, gr_alloc hb _, by rw [World.size_alloc, hs]⟩
abbrev pV (bA : Option Addr) (bn bc : Nat) (wA : Option Addr) (wn wc : Nat) (dn : Bool) (po fa wi : Int) (P : PoS) (L : Int) (fv : Value) : Value := .agg #[.slice bA bn bc, .slice wA wn wc, .bool dn, .int .i64 po, .int .i64 fa, .int .i64 wi, .int .i64 (P.base : Int), .int .i64 (P.pages : Int), .int .i64 (P.most : Int), .int .i64 (P.epoch : Int), .int .i64 (P.count : Int), .int .i64 L, fv, .int .i64 (P.hand : Int)]
structure FG (G : Nat → Prop) (w : World) (fv : Value) (q : List FV) : Prop where
 tk : EO EF 5 98 w 0 fv q
 tg : ∀ k, fv.ownBlock = some k → G k
 pv : ∀ x ∈ q, OB w 0 x.2 x.1.pay
 pg : ∀ x ∈ q, ∀ k, x.2.ownBlock = some k → G k
def RP (G : Nat → Prop) (w : World) (v : Value) (D : DiskS) (P : PoS) (L : Int) : Prop :=
 ∃ bA bn bc wA wn wc dn po fa wi fv q, v = pV bA bn bc wA wn wc dn po fa wi P L fv ∧ RK G w (.agg #[.slice bA bn bc, .slice wA wn wc, .bool dn, .int .i64 po, .int .i64 fa, .int .i64 wi]) D ∧ FG G w fv q ∧ q.map Prod.fst = P.fr
section
variable {G G' : Nat → Prop} {w w' : World} {v fv : Value} {D : DiskS} {P : PoS} {L : Int} {q : List FV} {p : FV}
theorem FG.off {S : Nat → Prop} (h : FG G w fv q) (ho : Off S w w') (hS : ∀ k, S k → ¬ G k) : FG G w' fv q :=
 ⟨ownsRow_off h.tk ho (fun k e hs => hS k hs (h.tg k e)), h.tg, fun x hx => (h.pv x hx).off ho (fun k e hs => hS k hs (h.pg x hx k e)), h.pg⟩
theorem FG.below (h : FG G w fv q) (hb : Below w.heap.size w w') : FG G w' fv q := h.off (S := fun _ => False) (Off.of_below hb) (fun _ h => h.elim)
theorem FG.mono (h : FG G w fv q) (hG : ∀ k, G k → G' k) : FG G' w fv q := ⟨h.tk, fun k e => hG k (h.tg k e), h.pv, fun x hx k e => hG k (h.pg x hx k e)⟩
theorem RP.off {S : Nat → Prop} (h : RP G w v D P L) (ho : Off S w w') (hS : ∀ k, S k → ¬ G k) : RP G w' v D P L := by
 obtain ⟨bA, bn, bc, wA, wn, wc, dn, po, fa, wi, fv, q, rfl, h1, h2, h3⟩ := h
 exact ⟨bA, bn, bc, wA, wn, wc, dn, po, fa, wi, fv, q, rfl, h1.off ho hS, h2.off ho hS, h3⟩
theorem RP.below (h : RP G w v D P L) (hb : Below w.heap.size w w') : RP G w' v D P L := h.off (S := fun _ => False) (Off.of_below hb) (fun _ h => h.elim)
theorem RP.mono (h : RP G w v D P L) (hG : ∀ k, G k → G' k) : RP G' w v D P L := by
 obtain ⟨bA, bn, bc, wA, wn, wc, dn, po, fa, wi, fv, q, rfl, h1, h2, h3⟩ := h
 exact ⟨bA, bn, bc, wA, wn, wc, dn, po, fa, wi, fv, q, rfl, h1.mono hG, h2.mono hG, h3⟩
theorem rf_cells {g n c i : Nat} (h : EO EF 5 98 w 0 (.slice (some ⟨g, 0, none⟩) n c) q) (hi : q[i]? = some p) :
  w.cell? ⟨g, i * 5, none⟩ = some (.int .i64 (p.1.page : Int)) ∧ w.cell? ⟨g, i * 5 + 1, none⟩ = some p.2 ∧ w.cell? ⟨g, i * 5 + 2, none⟩ = some (.int .i64 p.1.lsn) ∧ w.cell? ⟨g, i * 5 + 3, none⟩ = some (.bool p.1.dirty) ∧ w.cell? ⟨g, i * 5 + 4, none⟩ = some (.bool p.1.used) := by
 have hc : ∀ j u, (EF p)[j]? = some u → j < 5 → w.cell? ⟨g, i * 5 + j, none⟩ = some u := fun j u hj h5 => by
  obtain ⟨h1, h2⟩ := h
  rcases h2 with ⟨e, _⟩ | ⟨g', cap', cur, e, hb, hg, hnc, hm, hcu, ht⟩
  ·cases e
  ·cases e
   have hx : (q.flatMap EF)[i * 5 + j]? = some u := by rw [flat_at EF_len q i j p hi h5]; exact hj
   rw [← ht, List.getElem?_take] at hx
   split at hx
   ·rw [Array.getElem?_toList] at hx
    rw [cell_of_row w g _ _ _ _ hg]
    exact hx
   ·cases hx
 exact ⟨hc 0 _ rfl (by omega), hc 1 _ rfl (by omega), hc 2 _ rfl (by omega), hc 3 _ rfl (by omega), hc 4 _ rfl (by omega)⟩
theorem FG.form (h : FG G w fv q) : ∃ A c, fv = .slice A q.length c ∧ q.length ≤ c ∧ c ≤ maxLen ∧ (0 < q.length → ∃ g, A = some ⟨g, 0, none⟩ ∧ g < w.heap.size ∧ G g) := by
 obtain ⟨A, c, e, h1, h2⟩ := own_form h.tk
 refine ⟨A, c, e, h1, h2, fun h0 => ?_⟩
 rcases h.tk.2 with ⟨_, e0⟩ | ⟨g, cap, cur, e2, _, hg, _⟩
 ·omega
 ·rw [e2] at e
  injection e with e3 _ _
  exact ⟨g, e3.symm, (Array.getElem?_eq_some_iff.1 hg).1, h.tg g (by rw [e2]; rfl)⟩
theorem info_rframe : ∃ i z, Tryz.prog.info? 98 = some i ∧ i.zero = some z ∧ z.cells.size = 5 ∧ i.size = 5 ∧ i.bytes = 48 := by
 have h : (match Tryz.prog.info? 98 with | some i => (match i.zero with | some z => z.cells.size == 5 | none => false) && i.size == 5 && i.bytes == 48 | none => false) = true := by kernel_rfl
 cases hi : Tryz.prog.info? 98 with
 | none => rw [hi] at h; cases h
 | some i =>
  rw [hi] at h
  cases hz : i.zero with
  | none => simp [hz] at h
  | some z => simp [hz] at h; exact ⟨i, z, rfl, hz, h.1.1, h.1.2, h.2⟩
end
end Go.Proofs.YtmdgnjmhbjdlmaaGreat

/-! PrB -/
namespace Go.Proofs.YtmdgnjmhbjdlmaaGreat
open Go Go.RowKit
section
variable {w : World} {b0 g n c i : Nat} {q : List FV} {p : FV}
theorem rf_setF (h : EO EF 5 98 w b0 (.slice (some ⟨g, 0, none⟩) n c) q) (hi : q[i]? = some p) (r : FV) :
  EO EF 5 98 (setF w g i r) b0 (.slice (some ⟨g, 0, none⟩) n c) (q.set i r) := by
 have hil : i < q.length := (List.getElem?_eq_some_iff.1 hi).1
 have e0 := flat_set EF_len q i 0 p ({ p.1 with page := r.1.page }, p.2) (.int .i64 (r.1.page : Int)) hi (by omega) rfl
 have e1 := flat_set EF_len _ i 1 _ ({ p.1 with page := r.1.page }, r.2) r.2 (List.getElem?_set_self (a := (({ p.1 with page := r.1.page }, p.2) : FV)) hil) (by omega) rfl
 rw [List.set_set] at e1
 have e2 := flat_set EF_len _ i 2 _ ({ p.1 with page := r.1.page, lsn := r.1.lsn }, r.2) (.int .i64 r.1.lsn) (List.getElem?_set_self (a := (({ p.1 with page := r.1.page }, r.2) : FV)) hil) (by omega) rfl
 rw [List.set_set] at e2
 have e3 := flat_set EF_len _ i 3 _ ({ p.1 with page := r.1.page, lsn := r.1.lsn, dirty := r.1.dirty }, r.2) (.bool r.1.dirty) (List.getElem?_set_self (a := (({ p.1 with page := r.1.page, lsn := r.1.lsn }, r.2) : FV)) hil) (by omega) rfl
 rw [List.set_set] at e3
 have e4 := flat_set EF_len _ i 4 _ r (.bool r.1.used) (List.getElem?_set_self (a := (({ p.1 with page := r.1.page, lsn := r.1.lsn, dirty := r.1.dirty }, r.2) : FV)) hil) (by omega) rfl
 rw [List.set_set] at e4
 unfold EO at h ⊢
 rw [List.length_set, ← e4, ← e3, ← e2, ← e1, ← e0]
 exact own_setk (own_setk (own_setk (own_setk (own_setk h _ _) _ _) _ _) _ _) _ _
end
theorem own2 {G : Nat → Prop} {w : World} {fv : Value} {q : List FV} (h : FG G w fv q) : ∀ u ∈ q.flatMap EF, u.oneCell' = true := by
 intro u hu
 obtain ⟨x, hx, hu⟩ := List.mem_flatMap.1 hu
 obtain ⟨A, c, e, _⟩ := (h.pv x hx).form
 unfold EF at hu
 simp only [List.mem_cons, List.not_mem_nil, or_false] at hu
 rcases hu with rfl | rfl | rfl | rfl | rfl
 ·rfl
 ·rw [e]; rfl
 ·rfl
 ·rfl
 ·rfl
theorem nd_of {l : List FrS} (hn : (l.map FrS.page).Nodup) {i j : Nat} (hi : i < l.length) (hj : j < l.length) (he : (l.getD i fr0).page = (l.getD j fr0).page) : i = j := by
 have e : ∀ k, k < l.length → (l.map FrS.page)[k]? = some (l.getD k fr0).page := fun k hk => by
  rw [List.getElem?_map, List.getD_eq_getElem?_getD, List.getElem?_eq_getElem hk]
  rfl
 have h1 := (idx_some hn).2 (e i hi)
 have h2 := (idx_some hn).2 (e j hj)
 rw [he] at h1
 rw [h1] at h2
 injection h2
def fI : Option Nat → Int
 | some i => (i : Int)
 | none => -1
theorem findP_at {P : PoS} (hn : (P.fr.map FrS.page).Nodup) {k p : Nat} (hk : k < P.fr.length) (he : (P.fr.getD k fr0).page = p) : findP P p = some k := by
 cases hf : findP P p with
 | none => exact absurd (he ▸ List.mem_map_of_mem (getD_mem (d := fr0) hk)) ((findP_none P p).1 hf)
 | some i =>
  obtain ⟨h1, h2⟩ := findP_some hf
  rw [nd_of hn h1 hk (h2.trans he.symm)]
theorem findP_no {P : PoS} {p : Nat} (h : ∀ j, j < P.fr.length → (P.fr.getD j fr0).page ≠ p) : findP P p = none := by
 cases hf : findP P p with
 | none => rfl
 | some i =>
  obtain ⟨h1, h2⟩ := findP_some hf
  exact absurd h2 (h i h1)
theorem qf_at {P : PoS} {q : List FV} (h : q.map Prod.fst = P.fr) {k : Nat} {p : FV} (hp : q[k]? = some p) : P.fr.getD k fr0 = p.1 := by
 rw [← h, List.getD_eq_getElem?_getD, List.getElem?_map, hp]
 rfl
set_option maxRecDepth 100000 in
set_option maxHeartbeats 4000000 in
theorem rFind_any {G : Nat → Prop} {w : World} {v : Value} {D D' : DiskS} {P : PoS} {L : Int} (h : RP G w v D P L) (hpi : PI D' P) (p : Nat) :
  Calls Tryz.prog 46 #[v, .int .i64 (p : Int)] w fun e w' => e = .returned (.int .i64 (fI (findP P p))) ∧ Below w.heap.size w w' := by
 obtain ⟨bA, bn, bc, wA, wn, wc, dn, po, fa, wi, fv, q, rfl, _, h2, h3⟩ := h
 obtain ⟨A, c, rfl, hc1, hc2, hA⟩ := h2.form
 have hql : q.length ≤ 256 := by have := congrArg List.length h3; rw [List.length_map] at this; have := hpi.len; have := hpi.m2; omega
 have hlen : P.fr.length = q.length := by rw [← h3, List.length_map]
 have HND := Lib.hid hpi.nd
 have HQF := Lib.hid h3
 have HLE := Lib.hid hlen
 have hb1 := gr_alloc (gr_refl w) (.cells #[.slice bA bn bc, .slice wA wn wc, .bool dn, .int .i64 po, .int .i64 fa, .int .i64 wi, .int .i64 (P.base : Int), .int .i64 (P.pages : Int), .int .i64 (P.most : Int), .int .i64 (P.epoch : Int), .int .i64 (P.count : Int), .int .i64 L, .slice A q.length c, .int .i64 (P.hand : Int)] 42)
 have HX := Lib.hid (B14.new w (.slice bA bn bc) (.slice wA wn wc) (.bool dn) (.int .i64 po) (.int .i64 fa) (.int .i64 wi) (.int .i64 (P.base : Int)) (.int .i64 (P.pages : Int)) (.int .i64 (P.most : Int)) (.int .i64 (P.epoch : Int)) (.int .i64 (P.count : Int)) (.int .i64 L) (.slice A q.length c) (.int .i64 (P.hand : Int)))
 have HFG := Lib.hid (h2.below hb1)
 have HB1 := Lib.hid hb1
 clear h2 h3 hpi hlen hb1
 go_enter Tryz.func46, Tryz.ntmps46
 go_wp2_with fail
 generalize w.alloc (.cells #[.slice bA bn bc, .slice wA wn wc, .bool dn, .int .i64 po, .int .i64 fa, .int .i64 wi, .int .i64 (P.base : Int), .int .i64 (P.pages : Int), .int .i64 (P.most : Int), .int .i64 (P.epoch : Int), .int .i64 (P.count : Int), .int .i64 L, .slice A q.length c, .int .i64 (P.hand : Int)] 42) = w1 at *
 go_loopw [5] (fun x wr => ∃ k : Nat, k ≤ q.length ∧ x = .int .i64 (k : Int) ∧ Hid (∀ j, j < k → (P.fr.getD j fr0).page ≠ p) ∧ Hid (Below w1.heap.size w1 wr)) (fun x _ => q.length - (RowKit.intOf x).toNat)
 case atStart => exact ⟨0, by omega, rfl, Lib.hid (fun j hj => absurd hj (Nat.not_lt_zero _)), Lib.hid (gr_refl w1)⟩
 case round =>
  obtain ⟨k, hk, rfl, HNO, HBr⟩ := hrel
  have y12 := (HX.out.below HBr.out).c12
  by_cases hlt : k < q.length
  ·have t1 : decide ((k : Int) < (q.length : Int)) = true := decide_eq_true (by omega)
   have t1' : decide (k < q.length) = true := decide_eq_true hlt
   have i1 : (0 : Int) ≤ (k : Int) := Int.natCast_nonneg _
   have i2 : (k : Int) < (q.length : Int) := by omega
   obtain ⟨fg, rfl, _, _⟩ := hA (by omega)
   obtain ⟨r, hr⟩ : ∃ r, q[k]? = some r := ⟨_, List.getElem?_eq_getElem hlt⟩
   have f0 := (rf_cells (HFG.out.below HBr.out).tk hr).1
   have hpg : (P.fr.getD k fr0).page = r.1.page := by rw [qf_at HQF.out hr]
   by_cases hp : r.1.page = p
   ·have t2 : ((r.1.page : Int) == (p : Int)) = true := by rw [hp]; exact beq_self_eq_true _
    have HE : Hid (findP P p = some k) := Lib.hid (findP_at HND.out (by rw [HLE.out]; exact hlt) (hpg.trans hp))
    clear hr hpg
    rw [hp] at f0 t2
    clear hp
    go_wp2_with fail
    go_ret
    rw [HE.out]
    exact ⟨rfl, HB1.out.trans (HBr.out.mono HB1.out.size)⟩
   ·have t2 : ((r.1.page : Int) == (p : Int)) = false := beq_eq_false_iff_ne.2 (by omega)
    have t2' : ¬ r.1.page = p := hp
    have HNO2 : Hid (∀ j, j < k + 1 → (P.fr.getD j fr0).page ≠ p) := Lib.hid (fun j hj => by
     by_cases e : j = k
     ·rw [e, hpg]; exact hp
     ·exact HNO.out j (by omega))
    clear hr hpg hp HNO
    go_wp2_with fail
    go_roundw
    case rel => exact ⟨k + 1, by omega, by go_num, HNO2, HBr⟩
    case measure => simp [RowKit.intOf]; omega
  ·have hke : k = q.length := by omega
   have HE : Hid (findP P p = none) := Lib.hid (findP_no (fun j hj => HNO.out j (by rw [hke, ← HLE.out]; exact hj)))
   have t1 : decide ((k : Int) < (q.length : Int)) = false := decide_eq_false (by omega)
   have t1' : decide (k < q.length) = false := decide_eq_false hlt
   clear hke HNO
   go_wp2_with fail
   go_ret
   rw [HE.out]
   exact ⟨rfl, HB1.out.trans (HBr.out.mono HB1.out.size)⟩
theorem three145 (w : World) (x0 x1 x2 x3 x4 x5 x6 x7 x8 x9 x10 x11 x12 x13 y0 y1 y2 y3 y4 : Value) : ∀ w1, w1 = ((w.alloc (.cells #[x0, x1, x2, x3, x4, x5, x6, x7, x8, x9, x10, x11, x12, x13] 42)).alloc (.cells #[y0, y1, y2, y3, y4] 98)).alloc (.cells #[.slice none 0 0, .slice none 0 0, .bool false, .int .i64 0, .int .i64 0, .int .i64 0, .int .i64 0, .int .i64 0, .int .i64 0, .int .i64 0, .int .i64 0, .int .i64 0, .slice none 0 0, .int .i64 0] 42) →
  B14 w1 w.heap.size x0 x1 x2 x3 x4 x5 x6 x7 x8 x9 x10 x11 x12 x13 ∧ F5 w1 (w.heap.size + 1) y0 y1 y2 y3 y4 ∧ B14 w1 (w.heap.size + 2) (.slice none 0 0) (.slice none 0 0) (.bool false) (.int .i64 0) (.int .i64 0) (.int .i64 0) (.int .i64 0) (.int .i64 0) (.int .i64 0) (.int .i64 0) (.int .i64 0) (.int .i64 0) (.slice none 0 0) (.int .i64 0) ∧ Below w.heap.size w w1 ∧ w1.heap.size = w.heap.size + 3 := by
 rintro w1 rfl
 have h := B14.new w x0 x1 x2 x3 x4 x5 x6 x7 x8 x9 x10 x11 x12 x13
 have hb := gr_alloc (gr_refl w) (.cells #[x0, x1, x2, x3, x4, x5, x6, x7, x8, x9, x10, x11, x12, x13] 42)
 have hs : (w.alloc (.cells #[x0, x1, x2, x3, x4, x5, x6, x7, x8, x9, x10, x11, x12, x13] 42)).heap.size = w.heap.size + 1 := World.size_alloc _ _
 generalize w.alloc (.cells #[x0, x1, x2, x3, x4, x5, x6, x7, x8, x9, x10, x11, x12, x13] 42) = w2 at *
 have h2 := F5.new w2 y0 y1 y2 y3 y4
 have hb2 := gr_alloc (gr_refl w2) (.cells #[y0, y1, y2, y3, y4] 98)
 have hs2 : (w2.alloc (.cells #[y0, y1, y2, y3, y4] 98)).heap.size = w.heap.size + 2 := by rw [World.size_alloc, hs]
 rw [hs] at h2
 have h1 := h.below hb2
 have hb3 := gr_trans hb hb2
 generalize w2.alloc (.cells #[y0, y1, y2, y3, y4] 98) = w3 at *
 rw [← hs2]
 exact ⟨h1.below (gr_alloc (gr_refl w3) _), h2.below (gr_alloc (gr_refl w3) _), B14.new w3 _ _ _ _ _ _ _ _ _ _ _ _ _ _, gr_alloc hb3 _, by rw [World.size_alloc, hs2]⟩
set_option maxRecDepth 100000 in
set_option maxHeartbeats 8000000 in
theorem rWith_any {G : Nat → Prop} {w : World} {v : Value} {D : DiskS} {P : PoS} {L : Int} (h : RP G w v D P L) (hG : ∀ k, G k → k < w.heap.size) (i : Nat) (hi : i < P.fr.length) (f : FrS) (u : Value) (hu : OB w 0 u f.pay) (hug : ∀ k, u.ownBlock = some k → G k) (hm : P.fr.length ≤ 256) :
  Calls Tryz.prog 59 #[v, .int .i64 (i : Int), .agg #[.int .i64 (f.page : Int), u, .int .i64 f.lsn, .bool f.dirty, .bool f.used]] w fun e w' => ∃ v', e = .returned v' ∧ RP (plusG G w w') w' v' D { P with fr := P.fr.set i f } L ∧ Below w.heap.size w w' := by
 obtain ⟨bA, bn, bc, wA, wn, wc, dn, po, fa, wi, fv, q, rfl, h1, h2, h3⟩ := h
 have hlen : P.fr.length = q.length := by rw [← h3, List.length_map]
 obtain ⟨A, c, rfl, hc1, hc2, hA⟩ := h2.form
 obtain ⟨Au, cu, rfl, _, _, _⟩ := hu.form
 have HT := Lib.hid (three145 w (.slice bA bn bc) (.slice wA wn wc) (.bool dn) (.int .i64 po) (.int .i64 fa) (.int .i64 wi) (.int .i64 (P.base : Int)) (.int .i64 (P.pages : Int)) (.int .i64 (P.most : Int)) (.int .i64 (P.epoch : Int)) (.int .i64 (P.count : Int)) (.int .i64 L) (.slice A q.length c) (.int .i64 (P.hand : Int)) (.int .i64 (f.page : Int)) (.slice Au f.pay.length cu) (.int .i64 f.lsn) (.bool f.dirty) (.bool f.used))
 have HK := Lib.hid h1
 have HFG := Lib.hid h2
 have HQF := Lib.hid h3
 have HGl := Lib.hid hG
 have HU := Lib.hid hu
 have HUG := Lib.hid hug
 obtain ⟨p, hp⟩ : ∃ p, q[i]? = some p := ⟨_, List.getElem?_eq_getElem (by omega)⟩
 have HP := Lib.hid hp
 obtain ⟨n, hn⟩ : ∃ n, n = q.length := ⟨_, rfl⟩
 have hin : i < n := by omega
 have hn6 : n ≤ 256 := by omega
 have HN := Lib.hid hn
 rw [← hn] at HT ⊢
 have i1 : (0 : Int) ≤ (i : Int) := Int.natCast_nonneg _
 have i2 : (i : Int) < (n : Int) := by omega
 clear h1 h2 h3 hG hu hug hp hlen hi hm hn hc1 hc2 hA
 go_enter Tryz.func59, Tryz.ntmps59
 go_upto_region 1 with fail
 obtain ⟨x1, x2, x3, hb, hs⟩ := HT.out _ rfl
 clear HT
 generalize ((w.alloc (.cells #[.slice bA bn bc, .slice wA wn wc, .bool dn, .int .i64 po, .int .i64 fa, .int .i64 wi, .int .i64 (P.base : Int), .int .i64 (P.pages : Int), .int .i64 (P.most : Int), .int .i64 (P.epoch : Int), .int .i64 (P.count : Int), .int .i64 L, .slice A n c, .int .i64 (P.hand : Int)] 42)).alloc (.cells #[.int .i64 (f.page : Int), .slice Au f.pay.length cu, .int .i64 f.lsn, .bool f.dirty, .bool f.used] 98)).alloc (.cells #[.slice none 0 0, .slice none 0 0, .bool false, .int .i64 0, .int .i64 0, .int .i64 0, .int .i64 0, .int .i64 0, .int .i64 0, .int .i64 0, .int .i64 0, .int .i64 0, .slice none 0 0, .int .i64 0] 42) = w1 at *
 have HX2 := Lib.hid x2
 have HX3 := Lib.hid x3
 have HX1 := Lib.hid x1
 have HB := Lib.hid hb
 have y12 := x1.c12
 have HROW : Hid (Rd w1 5 A n (q.flatMap EF)) := Lib.hid (by rw [HN.out]; exact Rd.of_own (HFG.out.below HB.out).tk)
 have hone := own2 HFG.out
 obtain ⟨i3, z3, hi3, hz3, hzc, hsz, hby⟩ := info_rframe
 have hmx : 0 + n ≤ maxLen := by simp only [maxLen]; omega
 have hbt : (0 + n + (0 + n) / 4 + 256) * 48 ≤ 281474976710656 := by omega
 clear x1 x2 x3 hb
 go_upto_region 3 with (at_builtin; refine wpList_append_Rd _ rfl (.tmp 8) (.tmp 10) _ rfl w1.heap.size 98 i3 z3 5 48 Tryz.underlying40 hi3 hz3 hsz hby hzc (.slice none 0 0) 0 [] rfl ⟨rfl, .inl ⟨rfl, rfl⟩⟩ A n c _ rfl HROW.out hone hbt hmx (Nat.le_refl _) ?_; intro v4 w4 hown4 hg4 _ hbl4)
 rw [Nat.zero_add, List.nil_append] at hown4
 have hb4 : Below w1.heap.size w1 w4 := ⟨hg4.os, hg4.tape, hg4.output, hg4.size, fun k hk => hg4.block k hk (by simp [Value.ownBlock])⟩
 obtain ⟨g4, c4, rfl, hg4b⟩ : ∃ g c, v4 = .slice (some ⟨g, 0, none⟩) n c ∧ w1.heap.size ≤ g := by
  rcases hown4.2 with ⟨_, e0⟩ | ⟨g, cap, cur, e, hbb, _⟩
  ·omega
  ·exact ⟨g, cap, e, hbb⟩
 have hn' := HN.out
 have htk4 : EO EF 5 98 w4 w1.heap.size (.slice (some ⟨g4, 0, none⟩) n c4) q := by unfold EO; rw [← hn']; exact hown4
 obtain ⟨f0, f1, f2, f3, f4⟩ := rf_cells (own_lower htk4 (Nat.zero_le _)) HP.out
 have o0 := own_frz htk4 (i * 5)
 have o1 := own_frz htk4 (i * 5 + 1)
 have o2 := own_frz htk4 (i * 5 + 2)
 have o3 := own_frz htk4 (i * 5 + 3)
 have o4 := own_frz htk4 (i * 5 + 4)
 have e0 := (HX2.out.below hb4).c0
 have e1 := (HX2.out.below hb4).c1
 have e2 := (HX2.out.below hb4).c2
 have e3 := (HX2.out.below hb4).c3
 have e4 := (HX2.out.below hb4).c4
 have hset := rf_setF htk4 HP.out (f, .slice Au f.pay.length cu)
 have hoff := fr_setF_off w4 g4 i (f, .slice Au f.pay.length cu)
 have hg4l : g4 < w4.heap.size := (htk4.lt g4 rfl).2
 unfold setF at hset hoff
 have HSET := Lib.hid hset
 have HOFF := Lib.hid hoff
 have HB4 := Lib.hid hb4
 clear hset hoff hown4 hg4 hbl4 htk4 y12 hn' hb4
 go_upto_region 4 with fail
 clear f0 f1 f2 f3 f4 o0 o1 o2 o3 o4 e0 e1 e2 e3 e4
 generalize (((((w4.setCell ⟨g4, i * 5, none⟩ (.int .i64 (f.page : Int))).setCell ⟨g4, i * 5 + 1, none⟩ (.slice Au f.pay.length cu)).setCell ⟨g4, i * 5 + 2, none⟩ (.int .i64 f.lsn)).setCell ⟨g4, i * 5 + 3, none⟩ (.bool f.dirty)).setCell ⟨g4, i * 5 + 4, none⟩ (.bool f.used)) = w5 at *
 have hg0 : w.heap.size < w1.heap.size := HX1.out.lt
 have hg2 : w.heap.size + 2 < w1.heap.size := HX3.out.lt
 have X1 := (HX1.out.below HB4.out).off HOFF.out (fun e => by omega)
 have X3 := (HX3.out.below HB4.out).off HOFF.out (fun e => by omega)
 have q12 := X1.c12
 have qz12 := X1.fz 12
 have X1b := X1.set12 (.slice (some ⟨g4, 0, none⟩) n c4)
 have X3b : B14 (w5.setCell ⟨w.heap.size, 12, none⟩ (.slice (some ⟨g4, 0, none⟩) n c4)) (w.heap.size + 2) _ _ _ _ _ _ _ _ _ _ _ _ _ _ := X3.off ((Off.refl (· = w.heap.size) w5).setCell _ rfl) (by omega)
 have HO6 : Hid (Off (· = w.heap.size) w5 (w5.setCell ⟨w.heap.size, 12, none⟩ (.slice (some ⟨g4, 0, none⟩) n c4))) := Lib.hid ((Off.refl (· = w.heap.size) w5).setCell _ rfl)
 go_upto_region 5 with fail
 clear q12 qz12 X1 X3
 generalize w5.setCell ⟨w.heap.size, 12, none⟩ (.slice (some ⟨g4, 0, none⟩) n c4) = w6 at *
 have y0 := X1b.c0
 have y1 := X1b.c1
 have y2 := X1b.c2
 have y3 := X1b.c3
 have y4 := X1b.c4
 have y5 := X1b.c5
 have y6 := X1b.c6
 have y7 := X1b.c7
 have y8 := X1b.c8
 have y9 := X1b.c9
 have y10 := X1b.c10
 have y11 := X1b.c11
 have y12 := X1b.c12
 have y13 := X1b.c13
 have r0 := X3b.c0
 have r1 := X3b.c1
 have r2 := X3b.c2
 have r3 := X3b.c3
 have r4 := X3b.c4
 have r5 := X3b.c5
 have r6 := X3b.c6
 have r7 := X3b.c7
 have r8 := X3b.c8
 have r9 := X3b.c9
 have r10 := X3b.c10
 have r11 := X3b.c11
 have r12 := X3b.c12
 have r13 := X3b.c13
 have rz0 := X3b.fz 0
 have rz1 := X3b.fz 1
 have rz2 := X3b.fz 2
 have rz3 := X3b.fz 3
 have rz4 := X3b.fz 4
 have rz5 := X3b.fz 5
 have rz6 := X3b.fz 6
 have rz7 := X3b.fz 7
 have rz8 := X3b.fz 8
 have rz9 := X3b.fz 9
 have rz10 := X3b.fz 10
 have rz11 := X3b.fz 11
 have rz12 := X3b.fz 12
 have rz13 := X3b.fz 13
 have HS := Lib.hid (X3b.all (.slice bA bn bc) (.slice wA wn wc) (.bool dn) (.int .i64 po) (.int .i64 fa) (.int .i64 wi) (.int .i64 (P.base : Int)) (.int .i64 (P.pages : Int)) (.int .i64 (P.most : Int)) (.int .i64 (P.epoch : Int)) (.int .i64 (P.count : Int)) (.int .i64 L) (.slice (some ⟨g4, 0, none⟩) n c4) (.int .i64 (P.hand : Int)))
 go_wp2_with fail
 clear r0 r1 r2 r3 r4 r5 r6 r7 r8 r9 r10 r11 r12 r13 rz0 rz1 rz2 rz3 rz4 rz5 rz6 rz7 rz8 rz9 rz10 rz11 rz12 rz13
 obtain ⟨s1, s2⟩ := HS.out _ rfl
 clear HS
 generalize ((((((((((((((w6.setCell ⟨w.heap.size + 2, 0, none⟩ (.slice bA bn bc)).setCell ⟨w.heap.size + 2, 1, none⟩ (.slice wA wn wc)).setCell ⟨w.heap.size + 2, 2, none⟩ (.bool dn)).setCell ⟨w.heap.size + 2, 3, none⟩ (.int .i64 po)).setCell ⟨w.heap.size + 2, 4, none⟩ (.int .i64 fa)).setCell ⟨w.heap.size + 2, 5, none⟩ (.int .i64 wi)).setCell ⟨w.heap.size + 2, 6, none⟩ (.int .i64 (P.base : Int))).setCell ⟨w.heap.size + 2, 7, none⟩ (.int .i64 (P.pages : Int))).setCell ⟨w.heap.size + 2, 8, none⟩ (.int .i64 (P.most : Int))).setCell ⟨w.heap.size + 2, 9, none⟩ (.int .i64 (P.epoch : Int))).setCell ⟨w.heap.size + 2, 10, none⟩ (.int .i64 (P.count : Int))).setCell ⟨w.heap.size + 2, 11, none⟩ (.int .i64 L)).setCell ⟨w.heap.size + 2, 12, none⟩ (.slice (some ⟨g4, 0, none⟩) n c4)).setCell ⟨w.heap.size + 2, 13, none⟩ (.int .i64 (P.hand : Int))) = wf at *
 have z0 := s1.c0
 have z1 := s1.c1
 have z2 := s1.c2
 have z3 := s1.c3
 have z4 := s1.c4
 have z5 := s1.c5
 have z6 := s1.c6
 have z7 := s1.c7
 have z8 := s1.c8
 have z9 := s1.c9
 have z10 := s1.c10
 have z11 := s1.c11
 have z12 := s1.c12
 have z13 := s1.c13
 refine bodyPost_ret (v := pV bA bn bc wA wn wc dn po fa wi P L (.slice (some ⟨g4, 0, none⟩) n c4)) (by simp [results, Tryz.results59, go_sem, z0, z1, z2, z3, z4, z5, z6, z7, z8, z9, z10, z11, z12, z13]) rfl ?_
 have o4f : Off (fun k => k = g4 ∨ k = w.heap.size ∨ k = w.heap.size + 2) w4 wf := (HOFF.out.mono (fun k _ e => .inl e)).trans ((HO6.out.mono (fun k _ e => .inr (.inl e))).trans (s2.mono (fun k _ e => .inr (.inr e))))
 have hbw4 : Below w.heap.size w w4 := HB.out.trans (HB4.out.mono HB.out.size)
 have hbf : Below w.heap.size w wf := hbw4.trans (o4f.below (fun k e => by rcases e with e | e | e <;> omega) hbw4.size)
 have hgf : g4 < wf.heap.size := Nat.lt_of_lt_of_le hg4l o4f.size
 have o5f : Off (fun k => k = w.heap.size ∨ k = w.heap.size + 2) w5 wf := (HO6.out.mono (fun k _ e => .inl e)).trans (s2.mono (fun k _ e => .inr e))
 refine ⟨_, rfl, ⟨bA, bn, bc, wA, wn, wc, dn, po, fa, wi, .slice (some ⟨g4, 0, none⟩) n c4, q.set i (f, .slice Au f.pay.length cu), rfl, (HK.out.below hbf).mono (fun k e => .inl e), ⟨?_, fun k e => ?_, fun x hx => ?_, fun x hx k e => ?_⟩, ?_⟩, hbf⟩
 ·exact ownsRow_off (own_lower HSET.out (Nat.zero_le _)) o5f (fun k e e2 => by
   have : g4 = k := Option.some.inj e
   omega)
 ·have : g4 = k := Option.some.inj e
  exact .inr ⟨by omega, by omega⟩
 ·rcases List.mem_or_eq_of_mem_set hx with hx | rfl
  ·exact (HFG.out.pv x hx).below hbf
  ·exact HU.out.below hbf
 ·rcases List.mem_or_eq_of_mem_set hx with hx | rfl
  ·exact .inl (HFG.out.pg x hx k e)
  ·exact .inl (HUG.out k e)
 ·rw [List.map_set, HQF.out]
end Go.Proofs.YtmdgnjmhbjdlmaaGreat
