/-
  The reference of chapter 03: operation.
-/
import Derived.Test.YtjopobkcijkpmaaDpD
import Derived.Test.YtjopobkcijkpmaaRgn
namespace Go.Proofs.Ytjopobkcijkpmaa
open Go.RowKit

/-- A disk as a value, its fields apart. -/
theorem opV_down (bA wA : Option Addr) (bn bc wn wc : Nat) (po fa wi : Int) (w : World) :
    Calls Try.prog 103 #[.agg #[.slice bA bn bc, .slice wA wn wc, .bool true, .int .i64 po, .int .i64 fa, .int .i64 wi]] w fun e w' => e = .returned (.tuple #[.agg #[.slice bA bn bc, .slice wA wn wc, .bool true, .int .i64 po, .int .i64 fa, .int .i64 wi], .int .i64 6]) ∧ Below w.heap.size w w' := by
  have HT := Lib.hid (two6 w (.slice bA bn bc) (.slice wA wn wc) (.bool true) (.int .i64 po) (.int .i64 fa) (.int .i64 wi))
  go_enter Try.func103, Try.ntmps103
  go_upto_region 1 with fail
  obtain ⟨x1, x2, hb⟩ := HT.out _ rfl
  generalize (w.alloc (.cells #[.slice bA bn bc, .slice wA wn wc, .bool true, .int .i64 po, .int .i64 fa, .int .i64 wi] 66)).alloc (.cells #[.slice none 0 0, .slice none 0 0, .bool false, .int .i64 0, .int .i64 0, .int .i64 0] 66) = w1 at *
  have y0 := x1.c0
  have y1 := x1.c1
  have y2 := x1.c2
  have y3 := x1.c3
  have y4 := x1.c4
  have y5 := x1.c5
  have r0 := x2.c0
  have r1 := x2.c1
  have r2 := x2.c2
  have r3 := x2.c3
  have r4 := x2.c4
  have r5 := x2.c5
  have f0 := x2.fz 0
  have f1 := x2.fz 1
  have f2 := x2.fz 2
  have f3 := x2.fz 3
  have f4 := x2.fz 4
  have f5 := x2.fz 5
  have HS := Lib.hid (set6 x2 (.slice bA bn bc) (.slice wA wn wc) (.bool true) (.int .i64 po) (.int .i64 fa) (.int .i64 wi) hb (by omega))
  go_wp2_with fail
  clear r0 f0 r1 f1 r2 f2 r3 f3 r4 f4 r5 f5
  obtain ⟨s1, s2⟩ := HS.out _ rfl
  clear HS
  generalize ((((((w1.setCell ⟨w.heap.size + 1, 0, none⟩ (.slice bA bn bc)).setCell ⟨w.heap.size + 1, 1, none⟩ (.slice wA wn wc)).setCell ⟨w.heap.size + 1, 2, none⟩ (.bool true)).setCell ⟨w.heap.size + 1, 3, none⟩ (.int .i64 po)).setCell ⟨w.heap.size + 1, 4, none⟩ (.int .i64 fa)).setCell ⟨w.heap.size + 1, 5, none⟩ (.int .i64 wi)) = wf at *
  have z0 := s1.c0
  have z1 := s1.c1
  have z2 := s1.c2
  have z3 := s1.c3
  have z4 := s1.c4
  have z5 := s1.c5
  refine bodyPost_ret (v := .tuple #[.agg #[.slice bA bn bc, .slice wA wn wc, .bool true, .int .i64 po, .int .i64 fa, .int .i64 wi], .int .i64 (6)]) (by simp [results, Try.results103, go_sem, z0, z1, z2, z3, z4, z5]) rfl ?_
  exact ⟨rfl, s2⟩

set_option maxRecDepth 100000 in
set_option maxHeartbeats 4000000 in
theorem opV_up (bA wA : Option Addr) (bn bc wn wc : Nat) (po fa wi : Int) (w : World) (p1 : -1 ≤ po) (p2 : po ≤ 9223372036854775807) (f1 : -1 ≤ fa) (f2 : fa ≤ 9223372036854775807) :
    Calls Try.prog 103 #[.agg #[.slice bA bn bc, .slice wA wn wc, .bool false, .int .i64 po, .int .i64 fa, .int .i64 wi]] w fun e w' => e = .returned (.tuple #[.agg #[.slice bA bn bc, .slice wA wn wc, .bool (opD false po), .int .i64 (opL false po), .int .i64 (opL false fa), .int .i64 wi], .int .i64 (opE false po fa wi)]) ∧ Below w.heap.size w w' := by
  have HT := Lib.hid (two6 w (.slice bA bn bc) (.slice wA wn wc) (.bool false) (.int .i64 po) (.int .i64 fa) (.int .i64 wi))
  obtain hpo | hpo | hpo : po = -1 ∨ po = 0 ∨ 0 < po := by omega
  · obtain hfa | hfa | hfa : fa = -1 ∨ fa = 0 ∨ 0 < fa := by omega
    · have a1 : (po == 0) = false := by exact beq_eq_false_iff_ne.2 (by omega)
      have a2 : decide (0 ≤ po) = false := decide_eq_false (by omega)
      have b1 : (fa == 0) = false := by exact beq_eq_false_iff_ne.2 (by omega)
      have b2 : decide (0 ≤ fa) = false := decide_eq_false (by omega)
      have HE : Hid (opE false po fa wi = 0 ∧ opD false po = false ∧ opL false po = po ∧ opL false fa = fa) := Lib.hid (by
        unfold opE opD opL stB stL
        rw [a1, b1]
        simp
        omega)
      have PB := Lib.hid (And.intro p1 (And.intro p2 (And.intro f1 f2)))
      clear hpo hfa
      go_enter Try.func103, Try.ntmps103
      go_upto_region 1 with fail
      obtain ⟨x1, x2, hb⟩ := HT.out _ rfl
      generalize (w.alloc (.cells #[.slice bA bn bc, .slice wA wn wc, .bool false, .int .i64 po, .int .i64 fa, .int .i64 wi] 66)).alloc (.cells #[.slice none 0 0, .slice none 0 0, .bool false, .int .i64 0, .int .i64 0, .int .i64 0] 66) = w1 at *
      have y0 := x1.c0
      have y1 := x1.c1
      have y2 := x1.c2
      have y3 := x1.c3
      have y4 := x1.c4
      have y5 := x1.c5
      clear HT
      go_upto_region 3 with fail
      go_quiet (fail)
      have x1 := x1.below (gr_drewN (gr_refl w1) nq)
      have x2 := x2.below (gr_drewN (gr_refl w1) nq)
      have hb := gr_drewN hb nq
      clear y0 y1 y2 y3 y4 y5
      generalize w1.drewN nq = w2 at *
      have y3 := x1.c3
      go_upto_region 6 with fail
      clear y3
      have y4 := x1.c4
      go_upto_region 8 with fail
      clear y4
      have y0 := x1.c0
      have y1 := x1.c1
      have y2 := x1.c2
      have y3 := x1.c3
      have y4 := x1.c4
      have y5 := x1.c5
      have r0 := x2.c0
      have r1 := x2.c1
      have r2 := x2.c2
      have r3 := x2.c3
      have r4 := x2.c4
      have r5 := x2.c5
      have f0 := x2.fz 0
      have f1 := x2.fz 1
      have f2 := x2.fz 2
      have f3 := x2.fz 3
      have f4 := x2.fz 4
      have f5 := x2.fz 5
      have HS := Lib.hid (set6 x2 (.slice bA bn bc) (.slice wA wn wc) (.bool false) (.int .i64 po) (.int .i64 fa) (.int .i64 wi) hb (by omega))
      go_wp2_with fail
      clear r0 f0 r1 f1 r2 f2 r3 f3 r4 f4 r5 f5
      obtain ⟨s1, s2⟩ := HS.out _ rfl
      clear HS
      generalize ((((((w2.setCell ⟨w.heap.size + 1, 0, none⟩ (.slice bA bn bc)).setCell ⟨w.heap.size + 1, 1, none⟩ (.slice wA wn wc)).setCell ⟨w.heap.size + 1, 2, none⟩ (.bool false)).setCell ⟨w.heap.size + 1, 3, none⟩ (.int .i64 po)).setCell ⟨w.heap.size + 1, 4, none⟩ (.int .i64 fa)).setCell ⟨w.heap.size + 1, 5, none⟩ (.int .i64 wi)) = wf at *
      have z0 := s1.c0
      have z1 := s1.c1
      have z2 := s1.c2
      have z3 := s1.c3
      have z4 := s1.c4
      have z5 := s1.c5
      refine bodyPost_ret (v := .tuple #[.agg #[.slice bA bn bc, .slice wA wn wc, .bool false, .int .i64 po, .int .i64 fa, .int .i64 wi], .int .i64 (0)]) (by simp [results, Try.results103, go_sem, z0, z1, z2, z3, z4, z5]) rfl ?_
      obtain ⟨h1, h2, h3, h4⟩ := HE.out
      rw [h1, h2, h3, h4]
      exact ⟨rfl, s2⟩
    · have a1 : (po == 0) = false := by exact beq_eq_false_iff_ne.2 (by omega)
      have a2 : decide (0 ≤ po) = false := decide_eq_false (by omega)
      have b1 : (fa == 0) = true := by rw [hfa]; rfl
      have b2 : decide (0 ≤ fa) = true := decide_eq_true (by omega)
      have HE : Hid (opE false po fa wi = wi ∧ opD false po = false ∧ opL false po = po ∧ opL false fa = fa - 1) := Lib.hid (by
        unfold opE opD opL stB stL
        rw [a1, b1]
        simp
        omega)
      have PB := Lib.hid (And.intro p1 (And.intro p2 (And.intro f1 f2)))
      clear hpo hfa
      go_enter Try.func103, Try.ntmps103
      go_upto_region 1 with fail
      obtain ⟨x1, x2, hb⟩ := HT.out _ rfl
      generalize (w.alloc (.cells #[.slice bA bn bc, .slice wA wn wc, .bool false, .int .i64 po, .int .i64 fa, .int .i64 wi] 66)).alloc (.cells #[.slice none 0 0, .slice none 0 0, .bool false, .int .i64 0, .int .i64 0, .int .i64 0] 66) = w1 at *
      have y0 := x1.c0
      have y1 := x1.c1
      have y2 := x1.c2
      have y3 := x1.c3
      have y4 := x1.c4
      have y5 := x1.c5
      clear HT
      go_upto_region 3 with fail
      go_quiet (fail)
      have x1 := x1.below (gr_drewN (gr_refl w1) nq)
      have x2 := x2.below (gr_drewN (gr_refl w1) nq)
      have hb := gr_drewN hb nq
      clear y0 y1 y2 y3 y4 y5
      generalize w1.drewN nq = w2 at *
      have y3 := x1.c3
      go_upto_region 6 with fail
      clear y3
      have y4 := x1.c4
      have q4 := x1.fz 4
      have x1' := x1.set4 (.int .i64 (fa - 1))
      have x2' := x2.setO (k := w.heap.size) (j := 4) (u := .int .i64 (fa - 1)) (by omega)
      have hb' : Below w.heap.size w (w2.setCell ⟨w.heap.size, 4, none⟩ (.int .i64 (fa - 1))) := hb.setCell (Nat.le_refl _) _
      go_upto_region 8 with fail
      clear y4 q4 x1 x2 hb
      generalize w2.setCell ⟨w.heap.size, 4, none⟩ (.int .i64 (fa - 1)) = w4 at *
      have x1 := x1'
      have x2 := x2'
      have hb := hb'
      clear x1' x2' hb'
      have y0 := x1.c0
      have y1 := x1.c1
      have y2 := x1.c2
      have y3 := x1.c3
      have y4 := x1.c4
      have y5 := x1.c5
      go_upto_region 12 with fail
      clear y0 y1 y2 y3 y4 y5
      refine wp_region_any (by kernel_rfl) ?_
      change wpAny _ _ _ _ _ _ _ (World.drew w4)
      have hD := bel_drew (w := w4) (gr_refl _)
      have x1 := x1.below hD
      have x2 := x2.below hD
      have hb := gr_trans hb hD
      generalize w4.drew = wt at *
      refine wpAny_of_held (S := fun W => B6 W w.heap.size (.slice bA bn bc) (.slice wA wn wc) (.bool false) (.int .i64 po) (.int .i64 (fa - 1)) (.int .i64 wi)) _ _ _ _ ?_
      have hHeld := x1
      refine wpAnyH_take (i := 0) (v := .agg #[.slice bA bn bc, .slice wA wn wc, .bool false, .int .i64 po, .int .i64 (fa - 1), .int .i64 wi]) rfl (by kernel_rfl) (by kernel_rfl) (by kernel_rfl) (fun _ _ _ h => h) (Or.inl ⟨by rfl, ?_⟩) hHeld ?_
      · intro W hS
        (try dsimp only at hS)
        have y0 := (show B6 W w.heap.size (.slice bA bn bc) (.slice wA wn wc) (.bool false) (.int .i64 po) (.int .i64 (fa - 1)) (.int .i64 wi) from hS).c0
        have y1 := (show B6 W w.heap.size (.slice bA bn bc) (.slice wA wn wc) (.bool false) (.int .i64 po) (.int .i64 (fa - 1)) (.int .i64 wi) from hS).c1
        have y2 := (show B6 W w.heap.size (.slice bA bn bc) (.slice wA wn wc) (.bool false) (.int .i64 po) (.int .i64 (fa - 1)) (.int .i64 wi) from hS).c2
        have y3 := (show B6 W w.heap.size (.slice bA bn bc) (.slice wA wn wc) (.bool false) (.int .i64 po) (.int .i64 (fa - 1)) (.int .i64 wi) from hS).c3
        have y4 := (show B6 W w.heap.size (.slice bA bn bc) (.slice wA wn wc) (.bool false) (.int .i64 po) (.int .i64 (fa - 1)) (.int .i64 wi) from hS).c4
        have y5 := (show B6 W w.heap.size (.slice bA bn bc) (.slice wA wn wc) (.bool false) (.int .i64 po) (.int .i64 (fa - 1)) (.int .i64 wi) from hS).c5
        go_simp
      try simp only [Act.put, List.setIfInBounds_toArray]
      refine wpAnyH_take (i := 1) (v := .pointer (some ⟨w.heap.size, 5, none⟩)) rfl (by kernel_rfl) (by kernel_rfl) (by kernel_rfl) (fun _ _ _ h => h) (Or.inl ⟨by rfl, ?_⟩) hHeld ?_
      · intro W hS
        (try dsimp only at hS)
        go_simp
      try simp only [Act.put]
      refine wpAnyH_take (i := 2) (v := .int .i64 wi) rfl (by kernel_rfl) (by kernel_rfl) (by kernel_rfl) (fun _ _ _ h => h) (Or.inl ⟨by rfl, ?_⟩) hHeld ?_
      · intro W hS
        (try dsimp only at hS)
        have y5 := (show B6 W w.heap.size (.slice bA bn bc) (.slice wA wn wc) (.bool false) (.int .i64 po) (.int .i64 (fa - 1)) (.int .i64 wi) from hS).c5
        go_simp
      try simp only [Act.put]
      have r0 := x2.c0
      have r1 := x2.c1
      have r2 := x2.c2
      have r3 := x2.c3
      have r4 := x2.c4
      have r5 := x2.c5
      have f0 := x2.fz 0
      have f1 := x2.fz 1
      have f2 := x2.fz 2
      have f3 := x2.fz 3
      have f4 := x2.fz 4
      have f5 := x2.fz 5
      have HS := Lib.hid (set6 x2 (.slice bA bn bc) (.slice wA wn wc) (.bool false) (.int .i64 po) (.int .i64 (fa - 1)) (.int .i64 wi) hb (by omega))
      refine wpAnyH_ready (rs := [3]) (by kernel_rfl) (by simp) ?_
      refine AllReadyH.cons rfl (fun KK hK => ?_) AllReadyH.nil
      try simp only [List.getElem_toArray, List.getElem_cons_succ, List.getElem_cons_zero]
      go_simp
      refine hK.out _ _ ?_ (fun hHeld2 => ?_)
      · exact ((((((hHeld.setO (k := w.heap.size + 1) (j := 0) (u := .slice bA bn bc) (by omega)).setO (k := w.heap.size + 1) (j := 1) (u := .slice wA wn wc) (by omega)).setO (k := w.heap.size + 1) (j := 2) (u := .bool false) (by omega)).setO (k := w.heap.size + 1) (j := 3) (u := .int .i64 po) (by omega)).setO (k := w.heap.size + 1) (j := 4) (u := .int .i64 (fa - 1)) (by omega)).setO (k := w.heap.size + 1) (j := 5) (u := .int .i64 wi) (by omega))
      clear hK KK hHeld
      have hHeld := hHeld2
      clear hHeld2
      try simp only [Act.put, List.setIfInBounds_toArray, List.set_cons_zero, List.set_cons_succ]
      refine wpAnyH_ready (rs := [4]) (by kernel_rfl) (by simp) ?_
      refine AllReadyH.cons rfl (fun KK hK => ?_) AllReadyH.nil
      try simp only [List.getElem_toArray, List.getElem_cons_succ, List.getElem_cons_zero]
      go_simp
      refine hK.out _ _ ?_ (fun hHeld2 => ?_)
      · exact hHeld
      clear hK KK hHeld
      have hHeld := hHeld2
      clear hHeld2
      try simp only [Act.put, List.setIfInBounds_toArray, List.set_cons_zero, List.set_cons_succ]
      refine wpAnyH_done (by kernel_rfl) ?_ _
      go_wp2_with fail
      clear hHeld
      clear r0 f0 r1 f1 r2 f2 r3 f3 r4 f4 r5 f5
      obtain ⟨s1, s2⟩ := HS.out _ rfl
      clear HS
      generalize ((((((wt.setCell ⟨w.heap.size + 1, 0, none⟩ (.slice bA bn bc)).setCell ⟨w.heap.size + 1, 1, none⟩ (.slice wA wn wc)).setCell ⟨w.heap.size + 1, 2, none⟩ (.bool false)).setCell ⟨w.heap.size + 1, 3, none⟩ (.int .i64 po)).setCell ⟨w.heap.size + 1, 4, none⟩ (.int .i64 (fa - 1))).setCell ⟨w.heap.size + 1, 5, none⟩ (.int .i64 wi)) = wf at *
      have z0 := s1.c0
      have z1 := s1.c1
      have z2 := s1.c2
      have z3 := s1.c3
      have z4 := s1.c4
      have z5 := s1.c5
      refine bodyPost_ret (v := .tuple #[.agg #[.slice bA bn bc, .slice wA wn wc, .bool false, .int .i64 po, .int .i64 (fa - 1), .int .i64 wi], .int .i64 wi]) (by simp [results, Try.results103, go_sem, z0, z1, z2, z3, z4, z5]) rfl ?_
      obtain ⟨h1, h2, h3, h4⟩ := HE.out
      rw [h1, h2, h3, h4]
      exact ⟨rfl, s2⟩
    · have a1 : (po == 0) = false := by exact beq_eq_false_iff_ne.2 (by omega)
      have a2 : decide (0 ≤ po) = false := decide_eq_false (by omega)
      have b1 : (fa == 0) = false := by exact beq_eq_false_iff_ne.2 (by omega)
      have b2 : decide (0 ≤ fa) = true := decide_eq_true (by omega)
      have HE : Hid (opE false po fa wi = 0 ∧ opD false po = false ∧ opL false po = po ∧ opL false fa = fa - 1) := Lib.hid (by
        unfold opE opD opL stB stL
        rw [a1, b1]
        simp
        omega)
      have PB := Lib.hid (And.intro p1 (And.intro p2 (And.intro f1 f2)))
      clear hpo hfa
      go_enter Try.func103, Try.ntmps103
      go_upto_region 1 with fail
      obtain ⟨x1, x2, hb⟩ := HT.out _ rfl
      generalize (w.alloc (.cells #[.slice bA bn bc, .slice wA wn wc, .bool false, .int .i64 po, .int .i64 fa, .int .i64 wi] 66)).alloc (.cells #[.slice none 0 0, .slice none 0 0, .bool false, .int .i64 0, .int .i64 0, .int .i64 0] 66) = w1 at *
      have y0 := x1.c0
      have y1 := x1.c1
      have y2 := x1.c2
      have y3 := x1.c3
      have y4 := x1.c4
      have y5 := x1.c5
      clear HT
      go_upto_region 3 with fail
      go_quiet (fail)
      have x1 := x1.below (gr_drewN (gr_refl w1) nq)
      have x2 := x2.below (gr_drewN (gr_refl w1) nq)
      have hb := gr_drewN hb nq
      clear y0 y1 y2 y3 y4 y5
      generalize w1.drewN nq = w2 at *
      have y3 := x1.c3
      go_upto_region 6 with fail
      clear y3
      have y4 := x1.c4
      have q4 := x1.fz 4
      have x1' := x1.set4 (.int .i64 (fa - 1))
      have x2' := x2.setO (k := w.heap.size) (j := 4) (u := .int .i64 (fa - 1)) (by omega)
      have hb' : Below w.heap.size w (w2.setCell ⟨w.heap.size, 4, none⟩ (.int .i64 (fa - 1))) := hb.setCell (Nat.le_refl _) _
      go_upto_region 8 with fail
      clear y4 q4 x1 x2 hb
      generalize w2.setCell ⟨w.heap.size, 4, none⟩ (.int .i64 (fa - 1)) = w4 at *
      have x1 := x1'
      have x2 := x2'
      have hb := hb'
      clear x1' x2' hb'
      have y0 := x1.c0
      have y1 := x1.c1
      have y2 := x1.c2
      have y3 := x1.c3
      have y4 := x1.c4
      have y5 := x1.c5
      have r0 := x2.c0
      have r1 := x2.c1
      have r2 := x2.c2
      have r3 := x2.c3
      have r4 := x2.c4
      have r5 := x2.c5
      have f0 := x2.fz 0
      have f1 := x2.fz 1
      have f2 := x2.fz 2
      have f3 := x2.fz 3
      have f4 := x2.fz 4
      have f5 := x2.fz 5
      have HS := Lib.hid (set6 x2 (.slice bA bn bc) (.slice wA wn wc) (.bool false) (.int .i64 po) (.int .i64 (fa - 1)) (.int .i64 wi) hb (by omega))
      go_wp2_with fail
      clear r0 f0 r1 f1 r2 f2 r3 f3 r4 f4 r5 f5
      obtain ⟨s1, s2⟩ := HS.out _ rfl
      clear HS
      generalize ((((((w4.setCell ⟨w.heap.size + 1, 0, none⟩ (.slice bA bn bc)).setCell ⟨w.heap.size + 1, 1, none⟩ (.slice wA wn wc)).setCell ⟨w.heap.size + 1, 2, none⟩ (.bool false)).setCell ⟨w.heap.size + 1, 3, none⟩ (.int .i64 po)).setCell ⟨w.heap.size + 1, 4, none⟩ (.int .i64 (fa - 1))).setCell ⟨w.heap.size + 1, 5, none⟩ (.int .i64 wi)) = wf at *
      have z0 := s1.c0
      have z1 := s1.c1
      have z2 := s1.c2
      have z3 := s1.c3
      have z4 := s1.c4
      have z5 := s1.c5
      refine bodyPost_ret (v := .tuple #[.agg #[.slice bA bn bc, .slice wA wn wc, .bool false, .int .i64 po, .int .i64 (fa - 1), .int .i64 wi], .int .i64 (0)]) (by simp [results, Try.results103, go_sem, z0, z1, z2, z3, z4, z5]) rfl ?_
      obtain ⟨h1, h2, h3, h4⟩ := HE.out
      rw [h1, h2, h3, h4]
      exact ⟨rfl, s2⟩
  · obtain hfa | hfa | hfa : fa = -1 ∨ fa = 0 ∨ 0 < fa := by omega
    · have a1 : (po == 0) = true := by rw [hpo]; rfl
      have a2 : decide (0 ≤ po) = true := decide_eq_true (by omega)
      have b1 : (fa == 0) = false := by exact beq_eq_false_iff_ne.2 (by omega)
      have b2 : decide (0 ≤ fa) = false := decide_eq_false (by omega)
      have HE : Hid (opE false po fa wi = 6 ∧ opD false po = true ∧ opL false po = po - 1 ∧ opL false fa = fa) := Lib.hid (by
        unfold opE opD opL stB stL
        rw [a1, b1]
        simp
        omega)
      have PB := Lib.hid (And.intro p1 (And.intro p2 (And.intro f1 f2)))
      clear hpo hfa
      go_enter Try.func103, Try.ntmps103
      go_upto_region 1 with fail
      obtain ⟨x1, x2, hb⟩ := HT.out _ rfl
      generalize (w.alloc (.cells #[.slice bA bn bc, .slice wA wn wc, .bool false, .int .i64 po, .int .i64 fa, .int .i64 wi] 66)).alloc (.cells #[.slice none 0 0, .slice none 0 0, .bool false, .int .i64 0, .int .i64 0, .int .i64 0] 66) = w1 at *
      have y0 := x1.c0
      have y1 := x1.c1
      have y2 := x1.c2
      have y3 := x1.c3
      have y4 := x1.c4
      have y5 := x1.c5
      clear HT
      go_upto_region 3 with fail
      go_quiet (fail)
      have x1 := x1.below (gr_drewN (gr_refl w1) nq)
      have x2 := x2.below (gr_drewN (gr_refl w1) nq)
      have hb := gr_drewN hb nq
      clear y0 y1 y2 y3 y4 y5
      generalize w1.drewN nq = w2 at *
      have y3 := x1.c3
      have q3 := x1.fz 3
      have x1' := x1.set3 (.int .i64 (po - 1))
      have x2' := x2.setO (k := w.heap.size) (j := 3) (u := .int .i64 (po - 1)) (by omega)
      have hb' : Below w.heap.size w (w2.setCell ⟨w.heap.size, 3, none⟩ (.int .i64 (po - 1))) := hb.setCell (Nat.le_refl _) _
      go_upto_region 6 with fail
      clear y3 q3 x1 x2 hb
      generalize w2.setCell ⟨w.heap.size, 3, none⟩ (.int .i64 (po - 1)) = w3 at *
      have x1 := x1'
      have x2 := x2'
      have hb := hb'
      clear x1' x2' hb'
      have y4 := x1.c4
      go_upto_region 8 with fail
      clear y4
      have y2 := x1.c2
      have q2 := x1.fz 2
      have x1' := x1.set2 (.bool true)
      have x2' := x2.setO (k := w.heap.size) (j := 2) (u := .bool true) (by omega)
      have hb' : Below w.heap.size w (w3.setCell ⟨w.heap.size, 2, none⟩ (.bool true)) := hb.setCell (Nat.le_refl _) _
      go_upto_region 10 with fail
      clear y2 q2 x1 x2 hb
      generalize w3.setCell ⟨w.heap.size, 2, none⟩ (.bool true) = w5 at *
      have y0 := x1'.c0
      have y1 := x1'.c1
      have y2 := x1'.c2
      have y3 := x1'.c3
      have y4 := x1'.c4
      have y5 := x1'.c5
      have r0 := x2'.c0
      have r1 := x2'.c1
      have r2 := x2'.c2
      have r3 := x2'.c3
      have r4 := x2'.c4
      have r5 := x2'.c5
      have f0 := x2'.fz 0
      have f1 := x2'.fz 1
      have f2 := x2'.fz 2
      have f3 := x2'.fz 3
      have f4 := x2'.fz 4
      have f5 := x2'.fz 5
      have HS := Lib.hid (set6 x2' (.slice bA bn bc) (.slice wA wn wc) (.bool true) (.int .i64 (po - 1)) (.int .i64 fa) (.int .i64 wi) hb' (by omega))
      go_wp2_with fail
      clear r0 f0 r1 f1 r2 f2 r3 f3 r4 f4 r5 f5
      obtain ⟨s1, s2⟩ := HS.out _ rfl
      clear HS
      generalize ((((((w5.setCell ⟨w.heap.size + 1, 0, none⟩ (.slice bA bn bc)).setCell ⟨w.heap.size + 1, 1, none⟩ (.slice wA wn wc)).setCell ⟨w.heap.size + 1, 2, none⟩ (.bool true)).setCell ⟨w.heap.size + 1, 3, none⟩ (.int .i64 (po - 1))).setCell ⟨w.heap.size + 1, 4, none⟩ (.int .i64 fa)).setCell ⟨w.heap.size + 1, 5, none⟩ (.int .i64 wi)) = wf at *
      have z0 := s1.c0
      have z1 := s1.c1
      have z2 := s1.c2
      have z3 := s1.c3
      have z4 := s1.c4
      have z5 := s1.c5
      refine bodyPost_ret (v := .tuple #[.agg #[.slice bA bn bc, .slice wA wn wc, .bool true, .int .i64 (po - 1), .int .i64 fa, .int .i64 wi], .int .i64 (6)]) (by simp [results, Try.results103, go_sem, z0, z1, z2, z3, z4, z5]) rfl ?_
      obtain ⟨h1, h2, h3, h4⟩ := HE.out
      rw [h1, h2, h3, h4]
      exact ⟨rfl, s2⟩
    · have a1 : (po == 0) = true := by rw [hpo]; rfl
      have a2 : decide (0 ≤ po) = true := decide_eq_true (by omega)
      have b1 : (fa == 0) = true := by rw [hfa]; rfl
      have b2 : decide (0 ≤ fa) = true := decide_eq_true (by omega)
      have HE : Hid (opE false po fa wi = 6 ∧ opD false po = true ∧ opL false po = po - 1 ∧ opL false fa = fa - 1) := Lib.hid (by
        unfold opE opD opL stB stL
        rw [a1, b1]
        simp
        omega)
      have PB := Lib.hid (And.intro p1 (And.intro p2 (And.intro f1 f2)))
      clear hpo hfa
      go_enter Try.func103, Try.ntmps103
      go_upto_region 1 with fail
      obtain ⟨x1, x2, hb⟩ := HT.out _ rfl
      generalize (w.alloc (.cells #[.slice bA bn bc, .slice wA wn wc, .bool false, .int .i64 po, .int .i64 fa, .int .i64 wi] 66)).alloc (.cells #[.slice none 0 0, .slice none 0 0, .bool false, .int .i64 0, .int .i64 0, .int .i64 0] 66) = w1 at *
      have y0 := x1.c0
      have y1 := x1.c1
      have y2 := x1.c2
      have y3 := x1.c3
      have y4 := x1.c4
      have y5 := x1.c5
      clear HT
      go_upto_region 3 with fail
      go_quiet (fail)
      have x1 := x1.below (gr_drewN (gr_refl w1) nq)
      have x2 := x2.below (gr_drewN (gr_refl w1) nq)
      have hb := gr_drewN hb nq
      clear y0 y1 y2 y3 y4 y5
      generalize w1.drewN nq = w2 at *
      have y3 := x1.c3
      have q3 := x1.fz 3
      have x1' := x1.set3 (.int .i64 (po - 1))
      have x2' := x2.setO (k := w.heap.size) (j := 3) (u := .int .i64 (po - 1)) (by omega)
      have hb' : Below w.heap.size w (w2.setCell ⟨w.heap.size, 3, none⟩ (.int .i64 (po - 1))) := hb.setCell (Nat.le_refl _) _
      go_upto_region 6 with fail
      clear y3 q3 x1 x2 hb
      generalize w2.setCell ⟨w.heap.size, 3, none⟩ (.int .i64 (po - 1)) = w3 at *
      have x1 := x1'
      have x2 := x2'
      have hb := hb'
      clear x1' x2' hb'
      have y4 := x1.c4
      have q4 := x1.fz 4
      have x1' := x1.set4 (.int .i64 (fa - 1))
      have x2' := x2.setO (k := w.heap.size) (j := 4) (u := .int .i64 (fa - 1)) (by omega)
      have hb' : Below w.heap.size w (w3.setCell ⟨w.heap.size, 4, none⟩ (.int .i64 (fa - 1))) := hb.setCell (Nat.le_refl _) _
      go_upto_region 8 with fail
      clear y4 q4 x1 x2 hb
      generalize w3.setCell ⟨w.heap.size, 4, none⟩ (.int .i64 (fa - 1)) = w4 at *
      have x1 := x1'
      have x2 := x2'
      have hb := hb'
      clear x1' x2' hb'
      have y2 := x1.c2
      have q2 := x1.fz 2
      have x1' := x1.set2 (.bool true)
      have x2' := x2.setO (k := w.heap.size) (j := 2) (u := .bool true) (by omega)
      have hb' : Below w.heap.size w (w4.setCell ⟨w.heap.size, 2, none⟩ (.bool true)) := hb.setCell (Nat.le_refl _) _
      go_upto_region 10 with fail
      clear y2 q2 x1 x2 hb
      generalize w4.setCell ⟨w.heap.size, 2, none⟩ (.bool true) = w5 at *
      have y0 := x1'.c0
      have y1 := x1'.c1
      have y2 := x1'.c2
      have y3 := x1'.c3
      have y4 := x1'.c4
      have y5 := x1'.c5
      have r0 := x2'.c0
      have r1 := x2'.c1
      have r2 := x2'.c2
      have r3 := x2'.c3
      have r4 := x2'.c4
      have r5 := x2'.c5
      have f0 := x2'.fz 0
      have f1 := x2'.fz 1
      have f2 := x2'.fz 2
      have f3 := x2'.fz 3
      have f4 := x2'.fz 4
      have f5 := x2'.fz 5
      have HS := Lib.hid (set6 x2' (.slice bA bn bc) (.slice wA wn wc) (.bool true) (.int .i64 (po - 1)) (.int .i64 (fa - 1)) (.int .i64 wi) hb' (by omega))
      go_wp2_with fail
      clear r0 f0 r1 f1 r2 f2 r3 f3 r4 f4 r5 f5
      obtain ⟨s1, s2⟩ := HS.out _ rfl
      clear HS
      generalize ((((((w5.setCell ⟨w.heap.size + 1, 0, none⟩ (.slice bA bn bc)).setCell ⟨w.heap.size + 1, 1, none⟩ (.slice wA wn wc)).setCell ⟨w.heap.size + 1, 2, none⟩ (.bool true)).setCell ⟨w.heap.size + 1, 3, none⟩ (.int .i64 (po - 1))).setCell ⟨w.heap.size + 1, 4, none⟩ (.int .i64 (fa - 1))).setCell ⟨w.heap.size + 1, 5, none⟩ (.int .i64 wi)) = wf at *
      have z0 := s1.c0
      have z1 := s1.c1
      have z2 := s1.c2
      have z3 := s1.c3
      have z4 := s1.c4
      have z5 := s1.c5
      refine bodyPost_ret (v := .tuple #[.agg #[.slice bA bn bc, .slice wA wn wc, .bool true, .int .i64 (po - 1), .int .i64 (fa - 1), .int .i64 wi], .int .i64 (6)]) (by simp [results, Try.results103, go_sem, z0, z1, z2, z3, z4, z5]) rfl ?_
      obtain ⟨h1, h2, h3, h4⟩ := HE.out
      rw [h1, h2, h3, h4]
      exact ⟨rfl, s2⟩
    · have a1 : (po == 0) = true := by rw [hpo]; rfl
      have a2 : decide (0 ≤ po) = true := decide_eq_true (by omega)
      have b1 : (fa == 0) = false := by exact beq_eq_false_iff_ne.2 (by omega)
      have b2 : decide (0 ≤ fa) = true := decide_eq_true (by omega)
      have HE : Hid (opE false po fa wi = 6 ∧ opD false po = true ∧ opL false po = po - 1 ∧ opL false fa = fa - 1) := Lib.hid (by
        unfold opE opD opL stB stL
        rw [a1, b1]
        simp
        omega)
      have PB := Lib.hid (And.intro p1 (And.intro p2 (And.intro f1 f2)))
      clear hpo hfa
      go_enter Try.func103, Try.ntmps103
      go_upto_region 1 with fail
      obtain ⟨x1, x2, hb⟩ := HT.out _ rfl
      generalize (w.alloc (.cells #[.slice bA bn bc, .slice wA wn wc, .bool false, .int .i64 po, .int .i64 fa, .int .i64 wi] 66)).alloc (.cells #[.slice none 0 0, .slice none 0 0, .bool false, .int .i64 0, .int .i64 0, .int .i64 0] 66) = w1 at *
      have y0 := x1.c0
      have y1 := x1.c1
      have y2 := x1.c2
      have y3 := x1.c3
      have y4 := x1.c4
      have y5 := x1.c5
      clear HT
      go_upto_region 3 with fail
      go_quiet (fail)
      have x1 := x1.below (gr_drewN (gr_refl w1) nq)
      have x2 := x2.below (gr_drewN (gr_refl w1) nq)
      have hb := gr_drewN hb nq
      clear y0 y1 y2 y3 y4 y5
      generalize w1.drewN nq = w2 at *
      have y3 := x1.c3
      have q3 := x1.fz 3
      have x1' := x1.set3 (.int .i64 (po - 1))
      have x2' := x2.setO (k := w.heap.size) (j := 3) (u := .int .i64 (po - 1)) (by omega)
      have hb' : Below w.heap.size w (w2.setCell ⟨w.heap.size, 3, none⟩ (.int .i64 (po - 1))) := hb.setCell (Nat.le_refl _) _
      go_upto_region 6 with fail
      clear y3 q3 x1 x2 hb
      generalize w2.setCell ⟨w.heap.size, 3, none⟩ (.int .i64 (po - 1)) = w3 at *
      have x1 := x1'
      have x2 := x2'
      have hb := hb'
      clear x1' x2' hb'
      have y4 := x1.c4
      have q4 := x1.fz 4
      have x1' := x1.set4 (.int .i64 (fa - 1))
      have x2' := x2.setO (k := w.heap.size) (j := 4) (u := .int .i64 (fa - 1)) (by omega)
      have hb' : Below w.heap.size w (w3.setCell ⟨w.heap.size, 4, none⟩ (.int .i64 (fa - 1))) := hb.setCell (Nat.le_refl _) _
      go_upto_region 8 with fail
      clear y4 q4 x1 x2 hb
      generalize w3.setCell ⟨w.heap.size, 4, none⟩ (.int .i64 (fa - 1)) = w4 at *
      have x1 := x1'
      have x2 := x2'
      have hb := hb'
      clear x1' x2' hb'
      have y2 := x1.c2
      have q2 := x1.fz 2
      have x1' := x1.set2 (.bool true)
      have x2' := x2.setO (k := w.heap.size) (j := 2) (u := .bool true) (by omega)
      have hb' : Below w.heap.size w (w4.setCell ⟨w.heap.size, 2, none⟩ (.bool true)) := hb.setCell (Nat.le_refl _) _
      go_upto_region 10 with fail
      clear y2 q2 x1 x2 hb
      generalize w4.setCell ⟨w.heap.size, 2, none⟩ (.bool true) = w5 at *
      have y0 := x1'.c0
      have y1 := x1'.c1
      have y2 := x1'.c2
      have y3 := x1'.c3
      have y4 := x1'.c4
      have y5 := x1'.c5
      have r0 := x2'.c0
      have r1 := x2'.c1
      have r2 := x2'.c2
      have r3 := x2'.c3
      have r4 := x2'.c4
      have r5 := x2'.c5
      have f0 := x2'.fz 0
      have f1 := x2'.fz 1
      have f2 := x2'.fz 2
      have f3 := x2'.fz 3
      have f4 := x2'.fz 4
      have f5 := x2'.fz 5
      have HS := Lib.hid (set6 x2' (.slice bA bn bc) (.slice wA wn wc) (.bool true) (.int .i64 (po - 1)) (.int .i64 (fa - 1)) (.int .i64 wi) hb' (by omega))
      go_wp2_with fail
      clear r0 f0 r1 f1 r2 f2 r3 f3 r4 f4 r5 f5
      obtain ⟨s1, s2⟩ := HS.out _ rfl
      clear HS
      generalize ((((((w5.setCell ⟨w.heap.size + 1, 0, none⟩ (.slice bA bn bc)).setCell ⟨w.heap.size + 1, 1, none⟩ (.slice wA wn wc)).setCell ⟨w.heap.size + 1, 2, none⟩ (.bool true)).setCell ⟨w.heap.size + 1, 3, none⟩ (.int .i64 (po - 1))).setCell ⟨w.heap.size + 1, 4, none⟩ (.int .i64 (fa - 1))).setCell ⟨w.heap.size + 1, 5, none⟩ (.int .i64 wi)) = wf at *
      have z0 := s1.c0
      have z1 := s1.c1
      have z2 := s1.c2
      have z3 := s1.c3
      have z4 := s1.c4
      have z5 := s1.c5
      refine bodyPost_ret (v := .tuple #[.agg #[.slice bA bn bc, .slice wA wn wc, .bool true, .int .i64 (po - 1), .int .i64 (fa - 1), .int .i64 wi], .int .i64 (6)]) (by simp [results, Try.results103, go_sem, z0, z1, z2, z3, z4, z5]) rfl ?_
      obtain ⟨h1, h2, h3, h4⟩ := HE.out
      rw [h1, h2, h3, h4]
      exact ⟨rfl, s2⟩
  · obtain hfa | hfa | hfa : fa = -1 ∨ fa = 0 ∨ 0 < fa := by omega
    · have a1 : (po == 0) = false := by exact beq_eq_false_iff_ne.2 (by omega)
      have a2 : decide (0 ≤ po) = true := decide_eq_true (by omega)
      have b1 : (fa == 0) = false := by exact beq_eq_false_iff_ne.2 (by omega)
      have b2 : decide (0 ≤ fa) = false := decide_eq_false (by omega)
      have HE : Hid (opE false po fa wi = 0 ∧ opD false po = false ∧ opL false po = po - 1 ∧ opL false fa = fa) := Lib.hid (by
        unfold opE opD opL stB stL
        rw [a1, b1]
        simp
        omega)
      have PB := Lib.hid (And.intro p1 (And.intro p2 (And.intro f1 f2)))
      clear hpo hfa
      go_enter Try.func103, Try.ntmps103
      go_upto_region 1 with fail
      obtain ⟨x1, x2, hb⟩ := HT.out _ rfl
      generalize (w.alloc (.cells #[.slice bA bn bc, .slice wA wn wc, .bool false, .int .i64 po, .int .i64 fa, .int .i64 wi] 66)).alloc (.cells #[.slice none 0 0, .slice none 0 0, .bool false, .int .i64 0, .int .i64 0, .int .i64 0] 66) = w1 at *
      have y0 := x1.c0
      have y1 := x1.c1
      have y2 := x1.c2
      have y3 := x1.c3
      have y4 := x1.c4
      have y5 := x1.c5
      clear HT
      go_upto_region 3 with fail
      go_quiet (fail)
      have x1 := x1.below (gr_drewN (gr_refl w1) nq)
      have x2 := x2.below (gr_drewN (gr_refl w1) nq)
      have hb := gr_drewN hb nq
      clear y0 y1 y2 y3 y4 y5
      generalize w1.drewN nq = w2 at *
      have y3 := x1.c3
      have q3 := x1.fz 3
      have x1' := x1.set3 (.int .i64 (po - 1))
      have x2' := x2.setO (k := w.heap.size) (j := 3) (u := .int .i64 (po - 1)) (by omega)
      have hb' : Below w.heap.size w (w2.setCell ⟨w.heap.size, 3, none⟩ (.int .i64 (po - 1))) := hb.setCell (Nat.le_refl _) _
      go_upto_region 6 with fail
      clear y3 q3 x1 x2 hb
      generalize w2.setCell ⟨w.heap.size, 3, none⟩ (.int .i64 (po - 1)) = w3 at *
      have x1 := x1'
      have x2 := x2'
      have hb := hb'
      clear x1' x2' hb'
      have y4 := x1.c4
      go_upto_region 8 with fail
      clear y4
      have y0 := x1.c0
      have y1 := x1.c1
      have y2 := x1.c2
      have y3 := x1.c3
      have y4 := x1.c4
      have y5 := x1.c5
      have r0 := x2.c0
      have r1 := x2.c1
      have r2 := x2.c2
      have r3 := x2.c3
      have r4 := x2.c4
      have r5 := x2.c5
      have f0 := x2.fz 0
      have f1 := x2.fz 1
      have f2 := x2.fz 2
      have f3 := x2.fz 3
      have f4 := x2.fz 4
      have f5 := x2.fz 5
      have HS := Lib.hid (set6 x2 (.slice bA bn bc) (.slice wA wn wc) (.bool false) (.int .i64 (po - 1)) (.int .i64 fa) (.int .i64 wi) hb (by omega))
      go_wp2_with fail
      clear r0 f0 r1 f1 r2 f2 r3 f3 r4 f4 r5 f5
      obtain ⟨s1, s2⟩ := HS.out _ rfl
      clear HS
      generalize ((((((w3.setCell ⟨w.heap.size + 1, 0, none⟩ (.slice bA bn bc)).setCell ⟨w.heap.size + 1, 1, none⟩ (.slice wA wn wc)).setCell ⟨w.heap.size + 1, 2, none⟩ (.bool false)).setCell ⟨w.heap.size + 1, 3, none⟩ (.int .i64 (po - 1))).setCell ⟨w.heap.size + 1, 4, none⟩ (.int .i64 fa)).setCell ⟨w.heap.size + 1, 5, none⟩ (.int .i64 wi)) = wf at *
      have z0 := s1.c0
      have z1 := s1.c1
      have z2 := s1.c2
      have z3 := s1.c3
      have z4 := s1.c4
      have z5 := s1.c5
      refine bodyPost_ret (v := .tuple #[.agg #[.slice bA bn bc, .slice wA wn wc, .bool false, .int .i64 (po - 1), .int .i64 fa, .int .i64 wi], .int .i64 (0)]) (by simp [results, Try.results103, go_sem, z0, z1, z2, z3, z4, z5]) rfl ?_
      obtain ⟨h1, h2, h3, h4⟩ := HE.out
      rw [h1, h2, h3, h4]
      exact ⟨rfl, s2⟩
    · have a1 : (po == 0) = false := by exact beq_eq_false_iff_ne.2 (by omega)
      have a2 : decide (0 ≤ po) = true := decide_eq_true (by omega)
      have b1 : (fa == 0) = true := by rw [hfa]; rfl
      have b2 : decide (0 ≤ fa) = true := decide_eq_true (by omega)
      have HE : Hid (opE false po fa wi = wi ∧ opD false po = false ∧ opL false po = po - 1 ∧ opL false fa = fa - 1) := Lib.hid (by
        unfold opE opD opL stB stL
        rw [a1, b1]
        simp
        omega)
      have PB := Lib.hid (And.intro p1 (And.intro p2 (And.intro f1 f2)))
      clear hpo hfa
      go_enter Try.func103, Try.ntmps103
      go_upto_region 1 with fail
      obtain ⟨x1, x2, hb⟩ := HT.out _ rfl
      generalize (w.alloc (.cells #[.slice bA bn bc, .slice wA wn wc, .bool false, .int .i64 po, .int .i64 fa, .int .i64 wi] 66)).alloc (.cells #[.slice none 0 0, .slice none 0 0, .bool false, .int .i64 0, .int .i64 0, .int .i64 0] 66) = w1 at *
      have y0 := x1.c0
      have y1 := x1.c1
      have y2 := x1.c2
      have y3 := x1.c3
      have y4 := x1.c4
      have y5 := x1.c5
      clear HT
      go_upto_region 3 with fail
      go_quiet (fail)
      have x1 := x1.below (gr_drewN (gr_refl w1) nq)
      have x2 := x2.below (gr_drewN (gr_refl w1) nq)
      have hb := gr_drewN hb nq
      clear y0 y1 y2 y3 y4 y5
      generalize w1.drewN nq = w2 at *
      have y3 := x1.c3
      have q3 := x1.fz 3
      have x1' := x1.set3 (.int .i64 (po - 1))
      have x2' := x2.setO (k := w.heap.size) (j := 3) (u := .int .i64 (po - 1)) (by omega)
      have hb' : Below w.heap.size w (w2.setCell ⟨w.heap.size, 3, none⟩ (.int .i64 (po - 1))) := hb.setCell (Nat.le_refl _) _
      go_upto_region 6 with fail
      clear y3 q3 x1 x2 hb
      generalize w2.setCell ⟨w.heap.size, 3, none⟩ (.int .i64 (po - 1)) = w3 at *
      have x1 := x1'
      have x2 := x2'
      have hb := hb'
      clear x1' x2' hb'
      have y4 := x1.c4
      have q4 := x1.fz 4
      have x1' := x1.set4 (.int .i64 (fa - 1))
      have x2' := x2.setO (k := w.heap.size) (j := 4) (u := .int .i64 (fa - 1)) (by omega)
      have hb' : Below w.heap.size w (w3.setCell ⟨w.heap.size, 4, none⟩ (.int .i64 (fa - 1))) := hb.setCell (Nat.le_refl _) _
      go_upto_region 8 with fail
      clear y4 q4 x1 x2 hb
      generalize w3.setCell ⟨w.heap.size, 4, none⟩ (.int .i64 (fa - 1)) = w4 at *
      have x1 := x1'
      have x2 := x2'
      have hb := hb'
      clear x1' x2' hb'
      have y0 := x1.c0
      have y1 := x1.c1
      have y2 := x1.c2
      have y3 := x1.c3
      have y4 := x1.c4
      have y5 := x1.c5
      go_upto_region 12 with fail
      clear y0 y1 y2 y3 y4 y5
      refine wp_region_any (by kernel_rfl) ?_
      change wpAny _ _ _ _ _ _ _ (World.drew w4)
      have hD := bel_drew (w := w4) (gr_refl _)
      have x1 := x1.below hD
      have x2 := x2.below hD
      have hb := gr_trans hb hD
      generalize w4.drew = wt at *
      refine wpAny_of_held (S := fun W => B6 W w.heap.size (.slice bA bn bc) (.slice wA wn wc) (.bool false) (.int .i64 (po - 1)) (.int .i64 (fa - 1)) (.int .i64 wi)) _ _ _ _ ?_
      have hHeld := x1
      refine wpAnyH_take (i := 0) (v := .agg #[.slice bA bn bc, .slice wA wn wc, .bool false, .int .i64 (po - 1), .int .i64 (fa - 1), .int .i64 wi]) rfl (by kernel_rfl) (by kernel_rfl) (by kernel_rfl) (fun _ _ _ h => h) (Or.inl ⟨by rfl, ?_⟩) hHeld ?_
      · intro W hS
        (try dsimp only at hS)
        have y0 := (show B6 W w.heap.size (.slice bA bn bc) (.slice wA wn wc) (.bool false) (.int .i64 (po - 1)) (.int .i64 (fa - 1)) (.int .i64 wi) from hS).c0
        have y1 := (show B6 W w.heap.size (.slice bA bn bc) (.slice wA wn wc) (.bool false) (.int .i64 (po - 1)) (.int .i64 (fa - 1)) (.int .i64 wi) from hS).c1
        have y2 := (show B6 W w.heap.size (.slice bA bn bc) (.slice wA wn wc) (.bool false) (.int .i64 (po - 1)) (.int .i64 (fa - 1)) (.int .i64 wi) from hS).c2
        have y3 := (show B6 W w.heap.size (.slice bA bn bc) (.slice wA wn wc) (.bool false) (.int .i64 (po - 1)) (.int .i64 (fa - 1)) (.int .i64 wi) from hS).c3
        have y4 := (show B6 W w.heap.size (.slice bA bn bc) (.slice wA wn wc) (.bool false) (.int .i64 (po - 1)) (.int .i64 (fa - 1)) (.int .i64 wi) from hS).c4
        have y5 := (show B6 W w.heap.size (.slice bA bn bc) (.slice wA wn wc) (.bool false) (.int .i64 (po - 1)) (.int .i64 (fa - 1)) (.int .i64 wi) from hS).c5
        go_simp
      try simp only [Act.put, List.setIfInBounds_toArray]
      refine wpAnyH_take (i := 1) (v := .pointer (some ⟨w.heap.size, 5, none⟩)) rfl (by kernel_rfl) (by kernel_rfl) (by kernel_rfl) (fun _ _ _ h => h) (Or.inl ⟨by rfl, ?_⟩) hHeld ?_
      · intro W hS
        (try dsimp only at hS)
        go_simp
      try simp only [Act.put]
      refine wpAnyH_take (i := 2) (v := .int .i64 wi) rfl (by kernel_rfl) (by kernel_rfl) (by kernel_rfl) (fun _ _ _ h => h) (Or.inl ⟨by rfl, ?_⟩) hHeld ?_
      · intro W hS
        (try dsimp only at hS)
        have y5 := (show B6 W w.heap.size (.slice bA bn bc) (.slice wA wn wc) (.bool false) (.int .i64 (po - 1)) (.int .i64 (fa - 1)) (.int .i64 wi) from hS).c5
        go_simp
      try simp only [Act.put]
      have r0 := x2.c0
      have r1 := x2.c1
      have r2 := x2.c2
      have r3 := x2.c3
      have r4 := x2.c4
      have r5 := x2.c5
      have f0 := x2.fz 0
      have f1 := x2.fz 1
      have f2 := x2.fz 2
      have f3 := x2.fz 3
      have f4 := x2.fz 4
      have f5 := x2.fz 5
      have HS := Lib.hid (set6 x2 (.slice bA bn bc) (.slice wA wn wc) (.bool false) (.int .i64 (po - 1)) (.int .i64 (fa - 1)) (.int .i64 wi) hb (by omega))
      refine wpAnyH_ready (rs := [3]) (by kernel_rfl) (by simp) ?_
      refine AllReadyH.cons rfl (fun KK hK => ?_) AllReadyH.nil
      try simp only [List.getElem_toArray, List.getElem_cons_succ, List.getElem_cons_zero]
      go_simp
      refine hK.out _ _ ?_ (fun hHeld2 => ?_)
      · exact ((((((hHeld.setO (k := w.heap.size + 1) (j := 0) (u := .slice bA bn bc) (by omega)).setO (k := w.heap.size + 1) (j := 1) (u := .slice wA wn wc) (by omega)).setO (k := w.heap.size + 1) (j := 2) (u := .bool false) (by omega)).setO (k := w.heap.size + 1) (j := 3) (u := .int .i64 (po - 1)) (by omega)).setO (k := w.heap.size + 1) (j := 4) (u := .int .i64 (fa - 1)) (by omega)).setO (k := w.heap.size + 1) (j := 5) (u := .int .i64 wi) (by omega))
      clear hK KK hHeld
      have hHeld := hHeld2
      clear hHeld2
      try simp only [Act.put, List.setIfInBounds_toArray, List.set_cons_zero, List.set_cons_succ]
      refine wpAnyH_ready (rs := [4]) (by kernel_rfl) (by simp) ?_
      refine AllReadyH.cons rfl (fun KK hK => ?_) AllReadyH.nil
      try simp only [List.getElem_toArray, List.getElem_cons_succ, List.getElem_cons_zero]
      go_simp
      refine hK.out _ _ ?_ (fun hHeld2 => ?_)
      · exact hHeld
      clear hK KK hHeld
      have hHeld := hHeld2
      clear hHeld2
      try simp only [Act.put, List.setIfInBounds_toArray, List.set_cons_zero, List.set_cons_succ]
      refine wpAnyH_done (by kernel_rfl) ?_ _
      go_wp2_with fail
      clear hHeld
      clear r0 f0 r1 f1 r2 f2 r3 f3 r4 f4 r5 f5
      obtain ⟨s1, s2⟩ := HS.out _ rfl
      clear HS
      generalize ((((((wt.setCell ⟨w.heap.size + 1, 0, none⟩ (.slice bA bn bc)).setCell ⟨w.heap.size + 1, 1, none⟩ (.slice wA wn wc)).setCell ⟨w.heap.size + 1, 2, none⟩ (.bool false)).setCell ⟨w.heap.size + 1, 3, none⟩ (.int .i64 (po - 1))).setCell ⟨w.heap.size + 1, 4, none⟩ (.int .i64 (fa - 1))).setCell ⟨w.heap.size + 1, 5, none⟩ (.int .i64 wi)) = wf at *
      have z0 := s1.c0
      have z1 := s1.c1
      have z2 := s1.c2
      have z3 := s1.c3
      have z4 := s1.c4
      have z5 := s1.c5
      refine bodyPost_ret (v := .tuple #[.agg #[.slice bA bn bc, .slice wA wn wc, .bool false, .int .i64 (po - 1), .int .i64 (fa - 1), .int .i64 wi], .int .i64 wi]) (by simp [results, Try.results103, go_sem, z0, z1, z2, z3, z4, z5]) rfl ?_
      obtain ⟨h1, h2, h3, h4⟩ := HE.out
      rw [h1, h2, h3, h4]
      exact ⟨rfl, s2⟩
    · have a1 : (po == 0) = false := by exact beq_eq_false_iff_ne.2 (by omega)
      have a2 : decide (0 ≤ po) = true := decide_eq_true (by omega)
      have b1 : (fa == 0) = false := by exact beq_eq_false_iff_ne.2 (by omega)
      have b2 : decide (0 ≤ fa) = true := decide_eq_true (by omega)
      have HE : Hid (opE false po fa wi = 0 ∧ opD false po = false ∧ opL false po = po - 1 ∧ opL false fa = fa - 1) := Lib.hid (by
        unfold opE opD opL stB stL
        rw [a1, b1]
        simp
        omega)
      have PB := Lib.hid (And.intro p1 (And.intro p2 (And.intro f1 f2)))
      clear hpo hfa
      go_enter Try.func103, Try.ntmps103
      go_upto_region 1 with fail
      obtain ⟨x1, x2, hb⟩ := HT.out _ rfl
      generalize (w.alloc (.cells #[.slice bA bn bc, .slice wA wn wc, .bool false, .int .i64 po, .int .i64 fa, .int .i64 wi] 66)).alloc (.cells #[.slice none 0 0, .slice none 0 0, .bool false, .int .i64 0, .int .i64 0, .int .i64 0] 66) = w1 at *
      have y0 := x1.c0
      have y1 := x1.c1
      have y2 := x1.c2
      have y3 := x1.c3
      have y4 := x1.c4
      have y5 := x1.c5
      clear HT
      go_upto_region 3 with fail
      go_quiet (fail)
      have x1 := x1.below (gr_drewN (gr_refl w1) nq)
      have x2 := x2.below (gr_drewN (gr_refl w1) nq)
      have hb := gr_drewN hb nq
      clear y0 y1 y2 y3 y4 y5
      generalize w1.drewN nq = w2 at *
      have y3 := x1.c3
      have q3 := x1.fz 3
      have x1' := x1.set3 (.int .i64 (po - 1))
      have x2' := x2.setO (k := w.heap.size) (j := 3) (u := .int .i64 (po - 1)) (by omega)
      have hb' : Below w.heap.size w (w2.setCell ⟨w.heap.size, 3, none⟩ (.int .i64 (po - 1))) := hb.setCell (Nat.le_refl _) _
      go_upto_region 6 with fail
      clear y3 q3 x1 x2 hb
      generalize w2.setCell ⟨w.heap.size, 3, none⟩ (.int .i64 (po - 1)) = w3 at *
      have x1 := x1'
      have x2 := x2'
      have hb := hb'
      clear x1' x2' hb'
      have y4 := x1.c4
      have q4 := x1.fz 4
      have x1' := x1.set4 (.int .i64 (fa - 1))
      have x2' := x2.setO (k := w.heap.size) (j := 4) (u := .int .i64 (fa - 1)) (by omega)
      have hb' : Below w.heap.size w (w3.setCell ⟨w.heap.size, 4, none⟩ (.int .i64 (fa - 1))) := hb.setCell (Nat.le_refl _) _
      go_upto_region 8 with fail
      clear y4 q4 x1 x2 hb
      generalize w3.setCell ⟨w.heap.size, 4, none⟩ (.int .i64 (fa - 1)) = w4 at *
      have x1 := x1'
      have x2 := x2'
      have hb := hb'
      clear x1' x2' hb'
      have y0 := x1.c0
      have y1 := x1.c1
      have y2 := x1.c2
      have y3 := x1.c3
      have y4 := x1.c4
      have y5 := x1.c5
      have r0 := x2.c0
      have r1 := x2.c1
      have r2 := x2.c2
      have r3 := x2.c3
      have r4 := x2.c4
      have r5 := x2.c5
      have f0 := x2.fz 0
      have f1 := x2.fz 1
      have f2 := x2.fz 2
      have f3 := x2.fz 3
      have f4 := x2.fz 4
      have f5 := x2.fz 5
      have HS := Lib.hid (set6 x2 (.slice bA bn bc) (.slice wA wn wc) (.bool false) (.int .i64 (po - 1)) (.int .i64 (fa - 1)) (.int .i64 wi) hb (by omega))
      go_wp2_with fail
      clear r0 f0 r1 f1 r2 f2 r3 f3 r4 f4 r5 f5
      obtain ⟨s1, s2⟩ := HS.out _ rfl
      clear HS
      generalize ((((((w4.setCell ⟨w.heap.size + 1, 0, none⟩ (.slice bA bn bc)).setCell ⟨w.heap.size + 1, 1, none⟩ (.slice wA wn wc)).setCell ⟨w.heap.size + 1, 2, none⟩ (.bool false)).setCell ⟨w.heap.size + 1, 3, none⟩ (.int .i64 (po - 1))).setCell ⟨w.heap.size + 1, 4, none⟩ (.int .i64 (fa - 1))).setCell ⟨w.heap.size + 1, 5, none⟩ (.int .i64 wi)) = wf at *
      have z0 := s1.c0
      have z1 := s1.c1
      have z2 := s1.c2
      have z3 := s1.c3
      have z4 := s1.c4
      have z5 := s1.c5
      refine bodyPost_ret (v := .tuple #[.agg #[.slice bA bn bc, .slice wA wn wc, .bool false, .int .i64 (po - 1), .int .i64 (fa - 1), .int .i64 wi], .int .i64 (0)]) (by simp [results, Try.results103, go_sem, z0, z1, z2, z3, z4, z5]) rfl ?_
      obtain ⟨h1, h2, h3, h4⟩ := HE.out
      rw [h1, h2, h3, h4]
      exact ⟨rfl, s2⟩

end Go.Proofs.Ytjopobkcijkpmaa
