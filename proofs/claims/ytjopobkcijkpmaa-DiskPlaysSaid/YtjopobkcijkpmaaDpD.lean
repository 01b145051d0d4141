/-
  The reference of chapter 03: Armed, Failing, operation.
-/
import Derived.Test.YtjopobkcijkpmaaDpC
namespace Go.Proofs.Ytjopobkcijkpmaa
open Go.RowKit

/-- A result's block of six cells, filled. -/
theorem set6 {w : World} {g : Nat} {y0 y1 y2 y3 y4 y5 : Value} (h : B6 w g y0 y1 y2 y3 y4 y5) (u0 u1 u2 u3 u4 u5 : Value) {w0 : World} (hb : Below w0.heap.size w0 w) (hg : w0.heap.size ≤ g) :
    ∀ w2, w2 = (((((w.setCell ⟨g, 0, none⟩ u0).setCell ⟨g, 1, none⟩ u1).setCell ⟨g, 2, none⟩ u2).setCell ⟨g, 3, none⟩ u3).setCell ⟨g, 4, none⟩ u4).setCell ⟨g, 5, none⟩ u5 → B6 w2 g u0 u1 u2 u3 u4 u5 ∧ Below w0.heap.size w0 w2 := by
  rintro w2 rfl
  refine ⟨?_, (((((hb.setCell hg _).setCell hg _).setCell hg _).setCell hg _).setCell hg _).setCell hg _⟩
  unfold B6 at h ⊢
  simp only [World.setCell, Array.getElem?_modify, if_pos, h]
  rfl

/-- Two variables: the receiver and the result. -/
theorem two6 (w : World) (x0 x1 x2 x3 x4 x5 : Value) : ∀ w1, w1 = (w.alloc (.cells #[x0, x1, x2, x3, x4, x5] 66)).alloc (.cells #[.slice none 0 0, .slice none 0 0, .bool false, .int .i64 0, .int .i64 0, .int .i64 0] 66) →
    B6 w1 w.heap.size x0 x1 x2 x3 x4 x5 ∧ B6 w1 (w.heap.size + 1) (.slice none 0 0) (.slice none 0 0) (.bool false) (.int .i64 0) (.int .i64 0) (.int .i64 0) ∧ Below w.heap.size w w1 := by
  rintro w1 rfl
  have h := B6.new w x0 x1 x2 x3 x4 x5
  have hb := gr_alloc (gr_refl w) (.cells #[x0, x1, x2, x3, x4, x5] 66)
  have hs : (w.alloc (.cells #[x0, x1, x2, x3, x4, x5] 66)).heap.size = w.heap.size + 1 := World.size_alloc _ _
  generalize w.alloc (.cells #[x0, x1, x2, x3, x4, x5] 66) = w2 at *
  rw [← hs]
  exact ⟨h.below (gr_alloc (gr_refl w2) _), B6.new w2 _ _ _ _ _ _, gr_alloc hb _⟩
theorem B6.set3 {w : World} {g : Nat} {x0 x1 x2 x3 x4 x5 : Value} (h : B6 w g x0 x1 x2 x3 x4 x5) (u : Value) : B6 (w.setCell ⟨g, 3, none⟩ u) g x0 x1 x2 u x4 x5 := by
  unfold B6 at h ⊢
  simp only [World.setCell, Array.getElem?_modify, if_pos, h]
  rfl
theorem B6.set4 {w : World} {g : Nat} {x0 x1 x2 x3 x4 x5 : Value} (h : B6 w g x0 x1 x2 x3 x4 x5) (u : Value) : B6 (w.setCell ⟨g, 4, none⟩ u) g x0 x1 x2 x3 u x5 := by
  unfold B6 at h ⊢
  simp only [World.setCell, Array.getElem?_modify, if_pos, h]
  rfl
theorem B6.set5 {w : World} {g : Nat} {x0 x1 x2 x3 x4 x5 : Value} (h : B6 w g x0 x1 x2 x3 x4 x5) (u : Value) : B6 (w.setCell ⟨g, 5, none⟩ u) g x0 x1 x2 x3 x4 u := by
  unfold B6 at h ⊢
  simp only [World.setCell, Array.getElem?_modify, if_pos, h]
  rfl
theorem B6.set2 {w : World} {g : Nat} {x0 x1 x2 x3 x4 x5 : Value} (h : B6 w g x0 x1 x2 x3 x4 x5) (u : Value) : B6 (w.setCell ⟨g, 2, none⟩ u) g x0 x1 u x3 x4 x5 := by
  unfold B6 at h ⊢
  simp only [World.setCell, Array.getElem?_modify, if_pos, h]
  rfl
theorem B6.setO {w : World} {g k j : Nat} {x0 x1 x2 x3 x4 x5 u : Value} (h : B6 w g x0 x1 x2 x3 x4 x5) (hk : k ≠ g) : B6 (w.setCell ⟨k, j, none⟩ u) g x0 x1 x2 x3 x4 x5 := by
  unfold B6 at h ⊢
  rw [← h]
  exact Below.heap_setCell _ _ _ g (fun e => hk e.symm)

set_option maxRecDepth 100000 in
set_option maxHeartbeats 2000000 in
theorem refArmed_any (G : Nat → Prop) (v : Value) (D : DiskS) (n : Int) (w : World) (h : RK G w v D) :
    Calls Try.prog 86 #[v, .int .i64 n] w fun e w' => ∃ v', e = .returned (.tuple #[v', .int .i64 (armE n)]) ∧ RK G w' v' (armD D n) ∧ Below w.heap.size w w' := by
  obtain ⟨bA, bc, wA, wc, bus, wus, rfl, k1, k2, k3, k4, hd⟩ := h
  have HT := Lib.hid (two6 w (.slice bA D.blocks.length bc) (.slice wA D.pending.length wc) (.bool D.down) (.int .i64 D.power) (.int .i64 D.fault) (.int .i64 D.wi))
  have HR : Hid (∀ W po, Below w.heap.size w W → RK G W (.agg #[.slice bA D.blocks.length bc, .slice wA D.pending.length wc, .bool D.down, .int .i64 po, .int .i64 D.fault, .int .i64 D.wi]) { D with power := po }) := Lib.hid (fun W po hb => ⟨bA, bc, wA, wc, bus, wus, rfl, k1, k2, k3, k4, (hd.below hb).br, (hd.below hb).bv, (hd.below hb).wr, (hd.below hb).wv, (hd.below hb).wl⟩)
  have HRW := Lib.hid (fun W (hb : Below w.heap.size w W) => HR.out W D.power hb)
  clear hd k1 k2 k3 k4
  by_cases hn : n < 0
  · have t1 : decide (n < 0) = true := decide_eq_true hn
    have HE : Hid (armE n = 2 ∧ armD D n = D) := Lib.hid ⟨by unfold armE; rw [if_pos hn], by unfold armD; rw [if_pos hn]⟩
    clear hn
    generalize D.blocks.length = bn at *
    generalize D.pending.length = wn at *
    go_enter Try.func86, Try.ntmps86
    go_upto_region 1 with fail
    obtain ⟨x1, x2, hb⟩ := HT.out _ rfl
    generalize (w.alloc (.cells #[.slice bA bn bc, .slice wA wn wc, .bool D.down, .int .i64 D.power, .int .i64 D.fault, .int .i64 D.wi] 66)).alloc (.cells #[.slice none 0 0, .slice none 0 0, .bool false, .int .i64 0, .int .i64 0, .int .i64 0] 66) = w1 at *
    have y0 := x1.c0
    have y1 := x1.c1
    have y2 := x1.c2
    have y3 := x1.c3
    have y4 := x1.c4
    have y5 := x1.c5
    have r0 := x2.c0
    have r1 := x2.c1
    have r2 := x2.c2
    have r3 := x2.c3
    have r4 := x2.c4
    have r5 := x2.c5
    have f0 := x2.fz 0
    have f1 := x2.fz 1
    have f2 := x2.fz 2
    have f3 := x2.fz 3
    have f4 := x2.fz 4
    have f5 := x2.fz 5
    have HS := Lib.hid (set6 x2 (.slice bA bn bc) (.slice wA wn wc) (.bool D.down) (.int .i64 D.power) (.int .i64 D.fault) (.int .i64 D.wi) hb (by omega))
    go_wp2_with fail
    clear r0 f0 r1 f1 r2 f2 r3 f3 r4 f4 r5 f5
    obtain ⟨s1, s2⟩ := HS.out _ rfl
    clear HS
    generalize ((((((w1.setCell ⟨w.heap.size + 1, 0, none⟩ (.slice bA bn bc)).setCell ⟨w.heap.size + 1, 1, none⟩ (.slice wA wn wc)).setCell ⟨w.heap.size + 1, 2, none⟩ (.bool D.down)).setCell ⟨w.heap.size + 1, 3, none⟩ (.int .i64 D.power)).setCell ⟨w.heap.size + 1, 4, none⟩ (.int .i64 D.fault)).setCell ⟨w.heap.size + 1, 5, none⟩ (.int .i64 D.wi)) = wf at *
    have z0 := s1.c0
    have z1 := s1.c1
    have z2 := s1.c2
    have z3 := s1.c3
    have z4 := s1.c4
    have z5 := s1.c5
    refine bodyPost_ret (v := .tuple #[.agg #[.slice bA bn bc, .slice wA wn wc, .bool D.down, .int .i64 D.power, .int .i64 D.fault, .int .i64 D.wi], .int .i64 (2)]) (by simp [results, Try.results86, go_sem, z0, z1, z2, z3, z4, z5]) rfl ?_
    rw [HE.out.1, HE.out.2]
    exact ⟨_, rfl, HRW.out wf s2, s2⟩
  · have t1 : decide (n < 0) = false := decide_eq_false hn
    have HE : Hid (armE n = 0 ∧ armD D n = { D with power := n }) := Lib.hid ⟨by unfold armE; rw [if_neg hn], by unfold armD; rw [if_neg hn]⟩
    clear hn
    generalize D.blocks.length = bn at *
    generalize D.pending.length = wn at *
    go_enter Try.func86, Try.ntmps86
    go_upto_region 3 with fail
    obtain ⟨x1, x2, hb⟩ := HT.out _ rfl
    generalize (w.alloc (.cells #[.slice bA bn bc, .slice wA wn wc, .bool D.down, .int .i64 D.power, .int .i64 D.fault, .int .i64 D.wi] 66)).alloc (.cells #[.slice none 0 0, .slice none 0 0, .bool false, .int .i64 0, .int .i64 0, .int .i64 0] 66) = w1 at *
    have y3 := x1.c3
    have q3 := x1.fz 3
    have x1' := x1.set3 (.int .i64 n)
    have x2' := x2.setO (k := w.heap.size) (j := 3) (u := .int .i64 n) (by omega)
    have hb' : Below w.heap.size w (w1.setCell ⟨w.heap.size, 3, none⟩ (.int .i64 n)) := hb.setCell (Nat.le_refl _) _
    go_upto_region 4 with fail
    clear y3 q3 x1 x2 hb
    generalize w1.setCell ⟨w.heap.size, 3, none⟩ (.int .i64 n) = w2 at *
    have y0 := x1'.c0
    have y1 := x1'.c1
    have y2 := x1'.c2
    have y3 := x1'.c3
    have y4 := x1'.c4
    have y5 := x1'.c5
    have r0 := x2'.c0
    have r1 := x2'.c1
    have r2 := x2'.c2
    have r3 := x2'.c3
    have r4 := x2'.c4
    have r5 := x2'.c5
    have f0 := x2'.fz 0
    have f1 := x2'.fz 1
    have f2 := x2'.fz 2
    have f3 := x2'.fz 3
    have f4 := x2'.fz 4
    have f5 := x2'.fz 5
    have HS := Lib.hid (set6 x2' (.slice bA bn bc) (.slice wA wn wc) (.bool D.down) (.int .i64 n) (.int .i64 D.fault) (.int .i64 D.wi) hb' (by omega))
    go_wp2_with fail
    clear r0 f0 r1 f1 r2 f2 r3 f3 r4 f4 r5 f5
    obtain ⟨s1, s2⟩ := HS.out _ rfl
    clear HS
    generalize ((((((w2.setCell ⟨w.heap.size + 1, 0, none⟩ (.slice bA bn bc)).setCell ⟨w.heap.size + 1, 1, none⟩ (.slice wA wn wc)).setCell ⟨w.heap.size + 1, 2, none⟩ (.bool D.down)).setCell ⟨w.heap.size + 1, 3, none⟩ (.int .i64 n)).setCell ⟨w.heap.size + 1, 4, none⟩ (.int .i64 D.fault)).setCell ⟨w.heap.size + 1, 5, none⟩ (.int .i64 D.wi)) = wf at *
    have z0 := s1.c0
    have z1 := s1.c1
    have z2 := s1.c2
    have z3 := s1.c3
    have z4 := s1.c4
    have z5 := s1.c5
    refine bodyPost_ret (v := .tuple #[.agg #[.slice bA bn bc, .slice wA wn wc, .bool D.down, .int .i64 n, .int .i64 D.fault, .int .i64 D.wi], .int .i64 (0)]) (by simp [results, Try.results86, go_sem, z0, z1, z2, z3, z4, z5]) rfl ?_
    rw [HE.out.1, HE.out.2]
    exact ⟨_, rfl, HR.out wf n s2, s2⟩

set_option maxRecDepth 100000 in
set_option maxHeartbeats 2000000 in
theorem refFailing_any (G : Nat → Prop) (v : Value) (D : DiskS) (n er : Int) (w : World) (h : RK G w v D) :
    Calls Try.prog 87 #[v, .int .i64 n, .int .i64 er] w fun e w' => ∃ v', e = .returned (.tuple #[v', .int .i64 (failE n er)]) ∧ RK G w' v' (failD D n er) ∧ Below w.heap.size w w' := by
  obtain ⟨bA, bc, wA, wc, bus, wus, rfl, k1, k2, k3, k4, hd⟩ := h
  have HT := Lib.hid (two6 w (.slice bA D.blocks.length bc) (.slice wA D.pending.length wc) (.bool D.down) (.int .i64 D.power) (.int .i64 D.fault) (.int .i64 D.wi))
  have HR : Hid (∀ W fa wi, Below w.heap.size w W → RK G W (.agg #[.slice bA D.blocks.length bc, .slice wA D.pending.length wc, .bool D.down, .int .i64 D.power, .int .i64 fa, .int .i64 wi]) { D with fault := fa, wi := wi }) := Lib.hid (fun W fa wi hb => ⟨bA, bc, wA, wc, bus, wus, rfl, k1, k2, k3, k4, (hd.below hb).br, (hd.below hb).bv, (hd.below hb).wr, (hd.below hb).wv, (hd.below hb).wl⟩)
  have HRW := Lib.hid (fun W (hb : Below w.heap.size w W) => HR.out W D.fault D.wi hb)
  clear hd k1 k2 k3 k4
  have hcase : ∃ u1 u2 u3 : Bool, decide (n < 0) = u1 ∧ (er != 4) = u2 ∧ (er != 5) = u3 := ⟨_, _, _, rfl, rfl, rfl⟩
  obtain ⟨u1, u2, u3, t1, t2, t3⟩ := hcase
  by_cases hbad : n < 0 ∨ (er ≠ 4 ∧ er ≠ 5)
  · have HE : Hid (failE n er = 2 ∧ failD D n er = D) := Lib.hid ⟨by unfold failE; rw [if_pos hbad], by unfold failD; rw [if_pos hbad]⟩
    have hu : u1 = true ∨ (u1 = false ∧ u2 = true ∧ u3 = true) := by
      by_cases h0 : n < 0
      · left; rw [← t1]; exact decide_eq_true h0
      · right
        have h1 : er ≠ 4 ∧ er ≠ 5 := by omega
        exact ⟨by rw [← t1]; exact decide_eq_false h0, by rw [← t2]; simpa using h1.1, by rw [← t3]; simpa using h1.2⟩
    clear hbad
    generalize D.blocks.length = bn at *
    generalize D.pending.length = wn at *
    rcases hu with rfl | ⟨rfl, rfl, rfl⟩
    all_goals
      go_enter Try.func87, Try.ntmps87
      go_upto_region 1 with fail
      obtain ⟨x1, x2, hb⟩ := HT.out _ rfl
      generalize (w.alloc (.cells #[.slice bA bn bc, .slice wA wn wc, .bool D.down, .int .i64 D.power, .int .i64 D.fault, .int .i64 D.wi] 66)).alloc (.cells #[.slice none 0 0, .slice none 0 0, .bool false, .int .i64 0, .int .i64 0, .int .i64 0] 66) = w1 at *
      have y0 := x1.c0
      have y1 := x1.c1
      have y2 := x1.c2
      have y3 := x1.c3
      have y4 := x1.c4
      have y5 := x1.c5
      have r0 := x2.c0
      have r1 := x2.c1
      have r2 := x2.c2
      have r3 := x2.c3
      have r4 := x2.c4
      have r5 := x2.c5
      have f0 := x2.fz 0
      have f1 := x2.fz 1
      have f2 := x2.fz 2
      have f3 := x2.fz 3
      have f4 := x2.fz 4
      have f5 := x2.fz 5
      have HS := Lib.hid (set6 x2 (.slice bA bn bc) (.slice wA wn wc) (.bool D.down) (.int .i64 D.power) (.int .i64 D.fault) (.int .i64 D.wi) hb (by omega))
      go_wp2_with fail
      clear r0 f0 r1 f1 r2 f2 r3 f3 r4 f4 r5 f5
      obtain ⟨s1, s2⟩ := HS.out _ rfl
      clear HS
      generalize ((((((w1.setCell ⟨w.heap.size + 1, 0, none⟩ (.slice bA bn bc)).setCell ⟨w.heap.size + 1, 1, none⟩ (.slice wA wn wc)).setCell ⟨w.heap.size + 1, 2, none⟩ (.bool D.down)).setCell ⟨w.heap.size + 1, 3, none⟩ (.int .i64 D.power)).setCell ⟨w.heap.size + 1, 4, none⟩ (.int .i64 D.fault)).setCell ⟨w.heap.size + 1, 5, none⟩ (.int .i64 D.wi)) = wf at *
      have z0 := s1.c0
      have z1 := s1.c1
      have z2 := s1.c2
      have z3 := s1.c3
      have z4 := s1.c4
      have z5 := s1.c5
      refine bodyPost_ret (v := .tuple #[.agg #[.slice bA bn bc, .slice wA wn wc, .bool D.down, .int .i64 D.power, .int .i64 D.fault, .int .i64 D.wi], .int .i64 (2)]) (by simp [results, Try.results87, go_sem, z0, z1, z2, z3, z4, z5]) rfl ?_
      rw [HE.out.1, HE.out.2]
      exact ⟨_, rfl, HRW.out wf s2, s2⟩
  · have HE : Hid (failE n er = 0 ∧ failD D n er = { D with fault := n, wi := er }) := Lib.hid ⟨by unfold failE; rw [if_neg hbad], by unfold failD; rw [if_neg hbad]⟩
    have hu : u1 = false ∧ ((u2 = false) ∨ (u2 = true ∧ u3 = false)) := by
      refine ⟨by rw [← t1]; exact decide_eq_false (by omega), ?_⟩
      by_cases h4 : er = 4
      · left; rw [← t2, h4]; rfl
      · right
        have h5 : er = 5 := by omega
        exact ⟨by rw [← t2, h5]; rfl, by rw [← t3, h5]; rfl⟩
    clear hbad
    generalize D.blocks.length = bn at *
    generalize D.pending.length = wn at *
    obtain ⟨rfl, hu⟩ := hu
    rcases hu with rfl | ⟨rfl, rfl⟩
    all_goals
      go_enter Try.func87, Try.ntmps87
      go_upto_region 3 with fail
      obtain ⟨x1, x2, hb⟩ := HT.out _ rfl
      generalize (w.alloc (.cells #[.slice bA bn bc, .slice wA wn wc, .bool D.down, .int .i64 D.power, .int .i64 D.fault, .int .i64 D.wi] 66)).alloc (.cells #[.slice none 0 0, .slice none 0 0, .bool false, .int .i64 0, .int .i64 0, .int .i64 0] 66) = w1 at *
      have y4 := x1.c4
      have q4 := x1.fz 4
      have x1' := x1.set4 (.int .i64 n)
      have x2' := x2.setO (k := w.heap.size) (j := 4) (u := .int .i64 n) (by omega)
      have hb' : Below w.heap.size w (w1.setCell ⟨w.heap.size, 4, none⟩ (.int .i64 n)) := hb.setCell (Nat.le_refl _) _
      go_upto_region 4 with fail
      clear y4 q4 x1 x2 hb
      generalize w1.setCell ⟨w.heap.size, 4, none⟩ (.int .i64 n) = w2 at *
      have y5 := x1'.c5
      have q5 := x1'.fz 5
      have x1'' := x1'.set5 (.int .i64 er)
      have x2'' := x2'.setO (k := w.heap.size) (j := 5) (u := .int .i64 er) (by omega)
      have hb'' : Below w.heap.size w (w2.setCell ⟨w.heap.size, 5, none⟩ (.int .i64 er)) := hb'.setCell (Nat.le_refl _) _
      go_upto_region 5 with fail
      clear y5 q5 x1' x2' hb'
      generalize w2.setCell ⟨w.heap.size, 5, none⟩ (.int .i64 er) = w3 at *
      have y0 := x1''.c0
      have y1 := x1''.c1
      have y2 := x1''.c2
      have y3 := x1''.c3
      have y4 := x1''.c4
      have y5 := x1''.c5
      have r0 := x2''.c0
      have r1 := x2''.c1
      have r2 := x2''.c2
      have r3 := x2''.c3
      have r4 := x2''.c4
      have r5 := x2''.c5
      have f0 := x2''.fz 0
      have f1 := x2''.fz 1
      have f2 := x2''.fz 2
      have f3 := x2''.fz 3
      have f4 := x2''.fz 4
      have f5 := x2''.fz 5
      have HS := Lib.hid (set6 x2'' (.slice bA bn bc) (.slice wA wn wc) (.bool D.down) (.int .i64 D.power) (.int .i64 n) (.int .i64 er) hb'' (by omega))
      go_wp2_with fail
      clear r0 f0 r1 f1 r2 f2 r3 f3 r4 f4 r5 f5
      obtain ⟨s1, s2⟩ := HS.out _ rfl
      clear HS
      generalize ((((((w3.setCell ⟨w.heap.size + 1, 0, none⟩ (.slice bA bn bc)).setCell ⟨w.heap.size + 1, 1, none⟩ (.slice wA wn wc)).setCell ⟨w.heap.size + 1, 2, none⟩ (.bool D.down)).setCell ⟨w.heap.size + 1, 3, none⟩ (.int .i64 D.power)).setCell ⟨w.heap.size + 1, 4, none⟩ (.int .i64 n)).setCell ⟨w.heap.size + 1, 5, none⟩ (.int .i64 er)) = wf at *
      have z0 := s1.c0
      have z1 := s1.c1
      have z2 := s1.c2
      have z3 := s1.c3
      have z4 := s1.c4
      have z5 := s1.c5
      refine bodyPost_ret (v := .tuple #[.agg #[.slice bA bn bc, .slice wA wn wc, .bool D.down, .int .i64 D.power, .int .i64 n, .int .i64 er], .int .i64 (0)]) (by simp [results, Try.results87, go_sem, z0, z1, z2, z3, z4, z5]) rfl ?_
      rw [HE.out.1, HE.out.2]
      exact ⟨_, rfl, HR.out wf n er s2, s2⟩

end Go.Proofs.Ytjopobkcijkpmaa
