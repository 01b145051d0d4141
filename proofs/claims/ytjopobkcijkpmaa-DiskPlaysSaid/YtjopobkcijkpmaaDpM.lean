/-
  Chapter 03's does: Read and Durable; calls that do nothing.
-/
import Derived.Test.YtjopobkcijkpmaaDpL
namespace Go.Proofs.Ytjopobkcijkpmaa
open Go Go.RowKit

theorem VG.br {G : Nat → Prop} {w : World} {u : Value} {l : List UInt8} (h : VG G w u l) : ∃ A n c, u = .slice A n c ∧ BR w A n l := by
  obtain ⟨_, A, c, e, hr, _⟩ := h
  exact ⟨A, 4096, c, e, hr⟩
theorem readL_no {D : DiskS} {b : Int} (h : readE D b ≠ 0) : readL D b = [] := by unfold readL; rw [if_pos h]
theorem durL_no {D : DiskS} {b : Int} (h : askE D b ≠ 0) : durL D b = [] := by unfold durL; rw [if_neg h]
theorem BR.nil0 (w : World) : BR w none 0 [] := ⟨rfl, fun h => absurd h (by omega)⟩

set_option maxRecDepth 100000 in
set_option maxHeartbeats 4000000 in
theorem does_other (w : World) (base g : Nat) (F G : Nat → Prop) (v : Value) (D : DiskS) (kd on bt sd : Int) (sh : Bool) (nn er : Int) (K : Option Addr) (nk ck : Nat) (torn cut : Int) (h : Pr w base g F G v D) (hk : kd < 1 ∨ 6 < kd) :
    Calls Try.prog 46 #[.pointer (some ⟨g, 0, none⟩), v, .agg #[.int .i64 kd, .int .i64 on, .int .i64 bt, .int .i64 sd, .bool sh, .int .i64 nn, .int .i64 er, .slice K nk ck, .int .i64 torn, .int .i64 cut]] w (DoesP w base g F G D) := by
  obtain ⟨ok, hd⟩ := h.isd
  have hd := hd.sharp
  have hnum := DK.nums hd
  have HH := Lib.hid h
  have hFl : ∀ k, F k → k < w.heap.size := fun k hk => (hd.foot_lt k hk).2
  have HD := Lib.hid hd
  obtain ⟨bA, bc, wA, wc, bus, wus, rfl, k1, k2, k3, k4, _⟩ := h.rk
  have HT := Lib.hid (threeO w (.slice bA D.blocks.length bc) (.slice wA D.pending.length wc) (.bool D.down) (.int .i64 D.power) (.int .i64 D.fault) (.int .i64 D.wi) kd on bt sd sh nn er K nk ck torn cut)
  clear hd h k1 k2 k3 k4
  have e1 : (kd == 1) = false := beq_eq_false_iff_ne.2 (by omega)
  have e2 : (kd == 2) = false := beq_eq_false_iff_ne.2 (by omega)
  have e3 : (kd == 3) = false := beq_eq_false_iff_ne.2 (by omega)
  have e4 : (kd == 4) = false := beq_eq_false_iff_ne.2 (by omega)
  have e5 : (kd == 5) = false := beq_eq_false_iff_ne.2 (by omega)
  have e6 : (kd == 6) = false := beq_eq_false_iff_ne.2 (by omega)
  go_enter Try.func46, Try.ntmps46
  go_upto_region 1 with fail
  obtain ⟨x1, xo, x3, hb, hsz⟩ := HT.out _ rfl
  clear HT
  generalize ((w.alloc (.cells #[.slice bA D.blocks.length bc, .slice wA D.pending.length wc, .bool D.down, .int .i64 D.power, .int .i64 D.fault, .int .i64 D.wi] 66)).alloc (.cells #[.int .i64 kd, .int .i64 on, .int .i64 bt, .int .i64 sd, .bool sh, .int .i64 nn, .int .i64 er, .slice K nk ck, .int .i64 torn, .int .i64 cut] 72)).alloc (.cells #[.slice none 0 0, .slice none 0 0, .bool false, .int .i64 0, .int .i64 0, .int .i64 0] 66) = w1 at *
  have o0 : w1.cell? ⟨w.heap.size + 1, 0, none⟩ = some (.int .i64 kd) := by rw [cell_of_row w1 _ 0 _ _ _ xo]; rfl
  have HCL : Hid (∀ (wf : World), Off (· = w.heap.size + 1 + 1) w1 wf → DoesP w base g F G D (.returned (.tuple #[.agg #[.slice bA D.blocks.length bc, .slice wA D.pending.length wc, .bool D.down, .int .i64 D.power, .int .i64 D.fault, .int .i64 D.wi], .bool true])) wf) := Lib.hid (fun wf ho =>
    DoesP.close HH.out hb (DPost.same (HD.out.below hb)) (gr_refl w1) (gr_refl w1) (RK.mono (G' := plusG G w1 w1) (HH.out.rk.below hb) (fun k hk => .inl hk)) ho (fun k hk => by have hk' : k = w.heap.size + 1 + 1 := hk; exact .inl ⟨by omega, by omega⟩) rfl (Nat.le_succ _))
  clear HD HH hb
  go_upto_region 31 with fail
  clear o0 xo
  have y0 := x1.c0
  have y1 := x1.c1
  have y2 := x1.c2
  have y3 := x1.c3
  have y4 := x1.c4
  have y5 := x1.c5
  have r0 := x3.c0
  have r1 := x3.c1
  have r2 := x3.c2
  have r3 := x3.c3
  have r4 := x3.c4
  have r5 := x3.c5
  have f0 := x3.fz 0
  have f1 := x3.fz 1
  have f2 := x3.fz 2
  have f3 := x3.fz 3
  have f4 := x3.fz 4
  have f5 := x3.fz 5
  have HS := Lib.hid (set6p x3 (.slice bA D.blocks.length bc) (.slice wA D.pending.length wc) (.bool D.down) (.int .i64 D.power) (.int .i64 D.fault) (.int .i64 D.wi))
  go_wp2_with fail
  clear r0 f0 r1 f1 r2 f2 r3 f3 r4 f4 r5 f5
  obtain ⟨s1, s3⟩ := HS.out _ rfl
  clear HS
  generalize ((((((w1.setCell ⟨w.heap.size + 1 + 1, 0, none⟩ (.slice bA D.blocks.length bc)).setCell ⟨w.heap.size + 1 + 1, 1, none⟩ (.slice wA D.pending.length wc)).setCell ⟨w.heap.size + 1 + 1, 2, none⟩ (.bool D.down)).setCell ⟨w.heap.size + 1 + 1, 3, none⟩ (.int .i64 D.power)).setCell ⟨w.heap.size + 1 + 1, 4, none⟩ (.int .i64 D.fault)).setCell ⟨w.heap.size + 1 + 1, 5, none⟩ (.int .i64 D.wi)) = wf at *
  have z0 := s1.c0
  have z1 := s1.c1
  have z2 := s1.c2
  have z3 := s1.c3
  have z4 := s1.c4
  have z5 := s1.c5
  refine bodyPost_ret (v := .tuple #[.agg #[.slice bA D.blocks.length bc, .slice wA D.pending.length wc, .bool D.down, .int .i64 D.power, .int .i64 D.fault, .int .i64 D.wi], .bool true]) (by simp [results, Try.results46, go_sem, z0, z1, z2, z3, z4, z5]) rfl ?_
  exact HCL.out _ s3

set_option maxRecDepth 100000 in
set_option maxHeartbeats 4000000 in
theorem does_read (w : World) (base g : Nat) (F G : Nat → Prop) (v : Value) (D : DiskS) (on bt sd : Int) (sh : Bool) (nn er : Int) (K : Option Addr) (nk ck : Nat) (torn cut : Int) (h : Pr w base g F G v D) (hpl : D.pending.length ≤ 1000000) :
    Calls Try.prog 46 #[.pointer (some ⟨g, 0, none⟩), v, .agg #[.int .i64 3, .int .i64 on, .int .i64 bt, .int .i64 sd, .bool sh, .int .i64 nn, .int .i64 er, .slice K nk ck, .int .i64 torn, .int .i64 cut]] w (DoesP w base g F G D) := by
  obtain ⟨ok, hd⟩ := h.isd
  have hd := hd.sharp
  have hnum := DK.nums hd
  have HH := Lib.hid h
  have hFl : ∀ k, F k → k < w.heap.size := fun k hk => (hd.foot_lt k hk).2
  have HD := Lib.hid hd
  obtain ⟨bA, bc, wA, wc, bus, wus, rfl, k1, k2, k3, k4, _⟩ := h.rk
  have HT := Lib.hid (threeO w (.slice bA D.blocks.length bc) (.slice wA D.pending.length wc) (.bool D.down) (.int .i64 D.power) (.int .i64 D.fault) (.int .i64 D.wi) 3 on bt sd sh nn er K nk ck torn cut)
  clear hd h k1 k2 k3 k4
  have e1 : ((3 : Int) == 1) = false := by decide
  have e2 : ((3 : Int) == 2) = false := by decide
  have e3 : ((3 : Int) == 3) = true := by decide
  go_enter Try.func46, Try.ntmps46
  go_upto_region 1 with fail
  obtain ⟨x1, xo, x3, hb, hsz⟩ := HT.out _ rfl
  clear HT
  generalize ((w.alloc (.cells #[.slice bA D.blocks.length bc, .slice wA D.pending.length wc, .bool D.down, .int .i64 D.power, .int .i64 D.fault, .int .i64 D.wi] 66)).alloc (.cells #[.int .i64 3, .int .i64 on, .int .i64 bt, .int .i64 sd, .bool sh, .int .i64 nn, .int .i64 er, .slice K nk ck, .int .i64 torn, .int .i64 cut] 72)).alloc (.cells #[.slice none 0 0, .slice none 0 0, .bool false, .int .i64 0, .int .i64 0, .int .i64 0] 66) = w1 at *
  have o0 : w1.cell? ⟨w.heap.size + 1, 0, none⟩ = some (.int .i64 3) := by rw [cell_of_row w1 _ 0 _ _ _ xo]; rfl
  have o2 : w1.cell? ⟨w.heap.size + 1, 2, none⟩ = some (.int .i64 bt) := by rw [cell_of_row w1 _ 2 _ _ _ xo]; rfl
  have e4 : ((3 : Int) == 4) = false := by decide
  go_wp2_with fail
  refine (Read_any w1 _ base g F D bt (HD.out.below hb) hpl).mono ?_
  rintro e w2 ⟨va, rfl, oba, hb2⟩
  obtain ⟨A1, c1, rfl, hr1, _, _⟩ := oba.form
  have x1 := x1.below hb2
  have x3 := x3.below hb2
  have xo := (hb2.block _ (Array.getElem?_eq_some_iff.1 xo).1).trans xo
  have hb02 := gr_trans hb hb2
  clear o0 o2 oba hb2
  have o2 : w2.cell? ⟨w.heap.size + 1, 2, none⟩ = some (.int .i64 bt) := by rw [cell_of_row w2 _ 2 _ _ _ xo]; rfl
  have y0 := x1.c0
  have y1 := x1.c1
  have y2 := x1.c2
  have y3 := x1.c3
  have y4 := x1.c4
  have y5 := x1.c5
  go_wp2_with fail
  refine (refRead03_any G _ D bt w2 (HH.out.rk.below hb02)).mono ?_
  rintro e w3 ⟨ub, rfl, hv1, hv2, hb3⟩
  obtain ⟨A2, n2, c2, rfl, hr2⟩ : ∃ A n c, ub = .slice A n c ∧ BR w3 A n (readL D bt) := by
    by_cases h0 : readE D bt = 0
    · exact ((hv1 h0).below hb3).br
    · rw [readL_no h0, hv2 h0]
      exact ⟨none, 0, 0, rfl, BR.nil0 _⟩
  have hr1 := hr1.below hb3
  have x1 := x1.below hb3
  have x3 := x3.below hb3
  have xo := (hb3.block _ (Array.getElem?_eq_some_iff.1 xo).1).trans xo
  have hb03 := gr_trans hb02 hb3
  clear o2 hv1 hv2 hb3 y0 y1 y2 y3 y4 y5
  have o2 : w3.cell? ⟨w.heap.size + 1, 2, none⟩ = some (.int .i64 bt) := by rw [cell_of_row w3 _ 2 _ _ _ xo]; rfl
  go_wp2_with fail
  refine (Durable_any w3 _ base g F D bt (HD.out.below hb03)).mono ?_
  rintro e w4 ⟨vd, rfl, obd, hb4⟩
  obtain ⟨A3, c3, rfl, hr3, _, _⟩ := obd.form
  have hr1 := hr1.below hb4
  have hr2 := hr2.below hb4
  have x1 := x1.below hb4
  have x3 := x3.below hb4
  have xo := (hb4.block _ (Array.getElem?_eq_some_iff.1 xo).1).trans xo
  have hb04 := gr_trans hb03 hb4
  clear o2 obd hb4
  have o2 : w4.cell? ⟨w.heap.size + 1, 2, none⟩ = some (.int .i64 bt) := by rw [cell_of_row w4 _ 2 _ _ _ xo]; rfl
  have y0 := x1.c0
  have y1 := x1.c1
  have y2 := x1.c2
  have y3 := x1.c3
  have y4 := x1.c4
  have y5 := x1.c5
  go_wp2_with fail
  refine (refDurable_any G _ D bt w4 (HH.out.rk.below hb04)).mono ?_
  rintro e w5 ⟨uf, rfl, hv1, hv2, hb5⟩
  obtain ⟨A4, n4, c4, rfl, hr4⟩ : ∃ A n c, uf = .slice A n c ∧ BR w5 A n (durL D bt) := by
    by_cases h0 : askE D bt = 0
    · exact ((hv1 h0).below hb5).br
    · rw [durL_no h0, hv2 h0]
      exact ⟨none, 0, 0, rfl, BR.nil0 _⟩
  have hr1 := hr1.below hb5
  have hr2 := hr2.below hb5
  have hr3 := hr3.below hb5
  have x1 := x1.below hb5
  have x3 := x3.below hb5
  have hb05 := gr_trans hb04 hb5
  clear o2 hv1 hv2 hb5 y0 y1 y2 y3 y4 y5 xo
  have HCL : Hid (∀ (wf : World), Off (· = w.heap.size + 1 + 1) w5 wf → DoesP w base g F G D (.returned (.tuple #[.agg #[.slice bA D.blocks.length bc, .slice wA D.pending.length wc, .bool D.down, .int .i64 D.power, .int .i64 D.fault, .int .i64 D.wi], .bool true])) wf) := Lib.hid (fun wf ho =>
    DoesP.close HH.out hb05 (DPost.same (HD.out.below hb05)) (gr_refl w5) (gr_refl w5) (RK.mono (G' := plusG G w5 w5) (HH.out.rk.below hb05) (fun k hk => .inl hk)) ho (fun k hk => by have hk' : k = w.heap.size + 1 + 1 := hk; have := hb05.size; exact .inl ⟨by omega, by have := (Array.getElem?_eq_some_iff.1 x3).1; omega⟩) rfl (Nat.le_succ _))
  clear HD HH hb hb02 hb03 hb04 hb05
  generalize readE D bt = re at *
  generalize askE D bt = ae at *
  have b1 : (re == re) = true := beq_self_eq_true _
  have b2 : (ae == ae) = true := beq_self_eq_true _
  have HS1 := Lib.hid hr1
  have HS2 := Lib.hid hr2
  have HS3 := Lib.hid hr3
  have HS4 := Lib.hid hr4
  clear hr1 hr2 hr3 hr4
  generalize hN1 : (readL D bt).length = n1 at *
  generalize hN3 : (durL D bt).length = n3 at *
  clear hN1 hN3
  go_upto_region 18 with fail
  refine wp_region_any (by kernel_rfl) ?_
  change wpAny _ _ _ _ _ _ _ (World.drew w5)
  have hD := bel_drew (w := w5) (gr_refl _)
  have x1 := x1.below hD
  have x3 := x3.below hD
  have HS1 := Lib.hid (HS1.out.below hD)
  have HS2 := Lib.hid (HS2.out.below hD)
  have HS3 := Lib.hid (HS3.out.below hD)
  have HS4 := Lib.hid (HS4.out.below hD)
  have od : Off (· = w.heap.size + 1 + 1) w5 (World.drew w5) := Off.of_below hD
  generalize World.drew w5 = wt at *
  refine wpAny_of_held (S := fun W => B6 W w.heap.size (.slice bA D.blocks.length bc) (.slice wA D.pending.length wc) (.bool D.down) (.int .i64 D.power) (.int .i64 D.fault) (.int .i64 D.wi)) _ _ _ _ ?_
  have hHeld := x1
  refine wpAnyH_take (i := 0) (v := .agg #[.slice bA D.blocks.length bc, .slice wA D.pending.length wc, .bool D.down, .int .i64 D.power, .int .i64 D.fault, .int .i64 D.wi]) rfl (by kernel_rfl) (by kernel_rfl) (by kernel_rfl) (fun _ _ _ h => h) (Or.inl ⟨by rfl, ?_⟩) hHeld ?_
  · intro W hS
    (try dsimp only at hS)
    have y0 := (show B6 W w.heap.size (.slice bA D.blocks.length bc) (.slice wA D.pending.length wc) (.bool D.down) (.int .i64 D.power) (.int .i64 D.fault) (.int .i64 D.wi) from hS).c0
    have y1 := (show B6 W w.heap.size (.slice bA D.blocks.length bc) (.slice wA D.pending.length wc) (.bool D.down) (.int .i64 D.power) (.int .i64 D.fault) (.int .i64 D.wi) from hS).c1
    have y2 := (show B6 W w.heap.size (.slice bA D.blocks.length bc) (.slice wA D.pending.length wc) (.bool D.down) (.int .i64 D.power) (.int .i64 D.fault) (.int .i64 D.wi) from hS).c2
    have y3 := (show B6 W w.heap.size (.slice bA D.blocks.length bc) (.slice wA D.pending.length wc) (.bool D.down) (.int .i64 D.power) (.int .i64 D.fault) (.int .i64 D.wi) from hS).c3
    have y4 := (show B6 W w.heap.size (.slice bA D.blocks.length bc) (.slice wA D.pending.length wc) (.bool D.down) (.int .i64 D.power) (.int .i64 D.fault) (.int .i64 D.wi) from hS).c4
    have y5 := (show B6 W w.heap.size (.slice bA D.blocks.length bc) (.slice wA D.pending.length wc) (.bool D.down) (.int .i64 D.power) (.int .i64 D.fault) (.int .i64 D.wi) from hS).c5
    go_simp
  try simp only [Act.put, List.getElem_toArray, List.getElem_cons_zero, List.setIfInBounds_toArray, List.set_cons_zero, List.set_cons_succ]
  refine wpAnyH_take (i := 1) (v := .int .i64 re) rfl (by kernel_rfl) (by kernel_rfl) (by kernel_rfl) (fun _ _ _ h => h) (Or.inl ⟨by rfl, ?_⟩) hHeld ?_
  · intro W hS
    (try dsimp only at hS)
    go_simp
  try simp only [Act.put, List.getElem_toArray, List.getElem_cons_succ, List.getElem_cons_zero, List.setIfInBounds_toArray, List.set_cons_zero, List.set_cons_succ]
  refine wpAnyH_take (i := 2) (v := .int .i64 re) rfl (by kernel_rfl) (by kernel_rfl) (by kernel_rfl) (fun _ _ _ h => h) (Or.inl ⟨by rfl, ?_⟩) hHeld ?_
  · intro W hS
    (try dsimp only at hS)
    go_simp
  try simp only [Act.put, List.getElem_toArray, List.getElem_cons_succ, List.getElem_cons_zero, List.setIfInBounds_toArray, List.set_cons_zero, List.set_cons_succ]
  refine wpAnyH_take (i := 3) (v := .bool true) rfl (by kernel_rfl) (by kernel_rfl) (by kernel_rfl) (fun _ _ _ h => h) (Or.inl ⟨by rfl, ?_⟩) hHeld ?_
  · intro W hS
    (try dsimp only at hS)
    go_simp
  try simp only [Act.put, List.getElem_toArray, List.getElem_cons_succ, List.getElem_cons_zero, List.setIfInBounds_toArray, List.set_cons_zero, List.set_cons_succ]
  refine wpAnyH_take (i := 4) (v := .bool true) rfl (by kernel_rfl) (by kernel_rfl) (by kernel_rfl) (fun _ _ _ h => h) (Or.inl ⟨by rfl, ?_⟩) hHeld ?_
  · intro W hS
    (try dsimp only at hS)
    go_simp
  try simp only [Act.put, List.getElem_toArray, List.getElem_cons_succ, List.getElem_cons_zero, List.setIfInBounds_toArray, List.set_cons_zero, List.set_cons_succ]
  refine wpAnyH_take (i := 5) (v := .int .i64 ae) rfl (by kernel_rfl) (by kernel_rfl) (by kernel_rfl) (fun _ _ _ h => h) (Or.inl ⟨by rfl, ?_⟩) hHeld ?_
  · intro W hS
    (try dsimp only at hS)
    go_simp
  try simp only [Act.put, List.getElem_toArray, List.getElem_cons_succ, List.getElem_cons_zero, List.setIfInBounds_toArray, List.set_cons_zero, List.set_cons_succ]
  refine wpAnyH_take (i := 6) (v := .int .i64 ae) rfl (by kernel_rfl) (by kernel_rfl) (by kernel_rfl) (fun _ _ _ h => h) (Or.inl ⟨by rfl, ?_⟩) hHeld ?_
  · intro W hS
    (try dsimp only at hS)
    go_simp
  try simp only [Act.put, List.getElem_toArray, List.getElem_cons_succ, List.getElem_cons_zero, List.setIfInBounds_toArray, List.set_cons_zero, List.set_cons_succ]
  refine wpAnyH_take (i := 7) (v := .bool true) rfl (by kernel_rfl) (by kernel_rfl) (by kernel_rfl) (fun _ _ _ h => h) (Or.inl ⟨by rfl, ?_⟩) hHeld ?_
  · intro W hS
    (try dsimp only at hS)
    go_simp
  try simp only [Act.put, List.getElem_toArray, List.getElem_cons_succ, List.getElem_cons_zero, List.setIfInBounds_toArray, List.set_cons_zero, List.set_cons_succ]
  refine wpAnyH_take (i := 8) (v := .bool true) rfl (by kernel_rfl) (by kernel_rfl) (by kernel_rfl) (fun _ _ _ h => h) (Or.inl ⟨by rfl, ?_⟩) hHeld ?_
  · intro W hS
    (try dsimp only at hS)
    go_simp
  try simp only [Act.put, List.getElem_toArray, List.getElem_cons_succ, List.getElem_cons_zero, List.setIfInBounds_toArray, List.set_cons_zero, List.set_cons_succ]
  refine wpAnyH_take (i := 9) (v := .bool true) rfl (by kernel_rfl) (by kernel_rfl) (by kernel_rfl) (fun _ _ _ h => h) (Or.inl ⟨by rfl, ?_⟩) hHeld ?_
  · intro W hS
    (try dsimp only at hS)
    go_simp
  try simp only [Act.put, List.getElem_toArray, List.getElem_cons_succ, List.getElem_cons_zero, List.setIfInBounds_toArray, List.set_cons_zero, List.set_cons_succ]
  refine wpAnyH_take (i := 10) (v := .slice A1 n1 c1) rfl (by kernel_rfl) (by kernel_rfl) (by kernel_rfl) (fun _ _ _ h => h) (Or.inl ⟨by rfl, ?_⟩) hHeld ?_
  · intro W hS
    (try dsimp only at hS)
    go_simp
  try simp only [Act.put, List.getElem_toArray, List.getElem_cons_succ, List.getElem_cons_zero, List.setIfInBounds_toArray, List.set_cons_zero, List.set_cons_succ]
  refine wpAnyH_take (i := 11) (v := .slice A2 n2 c2) rfl (by kernel_rfl) (by kernel_rfl) (by kernel_rfl) (fun _ _ _ h => h) (Or.inl ⟨by rfl, ?_⟩) hHeld ?_
  · intro W hS
    (try dsimp only at hS)
    go_simp
  try simp only [Act.put, List.getElem_toArray, List.getElem_cons_succ, List.getElem_cons_zero, List.setIfInBounds_toArray, List.set_cons_zero, List.set_cons_succ]
  refine wpAnyH_ready (rs := [12]) (by kernel_rfl) (by simp) ?_
  refine AllReadyH.cons rfl (fun KK hK => ?_) AllReadyH.nil
  try simp only [List.getElem_toArray, List.getElem_cons_succ, List.getElem_cons_zero]
  rw [if_pos (by rfl)]
  go_simp
  refine (SameBytes_any A1 A2 n1 n2 c1 c2 _ _ _ HS1.out HS2.out).mono ?_
  rintro e wq ⟨rfl, rfl⟩
  rw [beq_self_eq_true]
  dsimp only
  refine hK.out _ _ ?_ (fun hHeld2 => ?_)
  · exact hHeld
  clear hK KK hHeld
  have hHeld := hHeld2
  clear hHeld2
  try simp only [Act.put, List.setIfInBounds_toArray, List.set_cons_zero, List.set_cons_succ]
  refine wpAnyH_take (i := 13) (v := .bool true) rfl (by kernel_rfl) (by kernel_rfl) (by kernel_rfl) (fun _ _ _ h => h) (Or.inl ⟨by rfl, ?_⟩) hHeld ?_
  · intro W hS
    (try dsimp only at hS)
    go_simp
  try simp only [Act.put, List.getElem_toArray, List.getElem_cons_succ, List.getElem_cons_zero, List.setIfInBounds_toArray, List.set_cons_zero, List.set_cons_succ]
  refine wpAnyH_take (i := 14) (v := .bool true) rfl (by kernel_rfl) (by kernel_rfl) (by kernel_rfl) (fun _ _ _ h => h) (Or.inl ⟨by rfl, ?_⟩) hHeld ?_
  · intro W hS
    (try dsimp only at hS)
    go_simp
  try simp only [Act.put, List.getElem_toArray, List.getElem_cons_succ, List.getElem_cons_zero, List.setIfInBounds_toArray, List.set_cons_zero, List.set_cons_succ]
  refine wpAnyH_take (i := 15) (v := .slice A3 n3 c3) rfl (by kernel_rfl) (by kernel_rfl) (by kernel_rfl) (fun _ _ _ h => h) (Or.inl ⟨by rfl, ?_⟩) hHeld ?_
  · intro W hS
    (try dsimp only at hS)
    go_simp
  try simp only [Act.put, List.getElem_toArray, List.getElem_cons_succ, List.getElem_cons_zero, List.setIfInBounds_toArray, List.set_cons_zero, List.set_cons_succ]
  refine wpAnyH_take (i := 16) (v := .slice A4 n4 c4) rfl (by kernel_rfl) (by kernel_rfl) (by kernel_rfl) (fun _ _ _ h => h) (Or.inl ⟨by rfl, ?_⟩) hHeld ?_
  · intro W hS
    (try dsimp only at hS)
    go_simp
  try simp only [Act.put, List.getElem_toArray, List.getElem_cons_succ, List.getElem_cons_zero, List.setIfInBounds_toArray, List.set_cons_zero, List.set_cons_succ]
  refine wpAnyH_ready (rs := [17]) (by kernel_rfl) (by simp) ?_
  refine AllReadyH.cons rfl (fun KK hK => ?_) AllReadyH.nil
  try simp only [List.getElem_toArray, List.getElem_cons_succ, List.getElem_cons_zero]
  rw [if_pos (by rfl)]
  go_simp
  refine (SameBytes_any A3 A4 n3 n4 c3 c4 _ _ _ HS3.out HS4.out).mono ?_
  rintro e wq ⟨rfl, rfl⟩
  rw [beq_self_eq_true]
  dsimp only
  refine hK.out _ _ ?_ (fun hHeld2 => ?_)
  · exact hHeld
  clear hK KK hHeld
  have hHeld := hHeld2
  clear hHeld2
  try simp only [Act.put, List.setIfInBounds_toArray, List.set_cons_zero, List.set_cons_succ]
  refine wpAnyH_take (i := 18) (v := .bool true) rfl (by kernel_rfl) (by kernel_rfl) (by kernel_rfl) (fun _ _ _ h => h) (Or.inl ⟨by rfl, ?_⟩) hHeld ?_
  · intro W hS
    (try dsimp only at hS)
    go_simp
  try simp only [Act.put, List.getElem_toArray, List.getElem_cons_succ, List.getElem_cons_zero, List.setIfInBounds_toArray, List.set_cons_zero, List.set_cons_succ]
  have r0 := x3.c0
  have f0 := x3.fz 0
  have r1 := x3.c1
  have f1 := x3.fz 1
  have r2 := x3.c2
  have f2 := x3.fz 2
  have r3 := x3.c3
  have f3 := x3.fz 3
  have r4 := x3.c4
  have f4 := x3.fz 4
  have r5 := x3.c5
  have f5 := x3.fz 5
  have HS := Lib.hid (set6p x3 (.slice bA D.blocks.length bc) (.slice wA D.pending.length wc) (.bool D.down) (.int .i64 D.power) (.int .i64 D.fault) (.int .i64 D.wi))
  refine wpAnyH_ready (rs := [19]) (by kernel_rfl) (by simp) ?_
  refine AllReadyH.cons rfl (fun KK hK => ?_) AllReadyH.nil
  try simp only [List.getElem_toArray, List.getElem_cons_succ, List.getElem_cons_zero]
  go_simp
  refine hK.out _ _ ?_ (fun hHeld2 => ?_)
  · exact ((((((hHeld.setO (k := w.heap.size + 1 + 1) (j := 0) (u := .slice bA D.blocks.length bc) (by omega)).setO (k := w.heap.size + 1 + 1) (j := 1) (u := .slice wA D.pending.length wc) (by omega)).setO (k := w.heap.size + 1 + 1) (j := 2) (u := .bool D.down) (by omega)).setO (k := w.heap.size + 1 + 1) (j := 3) (u := .int .i64 D.power) (by omega)).setO (k := w.heap.size + 1 + 1) (j := 4) (u := .int .i64 D.fault) (by omega)).setO (k := w.heap.size + 1 + 1) (j := 5) (u := .int .i64 D.wi) (by omega))
  clear hK KK hHeld
  have hHeld := hHeld2
  clear hHeld2
  try simp only [Act.put, List.setIfInBounds_toArray, List.set_cons_zero, List.set_cons_succ]
  refine wpAnyH_take (i := 20) (v := .bool true) rfl (by kernel_rfl) (by kernel_rfl) (by kernel_rfl) (fun _ _ _ h => h) (Or.inl ⟨by rfl, ?_⟩) hHeld ?_
  · intro W hS
    (try dsimp only at hS)
    go_simp
  try simp only [Act.put, List.getElem_toArray, List.getElem_cons_succ, List.getElem_cons_zero, List.setIfInBounds_toArray, List.set_cons_zero, List.set_cons_succ]
  refine wpAnyH_done (by kernel_rfl) ?_ _
  go_wp2_with fail
  clear hHeld r0 f0 r1 f1 r2 f2 r3 f3 r4 f4 r5 f5
  obtain ⟨s1, s3⟩ := HS.out _ rfl
  clear HS
  generalize ((((((wt.setCell ⟨w.heap.size + 1 + 1, 0, none⟩ (.slice bA D.blocks.length bc)).setCell ⟨w.heap.size + 1 + 1, 1, none⟩ (.slice wA D.pending.length wc)).setCell ⟨w.heap.size + 1 + 1, 2, none⟩ (.bool D.down)).setCell ⟨w.heap.size + 1 + 1, 3, none⟩ (.int .i64 D.power)).setCell ⟨w.heap.size + 1 + 1, 4, none⟩ (.int .i64 D.fault)).setCell ⟨w.heap.size + 1 + 1, 5, none⟩ (.int .i64 D.wi)) = wf at *
  have z0 := s1.c0
  have z1 := s1.c1
  have z2 := s1.c2
  have z3 := s1.c3
  have z4 := s1.c4
  have z5 := s1.c5
  refine bodyPost_ret (v := .tuple #[.agg #[.slice bA D.blocks.length bc, .slice wA D.pending.length wc, .bool D.down, .int .i64 D.power, .int .i64 D.fault, .int .i64 D.wi], .bool true]) (by simp [results, Try.results46, go_sem, z0, z1, z2, z3, z4, z5]) rfl ?_
  exact HCL.out _ (od.trans s3)

end Go.Proofs.Ytjopobkcijkpmaa
