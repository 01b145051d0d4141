/-
  The reference of chapter 03: New.
-/
import Derived.Test.YtjopobkcijkpmaaDpJ
namespace Go.Proofs.Ytjopobkcijkpmaa
open Go Go.RowKit

/-- One zero block, again and again. -/
def zv (g : Nat) : Value := .slice (some ⟨g, 0, none⟩) 4096 4096
/-- A disk in the making: i blocks so far. -/
structure NI (w wr : World) (i : Nat) (v : Value) : Prop where
  r : B6 wr w.heap.size (.slice none 0 0) (.slice none 0 0) (.bool false) (.int .i64 0) (.int .i64 0) (.int .i64 0)
  t : B6 wr (w.heap.size + 1) v (.slice none 0 0) (.bool false) (.int .i64 (-1)) (.int .i64 (-1)) (.int .i64 0)
  z : BB wr (w.heap.size + 1 + 1) zer
  row : wr.ownsRow (w.heap.size + 3) 33 1 v i (List.replicate i (zv (w.heap.size + 1 + 1)))
  bel : Below w.heap.size w wr
  sz : w.heap.size + 3 ≤ wr.heap.size
theorem NI.start (w : World) : ∀ w1, w1 = ((w.alloc (.cells #[.slice none 0 0, .slice none 0 0, .bool false, .int .i64 0, .int .i64 0, .int .i64 0] 66)).alloc (.cells #[.slice none 0 0, .slice none 0 0, .bool false, .int .i64 (-1), .int .i64 (-1), .int .i64 0] 66)).alloc (.cells (zeroB 4096) 5) → NI w w1 0 (.slice none 0 0) := by
  rintro w1 rfl
  have h0 := B6.new w (.slice none 0 0) (.slice none 0 0) (.bool false) (.int .i64 0) (.int .i64 0) (.int .i64 0)
  have b0 := gr_alloc (gr_refl w) (.cells #[.slice none 0 0, .slice none 0 0, .bool false, .int .i64 0, .int .i64 0, .int .i64 0] 66)
  have s0 : (w.alloc (.cells #[.slice none 0 0, .slice none 0 0, .bool false, .int .i64 0, .int .i64 0, .int .i64 0] 66)).heap.size = w.heap.size + 1 := World.size_alloc _ _
  generalize w.alloc (.cells #[.slice none 0 0, .slice none 0 0, .bool false, .int .i64 0, .int .i64 0, .int .i64 0] 66) = w2 at *
  have h1 := B6.new w2 (.slice none 0 0) (.slice none 0 0) (.bool false) (.int .i64 (-1)) (.int .i64 (-1)) (.int .i64 0)
  have b1 := gr_alloc (gr_refl w2) (.cells #[.slice none 0 0, .slice none 0 0, .bool false, .int .i64 (-1), .int .i64 (-1), .int .i64 0] 66)
  have s1 : (w2.alloc (.cells #[.slice none 0 0, .slice none 0 0, .bool false, .int .i64 (-1), .int .i64 (-1), .int .i64 0] 66)).heap.size = w.heap.size + 1 + 1 := by rw [World.size_alloc, s0]
  generalize w2.alloc (.cells #[.slice none 0 0, .slice none 0 0, .bool false, .int .i64 (-1), .int .i64 (-1), .int .i64 0] 66) = w3 at *
  have h2 := BB.zero w3 4096
  have b2 := gr_alloc (gr_refl w3) (.cells (zeroB 4096) 5)
  rw [s0] at h1
  rw [s1] at h2
  exact ⟨(h0.below b1).below b2, h1.below b2, h2, ⟨rfl, .inl ⟨rfl, rfl⟩⟩, gr_trans (gr_trans b0 b1) b2, by rw [World.size_alloc, s1]; omega⟩
theorem NI.step {w wr w4 : World} {i : Nat} {v v' : Value} (h : NI w wr i v) {o : Obj} (hg : (wr.alloc o).grownBy w4 v.ownBlock) (ho : w4.ownsRow (w.heap.size + 3) 33 1 v' (i + 1) (List.replicate (i + 1) (zv (w.heap.size + 1 + 1)))) :
    (w4.cell? ⟨w.heap.size + 1, 0, none⟩ = some v ∧ w4.frozen? ⟨w.heap.size + 1, 0, none⟩ = false) ∧ NI w (w4.setCell ⟨w.heap.size + 1, 0, none⟩ v') (i + 1) v' := by
  have hsz := h.sz
  have hb : Below (w.heap.size + 3) wr w4 := ((gr_alloc (gr_refl wr) o).mono hsz).grown hg (by simp; omega) (fun k hk => (h.row.lt k hk).1)
  have kp : ∀ k, k < w.heap.size + 3 → w4.heap[k]? = wr.heap[k]? := fun k hk => hb.block k hk
  have r4 : B6 w4 w.heap.size (.slice none 0 0) (.slice none 0 0) (.bool false) (.int .i64 0) (.int .i64 0) (.int .i64 0) := (kp _ (by omega)).trans h.r
  have t4 : B6 w4 (w.heap.size + 1) v (.slice none 0 0) (.bool false) (.int .i64 (-1)) (.int .i64 (-1)) (.int .i64 0) := (kp _ (by omega)).trans h.t
  have z4 : BB w4 (w.heap.size + 1 + 1) zer := (kp _ (by omega)).trans h.z
  have od : Off (· = w.heap.size + 1) w4 (w4.setCell ⟨w.heap.size + 1, 0, none⟩ v') := (Off.refl _ w4).setCell _ rfl
  refine ⟨⟨t4.c0, t4.fz 0⟩, r4.setO (by omega), t4.set0 v', (od.block _ z4.lt (by show ¬ w.heap.size + 1 + 1 = w.heap.size + 1; omega)).trans z4, ownsRow_off ho od (fun k hk e => ?_), ?_, ?_⟩
  · have := (ho.lt k hk).1
    have e' : k = w.heap.size + 1 := e
    omega
  · exact (h.bel.trans (hb.mono (by omega))).setCell (p := ⟨w.heap.size + 1, 0, none⟩) (show w.heap.size ≤ w.heap.size + 1 by omega) _
  · have := hb.size
    have := od.size
    omega

set_option maxRecDepth 100000 in
set_option maxHeartbeats 4000000 in
theorem refNew03_bad (n : Int) (w : World) (hn : n < 1 ∨ 4096 < n) :
    Calls Try.prog 45 #[.int .i64 n] w fun e w' => e = .returned (.tuple #[.agg #[.slice none 0 0, .slice none 0 0, .bool false, .int .i64 0, .int .i64 0, .int .i64 0], .int .i64 2]) ∧ Below w.heap.size w w' := by
  have x2 := B6.new w (.slice none 0 0) (.slice none 0 0) (.bool false) (.int .i64 0) (.int .i64 0) (.int .i64 0)
  have hb := gr_alloc (gr_refl w) (.cells #[.slice none 0 0, .slice none 0 0, .bool false, .int .i64 0, .int .i64 0, .int .i64 0] 66)
  by_cases c1 : n < 1
  · have t1 : decide (n < 1) = true := decide_eq_true c1
    go_enter Try.func45, Try.ntmps45
    go_upto_region 1 with fail
    generalize w.alloc (.cells #[.slice none 0 0, .slice none 0 0, .bool false, .int .i64 0, .int .i64 0, .int .i64 0] 66) = w1 at *
    go_upto_region 2 with fail
    have r0 := x2.c0
    have r1 := x2.c1
    have r2 := x2.c2
    have r3 := x2.c3
    have r4 := x2.c4
    have r5 := x2.c5
    have f0 := x2.fz 0
    have f1 := x2.fz 1
    have f2 := x2.fz 2
    have f3 := x2.fz 3
    have f4 := x2.fz 4
    have f5 := x2.fz 5
    have HS := Lib.hid (set6o x2 (.slice none 0 0) (.slice none 0 0) (.bool false) (.int .i64 0) (.int .i64 0) (.int .i64 0) hb (by omega))
    go_wp2_with fail
    clear r0 f0 r1 f1 r2 f2 r3 f3 r4 f4 r5 f5
    obtain ⟨s1, s2, s3⟩ := HS.out _ rfl
    clear HS
    generalize ((((((w1.setCell ⟨w.heap.size, 0, none⟩ (.slice none 0 0)).setCell ⟨w.heap.size, 1, none⟩ (.slice none 0 0)).setCell ⟨w.heap.size, 2, none⟩ (.bool false)).setCell ⟨w.heap.size, 3, none⟩ (.int .i64 0)).setCell ⟨w.heap.size, 4, none⟩ (.int .i64 0)).setCell ⟨w.heap.size, 5, none⟩ (.int .i64 0)) = wf at *
    have z0 := s1.c0
    have z1 := s1.c1
    have z2 := s1.c2
    have z3 := s1.c3
    have z4 := s1.c4
    have z5 := s1.c5
    refine bodyPost_ret (v := .tuple #[.agg #[.slice none 0 0, .slice none 0 0, .bool false, .int .i64 0, .int .i64 0, .int .i64 0], .int .i64 (2)]) (by simp [results, Try.results45, go_sem, z0, z1, z2, z3, z4, z5]) rfl ?_
    exact ⟨rfl, s2⟩
  · have t1 : decide (n < 1) = false := decide_eq_false c1
    have t2 : decide (4096 < n) = true := decide_eq_true (by omega)
    go_enter Try.func45, Try.ntmps45
    go_upto_region 1 with fail
    generalize w.alloc (.cells #[.slice none 0 0, .slice none 0 0, .bool false, .int .i64 0, .int .i64 0, .int .i64 0] 66) = w1 at *
    go_upto_region 2 with fail
    have r0 := x2.c0
    have r1 := x2.c1
    have r2 := x2.c2
    have r3 := x2.c3
    have r4 := x2.c4
    have r5 := x2.c5
    have f0 := x2.fz 0
    have f1 := x2.fz 1
    have f2 := x2.fz 2
    have f3 := x2.fz 3
    have f4 := x2.fz 4
    have f5 := x2.fz 5
    have HS := Lib.hid (set6o x2 (.slice none 0 0) (.slice none 0 0) (.bool false) (.int .i64 0) (.int .i64 0) (.int .i64 0) hb (by omega))
    go_wp2_with fail
    clear r0 f0 r1 f1 r2 f2 r3 f3 r4 f4 r5 f5
    obtain ⟨s1, s2, s3⟩ := HS.out _ rfl
    clear HS
    generalize ((((((w1.setCell ⟨w.heap.size, 0, none⟩ (.slice none 0 0)).setCell ⟨w.heap.size, 1, none⟩ (.slice none 0 0)).setCell ⟨w.heap.size, 2, none⟩ (.bool false)).setCell ⟨w.heap.size, 3, none⟩ (.int .i64 0)).setCell ⟨w.heap.size, 4, none⟩ (.int .i64 0)).setCell ⟨w.heap.size, 5, none⟩ (.int .i64 0)) = wf at *
    have z0 := s1.c0
    have z1 := s1.c1
    have z2 := s1.c2
    have z3 := s1.c3
    have z4 := s1.c4
    have z5 := s1.c5
    refine bodyPost_ret (v := .tuple #[.agg #[.slice none 0 0, .slice none 0 0, .bool false, .int .i64 0, .int .i64 0, .int .i64 0], .int .i64 (2)]) (by simp [results, Try.results45, go_sem, z0, z1, z2, z3, z4, z5]) rfl ?_
    exact ⟨rfl, s2⟩

set_option maxRecDepth 100000 in
set_option maxHeartbeats 4000000 in
theorem refNew03_good (n : Nat) (w : World) (h1 : 1 ≤ n) (h2 : n ≤ 4096) :
    Calls Try.prog 45 #[.int .i64 (n : Int)] w fun e w' => ∃ v, e = .returned (.tuple #[v, .int .i64 0]) ∧ RK (plusG (fun _ => False) w w') w' v (newD n) ∧ Below w.heap.size w w' := by
  have t1 : decide ((n : Int) < 1) = false := decide_eq_false (by omega)
  have t2 : decide (4096 < (n : Int)) = false := decide_eq_false (by omega)
  obtain ⟨i0, hi0, hz0, hz1, hz2⟩ := info_parts info_lists
  have mk := run_mk_bytes 4096 (by omega) 4096 rfl
  have HS0 := Lib.hid (NI.start w)
  go_enter Try.func45, Try.ntmps45
  go_upto_region 5 with fail
  have HN0 := Lib.hid (HS0.out _ rfl)
  clear HS0 mk
  generalize ((w.alloc (.cells #[.slice none 0 0, .slice none 0 0, .bool false, .int .i64 0, .int .i64 0, .int .i64 0] 66)).alloc (.cells #[.slice none 0 0, .slice none 0 0, .bool false, .int .i64 (-1), .int .i64 (-1), .int .i64 0] 66)).alloc (.cells (zeroB 4096) 5) = w1 at *
  go_wp2_with fail
  go_loopw [6] (fun i wr => ∃ (j : Nat) (v : Value), j ≤ n ∧ i = .int .i64 (j : Int) ∧ Hid (NI w wr j v)) (fun i _ => n - (intOf i).toNat)
  case atStart => exact ⟨0, _, Nat.zero_le _, rfl, HN0⟩
  case round =>
    clear HN0
    obtain ⟨j, v, hj, rfl, HJ⟩ := hrel
    obtain ⟨Av, cv, rfl, hcv, hcv'⟩ := own_form HJ.out.row
    have y0 := HJ.out.t.c0
    by_cases hlt : j < n
    · have t3 : decide ((j : Int) < (n : Int)) = true := decide_eq_true (by omega)
      have t3' : decide (j < n) = true := decide_eq_true hlt
      have HZ5 := Lib.hid (Rd.new wr 33 #[zv (w.heap.size + 1 + 1)] 1 1 rfl)
      have HR5 := Lib.hid (ownsRow_off HJ.out.row (Off.of_below (S := fun _ => False) (gr_alloc (gr_refl wr) (.cells #[zv (w.heap.size + 1 + 1)] 33))) (fun _ _ h => h))
      have hsz := HJ.out.sz
      go_upto_region 7 with ((at_builtin); (refine wpList_append_Rd _ rfl (.tmp 22) (.tmp 24) _ rfl (w.heap.size + 3) 33 i0 _ 1 24 Try.underlying31 hi0 hz0 hz1 hz2 rfl (.slice Av j cv) j (List.replicate j (zv (w.heap.size + 1 + 1))) rfl HR5.out (some ⟨wr.heap.size, 0, none⟩) 1 1 [zv (w.heap.size + 1 + 1)] rfl HZ5.out (by simp [Value.oneCell', zv]) (by omega) (by simp only [maxLen]; omega) (by rw [World.size_alloc]; omega) ?_); (intro v4 w4 hown4 hg4 _ _); (have hst := HJ.out.step hg4 (by rw [List.replicate_succ']; exact hown4)); (obtain ⟨⟨c4, f4⟩, HN⟩ := hst); (have HN4 := Lib.hid HN); (obtain ⟨A4, c4', rfl, _, _⟩ := own_form hown4); (clear hown4 hg4 HN HZ5 HR5))
      clear c4 f4 y0
      generalize w4.setCell ⟨w.heap.size + 1, 0, none⟩ (.slice A4 (j + 1) c4') = w5 at *
      go_wp2_with fail
      go_roundw
      case rel => exact ⟨j + 1, _, by omega, by go_num, HN4⟩
      case measure => simp [intOf]; omega
    · obtain rfl : j = n := by omega
      have t3 : decide ((j : Int) < (j : Int)) = false := decide_eq_false (by omega)
      clear y0
      have hlw : w.heap.size < wr.heap.size := by have := HJ.out.sz; omega
      have x2 := HJ.out.r
      have hb := HJ.out.bel
      have x1 := HJ.out.t
      have y0 := x1.c0
      have y1 := x1.c1
      have y2 := x1.c2
      have y3 := x1.c3
      have y4 := x1.c4
      have y5 := x1.c5
      have r0 := x2.c0
      have r1 := x2.c1
      have r2 := x2.c2
      have r3 := x2.c3
      have r4 := x2.c4
      have r5 := x2.c5
      have f0 := x2.fz 0
      have f1 := x2.fz 1
      have f2 := x2.fz 2
      have f3 := x2.fz 3
      have f4 := x2.fz 4
      have f5 := x2.fz 5
      have HS := Lib.hid (set6o x2 (.slice Av j cv) (.slice none 0 0) (.bool false) (.int .i64 (-1)) (.int .i64 (-1)) (.int .i64 0) hb (by omega))
      go_wp2_with fail
      clear r0 f0 r1 f1 r2 f2 r3 f3 r4 f4 r5 f5
      obtain ⟨s1, s2, s3⟩ := HS.out _ rfl
      clear HS
      generalize ((((((wr.setCell ⟨w.heap.size, 0, none⟩ (.slice Av j cv)).setCell ⟨w.heap.size, 1, none⟩ (.slice none 0 0)).setCell ⟨w.heap.size, 2, none⟩ (.bool false)).setCell ⟨w.heap.size, 3, none⟩ (.int .i64 (-1))).setCell ⟨w.heap.size, 4, none⟩ (.int .i64 (-1))).setCell ⟨w.heap.size, 5, none⟩ (.int .i64 0)) = wf at *
      have z0 := s1.c0
      have z1 := s1.c1
      have z2 := s1.c2
      have z3 := s1.c3
      have z4 := s1.c4
      have z5 := s1.c5
      refine bodyPost_ret (v := .tuple #[.agg #[.slice Av j cv, .slice none 0 0, .bool false, .int .i64 (-1), .int .i64 (-1), .int .i64 0], .int .i64 (0)]) (by simp [results, Try.results45, go_sem, z0, z1, z2, z3, z4, z5]) rfl ?_
      refine ⟨_, rfl, ?_, s2⟩
      have hz := HJ.out.z
      have hrow := HJ.out.row
      have hz5 : BB wf (w.heap.size + 1 + 1) zer := (s3.block _ hz.lt (by show ¬ w.heap.size + 1 + 1 = w.heap.size; omega)).trans hz
      have hr5 := ownsRow_off hrow s3 (fun k hk e => by have := (hrow.lt k hk).1; have e2 : k = w.heap.size := e; omega)
      have hsw := s3.size
      refine ⟨Av, cv, none, 0, List.replicate j (zv (w.heap.size + 1 + 1)), [], by simp [newD], by simp [newD]; exact hcv, hcv', Nat.le_refl _, by simp [maxLen], ?_, ?_, ?_, ?_, rfl⟩
      · refine ⟨by simpa [newD] using Rd.of_own hr5, fun ad ea _ => ?_⟩
        obtain ⟨cur, fr, h3⟩ := own_at hr5 ea
        obtain ⟨g, c, e⟩ := own_plain hr5 (by omega)
        injection e with e _ _
        rw [ea] at e
        cases e
        exact .inr ⟨by have := (hr5.lt g (by rw [ea]; rfl)).1; show w.heap.size ≤ g; omega, (Array.getElem?_eq_some_iff.1 h3).1⟩
      · intro i u l hu hl
        have hu2 : u = zv (w.heap.size + 1 + 1) := (List.mem_replicate.1 (List.mem_of_getElem? hu)).2
        have hl2 : l = zer := (List.mem_replicate.1 (List.mem_of_getElem? (show (List.replicate j zer)[i]? = some l from hl))).2
        subst hu2 hl2
        have hr := hz5.readsAll
        rw [zer_len] at hr
        exact ⟨zer_len, some ⟨w.heap.size + 1 + 1, 0, none⟩, 4096, rfl, hr, fun ad e => by cases e; exact .inr ⟨by show w.heap.size ≤ w.heap.size + 1 + 1; omega, hz5.lt⟩, Nat.le_refl _, by simp [maxLen]⟩
      · exact ⟨⟨rfl, fun h => absurd h (by simp [newD])⟩, fun _ e => by cases e⟩
      · intro i q p h
        simp at h

end Go.Proofs.Ytjopobkcijkpmaa
