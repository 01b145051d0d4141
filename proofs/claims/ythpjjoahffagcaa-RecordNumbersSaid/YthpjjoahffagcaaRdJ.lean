/-
  chancerylow.SameRecord; the chapter's records.
-/
import Derived.Test.YthpjjoahffagcaaRdI
namespace Go.Proofs.Ythpjjoahffagcaa
open Go.RowKit

set_option maxRecDepth 100000 in
set_option maxHeartbeats 4000000 in
theorem SameRecord_any (k k' tx tx' : Int) (A B : Option Addr) (n m c d : Nat) (cs ds : List Ch) (w : World) (ha : CR w A n cs) (hb : CR w B m ds) (hn : n ≤ 9223372036854775807) (hm : m ≤ 9223372036854775807) (hpa : ∀ c ∈ cs, c.2.2.length ≤ 9223372036854775807) (hpb : ∀ c ∈ ds, c.2.2.length ≤ 9223372036854775807) :
    Calls Try.prog 20 #[.agg #[.int .u8 k, .int .i64 tx, .slice A n c], .agg #[.int .u8 k', .int .i64 tx', .slice B m d]] w fun e w' => e = .returned (.bool (decide (k = k' ∧ tx = tx' ∧ cs = ds))) ∧ Below w.heap.size w w' := by
  have hB1 := gr_alloc (gr_refl w) (.cells #[.int .u8 k, .int .i64 tx, .slice A n c] 38)
  have hB2 := gr_alloc hB1 (.cells #[.int .u8 k', .int .i64 tx', .slice B m d] 38)
  have x1 := (B3.new w (.int .u8 k) (.int .i64 tx) (.slice A n c) (t := 38) (by decide)).nb (NB.below (gr_alloc (gr_refl _) (.cells #[.int .u8 k', .int .i64 tx', .slice B m d] 38)))
  have x2 := B3.new (w.alloc (.cells #[.int .u8 k, .int .i64 tx, .slice A n c] 38)) (.int .u8 k') (.int .i64 tx') (.slice B m d) (t := 38) (by decide)
  have hsz : (w.alloc (.cells #[.int .u8 k, .int .i64 tx, .slice A n c] 38)).heap.size = w.heap.size + 1 := World.size_alloc _ _
  rw [hsz] at x2
  have X1 := Lib.hid x1
  have X2 := Lib.hid x2
  have HB := Lib.hid hB2
  have HA := Lib.hid ha.len
  have HM := Lib.hid hb.len
  have HPA := Lib.hid hpa
  have HPB := Lib.hid hpb
  have PA := Lib.hid (ha.below hB2)
  have PB := Lib.hid (hb.below hB2)
  clear ha hb hB1 hB2 hpa hpb hsz x1 x2
  by_cases hh : k = k' ∧ tx = tx' ∧ n = m
  · obtain ⟨h1, h2, h3⟩ := hh
    subst h1 h2 h3
    have t1 : (k != k) = false := by simp
    have t2 : (tx != tx) = false := by simp
    have t3 : ((n : Int) != (n : Int)) = false := by simp
    go_enter Try.func20, Try.ntmps20
    go_wp2_with fail
    go_loopw [5, 6, 7] (fun i _ _ wr => ∃ j : Nat, j ≤ n ∧ i = .int .i64 j ∧ Hid (cs.take j = ds.take j) ∧ Hid (Below ((w.alloc (.cells #[.int .u8 k, .int .i64 tx, .slice A n c] 38)).alloc (.cells #[.int .u8 k, .int .i64 tx, .slice B n d] 38)).heap.size ((w.alloc (.cells #[.int .u8 k, .int .i64 tx, .slice A n c] 38)).alloc (.cells #[.int .u8 k, .int .i64 tx, .slice B n d] 38)) wr)) (fun i _ _ _ => n - (intOf i).toNat)
    case atStart => exact ⟨0, Nat.zero_le _, rfl, Lib.hid rfl, Lib.hid (gr_refl _)⟩
    case round =>
      obtain ⟨j, hj, rfl, HT, HW⟩ := hrel
      by_cases hlt : j < n
      · have u1 : decide ((j : Int) < (n : Int)) = true := decide_eq_true (by omega)
        have u2 : decide (j < n) = true := decide_eq_true hlt
        have j0 : (0 : Int) ≤ (j : Int) := Int.natCast_nonneg _
        have j1 : (j : Int) < (n : Int) := by omega
        have c1 := (X1.out.nb (NB.below HW.out)).c2
        have c2 := (X2.out.nb (NB.below HW.out)).c2
        obtain ⟨gp, op, Bp, cp, Dp, dp, rfl, q0, q1, q2, q3, q4, q5, q6, q7, q8⟩ := (PA.out.below HW.out).at_ (i := j) hlt
        obtain ⟨gr, ro, Br, cr, Dr, dr, rfl, r0, r1, r2, r3, r4, r5, r6, r7, r8⟩ := (PB.out.below HW.out).at_ (i := j) hlt
        have HP := Lib.hid (take_next (z := ch0) (by rw [HA.out]; exact hlt) (by rw [HM.out]; exact hlt) HT.out)
        have hpk := HPA.out (cs.getD j ch0) (ch_mem (by rw [HA.out]; exact hlt))
        have hqk := HPB.out (ds.getD j ch0) (ch_mem (by rw [HM.out]; exact hlt))
        obtain ⟨x, hx⟩ : ∃ x, cs.getD j ch0 = x := ⟨_, rfl⟩
        obtain ⟨y, hy⟩ : ∃ y, ds.getD j ch0 = y := ⟨_, rfl⟩
        rw [hx] at q0 q1 q2 q3 q6 HP hpk
        rw [hy] at r0 r1 r2 r3 r6 HP hqk
        obtain ⟨pa, pb, pp⟩ := x
        obtain ⟨ra, rb, rp⟩ := y
        dsimp only at q0 q1 q2 q3 q6 r0 r1 r2 r3 r6 hpk hqk
        clear hx hy q4 q5 q7 q8 r4 r5 r7 r8 hlt
        have Q3 := Lib.hid q3
        have Q6 := Lib.hid q6
        have R3 := Lib.hid r3
        have R6 := Lib.hid r6
        clear q3 q6 r3 r6
        have q2' : wr.cell? ⟨gp, op + j * 3 + 2, none⟩ = some (.slice Dp pp.length dp) := q2
        have r2' : wr.cell? ⟨gr, ro + j * 3 + 2, none⟩ = some (.slice Dr rp.length dr) := r2
        have n1 := World.new_ne wr _ c1
        have n2 := World.new_ne wr _ c2
        have n3 := World.new_ne wr _ q0
        have n4 := World.new_ne wr _ r0
        have hbz : ∀ o1 o2, Below wr.heap.size wr (((wr.alloc o1).alloc o2).drew) := fun o1 o2 => gr_drewN (gr_alloc (gr_alloc (gr_refl wr) o1) o2) 1
        have hbq : ∀ o1 o2 (q : Nat), Below wr.heap.size wr (((wr.alloc o1).alloc o2).drewN q) := fun o1 o2 q => gr_drewN (gr_alloc (gr_alloc (gr_refl wr) o1) o2) q
        by_cases h1 : pa = ra
        · subst h1
          have t4 : (pa != pa) = false := by simp
          by_cases h2 : pb = rb
          · subst h2
            have t5 : (pb == pb) = true := by simp
            by_cases h3 : pp = rp
            · subst h3
              have HT2 : Hid (cs.take (j + 1) = ds.take (j + 1)) := Lib.hid (HP.out.2 rfl)
              have t6 : samePcs pp pp = true := by unfold samePcs; simp
              clear HP HT
              skip
              go_wp2_with fail
              go_region_held3 (fun W => W.cell? ⟨w.heap.size, 2, none⟩ = some (.slice (some ⟨gp, op, none⟩) n c) ∧ W.cell? ⟨w.heap.size + 1, 2, none⟩ = some (.slice (some ⟨gr, ro, none⟩) n d) ∧ W.cell? ⟨gp, op + j * 3, none⟩ = some (.int .i64 pa) ∧ W.cell? ⟨gp, op + j * 3 + 1, none⟩ = some (.slice Bp pb.length cp) ∧ W.cell? ⟨gp, op + j * 3 + 2, none⟩ = some (.slice Dp pp.length dp) ∧ W.cell? ⟨gr, ro + j * 3, none⟩ = some (.int .i64 pa) ∧ W.cell? ⟨gr, ro + j * 3 + 1, none⟩ = some (.slice Br pb.length cr) ∧ W.cell? ⟨gr, ro + j * 3 + 2, none⟩ = some (.slice Dr pp.length dr))
                (first | exact ⟨c1, c2, q0, q1, q2', r0, r1, r2'⟩ | go_keep)
                (fail)
              all_goals
                go_wp2_with fail
                refine (SameBytes_any Bp Br _ _ cp cr pb pb _ (Q3.out.below (hbz _ _)) (R3.out.below (hbz _ _))).mono ?_
                rintro e w' ⟨rfl, rfl⟩
                go_wp2_with fail
                refine (SamePieces_any Dp Dr _ _ dp dr pp pp _ (Q6.out.below (hbz _ _)) (R6.out.below (hbz _ _)) hpk hqk).mono ?_
                rintro e w' ⟨rfl, qd, rfl⟩
                rw [t6]
                go_wp2_with fail
                go_roundw
                case rel => exact ⟨j + 1, by omega, by go_num, HT2, Lib.hid (gr_trans HW.out (hbq _ _ _))⟩
                case measure => simp [intOf]; omega
            · have t6 : samePcs pp rp = false := by unfold samePcs; exact decide_eq_false h3
              have HN : Hid (cs ≠ ds) := Lib.hid (take_part (fun h => h3 (by have := HP.out.1 h; injection this with _ b; injection b)))
              clear HP HT h3
              skip
              go_wp2_with fail
              go_region_held3 (fun W => W.cell? ⟨w.heap.size, 2, none⟩ = some (.slice (some ⟨gp, op, none⟩) n c) ∧ W.cell? ⟨w.heap.size + 1, 2, none⟩ = some (.slice (some ⟨gr, ro, none⟩) n d) ∧ W.cell? ⟨gp, op + j * 3, none⟩ = some (.int .i64 pa) ∧ W.cell? ⟨gp, op + j * 3 + 1, none⟩ = some (.slice Bp pb.length cp) ∧ W.cell? ⟨gp, op + j * 3 + 2, none⟩ = some (.slice Dp pp.length dp) ∧ W.cell? ⟨gr, ro + j * 3, none⟩ = some (.int .i64 pa) ∧ W.cell? ⟨gr, ro + j * 3 + 1, none⟩ = some (.slice Br pb.length cr) ∧ W.cell? ⟨gr, ro + j * 3 + 2, none⟩ = some (.slice Dr rp.length dr))
                (first | exact ⟨c1, c2, q0, q1, q2', r0, r1, r2'⟩ | go_keep)
                (fail)
              all_goals
                go_wp2_with fail
                refine (SameBytes_any Bp Br _ _ cp cr pb pb _ (Q3.out.below (hbz _ _)) (R3.out.below (hbz _ _))).mono ?_
                rintro e w' ⟨rfl, rfl⟩
                go_wp2_with fail
                refine (SamePieces_any Dp Dr _ _ dp dr pp rp _ (Q6.out.below (hbz _ _)) (R6.out.below (hbz _ _)) hpk hqk).mono ?_
                rintro e w' ⟨rfl, qd, rfl⟩
                rw [t6]
                go_wp2_with fail
                go_ret
                refine ⟨?_, gr_trans HB.out (gr_trans HW.out (hbq _ _ _))⟩
                rw [decide_eq_false (fun h => HN.out h.2.2)]
                rfl
          · have t5 : (pb == rb) = false := beq_eq_false_iff_ne.2 h2
            have HN : Hid (cs ≠ ds) := Lib.hid (take_part (fun h => h2 (by have := HP.out.1 h; injection this with _ b; injection b)))
            clear HP HT h2
            skip
            go_wp2_with fail
            go_region_held3 (fun W => W.cell? ⟨w.heap.size, 2, none⟩ = some (.slice (some ⟨gp, op, none⟩) n c) ∧ W.cell? ⟨w.heap.size + 1, 2, none⟩ = some (.slice (some ⟨gr, ro, none⟩) n d) ∧ W.cell? ⟨gp, op + j * 3, none⟩ = some (.int .i64 pa) ∧ W.cell? ⟨gp, op + j * 3 + 1, none⟩ = some (.slice Bp pb.length cp) ∧ W.cell? ⟨gp, op + j * 3 + 2, none⟩ = some (.slice Dp pp.length dp) ∧ W.cell? ⟨gr, ro + j * 3, none⟩ = some (.int .i64 pa) ∧ W.cell? ⟨gr, ro + j * 3 + 1, none⟩ = some (.slice Br rb.length cr) ∧ W.cell? ⟨gr, ro + j * 3 + 2, none⟩ = some (.slice Dr rp.length dr))
              (first | exact ⟨c1, c2, q0, q1, q2', r0, r1, r2'⟩ | go_keep)
              (fail)
            all_goals
              go_wp2_with fail
              refine (SameBytes_any Bp Br _ _ cp cr pb rb _ (Q3.out.below (hbz _ _)) (R3.out.below (hbz _ _))).mono ?_
              rintro e w' ⟨rfl, rfl⟩
              go_wp2_with fail
              go_ret
              refine ⟨?_, gr_trans HB.out (gr_trans HW.out (hbz _ _))⟩
              rw [decide_eq_false (fun h => HN.out h.2.2)]
              rfl
        · have t4 : (pa != ra) = true := by simp; exact h1
          have HN : Hid (cs ≠ ds) := Lib.hid (take_part (fun h => h1 (by have := HP.out.1 h; injection this)))
          clear HP HT h1
          skip
          go_wp2_with fail
          go_region_held3 (fun W => W.cell? ⟨w.heap.size, 2, none⟩ = some (.slice (some ⟨gp, op, none⟩) n c) ∧ W.cell? ⟨w.heap.size + 1, 2, none⟩ = some (.slice (some ⟨gr, ro, none⟩) n d) ∧ W.cell? ⟨gp, op + j * 3, none⟩ = some (.int .i64 pa) ∧ W.cell? ⟨gp, op + j * 3 + 1, none⟩ = some (.slice Bp pb.length cp) ∧ W.cell? ⟨gp, op + j * 3 + 2, none⟩ = some (.slice Dp pp.length dp) ∧ W.cell? ⟨gr, ro + j * 3, none⟩ = some (.int .i64 ra) ∧ W.cell? ⟨gr, ro + j * 3 + 1, none⟩ = some (.slice Br rb.length cr) ∧ W.cell? ⟨gr, ro + j * 3 + 2, none⟩ = some (.slice Dr rp.length dr))
            (first | exact ⟨c1, c2, q0, q1, q2', r0, r1, r2'⟩ | go_keep)
            (fail)
          all_goals
            go_wp2_with fail
            go_ret
            refine ⟨?_, gr_trans HB.out (gr_trans HW.out (hbz _ _))⟩
            rw [decide_eq_false (fun h => HN.out h.2.2)]
            rfl
      · obtain rfl : n = j := by omega
        have u1 : decide ((n : Int) < (n : Int)) = false := decide_eq_false (by omega)
        have u2 : decide (n < n) = false := decide_eq_false (by omega)
        have c1 := (X1.out.nb (NB.below HW.out)).c2
        have HN : Hid (cs = ds) := Lib.hid (by
          have h := HT.out
          rwa [List.take_of_length_le (Nat.le_of_eq HA.out), List.take_of_length_le (Nat.le_of_eq HM.out)] at h)
        clear HT
        go_wp2_with fail
        go_ret
        refine ⟨?_, gr_trans HB.out HW.out⟩
        rw [decide_eq_true ⟨by simp, by simp, HN.out⟩]
        rfl
  · have HN : Hid (¬ (k = k' ∧ tx = tx' ∧ cs = ds)) := Lib.hid (fun h => hh ⟨h.1, h.2.1, by rw [← HA.out, ← HM.out, h.2.2]⟩)
    have hw : (k != k') = true ∨ ((k != k') = false ∧ ((tx != tx') = true ∨ ((tx != tx') = false ∧ ((n : Int) != (m : Int)) = true))) := by
      by_cases h1 : k = k'
      · subst h1
        by_cases h2 : tx = tx'
        · subst h2
          exact .inr ⟨by simp, .inr ⟨by simp, by simp; exact fun e => hh ⟨rfl, rfl, by omega⟩⟩⟩
        · exact .inr ⟨by simp, .inl (by simp; exact h2)⟩
      · exact .inl (by simp; exact h1)
    clear hh
    rcases hw with t1 | ⟨t1, t2 | ⟨t2, t3⟩⟩
    all_goals
      go_enter Try.func20, Try.ntmps20
      go_wp2_with fail
      go_ret
      refine ⟨?_, HB.out⟩
      rw [decide_eq_false HN.out]
      rfl

end Go.Proofs.Ythpjjoahffagcaa
