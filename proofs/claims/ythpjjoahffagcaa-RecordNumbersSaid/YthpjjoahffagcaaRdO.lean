/-
  chancerylow.SameRecords of two rows that read the same.
-/
import Derived.Test.YthpjjoahffagcaaRdN
namespace Go.Proofs.Ythpjjoahffagcaa
open Go.RowKit

theorem rec_mem {rs : List Rec} {k : Nat} (hk : k < rs.length) : rs.getD k rec0 ∈ rs := by
  have : rs[k] = rs.getD k rec0 := by simp [List.getD, List.getElem?_eq_getElem hk]
  rw [← this]
  exact List.getElem_mem _

set_option maxRecDepth 100000 in
set_option maxHeartbeats 2000000 in
theorem SameRecords_eq (A B : Option Addr) (n c d : Nat) (rs : List Rec) (w : World) (ha : RW w A n rs) (hb : RW w B n rs) (hn : n ≤ 4398046511104) (hp : ∀ r ∈ rs, r.cs.length ≤ 9223372036854775807 ∧ ∀ c ∈ r.cs, c.2.2.length ≤ 9223372036854775807) :
    Calls Try.prog 21 #[.slice A n c, .slice B n d] w fun e w' => e = .returned (.bool true) ∧ Below w.heap.size w w' := by
  have HP := Lib.hid hp
  have PA := Lib.hid ha
  have PB := Lib.hid hb
  have HL := Lib.hid ha.len
  have t0 : ((n : Int) != (n : Int)) = false := by simp
  clear ha hb hp
  go_enter Try.func21, Try.ntmps21
  go_wp2_with fail
  go_loopw [5] (fun i wr => ∃ k : Nat, k ≤ n ∧ i = .int .i64 k ∧ Hid (Below w.heap.size w wr)) (fun i _ => n - (intOf i).toNat)
  case atStart => exact ⟨0, Nat.zero_le _, rfl, Lib.hid (gr_refl _)⟩
  case round =>
    obtain ⟨k, hk, rfl, HW⟩ := hrel
    by_cases hlt : k < n
    · have t1 : decide ((k : Int) < (n : Int)) = true := decide_eq_true (by omega)
      have t2 : decide (k < n) = true := decide_eq_true hlt
      have j0 : (0 : Int) ≤ (k : Int) := Int.natCast_nonneg _
      have j1 : (k : Int) < (n : Int) := by omega
      obtain ⟨gp, op, Dp, dp, rfl, q0, q1, q2, q3, _, _⟩ := (PA.out.below HW.out).at_ (i := k) hlt
      obtain ⟨gr, ro, Dr, dr, rfl, r0, r1, r2, r3, _, _⟩ := (PB.out.below HW.out).at_ (i := k) hlt
      have hpk := HP.out (rs.getD k rec0) (rec_mem (by rw [HL.out]; exact hlt))
      generalize rs.getD k rec0 = x at *
      obtain ⟨xk, xt, xc⟩ := x
      dsimp only at q0 q1 q2 q3 r0 r1 r2 r3 hpk
      have QC := Lib.hid (And.intro q0 (And.intro q1 q2))
      have RC := Lib.hid (And.intro r0 (And.intro r1 r2))
      have CQ := Lib.hid q3
      have CP := Lib.hid r3
      have HPK := Lib.hid hpk
      clear q0 q1 q2 q3 r0 r1 r2 r3 hpk
      go_wp2_with fail
      refine' wp_region_mono (by kernel_rfl) (by kernel_rfl) (by kernel_rfl) (by kernel_rfl) (by kernel_rfl) (by kernel_rfl)
        [MP.is (.slice (some ⟨gp, op, none⟩) n c), MP.is (.int .i64 (k : Int)), MP.is (.pointer (some ⟨gp, op + k * 3, none⟩)), MP.is (.agg #[.int .u8 (xk : Int), .int .i64 xt, .slice Dp xc.length dp]), MP.is (.slice (some ⟨gr, ro, none⟩) n d), MP.is (.int .i64 (k : Int)), MP.is (.pointer (some ⟨gr, ro + k * 3, none⟩)), MP.is (.agg #[.int .u8 (xk : Int), .int .i64 xt, .slice Dr xc.length dr]), MP.is (.bool true), MP.is (.bool false)] ?hAA ?hst ?hend
      case hAA =>
        intro f
        simp only [putA, dstOf, List.size_toArray, List.length_cons, List.length_nil, Nat.zero_add, Nat.reduceAdd, List.getElem?_toArray, List.getElem?_cons_zero, List.getElem?_cons_succ, Option.bind_some, Act.put, List.setIfInBounds_toArray, List.set_cons_zero, List.set_cons_succ]
        exact rfl
      case hst =>
        change Steps _ _ _ _ _ [0, 1, 2, 3, 4, 5, 6, 7, 8, 9]
        refine Steps.cons rfl ?_ ?_
        · intro f w hB h K Q hK
          try simp only [List.getElem_toArray, List.getElem_cons_zero]
          go_simp
          exact hK _ _ (gr_refl _) rfl
        refine Steps.cons rfl ?_ ?_
        · intro f w hB h K Q hK
          try simp only [List.getElem_toArray, List.getElem_cons_succ, List.getElem_cons_zero]
          go_simp
          exact hK _ _ (gr_refl _) rfl
        refine Steps.cons rfl ?_ ?_
        · intro f w hB h K Q hK
          have h0 : (MP.is (.slice (some ⟨gp, op, none⟩) n c)).p (f 0) w := h 0 (by kernel_rfl)
          have e0 : f 0 = (.slice (some ⟨gp, op, none⟩) n c) := h0
          have h1 : (MP.is (.int .i64 (k : Int))).p (f 1) w := h 1 (by kernel_rfl)
          have e1 : f 1 = (.int .i64 (k : Int)) := h1
          simp only [e0, e1] at hK ⊢
          clear e0 e1
          try simp only [List.getElem_toArray, List.getElem_cons_succ, List.getElem_cons_zero]
          go_simp
          exact hK _ _ (gr_refl _) rfl
        refine Steps.cons rfl ?_ ?_
        · intro f w hB h K Q hK
          have h2 : (MP.is (.pointer (some ⟨gp, op + k * 3, none⟩))).p (f 2) w := h 2 (by kernel_rfl)
          have e2 : f 2 = (.pointer (some ⟨gp, op + k * 3, none⟩)) := h2
          simp only [e2] at hK ⊢
          clear e2
          try simp only [List.getElem_toArray, List.getElem_cons_succ, List.getElem_cons_zero]
          have y0 := keep_of_below (bel_drew hB) QC.out.1
          have y1 := keep_of_below (bel_drew hB) QC.out.2.1
          have y2 := keep_of_below (bel_drew hB) QC.out.2.2
          go_simp
          exact hK _ _ (gr_refl _) rfl
        refine Steps.cons rfl ?_ ?_
        · intro f w hB h K Q hK
          try simp only [List.getElem_toArray, List.getElem_cons_succ, List.getElem_cons_zero]
          go_simp
          exact hK _ _ (gr_refl _) rfl
        refine Steps.cons rfl ?_ ?_
        · intro f w hB h K Q hK
          try simp only [List.getElem_toArray, List.getElem_cons_succ, List.getElem_cons_zero]
          go_simp
          exact hK _ _ (gr_refl _) rfl
        refine Steps.cons rfl ?_ ?_
        · intro f w hB h K Q hK
          have h4 : (MP.is (.slice (some ⟨gr, ro, none⟩) n d)).p (f 4) w := h 4 (by kernel_rfl)
          have e4 : f 4 = (.slice (some ⟨gr, ro, none⟩) n d) := h4
          have h5 : (MP.is (.int .i64 (k : Int))).p (f 5) w := h 5 (by kernel_rfl)
          have e5 : f 5 = (.int .i64 (k : Int)) := h5
          simp only [e4, e5] at hK ⊢
          clear e4 e5
          try simp only [List.getElem_toArray, List.getElem_cons_succ, List.getElem_cons_zero]
          go_simp
          exact hK _ _ (gr_refl _) rfl
        refine Steps.cons rfl ?_ ?_
        · intro f w hB h K Q hK
          have h6 : (MP.is (.pointer (some ⟨gr, ro + k * 3, none⟩))).p (f 6) w := h 6 (by kernel_rfl)
          have e6 : f 6 = (.pointer (some ⟨gr, ro + k * 3, none⟩)) := h6
          simp only [e6] at hK ⊢
          clear e6
          try simp only [List.getElem_toArray, List.getElem_cons_succ, List.getElem_cons_zero]
          have y0 := keep_of_below (bel_drew hB) RC.out.1
          have y1 := keep_of_below (bel_drew hB) RC.out.2.1
          have y2 := keep_of_below (bel_drew hB) RC.out.2.2
          go_simp
          exact hK _ _ (gr_refl _) rfl
        refine Steps.cons rfl ?_ ?_
        · intro f w hB h K Q hK
          have h3 : (MP.is (.agg #[.int .u8 (xk : Int), .int .i64 xt, .slice Dp xc.length dp])).p (f 3) w := h 3 (by kernel_rfl)
          have e3 : f 3 = (.agg #[.int .u8 (xk : Int), .int .i64 xt, .slice Dp xc.length dp]) := h3
          have h7 : (MP.is (.agg #[.int .u8 (xk : Int), .int .i64 xt, .slice Dr xc.length dr])).p (f 7) w := h 7 (by kernel_rfl)
          have e7 : f 7 = (.agg #[.int .u8 (xk : Int), .int .i64 xt, .slice Dr xc.length dr]) := h7
          simp only [e3, e7] at hK ⊢
          clear e3 e7
          try simp only [List.getElem_toArray, List.getElem_cons_succ, List.getElem_cons_zero]
          go_simp
          refine (SameRecord_any xk xk xt xt Dp Dr _ _ dp dr xc xc _ (CQ.out.below (bel_drew hB)) (CP.out.below (bel_drew hB)) HPK.out.1 HPK.out.1 HPK.out.2 HPK.out.2).mono ?_
          rw [show decide ((xk : Int) = (xk : Int) ∧ xt = xt ∧ xc = xc) = true from decide_eq_true ⟨rfl, rfl, rfl⟩]
          rintro e w1 ⟨rfl, hb1⟩
          exact hK _ _ hb1 rfl
        refine Steps.cons rfl ?_ ?_
        · intro f w hB h K Q hK
          have h8 : (MP.is (.bool true)).p (f 8) w := h 8 (by kernel_rfl)
          have e8 : f 8 = (.bool true) := h8
          simp only [e8] at hK ⊢
          clear e8
          try simp only [List.getElem_toArray, List.getElem_cons_succ, List.getElem_cons_zero]
          go_simp
          exact hK _ _ (gr_refl _) rfl
        exact Steps.nil
      case hend =>
        intro f w2 hB2 hR
        have HW2 := Lib.hid (gr_trans HW.out (bel_drew hB2))
        have e0 : f 0 = (.slice (some ⟨gp, op, none⟩) n c) := hR 0 (by decide)
        have e1 : f 1 = (.int .i64 (k : Int)) := hR 1 (by decide)
        have e2 : f 2 = (.pointer (some ⟨gp, op + k * 3, none⟩)) := hR 2 (by decide)
        have e3 : f 3 = (.agg #[.int .u8 (xk : Int), .int .i64 xt, .slice Dp xc.length dp]) := hR 3 (by decide)
        have e4 : f 4 = (.slice (some ⟨gr, ro, none⟩) n d) := hR 4 (by decide)
        have e5 : f 5 = (.int .i64 (k : Int)) := hR 5 (by decide)
        have e6 : f 6 = (.pointer (some ⟨gr, ro + k * 3, none⟩)) := hR 6 (by decide)
        have e7 : f 7 = (.agg #[.int .u8 (xk : Int), .int .i64 xt, .slice Dr xc.length dr]) := hR 7 (by decide)
        have e8 : f 8 = (.bool true) := hR 8 (by decide)
        have e9 : f 9 = (.bool false) := hR 9 (by decide)
        simp only [e0, e1, e2, e3, e4, e5, e6, e7, e8, e9]
        clear e0 e1 e2 e3 e4 e5 e6 e7 e8 e9 hR
        go_wp2_with fail
        go_roundw
        all_goals have hlt := of_decide_eq_true t2
        case rel => exact ⟨k + 1, by omega, by go_num, HW2⟩
        case measure => simp [intOf]; omega
    · have t1 : decide ((k : Int) < (n : Int)) = false := decide_eq_false (by omega)
      have t2 : decide (k < n) = false := decide_eq_false hlt
      go_wp2
      go_ret
      exact ⟨rfl, HW.out⟩

end Go.Proofs.Ythpjjoahffagcaa
