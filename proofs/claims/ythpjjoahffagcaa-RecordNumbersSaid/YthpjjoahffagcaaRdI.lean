/-
  record.Same.
-/
import Derived.Test.YthpjjoahffagcaaRdH
import Derived.Test.YthpjjoahffagcaaDfE
namespace Go.Proofs.Ythpjjoahffagcaa
open Go.RowKit

theorem Equal_any (A B : Option Addr) (n m c d : Nat) (a b : List UInt8) (w : World) (ha : BR w A n a) (hb : BR w B m b) :
    Calls Try.prog 64 #[.slice A n c, .slice B m d] w fun e w' => e = .returned (.bool (a == b)) ∧ w = w' := by
  have h1 := run_str ha Try.underlying26 Try.underlying5 Try.underlying9 c
  have h2 := run_str hb Try.underlying26 Try.underlying5 Try.underlying9 d
  go_enter Try.func64, Try.ntmps64
  go_wp2
  go_ret
  exact ⟨rfl, rfl⟩

theorem beq_dec {l r : List UInt8} : (l == r) = decide (l = r) := by rw [Bool.eq_iff_iff]; simp
theorem take_next {α : Type} {ps qs : List α} {k : Nat} {z : α} (h1 : k < ps.length) (h2 : k < qs.length) (h : ps.take k = qs.take k) : ps.take (k + 1) = qs.take (k + 1) ↔ ps.getD k z = qs.getD k z := by
  have e1 : ps[k] = ps.getD k z := by simp [List.getD, List.getElem?_eq_getElem h1]
  have e2 : qs[k] = qs.getD k z := by simp [List.getD, List.getElem?_eq_getElem h2]
  rw [List.take_succ_eq_append_getElem h1, List.take_succ_eq_append_getElem h2, h, e1, e2]
  constructor
  · intro e
    have := List.append_cancel_left e
    injection this
  · intro e; rw [e]
theorem take_part {α : Type} {ps qs : List α} {k : Nat} (h : ¬ ps.take (k + 1) = qs.take (k + 1)) : ps ≠ qs := by
  rintro rfl
  exact h rfl

set_option maxRecDepth 100000 in
set_option maxHeartbeats 1000000 in
theorem samePiece_any (pa pb : Int) (A B : Option Addr) (n m c d : Nat) (l r : List UInt8) (w : World) (ha : BR w A n l) (hb : BR w B m r) :
    Calls Try.prog 66 #[.agg #[.int .i64 pa, .slice A n c], .agg #[.int .i64 pb, .slice B m d]] w fun e w' => e = .returned (.bool (decide (pa = pb ∧ l = r))) ∧ Below w.heap.size w w' := by
  have hB1 := gr_alloc (gr_refl w) (.cells #[.int .i64 pa, .slice A n c] 29)
  have hB2 := gr_alloc hB1 (.cells #[.int .i64 pb, .slice B m d] 29)
  have HX := Lib.hid (Equal_any A B n m c d l r _ (ha.below hB2) (hb.below hB2))
  have HB := Lib.hid hB2
  clear ha hb hB1 hB2
  by_cases h1 : pa = pb
  · subst h1
    have t1 : (pa == pa) = true := by simp
    go_enter Try.func66, Try.ntmps66
    go_wp2_with fail
    refine HX.out.mono ?_
    rintro e w' ⟨rfl, rfl⟩
    go_wp2_with fail
    go_ret
    exact ⟨ret_b (by rw [beq_dec]; simp), HB.out⟩
  · have t1 : (pa == pb) = false := beq_eq_false_iff_ne.2 h1
    have H1 := Lib.hid h1
    clear h1
    go_enter Try.func66, Try.ntmps66
    go_wp2_with fail
    go_ret
    exact ⟨by simp [H1.out], HB.out⟩

set_option maxRecDepth 100000 in
set_option maxHeartbeats 2000000 in
theorem EqPieces_any (A B : Option Addr) (n m c d : Nat) (ps qs : List Pc) (w : World) (ha : PR w A n ps) (hb : PR w B m qs) (hn : n ≤ 9223372036854775807) (hm : m ≤ 9223372036854775807) :
    Calls Try.prog 65 #[.slice A n c, .slice B m d, .func (.func 66) #[] #[]] w fun e w' => e = .returned (.bool (decide (ps = qs))) ∧ Below w.heap.size w w' := by
  have HA := Lib.hid ha.len
  have HB := Lib.hid hb.len
  by_cases hnm : n = m
  · subst hnm
    have t0 : ((n : Int) != (n : Int)) = false := by simp
    have PA := Lib.hid ha
    have PB := Lib.hid hb
    clear ha hb
    go_enter Try.func65, Try.ntmps65
    go_wp2_with fail
    go_loopw [7, 8, 9, 17] (fun _ _ _ i wr => ∃ k : Nat, k ≤ n ∧ i = .int .i64 k ∧ Hid (ps.take k = qs.take k) ∧ Hid (Below w.heap.size w wr)) (fun _ _ _ i _ => n - (intOf i).toNat)
    case atStart => exact ⟨0, Nat.zero_le _, rfl, Lib.hid rfl, Lib.hid (gr_refl _)⟩
    case round =>
      obtain ⟨k, hk, rfl, HT, HW⟩ := hrel
      by_cases hlt : k < n
      · have t1 : decide ((k : Int) < (n : Int)) = true := decide_eq_true (by omega)
        have t2 : decide (k < n) = true := decide_eq_true hlt
        have j0 : (0 : Int) ≤ (k : Int) := Int.natCast_nonneg _
        have j1 : (k : Int) < (n : Int) := by omega
        obtain ⟨gp, op, Bp, cp, rfl, q1, q2, q3, q4, q5⟩ := (PA.out.below HW.out).at_ (i := k) hlt
        obtain ⟨gr, ro, Br, cr, rfl, r1, r2, r3, r4, r5⟩ := (PB.out.below HW.out).at_ (i := k) hlt
        have HP := Lib.hid (take_next (z := (0, [])) (by rw [HA.out]; exact hlt) (by rw [HB.out]; exact hlt) HT.out)
        
        obtain ⟨x, hx⟩ : ∃ x, ps.getD k (0, []) = x := ⟨_, rfl⟩
        obtain ⟨y, hy⟩ : ∃ y, qs.getD k (0, []) = y := ⟨_, rfl⟩
        rw [hx] at q1 q2 q3 HP
        rw [hy] at r1 r2 r3 HP
        obtain ⟨pa, pb⟩ := x
        obtain ⟨ra, rb⟩ := y
        dsimp only at q1 q2 q3 r1 r2 r3
        clear hx hy q4 q5 r4 r5
        have hb1 := gr_alloc (gr_refl wr) (.cells #[.int .i64 pa, .slice Bp pb.length cp] 29)
        have r1' := keep_of_below hb1 r1
        have r2' := keep_of_below hb1 r2
        go_upto_region 7 with fail
        have hb2 := gr_alloc hb1 (.cells #[.int .i64 ra, .slice Br rb.length cr] 29)
        have x1 := (B2.new wr (.int .i64 pa) (.slice Bp pb.length cp) (t := 29) (by decide)).nb (NB.below (gr_alloc (gr_refl _) (.cells #[.int .i64 ra, .slice Br rb.length cr] 29)))
        have x2 := B2.new (wr.alloc (.cells #[.int .i64 pa, .slice Bp pb.length cp] 29)) (.int .i64 ra) (.slice Br rb.length cr) (t := 29) (by decide)
        have hsz : (wr.alloc (.cells #[.int .i64 pa, .slice Bp pb.length cp] 29)).heap.size = wr.heap.size + 1 := World.size_alloc _ _
        rw [hsz] at x2
        have HQ := Lib.hid (samePiece_any pa ra Bp Br pb.length rb.length cp cr pb rb _ (q3.below hb2) (r3.below hb2))
        have HW2 := Lib.hid (gr_trans HW.out hb2)
        generalize hg : wr.heap.size = g0 at *
        clear hb1 hb2 q1 q2 q3 r1 r2 r3 r1' r2' hsz hg
        generalize (wr.alloc (.cells #[.int .i64 pa, .slice Bp pb.length cp] 29)).alloc (.cells #[.int .i64 ra, .slice Br rb.length cr] 29) = w2 at *
        have y0 := x1.c0
        have y1 := x1.c1
        have y2 := x2.c0
        have y3 := x2.c1
        clear x1 x2
        by_cases hs : pa = ra ∧ pb = rb
        · rw [decide_eq_true hs] at HQ
          have HT2 : Hid (ps.take (k + 1) = qs.take (k + 1)) := Lib.hid (HP.out.2 (by rw [hs.1, hs.2]))
          clear hs HP
          go_wp2_with fail
          refine HQ.out.mono ?_
          rintro e w3 ⟨rfl, hb3⟩
          have HW3 := Lib.hid (gr_trans HW2.out hb3)
          clear hb3 HQ HW2 HT HW y0 y1 y2 y3
          go_wp2_with fail
          go_roundw
          case rel => exact ⟨k + 1, by omega, by go_num, HT2, HW3⟩
          case measure => simp [intOf]; omega
        · rw [decide_eq_false hs] at HQ
          have HN : Hid (ps ≠ qs) := Lib.hid (take_part (fun h => hs (by have := HP.out.1 h; injection this with a b; exact ⟨a, b⟩)))
          clear hs HP
          go_wp2_with fail
          refine HQ.out.mono ?_
          rintro e w3 ⟨rfl, hb3⟩
          have HW3 := Lib.hid (gr_trans HW2.out hb3)
          clear hb3 HQ HW2 HT HW y0 y1 y2 y3
          go_wp2_with fail
          go_ret
          rw [decide_eq_false HN.out]
          exact ⟨rfl, HW3.out⟩
      · obtain rfl : n = k := by omega
        have t1 : decide ((n : Int) < (n : Int)) = false := decide_eq_false (by omega)
        have t2 : decide (n < n) = false := decide_eq_false (by omega)
        have HN : Hid (ps = qs) := Lib.hid (by
          have h := HT.out
          rwa [List.take_of_length_le (Nat.le_of_eq HA.out), List.take_of_length_le (Nat.le_of_eq HB.out)] at h)
        clear HT
        go_wp2_with fail
        go_ret
        rw [decide_eq_true HN.out]
        exact ⟨rfl, HW.out⟩
  · have t0 : ((n : Int) != (m : Int)) = true := by simp; omega
    have HN : Hid (ps ≠ qs) := Lib.hid (fun e => hnm (by rw [← HA.out, ← HB.out, e]))
    clear ha hb hnm
    go_enter Try.func65, Try.ntmps65
    go_wp2_with fail
    go_ret
    rw [decide_eq_false HN.out]
    exact ⟨rfl, gr_refl _⟩

set_option maxRecDepth 100000 in
set_option maxHeartbeats 1000000 in
theorem sameChange_any (pa pb : Int) (A B D E : Option Addr) (n m n2 m2 c d c2 d2 : Nat) (l r : List UInt8) (ps qs : List Pc) (w : World) (ha : BR w A n l) (hb : BR w B m r) (hp : PR w D n2 ps) (hq : PR w E m2 qs) (hn2 : n2 ≤ 9223372036854775807) (hm2 : m2 ≤ 9223372036854775807) :
    Calls Try.prog 54 #[.agg #[.int .i64 pa, .slice A n c, .slice D n2 c2], .agg #[.int .i64 pb, .slice B m d, .slice E m2 d2]] w fun e w' => e = .returned (.bool (decide ((pa, l, ps) = (pb, r, qs)))) ∧ Below w.heap.size w w' := by
  have hB1 := gr_alloc (gr_refl w) (.cells #[.int .i64 pa, .slice A n c, .slice D n2 c2] 56)
  have hB2 := gr_alloc hB1 (.cells #[.int .i64 pb, .slice B m d, .slice E m2 d2] 56)
  have HX := Lib.hid (Equal_any A B n m c d l r _ (ha.below hB2) (hb.below hB2))
  have HY := Lib.hid (EqPieces_any D E n2 m2 c2 d2 ps qs _ (hp.below hB2) (hq.below hB2) hn2 hm2)
  have HB := Lib.hid hB2
  clear ha hb hp hq hB1 hB2
  by_cases h1 : pa = pb
  · subst h1
    have t1 : (pa == pa) = true := by simp
    by_cases h2 : l = r
    · subst h2
      have t2 : (l == l) = true := by simp
      go_enter Try.func54, Try.ntmps54
      go_wp2_with fail
      refine HX.out.mono ?_
      rintro e w' ⟨rfl, rfl⟩
      go_wp2_with fail
      refine HY.out.mono ?_
      rintro e w' ⟨rfl, hb⟩
      go_wp2_with fail
      go_ret
      exact ⟨by simp, gr_trans HB.out hb⟩
    · have t2 : (l == r) = false := beq_eq_false_iff_ne.2 h2
      have H2 := Lib.hid h2
      clear h2
      go_enter Try.func54, Try.ntmps54
      go_wp2_with fail
      refine HX.out.mono ?_
      rintro e w' ⟨rfl, rfl⟩
      go_wp2_with fail
      go_ret
      exact ⟨by simp [H2.out], HB.out⟩
  · have t1 : (pa == pb) = false := beq_eq_false_iff_ne.2 h1
    have H1 := Lib.hid h1
    clear h1
    go_enter Try.func54, Try.ntmps54
    go_wp2_with fail
    go_ret
    exact ⟨by simp [H1.out], HB.out⟩

set_option maxRecDepth 100000 in
set_option maxHeartbeats 2000000 in
theorem EqChanges_any (A B : Option Addr) (n m c d : Nat) (ps qs : List Ch) (w : World) (ha : CR w A n ps) (hb : CR w B m qs) (hn : n ≤ 9223372036854775807) (hm : m ≤ 9223372036854775807) (hpa : ∀ c ∈ ps, c.2.2.length ≤ 9223372036854775807) (hpb : ∀ c ∈ qs, c.2.2.length ≤ 9223372036854775807) :
    Calls Try.prog 53 #[.slice A n c, .slice B m d, .func (.func 54) #[] #[]] w fun e w' => e = .returned (.bool (decide (ps = qs))) ∧ Below w.heap.size w w' := by
  have HPA := Lib.hid hpa
  have HPB := Lib.hid hpb
  clear hpa hpb
  have HA := Lib.hid ha.len
  have HB := Lib.hid hb.len
  by_cases hnm : n = m
  · subst hnm
    have t0 : ((n : Int) != (n : Int)) = false := by simp
    have PA := Lib.hid ha
    have PB := Lib.hid hb
    clear ha hb
    go_enter Try.func53, Try.ntmps53
    go_wp2_with fail
    go_loopw [7, 8, 9, 17] (fun _ _ _ i wr => ∃ k : Nat, k ≤ n ∧ i = .int .i64 k ∧ Hid (ps.take k = qs.take k) ∧ Hid (Below w.heap.size w wr)) (fun _ _ _ i _ => n - (intOf i).toNat)
    case atStart => exact ⟨0, Nat.zero_le _, rfl, Lib.hid rfl, Lib.hid (gr_refl _)⟩
    case round =>
      obtain ⟨k, hk, rfl, HT, HW⟩ := hrel
      by_cases hlt : k < n
      · have t1 : decide ((k : Int) < (n : Int)) = true := decide_eq_true (by omega)
        have t2 : decide (k < n) = true := decide_eq_true hlt
        have j0 : (0 : Int) ≤ (k : Int) := Int.natCast_nonneg _
        have j1 : (k : Int) < (n : Int) := by omega
        obtain ⟨gp, op, Bp, cp, Dp, dp, rfl, q0, q1, q2, q3, q4, q5, q6, q7, q8⟩ := (PA.out.below HW.out).at_ (i := k) hlt
        obtain ⟨gr, ro, Br, cr, Dr, dr, rfl, r0, r1, r2, r3, r4, r5, r6, r7, r8⟩ := (PB.out.below HW.out).at_ (i := k) hlt
        have HP := Lib.hid (take_next (z := ch0) (by rw [HA.out]; exact hlt) (by rw [HB.out]; exact hlt) HT.out)
        have hpk := HPA.out (ps.getD k ch0) (ch_mem (by rw [HA.out]; exact hlt))
        have hqk := HPB.out (qs.getD k ch0) (ch_mem (by rw [HB.out]; exact hlt))
        obtain ⟨x, hx⟩ : ∃ x, ps.getD k ch0 = x := ⟨_, rfl⟩
        obtain ⟨y, hy⟩ : ∃ y, qs.getD k ch0 = y := ⟨_, rfl⟩
        rw [hx] at q0 q1 q2 q3 q6 HP hpk
        rw [hy] at r0 r1 r2 r3 r6 HP hqk
        obtain ⟨pa, pb, pp⟩ := x
        obtain ⟨ra, rb, rp⟩ := y
        dsimp only at q0 q1 q2 q3 q6 r0 r1 r2 r3 r6 hpk hqk
        clear hx hy q4 q5 q7 q8 r4 r5 r7 r8
        have hb1 := gr_alloc (gr_refl wr) (.cells #[.int .i64 pa, .slice Bp pb.length cp, .slice Dp pp.length dp] 56)
        have r1' := keep_of_below hb1 r1
        have r2' := keep_of_below hb1 r2
        have r0' := keep_of_below hb1 r0
        go_upto_region 7 with fail
        have hb2 := gr_alloc hb1 (.cells #[.int .i64 ra, .slice Br rb.length cr, .slice Dr rp.length dr] 56)
        have x1 := (B3.new wr (.int .i64 pa) (.slice Bp pb.length cp) (.slice Dp pp.length dp) (t := 56) (by decide)).nb (NB.below (gr_alloc (gr_refl _) (.cells #[.int .i64 ra, .slice Br rb.length cr, .slice Dr rp.length dr] 56)))
        have x2 := B3.new (wr.alloc (.cells #[.int .i64 pa, .slice Bp pb.length cp, .slice Dp pp.length dp] 56)) (.int .i64 ra) (.slice Br rb.length cr) (.slice Dr rp.length dr) (t := 56) (by decide)
        have hsz : (wr.alloc (.cells #[.int .i64 pa, .slice Bp pb.length cp, .slice Dp pp.length dp] 56)).heap.size = wr.heap.size + 1 := World.size_alloc _ _
        rw [hsz] at x2
        have HQ := Lib.hid (sameChange_any pa ra Bp Br Dp Dr pb.length rb.length pp.length rp.length cp cr dp dr pb rb pp rp _ (q3.below hb2) (r3.below hb2) (q6.below hb2) (r6.below hb2) hpk hqk)
        have HW2 := Lib.hid (gr_trans HW.out hb2)
        generalize hg : wr.heap.size = g0 at *
        clear hb1 hb2 q0 q1 q2 q3 q6 r0 r1 r2 r3 r6 r0' r1' r2' hsz hg hpk hqk
        generalize (wr.alloc (.cells #[.int .i64 pa, .slice Bp pb.length cp, .slice Dp pp.length dp] 56)).alloc (.cells #[.int .i64 ra, .slice Br rb.length cr, .slice Dr rp.length dr] 56) = w2 at *
        have y0 := x1.c0
        have y1 := x1.c1
        have y1' := x1.c2
        have y2 := x2.c0
        have y3 := x2.c1
        have y3' := x2.c2
        clear x1 x2
        by_cases hs : (pa, pb, pp) = (ra, rb, rp)
        · rw [decide_eq_true hs] at HQ
          have HT2 : Hid (ps.take (k + 1) = qs.take (k + 1)) := Lib.hid (HP.out.2 hs)
          clear hs HP
          go_wp2_with fail
          refine HQ.out.mono ?_
          rintro e w3 ⟨rfl, hb3⟩
          have HW3 := Lib.hid (gr_trans HW2.out hb3)
          clear hb3 HQ HW2 HT HW y0 y1 y2 y3 y1' y3'
          go_wp2_with fail
          go_roundw
          case rel => exact ⟨k + 1, by omega, by go_num, HT2, HW3⟩
          case measure => simp [intOf]; omega
        · rw [decide_eq_false hs] at HQ
          have HN : Hid (ps ≠ qs) := Lib.hid (take_part (fun h => hs (HP.out.1 h)))
          clear hs HP
          go_wp2_with fail
          refine HQ.out.mono ?_
          rintro e w3 ⟨rfl, hb3⟩
          have HW3 := Lib.hid (gr_trans HW2.out hb3)
          clear hb3 HQ HW2 HT HW y0 y1 y2 y3 y1' y3'
          go_wp2_with fail
          go_ret
          rw [decide_eq_false HN.out]
          exact ⟨rfl, HW3.out⟩
      · obtain rfl : n = k := by omega
        have t1 : decide ((n : Int) < (n : Int)) = false := decide_eq_false (by omega)
        have t2 : decide (n < n) = false := decide_eq_false (by omega)
        have HN : Hid (ps = qs) := Lib.hid (by
          have h := HT.out
          rwa [List.take_of_length_le (Nat.le_of_eq HA.out), List.take_of_length_le (Nat.le_of_eq HB.out)] at h)
        clear HT
        go_wp2_with fail
        go_ret
        rw [decide_eq_true HN.out]
        exact ⟨rfl, HW.out⟩
  · have t0 : ((n : Int) != (m : Int)) = true := by simp; omega
    have HN : Hid (ps ≠ qs) := Lib.hid (fun e => hnm (by rw [← HA.out, ← HB.out, e]))
    clear ha hb hnm
    go_enter Try.func53, Try.ntmps53
    go_wp2_with fail
    go_ret
    rw [decide_eq_false HN.out]
    exact ⟨rfl, gr_refl _⟩

set_option maxRecDepth 100000 in
set_option maxHeartbeats 1000000 in
theorem Same_any (k k' tx tx' : Int) (A B : Option Addr) (n m c d : Nat) (cs ds : List Ch) (w : World) (ha : CR w A n cs) (hb : CR w B m ds) (hn : n ≤ 9223372036854775807) (hm : m ≤ 9223372036854775807) (hpa : ∀ c ∈ cs, c.2.2.length ≤ 9223372036854775807) (hpb : ∀ c ∈ ds, c.2.2.length ≤ 9223372036854775807) :
    Calls Try.prog 29 #[.agg #[.int .u8 k, .int .i64 tx, .slice A n c], .agg #[.int .u8 k', .int .i64 tx', .slice B m d]] w fun e w' => e = .returned (.bool (decide (k = k' ∧ tx = tx' ∧ cs = ds))) ∧ Below w.heap.size w w' := by
  have hB1 := gr_alloc (gr_refl w) (.cells #[.int .u8 k, .int .i64 tx, .slice A n c] 38)
  have hB2 := gr_alloc hB1 (.cells #[.int .u8 k', .int .i64 tx', .slice B m d] 38)
  have HY := Lib.hid (EqChanges_any A B n m c d cs ds _ (ha.below hB2) (hb.below hB2) hn hm hpa hpb)
  have HB := Lib.hid hB2
  clear ha hb hB1 hB2 hpa hpb
  by_cases h1 : k = k'
  · subst h1
    have t1 : (k == k) = true := by simp
    by_cases h2 : tx = tx'
    · subst h2
      have t2 : (tx == tx) = true := by simp
      go_enter Try.func29, Try.ntmps29
      go_wp2_with fail
      refine HY.out.mono ?_
      rintro e w' ⟨rfl, hb⟩
      go_wp2_with fail
      go_ret
      exact ⟨by simp, gr_trans HB.out hb⟩
    · have t2 : (tx == tx') = false := beq_eq_false_iff_ne.2 h2
      have H2 := Lib.hid h2
      clear h2
      go_enter Try.func29, Try.ntmps29
      go_wp2_with fail
      go_ret
      exact ⟨by simp [H2.out], HB.out⟩
  · have t1 : (k == k') = false := beq_eq_false_iff_ne.2 h1
    have H1 := Lib.hid h1
    clear h1
    go_enter Try.func29, Try.ntmps29
    go_wp2_with fail
    go_ret
    exact ⟨by simp [H1.out], HB.out⟩

end Go.Proofs.Ythpjjoahffagcaa
