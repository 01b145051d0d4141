/-
  The reference's Encode of any record; chancerylow.CopyRecord.
-/
import Derived.Test.YthpjjoahffagcaaRgB
import Derived.Test.YthpjjoahffagcaaRgn
import Derived.Test.YthpjjoahffagcaaRdN
namespace Go.Proofs.Ythpjjoahffagcaa
open Go.RowKit

theorem refEncode_no (k : Int) (tx : Int) (A : Option Addr) (n d : Nat) (cs : List Ch) (w : World) (hc : CR w A n cs) (hn : n ≤ 9223372036854775807) (hpg : ∀ c ∈ cs, -9223372036854775808 ≤ c.1 ∧ c.1 ≤ 9223372036854775807) (hpl : ∀ c ∈ cs, c.2.2.length ≤ 9223372036854775807) (hpb : ∀ c ∈ cs, ∀ p ∈ c.2.2, -9223372036854775808 ≤ p.1 ∧ p.1 ≤ 9223372036854775807) (hr : rightR k tx cs = false) :
    Calls Try.prog 26 #[.agg #[.int .u8 k, .int .i64 tx, .slice A n d]] w fun e w' => e = .returned (.tuple #[.slice none 0 0, .int .i64 2]) ∧ Below w.heap.size w w' := by
  have hB := gr_alloc (gr_refl w) (.cells #[.int .u8 k, .int .i64 tx, .slice A n d] 38)
  have X := refRight_any k tx A n d cs _ (hc.below hB) hn hpg hpl hpb
  rw [hr] at X
  have HX := Lib.hid X
  have HB := Lib.hid hB
  clear hr hc hpb hpg hpl X hB
  go_enter Try.func26, Try.ntmps26
  go_wp2_with fail
  refine HX.out.mono ?_
  rintro e w1 ⟨rfl, hb1⟩
  go_wp2_with fail
  go_ret2
  exact ⟨rfl, gr_trans HB.out hb1⟩
theorem refEncode_any (k : Nat) (tx : Int) (A : Option Addr) (n d : Nat) (cs : List Ch) (w : World) (hc : CR w A n cs) (hn : n ≤ 9223372036854775807) (hpg : ∀ c ∈ cs, -9223372036854775808 ≤ c.1 ∧ c.1 ≤ 9223372036854775807) (hpl : ∀ c ∈ cs, c.2.2.length ≤ 9223372036854775807) (hpb : ∀ c ∈ cs, ∀ p ∈ c.2.2, -9223372036854775808 ≤ p.1 ∧ p.1 ≤ 9223372036854775807) :
    Calls Try.prog 26 #[.agg #[.int .u8 (k : Int), .int .i64 tx, .slice A n d]] w fun e w' => ∃ v, e = .returned (.tuple #[v, .int .i64 (encE ⟨k, tx, cs⟩ : Int)]) ∧ OB w' w.heap.size v (encL ⟨k, tx, cs⟩) ∧ Below w.heap.size w w' := by
  cases hr : (Rec.mk k tx cs).right with
  | false =>
    refine (refEncode_no (k : Int) tx A n d cs w hc hn hpg hpl hpb hr).mono ?_
    rintro e w' ⟨rfl, hb⟩
    unfold encE encL
    rw [hr]
    exact ⟨_, rfl, OB.nil _ _, hb⟩
  | true =>
    have g := (right_good hr).2.1
    obtain ⟨t, rfl⟩ := Int.eq_ofNat_of_zero_le g
    refine (refEncode_yes k t A n d cs w hc hr).mono ?_
    rintro e w' ⟨v, rfl, ho, hb⟩
    unfold encE encL
    rw [hr]
    exact ⟨v, rfl, ho, hb⟩

theorem OP.ow {w : World} {base : Nat} {v : Value} {ps : List Pc} (h : OP w base v ps) : OW w base v ps := by
  obtain ⟨us, h1, h2, h3, _⟩ := h
  exact ⟨us, h1, h2, h3⟩
def MP.ob (base : Nat) (l : List UInt8) : MP := ⟨fun u w => ∃ A c, u = .slice A l.length c ∧ OB w base (.slice A l.length c) l, fun _ _ _ hb ⟨A, c, e, h⟩ => ⟨A, c, e, h.below hb⟩⟩
def MP.ow (base : Nat) (ps : List Pc) : MP := ⟨fun u w => ∃ A c, u = .slice A ps.length c ∧ OW w base (.slice A ps.length c) ps, fun _ _ _ hb ⟨A, c, e, h⟩ => ⟨A, c, e, h.below hb⟩⟩
/-- A change as a value. -/
def MP.ch (base : Nat) (pg : Int) (l : List UInt8) (ps : List Pc) : MP := ⟨fun u w => ∃ A c D d, u = .agg #[.int .i64 pg, .slice A l.length c, .slice D ps.length d] ∧ OB w base (.slice A l.length c) l ∧ OW w base (.slice D ps.length d) ps,
  fun _ _ _ hb ⟨A, c, D, d, e, h, h2⟩ => ⟨A, c, D, d, e, h.below hb, h2.below hb⟩⟩
/-- One change in a slice. -/
def MP.ch1 (base : Nat) (pg : Int) (l : List UInt8) (ps : List Pc) : MP := ⟨fun u w => ∃ g A c D d, u = .slice (some ⟨g, 0, none⟩) 1 1 ∧ Rd w 3 (some ⟨g, 0, none⟩) 1 [.int .i64 pg, .slice A l.length c, .slice D ps.length d] ∧ OB w base (.slice A l.length c) l ∧ OW w base (.slice D ps.length d) ps,
  fun _ _ _ hb ⟨g, A, c, D, d, e, r, h, h2⟩ => ⟨g, A, c, D, d, e, r.below hb, h.below hb, h2.below hb⟩⟩

/-- The record that is being copied. -/
structure CQ (w wr : World) (k tx : Int) (av : Value) (v : Value) (acc : List Ch) : Prop where
  a : wr.heap[w.heap.size]? = some (.cells #[.int .u8 k, .int .i64 tx, av] 38 (0, 0))
  r : wr.heap[w.heap.size + 1]? = some (.cells #[.int .u8 0, .int .i64 0, .slice none 0 0] 38 (0, 0))
  o : wr.heap[w.heap.size + 2]? = some (.cells #[.int .u8 k, .int .i64 tx, v] 38 (0, 0))
  row : OCW wr w.heap.size v acc
  bel : Below w.heap.size w wr
section
variable {w wr w4 : World} {k tx : Int} {av v v4 : Value} {acc : List Ch}
theorem CQ.below (h : CQ w wr k tx av v acc) (hb : Below wr.heap.size wr w4) : CQ w w4 k tx av v acc :=
  ⟨(hb.block _ (Array.getElem?_eq_some_iff.1 h.a).1).trans h.a, (hb.block _ (Array.getElem?_eq_some_iff.1 h.r).1).trans h.r, (hb.block _ (Array.getElem?_eq_some_iff.1 h.o).1).trans h.o, h.row.below hb, gr_trans h.bel hb⟩
theorem CQ.a2 (h : CQ w wr k tx av v acc) : wr.cell? ⟨w.heap.size, 2, none⟩ = some av := by rw [cell_of_row wr _ 2 _ _ _ h.a]; rfl
theorem CQ.o0 (h : CQ w wr k tx av v acc) : wr.cell? ⟨w.heap.size + 2, 0, none⟩ = some (.int .u8 k) := by rw [cell_of_row wr _ 0 _ _ _ h.o]; rfl
theorem CQ.o1 (h : CQ w wr k tx av v acc) : wr.cell? ⟨w.heap.size + 2, 1, none⟩ = some (.int .i64 tx) := by rw [cell_of_row wr _ 1 _ _ _ h.o]; rfl
theorem CQ.o2 (h : CQ w wr k tx av v acc) : wr.cell? ⟨w.heap.size + 2, 2, none⟩ = some v := by rw [cell_of_row wr _ 2 _ _ _ h.o]; rfl
theorem CQ.push (h : CQ w wr k tx av v acc) {us : List (Int × Value × Value)} (r1 : wr.ownsRow w.heap.size 56 3 v acc.length (chs us)) (r2 : us.length = acc.length) (r3 : ∀ (i : Nat) (p : Ch) (q : Int × Value × Value), acc[i]? = some p → us[i]? = some q → q.1 = p.1 ∧ OB wr w.heap.size q.2.1 p.2.1 ∧ OW wr w.heap.size q.2.2 p.2.2) {a : Int} {u1 u2 : Value} {l : List UInt8} {ps : List Pc} (hu : OB wr w.heap.size u1 l) (hu2 : OW wr w.heap.size u2 ps)
    (ho : w4.ownsRow w.heap.size 56 3 v4 (acc.length + 1) (chs us ++ [.int .i64 a, u1, u2])) (hg : wr.grownBy w4 v.ownBlock) :
    w4.cell? ⟨w.heap.size + 2, 2, none⟩ = some v ∧ (∀ j, w4.frozen? ⟨w.heap.size + 2, j, none⟩ = false) ∧ CQ w (w4.setCell ⟨w.heap.size + 2, 2, none⟩ v4) k tx av v4 (acc ++ [(a, l, ps)]) := by
  have o : Off (fun k => v.ownBlock = some k) wr w4 := Off.of_grown hg (fun _ e => e)
  have hne : ∀ {j : Nat} {cs : Array Value}, wr.heap[j]? = some (.cells cs 38 (0, 0)) → w4.heap[j]? = some (.cells cs 38 (0, 0)) := fun {j cs} hj =>
    (o.block j (Array.getElem?_eq_some_iff.1 hj).1 (fun e => by
      obtain ⟨cur, hc⟩ := own_blk r1 e
      exact cells_ne hc hj (by decide))).trans hj
  have ha := hne h.a
  have hr := hne h.r
  have hc4 := hne h.o
  have o5 : Off (fun k => k = w.heap.size + 2) w4 (w4.setCell ⟨w.heap.size + 2, 2, none⟩ v4) := (Off.refl (fun k => k = w.heap.size + 2) w4).setCell _ rfl
  refine ⟨by rw [cell_of_row w4 _ 2 _ _ _ hc4]; rfl, fun j => by simp [World.frozen?, hc4], ?_, ?_, ?_, ?_, ?_⟩
  · exact (o5.block _ (Array.getElem?_eq_some_iff.1 ha).1 (by omega)).trans ha
  · exact (o5.block _ (Array.getElem?_eq_some_iff.1 hr).1 (by omega)).trans hr
  · simp only [World.setCell, Array.getElem?_modify, if_pos, hc4]
    rfl
  · have q := OCW.push (w4 := w4) r2 r3 hu hu2 hg (fun k hk => own_blk r1 hk) ho
    exact q.ty o5 (fun k e => by subst e; exact ⟨_, _, _, hc4, by decide, by decide, by decide⟩)
  · exact (gr_own h.bel r1 hg).setCell (by simp) _
end

set_option maxRecDepth 100000 in
set_option maxHeartbeats 8000000 in
theorem CopyRecord_any (k tx : Int) (A : Option Addr) (n d : Nat) (cs : List Ch) (w : World) (hc : CR w A n cs) (hn : n ≤ 2513169434843) (hpl : ∀ c ∈ cs, c.2.1.length ≤ 140737488351232 ∧ c.2.2.length ≤ 4398046511104 ∧ ∀ p ∈ c.2.2, p.2.length ≤ 211106232532992) :
    Calls Try.prog 25 #[.agg #[.int .u8 k, .int .i64 tx, .slice A n d]] w fun e w' => ∃ v, e = .returned (.agg #[.int .u8 k, .int .i64 tx, v]) ∧ OCW w' w.heap.size v cs ∧ Below w.heap.size w w' := by
  obtain ⟨i1, hi1, hy0, hy1, hy2⟩ := info_parts info_change
  have HC := Lib.hid hc
  have HLN := Lib.hid hc.len
  have HPL := Lib.hid hpl
  have hq : CQ w (((w.alloc (.cells #[.int .u8 k, .int .i64 tx, .slice A n d] 38)).alloc (.cells #[.int .u8 0, .int .i64 0, .slice none 0 0] 38)).alloc (.cells #[.int .u8 k, .int .i64 tx, .slice none 0 0] 38)) k tx (.slice A n d) (.slice none 0 0) [] := by
    have b1 := gr_alloc (gr_refl w) (.cells #[.int .u8 k, .int .i64 tx, .slice A n d] 38)
    generalize hw1 : w.alloc (.cells #[.int .u8 k, .int .i64 tx, .slice A n d] 38) = w1 at *
    have s1 : w1.heap.size = w.heap.size + 1 := by rw [← hw1, World.size_alloc]
    have x1 : w1.heap[w.heap.size]? = some (.cells #[.int .u8 k, .int .i64 tx, .slice A n d] 38 (0, 0)) := by rw [← hw1]; exact heap_alloc_new w _
    have b2 := gr_alloc (gr_refl w1) (.cells #[.int .u8 0, .int .i64 0, .slice none 0 0] 38)
    have x2 := heap_alloc_new w1 (.cells #[.int .u8 0, .int .i64 0, .slice none 0 0] 38)
    generalize hw2 : w1.alloc (.cells #[.int .u8 0, .int .i64 0, .slice none 0 0] 38) = w2 at *
    have s2 : w2.heap.size = w.heap.size + 2 := by rw [← hw2, World.size_alloc, s1]
    have b3 := gr_alloc (gr_refl w2) (.cells #[.int .u8 k, .int .i64 tx, .slice none 0 0] 38)
    have x3 := heap_alloc_new w2 (.cells #[.int .u8 k, .int .i64 tx, .slice none 0 0] 38)
    rw [s1] at x2
    rw [s2] at x3
    have y1 := (b2.block _ (Array.getElem?_eq_some_iff.1 x1).1).trans x1
    exact ⟨(b3.block _ (Array.getElem?_eq_some_iff.1 y1).1).trans y1, (b3.block _ (Array.getElem?_eq_some_iff.1 x2).1).trans x2, x3, OCW.nil _ _, gr_trans (gr_trans b1 b2) b3⟩
  have HQ0 := Lib.hid hq
  clear hc hpl hq
  go_enter Try.func25, Try.ntmps25
  go_wp2_with fail
  generalize ((w.alloc (.cells #[.int .u8 k, .int .i64 tx, .slice A n d] 38)).alloc (.cells #[.int .u8 0, .int .i64 0, .slice none 0 0] 38)).alloc (.cells #[.int .u8 k, .int .i64 tx, .slice none 0 0] 38) = w0 at *
  go_loopw [4, 5] (fun i _ wr => ∃ (j : Nat) (v : Value), j ≤ n ∧ i = .int .i64 j ∧ Hid (CQ w wr k tx (.slice A n d) v (cs.take j))) (fun i _ _ => n - (intOf i).toNat)
  case atStart => exact ⟨0, _, Nat.zero_le _, rfl, HQ0⟩
  case round =>
    clear HQ0
    obtain ⟨j, v, hj, rfl, HQ⟩ := hrel
    have x2 := HQ.out.a2
    have x3 := HQ.out.o2
    by_cases hlt : j < n
    · have t1 : decide ((j : Int) < (n : Int)) = true := decide_eq_true (by omega)
      have t2 : decide (j < n) = true := decide_eq_true hlt
      have hjl : j < cs.length := by rw [HLN.out]; exact hlt
      obtain ⟨g, o, B, cB, D, cD, rfl, p0, p1, p2, p3, p4, p5, p6, p7, p8⟩ := HC.out.at_ (i := j) hlt
      have HT : Hid (cs.take (j + 1) = cs.take j ++ [cs.getD j ch0]) := Lib.hid (by rw [List.take_succ_eq_append_getElem hjl]; simp [List.getD, hjl])
      have HG := HPL.out (cs.getD j ch0) (ch_mem hjl)
      have HTL : Hid ((cs.take j).length = j) := Lib.hid (by rw [List.length_take]; omega)
      generalize cs.getD j ch0 = ch at *
      obtain ⟨pg, img, pps⟩ := ch
      simp only at p0 p1 p2 p3 p4 p5 p6 p7 p8 HG
      have HG := Lib.hid HG
      have i4 : (0 : Int) ≤ (j : Int) := Int.natCast_nonneg _
      have i5 : (j : Int) < (n : Int) := by omega
      have HP3 := Lib.hid (p3.below HQ.out.bel)
      have HP6 := Lib.hid (p6.below HQ.out.bel)
      have p0' := keep_of_below HQ.out.bel p0
      have p1' := keep_of_below HQ.out.bel p1
      have p2' := keep_of_below HQ.out.bel p2
      clear hjl hlt p0 p1 p2 p3 p4 p5 p6 p7 p8
      go_upto_region 6 with fail
      have hbx := gr_alloc (gr_refl wr) (.cells #[.int .i64 pg, .slice B img.length cB, .slice D pps.length cD] 56)
      have HCB := Lib.hid (B3.new wr (.int .i64 pg) (.slice B img.length cB) (.slice D pps.length cD) (t := 56) (by decide))
      have HQ1 := Lib.hid (HQ.out.below hbx)
      have HI3 := Lib.hid (HP3.out.below hbx)
      have HI6 := Lib.hid (HP6.out.below hbx)
      clear hbx HQ p0' p1' p2' x2 x3 HP3 HP6
      generalize wr.alloc (.cells #[.int .i64 pg, .slice B img.length cB, .slice D pps.length cD] 56) = w1 at *
      generalize wr.heap.size = cb at *
      have C0 := Lib.hid (show w1.drew.cell? ⟨cb, 0, none⟩ = some (.int .i64 pg) from HCB.out.c0)
      have C1 := Lib.hid (show w1.drew.cell? ⟨cb, 1, none⟩ = some (.slice B img.length cB) from HCB.out.c1)
      have C2 := Lib.hid (show w1.drew.cell? ⟨cb, 2, none⟩ = some (.slice D pps.length cD) from HCB.out.c2)
      have C3 := Lib.hid (show w1.drew.cell? ⟨w.heap.size + 2, 2, none⟩ = some v from HQ1.out.o2)
      have HQd : Hid (CQ w w1.drew k tx (.slice (some ⟨g, o, none⟩) n d) v (cs.take j)) := Lib.hid (HQ1.out.below (gr_drewN (gr_refl w1) 1))
      have HI3d : Hid (BR w1.drew B img.length img) := Lib.hid HI3.out
      have HI6d : Hid (PR w1.drew D pps.length pps) := Lib.hid (HI6.out.below (gr_drewN (gr_refl w1) 1))
      have hBase : w.heap.size ≤ w1.drew.heap.size := HQd.out.bel.size
      have HBase := Lib.hid hBase
      obtain ⟨Av, cv, hv, _, _⟩ := own_form HQd.out.row.choose_spec.1
      rw [HTL.out] at hv
      subst hv
      clear HCB HQ1 HI3 HI6 hBase
      refine wp_region_any (by kernel_rfl) ?_
      refine' wpAny_to_tail (l0 := #[false, false, false, false, false, false, false, false, false, false, false, false, false, false, false]) (by kernel_rfl) (by kernel_rfl) (by kernel_rfl) (by kernel_rfl) (by kernel_rfl)
        [MP.is (.pointer (some ⟨w.heap.size + 2, 2, none⟩)), MP.is (.slice Av j cv), MP.is (.pointer (some ⟨cb, 0, none⟩)), MP.is (.int .i64 pg), MP.is (.pointer (some ⟨cb, 1, none⟩)), MP.is (.slice B img.length cB), MP.ob w.heap.size img, MP.is (.pointer (some ⟨cb, 2, none⟩)), MP.is (.slice D pps.length cD), MP.ow w.heap.size pps, MP.ch w.heap.size pg img pps, MP.ch1 w.heap.size pg img pps, MP.any, MP.is (.pointer (some ⟨w.heap.size + 2, 2, none⟩)), MP.any]
        (fun j => j == 12 || j == 13 || j == 14) #[true, true, true, true, true, true, true, true, true, true, true, true, false, false, false] rfl (by kernel_rfl) rfl (by kernel_rfl) (by kernel_rfl) (by kernel_rfl) (by kernel_rfl) (fun _ => undef) (by rfl) ?hR01 ?hAA1 ?hst1 ?hend1
      case hR01 =>
        intro j hj
        have hj2 : j ∈ [] := hj
        cases hj2
      case hAA1 =>
        intro f
        conv => lhs; simp only [putA, dstOf, List.size_toArray, List.length_cons, List.length_nil, Nat.zero_add, Nat.reduceAdd, List.getElem?_toArray, List.getElem?_cons_zero, List.getElem?_cons_succ, Option.bind_some, Act.put, List.setIfInBounds_toArray, List.set_cons_zero, List.set_cons_succ]
        first | done | exact rfl
      case hst1 =>
        change Steps _ _ _ _ _ [0, 1, 2, 3, 4, 5, 6, 7, 8, 9, 10, 11]
        refine Steps.cons rfl ?_ ?_
        · intro f wz hB h K Q hK
          try simp only [List.getElem_toArray, List.getElem_cons_zero]
          go_simp
          exact hK _ _ (gr_refl _) rfl
        refine Steps.cons rfl ?_ ?_
        · intro f wz hB h K Q hK
          have h0 : (MP.is (.pointer (some ⟨w.heap.size + 2, 2, none⟩))).p (f 0) wz := h 0 (by kernel_rfl)
          have e0 : f 0 = (.pointer (some ⟨w.heap.size + 2, 2, none⟩)) := h0
          simp only [e0] at hK ⊢
          clear e0
          try simp only [List.getElem_toArray, List.getElem_cons_succ, List.getElem_cons_zero]
          have y0 := keep_of_below hB C0.out
          have y1 := keep_of_below hB C1.out
          have y2 := keep_of_below hB C2.out
          have y3 := keep_of_below hB C3.out
          go_simp
          exact hK _ _ (gr_refl _) rfl
        refine Steps.cons rfl ?_ ?_
        · intro f wz hB h K Q hK
          try simp only [List.getElem_toArray, List.getElem_cons_succ, List.getElem_cons_zero]
          go_simp
          exact hK _ _ (gr_refl _) rfl
        refine Steps.cons rfl ?_ ?_
        · intro f wz hB h K Q hK
          have h2 : (MP.is (.pointer (some ⟨cb, 0, none⟩))).p (f 2) wz := h 2 (by kernel_rfl)
          have e2 : f 2 = (.pointer (some ⟨cb, 0, none⟩)) := h2
          simp only [e2] at hK ⊢
          clear e2
          try simp only [List.getElem_toArray, List.getElem_cons_succ, List.getElem_cons_zero]
          have y0 := keep_of_below hB C0.out
          have y1 := keep_of_below hB C1.out
          have y2 := keep_of_below hB C2.out
          have y3 := keep_of_below hB C3.out
          go_simp
          exact hK _ _ (gr_refl _) rfl
        refine Steps.cons rfl ?_ ?_
        · intro f wz hB h K Q hK
          try simp only [List.getElem_toArray, List.getElem_cons_succ, List.getElem_cons_zero]
          go_simp
          exact hK _ _ (gr_refl _) rfl
        refine Steps.cons rfl ?_ ?_
        · intro f wz hB h K Q hK
          have h4 : (MP.is (.pointer (some ⟨cb, 1, none⟩))).p (f 4) wz := h 4 (by kernel_rfl)
          have e4 : f 4 = (.pointer (some ⟨cb, 1, none⟩)) := h4
          simp only [e4] at hK ⊢
          clear e4
          try simp only [List.getElem_toArray, List.getElem_cons_succ, List.getElem_cons_zero]
          have y0 := keep_of_below hB C0.out
          have y1 := keep_of_below hB C1.out
          have y2 := keep_of_below hB C2.out
          have y3 := keep_of_below hB C3.out
          go_simp
          exact hK _ _ (gr_refl _) rfl
        refine Steps.cons rfl ?_ ?_
        · intro f wz hB h K Q hK
          have h5 : (MP.is (.slice B img.length cB)).p (f 5) wz := h 5 (by kernel_rfl)
          have e5 : f 5 = (.slice B img.length cB) := h5
          simp only [e5] at hK ⊢
          clear e5
          try simp only [List.getElem_toArray, List.getElem_cons_succ, List.getElem_cons_zero]
          go_simp
          refine (CopyBytes_any B img.length cB img _ (HI3d.out.below hB) (by have := HG.out.1; omega)).mono ?_
          rintro e w5 ⟨v5, rfl, ob5, hb5⟩
          obtain ⟨A5, c5, rfl, _, _⟩ := own_form ob5
          exact hK _ _ hb5 ⟨A5, c5, rfl, ob5.lower (Nat.le_trans HBase.out hB.size)⟩
        refine Steps.cons rfl ?_ ?_
        · intro f wz hB h K Q hK
          try simp only [List.getElem_toArray, List.getElem_cons_succ, List.getElem_cons_zero]
          go_simp
          exact hK _ _ (gr_refl _) rfl
        refine Steps.cons rfl ?_ ?_
        · intro f wz hB h K Q hK
          have h7 : (MP.is (.pointer (some ⟨cb, 2, none⟩))).p (f 7) wz := h 7 (by kernel_rfl)
          have e7 : f 7 = (.pointer (some ⟨cb, 2, none⟩)) := h7
          simp only [e7] at hK ⊢
          clear e7
          try simp only [List.getElem_toArray, List.getElem_cons_succ, List.getElem_cons_zero]
          have y0 := keep_of_below hB C0.out
          have y1 := keep_of_below hB C1.out
          have y2 := keep_of_below hB C2.out
          have y3 := keep_of_below hB C3.out
          go_simp
          exact hK _ _ (gr_refl _) rfl
        refine Steps.cons rfl ?_ ?_
        · intro f wz hB h K Q hK
          have h8 : (MP.is (.slice D pps.length cD)).p (f 8) wz := h 8 (by kernel_rfl)
          have e8 : f 8 = (.slice D pps.length cD) := h8
          simp only [e8] at hK ⊢
          clear e8
          try simp only [List.getElem_toArray, List.getElem_cons_succ, List.getElem_cons_zero]
          go_simp
          refine (CopyPieces_any D pps.length cD pps _ (HI6d.out.below hB) HG.out.2.1 HG.out.2.2).mono ?_
          rintro e w5 ⟨v5, rfl, ob5, hb5⟩
          obtain ⟨A5, c5, rfl, _, _⟩ := own_form ob5.ow.choose_spec.1
          exact hK _ _ hb5 ⟨A5, c5, rfl, ob5.ow.lower (Nat.le_trans HBase.out hB.size)⟩
        refine Steps.cons rfl ?_ ?_
        · intro f wz hB h K Q hK
          have h3 : (MP.is (.int .i64 pg)).p (f 3) wz := h 3 (by kernel_rfl)
          have e3 : f 3 = (.int .i64 pg) := h3
          have h6 : (MP.ob w.heap.size img).p (f 6) wz := h 6 (by kernel_rfl)
          obtain ⟨A6, c6, e6, r6⟩ := h6
          have h9 : (MP.ow w.heap.size pps).p (f 9) wz := h 9 (by kernel_rfl)
          obtain ⟨A9, c9, e9, r9⟩ := h9
          simp only [e3, e6, e9] at hK ⊢
          clear e3 e6 e9
          try simp only [List.getElem_toArray, List.getElem_cons_succ, List.getElem_cons_zero]
          go_simp
          exact hK _ _ (gr_refl _) ⟨A6, c6, A9, c9, rfl, r6, r9⟩
        refine Steps.cons rfl ?_ ?_
        · intro f wz hB h K Q hK
          have h10 : (MP.ch w.heap.size pg img pps).p (f 10) wz := h 10 (by kernel_rfl)
          obtain ⟨A10, c10, D10, d10, e10, r10, q10⟩ := h10
          simp only [e10] at hK ⊢
          clear e10
          try simp only [List.getElem_toArray, List.getElem_cons_succ, List.getElem_cons_zero]
          go_simp
          have hbn := gr_alloc (gr_refl wz) (.cells #[.int .i64 pg, .slice A10 img.length c10, .slice D10 pps.length d10] 56)
          exact hK _ _ hbn ⟨_, A10, c10, D10, d10, rfl, Rd.new wz _ #[.int .i64 pg, .slice A10 img.length c10, .slice D10 pps.length d10] 1 3 rfl, r10.below hbn, q10.below hbn⟩
        exact Steps.nil
      intro f w2 hB2 hR
      conv => arg 7; simp only [putL, dstOf, List.size_toArray, List.length_cons, List.length_nil, Nat.zero_add, Nat.reduceAdd, List.getElem?_toArray, List.getElem?_cons_zero, List.getElem?_cons_succ, Option.bind_some, Act.put, List.setIfInBounds_toArray, List.set_cons_zero, List.set_cons_succ, Array.getD_eq_getD_getElem?, Option.getD_some, if_true, if_false, Bool.false_eq_true]
      have e0 : f 0 = (.pointer (some ⟨w.heap.size + 2, 2, none⟩)) := hR 0 (by decide) rfl
      have e1 : f 1 = (.slice Av j cv) := hR 1 (by decide) rfl
      have e2 : f 2 = (.pointer (some ⟨cb, 0, none⟩)) := hR 2 (by decide) rfl
      have e3 : f 3 = (.int .i64 pg) := hR 3 (by decide) rfl
      have e4 : f 4 = (.pointer (some ⟨cb, 1, none⟩)) := hR 4 (by decide) rfl
      have e5 : f 5 = (.slice B img.length cB) := hR 5 (by decide) rfl
      obtain ⟨A62, c62, e6, r62⟩ := (show (MP.ob w.heap.size img).p (f 6) w2 from hR 6 (by decide) rfl)
      have e7 : f 7 = (.pointer (some ⟨cb, 2, none⟩)) := hR 7 (by decide) rfl
      have e8 : f 8 = (.slice D pps.length cD) := hR 8 (by decide) rfl
      obtain ⟨A92, c92, e9, r92⟩ := (show (MP.ow w.heap.size pps).p (f 9) w2 from hR 9 (by decide) rfl)
      obtain ⟨A102, c102, D102, d102, e10, r102, q102⟩ := (show (MP.ch w.heap.size pg img pps).p (f 10) w2 from hR 10 (by decide) rfl)
      obtain ⟨g112, A112, c112, D112, d112, e11, z112, r112, q112⟩ := (show (MP.ch1 w.heap.size pg img pps).p (f 11) w2 from hR 11 (by decide) rfl)
      simp only [e0, e1, e2, e3, e4, e5, e6, e7, e8, e9, e10, e11]
      clear e0 e1 e2 e3 e4 e5 e6 e7 e8 e9 e10 e11 hR
      have HQ2 := Lib.hid (HQd.out.below hB2)
      obtain ⟨us, q1, q2, q3⟩ := HQ2.out.row
      have hjm : (cs.take j).length = j := HTL.out
      refine wpAny_of_held (S := fun _ => True) _ _ _ _ ?_
      refine wpAnyH_ready (rs := [12]) (by kernel_rfl) (by simp) ?_
      refine AllReadyH.cons rfl (fun KK hK => ?_) AllReadyH.nil
      try simp only [List.getElem_toArray, List.getElem_cons_succ, List.getElem_cons_zero]
      rw [if_pos (by rfl)]
      refine wp_append_Rd _ (.tmp 24) (.tmp 34) _ rfl w.heap.size 56 i1 _ 3 56 Try.underlying36 hi1 hy0 hy1 hy2 rfl (.slice Av j cv) j (chs us) rfl (by rw [← hjm]; rw [hjm]; rw [hjm] at q1; exact q1) (some ⟨g112, 0, none⟩) 1 1 [.int .i64 pg, .slice A112 img.length c112, .slice D112 pps.length d112] rfl z112 (by simp [Value.oneCell']) (by omega) (by simp only [maxLen]; omega) HQ2.out.bel.size ?_
      intro v8 w8 ho8 hg8 _ _
      obtain ⟨y8, z8, cq8⟩ := HQ2.out.push q1 q2 q3 r112 q112 (by rw [hjm]; exact ho8) hg8
      obtain ⟨A8, c8, rfl, _, _⟩ := own_form ho8
      have z8' := z8 2
      have HC8 := Lib.hid cq8
      clear ho8 hg8 z8 cq8 q1 q2 q3 hjm
      refine hK.out _ _ trivial (fun _ => ?_)
      clear hK KK
      try simp only [Act.put, List.setIfInBounds_toArray, List.set_cons_zero, List.set_cons_succ]
      refine wpAnyH_ready (rs := [13]) (by kernel_rfl) (by simp) ?_
      refine AllReadyH.cons rfl (fun KK hK => ?_) AllReadyH.nil
      try simp only [List.getElem_toArray, List.getElem_cons_succ, List.getElem_cons_zero]
      go_simp
      refine hK.out _ _ trivial (fun _ => ?_)
      clear hK KK
      try simp only [List.setIfInBounds_toArray, List.set_cons_zero, List.set_cons_succ]
      refine wpAnyH_ready (rs := [14]) (by kernel_rfl) (by simp) ?_
      refine AllReadyH.cons rfl (fun KK hK => ?_) AllReadyH.nil
      try simp only [List.getElem_toArray, List.getElem_cons_succ, List.getElem_cons_zero]
      go_simp
      refine hK.out _ _ trivial (fun _ => ?_)
      clear hK KK
      try simp only [List.setIfInBounds_toArray, List.set_cons_zero, List.set_cons_succ]
      refine wpAnyH_done (by kernel_rfl) ?_ _
      go_wp2_with fail
      go_roundw
      case rel => exact ⟨j + 1, _, by omega, by go_num, Lib.hid (by rw [HT.out]; exact HC8.out)⟩
      case measure => simp [intOf]; omega
    · obtain rfl : j = n := by omega
      have t1 : decide ((j : Int) < (j : Int)) = false := decide_eq_false (by omega)
      have o0 : wr.cell? ⟨w.heap.size + 1 + 1, 0, none⟩ = some (.int .u8 k) := HQ.out.o0
      have o1 : wr.cell? ⟨w.heap.size + 1 + 1, 1, none⟩ = some (.int .i64 tx) := HQ.out.o1
      have o2 : wr.cell? ⟨w.heap.size + 1 + 1, 2, none⟩ = some v := HQ.out.o2
      have g0 : wr.frozen? ⟨w.heap.size + 1, 0, none⟩ = false := by simp [World.frozen?, HQ.out.r]
      have g1 : wr.frozen? ⟨w.heap.size + 1, 1, none⟩ = false := by simp [World.frozen?, HQ.out.r]
      have g2 : wr.frozen? ⟨w.heap.size + 1, 2, none⟩ = false := by simp [World.frozen?, HQ.out.r]
      have r0 : wr.cell? ⟨w.heap.size + 1, 0, none⟩ = some (.int .u8 0) := by rw [cell_of_row wr _ 0 _ _ _ HQ.out.r]; rfl
      have r1 : wr.cell? ⟨w.heap.size + 1, 1, none⟩ = some (.int .i64 0) := by rw [cell_of_row wr _ 1 _ _ _ HQ.out.r]; rfl
      have r2 : wr.cell? ⟨w.heap.size + 1, 2, none⟩ = some (.slice none 0 0) := by rw [cell_of_row wr _ 2 _ _ _ HQ.out.r]; rfl
      obtain ⟨Av, cv, hv, _, _⟩ := own_form HQ.out.row.choose_spec.1
      subst hv
      have HFIN : Hid (∀ w2, w2 = ((wr.setCell ⟨w.heap.size + 1, 0, none⟩ (.int .u8 k)).setCell ⟨w.heap.size + 1, 1, none⟩ (.int .i64 tx)).setCell ⟨w.heap.size + 1, 2, none⟩ (.slice Av (cs.take j).length cv) →
          w2.heap[w.heap.size + 1]? = some (.cells #[.int .u8 k, .int .i64 tx, .slice Av (cs.take j).length cv] 38 (0, 0)) ∧ OCW w2 w.heap.size (.slice Av (cs.take j).length cv) cs ∧ Below w.heap.size w w2) := Lib.hid (by
        rintro w2 rfl
        have o : Off (fun k => k = w.heap.size + 1) wr (((wr.setCell ⟨w.heap.size + 1, 0, none⟩ (.int .u8 k)).setCell ⟨w.heap.size + 1, 1, none⟩ (.int .i64 tx)).setCell ⟨w.heap.size + 1, 2, none⟩ (.slice Av (cs.take j).length cv)) := (((Off.refl (fun k => k = w.heap.size + 1) wr).setCell _ rfl).setCell _ rfl).setCell _ rfl
        refine ⟨?_, ?_, ((HQ.out.bel.setCell (by simp) _).setCell (by simp) _).setCell (by simp) _⟩
        · simp only [World.setCell, Array.getElem?_modify, if_pos, HQ.out.r]
          rfl
        · have q := HQ.out.row.ty o (fun k e => by subst e; exact ⟨_, _, _, HQ.out.r, by decide, by decide, by decide⟩)
          have e : cs.take j = cs := List.take_of_length_le (Nat.le_of_eq HLN.out)
          rw [e] at q
          rw [e]
          exact q)
      clear HQ
      generalize (cs.take j).length = L at *
      go_wp2_with fail
      obtain ⟨f1, f2, f3⟩ := HFIN.out _ rfl
      clear HFIN o0 o1 o2 r0 r1 r2 g0 g1 g2
      generalize ((wr.setCell ⟨w.heap.size + 1, 0, none⟩ (.int .u8 k)).setCell ⟨w.heap.size + 1, 1, none⟩ (.int .i64 tx)).setCell ⟨w.heap.size + 1, 2, none⟩ (.slice Av L cv) = wf at *
      have z0 : wf.cell? ⟨w.heap.size + 1, 0, none⟩ = some (.int .u8 k) := by rw [cell_of_row wf _ 0 _ _ _ f1]; rfl
      have z1 : wf.cell? ⟨w.heap.size + 1, 1, none⟩ = some (.int .i64 tx) := by rw [cell_of_row wf _ 1 _ _ _ f1]; rfl
      have z2 : wf.cell? ⟨w.heap.size + 1, 2, none⟩ = some ((.slice Av L cv)) := by rw [cell_of_row wf _ 2 _ _ _ f1]; rfl
      refine bodyPost_ret (v := .agg #[.int .u8 k, .int .i64 tx, (.slice Av L cv)]) (by simp [results, Try.results25, go_sem, z0, z1, z2]) rfl ?_
      exact ⟨_, rfl, f2, f3⟩

end Go.Proofs.Ythpjjoahffagcaa
