/-
  The walk of RecordNumbers.
-/
import Derived.Test.YthpjjoahffagcaaRnA
namespace Go.Proofs.Ythpjjoahffagcaa
open Go.RowKit

/-- The record that grows by changes, since w5. -/
structure MW (w5 wr : World) (v : Value) (acc : List Ch) : Prop where
  o : wr.heap[w5.heap.size]? = some (.cells #[.int .u8 1, .int .i64 0, v] 38 (0, 0))
  row : OCW wr w5.heap.size v acc
  bel : Below w5.heap.size w5 wr
section
variable {w wr w4 : World} {v v4 : Value} {acc : List Ch}
theorem MW.below (h : MW w wr v acc) (hb : Below wr.heap.size wr w4) : MW w w4 v acc := ⟨(hb.block _ (Array.getElem?_eq_some_iff.1 h.o).1).trans h.o, h.row.below hb, gr_trans h.bel hb⟩
theorem MW.c0 (h : MW w wr v acc) : wr.cell? ⟨w.heap.size, 0, none⟩ = some (.int .u8 1) := by rw [cell_of_row wr _ 0 _ _ _ h.o]; rfl
theorem MW.c1 (h : MW w wr v acc) : wr.cell? ⟨w.heap.size, 1, none⟩ = some (.int .i64 0) := by rw [cell_of_row wr _ 1 _ _ _ h.o]; rfl
theorem MW.c2 (h : MW w wr v acc) : wr.cell? ⟨w.heap.size, 2, none⟩ = some v := by rw [cell_of_row wr _ 2 _ _ _ h.o]; rfl
theorem MW.push (h : MW w wr v acc) {us : List (Int × Value × Value)} (r1 : wr.ownsRow w.heap.size 56 3 v acc.length (chs us)) (r2 : us.length = acc.length) (r3 : ∀ (i : Nat) (p : Ch) (q : Int × Value × Value), acc[i]? = some p → us[i]? = some q → q.1 = p.1 ∧ OB wr w.heap.size q.2.1 p.2.1 ∧ OW wr w.heap.size q.2.2 p.2.2) {a : Int} {u1 u2 : Value} {l : List UInt8} {ps : List Pc} (hu : OB wr w.heap.size u1 l) (hu2 : OW wr w.heap.size u2 ps)
    (ho : w4.ownsRow w.heap.size 56 3 v4 (acc.length + 1) (chs us ++ [.int .i64 a, u1, u2])) (hg : wr.grownBy w4 v.ownBlock) :
    w4.cell? ⟨w.heap.size, 2, none⟩ = some v ∧ (∀ j, w4.frozen? ⟨w.heap.size, j, none⟩ = false) ∧ MW w (w4.setCell ⟨w.heap.size, 2, none⟩ v4) v4 (acc ++ [(a, l, ps)]) := by
  have o : Off (fun k => v.ownBlock = some k) wr w4 := Off.of_grown hg (fun _ e => e)
  have hc4 : w4.heap[w.heap.size]? = some (.cells #[.int .u8 1, .int .i64 0, v] 38 (0, 0)) :=
    (o.block _ (Array.getElem?_eq_some_iff.1 h.o).1 (fun e => by
      obtain ⟨cur, hc⟩ := own_blk r1 e
      exact cells_ne hc h.o (by decide))).trans h.o
  have o5 : Off (fun k => k = w.heap.size) w4 (w4.setCell ⟨w.heap.size, 2, none⟩ v4) := (Off.refl (fun k => k = w.heap.size) w4).setCell _ rfl
  refine ⟨by rw [cell_of_row w4 _ 2 _ _ _ hc4]; rfl, fun j => by simp [World.frozen?, hc4], ?_, ?_, ?_⟩
  · simp only [World.setCell, Array.getElem?_modify, if_pos, hc4]
    rfl
  · have q := OCW.push (w4 := w4) r2 r3 hu hu2 hg (fun k hk => own_blk r1 hk) ho
    exact q.ty o5 (fun k e => by subst e; exact ⟨_, _, _, hc4, by decide, by decide, by decide⟩)
  · exact (gr_own h.bel r1 hg).setCell (by simp) _
end
def manyC (k : Nat) : List Ch := (List.range k).map fun (i : Nat) => (((i : Int), ([] : List UInt8), ([] : List Pc)) : Ch)
theorem manyC_snoc (k : Nat) : manyC (k + 1) = manyC k ++ [((k : Int), [], [])] := by
  unfold manyC
  rw [List.range_succ, List.map_append]
  rfl
theorem manyC_len (k : Nat) : (manyC k).length = k := by simp [manyC]
def fineC : List Ch := [(4095, zR 4080, [])]
theorem fine_right : rightR 1 4611686018427387904 fineC = true := by decide +kernel
theorem many_right : rightR 1 0 (manyC 17) = false := by decide +kernel
def movedC : List Ch := [(2, [], [(4, [7])])]
def atomC : List Ch := [(2, [], [(3, [7])])]
theorem moved_ne : movedC ≠ atomC := by decide +kernel
def formL : List UInt8 := atomL.set 19 2
theorem form_dec : decE formL = 151 := by decide +kernel

theorem setCell_below {w w' : World} (h : Below w.heap.size w w') (j : Nat) (x : Int) : Below w.heap.size w (w'.setCell ⟨w.heap.size, j, none⟩ (.int .u8 x)) := h.setCell (Nat.le_refl _) _
theorem moved_cr {w : World} {G1 G2 G3 : Nat} (h1 : BB w G1 [7]) (h2 : w.heap[G2]? = some (.cells #[.int .i64 3, .slice (some ⟨G1, 0, none⟩) 1 1] 29 (0, 0))) (h3 : w.heap[G3]? = some (.cells #[.int .i64 2, .slice none 0 0, .slice (some ⟨G2, 0, none⟩) 1 1] 56 (0, 0))) :
    CR (w.setCell ⟨G2, 0, none⟩ (.int .i64 4)) (some ⟨G3, 0, none⟩) 1 movedC := by
  have o : Off (fun k => k = G2) w (w.setCell ⟨G2, 0, none⟩ (.int .i64 4)) := (Off.refl (fun k => k = G2) w).setCell _ rfl
  have n1 : G1 ≠ G2 := h1.ne h2 (by decide)
  have n3 : G3 ≠ G2 := fun e => by subst e; exact cells_ne h3 h2 (by decide)
  have z1 : BB (w.setCell ⟨G2, 0, none⟩ (.int .i64 4)) G1 [7] := (o.block _ h1.lt n1).trans h1
  have z3 := (o.block _ (Array.getElem?_eq_some_iff.1 h3).1 n3).trans h3
  have z2 : (w.setCell ⟨G2, 0, none⟩ (.int .i64 4)).heap[G2]? = some (.cells #[.int .i64 4, .slice (some ⟨G1, 0, none⟩) 1 1] 29 (0, 0)) := by
    simp only [World.setCell, Array.getElem?_modify, if_pos, h2]
    rfl
  generalize w.setCell ⟨G2, 0, none⟩ (.int .i64 4) = w' at *
  have v1 : VB w' (.slice (some ⟨G1, 0, none⟩) 1 1) [7] := (z1.vn rfl (by simp [maxLen])).vb
  have v2 : VP w' (.slice (some ⟨G2, 0, none⟩) 1 1) [(4, [7])] := ⟨_, _, rfl, ⟨[(4, .slice (some ⟨G1, 0, none⟩) 1 1)], rd_blk z2 1 2 rfl, rfl, fun i p q hp hq => by
    obtain rfl | h0 : i = 0 ∨ 1 ≤ i := by omega
    · simp at hp hq
      subst hp hq
      exact ⟨rfl, v1⟩
    · rw [List.getElem?_eq_none (by simpa using h0)] at hp
      cases hp⟩, Nat.le_refl _, by simp [maxLen]⟩
  refine ⟨[(2, .slice none 0 0, .slice (some ⟨G2, 0, none⟩) 1 1)], rd_blk z3 1 3 rfl, rfl, fun i p q hp hq => ?_⟩
  obtain rfl | h0 : i = 0 ∨ 1 ≤ i := by omega
  · simp [movedC] at hp hq
    subst hp hq
    exact ⟨rfl, (VN.nil w').vb, v2⟩
  · rw [List.getElem?_eq_none (by simpa [movedC] using h0)] at hp
    cases hp

def MP.at1 : MP := ⟨fun v w => ∃ A, v = .agg #[.int .u8 1, .int .i64 1, .slice A 1 1] ∧ CR w A 1 atomC, fun _ _ _ hb ⟨A, e, h⟩ => ⟨A, e, h.below hb⟩⟩
def rs17 : List Rec := [⟨1, 0, []⟩, ⟨2, 0, atomC⟩, ⟨4, 0, []⟩, ⟨0, 0, []⟩, ⟨3, -1, []⟩, ⟨3, 4611686018427387905, []⟩, ⟨1, 0, [(2, [], []), (2, [], [])]⟩, ⟨1, 0, [(4096, [], [])]⟩, ⟨1, 0, [(-1, [], [])]⟩, ⟨1, 0, [(0, zR 4079, [])]⟩, ⟨1, 0, [(0, zR 4080, [(4079, [1])])]⟩,
  ⟨1, 0, [(0, [], [(4080, [1])])]⟩, ⟨1, 0, [(0, [], [(1, [])])]⟩, ⟨1, 0, [(0, [], [(4079, [1]), (4079, [1])])]⟩, ⟨1, 0, [(0, [], [(-1, [1, 2])])]⟩, ⟨1, 0, List.replicate 17 ch0⟩, ⟨1, 0, [(0, [], [(9223372036854775807, [1])])]⟩]
theorem rs17_no : ∀ r ∈ rs17, r.right = false := by decide +kernel
theorem rs17_hi : ∀ r ∈ rs17, r.cs.length ≤ 17 ∧ ∀ c ∈ r.cs, ∀ p ∈ c.2.2, p.1 ≤ 9223372036854775807 := by decide +kernel
def MP.r17 : MP := ⟨fun v w => ∃ A, v = .slice A 17 17 ∧ RW w A 17 rs17, fun _ _ _ hb ⟨A, e, h⟩ => ⟨A, e, h.below hb⟩⟩
def RVL (w : World) (us : List (Int × Int × Value)) (rs : List Rec) : Prop := ∀ (i : Nat) (p : Rec) (q : Int × Int × Value), rs[i]? = some p → us[i]? = some q → q.1 = (p.kind : Int) ∧ q.2.1 = p.tx ∧ VC w q.2.2 p.cs
theorem RVL.nil (w : World) : RVL w [] [] := fun i p q h => by simp at h
theorem RVL.cons {w : World} {us : List (Int × Int × Value)} {rs : List Rec} {k : Nat} {tx : Int} {n : Nat} {cs : List Ch} {u : Value} (hu : CN w u n cs) (h : RVL w us rs) : RVL w (((k : Int), tx, u) :: us) (⟨k, tx, cs⟩ :: rs) := fun i p q hp hq => by
  cases i with
  | zero =>
    simp at hp hq
    subst hp hq
    exact ⟨rfl, rfl, hu.vc⟩
  | succ i => exact h i p q (by simpa using hp) (by simpa using hq)

set_option maxRecDepth 100000 in
set_option maxHeartbeats 8000000 in
theorem RecordNumbers_any (w : World) : Calls Try.prog 8 #[] w fun e w' => e = .returned (.bool true) ∧ Below w.heap.size w w' := by
  obtain ⟨i1, hi1, hy0, hy1, hy2⟩ := info_parts info_change
  have mk80 := run_mk_bytes 4080 (by omega) 4080 rfl
  go_enter Try.func8, Try.ntmps8
  go_upto_region 2 with fail
  have hb1 := gr_alloc (gr_refl w) (.cells (zeroB 4080) 5)
  have HIM : Hid (VN (w.alloc (.cells (zeroB 4080) 5)) (.slice (some ⟨w.heap.size, 0, none⟩) 4080 4080) 4080 (zR 4080)) := Lib.hid (VN.zero w 4080 (by simp [maxLen]))
  have HB1 := Lib.hid hb1
  clear hb1 mk80
  generalize w.alloc (.cells (zeroB 4080) 5) = w1 at *
  generalize hgi : w.heap.size = gi at HIM ⊢
  clear hgi
  go_upto_region 3 with fail
  have hb2 := gr_alloc (gr_refl w1) (.cells #[.int .i64 4095, .slice (some ⟨gi, 0, none⟩) 4080 4080, .slice none 0 0] 56)
  have HFC : CR (w1.alloc (.cells #[.int .i64 4095, .slice (some ⟨gi, 0, none⟩) 4080 4080, .slice none 0 0] 56)) (some ⟨w1.heap.size, 0, none⟩) 1 fineC := CR.lit1 w1 HIM.out.vb (PN.nil w1).vp
  have hs2 : (w1.alloc (.cells #[.int .i64 4095, .slice (some ⟨gi, 0, none⟩) 4080 4080, .slice none 0 0] 56)).heap.size = w1.heap.size + 1 := World.size_alloc _ _
  generalize w1.alloc (.cells #[.int .i64 4095, .slice (some ⟨gi, 0, none⟩) 4080 4080, .slice none 0 0] 56) = w2 at *
  rw [← hs2]
  have hb3 := gr_alloc (gr_refl w2) (.cells #[.int .u8 1, .int .i64 4611686018427387904, .slice (some ⟨w1.heap.size, 0, none⟩) 1 1] 38)
  have HFX := Lib.hid (B3.new w2 (.int .u8 1) (.int .i64 4611686018427387904) (.slice (some ⟨w1.heap.size, 0, none⟩) 1 1) (t := 38) (by decide))
  have HFC3 := Lib.hid (HFC.below hb3)
  have HIM3 := Lib.hid (HIM.out.below (gr_trans hb2 hb3))
  have HB3 := Lib.hid (gr_trans HB1.out (gr_trans hb2 hb3))
  clear HFC hs2 hb2 hb3 HIM HB1
  generalize w2.alloc (.cells #[.int .u8 1, .int .i64 4611686018427387904, .slice (some ⟨w1.heap.size, 0, none⟩) 1 1] 38) = w3 at *
  generalize w2.heap.size = gx at *
  generalize w1.heap.size = gc at *
  -- the tests of region 3
  go_wp2_with fail
  refine (commit_any w3).mono ?_
  rintro e w4 ⟨rfl, hb4⟩
  go_wp2_with fail
  refine (Right_any 2 5 none 0 0 [] w4 (CR.none_ _ _) (by omega) (by simp)).mono ?_
  rw [show rightR 2 5 [] = true from by decide +kernel]
  rintro e w5 ⟨rfl, hb5⟩
  have hbb := gr_trans hb4 hb5
  clear hb4 hb5
  go_wp2_with fail
  refine (atom_any w5).mono ?_
  rintro e w6 ⟨A6, rfl, hc6, hb6⟩
  go_wp2_with fail
  refine (Right_any 1 1 A6 1 1 atomC w6 hc6 (by omega) (by simp [atomC])).mono ?_
  rw [show rightR 1 1 atomC = true from by decide +kernel]
  rintro e w7 ⟨rfl, hb7⟩
  have hbb := gr_trans (gr_trans hbb hb6) hb7
  clear hb6 hb7 hc6
  have y0 := (HFX.out.nb (NB.below hbb)).c0
  have y1 := (HFX.out.nb (NB.below hbb)).c1
  have y2 := (HFX.out.nb (NB.below hbb)).c2
  go_wp2_with fail
  refine (Right_any 1 4611686018427387904 (some ⟨gc, 0, none⟩) 1 1 fineC w7 (HFC3.out.below hbb) (by omega) (by simp [fineC])).mono ?_
  rw [fine_right]
  rintro e w8 ⟨rfl, hb8⟩
  have hbb := gr_trans hbb hb8
  clear hb8 y0 y1 y2
  go_wp2_with fail
  refine (atom_any w8).mono ?_
  rintro e w9 ⟨A9, rfl, hc9, hb9⟩
  go_wp2_with fail
  refine (atom_any w9).mono ?_
  rintro e wa ⟨Aa, rfl, hca, hba⟩
  go_wp2_with fail
  refine (Same_any 1 1 1 1 A9 Aa 1 1 1 1 atomC atomC wa (CR.below hc9 hba) hca (by omega) (by omega) (by simp [atomC]) (by simp [atomC])).mono ?_
  rw [show decide ((1 : Int) = 1 ∧ (1 : Int) = 1 ∧ atomC = atomC) = true from decide_eq_true ⟨rfl, rfl, rfl⟩]
  rintro e wb ⟨rfl, hbb2⟩
  have hbb := gr_trans (gr_trans (gr_trans hbb hb9) hba) hbb2
  clear hb9 hba hbb2 hc9 hca
  go_wp2_with fail
  refine (atom_any wb).mono ?_
  rintro e wc ⟨Ac, rfl, hcc, hbc⟩
  go_wp2_with fail
  refine (commit_any wc).mono ?_
  rintro e wd ⟨rfl, hbd⟩
  go_wp2_with fail
  refine (Same_any 1 2 1 5 Ac none 1 0 1 0 atomC [] wd (CR.below hcc hbd) (CR.none_ _ _) (by omega) (by omega) (by simp [atomC]) (by simp)).mono ?_
  rw [show decide ((1 : Int) = 2 ∧ (1 : Int) = 5 ∧ atomC = []) = false from decide_eq_false (fun h => by cases h.1)]
  rintro e we ⟨rfl, hbe⟩
  have hbb := gr_trans (gr_trans (gr_trans hbb hbc) hbd) hbe
  have HIMe := Lib.hid (HIM3.out.below hbb)
  have HBe := Lib.hid (gr_trans HB3.out hbb)
  clear hbc hbd hbe hcc hbb HFX HFC3 HIM3 HB3
  go_upto_region 7 with fail
  have hbf := gr_alloc (gr_refl we) (.cells #[.int .u8 1] 5)
  have v1 : VN (we.alloc (.cells #[.int .u8 1] 5)) (.slice (some ⟨we.heap.size, 0, none⟩) 1 1) 1 [1] := VN.lit we [1] #[.int .u8 1] 1 rfl (by simp [maxLen]) rfl
  have s1 : (we.alloc (.cells #[.int .u8 1] 5)).heap.size = we.heap.size + 1 := World.size_alloc _ _
  generalize we.alloc (.cells #[.int .u8 1] 5) = wf at *
  rw [← s1]
  have hbg := gr_alloc (gr_refl wf) (.cells #[.int .i64 4079, .slice (some ⟨we.heap.size, 0, none⟩) 1 1] 29)
  have x1 := B2.new wf (.int .i64 4079) (.slice (some ⟨we.heap.size, 0, none⟩) 1 1) (t := 29) (by decide)
  have s2 : (wf.alloc (.cells #[.int .i64 4079, .slice (some ⟨we.heap.size, 0, none⟩) 1 1] 29)).heap.size = wf.heap.size + 1 := World.size_alloc _ _
  generalize wf.alloc (.cells #[.int .i64 4079, .slice (some ⟨we.heap.size, 0, none⟩) 1 1] 29) = wg at *
  rw [← s2]
  have HONE := Lib.hid (v1.below hbg)
  have HP := Lib.hid x1
  have HIMg := Lib.hid (HIMe.out.below (gr_trans hbf hbg))
  have HBg := Lib.hid (gr_trans HBe.out (gr_trans hbf hbg))
  have HM0 : Hid (MW wg (wg.alloc (.cells #[.int .u8 1, .int .i64 0, .slice none 0 0] 38)) (.slice none 0 0) (manyC 0)) := Lib.hid ⟨heap_alloc_new wg _, OCW.nil _ _, gr_alloc (gr_refl wg) _⟩
  clear hbf v1 s1 hbg x1 s2 HIMe HBe
  generalize wf.heap.size = gp at *
  generalize we.heap.size = go at *
  generalize wg.alloc (.cells #[.int .u8 1, .int .i64 0, .slice none 0 0] 38) = wh at *
  go_wp2_with fail
  go_loopw [5] (fun i wr => ∃ (k : Nat) (v : Value), k ≤ 17 ∧ i = .int .i64 (k : Int) ∧ Hid (MW wg wr v (manyC k))) (fun i _ => 17 - (intOf i).toNat)
  case atStart => exact ⟨0, _, by omega, rfl, HM0⟩
  case round =>
    clear HM0
    obtain ⟨k, v, hk, rfl, HM⟩ := hrel
    have x2 := HM.out.c2
    by_cases hlt : k < 17
    · have t1 : decide ((k : Int) < 17) = true := decide_eq_true (by omega)
      have j0 : (0 : Int) ≤ (k : Int) := Int.natCast_nonneg _
      have HLA := Lib.hid (manyC_len k)
      have hbl := gr_alloc (gr_refl wr) (.cells #[.int .i64 (k : Int), .slice none 0 0, .slice none 0 0] 56)
      have HMl := Lib.hid (HM.out.below hbl)
      obtain ⟨us, q1, q2, q3⟩ := HMl.out.row
      obtain ⟨Av, cv, hv, _, _⟩ := own_form q1
      rw [HLA.out] at hv
      subst hv
      have Q1 := Lib.hid q1
      have Q2 := Lib.hid q2
      have Q3 := Lib.hid q3
      have hbs := HMl.out.bel.size
      clear hbl q1 q2 q3
      go_wp2_with (at_builtin; refine wpList_append_Rd _ rfl (.tmp 70) (.tmp 73) _ rfl wg.heap.size 56 i1 _ 3 56 Try.underlying36 hi1 hy0 hy1 hy2 rfl (.slice Av k cv) k (chs us) rfl (by have := Q1.out; rw [HLA.out] at this; exact this) (some ⟨wr.heap.size, 0, none⟩) 1 1 [.int .i64 (k : Int), .slice none 0 0, .slice none 0 0] rfl (Rd.new wr _ #[.int .i64 (k : Int), .slice none 0 0, .slice none 0 0] 1 3 rfl) (by simp [Value.oneCell']) (by omega) (by simp only [maxLen]; omega) hbs ?_; intro v8 w8 ho8 hg8 _ _; obtain ⟨y8, z8, m8⟩ := HMl.out.push Q1.out Q2.out Q3.out (OB.nil _ _) (OW.nil _ _) (by rw [HLA.out]; exact ho8) hg8; obtain ⟨A8, c8, rfl, _, _⟩ := own_form ho8; have z8' := z8 2; have HC8 := Lib.hid m8; clear ho8 hg8 z8 m8)
      go_roundw
      case rel => exact ⟨k + 1, _, by omega, by go_num, Lib.hid (by rw [manyC_snoc]; exact HC8.out)⟩
      case measure => simp [intOf]; omega
    · obtain rfl : k = 17 := by omega
      have t1 : decide (((17 : Nat) : Int) < 17) = false := rfl
      have HMR := Lib.hid many_right
      have H17B : Hid (∀ c ∈ manyC 17, ∀ p ∈ c.2.2, p.1 ≤ 9223372036854775807) := Lib.hid (by decide +kernel)
      obtain ⟨A17, c17, hv, hc17, _, _⟩ := HM.out.row.cr
      have hl17 := manyC_len 17
      rw [hl17] at hv hc17
      have HM17 := Lib.hid hc17
      subst hv
      clear hlt hc17 hl17
      generalize manyC 17 = C17 at *
      have HIMr := Lib.hid (HIMg.out.below HM.out.bel)
      have HONEr := Lib.hid (HONE.out.below HM.out.bel)
      have HPr := Lib.hid (HP.out.nb (NB.below HM.out.bel))
      have HBr := Lib.hid (gr_trans HBg.out HM.out.bel)
      clear HIMg HONE HP HBg x2 t1 hk
      go_wp2_with fail
      refine (atom_exact wr).mono ?_
      rintro e wj ⟨rfl, y1, y2, y3, hbj⟩
      have hbk := gr_alloc (gr_refl wj) (.cells #[.int .u8 1, .int .i64 1, .slice (some ⟨wr.heap.size + 1 + 1 + 1, 0, none⟩) 1 1] 38)
      have HX6 := Lib.hid (B3.new wj (.int .u8 1) (.int .i64 1) (.slice (some ⟨wr.heap.size + 1 + 1 + 1, 0, none⟩) 1 1) (t := 38) (by decide))
      have y1 : BB _ _ _ := (hbk.block _ y1.lt).trans y1
      have y2 := (hbk.block _ (Array.getElem?_eq_some_iff.1 y2).1).trans y2
      have y3 := (hbk.block _ (Array.getElem?_eq_some_iff.1 y3).1).trans y3
      have hbk2 := gr_trans hbj hbk
      clear hbj hbk
      go_upto_region 12 with fail
      have hne : wj.heap.size ≠ wr.heap.size + 1 + 1 := fun e => cells_ne HX6.out.2 (by rw [e]; exact y2) (by decide)
      generalize wj.alloc (.cells #[.int .u8 1, .int .i64 1, .slice (some ⟨wr.heap.size + 1 + 1 + 1, 0, none⟩) 1 1] 38) = wk at *
      generalize wj.heap.size = g6 at *
      have HMV := Lib.hid (moved_cr y1 y2 y3)
      have o : Off (fun k => k = wr.heap.size + 1 + 1) wk (wk.setCell ⟨wr.heap.size + 1 + 1, 0, none⟩ (.int .i64 4)) := (Off.refl (fun k => k = wr.heap.size + 1 + 1) wk).setCell _ rfl
      have HX6l : Hid (B3 (wk.setCell ⟨wr.heap.size + 1 + 1, 0, none⟩ (.int .i64 4)) g6 (.int .u8 1) (.int .i64 1) (.slice (some ⟨wr.heap.size + 1 + 1 + 1, 0, none⟩) 1 1) 38) := Lib.hid ⟨HX6.out.1, (o.block _ (Array.getElem?_eq_some_iff.1 HX6.out.2).1 hne).trans HX6.out.2⟩
      have hbl : Below wr.heap.size wr (wk.setCell ⟨wr.heap.size + 1 + 1, 0, none⟩ (.int .i64 4)) := hbk2.setCell (by simp; omega) _
      have HML := Lib.hid (HM.out.below hbl)
      have H17l := Lib.hid (HM17.out.below hbl)
      have HIMl := Lib.hid (HIMr.out.below hbl)
      have HONEl := Lib.hid (HONEr.out.below hbl)
      have HPl := Lib.hid (HPr.out.nb (NB.below hbl))
      have HBl := Lib.hid (gr_trans HBr.out hbl)
      have u0 := HX6.out.c2
      have u1 : wk.cell? ⟨wr.heap.size + 1 + 1 + 1, 2, none⟩ = some (.slice (some ⟨wr.heap.size + 1 + 1, 0, none⟩) 1 1) := by rw [cell_of_row wk _ 2 _ _ _ y3]; rfl
      have u2 : wk.cell? ⟨wr.heap.size + 1 + 1, 0, none⟩ = some (.int .i64 3) := by rw [cell_of_row wk _ 0 _ _ _ y2]; rfl
      have u3 : wk.frozen? ⟨wr.heap.size + 1 + 1, 0, none⟩ = false := by simp [World.frozen?, y2]
      clear y1 y2 y3 hbk2 hne o hbl HIMr HONEr HPr HBr HM HX6
      go_upto_region 13 with fail
      clear u0 u1 u2 u3
      generalize wk.setCell ⟨wr.heap.size + 1 + 1, 0, none⟩ (.int .i64 4) = wl at *
      generalize wr.heap.size + 1 + 1 + 1 = g3 at *
      go_wp2_with fail
      refine (atomBytes_exact wl).mono ?_
      rintro e wm ⟨rfl, bbm, hbm⟩
      have u1 := bbm.cell (j := 19) (by decide)
      have u2 := bbm.frozen 19
      have hbn := setCell_below hbm 19 2
      have bbn := bbm.setInt 19 2 (by omega) (by omega)
      have HFM : Hid (BR (wm.setCell ⟨wl.heap.size, 19, none⟩ (.int .u8 2)) (some ⟨wl.heap.size, 0, none⟩) 27 formL) := Lib.hid bbn.readsAll
      have HMV2 := Lib.hid (HMV.out.below hbn)
      have H17n := Lib.hid (H17l.out.below hbn)
      have HX7 := Lib.hid (HX6l.out.nb (NB.below hbn))
      have HMn := Lib.hid (HML.out.below hbn)
      have HIMn := Lib.hid (HIMl.out.below hbn)
      have HONEn := Lib.hid (HONEl.out.below hbn)
      have HPn := Lib.hid (HPl.out.nb (NB.below hbn))
      have HBn := Lib.hid (gr_trans HBl.out hbn)
      clear bbm bbn hbn hbm HMV HX6l HML HIMl HONEl HPl HBl
      go_upto_region 15 with fail
      clear u1 u2
      generalize wm.setCell ⟨wl.heap.size, 19, none⟩ (.int .u8 2) = wn at *
      generalize wl.heap.size = gf at *
      have FD := Lib.hid form_dec
      have D1 := Decode_any (some ⟨gf, 0, none⟩) 27 27 formL wn HFM.out (by omega) (by omega) (by omega)
      rw [FD.out] at D1
      generalize (decR formL).kind = fk at *
      generalize (decR formL).tx = ft at *
      generalize (decR formL).cs = fcs at *
      generalize decN formL = fnn at *
      have HD1 := Lib.hid D1
      clear D1 FD
      go_wp2_with fail
      refine HD1.out.mono ?_
      rintro e wo ⟨vo, rfl, oco, hbo⟩
      obtain ⟨Ao, co, rfl, _, _, _⟩ := oco.cr
      have hbp := gr_trans hbo (gr_alloc (gr_refl wo) (.cells #[.int .u8 (fk : Int), .int .i64 ft, .slice Ao fcs.length co] 38))
      have HMVp := Lib.hid (HMV2.out.below hbp)
      have H17p := Lib.hid (H17n.out.below hbp)
      have HXp := Lib.hid (HX7.out.nb (NB.below hbp))
      have HMp := Lib.hid (HMn.out.below hbp)
      have HIMp := Lib.hid (HIMn.out.below hbp)
      have HONEp := Lib.hid (HONEn.out.below hbp)
      have HPp := Lib.hid (HPn.out.nb (NB.below hbp))
      have HBp := Lib.hid (gr_trans HBn.out hbp)
      clear oco hbo hbp HD1 HMV2 HX7 HMn HIMn HONEn HPn HBn HFM
      go_upto_region 16 with fail
      generalize wo.alloc (.cells #[.int .u8 (fk : Int), .int .i64 ft, .slice Ao fcs.length co] 38) = wp at *
      generalize wo.heap.size = g8 at *
      have QM := Lib.hid (And.intro HMp.out.c0 (And.intro HMp.out.c1 HMp.out.c2))
      have QX := Lib.hid (And.intro HXp.out.c0 (And.intro HXp.out.c1 HXp.out.c2))
      have HMO := Lib.hid moved_ne
      refine' wp_region_mono (by kernel_rfl) (by kernel_rfl) (by kernel_rfl) (by kernel_rfl) (by kernel_rfl) (by kernel_rfl)
        [MP.is (.agg #[.int .u8 1, .int .i64 0, .slice A17 17 c17]), MP.is (.bool false), MP.is (.bool false), MP.is (.agg #[.int .u8 1, .int .i64 1, .slice (some ⟨g3, 0, none⟩) 1 1]), MP.at1, MP.is (.bool false), MP.is (.bool false), MP.is (.bool false), MP.is (.int .i64 151), MP.is (.bool false), MP.is (.bool false)] ?hAA1 ?hst1 ?hend1
      case hAA1 =>
        intro f
        conv => lhs; simp only [putA, dstOf, List.size_toArray, List.length_cons, List.length_nil, Nat.zero_add, Nat.reduceAdd, List.getElem?_toArray, List.getElem?_cons_zero, List.getElem?_cons_succ, Option.bind_some, Act.put, List.setIfInBounds_toArray, List.set_cons_zero, List.set_cons_succ]
        first | done | exact rfl
      case hst1 =>
        change Steps _ _ _ _ _ [0, 1, 2, 3, 4, 5, 6, 7, 8, 9, 10]
        refine Steps.cons rfl ?_ ?_
        · intro f wz hB h K Q hK
          try simp only [List.getElem_toArray, List.getElem_cons_zero]
          have y0 := keep_of_below (bel_drew hB) QM.out.1
          have y1 := keep_of_below (bel_drew hB) QM.out.2.1
          have y2 := keep_of_below (bel_drew hB) QM.out.2.2
          have y3 := keep_of_below (bel_drew hB) QX.out.1
          have y4 := keep_of_below (bel_drew hB) QX.out.2.1
          have y5 := keep_of_below (bel_drew hB) QX.out.2.2
          go_simp
          exact hK _ _ (gr_refl _) rfl
        refine Steps.cons rfl ?_ ?_
        · intro f wz hB h K Q hK
          have h0 : (MP.is (.agg #[.int .u8 1, .int .i64 0, .slice A17 17 c17])).p (f 0) wz := h 0 (by kernel_rfl)
          have e0 : f 0 = (.agg #[.int .u8 1, .int .i64 0, .slice A17 17 c17]) := h0
          simp only [e0] at hK ⊢
          clear e0
          try simp only [List.getElem_toArray, List.getElem_cons_succ, List.getElem_cons_zero]
          go_simp
          refine (Right_any 1 0 A17 17 c17 C17 _ (H17p.out.below (bel_drew hB)) (by omega) H17B.out).mono ?_
          rw [HMR.out]
          rintro e w5 ⟨rfl, hb5⟩
          exact hK _ _ hb5 rfl
        refine Steps.cons rfl ?_ ?_
        · intro f wz hB h K Q hK
          have h1 : (MP.is (.bool false)).p (f 1) wz := h 1 (by kernel_rfl)
          have e1 : f 1 = (.bool false) := h1
          simp only [e1] at hK ⊢
          clear e1
          try simp only [List.getElem_toArray, List.getElem_cons_succ, List.getElem_cons_zero]
          go_simp
          exact hK _ _ (gr_refl _) rfl
        refine Steps.cons rfl ?_ ?_
        · intro f wz hB h K Q hK
          have h2 : (MP.is (.bool false)).p (f 2) wz := h 2 (by kernel_rfl)
          have e2 : f 2 = (.bool false) := h2
          simp only [e2] at hK ⊢
          clear e2
          try simp only [List.getElem_toArray, List.getElem_cons_succ, List.getElem_cons_zero]
          have y0 := keep_of_below (bel_drew hB) QM.out.1
          have y1 := keep_of_below (bel_drew hB) QM.out.2.1
          have y2 := keep_of_below (bel_drew hB) QM.out.2.2
          have y3 := keep_of_below (bel_drew hB) QX.out.1
          have y4 := keep_of_below (bel_drew hB) QX.out.2.1
          have y5 := keep_of_below (bel_drew hB) QX.out.2.2
          go_simp
          exact hK _ _ (gr_refl _) rfl
        refine Steps.cons rfl ?_ ?_
        · intro f wz hB h K Q hK
          have h2 : (MP.is (.bool false)).p (f 2) wz := h 2 (by kernel_rfl)
          have e2 : f 2 = (.bool false) := h2
          simp only [e2] at hK ⊢
          clear e2
          try simp only [List.getElem_toArray, List.getElem_cons_succ, List.getElem_cons_zero]
          go_simp
          refine (atom_any _).mono ?_
          rintro e w5 ⟨A5, rfl, hc5, hb5⟩
          exact hK _ _ hb5 ⟨_, rfl, hc5⟩
        refine Steps.cons rfl ?_ ?_
        · intro f wz hB h K Q hK
          have h2 : (MP.is (.bool false)).p (f 2) wz := h 2 (by kernel_rfl)
          have e2 : f 2 = (.bool false) := h2
          have h3 : (MP.is (.agg #[.int .u8 1, .int .i64 1, .slice (some ⟨g3, 0, none⟩) 1 1])).p (f 3) wz := h 3 (by kernel_rfl)
          have e3 : f 3 = (.agg #[.int .u8 1, .int .i64 1, .slice (some ⟨g3, 0, none⟩) 1 1]) := h3
          have h4 : (MP.at1).p (f 4) wz := h 4 (by kernel_rfl)
          obtain ⟨A4, e4, r4⟩ := h4
          simp only [e2, e3, e4] at hK ⊢
          clear e2 e3 e4
          try simp only [List.getElem_toArray, List.getElem_cons_succ, List.getElem_cons_zero]
          go_simp
          refine (Same_any 1 1 1 1 (some ⟨g3, 0, none⟩) A4 1 1 1 1 movedC atomC _ (HMVp.out.below (bel_drew hB)) r4 (by omega) (by omega) (by simp [movedC]) (by simp [atomC])).mono ?_
          rw [show decide ((1 : Int) = 1 ∧ (1 : Int) = 1 ∧ movedC = atomC) = false from decide_eq_false (fun h => HMO.out h.2.2)]
          rintro e w5 ⟨rfl, hb5⟩
          exact hK _ _ hb5 rfl
        refine Steps.cons rfl ?_ ?_
        · intro f wz hB h K Q hK
          have h2 : (MP.is (.bool false)).p (f 2) wz := h 2 (by kernel_rfl)
          have e2 : f 2 = (.bool false) := h2
          have h5 : (MP.is (.bool false)).p (f 5) wz := h 5 (by kernel_rfl)
          have e5 : f 5 = (.bool false) := h5
          simp only [e2, e5] at hK ⊢
          clear e2 e5
          try simp only [List.getElem_toArray, List.getElem_cons_succ, List.getElem_cons_zero]
          go_simp
          exact hK _ _ (gr_refl _) rfl
        refine Steps.cons rfl ?_ ?_
        · intro f wz hB h K Q hK
          have h6 : (MP.is (.bool false)).p (f 6) wz := h 6 (by kernel_rfl)
          have e6 : f 6 = (.bool false) := h6
          simp only [e6] at hK ⊢
          clear e6
          try simp only [List.getElem_toArray, List.getElem_cons_succ, List.getElem_cons_zero]
          go_simp
          exact hK _ _ (gr_refl _) rfl
        refine Steps.cons rfl ?_ ?_
        · intro f wz hB h K Q hK
          have h7 : (MP.is (.bool false)).p (f 7) wz := h 7 (by kernel_rfl)
          have e7 : f 7 = (.bool false) := h7
          simp only [e7] at hK ⊢
          clear e7
          try simp only [List.getElem_toArray, List.getElem_cons_succ, List.getElem_cons_zero]
          go_simp
          exact hK _ _ (gr_refl _) rfl
        refine Steps.cons rfl ?_ ?_
        · intro f wz hB h K Q hK
          have h7 : (MP.is (.bool false)).p (f 7) wz := h 7 (by kernel_rfl)
          have e7 : f 7 = (.bool false) := h7
          have h8 : (MP.is (.int .i64 151)).p (f 8) wz := h 8 (by kernel_rfl)
          have e8 : f 8 = (.int .i64 151) := h8
          simp only [e7, e8] at hK ⊢
          clear e7 e8
          try simp only [List.getElem_toArray, List.getElem_cons_succ, List.getElem_cons_zero]
          go_simp
          exact hK _ _ (gr_refl _) rfl
        refine Steps.cons rfl ?_ ?_
        · intro f wz hB h K Q hK
          have h7 : (MP.is (.bool false)).p (f 7) wz := h 7 (by kernel_rfl)
          have e7 : f 7 = (.bool false) := h7
          have h9 : (MP.is (.bool false)).p (f 9) wz := h 9 (by kernel_rfl)
          have e9 : f 9 = (.bool false) := h9
          simp only [e7, e9] at hK ⊢
          clear e7 e9
          try simp only [List.getElem_toArray, List.getElem_cons_succ, List.getElem_cons_zero]
          go_simp
          exact hK _ _ (gr_refl _) rfl
        exact Steps.nil
      intro f wq hBq hR
      have e0 : f 0 = (.agg #[.int .u8 1, .int .i64 0, .slice A17 17 c17]) := hR 0 (by decide)
      have e1 : f 1 = (.bool false) := hR 1 (by decide)
      have e2 : f 2 = (.bool false) := hR 2 (by decide)
      have e3 : f 3 = (.agg #[.int .u8 1, .int .i64 1, .slice (some ⟨g3, 0, none⟩) 1 1]) := hR 3 (by decide)
      obtain ⟨A4q, e4, r4q⟩ := (show (MP.at1).p (f 4) wq from hR 4 (by decide))
      have e5 : f 5 = (.bool false) := hR 5 (by decide)
      have e6 : f 6 = (.bool false) := hR 6 (by decide)
      have e7 : f 7 = (.bool false) := hR 7 (by decide)
      have e8 : f 8 = (.int .i64 151) := hR 8 (by decide)
      have e9 : f 9 = (.bool false) := hR 9 (by decide)
      have e10 : f 10 = (.bool false) := hR 10 (by decide)
      simp only [e0, e1, e2, e3, e4, e5, e6, e7, e8, e9, e10]
      clear e0 e1 e2 e3 e4 e5 e6 e7 e8 e9 e10 hR
      have HB16 := bel_drew hBq
      have HIMq := Lib.hid (HIMp.out.below HB16)
      have HONEq := Lib.hid (HONEp.out.below HB16)
      have HPq := Lib.hid (HPp.out.nb (NB.below HB16))
      have HBq := Lib.hid (gr_trans HBp.out HB16)
      clear HB16 hBq HMVp H17p HXp HMp HIMp HONEp HPp HBp QM QX HMO HMR
      go_upto_region 18 with fail
      have OP := Lib.hid (And.intro HPq.out.c0 HPq.out.c1)
      have mk17 := run_mk_changes
      obtain ⟨i0, hi0, hz0, hz1, hz2⟩ := info_parts info_u8
      have hcut := fun W => run_cut_l (P := Try.prog) W 26 5 i0 Try.underlying26 hi0 1 hz1 (some ⟨gi, 0, none⟩) 4080 4080 1 1 rfl (by omega)
      have ecut : cutA (some ⟨gi, 0, none⟩) 4080 1 1 = some ⟨gi, 1, none⟩ := rfl
      rw [ecut] at hcut
      have HCUT : ∀ W, VN W (.slice (some ⟨gi, 0, none⟩) 4080 4080) 4080 (zR 4080) → VN W (.slice (some ⟨gi, 1, none⟩) 4079 4079) 4079 (zR 4079) := fun W h => by
        obtain ⟨A, c, e, h1, h2, h3⟩ := h
        injection e with e _ ec
        subst e ec
        have := BR.cut h1 (k := 1) (j := 4080) (c := 4080) (by omega) (by omega) (by omega)
        have e2 : ((zR 4080).drop 1).take (4080 - 1) = zR 4079 := by unfold zR; simp
        rw [e2] at this
        exact ⟨_, _, rfl, this, by omega, by simp [maxLen]⟩
      have HCUTH := Lib.hid HCUT
      have HFLD : Hid (∀ (A : Option Addr) (W : World), (Instr.field 38 (.agg #[.int .u8 1, .int .i64 1, .slice A 1 1]) 2).run Try.prog W = .ok (.slice A 1 1) W) := Lib.hid (fun A W => by rfl)
      clear HCUT ecut
      refine' wp_region_mono (by kernel_rfl) (by kernel_rfl) (by kernel_rfl) (by kernel_rfl) (by kernel_rfl) (by kernel_rfl)
        [MP.is (.agg #[.int .u8 1, .int .i64 0, .slice none 0 0]), MP.at1, MP.cn 1 atomC, MP.rv 2 0 1 atomC, MP.is (.agg #[.int .u8 4, .int .i64 0, .slice none 0 0]), MP.is (.agg #[.int .u8 0, .int .i64 0, .slice none 0 0]), MP.is (.agg #[.int .u8 3, .int .i64 (-1), .slice none 0 0]), MP.is (.agg #[.int .u8 3, .int .i64 4611686018427387905, .slice none 0 0]), MP.is (.agg #[.int .i64 2, .slice none 0 0, .slice none 0 0]), MP.is (.agg #[.int .i64 2, .slice none 0 0, .slice none 0 0]), MP.cn 2 [(2, [], []), (2, [], [])], MP.rv 1 0 2 [(2, [], []), (2, [], [])], MP.is (.agg #[.int .i64 4096, .slice none 0 0, .slice none 0 0]), MP.cn 1 [(4096, [], [])], MP.rv 1 0 1 [(4096, [], [])], MP.is (.agg #[.int .i64 (-1), .slice none 0 0, .slice none 0 0]), MP.cn 1 [(-1, [], [])], MP.rv 1 0 1 [(-1, [], [])], MP.is (.slice (some ⟨gi, 0, none⟩) 4080 4080), MP.vb 4079 (zR 4079), MP.cv 0 4079 (zR 4079) 0 [], MP.cn 1 [(0, zR 4079, [])], MP.rv 1 0 1 [(0, zR 4079, [])], MP.is (.slice (some ⟨gi, 0, none⟩) 4080 4080), MP.is (.agg #[.int .i64 4079, .slice (some ⟨go, 0, none⟩) 1 1]), MP.ps 1 [(4079, [1])], MP.cv 0 4080 (zR 4080) 1 [(4079, [1])], MP.cn 1 [(0, zR 4080, [(4079, [1])])], MP.rv 1 0 1 [(0, zR 4080, [(4079, [1])])], MP.vb 1 [1], MP.pc 4080 1 [1], MP.ps 1 [(4080, [1])], MP.cv 0 0 [] 1 [(4080, [1])], MP.cn 1 [(0, [], [(4080, [1])])], MP.rv 1 0 1 [(0, [], [(4080, [1])])], MP.is (.agg #[.int .i64 1, .slice none 0 0]), MP.ps 1 [(1, [])], MP.cv 0 0 [] 1 [(1, [])], MP.cn 1 [(0, [], [(1, [])])], MP.rv 1 0 1 [(0, [], [(1, [])])], MP.is (.agg #[.int .i64 4079, .slice (some ⟨go, 0, none⟩) 1 1]), MP.is (.agg #[.int .i64 4079, .slice (some ⟨go, 0, none⟩) 1 1]), MP.ps 2 [(4079, [1]), (4079, [1])], MP.cv 0 0 [] 2 [(4079, [1]), (4079, [1])], MP.cn 1 [(0, [], [(4079, [1]), (4079, [1])])], MP.rv 1 0 1 [(0, [], [(4079, [1]), (4079, [1])])], MP.vb 2 [1, 2], MP.pc (-1) 2 [1, 2], MP.ps 1 [(-1, [1, 2])], MP.cv 0 0 [] 1 [(-1, [1, 2])], MP.cn 1 [(0, [], [(-1, [1, 2])])], MP.rv 1 0 1 [(0, [], [(-1, [1, 2])])], MP.cn 17 (List.replicate 17 ch0), MP.rv 1 0 17 (List.replicate 17 ch0), MP.vb 1 [1], MP.pc 9223372036854775807 1 [1], MP.ps 1 [(9223372036854775807, [1])], MP.cv 0 0 [] 1 [(9223372036854775807, [1])], MP.cn 1 [(0, [], [(9223372036854775807, [1])])], MP.rv 1 0 1 [(0, [], [(9223372036854775807, [1])])], MP.r17, MP.is (.int .i64 17), MP.is (.int .i64 0)] ?hAA2 ?hst2 ?hend2
      case hAA2 =>
        intro f
        conv => lhs; simp only [putA, dstOf, List.size_toArray, List.length_cons, List.length_nil, Nat.zero_add, Nat.reduceAdd, List.getElem?_toArray, List.getElem?_cons_zero, List.getElem?_cons_succ, Option.bind_some, Act.put, List.setIfInBounds_toArray, List.set_cons_zero, List.set_cons_succ]
        first | done | exact rfl
      case hst2 =>
        change Steps _ _ _ _ _ [0, 1, 2, 3, 4, 5, 6, 7, 8, 9, 10, 11, 12, 13, 14, 15, 16, 17, 18, 19, 20, 21, 22, 23, 24, 25, 26, 27, 28, 29, 30, 31, 32, 33, 34, 35, 36, 37, 38, 39, 40, 41, 42, 43, 44, 45, 46, 47, 48, 49, 50, 51, 52, 53, 54, 55, 56, 57, 58, 59, 60, 61, 62]
        refine Steps.cons rfl ?_ ?_
        · intro f wz hB h K Q hK
          try simp only [List.getElem_toArray, List.getElem_cons_zero]
          go_simp
          exact hK _ _ (gr_refl _) rfl
        refine Steps.cons rfl ?_ ?_
        · intro f wz hB h K Q hK
          try simp only [List.getElem_toArray, List.getElem_cons_succ, List.getElem_cons_zero]
          go_simp
          refine (atom_any _).mono ?_
          rintro e w5 ⟨A5, rfl, hc5, hb5⟩
          exact hK _ _ hb5 ⟨_, rfl, hc5⟩
        refine Steps.cons rfl ?_ ?_
        · intro f wz hB h K Q hK
          have h1 : (MP.at1).p (f 1) wz := h 1 (by kernel_rfl)
          obtain ⟨A1, e1, r1⟩ := h1
          simp only [e1] at hK ⊢
          clear e1
          try simp only [List.getElem_toArray, List.getElem_cons_succ, List.getElem_cons_zero]
          have hf := HFLD.out A1
          go_simp
          exact hK _ _ (gr_refl _) ⟨A1, 1, rfl, r1, Nat.le_refl _, by simp [maxLen]⟩
        refine Steps.cons rfl ?_ ?_
        · intro f wz hB h K Q hK
          have h2 : (MP.cn 1 atomC).p (f 2) wz := h 2 (by kernel_rfl)
          obtain ⟨A2, c2, e2, r2, n2, m2⟩ := h2
          simp only [e2] at hK ⊢
          clear e2
          try simp only [List.getElem_toArray, List.getElem_cons_succ, List.getElem_cons_zero]
          go_simp
          exact hK _ _ (gr_refl _) ⟨_, rfl, A2, c2, rfl, r2, n2, m2⟩
        refine Steps.cons rfl ?_ ?_
        · intro f wz hB h K Q hK
          try simp only [List.getElem_toArray, List.getElem_cons_succ, List.getElem_cons_zero]
          go_simp
          exact hK _ _ (gr_refl _) rfl
        refine Steps.cons rfl ?_ ?_
        · intro f wz hB h K Q hK
          try simp only [List.getElem_toArray, List.getElem_cons_succ, List.getElem_cons_zero]
          go_simp
          exact hK _ _ (gr_refl _) rfl
        refine Steps.cons rfl ?_ ?_
        · intro f wz hB h K Q hK
          try simp only [List.getElem_toArray, List.getElem_cons_succ, List.getElem_cons_zero]
          go_simp
          exact hK _ _ (gr_refl _) rfl
        refine Steps.cons rfl ?_ ?_
        · intro f wz hB h K Q hK
          try simp only [List.getElem_toArray, List.getElem_cons_succ, List.getElem_cons_zero]
          go_simp
          exact hK _ _ (gr_refl _) rfl
        refine Steps.cons rfl ?_ ?_
        · intro f wz hB h K Q hK
          try simp only [List.getElem_toArray, List.getElem_cons_succ, List.getElem_cons_zero]
          go_simp
          exact hK _ _ (gr_refl _) rfl
        refine Steps.cons rfl ?_ ?_
        · intro f wz hB h K Q hK
          try simp only [List.getElem_toArray, List.getElem_cons_succ, List.getElem_cons_zero]
          go_simp
          exact hK _ _ (gr_refl _) rfl
        refine Steps.cons rfl ?_ ?_
        · intro f wz hB h K Q hK
          have h8 : (MP.is (.agg #[.int .i64 2, .slice none 0 0, .slice none 0 0])).p (f 8) wz := h 8 (by kernel_rfl)
          have e8 : f 8 = (.agg #[.int .i64 2, .slice none 0 0, .slice none 0 0]) := h8
          have h9 : (MP.is (.agg #[.int .i64 2, .slice none 0 0, .slice none 0 0])).p (f 9) wz := h 9 (by kernel_rfl)
          have e9 : f 9 = (.agg #[.int .i64 2, .slice none 0 0, .slice none 0 0]) := h9
          simp only [e8, e9] at hK ⊢
          clear e8 e9
          try simp only [List.getElem_toArray, List.getElem_cons_succ, List.getElem_cons_zero]
          go_simp
          exact hK _ _ (gr_alloc (gr_refl wz) _) (CN.lit2 wz (VN.nil wz) (PN.nil wz) (VN.nil wz) (PN.nil wz))
        refine Steps.cons rfl ?_ ?_
        · intro f wz hB h K Q hK
          have h10 : (MP.cn 2 [(2, [], []), (2, [], [])]).p (f 10) wz := h 10 (by kernel_rfl)
          obtain ⟨A10, c10, e10, r10, n10, m10⟩ := h10
          simp only [e10] at hK ⊢
          clear e10
          try simp only [List.getElem_toArray, List.getElem_cons_succ, List.getElem_cons_zero]
          go_simp
          exact hK _ _ (gr_refl _) ⟨_, rfl, A10, c10, rfl, r10, n10, m10⟩
        refine Steps.cons rfl ?_ ?_
        · intro f wz hB h K Q hK
          try simp only [List.getElem_toArray, List.getElem_cons_succ, List.getElem_cons_zero]
          go_simp
          exact hK _ _ (gr_refl _) rfl
        refine Steps.cons rfl ?_ ?_
        · intro f wz hB h K Q hK
          have h12 : (MP.is (.agg #[.int .i64 4096, .slice none 0 0, .slice none 0 0])).p (f 12) wz := h 12 (by kernel_rfl)
          have e12 : f 12 = (.agg #[.int .i64 4096, .slice none 0 0, .slice none 0 0]) := h12
          simp only [e12] at hK ⊢
          clear e12
          try simp only [List.getElem_toArray, List.getElem_cons_succ, List.getElem_cons_zero]
          go_simp
          exact hK _ _ (gr_alloc (gr_refl wz) _) (CN.lit1 wz (VN.nil wz) (PN.nil wz))
        refine Steps.cons rfl ?_ ?_
        · intro f wz hB h K Q hK
          have h13 : (MP.cn 1 [(4096, [], [])]).p (f 13) wz := h 13 (by kernel_rfl)
          obtain ⟨A13, c13, e13, r13, n13, m13⟩ := h13
          simp only [e13] at hK ⊢
          clear e13
          try simp only [List.getElem_toArray, List.getElem_cons_succ, List.getElem_cons_zero]
          go_simp
          exact hK _ _ (gr_refl _) ⟨_, rfl, A13, c13, rfl, r13, n13, m13⟩
        refine Steps.cons rfl ?_ ?_
        · intro f wz hB h K Q hK
          try simp only [List.getElem_toArray, List.getElem_cons_succ, List.getElem_cons_zero]
          go_simp
          exact hK _ _ (gr_refl _) rfl
        refine Steps.cons rfl ?_ ?_
        · intro f wz hB h K Q hK
          have h15 : (MP.is (.agg #[.int .i64 (-1), .slice none 0 0, .slice none 0 0])).p (f 15) wz := h 15 (by kernel_rfl)
          have e15 : f 15 = (.agg #[.int .i64 (-1), .slice none 0 0, .slice none 0 0]) := h15
          simp only [e15] at hK ⊢
          clear e15
          try simp only [List.getElem_toArray, List.getElem_cons_succ, List.getElem_cons_zero]
          go_simp
          exact hK _ _ (gr_alloc (gr_refl wz) _) (CN.lit1 wz (VN.nil wz) (PN.nil wz))
        refine Steps.cons rfl ?_ ?_
        · intro f wz hB h K Q hK
          have h16 : (MP.cn 1 [(-1, [], [])]).p (f 16) wz := h 16 (by kernel_rfl)
          obtain ⟨A16, c16, e16, r16, n16, m16⟩ := h16
          simp only [e16] at hK ⊢
          clear e16
          try simp only [List.getElem_toArray, List.getElem_cons_succ, List.getElem_cons_zero]
          go_simp
          exact hK _ _ (gr_refl _) ⟨_, rfl, A16, c16, rfl, r16, n16, m16⟩
        refine Steps.cons rfl ?_ ?_
        · intro f wz hB h K Q hK
          try simp only [List.getElem_toArray, List.getElem_cons_succ, List.getElem_cons_zero]
          go_simp
          exact hK _ _ (gr_refl _) rfl
        refine Steps.cons rfl ?_ ?_
        · intro f wz hB h K Q hK
          have h18 : (MP.is (.slice (some ⟨gi, 0, none⟩) 4080 4080)).p (f 18) wz := h 18 (by kernel_rfl)
          have e18 : f 18 = (.slice (some ⟨gi, 0, none⟩) 4080 4080) := h18
          simp only [e18] at hK ⊢
          clear e18
          try simp only [List.getElem_toArray, List.getElem_cons_succ, List.getElem_cons_zero]
          have hc := hcut wz
          go_simp
          exact hK _ _ (gr_refl _) (HCUTH.out wz (HIMq.out.below (bel_drew hB)))
        refine Steps.cons rfl ?_ ?_
        · intro f wz hB h K Q hK
          have h19 : (MP.vb 4079 (zR 4079)).p (f 19) wz := h 19 (by kernel_rfl)
          obtain ⟨A19, c19, e19, r19, n19, m19⟩ := h19
          simp only [e19] at hK ⊢
          clear e19
          try simp only [List.getElem_toArray, List.getElem_cons_succ, List.getElem_cons_zero]
          go_simp
          exact hK _ _ (gr_refl _) ⟨_, _, rfl, ⟨A19, c19, rfl, r19, n19, m19⟩, PN.nil wz⟩
        refine Steps.cons rfl ?_ ?_
        · intro f wz hB h K Q hK
          have h20 : (MP.cv 0 4079 (zR 4079) 0 []).p (f 20) wz := h 20 (by kernel_rfl)
          obtain ⟨_, _, e20, ⟨A20, c20, rfl, r20, n20, m20⟩, ⟨D20, d20, rfl, s20, o20, t20⟩⟩ := h20
          simp only [e20] at hK ⊢
          clear e20
          try simp only [List.getElem_toArray, List.getElem_cons_succ, List.getElem_cons_zero]
          go_simp
          exact hK _ _ (gr_alloc (gr_refl wz) _) (CN.lit1 wz ⟨A20, c20, rfl, r20, n20, m20⟩ ⟨D20, d20, rfl, s20, o20, t20⟩)
        refine Steps.cons rfl ?_ ?_
        · intro f wz hB h K Q hK
          have h21 : (MP.cn 1 [(0, zR 4079, [])]).p (f 21) wz := h 21 (by kernel_rfl)
          obtain ⟨A21, c21, e21, r21, n21, m21⟩ := h21
          simp only [e21] at hK ⊢
          clear e21
          try simp only [List.getElem_toArray, List.getElem_cons_succ, List.getElem_cons_zero]
          go_simp
          exact hK _ _ (gr_refl _) ⟨_, rfl, A21, c21, rfl, r21, n21, m21⟩
        refine Steps.cons rfl ?_ ?_
        · intro f wz hB h K Q hK
          try simp only [List.getElem_toArray, List.getElem_cons_succ, List.getElem_cons_zero]
          go_simp
          exact hK _ _ (gr_refl _) rfl
        refine Steps.cons rfl ?_ ?_
        · intro f wz hB h K Q hK
          try simp only [List.getElem_toArray, List.getElem_cons_succ, List.getElem_cons_zero]
          have y0 := keep_of_below (bel_drew hB) OP.out.1
          have y1 := keep_of_below (bel_drew hB) OP.out.2
          go_simp
          exact hK _ _ (gr_refl _) rfl
        refine Steps.cons rfl ?_ ?_
        · intro f wz hB h K Q hK
          have h24 : (MP.is (.agg #[.int .i64 4079, .slice (some ⟨go, 0, none⟩) 1 1])).p (f 24) wz := h 24 (by kernel_rfl)
          have e24 : f 24 = (.agg #[.int .i64 4079, .slice (some ⟨go, 0, none⟩) 1 1]) := h24
          simp only [e24] at hK ⊢
          clear e24
          try simp only [List.getElem_toArray, List.getElem_cons_succ, List.getElem_cons_zero]
          go_simp
          exact hK _ _ (gr_alloc (gr_refl wz) _) (PN.lit1 wz (HONEq.out.below (bel_drew hB)))
        refine Steps.cons rfl ?_ ?_
        · intro f wz hB h K Q hK
          have h23 : (MP.is (.slice (some ⟨gi, 0, none⟩) 4080 4080)).p (f 23) wz := h 23 (by kernel_rfl)
          have e23 : f 23 = (.slice (some ⟨gi, 0, none⟩) 4080 4080) := h23
          have h25 : (MP.ps 1 [(4079, [1])]).p (f 25) wz := h 25 (by kernel_rfl)
          obtain ⟨A25, c25, e25, r25, n25, m25⟩ := h25
          simp only [e23, e25] at hK ⊢
          clear e23 e25
          try simp only [List.getElem_toArray, List.getElem_cons_succ, List.getElem_cons_zero]
          go_simp
          exact hK _ _ (gr_refl _) ⟨_, _, rfl, HIMq.out.below (bel_drew hB), ⟨A25, c25, rfl, r25, n25, m25⟩⟩
        refine Steps.cons rfl ?_ ?_
        · intro f wz hB h K Q hK
          have h26 : (MP.cv 0 4080 (zR 4080) 1 [(4079, [1])]).p (f 26) wz := h 26 (by kernel_rfl)
          obtain ⟨_, _, e26, ⟨A26, c26, rfl, r26, n26, m26⟩, ⟨D26, d26, rfl, s26, o26, t26⟩⟩ := h26
          simp only [e26] at hK ⊢
          clear e26
          try simp only [List.getElem_toArray, List.getElem_cons_succ, List.getElem_cons_zero]
          go_simp
          exact hK _ _ (gr_alloc (gr_refl wz) _) (CN.lit1 wz ⟨A26, c26, rfl, r26, n26, m26⟩ ⟨D26, d26, rfl, s26, o26, t26⟩)
        refine Steps.cons rfl ?_ ?_
        · intro f wz hB h K Q hK
          have h27 : (MP.cn 1 [(0, zR 4080, [(4079, [1])])]).p (f 27) wz := h 27 (by kernel_rfl)
          obtain ⟨A27, c27, e27, r27, n27, m27⟩ := h27
          simp only [e27] at hK ⊢
          clear e27
          try simp only [List.getElem_toArray, List.getElem_cons_succ, List.getElem_cons_zero]
          go_simp
          exact hK _ _ (gr_refl _) ⟨_, rfl, A27, c27, rfl, r27, n27, m27⟩
        refine Steps.cons rfl ?_ ?_
        · intro f wz hB h K Q hK
          try simp only [List.getElem_toArray, List.getElem_cons_succ, List.getElem_cons_zero]
          go_simp
          exact hK _ _ (gr_alloc (gr_refl wz) _) (VN.lit wz [1] _ 1 rfl (by simp [maxLen]) rfl)
        refine Steps.cons rfl ?_ ?_
        · intro f wz hB h K Q hK
          have h29 : (MP.vb 1 [1]).p (f 29) wz := h 29 (by kernel_rfl)
          obtain ⟨A29, c29, e29, r29, n29, m29⟩ := h29
          simp only [e29] at hK ⊢
          clear e29
          try simp only [List.getElem_toArray, List.getElem_cons_succ, List.getElem_cons_zero]
          go_simp
          exact hK _ _ (gr_refl _) ⟨_, rfl, A29, c29, rfl, r29, n29, m29⟩
        refine Steps.cons rfl ?_ ?_
        · intro f wz hB h K Q hK
          have h30 : (MP.pc 4080 1 [1]).p (f 30) wz := h 30 (by kernel_rfl)
          obtain ⟨_, e30, ⟨A30, c30, rfl, r30, n30, m30⟩⟩ := h30
          simp only [e30] at hK ⊢
          clear e30
          try simp only [List.getElem_toArray, List.getElem_cons_succ, List.getElem_cons_zero]
          go_simp
          exact hK _ _ (gr_alloc (gr_refl wz) _) (PN.lit1 wz ⟨A30, c30, rfl, r30, n30, m30⟩)
        refine Steps.cons rfl ?_ ?_
        · intro f wz hB h K Q hK
          have h31 : (MP.ps 1 [(4080, [1])]).p (f 31) wz := h 31 (by kernel_rfl)
          obtain ⟨A31, c31, e31, r31, n31, m31⟩ := h31
          simp only [e31] at hK ⊢
          clear e31
          try simp only [List.getElem_toArray, List.getElem_cons_succ, List.getElem_cons_zero]
          go_simp
          exact hK _ _ (gr_refl _) ⟨_, _, rfl, VN.nil wz, ⟨A31, c31, rfl, r31, n31, m31⟩⟩
        refine Steps.cons rfl ?_ ?_
        · intro f wz hB h K Q hK
          have h32 : (MP.cv 0 0 [] 1 [(4080, [1])]).p (f 32) wz := h 32 (by kernel_rfl)
          obtain ⟨_, _, e32, ⟨A32, c32, rfl, r32, n32, m32⟩, ⟨D32, d32, rfl, s32, o32, t32⟩⟩ := h32
          simp only [e32] at hK ⊢
          clear e32
          try simp only [List.getElem_toArray, List.getElem_cons_succ, List.getElem_cons_zero]
          go_simp
          exact hK _ _ (gr_alloc (gr_refl wz) _) (CN.lit1 wz ⟨A32, c32, rfl, r32, n32, m32⟩ ⟨D32, d32, rfl, s32, o32, t32⟩)
        refine Steps.cons rfl ?_ ?_
        · intro f wz hB h K Q hK
          have h33 : (MP.cn 1 [(0, [], [(4080, [1])])]).p (f 33) wz := h 33 (by kernel_rfl)
          obtain ⟨A33, c33, e33, r33, n33, m33⟩ := h33
          simp only [e33] at hK ⊢
          clear e33
          try simp only [List.getElem_toArray, List.getElem_cons_succ, List.getElem_cons_zero]
          go_simp
          exact hK _ _ (gr_refl _) ⟨_, rfl, A33, c33, rfl, r33, n33, m33⟩
        refine Steps.cons rfl ?_ ?_
        · intro f wz hB h K Q hK
          try simp only [List.getElem_toArray, List.getElem_cons_succ, List.getElem_cons_zero]
          go_simp
          exact hK _ _ (gr_refl _) rfl
        refine Steps.cons rfl ?_ ?_
        · intro f wz hB h K Q hK
          have h35 : (MP.is (.agg #[.int .i64 1, .slice none 0 0])).p (f 35) wz := h 35 (by kernel_rfl)
          have e35 : f 35 = (.agg #[.int .i64 1, .slice none 0 0]) := h35
          simp only [e35] at hK ⊢
          clear e35
          try simp only [List.getElem_toArray, List.getElem_cons_succ, List.getElem_cons_zero]
          go_simp
          exact hK _ _ (gr_alloc (gr_refl wz) _) (PN.lit1 wz (VN.nil wz))
        refine Steps.cons rfl ?_ ?_
        · intro f wz hB h K Q hK
          have h36 : (MP.ps 1 [(1, [])]).p (f 36) wz := h 36 (by kernel_rfl)
          obtain ⟨A36, c36, e36, r36, n36, m36⟩ := h36
          simp only [e36] at hK ⊢
          clear e36
          try simp only [List.getElem_toArray, List.getElem_cons_succ, List.getElem_cons_zero]
          go_simp
          exact hK _ _ (gr_refl _) ⟨_, _, rfl, VN.nil wz, ⟨A36, c36, rfl, r36, n36, m36⟩⟩
        refine Steps.cons rfl ?_ ?_
        · intro f wz hB h K Q hK
          have h37 : (MP.cv 0 0 [] 1 [(1, [])]).p (f 37) wz := h 37 (by kernel_rfl)
          obtain ⟨_, _, e37, ⟨A37, c37, rfl, r37, n37, m37⟩, ⟨D37, d37, rfl, s37, o37, t37⟩⟩ := h37
          simp only [e37] at hK ⊢
          clear e37
          try simp only [List.getElem_toArray, List.getElem_cons_succ, List.getElem_cons_zero]
          go_simp
          exact hK _ _ (gr_alloc (gr_refl wz) _) (CN.lit1 wz ⟨A37, c37, rfl, r37, n37, m37⟩ ⟨D37, d37, rfl, s37, o37, t37⟩)
        refine Steps.cons rfl ?_ ?_
        · intro f wz hB h K Q hK
          have h38 : (MP.cn 1 [(0, [], [(1, [])])]).p (f 38) wz := h 38 (by kernel_rfl)
          obtain ⟨A38, c38, e38, r38, n38, m38⟩ := h38
          simp only [e38] at hK ⊢
          clear e38
          try simp only [List.getElem_toArray, List.getElem_cons_succ, List.getElem_cons_zero]
          go_simp
          exact hK _ _ (gr_refl _) ⟨_, rfl, A38, c38, rfl, r38, n38, m38⟩
        refine Steps.cons rfl ?_ ?_
        · intro f wz hB h K Q hK
          try simp only [List.getElem_toArray, List.getElem_cons_succ, List.getElem_cons_zero]
          have y0 := keep_of_below (bel_drew hB) OP.out.1
          have y1 := keep_of_below (bel_drew hB) OP.out.2
          go_simp
          exact hK _ _ (gr_refl _) rfl
        refine Steps.cons rfl ?_ ?_
        · intro f wz hB h K Q hK
          try simp only [List.getElem_toArray, List.getElem_cons_succ, List.getElem_cons_zero]
          have y0 := keep_of_below (bel_drew hB) OP.out.1
          have y1 := keep_of_below (bel_drew hB) OP.out.2
          go_simp
          exact hK _ _ (gr_refl _) rfl
        refine Steps.cons rfl ?_ ?_
        · intro f wz hB h K Q hK
          have h40 : (MP.is (.agg #[.int .i64 4079, .slice (some ⟨go, 0, none⟩) 1 1])).p (f 40) wz := h 40 (by kernel_rfl)
          have e40 : f 40 = (.agg #[.int .i64 4079, .slice (some ⟨go, 0, none⟩) 1 1]) := h40
          have h41 : (MP.is (.agg #[.int .i64 4079, .slice (some ⟨go, 0, none⟩) 1 1])).p (f 41) wz := h 41 (by kernel_rfl)
          have e41 : f 41 = (.agg #[.int .i64 4079, .slice (some ⟨go, 0, none⟩) 1 1]) := h41
          simp only [e40, e41] at hK ⊢
          clear e40 e41
          try simp only [List.getElem_toArray, List.getElem_cons_succ, List.getElem_cons_zero]
          go_simp
          exact hK _ _ (gr_alloc (gr_refl wz) _) (PN.lit2 wz (HONEq.out.below (bel_drew hB)) (HONEq.out.below (bel_drew hB)))
        refine Steps.cons rfl ?_ ?_
        · intro f wz hB h K Q hK
          have h42 : (MP.ps 2 [(4079, [1]), (4079, [1])]).p (f 42) wz := h 42 (by kernel_rfl)
          obtain ⟨A42, c42, e42, r42, n42, m42⟩ := h42
          simp only [e42] at hK ⊢
          clear e42
          try simp only [List.getElem_toArray, List.getElem_cons_succ, List.getElem_cons_zero]
          go_simp
          exact hK _ _ (gr_refl _) ⟨_, _, rfl, VN.nil wz, ⟨A42, c42, rfl, r42, n42, m42⟩⟩
        refine Steps.cons rfl ?_ ?_
        · intro f wz hB h K Q hK
          have h43 : (MP.cv 0 0 [] 2 [(4079, [1]), (4079, [1])]).p (f 43) wz := h 43 (by kernel_rfl)
          obtain ⟨_, _, e43, ⟨A43, c43, rfl, r43, n43, m43⟩, ⟨D43, d43, rfl, s43, o43, t43⟩⟩ := h43
          simp only [e43] at hK ⊢
          clear e43
          try simp only [List.getElem_toArray, List.getElem_cons_succ, List.getElem_cons_zero]
          go_simp
          exact hK _ _ (gr_alloc (gr_refl wz) _) (CN.lit1 wz ⟨A43, c43, rfl, r43, n43, m43⟩ ⟨D43, d43, rfl, s43, o43, t43⟩)
        refine Steps.cons rfl ?_ ?_
        · intro f wz hB h K Q hK
          have h44 : (MP.cn 1 [(0, [], [(4079, [1]), (4079, [1])])]).p (f 44) wz := h 44 (by kernel_rfl)
          obtain ⟨A44, c44, e44, r44, n44, m44⟩ := h44
          simp only [e44] at hK ⊢
          clear e44
          try simp only [List.getElem_toArray, List.getElem_cons_succ, List.getElem_cons_zero]
          go_simp
          exact hK _ _ (gr_refl _) ⟨_, rfl, A44, c44, rfl, r44, n44, m44⟩
        refine Steps.cons rfl ?_ ?_
        · intro f wz hB h K Q hK
          try simp only [List.getElem_toArray, List.getElem_cons_succ, List.getElem_cons_zero]
          go_simp
          exact hK _ _ (gr_alloc (gr_refl wz) _) (VN.lit wz [1, 2] _ 2 rfl (by simp [maxLen]) rfl)
        refine Steps.cons rfl ?_ ?_
        · intro f wz hB h K Q hK
          have h46 : (MP.vb 2 [1, 2]).p (f 46) wz := h 46 (by kernel_rfl)
          obtain ⟨A46, c46, e46, r46, n46, m46⟩ := h46
          simp only [e46] at hK ⊢
          clear e46
          try simp only [List.getElem_toArray, List.getElem_cons_succ, List.getElem_cons_zero]
          go_simp
          exact hK _ _ (gr_refl _) ⟨_, rfl, A46, c46, rfl, r46, n46, m46⟩
        refine Steps.cons rfl ?_ ?_
        · intro f wz hB h K Q hK
          have h47 : (MP.pc (-1) 2 [1, 2]).p (f 47) wz := h 47 (by kernel_rfl)
          obtain ⟨_, e47, ⟨A47, c47, rfl, r47, n47, m47⟩⟩ := h47
          simp only [e47] at hK ⊢
          clear e47
          try simp only [List.getElem_toArray, List.getElem_cons_succ, List.getElem_cons_zero]
          go_simp
          exact hK _ _ (gr_alloc (gr_refl wz) _) (PN.lit1 wz ⟨A47, c47, rfl, r47, n47, m47⟩)
        refine Steps.cons rfl ?_ ?_
        · intro f wz hB h K Q hK
          have h48 : (MP.ps 1 [(-1, [1, 2])]).p (f 48) wz := h 48 (by kernel_rfl)
          obtain ⟨A48, c48, e48, r48, n48, m48⟩ := h48
          simp only [e48] at hK ⊢
          clear e48
          try simp only [List.getElem_toArray, List.getElem_cons_succ, List.getElem_cons_zero]
          go_simp
          exact hK _ _ (gr_refl _) ⟨_, _, rfl, VN.nil wz, ⟨A48, c48, rfl, r48, n48, m48⟩⟩
        refine Steps.cons rfl ?_ ?_
        · intro f wz hB h K Q hK
          have h49 : (MP.cv 0 0 [] 1 [(-1, [1, 2])]).p (f 49) wz := h 49 (by kernel_rfl)
          obtain ⟨_, _, e49, ⟨A49, c49, rfl, r49, n49, m49⟩, ⟨D49, d49, rfl, s49, o49, t49⟩⟩ := h49
          simp only [e49] at hK ⊢
          clear e49
          try simp only [List.getElem_toArray, List.getElem_cons_succ, List.getElem_cons_zero]
          go_simp
          exact hK _ _ (gr_alloc (gr_refl wz) _) (CN.lit1 wz ⟨A49, c49, rfl, r49, n49, m49⟩ ⟨D49, d49, rfl, s49, o49, t49⟩)
        refine Steps.cons rfl ?_ ?_
        · intro f wz hB h K Q hK
          have h50 : (MP.cn 1 [(0, [], [(-1, [1, 2])])]).p (f 50) wz := h 50 (by kernel_rfl)
          obtain ⟨A50, c50, e50, r50, n50, m50⟩ := h50
          simp only [e50] at hK ⊢
          clear e50
          try simp only [List.getElem_toArray, List.getElem_cons_succ, List.getElem_cons_zero]
          go_simp
          exact hK _ _ (gr_refl _) ⟨_, rfl, A50, c50, rfl, r50, n50, m50⟩
        refine Steps.cons rfl ?_ ?_
        · intro f wz hB h K Q hK
          try simp only [List.getElem_toArray, List.getElem_cons_succ, List.getElem_cons_zero]
          have hm := mk17 wz
          go_simp
          exact hK _ _ (gr_alloc (gr_refl wz) _) (CN.zero wz)
        refine Steps.cons rfl ?_ ?_
        · intro f wz hB h K Q hK
          have h52 : (MP.cn 17 (List.replicate 17 ch0)).p (f 52) wz := h 52 (by kernel_rfl)
          obtain ⟨A52, c52, e52, r52, n52, m52⟩ := h52
          simp only [e52] at hK ⊢
          clear e52
          try simp only [List.getElem_toArray, List.getElem_cons_succ, List.getElem_cons_zero]
          go_simp
          exact hK _ _ (gr_refl _) ⟨_, rfl, A52, c52, rfl, r52, n52, m52⟩
        refine Steps.cons rfl ?_ ?_
        · intro f wz hB h K Q hK
          try simp only [List.getElem_toArray, List.getElem_cons_succ, List.getElem_cons_zero]
          go_simp
          exact hK _ _ (gr_alloc (gr_refl wz) _) (VN.lit wz [1] _ 1 rfl (by simp [maxLen]) rfl)
        refine Steps.cons rfl ?_ ?_
        · intro f wz hB h K Q hK
          have h54 : (MP.vb 1 [1]).p (f 54) wz := h 54 (by kernel_rfl)
          obtain ⟨A54, c54, e54, r54, n54, m54⟩ := h54
          simp only [e54] at hK ⊢
          clear e54
          try simp only [List.getElem_toArray, List.getElem_cons_succ, List.getElem_cons_zero]
          go_simp
          exact hK _ _ (gr_refl _) ⟨_, rfl, A54, c54, rfl, r54, n54, m54⟩
        refine Steps.cons rfl ?_ ?_
        · intro f wz hB h K Q hK
          have h55 : (MP.pc 9223372036854775807 1 [1]).p (f 55) wz := h 55 (by kernel_rfl)
          obtain ⟨_, e55, ⟨A55, c55, rfl, r55, n55, m55⟩⟩ := h55
          simp only [e55] at hK ⊢
          clear e55
          try simp only [List.getElem_toArray, List.getElem_cons_succ, List.getElem_cons_zero]
          go_simp
          exact hK _ _ (gr_alloc (gr_refl wz) _) (PN.lit1 wz ⟨A55, c55, rfl, r55, n55, m55⟩)
        refine Steps.cons rfl ?_ ?_
        · intro f wz hB h K Q hK
          have h56 : (MP.ps 1 [(9223372036854775807, [1])]).p (f 56) wz := h 56 (by kernel_rfl)
          obtain ⟨A56, c56, e56, r56, n56, m56⟩ := h56
          simp only [e56] at hK ⊢
          clear e56
          try simp only [List.getElem_toArray, List.getElem_cons_succ, List.getElem_cons_zero]
          go_simp
          exact hK _ _ (gr_refl _) ⟨_, _, rfl, VN.nil wz, ⟨A56, c56, rfl, r56, n56, m56⟩⟩
        refine Steps.cons rfl ?_ ?_
        · intro f wz hB h K Q hK
          have h57 : (MP.cv 0 0 [] 1 [(9223372036854775807, [1])]).p (f 57) wz := h 57 (by kernel_rfl)
          obtain ⟨_, _, e57, ⟨A57, c57, rfl, r57, n57, m57⟩, ⟨D57, d57, rfl, s57, o57, t57⟩⟩ := h57
          simp only [e57] at hK ⊢
          clear e57
          try simp only [List.getElem_toArray, List.getElem_cons_succ, List.getElem_cons_zero]
          go_simp
          exact hK _ _ (gr_alloc (gr_refl wz) _) (CN.lit1 wz ⟨A57, c57, rfl, r57, n57, m57⟩ ⟨D57, d57, rfl, s57, o57, t57⟩)
        refine Steps.cons rfl ?_ ?_
        · intro f wz hB h K Q hK
          have h58 : (MP.cn 1 [(0, [], [(9223372036854775807, [1])])]).p (f 58) wz := h 58 (by kernel_rfl)
          obtain ⟨A58, c58, e58, r58, n58, m58⟩ := h58
          simp only [e58] at hK ⊢
          clear e58
          try simp only [List.getElem_toArray, List.getElem_cons_succ, List.getElem_cons_zero]
          go_simp
          exact hK _ _ (gr_refl _) ⟨_, rfl, A58, c58, rfl, r58, n58, m58⟩
        refine Steps.cons rfl ?_ ?_
        · intro f wz hB h K Q hK
          have h0 : (MP.is (.agg #[.int .u8 1, .int .i64 0, .slice none 0 0])).p (f 0) wz := h 0 (by kernel_rfl)
          have e0 : f 0 = (.agg #[.int .u8 1, .int .i64 0, .slice none 0 0]) := h0
          have h3 : (MP.rv 2 0 1 atomC).p (f 3) wz := h 3 (by kernel_rfl)
          obtain ⟨_, e3, ⟨A3, c3, rfl, r3, n3, m3⟩⟩ := h3
          have h4 : (MP.is (.agg #[.int .u8 4, .int .i64 0, .slice none 0 0])).p (f 4) wz := h 4 (by kernel_rfl)
          have e4 : f 4 = (.agg #[.int .u8 4, .int .i64 0, .slice none 0 0]) := h4
          have h5 : (MP.is (.agg #[.int .u8 0, .int .i64 0, .slice none 0 0])).p (f 5) wz := h 5 (by kernel_rfl)
          have e5 : f 5 = (.agg #[.int .u8 0, .int .i64 0, .slice none 0 0]) := h5
          have h6 : (MP.is (.agg #[.int .u8 3, .int .i64 (-1), .slice none 0 0])).p (f 6) wz := h 6 (by kernel_rfl)
          have e6 : f 6 = (.agg #[.int .u8 3, .int .i64 (-1), .slice none 0 0]) := h6
          have h7 : (MP.is (.agg #[.int .u8 3, .int .i64 4611686018427387905, .slice none 0 0])).p (f 7) wz := h 7 (by kernel_rfl)
          have e7 : f 7 = (.agg #[.int .u8 3, .int .i64 4611686018427387905, .slice none 0 0]) := h7
          have h11 : (MP.rv 1 0 2 [(2, [], []), (2, [], [])]).p (f 11) wz := h 11 (by kernel_rfl)
          obtain ⟨_, e11, ⟨A11, c11, rfl, r11, n11, m11⟩⟩ := h11
          have h14 : (MP.rv 1 0 1 [(4096, [], [])]).p (f 14) wz := h 14 (by kernel_rfl)
          obtain ⟨_, e14, ⟨A14, c14, rfl, r14, n14, m14⟩⟩ := h14
          have h17 : (MP.rv 1 0 1 [(-1, [], [])]).p (f 17) wz := h 17 (by kernel_rfl)
          obtain ⟨_, e17, ⟨A17, c17, rfl, r17, n17, m17⟩⟩ := h17
          have h22 : (MP.rv 1 0 1 [(0, zR 4079, [])]).p (f 22) wz := h 22 (by kernel_rfl)
          obtain ⟨_, e22, ⟨A22, c22, rfl, r22, n22, m22⟩⟩ := h22
          have h28 : (MP.rv 1 0 1 [(0, zR 4080, [(4079, [1])])]).p (f 28) wz := h 28 (by kernel_rfl)
          obtain ⟨_, e28, ⟨A28, c28, rfl, r28, n28, m28⟩⟩ := h28
          have h34 : (MP.rv 1 0 1 [(0, [], [(4080, [1])])]).p (f 34) wz := h 34 (by kernel_rfl)
          obtain ⟨_, e34, ⟨A34, c34, rfl, r34, n34, m34⟩⟩ := h34
          have h39 : (MP.rv 1 0 1 [(0, [], [(1, [])])]).p (f 39) wz := h 39 (by kernel_rfl)
          obtain ⟨_, e39, ⟨A39, c39, rfl, r39, n39, m39⟩⟩ := h39
          have h45 : (MP.rv 1 0 1 [(0, [], [(4079, [1]), (4079, [1])])]).p (f 45) wz := h 45 (by kernel_rfl)
          obtain ⟨_, e45, ⟨A45, c45, rfl, r45, n45, m45⟩⟩ := h45
          have h51 : (MP.rv 1 0 1 [(0, [], [(-1, [1, 2])])]).p (f 51) wz := h 51 (by kernel_rfl)
          obtain ⟨_, e51, ⟨A51, c51, rfl, r51, n51, m51⟩⟩ := h51
          have h53 : (MP.rv 1 0 17 (List.replicate 17 ch0)).p (f 53) wz := h 53 (by kernel_rfl)
          obtain ⟨_, e53, ⟨A53, c53, rfl, r53, n53, m53⟩⟩ := h53
          have h59 : (MP.rv 1 0 1 [(0, [], [(9223372036854775807, [1])])]).p (f 59) wz := h 59 (by kernel_rfl)
          obtain ⟨_, e59, ⟨A59, c59, rfl, r59, n59, m59⟩⟩ := h59
          simp only [e0, e3, e4, e5, e6, e7, e11, e14, e17, e22, e28, e34, e39, e45, e51, e53, e59] at hK ⊢
          clear e0 e3 e4 e5 e6 e7 e11 e14 e17 e22 e28 e34 e39 e45 e51 e53 e59
          try simp only [List.getElem_toArray, List.getElem_cons_succ, List.getElem_cons_zero]
          go_simp
          exact hK _ _ (gr_alloc (gr_refl wz) _) ⟨_, rfl, RW.lit wz _ rs17 _ 17 rfl rfl rfl (RVL.cons (CN.nil wz) (RVL.cons (show CN wz _ _ _ from ⟨A3, c3, rfl, r3, n3, m3⟩) (RVL.cons (CN.nil wz) (RVL.cons (CN.nil wz) (RVL.cons (CN.nil wz) (RVL.cons (CN.nil wz) (RVL.cons (show CN wz _ _ _ from ⟨A11, c11, rfl, r11, n11, m11⟩) (RVL.cons (show CN wz _ _ _ from ⟨A14, c14, rfl, r14, n14, m14⟩) (RVL.cons (show CN wz _ _ _ from ⟨A17, c17, rfl, r17, n17, m17⟩) (RVL.cons (show CN wz _ _ _ from ⟨A22, c22, rfl, r22, n22, m22⟩) (RVL.cons (show CN wz _ _ _ from ⟨A28, c28, rfl, r28, n28, m28⟩) (RVL.cons (show CN wz _ _ _ from ⟨A34, c34, rfl, r34, n34, m34⟩) (RVL.cons (show CN wz _ _ _ from ⟨A39, c39, rfl, r39, n39, m39⟩) (RVL.cons (show CN wz _ _ _ from ⟨A45, c45, rfl, r45, n45, m45⟩) (RVL.cons (show CN wz _ _ _ from ⟨A51, c51, rfl, r51, n51, m51⟩) (RVL.cons (show CN wz _ _ _ from ⟨A53, c53, rfl, r53, n53, m53⟩) (RVL.cons (show CN wz _ _ _ from ⟨A59, c59, rfl, r59, n59, m59⟩) (RVL.nil wz))))))))))))))))))⟩
        refine Steps.cons rfl ?_ ?_
        · intro f wz hB h K Q hK
          have h60 : (MP.r17).p (f 60) wz := h 60 (by kernel_rfl)
          obtain ⟨A60, e60, r60⟩ := h60
          simp only [e60] at hK ⊢
          clear e60
          try simp only [List.getElem_toArray, List.getElem_cons_succ, List.getElem_cons_zero]
          go_simp
          exact hK _ _ (gr_refl _) rfl
        refine Steps.cons rfl ?_ ?_
        · intro f wz hB h K Q hK
          try simp only [List.getElem_toArray, List.getElem_cons_succ, List.getElem_cons_zero]
          go_simp
          exact hK _ _ (gr_refl _) rfl
        exact Steps.nil
      intro f ws hBs hR
      have e0 : f 0 = (.agg #[.int .u8 1, .int .i64 0, .slice none 0 0]) := hR 0 (by decide)
      obtain ⟨A1s, e1, r1s⟩ := (show (MP.at1).p (f 1) ws from hR 1 (by decide))
      obtain ⟨A2s, c2s, e2, r2s, n2s, m2s⟩ := (show (MP.cn 1 atomC).p (f 2) ws from hR 2 (by decide))
      obtain ⟨_, e3, ⟨A3s, c3s, rfl, r3s, n3s, m3s⟩⟩ := (show (MP.rv 2 0 1 atomC).p (f 3) ws from hR 3 (by decide))
      have e4 : f 4 = (.agg #[.int .u8 4, .int .i64 0, .slice none 0 0]) := hR 4 (by decide)
      have e5 : f 5 = (.agg #[.int .u8 0, .int .i64 0, .slice none 0 0]) := hR 5 (by decide)
      have e6 : f 6 = (.agg #[.int .u8 3, .int .i64 (-1), .slice none 0 0]) := hR 6 (by decide)
      have e7 : f 7 = (.agg #[.int .u8 3, .int .i64 4611686018427387905, .slice none 0 0]) := hR 7 (by decide)
      have e8 : f 8 = (.agg #[.int .i64 2, .slice none 0 0, .slice none 0 0]) := hR 8 (by decide)
      have e9 : f 9 = (.agg #[.int .i64 2, .slice none 0 0, .slice none 0 0]) := hR 9 (by decide)
      obtain ⟨A10s, c10s, e10, r10s, n10s, m10s⟩ := (show (MP.cn 2 [(2, [], []), (2, [], [])]).p (f 10) ws from hR 10 (by decide))
      obtain ⟨_, e11, ⟨A11s, c11s, rfl, r11s, n11s, m11s⟩⟩ := (show (MP.rv 1 0 2 [(2, [], []), (2, [], [])]).p (f 11) ws from hR 11 (by decide))
      have e12 : f 12 = (.agg #[.int .i64 4096, .slice none 0 0, .slice none 0 0]) := hR 12 (by decide)
      obtain ⟨A13s, c13s, e13, r13s, n13s, m13s⟩ := (show (MP.cn 1 [(4096, [], [])]).p (f 13) ws from hR 13 (by decide))
      obtain ⟨_, e14, ⟨A14s, c14s, rfl, r14s, n14s, m14s⟩⟩ := (show (MP.rv 1 0 1 [(4096, [], [])]).p (f 14) ws from hR 14 (by decide))
      have e15 : f 15 = (.agg #[.int .i64 (-1), .slice none 0 0, .slice none 0 0]) := hR 15 (by decide)
      obtain ⟨A16s, c16s, e16, r16s, n16s, m16s⟩ := (show (MP.cn 1 [(-1, [], [])]).p (f 16) ws from hR 16 (by decide))
      obtain ⟨_, e17, ⟨A17s, c17s, rfl, r17s, n17s, m17s⟩⟩ := (show (MP.rv 1 0 1 [(-1, [], [])]).p (f 17) ws from hR 17 (by decide))
      have e18 : f 18 = (.slice (some ⟨gi, 0, none⟩) 4080 4080) := hR 18 (by decide)
      obtain ⟨A19s, c19s, e19, r19s, n19s, m19s⟩ := (show (MP.vb 4079 (zR 4079)).p (f 19) ws from hR 19 (by decide))
      obtain ⟨_, _, e20, ⟨A20s, c20s, rfl, r20s, n20s, m20s⟩, ⟨D20s, d20s, rfl, s20s, o20s, t20s⟩⟩ := (show (MP.cv 0 4079 (zR 4079) 0 []).p (f 20) ws from hR 20 (by decide))
      obtain ⟨A21s, c21s, e21, r21s, n21s, m21s⟩ := (show (MP.cn 1 [(0, zR 4079, [])]).p (f 21) ws from hR 21 (by decide))
      obtain ⟨_, e22, ⟨A22s, c22s, rfl, r22s, n22s, m22s⟩⟩ := (show (MP.rv 1 0 1 [(0, zR 4079, [])]).p (f 22) ws from hR 22 (by decide))
      have e23 : f 23 = (.slice (some ⟨gi, 0, none⟩) 4080 4080) := hR 23 (by decide)
      have e24 : f 24 = (.agg #[.int .i64 4079, .slice (some ⟨go, 0, none⟩) 1 1]) := hR 24 (by decide)
      obtain ⟨A25s, c25s, e25, r25s, n25s, m25s⟩ := (show (MP.ps 1 [(4079, [1])]).p (f 25) ws from hR 25 (by decide))
      obtain ⟨_, _, e26, ⟨A26s, c26s, rfl, r26s, n26s, m26s⟩, ⟨D26s, d26s, rfl, s26s, o26s, t26s⟩⟩ := (show (MP.cv 0 4080 (zR 4080) 1 [(4079, [1])]).p (f 26) ws from hR 26 (by decide))
      obtain ⟨A27s, c27s, e27, r27s, n27s, m27s⟩ := (show (MP.cn 1 [(0, zR 4080, [(4079, [1])])]).p (f 27) ws from hR 27 (by decide))
      obtain ⟨_, e28, ⟨A28s, c28s, rfl, r28s, n28s, m28s⟩⟩ := (show (MP.rv 1 0 1 [(0, zR 4080, [(4079, [1])])]).p (f 28) ws from hR 28 (by decide))
      obtain ⟨A29s, c29s, e29, r29s, n29s, m29s⟩ := (show (MP.vb 1 [1]).p (f 29) ws from hR 29 (by decide))
      obtain ⟨_, e30, ⟨A30s, c30s, rfl, r30s, n30s, m30s⟩⟩ := (show (MP.pc 4080 1 [1]).p (f 30) ws from hR 30 (by decide))
      obtain ⟨A31s, c31s, e31, r31s, n31s, m31s⟩ := (show (MP.ps 1 [(4080, [1])]).p (f 31) ws from hR 31 (by decide))
      obtain ⟨_, _, e32, ⟨A32s, c32s, rfl, r32s, n32s, m32s⟩, ⟨D32s, d32s, rfl, s32s, o32s, t32s⟩⟩ := (show (MP.cv 0 0 [] 1 [(4080, [1])]).p (f 32) ws from hR 32 (by decide))
      obtain ⟨A33s, c33s, e33, r33s, n33s, m33s⟩ := (show (MP.cn 1 [(0, [], [(4080, [1])])]).p (f 33) ws from hR 33 (by decide))
      obtain ⟨_, e34, ⟨A34s, c34s, rfl, r34s, n34s, m34s⟩⟩ := (show (MP.rv 1 0 1 [(0, [], [(4080, [1])])]).p (f 34) ws from hR 34 (by decide))
      have e35 : f 35 = (.agg #[.int .i64 1, .slice none 0 0]) := hR 35 (by decide)
      obtain ⟨A36s, c36s, e36, r36s, n36s, m36s⟩ := (show (MP.ps 1 [(1, [])]).p (f 36) ws from hR 36 (by decide))
      obtain ⟨_, _, e37, ⟨A37s, c37s, rfl, r37s, n37s, m37s⟩, ⟨D37s, d37s, rfl, s37s, o37s, t37s⟩⟩ := (show (MP.cv 0 0 [] 1 [(1, [])]).p (f 37) ws from hR 37 (by decide))
      obtain ⟨A38s, c38s, e38, r38s, n38s, m38s⟩ := (show (MP.cn 1 [(0, [], [(1, [])])]).p (f 38) ws from hR 38 (by decide))
      obtain ⟨_, e39, ⟨A39s, c39s, rfl, r39s, n39s, m39s⟩⟩ := (show (MP.rv 1 0 1 [(0, [], [(1, [])])]).p (f 39) ws from hR 39 (by decide))
      have e40 : f 40 = (.agg #[.int .i64 4079, .slice (some ⟨go, 0, none⟩) 1 1]) := hR 40 (by decide)
      have e41 : f 41 = (.agg #[.int .i64 4079, .slice (some ⟨go, 0, none⟩) 1 1]) := hR 41 (by decide)
      obtain ⟨A42s, c42s, e42, r42s, n42s, m42s⟩ := (show (MP.ps 2 [(4079, [1]), (4079, [1])]).p (f 42) ws from hR 42 (by decide))
      obtain ⟨_, _, e43, ⟨A43s, c43s, rfl, r43s, n43s, m43s⟩, ⟨D43s, d43s, rfl, s43s, o43s, t43s⟩⟩ := (show (MP.cv 0 0 [] 2 [(4079, [1]), (4079, [1])]).p (f 43) ws from hR 43 (by decide))
      obtain ⟨A44s, c44s, e44, r44s, n44s, m44s⟩ := (show (MP.cn 1 [(0, [], [(4079, [1]), (4079, [1])])]).p (f 44) ws from hR 44 (by decide))
      obtain ⟨_, e45, ⟨A45s, c45s, rfl, r45s, n45s, m45s⟩⟩ := (show (MP.rv 1 0 1 [(0, [], [(4079, [1]), (4079, [1])])]).p (f 45) ws from hR 45 (by decide))
      obtain ⟨A46s, c46s, e46, r46s, n46s, m46s⟩ := (show (MP.vb 2 [1, 2]).p (f 46) ws from hR 46 (by decide))
      obtain ⟨_, e47, ⟨A47s, c47s, rfl, r47s, n47s, m47s⟩⟩ := (show (MP.pc (-1) 2 [1, 2]).p (f 47) ws from hR 47 (by decide))
      obtain ⟨A48s, c48s, e48, r48s, n48s, m48s⟩ := (show (MP.ps 1 [(-1, [1, 2])]).p (f 48) ws from hR 48 (by decide))
      obtain ⟨_, _, e49, ⟨A49s, c49s, rfl, r49s, n49s, m49s⟩, ⟨D49s, d49s, rfl, s49s, o49s, t49s⟩⟩ := (show (MP.cv 0 0 [] 1 [(-1, [1, 2])]).p (f 49) ws from hR 49 (by decide))
      obtain ⟨A50s, c50s, e50, r50s, n50s, m50s⟩ := (show (MP.cn 1 [(0, [], [(-1, [1, 2])])]).p (f 50) ws from hR 50 (by decide))
      obtain ⟨_, e51, ⟨A51s, c51s, rfl, r51s, n51s, m51s⟩⟩ := (show (MP.rv 1 0 1 [(0, [], [(-1, [1, 2])])]).p (f 51) ws from hR 51 (by decide))
      obtain ⟨A52s, c52s, e52, r52s, n52s, m52s⟩ := (show (MP.cn 17 (List.replicate 17 ch0)).p (f 52) ws from hR 52 (by decide))
      obtain ⟨_, e53, ⟨A53s, c53s, rfl, r53s, n53s, m53s⟩⟩ := (show (MP.rv 1 0 17 (List.replicate 17 ch0)).p (f 53) ws from hR 53 (by decide))
      obtain ⟨A54s, c54s, e54, r54s, n54s, m54s⟩ := (show (MP.vb 1 [1]).p (f 54) ws from hR 54 (by decide))
      obtain ⟨_, e55, ⟨A55s, c55s, rfl, r55s, n55s, m55s⟩⟩ := (show (MP.pc 9223372036854775807 1 [1]).p (f 55) ws from hR 55 (by decide))
      obtain ⟨A56s, c56s, e56, r56s, n56s, m56s⟩ := (show (MP.ps 1 [(9223372036854775807, [1])]).p (f 56) ws from hR 56 (by decide))
      obtain ⟨_, _, e57, ⟨A57s, c57s, rfl, r57s, n57s, m57s⟩, ⟨D57s, d57s, rfl, s57s, o57s, t57s⟩⟩ := (show (MP.cv 0 0 [] 1 [(9223372036854775807, [1])]).p (f 57) ws from hR 57 (by decide))
      obtain ⟨A58s, c58s, e58, r58s, n58s, m58s⟩ := (show (MP.cn 1 [(0, [], [(9223372036854775807, [1])])]).p (f 58) ws from hR 58 (by decide))
      obtain ⟨_, e59, ⟨A59s, c59s, rfl, r59s, n59s, m59s⟩⟩ := (show (MP.rv 1 0 1 [(0, [], [(9223372036854775807, [1])])]).p (f 59) ws from hR 59 (by decide))
      obtain ⟨A60s, e60, r60s⟩ := (show (MP.r17).p (f 60) ws from hR 60 (by decide))
      have e61 : f 61 = (.int .i64 17) := hR 61 (by decide)
      have e62 : f 62 = (.int .i64 0) := hR 62 (by decide)
      simp only [e0, e1, e2, e3, e4, e5, e6, e7, e8, e9, e10, e11, e12, e13, e14, e15, e16, e17, e18, e19, e20, e21, e22, e23, e24, e25, e26, e27, e28, e29, e30, e31, e32, e33, e34, e35, e36, e37, e38, e39, e40, e41, e42, e43, e44, e45, e46, e47, e48, e49, e50, e51, e52, e53, e54, e55, e56, e57, e58, e59, e60, e61, e62]
      clear e0 e1 e2 e3 e4 e5 e6 e7 e8 e9 e10 e11 e12 e13 e14 e15 e16 e17 e18 e19 e20 e21 e22 e23 e24 e25 e26 e27 e28 e29 e30 e31 e32 e33 e34 e35 e36 e37 e38 e39 e40 e41 e42 e43 e44 e45 e46 e47 e48 e49 e50 e51 e52 e53 e54 e55 e56 e57 e58 e59 e60 e61 e62 hR
      have HRW := Lib.hid r60s
      have HBr := Lib.hid (gr_trans HBq.out (bel_drew hBs))
      have RNO := Lib.hid rs17_no
      have RHI := Lib.hid rs17_hi
      clear hcut mk17 HCUTH HFLD OP HIMq HONEq HPq HBq hBs
      go_wp2_with fail
      go_loopw [166, 12] (fun i _ wr => ∃ k : Nat, k ≤ 17 ∧ i = .int .i64 (k : Int) ∧ Hid (Below ws.heap.size ws wr)) (fun i _ _ => 17 - (intOf i).toNat)
      case atStart => exact ⟨0, by omega, rfl, Lib.hid (gr_refl _)⟩
      case round =>
        obtain ⟨k, hk, rfl, HW⟩ := hrel
        by_cases hlt : k < 17
        · have t1 : decide ((k : Int) < 17) = true := decide_eq_true (by omega)
          have j0 : (0 : Int) ≤ (k : Int) := Int.natCast_nonneg _
          have j1 : (k : Int) < 17 := by omega
          obtain ⟨gp', op, Dp, dp, e17, q0, q1, q2, q3, q4, q5⟩ := (HRW.out.below HW.out).at_ (i := k) hlt
          subst e17
          have hmem : rs17.getD k rec0 ∈ rs17 := rec_mem (by exact hlt)
          have hno := RNO.out _ hmem
          have hhi := RHI.out _ hmem
          generalize rs17.getD k rec0 = x at *
          obtain ⟨xk, xt, xc⟩ := x
          dsimp only at q0 q1 q2 q3 q4 q5 hhi
          have HNO := Lib.hid hno
          have HHI := Lib.hid hhi
          have hbx := gr_alloc (gr_refl wr) (.cells #[.int .u8 (xk : Int), .int .i64 xt, .slice Dp xc.length dp] 38)
          have HBX := Lib.hid (B3.new wr (.int .u8 (xk : Int)) (.int .i64 xt) (.slice Dp xc.length dp) (t := 38) (by decide))
          have HC := Lib.hid (q3.below hbx)
          have HW2 := Lib.hid (gr_trans HW.out hbx)
          clear hno hhi hmem q3 hbx
          go_upto_region 21 with fail
          clear q0 q1 q2
          generalize wr.alloc (.cells #[.int .u8 (xk : Int), .int .i64 xt, .slice Dp xc.length dp] 38) = w2 at *
          generalize wr.heap.size = gb at *
          have y0 := HBX.out.c0
          have y1 := HBX.out.c1
          have y2 := HBX.out.c2
          have EN := Encode_any xk xt Dp xc.length dp xc w2 HC.out (by have := HHI.out.1; omega) HHI.out.2
          rw [show encE ⟨xk, xt, xc⟩ = 2 from by unfold encE; rw [HNO.out]; rfl, show encL ⟨xk, xt, xc⟩ = [] from by unfold encL; rw [HNO.out]; rfl] at EN
          have HEN := Lib.hid EN
          clear EN
          go_wp2_with fail
          refine HEN.out.mono ?_
          rintro e w3 ⟨v3, rfl, ho3, hb3⟩
          obtain ⟨A3, c3, rfl, _, _, _⟩ := ho3.formN (n := 0) rfl
          have z0 := (HBX.out.nb (NB.below hb3)).c0
          have z1 := (HBX.out.nb (NB.below hb3)).c1
          have z2 := (HBX.out.nb (NB.below hb3)).c2
          have RI := Right_any xk xt Dp xc.length dp xc w3 (HC.out.below hb3) (by have := HHI.out.1; omega) HHI.out.2
          have hrf : rightR (xk : Int) xt xc = false := HNO.out
          rw [hrf] at RI
          have HRI := Lib.hid RI
          have HW3 := Lib.hid (gr_trans HW2.out hb3)
          clear RI hrf y0 y1 y2 ho3 hb3 HEN
          go_wp2_with fail
          refine HRI.out.mono ?_
          rintro e w4 ⟨rfl, hb4⟩
          clear z0 z1 z2 HRI
          go_wp2_with fail
          go_roundw
          case rel => exact ⟨k + 1, by omega, by go_num, Lib.hid (gr_trans HW3.out hb4)⟩
          case measure => simp [intOf]; omega
        · obtain rfl : k = 17 := by omega
          have t1 : decide (((17 : Nat) : Int) < 17) = false := rfl
          have HWA := Lib.hid (gr_trans HBr.out HW.out)
          clear HRW HBr HW RNO RHI hk hlt
          generalize wr = wa at *
          go_wp2_with fail
          refine (commitBytes_any wa).mono ?_
          rintro e wb ⟨rfl, ob, hbb⟩
          obtain ⟨_, _, ee, brb, _, _⟩ := ob.formN (n := 15) rfl
          injection ee with e1 _ e2
          subst e1 e2
          have HBR := Lib.hid (brb.pre (j := 14) (by omega))
          have HWB := Lib.hid (gr_trans HWA.out hbb)
          have hcut := fun W => run_cut_h (P := Try.prog) W 26 5 i0 Try.underlying26 hi0 1 hz1 (some ⟨wa.heap.size, 0, none⟩) 15 15 14 14 rfl (by omega)
          clear ob brb hbb HWA
          have D1 := Decode_any (some ⟨wa.heap.size, 0, none⟩) 14 15 (commitL.take 14) wb HBR.out (by omega) (by omega) (by omega)
          rw [show decE (commitL.take 14) = 150 from by decide +kernel] at D1
          generalize (decR (commitL.take 14)).kind = fk at *
          generalize (decR (commitL.take 14)).tx = ft at *
          generalize (decR (commitL.take 14)).cs = fcs at *
          generalize decN (commitL.take 14) = fnn at *
          have HD1 := Lib.hid D1
          clear D1
          go_wp2_with fail
          refine HD1.out.mono ?_
          rintro e wo ⟨vo, rfl, oco, hbo⟩
          obtain ⟨Ao, co, rfl, _, _, _⟩ := oco.cr
          have HW26 := Lib.hid (gr_trans HWB.out (gr_trans hbo (gr_alloc (gr_refl wo) (.cells #[.int .u8 (fk : Int), .int .i64 ft, .slice Ao fcs.length co] 38))))
          clear oco hbo HD1 HWB
          go_upto_region 26 with fail
          generalize wo.alloc (.cells #[.int .u8 (fk : Int), .int .i64 ft, .slice Ao fcs.length co] 38) = w26 at *
          skip
          clear HBR hcut
          have hbl := gr_alloc (gr_refl w26) (.cells #[.int .u8 0, .int .u8 0, .int .u8 0, .int .u8 0] 5)
          have HBL := Lib.hid (BR.litAt w26 5 [0, 0, 0, 0] #[.int .u8 0, .int .u8 0, .int .u8 0, .int .u8 0] _ 4 rfl rfl rfl)
          have HW26l := Lib.hid (gr_trans HW26.out hbl)
          clear hbl HW26
          have D1 := Decode_any (some ⟨w26.heap.size, 0, none⟩) 4 4 [0, 0, 0, 0] (w26.alloc (.cells #[.int .u8 0, .int .u8 0, .int .u8 0, .int .u8 0] 5)) HBL.out (by omega) (by omega) (by omega)
          rw [show decE [0, 0, 0, 0] = 151 from by decide +kernel] at D1
          generalize (decR [0, 0, 0, 0]).kind = fk at *
          generalize (decR [0, 0, 0, 0]).tx = ft at *
          generalize (decR [0, 0, 0, 0]).cs = fcs at *
          generalize decN [0, 0, 0, 0] = fnn at *
          have HD1 := Lib.hid D1
          clear D1
          go_wp2_with fail
          refine HD1.out.mono ?_
          rintro e wo ⟨vo, rfl, oco, hbo⟩
          obtain ⟨Ao, co, rfl, _, _, _⟩ := oco.cr
          have HW27 := Lib.hid (gr_trans HW26l.out (gr_trans hbo (gr_alloc (gr_refl wo) (.cells #[.int .u8 (fk : Int), .int .i64 ft, .slice Ao fcs.length co] 38))))
          clear oco hbo HD1 HW26l
          go_upto_region 27 with fail
          generalize wo.alloc (.cells #[.int .u8 (fk : Int), .int .i64 ft, .slice Ao fcs.length co] 38) = w27 at *
          skip
          clear HBL
          have hbl := gr_alloc (gr_refl w27) (.cells #[.int .u8 1, .int .u8 0, .int .u8 0] 5)
          have HBL := Lib.hid (BR.litAt w27 5 [1, 0, 0] #[.int .u8 1, .int .u8 0, .int .u8 0] _ 3 rfl rfl rfl)
          have HW27l := Lib.hid (gr_trans HW27.out hbl)
          clear hbl HW27
          have D1 := Decode_any (some ⟨w27.heap.size, 0, none⟩) 3 3 [1, 0, 0] (w27.alloc (.cells #[.int .u8 1, .int .u8 0, .int .u8 0] 5)) HBL.out (by omega) (by omega) (by omega)
          rw [show decE [1, 0, 0] = 150 from by decide +kernel] at D1
          generalize (decR [1, 0, 0]).kind = fk at *
          generalize (decR [1, 0, 0]).tx = ft at *
          generalize (decR [1, 0, 0]).cs = fcs at *
          generalize decN [1, 0, 0] = fnn at *
          have HD1 := Lib.hid D1
          clear D1
          go_wp2_with fail
          refine HD1.out.mono ?_
          rintro e wo ⟨vo, rfl, oco, hbo⟩
          obtain ⟨Ao, co, rfl, _, _, _⟩ := oco.cr
          have HW28 := Lib.hid (gr_trans HW27l.out (gr_trans hbo (gr_alloc (gr_refl wo) (.cells #[.int .u8 (fk : Int), .int .i64 ft, .slice Ao fcs.length co] 38))))
          clear oco hbo HD1 HW27l
          go_upto_region 28 with fail
          generalize wo.alloc (.cells #[.int .u8 (fk : Int), .int .i64 ft, .slice Ao fcs.length co] 38) = w28 at *
          skip
          clear HBL
          have hbl := gr_alloc (gr_refl w28) (.cells #[.int .u8 255, .int .u8 255, .int .u8 255, .int .u8 255, .int .u8 0] 5)
          have HBL := Lib.hid (BR.litAt w28 5 [255, 255, 255, 255, 0] #[.int .u8 255, .int .u8 255, .int .u8 255, .int .u8 255, .int .u8 0] _ 5 rfl rfl rfl)
          have HW28l := Lib.hid (gr_trans HW28.out hbl)
          clear hbl HW28
          have D1 := Decode_any (some ⟨w28.heap.size, 0, none⟩) 5 5 [255, 255, 255, 255, 0] (w28.alloc (.cells #[.int .u8 255, .int .u8 255, .int .u8 255, .int .u8 255, .int .u8 0] 5)) HBL.out (by omega) (by omega) (by omega)
          rw [show decE [255, 255, 255, 255, 0] = 150 from by decide +kernel] at D1
          generalize (decR [255, 255, 255, 255, 0]).kind = fk at *
          generalize (decR [255, 255, 255, 255, 0]).tx = ft at *
          generalize (decR [255, 255, 255, 255, 0]).cs = fcs at *
          generalize decN [255, 255, 255, 255, 0] = fnn at *
          have HD1 := Lib.hid D1
          clear D1
          go_wp2_with fail
          refine HD1.out.mono ?_
          rintro e wo ⟨vo, rfl, oco, hbo⟩
          obtain ⟨Ao, co, rfl, _, _, _⟩ := oco.cr
          have HW29 := Lib.hid (gr_trans HW28l.out (gr_trans hbo (gr_alloc (gr_refl wo) (.cells #[.int .u8 (fk : Int), .int .i64 ft, .slice Ao fcs.length co] 38))))
          clear oco hbo HD1 HW28l
          go_upto_region 29 with fail
          generalize wo.alloc (.cells #[.int .u8 (fk : Int), .int .i64 ft, .slice Ao fcs.length co] 38) = w29 at *
          skip
          clear HBL
          go_wp2_with fail
          refine (commitBytes_any w29).mono ?_
          rintro e wb ⟨rfl, ob, hbb⟩
          go_wp2_with fail
          refine (atomBytes_any wb).mono ?_
          rintro e wc ⟨rfl, oa, hbc⟩
          obtain ⟨_, _, ee, bra, _, _⟩ := oa.formN (n := 27) rfl
          injection ee with e1 _ e2
          subst e1 e2
          have HOB := Lib.hid (ob.below hbc)
          have HBRA := Lib.hid bra
          have HBC := Lib.hid (gr_trans hbb hbc)
          clear ob bra oa hbb hbc
          go_wp2_with (at_builtin; refine wpList_append_B _ rfl (.tmp 213) (.tmp 214) rfl rfl HOB.out rfl (HBRA.out) (by decide) HBC.out.size ?_; intro A6 c6 w6 L6 HL6 hq6 o6 bb6 nb6)
          have e6 := HL6.out
          subst e6
          obtain ⟨A7, c7, e7, br7, hn7, hm7⟩ := o6.formN (n := 42) rfl
          have hq7 : (commitL ++ atomL).length = 42 := rfl
          simp only [hq7] at e7
          rw [show commitL.length + 27 = 42 from rfl]
          injection e7 with e7 _ e8
          subst e7 e8
          have HW6 := Lib.hid (gr_trans HW29.out (HBC.out.trans bb6))
          have AL := All_any A6 42 c6 (commitL ++ atomL) w6 br7 (by omega) hn7 (by simp only [maxLen] at hm7; omega)
          rw [show allE (commitL ++ atomL) = 0 from by decide +kernel] at AL
          have HLEN : Hid ((allR (commitL ++ atomL)).length = 2) := Lib.hid (by decide +kernel)
          have HAL := Lib.hid AL
          clear AL o6 bb6 nb6 br7 hn7 hm7 hq7 hq6 HL6 HOB HBRA HBC
          go_wp2_with fail
          refine HAL.out.mono ?_
          rintro e w7 ⟨v7, rfl, or7, hb7⟩
          obtain ⟨A7, c7, rfl, _, _, _⟩ := or7.rw
          rw [HLEN.out]
          have HW7 := Lib.hid (gr_trans HW6.out hb7)
          clear or7 hb7 HAL HLEN HW6 HW29
          generalize allR (commitL ++ atomL) = r42 at *
          go_wp2_with fail
          refine (commitBytes_any w7).mono ?_
          rintro e wb ⟨rfl, ob, hbb⟩
          have hbl := gr_alloc (gr_refl wb) (.cells #[.int .u8 1] 5)
          have HBL := Lib.hid (BR.litAt wb 5 [1] #[.int .u8 1] _ 1 rfl rfl rfl)
          have HOB := Lib.hid (ob.below hbl)
          have HBC := Lib.hid (gr_trans hbb hbl)
          clear ob hbb hbl
          go_wp2_with (at_builtin; refine wpList_append_B _ rfl (.tmp 220) (.tmp 221) rfl rfl HOB.out rfl (HBL.out) (by decide) HBC.out.size ?_; intro A8 c8 w8 L8 HL8 hq8 o8 bb8 nb8)
          have e8 := HL8.out
          subst e8
          obtain ⟨A9, c9, e9, br9, hn9, hm9⟩ := o8.formN (n := 16) rfl
          have hq9 : (commitL ++ [1]).length = 16 := rfl
          simp only [hq9] at e9
          rw [show commitL.length + 1 = 16 from rfl]
          injection e9 with e1 _ e2
          subst e1 e2
          have HW8 := Lib.hid (gr_trans HW7.out (HBC.out.trans bb8))
          have AL := All_any A8 16 c8 (commitL ++ [1]) w8 br9 (by omega) hn9 (by simp only [maxLen] at hm9; omega)
          rw [show allE (commitL ++ [1]) = 150 from by decide +kernel] at AL
          have HLEN : Hid ((allR (commitL ++ [1])).length = 0) := Lib.hid (by decide +kernel)
          have HAL := Lib.hid AL
          clear AL o8 bb8 nb8 br9 hn9 hm9 hq9 hq8 HL8 HOB HBL HBC HW7
          go_wp2_with fail
          refine HAL.out.mono ?_
          rintro e w9 ⟨v9, rfl, or9, hb9⟩
          obtain ⟨A9, c9, rfl, _, _, _⟩ := or9.rw
          rw [HLEN.out]
          have HW9 := Lib.hid (gr_trans HW8.out hb9)
          clear or9 hb9 HAL HLEN HW8
          generalize allR (commitL ++ [1]) = r16 at *
          go_wp2_with fail
          refine (All_any none 0 0 [] w9 (BR.none_ _ _) (by omega) (by omega) (by omega)).mono ?_
          rw [show allE [] = 0 from rfl, show allR [] = [] from rfl]
          rintro e wx ⟨vx, rfl, orx, hbx⟩
          obtain ⟨Ax, cx, rfl, _, _, _⟩ := orx.rw
          rw [show (List.length ([] : List Rec)) = 0 from rfl]
          have HWX := Lib.hid (gr_trans HW9.out hbx)
          clear orx hbx HW9
          go_wp2_with fail
          refine (awake05_any _).mono ?_
          rintro e wz ⟨rfl, hbz⟩
          go_wp2
          go_ret
          exact ⟨rfl, gr_trans HWX.out hbz⟩

end Go.Proofs.Ythpjjoahffagcaa
