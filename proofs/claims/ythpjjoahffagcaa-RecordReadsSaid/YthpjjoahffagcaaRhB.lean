/-
  The reference of chapter 05: read.
-/
import Derived.Test.YthpjjoahffagcaaRhA
import Derived.Test.YthpjjoahffagcaaRefB
namespace Go.Proofs.Ythpjjoahffagcaa
open Go.RowKit

theorem enc_head {r : Rec} (hr : r.right = true) : numAt (encB r) ((0 : Nat) : Int) 1 = some r.kind ∧ numAt (encB r) ((1 : Nat) : Int) 8 = some r.tx.toNat ∧ numAt (encB r) ((9 : Nat) : Int) 2 = some r.cs.length ∧ Seg (encB r) 11 (encB r).length (encCs r.cs) ∧ r.kind < 256 ∧ toI r.tx.toNat = r.tx := by
  obtain ⟨g1, g2, g3, g4, g5⟩ := right_good hr
  have e : encB r = leB r.kind 1 ++ (leB r.tx.toNat 8 ++ (leB r.cs.length 2 ++ encCs r.cs)) := by
    rw [leB_one _ (by omega)]
    rfl
  have h0 : Seg (encB r) 0 (encB r).length (leB r.kind 1 ++ (leB r.tx.toNat 8 ++ (leB r.cs.length 2 ++ encCs r.cs))) := by
    have := Seg.all (encB r)
    rw [← e]
    exact this
  obtain ⟨h1, h2⟩ := h0.split
  obtain ⟨h3, h4⟩ := h2.split
  obtain ⟨h5, h6⟩ := h4.split
  simp only [leB_length, Nat.zero_add, Nat.reduceAdd] at h1 h2 h3 h4 h5 h6
  refine ⟨numAt_seg h1 (by omega), numAt_seg h3 (by omega), numAt_seg h5 (by omega), h6, by omega, ?_⟩
  unfold toI
  rw [if_pos (by omega)]
  omega

theorem chunk {b : List UInt8} {at_ n : Nat} {pg : Int} {img : List UInt8} {ps : List Pc} {rest : List Ch} (h : Seg b at_ n (encCs ((pg, img, ps) :: rest))) (hg : chG (pg, img, ps)) : numAt b (at_ : Int) 4 = some pg.toNat ∧
    (0 < img.length → numAt b ((at_ : Int) + 4) 1 = some 1 ∧ img.length = 4080 ∧ ps = [] ∧ Seg b (at_ + 5) (at_ + 5 + 4080) img ∧ Seg b (at_ + 5 + 4080) n (encCs rest)) ∧
    (img.length = 0 → numAt b ((at_ : Int) + 4) 1 = some 0 ∧ numAt b ((at_ : Int) + 5) 2 = some ps.length ∧ Seg b (at_ + 7) n (encPs ps ++ encCs rest)) := by
  obtain ⟨g1, g2, g3, g4, g5⟩ := hg
  simp only at g1 g2 g3 g4 g5
  obtain ⟨h1, h2⟩ := (show Seg b at_ n (encC (pg, img, ps) ++ encCs rest) from h).split
  unfold encC at h1 h2
  simp only at h1 h2
  refine ⟨numAt_seg h1.split.1 (by omega), fun h0 => ?_, fun h0 => ?_⟩
  · rw [if_pos h0] at h1 h2
    obtain ⟨i1, i2⟩ := g3 h0
    have e : (1 :: img) = leB 1 1 ++ img := rfl
    rw [e] at h1 h2
    have h3 := h1.split.2.split
    simp only [leB_length, List.length_append] at h3 h2
    rw [i1] at h2 h3
    have e2 : (((at_ + 4 : Nat) : Nat) : Int) = (at_ : Int) + 4 := by omega
    refine ⟨by rw [← e2]; exact numAt_seg h3.1 (by omega), i1, i2, h3.2, ?_⟩
    exact h2
  · rw [if_neg (by omega)] at h1 h2
    have e : (0 :: (leB ps.length 2 ++ encPs ps)) = leB 0 1 ++ (leB ps.length 2 ++ encPs ps) := rfl
    rw [e] at h1 h2
    have h3 := h1.split.2.split
    have h4 := h3.2.split
    have h5 := Seg.app h4.2 h2
    simp only [leB_length, List.length_append] at h3 h4 h5
    have e2 : (((at_ + 4 : Nat) : Nat) : Int) = (at_ : Int) + 4 := by omega
    have e3 : (((at_ + 4 + 1 : Nat) : Nat) : Int) = (at_ : Int) + 5 := by omega
    exact ⟨by rw [← e2]; exact numAt_seg h3.1 (by omega), by rw [← e3]; exact numAt_seg h4.1 (by omega), h5⟩
theorem piece {b : List UInt8} {at_ n : Nat} {p : Pc} {ps : List Pc} {l : List UInt8} (h : Seg b at_ n (encPs (p :: ps) ++ l)) (hg : pcG p) : numAt b (at_ : Int) 2 = some p.1.toNat ∧ partAt b ((at_ : Int) + 2) = some (p.2, at_ + 4 + p.2.length) ∧ Seg b (at_ + 4 + p.2.length) n (encPs ps ++ l) := by
  obtain ⟨g1, g2, g3⟩ := hg
  have h0 : Seg b at_ n (leB p.1.toNat 2 ++ ((leB p.2.length 2 ++ p.2) ++ (encPs ps ++ l))) := by
    have e : encPs (p :: ps) ++ l = leB p.1.toNat 2 ++ ((leB p.2.length 2 ++ p.2) ++ (encPs ps ++ l)) := by
      show (encP p ++ encPs ps) ++ l = _
      unfold encP
      simp
    rw [← e]
    exact h
  have h1 := h0.split
  have h2 := h1.2.split
  simp only [leB_length, List.length_append] at h1 h2
  have e2 : (((at_ + 2 : Nat) : Nat) : Int) = (at_ : Int) + 2 := by omega
  have e3 : at_ + 2 + (2 + p.2.length) = at_ + 4 + p.2.length := by omega
  rw [e3] at h2
  exact ⟨numAt_seg h1.1 (by omega), by rw [← e2]; exact partAt_seg h2.1 (by omega), h2.2⟩
theorem partAt_len {l : List UInt8} {at_ : Int} {p : List UInt8} {e : Nat} (h : partAt l at_ = some (p, e)) : p.length ≤ 65535 ∧ e ≤ l.length := by
  unfold partAt at h
  cases hn : numAt l at_ 2 with
  | none => rw [hn] at h; cases h
  | some k =>
    rw [hn] at h
    simp only at h
    obtain ⟨h0, h1, _, h3⟩ := numAt_some hn
    split at h
    · cases h
    · injection h with h
      injection h with h4 h5
      subst h4 h5
      exact ⟨by rw [List.length_take]; omega, by omega⟩

def RdPost (w : World) (ro : Option Rec) (e : Ending) (w' : World) : Prop :=
  ∃ (r : Rec) (v : Value), e = .returned (.agg #[.int .u8 (r.kind : Int), .int .i64 r.tx, v]) ∧ OCW w' w.heap.size v r.cs ∧ Below w.heap.size w w' ∧ recQ r ∧ ∀ q, ro = some q → r = q

set_option maxRecDepth 100000 in
set_option maxHeartbeats 8000000 in
theorem refRead_any (A : Option Addr) (n c : Nat) (b : List UInt8) (w : World) (hb : BR w A n b) (hn : n ≤ 1073741824) (hnc : n ≤ c) (_hc : c ≤ maxLen) (ro : Option Rec) (hro : ∀ r, ro = some r → r.right = true ∧ b = encB r) :
    Calls Try.prog 42 #[.slice A n c] w (RdPost w ro) := by
  obtain ⟨i0, hi0, hz0, hz1, hz2⟩ := info_parts info_u8
  obtain ⟨i1, hi1, hy0, hy1, hy2⟩ := info_parts info_change
  obtain ⟨i2, hi2, hx0, hx1, hx2⟩ := info_parts info_piece
  have hl := hb.len
  have HL := Lib.hid hl
  have hb1 := gr_alloc (gr_refl w) (.cells #[.int .u8 0, .int .i64 0, .slice none 0 0] 38)
  have hb2 := gr_alloc hb1 (.cells #[.int .u8 0, .int .i64 0, .slice none 0 0] 38)
  have HB0 := Lib.hid (hb.below hb2)
  have HBR := Lib.hid hb
  have HW0 := Lib.hid hb2
  have X1 := numAt_lt b ((0 : Nat) : Int) 1
  have X2 := numAt_lt b ((1 : Nat) : Int) 8
  have X3 := numAt_lt b ((9 : Nat) : Int) 2
  have HRO : Hid (∀ r, ro = some r → (numAt b ((0 : Nat) : Int) 1).getD 0 = r.kind ∧ (numAt b ((1 : Nat) : Int) 8).getD 0 = r.tx.toNat ∧ (numAt b ((9 : Nat) : Int) 2).getD 0 = r.cs.length ∧ Seg b 11 n (encCs r.cs) ∧ toI r.tx.toNat = r.tx) := Lib.hid (fun r h => by
    obtain ⟨h1, h2⟩ := hro r h
    obtain ⟨a1, a2, a3, a4, a5, a6⟩ := enc_head h1
    rw [← h2] at a1 a2 a3 a4
    rw [a1, a2, a3]
    rw [hl] at a4
    exact ⟨rfl, rfl, rfl, a4, a6⟩)
  have HRI : Hid (∀ r, ro = some r → r.cs.length ≤ 16 ∧ ∀ c ∈ r.cs, chG c) := Lib.hid (fun r h => ⟨(right_good (hro r h).1).2.2.2.1, (right_good (hro r h).1).2.2.2.2⟩)
  have NUM : Hid (∀ W at_ s, BR W A n b → s ≤ 8 → (at_ : Int) ≤ 9223372036854775807 → -9223372036854775808 ≤ at_ → Calls Try.prog 41 #[.slice A n c, .int .i64 at_, .int .i64 ((s : Nat) : Int)] W fun e w' => e = .returned (.tuple #[.int .u64 (((numAt b at_ s).getD 0 : Nat) : Int), .bool (numAt b at_ s).isSome]) ∧ W = w') := Lib.hid (fun W at_ s h h8 h1 h2 => refNumber_any A n c b W at_ s h (by omega) h8 h2 h1)
  have N1 := Lib.hid (NUM.out _ ((0 : Nat) : Int) 1 HB0.out (by omega) (by omega) (by omega))
  have N2 := Lib.hid (NUM.out _ ((1 : Nat) : Int) 8 HB0.out (by omega) (by omega) (by omega))
  have N3 := Lib.hid (NUM.out _ ((9 : Nat) : Int) 2 HB0.out (by omega) (by omega) (by omega))
  generalize (numAt b ((0 : Nat) : Int) 1).isSome = k1 at *
  generalize (numAt b ((1 : Nat) : Int) 8).isSome = k2 at *
  generalize (numAt b ((9 : Nat) : Int) 2).isSome = k3 at *
  generalize (numAt b ((0 : Nat) : Int) 1).getD 0 = kd at *
  generalize (numAt b ((1 : Nat) : Int) 8).getD 0 = tv at *
  generalize (numAt b ((9 : Nat) : Int) 2).getD 0 = nv at *
  have c1 : IntKind.u8.wrap (kd : Int) = (kd : Int) := IntWalk.u8_in _ ⟨by omega, by omega⟩
  have c2' : wrap64 (tv : Int) = toI tv := toI_wrap tv (by omega)
  have hti : -9223372036854775808 ≤ toI tv ∧ toI tv ≤ 9223372036854775807 := by unfold toI; split <;> omega
  have d1 : (0 : Int) ≤ (kd : Int) := Int.natCast_nonneg _
  have d2 : (kd : Int) ≤ 255 := by omega
  have d3 : (0 : Int) ≤ (nv : Int) := Int.natCast_nonneg _
  have d4 : (nv : Int) ≤ 65535 := by omega
  have HTI := Lib.hid hti
  have HTV : Hid (∀ x, tv = x → toI tv = toI x) := Lib.hid (fun x h => by rw [h])
  have HRO2 : Hid (∀ r, ro = some r → (kd : Int) = (r.kind : Int) ∧ toI tv = r.tx ∧ nv = r.cs.length ∧ Seg b 11 n (encCs r.cs)) := Lib.hid (fun r h => by
    obtain ⟨a1, a2, a3, a4, a5⟩ := HRO.out r h
    exact ⟨by rw [a1], by rw [a2]; exact a5, a3, a4⟩)
  generalize toI tv = ti at *
  clear hl hb hb1 hb2 hro X1 X2 X3 HRO hti HTV
  go_enter Try.func42, Try.ntmps42
  go_wp2_with fail
  refine N1.out.mono ?_
  rintro e w' ⟨rfl, rfl⟩
  go_wp2_with fail
  refine N2.out.mono ?_
  rintro e w' ⟨rfl, rfl⟩
  go_wp2_with fail
  refine N3.out.mono ?_
  rintro e w' ⟨rfl, rfl⟩
  go_wp2_with fail
  have hrd : RD w ((w.alloc (.cells #[.int .u8 0, .int .i64 0, .slice none 0 0] 38)).alloc (.cells #[.int .u8 (kd : Int), .int .i64 ti, .slice none 0 0] 38)) (kd : Int) ti (.slice none 0 0) [] := by
    have b1 := gr_alloc (gr_refl w) (.cells #[.int .u8 0, .int .i64 0, .slice none 0 0] 38)
    have x1 := heap_alloc_new w (.cells #[.int .u8 0, .int .i64 0, .slice none 0 0] 38)
    generalize hw1 : w.alloc (.cells #[.int .u8 0, .int .i64 0, .slice none 0 0] 38) = w1 at *
    have s1 : w1.heap.size = w.heap.size + 1 := by rw [← hw1, World.size_alloc]
    have b2 := gr_alloc (gr_refl w1) (.cells #[.int .u8 (kd : Int), .int .i64 ti, .slice none 0 0] 38)
    have x2 := heap_alloc_new w1 (.cells #[.int .u8 (kd : Int), .int .i64 ti, .slice none 0 0] 38)
    rw [s1] at x2
    exact ⟨(b2.block _ (Array.getElem?_eq_some_iff.1 x1).1).trans x1, x2, OCW.nil _ _, gr_trans b1 b2⟩
  have HRD0 := Lib.hid hrd
  clear hrd c1 c2' N1 N2 N3 HB0 HW0
  generalize (w.alloc (.cells #[.int .u8 0, .int .i64 0, .slice none 0 0] 38)).alloc (.cells #[.int .u8 (kd : Int), .int .i64 ti, .slice none 0 0] 38) = w0 at *
  go_loopw [10, 11] (fun a i wr => ∃ (i' at_ : Nat) (acc : List Ch) (v : Value), i' ≤ 17 ∧ i' ≤ nv ∧ at_ ≤ n + 11 ∧ a = .int .i64 (at_ : Int) ∧ i = .int .i64 (i' : Int) ∧ Hid (acc.length = i') ∧ Hid (RD w wr (kd : Int) ti v acc) ∧ Hid (∀ c ∈ acc, chQ c) ∧ Hid (∀ r, ro = some r → acc = r.cs.take i' ∧ Seg b at_ n (encCs (r.cs.drop i')))) (fun _ i _ => 17 - (intOf i).toNat)
  case atStart => exact ⟨0, 11, [], _, by omega, by omega, by omega, rfl, rfl, Lib.hid rfl, HRD0, Lib.hid (fun c h => by cases h), Lib.hid (fun r h => ⟨rfl, (HRO2.out r h).2.2.2⟩)⟩
  case round =>
    clear HRD0
    obtain ⟨i, at_, acc, v, hi17, hinv, hat, rfl, rfl, HLA, HRD, HQA, HRR⟩ := hrel
    by_cases hlt : i < nv ∧ i < 17
    · obtain ⟨hlt1, hlt2⟩ := hlt
      have t1 : decide ((i : Int) < (nv : Int)) = true := decide_eq_true (by omega)
      have t1' : decide (i < nv) = true := decide_eq_true hlt1
      have t2 : decide ((i : Int) < 17) = true := decide_eq_true (by omega)
      have t2' : decide (i < 17) = true := decide_eq_true hlt2
      have j0 : (0 : Int) ≤ (i : Int) := Int.natCast_nonneg _
      have j1 : (0 : Int) ≤ (at_ : Int) := Int.natCast_nonneg _
      have HBW := Lib.hid (HBR.out.below HRD.out.bel)
      have N4 := Lib.hid (NUM.out wr (at_ : Int) 4 HBW.out (by omega) (by omega) (by omega))
      have N5 := Lib.hid (NUM.out wr ((at_ : Int) + 4) 1 HBW.out (by omega) (by omega) (by omega))
      -- what a right record says here
      have HCH : Hid (∀ r, ro = some r → ∃ pg img ps, r.cs.getD i ch0 = (pg, img, ps) ∧ chG (pg, img, ps) ∧ r.cs.take (i + 1) = r.cs.take i ++ [(pg, img, ps)] ∧ numAt b (at_ : Int) 4 = some pg.toNat ∧
          (0 < img.length → numAt b ((at_ : Int) + 4) 1 = some 1 ∧ img.length = 4080 ∧ ps = [] ∧ Seg b (at_ + 5) (at_ + 5 + 4080) img ∧ Seg b (at_ + 5 + 4080) n (encCs (r.cs.drop (i + 1)))) ∧
          (img.length = 0 → numAt b ((at_ : Int) + 4) 1 = some 0 ∧ numAt b ((at_ : Int) + 5) 2 = some ps.length ∧ Seg b (at_ + 7) n (encPs ps ++ encCs (r.cs.drop (i + 1))))) := Lib.hid (fun r h => by
        obtain ⟨h1, h2⟩ := HRR.out r h
        have h3 := (HRO2.out r h).2.2.1
        have hil : i < r.cs.length := by omega
        have hg := (HRI.out r h).2 _ (ch_mem hil)
        rw [ch_drop hil] at h2
        have htk : r.cs.take (i + 1) = r.cs.take i ++ [r.cs.getD i ch0] := by rw [List.take_succ_eq_append_getElem hil]; simp [List.getD, hil]
        generalize r.cs.getD i ch0 = ch at *
        obtain ⟨pg, img, ps⟩ := ch
        exact ⟨pg, img, ps, rfl, hg, htk, chunk h2 hg⟩)
      cases hp1 : numAt b (at_ : Int) 4 with
      | none =>
        have HCON : Hid (∀ q, ro = some q → False) := Lib.hid (fun q hq => by
          obtain ⟨pg, img, ps, _, _, _, e, _⟩ := HCH.out q hq
          rw [hp1] at e
          cases e)
        rw [hp1] at N4
        generalize numAt b ((at_ : Int) + 4) 1 = p2 at *
        clear hp1 HCH
        go_wp2_with fail
        refine N4.out.mono ?_
        rintro e w' ⟨rfl, rfl⟩
        go_wp2_with fail
        refine N5.out.mono ?_
        rintro e w' ⟨rfl, rfl⟩
        have r0 := HRD.out.r0
        have r1 := HRD.out.r1
        have r2 := HRD.out.r2
        have g0 := HRD.out.fr 0
        have g1 := HRD.out.fr 1
        have g2 := HRD.out.fr 2
        have HZ := Lib.hid HRD.out.zero
        go_wp2_with fail
        clear r0 r1 r2 g0 g1 g2
        obtain ⟨f1, f2⟩ := HZ.out _ rfl
        clear HZ
        generalize ((wr.setCell ⟨w.heap.size, 0, none⟩ (.int .u8 0)).setCell ⟨w.heap.size, 1, none⟩ (.int .i64 0)).setCell ⟨w.heap.size, 2, none⟩ (.slice none 0 0) = wf at *
        have z0 : wf.cell? ⟨w.heap.size, 0, none⟩ = some (.int .u8 0) := by rw [cell_of_row wf _ 0 _ _ _ f1]; rfl
        have z1 : wf.cell? ⟨w.heap.size, 1, none⟩ = some (.int .i64 0) := by rw [cell_of_row wf _ 1 _ _ _ f1]; rfl
        have z2 : wf.cell? ⟨w.heap.size, 2, none⟩ = some (.slice none 0 0) := by rw [cell_of_row wf _ 2 _ _ _ f1]; rfl
        refine bodyPost_ret (v := .agg #[.int .u8 0, .int .i64 0, .slice none 0 0]) (by simp [results, Try.results42, go_sem, z0, z1, z2]) rfl ?_
        exact ⟨rec0, _, rfl, OCW.nil _ _, f2, rec0Q, fun q hq => (HCON.out q hq).elim⟩
      | some pgn =>
        have hlt4 := numAt_lt b (at_ : Int) 4
        rw [hp1] at hlt4 N4
        simp only [Option.getD_some] at hlt4
        cases hp2 : numAt b ((at_ : Int) + 4) 1 with
        | none =>
          have HCON : Hid (∀ q, ro = some q → False) := Lib.hid (fun q hq => by
            obtain ⟨pg, img, ps, _, _, _, _, e1, e2⟩ := HCH.out q hq
            rcases Nat.eq_zero_or_pos img.length with h0 | h0
            · have := (e2 h0).1; rw [hp2] at this; cases this
            · have := (e1 h0).1; rw [hp2] at this; cases this)
          rw [hp2] at N5
          clear hp1 hp2 HCH
          go_wp2_with fail
          refine N4.out.mono ?_
          rintro e w' ⟨rfl, rfl⟩
          go_wp2_with fail
          refine N5.out.mono ?_
          rintro e w' ⟨rfl, rfl⟩
          have r0 := HRD.out.r0
          have r1 := HRD.out.r1
          have r2 := HRD.out.r2
          have g0 := HRD.out.fr 0
          have g1 := HRD.out.fr 1
          have g2 := HRD.out.fr 2
          have HZ := Lib.hid HRD.out.zero
          go_wp2_with fail
          clear r0 r1 r2 g0 g1 g2
          obtain ⟨f1, f2⟩ := HZ.out _ rfl
          clear HZ
          generalize ((wr.setCell ⟨w.heap.size, 0, none⟩ (.int .u8 0)).setCell ⟨w.heap.size, 1, none⟩ (.int .i64 0)).setCell ⟨w.heap.size, 2, none⟩ (.slice none 0 0) = wf at *
          have z0 : wf.cell? ⟨w.heap.size, 0, none⟩ = some (.int .u8 0) := by rw [cell_of_row wf _ 0 _ _ _ f1]; rfl
          have z1 : wf.cell? ⟨w.heap.size, 1, none⟩ = some (.int .i64 0) := by rw [cell_of_row wf _ 1 _ _ _ f1]; rfl
          have z2 : wf.cell? ⟨w.heap.size, 2, none⟩ = some (.slice none 0 0) := by rw [cell_of_row wf _ 2 _ _ _ f1]; rfl
          refine bodyPost_ret (v := .agg #[.int .u8 0, .int .i64 0, .slice none 0 0]) (by simp [results, Try.results42, go_sem, z0, z1, z2]) rfl ?_
          exact ⟨rec0, _, rfl, OCW.nil _ _, f2, rec0Q, fun q hq => (HCON.out q hq).elim⟩
        | some fm =>
          have hfm := numAt_some hp2
          have hL := HL.out
          have h5 : at_ + 5 ≤ n := by omega
          have hlt1' : fm < 256 := by have := hfm.2.2.2; omega
          rw [hp2] at N5
          clear hfm hL
          have HCH2 : Hid (∀ r, ro = some r → ∃ pg img ps, r.cs.getD i ch0 = (pg, img, ps) ∧ chG (pg, img, ps) ∧ r.cs.take (i + 1) = r.cs.take i ++ [(pg, img, ps)] ∧ pg = (pgn : Int) ∧
            (0 < img.length → fm = 1 ∧ img.length = 4080 ∧ ps = [] ∧ Seg b (at_ + 5) (at_ + 5 + 4080) img ∧ Seg b (at_ + 5 + 4080) n (encCs (r.cs.drop (i + 1)))) ∧
            (img.length = 0 → fm = 0 ∧ numAt b ((at_ : Int) + 5) 2 = some ps.length ∧ Seg b (at_ + 7) n (encPs ps ++ encCs (r.cs.drop (i + 1))))) := Lib.hid (fun r h => by
              obtain ⟨pg, img, ps, e0, hg, e1, e2, e3, e4⟩ := HCH.out r h
              rw [hp1] at e2
              injection e2 with e2
              have hpg := hg.1
              refine ⟨pg, img, ps, e0, hg, e1, by simp only at hpg; omega, fun h0 => ?_, fun h0 => ?_⟩
              · obtain ⟨a1, a2⟩ := e3 h0
                rw [hp2] at a1
                injection a1 with a1
                exact ⟨a1, a2⟩
              · obtain ⟨a1, a2⟩ := e4 h0
                rw [hp2] at a1
                injection a1 with a1
                exact ⟨a1, a2⟩)
          clear hp1 hp2 HCH
          have k0 : (0 : Int) ≤ (pgn : Int) := Int.natCast_nonneg _
          have k1 : (pgn : Int) ≤ 4294967295 := by omega
          have HRE := Lib.hid (RE.new wr (pgn : Int))
          obtain ⟨Av, cv, hv, _, _⟩ := own_form HRD.out.row.choose_spec.1
          rw [HLA.out] at hv
          subst hv
          go_wp2_with fail
          refine N4.out.mono ?_
          rintro e w' ⟨rfl, rfl⟩
          go_wp2_with fail
          refine N5.out.mono ?_
          rintro e w' ⟨rfl, rfl⟩
          go_upto_region 16 with fail
          generalize wr.alloc (.cells #[.int .i64 (pgn : Int), .slice none 0 0, .slice none 0 0] 56) = w2 at *
          generalize hcb : wr.heap.size = cb at *
          go_upto_region 17 with fail
          have h7 : -9223372036854775808 ≤ (at_ : Int) + 5 := by omega
          by_cases hf1 : fm = 1
          · have t3 : ((fm : Int) == 1) = true := by rw [hf1]; rfl
            have t3' : (fm == 1) = true := by rw [hf1]; rfl
            by_cases h8 : at_ + 5 + 4080 ≤ n
            · have t4 : decide ((n : Int) - ((at_ : Int) + 5) < 4080) = false := decide_eq_false (by omega)
              have hcut := fun W => run_cut_lh (P := Try.prog) W 26 5 i0 Try.underlying26 hi0 1 hz1 A n c ((at_ : Int) + 5) ((at_ : Int) + 5 + 4080) (at_ + 5) (at_ + 5 + 4080) (by omega) (by omega) (by omega) (by omega)
              have e80 : at_ + 5 + 4080 - (at_ + 5) = 4080 := by omega
              rw [e80] at hcut
              have HCUT := Lib.hid (BR.cut ((HBW.out).below (w' := w2) HRE.out.bel) (k := at_ + 5) (j := at_ + 5 + 4080) (c := c) (by omega) h8 hnc)
              rw [e80] at HCUT
              have h9 : (at_ : Int) + 5 + 4080 ≤ 9223372036854775807 := by omega
              clear N4 N5 h7 e80
              go_wp2_with fail
              refine (CopyBytes_any _ 4080 _ _ w2 HCUT.out (by omega)).mono ?_
              rintro e w3 ⟨v3, rfl, ob3, hb3⟩
              have HE3 := Lib.hid (HRE.out.below hb3)
              have hob := ob3.lower HRE.out.bel.size
              have HI3 := Lib.hid (HE3.out.set1 hob)
              have HIL : Hid (((b.drop (at_ + 5)).take 4080).length = 4080) := Lib.hid (by rw [List.length_take, List.length_drop, HL.out]; omega)
              obtain ⟨A3, c3, rfl, _, _⟩ := own_form ob3
              rw [HIL.out] at HI3 ⊢
              have HIMG : Hid (∀ r, ro = some r → ∃ ps, chG ((pgn : Int), (b.drop (at_ + 5)).take 4080, ps) ∧ ps = [] ∧ r.cs.take (i + 1) = r.cs.take i ++ [((pgn : Int), (b.drop (at_ + 5)).take 4080, [])] ∧ Seg b (at_ + 5 + 4080) n (encCs (r.cs.drop (i + 1)))) := Lib.hid (fun r h => by
                obtain ⟨pg, img, ps, e0, hg, e1, e2, e3, e4⟩ := HCH2.out r h
                rcases Nat.eq_zero_or_pos img.length with h0 | h0
                · have := (e4 h0).1; omega
                · obtain ⟨_, a2, a3, a4, a5⟩ := e3 h0
                  have a6 := a4.2.2
                  rw [a2] at a6
                  subst e2
                  rw [← a6] at hg e1
                  rw [a3] at e1
                  exact ⟨ps, hg, a3, e1, a5⟩)
              generalize (b.drop (at_ + 5)).take 4080 = img at *
              have m0 := HE3.out.c1
              have m1 := HE3.out.fc 1
              clear ob3 hob HCUT
              go_upto_region 22 with fail
              clear m0 m1
              generalize hwi : w3.setCell ⟨cb, 1, none⟩ (.slice A3 4080 c3) = wi at *
              clear hwi
              have hbl := gr_alloc (gr_refl wi) (.cells #[.int .i64 (pgn : Int), .slice A3 4080 c3, .slice none 0 0] 56)
              have HREl := Lib.hid (HI3.out.below hbl)
              have HRDl := Lib.hid ((HRD.out.below HI3.out.bel).below hbl)
              obtain ⟨us, q1, q2, q3⟩ := HRDl.out.row
              have u1 := HI3.out.c0
              have u2 := HI3.out.c1
              have u3 := HI3.out.c2
              have u4 := (HRD.out.below HI3.out.bel).o2
              have Q1 := Lib.hid q1
              have Q2 := Lib.hid q2
              have Q3 := Lib.hid q3
              have hbs := HRDl.out.bel.size
              clear hbl q1 q2 q3
              go_wp2_with (at_builtin; refine wpList_append_Rd _ rfl (.tmp 98) (.tmp 100) _ rfl w.heap.size 56 i1 _ 3 56 Try.underlying36 hi1 hy0 hy1 hy2 rfl (.slice Av i cv) i (chs us) rfl (by have := Q1.out; rw [HLA.out] at this; exact this) (some ⟨wi.heap.size, 0, none⟩) 1 1 [.int .i64 (pgn : Int), .slice A3 4080 c3, .slice none 0 0] rfl (Rd.new wi _ #[.int .i64 (pgn : Int), .slice A3 4080 c3, .slice none 0 0] 1 3 rfl) (by simp [Value.oneCell']) (by omega) (by simp only [maxLen]; omega) hbs ?_; intro v8 w8 ho8 hg8 _ _; obtain ⟨y8, z8, rd8⟩ := HRDl.out.push Q1.out Q2.out Q3.out (HREl.out.o1.lower HRD.out.bel.size) (HREl.out.o2.lower HRD.out.bel.size) (by rw [HLA.out]; exact ho8) hg8; obtain ⟨A8, c8, rfl, _, _⟩ := own_form ho8; have z8' := z8 2; have HC8 := Lib.hid rd8; clear ho8 hg8 z8 rd8)
              clear u1 u2 u3 u4 y8 z8'
              go_roundw
              case rel => exact ⟨i + 1, at_ + 5 + 4080, acc ++ [((pgn : Int), img, [])], _, by omega, by omega, by omega, by go_num, by go_num, Lib.hid (by rw [List.length_append, HLA.out]; rfl), HC8, Lib.hid (fun c hc => by
                rcases List.mem_append.1 hc with h | h
                · exact HQA.out c h
                · rw [List.mem_singleton.1 h]
                  exact ⟨k0, k1, by simp only; have := HIL.out; omega, by simp, fun p h => by cases h⟩), Lib.hid (fun r h => by
                obtain ⟨ps, _, _, e1, e2⟩ := HIMG.out r h
                exact ⟨by rw [e1, (HRR.out r h).1], e2⟩)⟩
              case measure => simp [intOf]; omega
            · have t4 : decide ((n : Int) - ((at_ : Int) + 5) < 4080) = true := decide_eq_true (by omega)
              have HCON : Hid (∀ q, ro = some q → False) := Lib.hid (fun q hq => by
                obtain ⟨pg, img, ps, e0, hg, e1, e2, e3, e4⟩ := HCH2.out q hq
                rcases Nat.eq_zero_or_pos img.length with h0 | h0
                · have := (e4 h0).1; omega
                · have := (e3 h0).2.2.2.1.2.1
                  have := HL.out
                  omega)
              have HRD2 := Lib.hid (HRD.out.below HRE.out.bel)
              clear N4 N5 h7
              have r0 := HRD2.out.r0
              have r1 := HRD2.out.r1
              have r2 := HRD2.out.r2
              have g0 := HRD2.out.fr 0
              have g1 := HRD2.out.fr 1
              have g2 := HRD2.out.fr 2
              have HZ := Lib.hid HRD2.out.zero
              go_wp2_with fail
              clear r0 r1 r2 g0 g1 g2
              obtain ⟨f1, f2⟩ := HZ.out _ rfl
              clear HZ
              generalize ((w2.setCell ⟨w.heap.size, 0, none⟩ (.int .u8 0)).setCell ⟨w.heap.size, 1, none⟩ (.int .i64 0)).setCell ⟨w.heap.size, 2, none⟩ (.slice none 0 0) = wf at *
              have z0 : wf.cell? ⟨w.heap.size, 0, none⟩ = some (.int .u8 0) := by rw [cell_of_row wf _ 0 _ _ _ f1]; rfl
              have z1 : wf.cell? ⟨w.heap.size, 1, none⟩ = some (.int .i64 0) := by rw [cell_of_row wf _ 1 _ _ _ f1]; rfl
              have z2 : wf.cell? ⟨w.heap.size, 2, none⟩ = some (.slice none 0 0) := by rw [cell_of_row wf _ 2 _ _ _ f1]; rfl
              refine bodyPost_ret (v := .agg #[.int .u8 0, .int .i64 0, .slice none 0 0]) (by simp [results, Try.results42, go_sem, z0, z1, z2]) rfl ?_
              exact ⟨rec0, _, rfl, OCW.nil _ _, f2, rec0Q, fun q hq => (HCON.out q hq).elim⟩
          · have t3 : ((fm : Int) == 1) = false := beq_eq_false_iff_ne.2 (by omega)
            have t3' : (fm == 1) = false := beq_eq_false_iff_ne.2 hf1
            have HB2 := Lib.hid (HBW.out.below HRE.out.bel)
            have N6 := Lib.hid (NUM.out w2 ((at_ : Int) + 5) 2 HB2.out (by omega) (by omega) (by omega))
            clear N4 N5
            have hm := numAt_lt b ((at_ : Int) + 5) 2
            have HPS : Hid (∀ r, ro = some r → ∃ pps, chG ((pgn : Int), [], pps) ∧ r.cs.take (i + 1) = r.cs.take i ++ [((pgn : Int), [], pps)] ∧ (numAt b ((at_ : Int) + 5) 2).isSome = true ∧ (numAt b ((at_ : Int) + 5) 2).getD 0 = pps.length ∧ Seg b (at_ + 7) n (encPs pps ++ encCs (r.cs.drop (i + 1)))) := Lib.hid (fun r h => by
              obtain ⟨pg, img, ps, e0, hg, e1, e2, e3, e4⟩ := HCH2.out r h
              rcases Nat.eq_zero_or_pos img.length with h0 | h0
              · obtain ⟨_, a2, a3⟩ := e4 h0
                have e5 : img = [] := List.eq_nil_of_length_eq_zero h0
                subst e2 e5
                exact ⟨ps, hg, e1, by rw [a2]; rfl, by rw [a2]; rfl, a3⟩
              · have := (e3 h0).1; omega)
            generalize (numAt b ((at_ : Int) + 5) 2).isSome = ok0 at *
            generalize (numAt b ((at_ : Int) + 5) 2).getD 0 = m at *
            have m0 : (0 : Int) ≤ (m : Int) := Int.natCast_nonneg _
            have m1 : (m : Int) ≤ 65535 := by omega
            go_wp2_with fail
            refine N6.out.mono ?_
            rintro e w' ⟨rfl, rfl⟩
            go_upto_region 26 with fail
            clear N6 HB2 HCH2
            generalize wr = wo at *
            go_loopw [10, 13, 18] (fun a ok q wz => ∃ (k at2 : Nat) (okb : Bool) (ps : List Pc) (v2 : Value), k ≤ m ∧ at2 ≤ n + 11 ∧ a = .int .i64 (at2 : Int) ∧ ok = .bool okb ∧ q = .int .i64 (k : Int) ∧ Hid (ps.length = k) ∧ Hid (RE wo wz cb (pgn : Int) (.slice none 0 0) [] v2 ps) ∧ Hid (∀ p ∈ ps, pcQ p) ∧
              Hid (∀ r, ro = some r → okb = true ∧ ∃ pps, chG ((pgn : Int), [], pps) ∧ r.cs.take (i + 1) = r.cs.take i ++ [((pgn : Int), [], pps)] ∧ m = pps.length ∧ ps = pps.take k ∧ Seg b at2 n (encPs (pps.drop k) ++ encCs (r.cs.drop (i + 1))))) (fun _ _ q _ => m - (intOf q).toNat)
            case atStart => exact ⟨0, at_ + 7, ok0, [], _, by omega, by omega, by go_num, rfl, rfl, Lib.hid rfl, HRE, Lib.hid (fun p h => by cases h), Lib.hid (fun r h => by
              obtain ⟨pps, a1, a2, a3, a4, a5⟩ := HPS.out r h
              exact ⟨a3, pps, a1, a2, a4, rfl, a5⟩)⟩
            case round =>
              clear HRE HPS
              obtain ⟨k, at2, okb, ps, v2, hkm, hat2, rfl, rfl, rfl, HLP, HRE, HQP, HRP⟩ := hrel
              have l0 : (0 : Int) ≤ (k : Int) := Int.natCast_nonneg _
              have l1 : (0 : Int) ≤ (at2 : Int) := Int.natCast_nonneg _
              obtain ⟨Ap, cp, hv2, _, _⟩ := own_form HRE.out.o2.choose_spec.1
              rw [HLP.out] at hv2
              subst hv2
              cases okb
              · have HCON : Hid (∀ q, ro = some q → False) := Lib.hid (fun q hq => by have := (HRP.out q hq).1; cases this)
                have HRD2 := Lib.hid (HRD.out.below HRE.out.bel)
                go_upto_region 34 with fail
                have r0 := HRD2.out.r0
                have r1 := HRD2.out.r1
                have r2 := HRD2.out.r2
                have g0 := HRD2.out.fr 0
                have g1 := HRD2.out.fr 1
                have g2 := HRD2.out.fr 2
                have HZ := Lib.hid HRD2.out.zero
                go_wp2_with fail
                clear r0 r1 r2 g0 g1 g2
                obtain ⟨f1, f2⟩ := HZ.out _ rfl
                clear HZ
                generalize ((wr.setCell ⟨w.heap.size, 0, none⟩ (.int .u8 0)).setCell ⟨w.heap.size, 1, none⟩ (.int .i64 0)).setCell ⟨w.heap.size, 2, none⟩ (.slice none 0 0) = wf at *
                have z0 : wf.cell? ⟨w.heap.size, 0, none⟩ = some (.int .u8 0) := by rw [cell_of_row wf _ 0 _ _ _ f1]; rfl
                have z1 : wf.cell? ⟨w.heap.size, 1, none⟩ = some (.int .i64 0) := by rw [cell_of_row wf _ 1 _ _ _ f1]; rfl
                have z2 : wf.cell? ⟨w.heap.size, 2, none⟩ = some (.slice none 0 0) := by rw [cell_of_row wf _ 2 _ _ _ f1]; rfl
                refine bodyPost_ret (v := .agg #[.int .u8 0, .int .i64 0, .slice none 0 0]) (by simp [results, Try.results42, go_sem, z0, z1, z2]) rfl ?_
                exact ⟨rec0, _, rfl, OCW.nil _ _, f2, rec0Q, fun q hq => (HCON.out q hq).elim⟩
              · by_cases hkl : k < m
                · have s1 : decide ((k : Int) < (m : Int)) = true := decide_eq_true (by omega)
                  have s1' : decide (k < m) = true := decide_eq_true hkl
                  have HBz := Lib.hid (HBW.out.below HRE.out.bel)
                  have N7 := Lib.hid (NUM.out wr (at2 : Int) 2 HBz.out (by omega) (by omega) (by omega))
                  have hfr := numAt_lt b (at2 : Int) 2
                  have PT := Lib.hid (refPart_any A n c b wr ((at2 : Int) + 2) HBz.out (by omega) (by omega) (by omega))
                  have HPC : Hid (∀ r, ro = some r → ∃ p pps, chG ((pgn : Int), [], pps) ∧ r.cs.take (i + 1) = r.cs.take i ++ [((pgn : Int), [], pps)] ∧ m = pps.length ∧ pps.take (k + 1) = ps ++ [p] ∧ p.1 = (((numAt b (at2 : Int) 2).getD 0 : Nat) : Int) ∧ partAt b ((at2 : Int) + 2) = some (p.2, at2 + 4 + p.2.length) ∧ Seg b (at2 + 4 + p.2.length) n (encPs (pps.drop (k + 1)) ++ encCs (r.cs.drop (i + 1)))) := Lib.hid (fun r h => by
                    obtain ⟨_, pps, a1, a2, a3, a4, a5⟩ := HRP.out r h
                    have hkp : k < pps.length := by omega
                    have hg := a1.2.2.2.2 _ (pc_mem hkp)
                    rw [pc_drop hkp] at a5
                    have htk : pps.take (k + 1) = pps.take k ++ [pps.getD k (0, [])] := by rw [List.take_succ_eq_append_getElem hkp, pc_getD' hkp]
                    generalize pps.getD k (0, []) = p at *
                    obtain ⟨b1, b2, b3⟩ := piece a5 hg
                    refine ⟨p, pps, a1, a2, a3, by rw [htk, a4], ?_, b2, b3⟩
                    rw [b1]
                    have := hg.1
                    simp only [Option.getD_some]
                    omega)
                  generalize (numAt b (at2 : Int) 2).isSome = xs at *
                  generalize (numAt b (at2 : Int) 2).getD 0 = fr at *
                  have n0 : (0 : Int) ≤ (fr : Int) := Int.natCast_nonneg _
                  have n1 : (fr : Int) ≤ 65535 := by omega
                  clear HRP
                  have HPL : Hid ((((partAt b ((at2 : Int) + 2)).map (·.1)).getD []).length ≤ 65535 ∧ ((partAt b ((at2 : Int) + 2)).map (·.2)).getD 0 ≤ n) := Lib.hid (by
                    cases hpt : partAt b ((at2 : Int) + 2) with
                    | none => exact ⟨by simp, by simp⟩
                    | some p =>
                      obtain ⟨pl, pe⟩ := p
                      obtain ⟨q1, q2⟩ := partAt_len hpt
                      have := HL.out
                      exact ⟨by simpa using q1, by simp; omega⟩)
                  have HPC2 : Hid (∀ r, ro = some r → (partAt b ((at2 : Int) + 2)).isSome = true ∧ ∃ pps, chG ((pgn : Int), [], pps) ∧ r.cs.take (i + 1) = r.cs.take i ++ [((pgn : Int), [], pps)] ∧ m = pps.length ∧ ps ++ [((fr : Int), ((partAt b ((at2 : Int) + 2)).map (·.1)).getD [])] = pps.take (k + 1) ∧ Seg b (((partAt b ((at2 : Int) + 2)).map (·.2)).getD 0) n (encPs (pps.drop (k + 1)) ++ encCs (r.cs.drop (i + 1)))) := Lib.hid (fun r h => by
                    obtain ⟨p, pps, a1, a2, a3, a4, a5, a6, a7⟩ := HPC.out r h
                    rw [a6]
                    refine ⟨rfl, pps, a1, a2, a3, ?_, by simpa using a7⟩
                    rw [a4, ← a5]
                    simp)
                  clear HPC
                  generalize (partAt b ((at2 : Int) + 2)).isSome = fine at *
                  generalize ((partAt b ((at2 : Int) + 2)).map (·.2)).getD 0 = en at *
                  generalize ((partAt b ((at2 : Int) + 2)).map (·.1)).getD [] = pb at *
                  go_wp2_with fail
                  refine N7.out.mono ?_
                  rintro e w' ⟨rfl, rfl⟩
                  go_wp2_with fail
                  refine PT.out.mono ?_
                  rintro e w5 ⟨v5, rfl, ob5, hb5⟩
                  have HE5 := Lib.hid (HRE.out.below hb5)
                  have hob := ob5.lower HRE.out.bel.size
                  obtain ⟨A5, c5, rfl, _, _⟩ := own_form ob5
                  have u0 := HE5.out.c2
                  have hbl := gr_alloc (gr_refl w5) (.cells #[.int .i64 (fr : Int), .slice A5 pb.length c5] 29)
                  have HEl := Lib.hid (HE5.out.below hbl)
                  have HOB := Lib.hid (hob.below hbl)
                  obtain ⟨us, q1, q2, q3⟩ := HEl.out.o2
                  have Q1 := Lib.hid q1
                  have Q2 := Lib.hid q2
                  have Q3 := Lib.hid q3
                  have hbs := HEl.out.bel.size
                  clear hbl q1 q2 q3 ob5 hob N7 PT HBz
                  go_wp2_with (at_builtin; refine wpList_append_Rd _ rfl (.tmp 136) (.tmp 141) _ rfl wo.heap.size 29 i2 _ 2 32 Try.underlying22 hi2 hx0 hx1 hx2 rfl (.slice Ap k cp) k (pcs us) rfl (by have := Q1.out; rw [HLP.out] at this; exact this) (some ⟨w5.heap.size, 0, none⟩) 1 1 [.int .i64 (fr : Int), .slice A5 pb.length c5] rfl (Rd.new w5 _ #[.int .i64 (fr : Int), .slice A5 pb.length c5] 1 2 rfl) (by simp [Value.oneCell']) (by omega) (by simp only [maxLen]; omega) hbs ?_; intro v8 w8 ho8 hg8 _ _; obtain ⟨y8, z8, re8⟩ := HEl.out.piece Q1.out Q2.out Q3.out HOB.out (by rw [HLP.out]; exact ho8) hg8; obtain ⟨A8, c8, rfl, _, _⟩ := own_form ho8; have z8' := z8 2; have HC8 := Lib.hid re8; clear ho8 hg8 z8 re8)
                  go_roundw
                  case rel => exact ⟨k + 1, en, fine, ps ++ [((fr : Int), pb)], _, by omega, by have := HPL.out.2; omega, rfl, rfl, by go_num, Lib.hid (by rw [List.length_append, HLP.out]; rfl), HC8, Lib.hid (fun p hp => by
                    rcases List.mem_append.1 hp with h | h
                    · exact HQP.out p h
                    · rw [List.mem_singleton.1 h]
                      exact ⟨n0, n1, HPL.out.1⟩), HPC2⟩
                  case measure => simp [intOf]; omega
                · obtain rfl : k = m := by omega
                  have s1 : decide ((k : Int) < (k : Int)) = false := decide_eq_false (by omega)
                  have HFI : Hid (∀ r, ro = some r → r.cs.take (i + 1) = r.cs.take i ++ [((pgn : Int), [], ps)] ∧ Seg b at2 n (encCs (r.cs.drop (i + 1)))) := Lib.hid (fun r h => by
                    obtain ⟨_, pps, a1, a2, a3, a4, a5⟩ := HRP.out r h
                    rw [List.take_of_length_le (by omega)] at a4
                    rw [List.drop_eq_nil_of_le (by omega)] at a5
                    rw [a4]
                    exact ⟨a2, a5⟩)
                  have HAT : Hid (∀ r, ro = some r → at2 ≤ n) := Lib.hid (fun r h => by have := (HFI.out r h).2.2.1; have := (HFI.out r h).2.1; have := HL.out; omega)
                  go_upto_region 35 with fail
                  have hbl := gr_alloc (gr_refl wr) (.cells #[.int .i64 (pgn : Int), .slice none 0 0, .slice Ap k cp] 56)
                  have HREl := Lib.hid (HRE.out.below hbl)
                  have HRDl := Lib.hid ((HRD.out.below HRE.out.bel).below hbl)
                  obtain ⟨us, q1, q2, q3⟩ := HRDl.out.row
                  have u1 := HRE.out.c0
                  have u2 := HRE.out.c1
                  have u3 := HRE.out.c2
                  have u4 := (HRD.out.below HRE.out.bel).o2
                  have Q1 := Lib.hid q1
                  have Q2 := Lib.hid q2
                  have Q3 := Lib.hid q3
                  have hbs := HRDl.out.bel.size
                  clear hbl q1 q2 q3
                  go_wp2_with (at_builtin; refine wpList_append_Rd _ rfl (.tmp 149) (.tmp 151) _ rfl w.heap.size 56 i1 _ 3 56 Try.underlying36 hi1 hy0 hy1 hy2 rfl (.slice Av i cv) i (chs us) rfl (by have := Q1.out; rw [HLA.out] at this; exact this) (some ⟨wr.heap.size, 0, none⟩) 1 1 [.int .i64 (pgn : Int), .slice none 0 0, .slice Ap k cp] rfl (Rd.new wr _ #[.int .i64 (pgn : Int), .slice none 0 0, .slice Ap k cp] 1 3 rfl) (by simp [Value.oneCell']) (by omega) (by simp only [maxLen]; omega) hbs ?_; intro v8 w8 ho8 hg8 _ _; obtain ⟨y8, z8, rd8⟩ := HRDl.out.push Q1.out Q2.out Q3.out (HREl.out.o1.lower HRD.out.bel.size) (HREl.out.o2.lower HRD.out.bel.size) (by rw [HLA.out]; exact ho8) hg8; obtain ⟨A8, c8, rfl, _, _⟩ := own_form ho8; have z8' := z8 2; have HC8 := Lib.hid rd8; clear ho8 hg8 z8 rd8)
                  clear u1 u2 u3 u4 y8 z8'
                  go_roundw
                  case rel => exact ⟨i + 1, at2, acc ++ [((pgn : Int), [], ps)], _, by omega, by omega, by omega, rfl, by go_num, Lib.hid (by rw [List.length_append, HLA.out]; rfl), HC8, Lib.hid (fun c hc => by
                    rcases List.mem_append.1 hc with h | h
                    · exact HQA.out c h
                    · rw [List.mem_singleton.1 h]
                      exact ⟨k0, k1, by simp, by have := HLP.out; simp only; omega, HQP.out⟩), Lib.hid (fun r h => by
                    obtain ⟨e1, e2⟩ := HFI.out r h
                    exact ⟨by rw [e1, (HRR.out r h).1], e2⟩)⟩
                  case measure => simp [intOf]; omega
    · have HFI : Hid (∀ r, ro = some r → Rec.mk kd ti acc = r) := Lib.hid (fun r h => by
        obtain ⟨a1, a2, a3, _⟩ := HRO2.out r h
        have h16 := (HRI.out r h).1
        have e : acc = r.cs := by rw [(HRR.out r h).1]; exact List.take_of_length_le (by omega)
        obtain ⟨rk, rt, rc⟩ := r
        simp only at a1 a2 e
        have : kd = rk := by omega
        rw [this, a2, e])
      have HQR : Hid (recQ ⟨kd, ti, acc⟩) := Lib.hid ⟨by simp only; omega, HTI.out.1, HTI.out.2, by simp only; have := HLA.out; omega, HQA.out⟩
      have r0 := HRD.out.r0
      have r1 := HRD.out.r1
      have r2 := HRD.out.r2
      have g0 := HRD.out.fr 0
      have g1 := HRD.out.fr 1
      have g2 := HRD.out.fr 2
      have o0 := HRD.out.o0
      have o1 := HRD.out.o1
      have o2 := HRD.out.o2
      have HZ := Lib.hid HRD.out.done
      obtain ⟨Av, cv, hv, _, _⟩ := own_form HRD.out.row.choose_spec.1
      rw [HLA.out] at hv
      subst hv
      have hcase : ∃ u1 u2 : Bool, decide ((i : Int) < (nv : Int)) = u1 ∧ decide (i < nv) = u1 ∧ decide ((i : Int) < 17) = u2 ∧ decide (i < 17) = u2 ∧ (u1 = false ∨ (u1 = true ∧ u2 = false)) := by
        refine ⟨decide (i < nv), decide (i < 17), by rw [Bool.eq_iff_iff]; simp, rfl, by rw [Bool.eq_iff_iff]; simp; omega, rfl, ?_⟩
        by_cases h1 : i < nv
        · right
          exact ⟨decide_eq_true h1, decide_eq_false (fun h2 => hlt ⟨h1, h2⟩)⟩
        · exact .inl (decide_eq_false h1)
      clear hlt
      obtain ⟨u1, u2, t1, t1', t2, t2', hcase⟩ := hcase
      rcases hcase with rfl | ⟨rfl, rfl⟩
      all_goals
        go_wp2_with fail
        clear r0 r1 r2 g0 g1 g2 o0 o1 o2
        obtain ⟨f1, f2, f3⟩ := HZ.out _ rfl
        clear HZ
        generalize ((wr.setCell ⟨w.heap.size, 0, none⟩ (.int .u8 (kd : Int))).setCell ⟨w.heap.size, 1, none⟩ (.int .i64 ti)).setCell ⟨w.heap.size, 2, none⟩ (.slice Av i cv) = wf at *
        have z0 : wf.cell? ⟨w.heap.size, 0, none⟩ = some (.int .u8 (kd : Int)) := by rw [cell_of_row wf _ 0 _ _ _ f1]; rfl
        have z1 : wf.cell? ⟨w.heap.size, 1, none⟩ = some (.int .i64 ti) := by rw [cell_of_row wf _ 1 _ _ _ f1]; rfl
        have z2 : wf.cell? ⟨w.heap.size, 2, none⟩ = some (.slice Av i cv) := by rw [cell_of_row wf _ 2 _ _ _ f1]; rfl
        refine bodyPost_ret (v := .agg #[.int .u8 (kd : Int), .int .i64 ti, .slice Av i cv]) (by simp [results, Try.results42, go_sem, z0, z1, z2]) rfl ?_
        exact ⟨⟨kd, ti, acc⟩, _, rfl, f2, f3, HQR.out, HFI.out⟩

end Go.Proofs.Ythpjjoahffagcaa
