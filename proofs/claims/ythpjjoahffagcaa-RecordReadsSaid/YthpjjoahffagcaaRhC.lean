/-
  The reference of chapter 05: Decode, All.
-/
import Derived.Test.YthpjjoahffagcaaRhB
namespace Go.Proofs.Ythpjjoahffagcaa
open Go.RowKit

/-- A result's block, filled; what it leaves. -/
theorem set3 {w wr : World} (hr : wr.heap[w.heap.size]? = some (.cells #[.int .u8 0, .int .i64 0, .slice none 0 0] 38 (0, 0))) (hb : Below w.heap.size w wr) (u0 u1 u2 : Value) :
    ∀ w2, w2 = ((wr.setCell ⟨w.heap.size, 0, none⟩ u0).setCell ⟨w.heap.size, 1, none⟩ u1).setCell ⟨w.heap.size, 2, none⟩ u2 →
      w2.heap[w.heap.size]? = some (.cells #[u0, u1, u2] 38 (0, 0)) ∧ Below w.heap.size w w2 ∧ ∀ {base v cs}, OCW wr base v cs → OCW w2 base v cs := by
  rintro w2 rfl
  have o : Off (fun k => k = w.heap.size) wr (((wr.setCell ⟨w.heap.size, 0, none⟩ u0).setCell ⟨w.heap.size, 1, none⟩ u1).setCell ⟨w.heap.size, 2, none⟩ u2) := (((Off.refl (fun k => k = w.heap.size) wr).setCell _ rfl).setCell _ rfl).setCell _ rfl
  refine ⟨?_, ((hb.setCell (by simp) _).setCell (by simp) _).setCell (by simp) _, fun h => h.ty o (fun k e => by subst e; exact ⟨_, _, _, hr, by decide, by decide, by decide⟩)⟩
  simp only [World.setCell, Array.getElem?_modify, if_pos, hr]
  rfl

/-- What the reference does, in plain words. -/
theorem decQ_yes {b : List UInt8} {r : Rec} (hs : ¬ short b) (hr : r.right = true) (he : encR r = b.take (4 + said b)) : decE b = 0 ∧ decN b = 4 + said b ∧ decR b = r := by
  have hb : body b = encB r := by
    have h1 := congrArg (List.drop 4) he
    unfold encR at h1
    rw [List.drop_left' (leB_length _ _)] at h1
    rw [h1, List.drop_take]
    unfold body
    rw [Nat.add_sub_cancel_left]
  have hl := body_len hs
  have hp := pRecord_c hr
  have hf : fine b := by
    unfold fine
    rw [hb, hp]
    rw [hb] at hl
    exact ⟨by simp only; rw [hl], hr⟩
  unfold decE decN decR
  rw [if_neg hs, if_pos hf, if_neg hs, if_pos hf, if_neg hs, if_pos hf, hb, hp]
  exact ⟨rfl, rfl, rfl⟩
theorem decQ_no {b : List UInt8} {r : Rec} (hs : ¬ short b) (hq : ∀ q, (if decE b = 0 then some (decR b) else none) = some q → r = q) (h : r.right = true → encR r ≠ b.take (4 + said b)) : decE b = 151 ∧ decN b = 0 ∧ decR b = rec0 := by
  have hnf : ¬ fine b := by
    intro hf
    have e0 : decE b = 0 := by unfold decE; rw [if_neg hs, if_pos hf]
    have eN : decN b = 4 + said b := by unfold decN; rw [if_neg hs, if_pos hf]
    have := hq (decR b) (by rw [if_pos e0])
    obtain ⟨a1, _, a3⟩ := dec_own e0
    rw [← this, eN] at a3
    rw [← this] at a1
    exact h a1 a3
  unfold decE decN decR
  rw [if_neg hs, if_neg hnf, if_neg hs, if_neg hnf, if_neg hs, if_neg hnf]
  exact ⟨rfl, rfl, rfl⟩

set_option maxRecDepth 100000 in
set_option maxHeartbeats 8000000 in
theorem refDecode_any (A : Option Addr) (n c : Nat) (b : List UInt8) (w : World) (hb : BR w A n b) (hn : n ≤ 1073741824) (hnc : n ≤ c) (hc : c ≤ maxLen) :
    Calls Try.prog 17 #[.slice A n c] w fun e w' => ∃ v, e = .returned (.tuple #[.agg #[.int .u8 ((decR b).kind : Int), .int .i64 (decR b).tx, v], .int .i64 (decN b : Int), .int .i64 (decE b : Int)]) ∧ OCW w' w.heap.size v (decR b).cs ∧ Below w.heap.size w w' := by
  obtain ⟨i0, hi0, hz0, hz1, hz2⟩ := info_parts info_u8
  have hl := hb.len
  have hbA := gr_alloc (gr_refl w) (.cells #[.int .u8 0, .int .i64 0, .slice none 0 0] 38)
  have HB0 := Lib.hid (hb.below hbA)
  have HZ := Lib.hid (heap_alloc_new w (.cells #[.int .u8 0, .int .i64 0, .slice none 0 0] 38))
  have HBA := Lib.hid hbA
  have HL := Lib.hid hl
  have N1 := Lib.hid (refNumber_any A n c b (w.alloc (.cells #[.int .u8 0, .int .i64 0, .slice none 0 0] 38)) ((0 : Nat) : Int) 4 HB0.out (by omega) (by omega) (by omega) (by omega))
  by_cases h4 : n < 4
  · have e1 : numAt b ((0 : Nat) : Int) 4 = none := by
      unfold numAt
      rw [if_pos (by omega)]
    have hs : short b := .inl (by omega)
    have HR : Hid (decR b = rec0 ∧ decN b = 0 ∧ decE b = 150) := Lib.hid ⟨by unfold decR; rw [if_pos hs], by unfold decN; rw [if_pos hs], by unfold decE; rw [if_pos hs]⟩
    rw [e1] at N1
    clear e1 hs hb hl hbA h4
    go_enter Try.func17, Try.ntmps17
    go_wp2_with fail
    generalize w.alloc (.cells #[.int .u8 0, .int .i64 0, .slice none 0 0] 38) = wA at *
    refine N1.out.mono ?_
    rintro e w' ⟨rfl, rfl⟩
    have r0 : wA.cell? ⟨w.heap.size, 0, none⟩ = some (.int .u8 0) := by rw [cell_of_row wA _ 0 _ _ _ HZ.out]; rfl
    have r1 : wA.cell? ⟨w.heap.size, 1, none⟩ = some (.int .i64 0) := by rw [cell_of_row wA _ 1 _ _ _ HZ.out]; rfl
    have r2 : wA.cell? ⟨w.heap.size, 2, none⟩ = some (.slice none 0 0) := by rw [cell_of_row wA _ 2 _ _ _ HZ.out]; rfl
    have g0 : wA.frozen? ⟨w.heap.size, 0, none⟩ = false := by simp [World.frozen?, HZ.out]
    have g1 : wA.frozen? ⟨w.heap.size, 1, none⟩ = false := by simp [World.frozen?, HZ.out]
    have g2 : wA.frozen? ⟨w.heap.size, 2, none⟩ = false := by simp [World.frozen?, HZ.out]
    have HF := Lib.hid (set3 HZ.out HBA.out (.int .u8 (0)) (.int .i64 0) (.slice none 0 0))
    go_wp2_with fail
    clear r0 r1 r2 g0 g1 g2
    obtain ⟨f1, f2, f3⟩ := HF.out _ rfl
    clear HF
    generalize ((wA.setCell ⟨w.heap.size, 0, none⟩ (.int .u8 (0))).setCell ⟨w.heap.size, 1, none⟩ (.int .i64 0)).setCell ⟨w.heap.size, 2, none⟩ (.slice none 0 0) = wf at *
    have z0 : wf.cell? ⟨w.heap.size, 0, none⟩ = some (.int .u8 (0)) := by rw [cell_of_row wf _ 0 _ _ _ f1]; rfl
    have z1 : wf.cell? ⟨w.heap.size, 1, none⟩ = some (.int .i64 0) := by rw [cell_of_row wf _ 1 _ _ _ f1]; rfl
    have z2 : wf.cell? ⟨w.heap.size, 2, none⟩ = some (.slice none 0 0) := by rw [cell_of_row wf _ 2 _ _ _ f1]; rfl
    refine bodyPost_ret (v := .tuple #[.agg #[.int .u8 (0), .int .i64 0, .slice none 0 0], .int .i64 (0), .int .i64 150]) (by simp [results, Try.results17, go_sem, z0, z1, z2]) rfl ?_
    obtain ⟨e1, e2, e3⟩ := HR.out
    rw [e1, e2, e3]
    exact ⟨_, rfl, OCW.nil _ _, f2⟩
  · have e1 : numAt b ((0 : Nat) : Int) 4 = some (said b) := by
      unfold numAt said
      rw [if_neg (by omega)]
      simp
    have hsl : said b < 4294967296 := by
      have := numAt_lt b ((0 : Nat) : Int) 4
      rw [e1] at this
      simpa using this
    rw [e1] at N1
    have e2 : (some (said b)).getD 0 = said b := rfl
    rw [e2] at N1
    have k0 : (0 : Int) ≤ (said b : Int) := Int.natCast_nonneg _
    have k1 : (said b : Int) ≤ 4294967295 := by omega
    by_cases hsh : n < 4 + said b
    · have hs : short b := .inr (by omega)
      have HR : Hid (decR b = rec0 ∧ decN b = 0 ∧ decE b = 150) := Lib.hid ⟨by unfold decR; rw [if_pos hs], by unfold decN; rw [if_pos hs], by unfold decE; rw [if_pos hs]⟩
      clear e1 e2 hs hb hl hbA
      generalize said b = a at *
      have t1 : decide ((n : Int) - 4 < (a : Int)) = true := decide_eq_true (by omega)
      go_enter Try.func17, Try.ntmps17
      go_wp2_with fail
      generalize w.alloc (.cells #[.int .u8 0, .int .i64 0, .slice none 0 0] 38) = wA at *
      refine N1.out.mono ?_
      rintro e w' ⟨rfl, rfl⟩
      have r0 : wA.cell? ⟨w.heap.size, 0, none⟩ = some (.int .u8 0) := by rw [cell_of_row wA _ 0 _ _ _ HZ.out]; rfl
      have r1 : wA.cell? ⟨w.heap.size, 1, none⟩ = some (.int .i64 0) := by rw [cell_of_row wA _ 1 _ _ _ HZ.out]; rfl
      have r2 : wA.cell? ⟨w.heap.size, 2, none⟩ = some (.slice none 0 0) := by rw [cell_of_row wA _ 2 _ _ _ HZ.out]; rfl
      have g0 : wA.frozen? ⟨w.heap.size, 0, none⟩ = false := by simp [World.frozen?, HZ.out]
      have g1 : wA.frozen? ⟨w.heap.size, 1, none⟩ = false := by simp [World.frozen?, HZ.out]
      have g2 : wA.frozen? ⟨w.heap.size, 2, none⟩ = false := by simp [World.frozen?, HZ.out]
      have HF := Lib.hid (set3 HZ.out HBA.out (.int .u8 (0)) (.int .i64 0) (.slice none 0 0))
      go_wp2_with fail
      clear r0 r1 r2 g0 g1 g2
      obtain ⟨f1, f2, f3⟩ := HF.out _ rfl
      clear HF
      generalize ((wA.setCell ⟨w.heap.size, 0, none⟩ (.int .u8 (0))).setCell ⟨w.heap.size, 1, none⟩ (.int .i64 0)).setCell ⟨w.heap.size, 2, none⟩ (.slice none 0 0) = wf at *
      have z0 : wf.cell? ⟨w.heap.size, 0, none⟩ = some (.int .u8 (0)) := by rw [cell_of_row wf _ 0 _ _ _ f1]; rfl
      have z1 : wf.cell? ⟨w.heap.size, 1, none⟩ = some (.int .i64 0) := by rw [cell_of_row wf _ 1 _ _ _ f1]; rfl
      have z2 : wf.cell? ⟨w.heap.size, 2, none⟩ = some (.slice none 0 0) := by rw [cell_of_row wf _ 2 _ _ _ f1]; rfl
      refine bodyPost_ret (v := .tuple #[.agg #[.int .u8 (0), .int .i64 0, .slice none 0 0], .int .i64 (0), .int .i64 150]) (by simp [results, Try.results17, go_sem, z0, z1, z2]) rfl ?_
      obtain ⟨e1, e2, e3⟩ := HR.out
      rw [e1, e2, e3]
      exact ⟨_, rfl, OCW.nil _ _, f2⟩
    · have hs : ¬ short b := by unfold short; omega
      have HYES : Hid (∀ r : Rec, r.right = true → encR r = b.take (4 + said b) → decE b = 0 ∧ decN b = 4 + said b ∧ decR b = r) := Lib.hid (fun r h1 h2 => decQ_yes hs h1 h2)
      have HNO : Hid (∀ r : Rec, (∀ q, (if decE b = 0 then some (decR b) else none) = some q → r = q) → (r.right = true → encR r ≠ b.take (4 + said b)) → decE b = 151 ∧ decN b = 0 ∧ decR b = rec0) := Lib.hid (fun r h1 h2 => decQ_no hs h1 h2)
      have hbody : BR (w.alloc (.cells #[.int .u8 0, .int .i64 0, .slice none 0 0] 38)) (cutA A c 4 1) (said b) (body b) := by
        have := BR.cut HB0.out (k := 4) (j := 4 + said b) (c := c) (by omega) (by omega) hnc
        rw [Nat.add_sub_cancel_left] at this
        exact this
      have RDC := Lib.hid (refRead_any (cutA A c 4 1) (said b) (c - 4) (body b) _ hbody (by omega) (by omega) (by omega) (if decE b = 0 then some (decR b) else none) (fun r h => by
        by_cases he : decE b = 0
        · rw [if_pos he] at h
          injection h with h
          obtain ⟨a1, a2, a3⟩ := dec_own he
          subst h
          refine ⟨a1, ?_⟩
          have hf : fine b := by
            unfold decE at he
            rw [if_neg hs] at he
            split at he
            · assumption
            · omega
          have e0 : decR b = (pRecord (body b)).1 := by unfold decR; rw [if_neg hs, if_pos hf]
          rw [e0]
          exact pRecord_s (r := (pRecord (body b)).1) (by rw [body_len hs, ← hf.1]) hf.2
        · rw [if_neg he] at h
          cases h))
      have HPRE := Lib.hid (HB0.out.pre (j := 4 + said b) (by omega))
      have hcut := fun W => run_cut_lh (P := Try.prog) W 26 5 i0 Try.underlying26 hi0 1 hz1 A n c 4 (4 + (said b : Int)) 4 (4 + said b) rfl (by omega) (by omega) (by omega)
      have hcut2 := fun W => run_cut_h (P := Try.prog) W 26 5 i0 Try.underlying26 hi0 1 hz1 A n c (4 + (said b : Int)) (4 + said b) (by omega) (by omega)
      rw [Nat.add_sub_cancel_left] at hcut
      have t1 : decide ((n : Int) - 4 < (said b : Int)) = false := decide_eq_false (by omega)
      generalize (if decE b = 0 then some (decR b) else none) = ro at *
      generalize b.take (4 + said b) = bt at *
      generalize said b = a at *
      clear e1 e2 hs hb hl hbA hbody hsh
      go_enter Try.func17, Try.ntmps17
      go_wp2_with fail
      generalize w.alloc (.cells #[.int .u8 0, .int .i64 0, .slice none 0 0] 38) = wA at *
      refine N1.out.mono ?_
      rintro e w' ⟨rfl, rfl⟩
      go_wp2_with fail
      refine RDC.out.mono ?_
      rintro e w1 ⟨r, v1, rfl, hro1, hb1, hq1, hrr⟩
      have HRR := Lib.hid hrr
      have HQ1 := Lib.hid hq1
      obtain ⟨A1, c1, rfl, hc1, _, _⟩ := hro1.cr
      have hbx := gr_alloc (gr_refl w1) (.cells #[.int .u8 (r.kind : Int), .int .i64 r.tx, .slice A1 r.cs.length c1] 38)
      have HBX := Lib.hid (B3.new w1 (.int .u8 (r.kind : Int)) (.int .i64 r.tx) (.slice A1 r.cs.length c1) (t := 38) (by decide))
      have HZ1 := Lib.hid (((gr_trans hb1 hbx).block _ (Array.getElem?_eq_some_iff.1 HZ.out).1).trans HZ.out)
      have HC1 := Lib.hid (hc1.below hbx)
      have HO1 := Lib.hid ((hro1.lower HBA.out.size).below hbx)
      have HW1 := Lib.hid (gr_trans HBA.out (gr_trans hb1 hbx))
      have HP1 := Lib.hid (HPRE.out.below (gr_trans hb1 hbx))
      clear hbx hb1 hc1 hro1 hrr hq1 N1 RDC t1 hcut HPRE HZ HBA HB0
      go_upto_region 5 with fail
      generalize w1.alloc (.cells #[.int .u8 (r.kind : Int), .int .i64 r.tx, .slice A1 r.cs.length c1] 38) = w2 at *
      generalize w1.heap.size = gx at *
      have x0 := HBX.out.c0
      have x1 := HBX.out.c1
      have x2 := HBX.out.c2
      have EN := Lib.hid (refEncode_any r.kind r.tx A1 r.cs.length c1 r.cs w2 HC1.out (by have := HQ1.out.2.2.2.1; omega) (fun c hc => by have := HQ1.out.2.2.2.2 c hc; unfold chQ at this; omega) (fun c hc => by have := HQ1.out.2.2.2.2 c hc; unfold chQ at this; omega) (fun c hc p hp => by have := (HQ1.out.2.2.2.2 c hc).2.2.2.2 p hp; unfold pcQ at this; omega))
      go_wp2_with fail
      refine EN.out.mono ?_
      rintro e w3 ⟨v3, rfl, ho3, hb3⟩
      have HBX3 := Lib.hid (HBX.out.nb (NB.below hb3))
      have HZ3 := Lib.hid ((hb3.block _ (Array.getElem?_eq_some_iff.1 HZ1.out).1).trans HZ1.out)
      have HO3 := Lib.hid (HO1.out.below hb3)
      have HW3 := Lib.hid (gr_trans HW1.out hb3)
      have HP3 := Lib.hid (HP1.out.below hb3)
      clear x0 x1 x2 EN hb3 HBX HZ1 HC1 HO1 HW1 HP1
      cases hr : r.right with
      | false =>
        have HR := Lib.hid (HNO.out r HRR.out (fun h => by rw [hr] at h; cases h))
        have e1 : encE r = 2 := by unfold encE; rw [hr]; rfl
        have e2 : encL r = [] := by unfold encL; rw [hr]; rfl
        have e1' : encE ⟨r.kind, r.tx, r.cs⟩ = 2 := e1
        have e2' : encL ⟨r.kind, r.tx, r.cs⟩ = [] := e2
        rw [e1']
        rw [e2'] at ho3
        obtain ⟨A3, c3, rfl, _, _, _⟩ := ho3.formN (n := 0) rfl
        clear e1 e2 e1' e2' ho3 hr
        have r0 : w3.cell? ⟨w.heap.size, 0, none⟩ = some (.int .u8 0) := by rw [cell_of_row w3 _ 0 _ _ _ HZ3.out]; rfl
        have r1 : w3.cell? ⟨w.heap.size, 1, none⟩ = some (.int .i64 0) := by rw [cell_of_row w3 _ 1 _ _ _ HZ3.out]; rfl
        have r2 : w3.cell? ⟨w.heap.size, 2, none⟩ = some (.slice none 0 0) := by rw [cell_of_row w3 _ 2 _ _ _ HZ3.out]; rfl
        have g0 : w3.frozen? ⟨w.heap.size, 0, none⟩ = false := by simp [World.frozen?, HZ3.out]
        have g1 : w3.frozen? ⟨w.heap.size, 1, none⟩ = false := by simp [World.frozen?, HZ3.out]
        have g2 : w3.frozen? ⟨w.heap.size, 2, none⟩ = false := by simp [World.frozen?, HZ3.out]
        have HF := Lib.hid (set3 HZ3.out HW3.out (.int .u8 (0)) (.int .i64 0) (.slice none 0 0))
        go_wp2_with fail
        clear r0 r1 r2 g0 g1 g2
        obtain ⟨f1, f2, f3⟩ := HF.out _ rfl
        clear HF
        generalize ((w3.setCell ⟨w.heap.size, 0, none⟩ (.int .u8 (0))).setCell ⟨w.heap.size, 1, none⟩ (.int .i64 0)).setCell ⟨w.heap.size, 2, none⟩ (.slice none 0 0) = wf at *
        have z0 : wf.cell? ⟨w.heap.size, 0, none⟩ = some (.int .u8 (0)) := by rw [cell_of_row wf _ 0 _ _ _ f1]; rfl
        have z1 : wf.cell? ⟨w.heap.size, 1, none⟩ = some (.int .i64 0) := by rw [cell_of_row wf _ 1 _ _ _ f1]; rfl
        have z2 : wf.cell? ⟨w.heap.size, 2, none⟩ = some (.slice none 0 0) := by rw [cell_of_row wf _ 2 _ _ _ f1]; rfl
        refine bodyPost_ret (v := .tuple #[.agg #[.int .u8 (0), .int .i64 0, .slice none 0 0], .int .i64 (0), .int .i64 151]) (by simp [results, Try.results17, go_sem, z0, z1, z2]) rfl ?_
        obtain ⟨e1, e2, e3⟩ := HR.out
        rw [e1, e2, e3]
        exact ⟨_, rfl, OCW.nil _ _, f2⟩
      | true =>
        have e1 : encE ⟨r.kind, r.tx, r.cs⟩ = 0 := by unfold encE; rw [if_pos hr]
        have e2 : encL ⟨r.kind, r.tx, r.cs⟩ = encR r := by unfold encL; rw [if_pos hr]
        rw [e1]
        rw [e2] at ho3
        have HY := fun h => HYES.out r hr h
        have HN : Hid (encR r ≠ bt → decE b = 151 ∧ decN b = 0 ∧ decR b = rec0) := Lib.hid (fun h => HNO.out r HRR.out (fun _ => h))
        have HYH : Hid (encR r = bt → decE b = 0 ∧ decN b = 4 + a ∧ decR b = r) := Lib.hid HY
        obtain ⟨A3, c3, rfl, br3, _, _⟩ := ho3.form
        have SB := Lib.hid (SameBytes_any A3 A (encR r).length (4 + a) c3 c (encR r) bt w3 br3 HP3.out)
        clear e1 e2 ho3 hr br3 HY HYES HNO
        by_cases he : encR r = bt
        · have HR := Lib.hid (HYH.out he)
          have e3 : (encR r == bt) = true := by rw [he]; simp
          rw [e3] at SB
          generalize (encR r).length = le at *
          clear he e3 HN HYH
          have x0 := HBX3.out.c0
          have x1 := HBX3.out.c1
          have x2 := HBX3.out.c2
          go_upto_region 6 with fail
          go_wp2_with fail
          refine SB.out.mono ?_
          rintro e w' ⟨rfl, rfl⟩
          obtain ⟨rk, rt, rcs⟩ := r
          dsimp only at *
          have r0 : w3.cell? ⟨w.heap.size, 0, none⟩ = some (.int .u8 0) := by rw [cell_of_row w3 _ 0 _ _ _ HZ3.out]; rfl
          have r1 : w3.cell? ⟨w.heap.size, 1, none⟩ = some (.int .i64 0) := by rw [cell_of_row w3 _ 1 _ _ _ HZ3.out]; rfl
          have r2 : w3.cell? ⟨w.heap.size, 2, none⟩ = some (.slice none 0 0) := by rw [cell_of_row w3 _ 2 _ _ _ HZ3.out]; rfl
          have g0 : w3.frozen? ⟨w.heap.size, 0, none⟩ = false := by simp [World.frozen?, HZ3.out]
          have g1 : w3.frozen? ⟨w.heap.size, 1, none⟩ = false := by simp [World.frozen?, HZ3.out]
          have g2 : w3.frozen? ⟨w.heap.size, 2, none⟩ = false := by simp [World.frozen?, HZ3.out]
          have HF := Lib.hid (set3 HZ3.out HW3.out (.int .u8 ((rk : Int))) (.int .i64 rt) (.slice A1 rcs.length c1))
          go_wp2_with fail
          clear r0 r1 r2 g0 g1 g2
          obtain ⟨f1, f2, f3⟩ := HF.out _ rfl
          clear HF
          generalize ((w3.setCell ⟨w.heap.size, 0, none⟩ (.int .u8 ((rk : Int)))).setCell ⟨w.heap.size, 1, none⟩ (.int .i64 rt)).setCell ⟨w.heap.size, 2, none⟩ (.slice A1 rcs.length c1) = wf at *
          have z0 : wf.cell? ⟨w.heap.size, 0, none⟩ = some (.int .u8 ((rk : Int))) := by rw [cell_of_row wf _ 0 _ _ _ f1]; rfl
          have z1 : wf.cell? ⟨w.heap.size, 1, none⟩ = some (.int .i64 rt) := by rw [cell_of_row wf _ 1 _ _ _ f1]; rfl
          have z2 : wf.cell? ⟨w.heap.size, 2, none⟩ = some (.slice A1 rcs.length c1) := by rw [cell_of_row wf _ 2 _ _ _ f1]; rfl
          refine bodyPost_ret (v := .tuple #[.agg #[.int .u8 ((rk : Int)), .int .i64 rt, .slice A1 rcs.length c1], .int .i64 (4 + (a : Int)), .int .i64 0]) (by simp [results, Try.results17, go_sem, z0, z1, z2]) rfl ?_
          obtain ⟨e1, e2, e3⟩ := HR.out
          rw [e1, e2, e3]
          exact ⟨_, by simp, f3 HO3.out, f2⟩
        · have HR := Lib.hid (HN.out he)
          have e3 : (encR r == bt) = false := beq_eq_false_iff_ne.2 he
          rw [e3] at SB
          generalize (encR r).length = le at *
          clear he e3 HN HYH
          go_upto_region 6 with fail
          go_wp2_with fail
          refine SB.out.mono ?_
          rintro e w' ⟨rfl, rfl⟩
          have r0 : w3.cell? ⟨w.heap.size, 0, none⟩ = some (.int .u8 0) := by rw [cell_of_row w3 _ 0 _ _ _ HZ3.out]; rfl
          have r1 : w3.cell? ⟨w.heap.size, 1, none⟩ = some (.int .i64 0) := by rw [cell_of_row w3 _ 1 _ _ _ HZ3.out]; rfl
          have r2 : w3.cell? ⟨w.heap.size, 2, none⟩ = some (.slice none 0 0) := by rw [cell_of_row w3 _ 2 _ _ _ HZ3.out]; rfl
          have g0 : w3.frozen? ⟨w.heap.size, 0, none⟩ = false := by simp [World.frozen?, HZ3.out]
          have g1 : w3.frozen? ⟨w.heap.size, 1, none⟩ = false := by simp [World.frozen?, HZ3.out]
          have g2 : w3.frozen? ⟨w.heap.size, 2, none⟩ = false := by simp [World.frozen?, HZ3.out]
          have HF := Lib.hid (set3 HZ3.out HW3.out (.int .u8 (0)) (.int .i64 0) (.slice none 0 0))
          go_wp2_with fail
          clear r0 r1 r2 g0 g1 g2
          obtain ⟨f1, f2, f3⟩ := HF.out _ rfl
          clear HF
          generalize ((w3.setCell ⟨w.heap.size, 0, none⟩ (.int .u8 (0))).setCell ⟨w.heap.size, 1, none⟩ (.int .i64 0)).setCell ⟨w.heap.size, 2, none⟩ (.slice none 0 0) = wf at *
          have z0 : wf.cell? ⟨w.heap.size, 0, none⟩ = some (.int .u8 (0)) := by rw [cell_of_row wf _ 0 _ _ _ f1]; rfl
          have z1 : wf.cell? ⟨w.heap.size, 1, none⟩ = some (.int .i64 0) := by rw [cell_of_row wf _ 1 _ _ _ f1]; rfl
          have z2 : wf.cell? ⟨w.heap.size, 2, none⟩ = some (.slice none 0 0) := by rw [cell_of_row wf _ 2 _ _ _ f1]; rfl
          refine bodyPost_ret (v := .tuple #[.agg #[.int .u8 (0), .int .i64 0, .slice none 0 0], .int .i64 (0), .int .i64 151]) (by simp [results, Try.results17, go_sem, z0, z1, z2]) rfl ?_
          obtain ⟨e1, e2, e3⟩ := HR.out
          rw [e1, e2, e3]
          exact ⟨_, rfl, OCW.nil _ _, f2⟩

end Go.Proofs.Ythpjjoahffagcaa
