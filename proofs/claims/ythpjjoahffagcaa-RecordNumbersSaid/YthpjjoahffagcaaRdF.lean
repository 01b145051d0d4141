/-
  record.Decode.
-/
import Derived.Test.YthpjjoahffagcaaRdE
namespace Go.Proofs.Ythpjjoahffagcaa
open Go.RowKit

/-! Plain: what Decode tells. -/
def rec0 : Rec := ⟨0, 0, []⟩
def said (b : List UInt8) : Nat := leN (b.take 4)
def body (b : List UInt8) : List UInt8 := (b.drop 4).take (said b)
def short (b : List UInt8) : Prop := b.length < 4 ∨ b.length < 4 + said b
def fine (b : List UInt8) : Prop := (pRecord (body b)).2 = some (said b) ∧ (pRecord (body b)).1.right = true
instance (b : List UInt8) : Decidable (short b) := by unfold short; infer_instance
instance (b : List UInt8) : Decidable (fine b) := by unfold fine; infer_instance
def decR (b : List UInt8) : Rec := if short b then rec0 else if fine b then (pRecord (body b)).1 else rec0
def decN (b : List UInt8) : Nat := if short b then 0 else if fine b then 4 + said b else 0
def decE (b : List UInt8) : Nat := if short b then 150 else if fine b then 0 else 151

theorem pPieces_hi {b : List UInt8} : ∀ (n : Nat) (acc : List Pc) (s : Option Nat), (∀ p ∈ acc, p.1 ≤ 65535) → ∀ p ∈ (pPieces b n acc s).1, p.1 ≤ 65535
  | 0, acc, s, h => by unfold pPieces; exact h
  | n + 1, acc, none, h => by unfold pPieces; exact h
  | n + 1, acc, some a, h => by
    unfold pPieces
    refine pPieces_hi n _ _ (fun p hp => ?_)
    rcases List.mem_append.1 hp with hp | hp
    · exact h p hp
    · simp at hp
      subst hp
      have := pNum_lt b 2 (some a)
      simp only
      omega
theorem pChange_hi (b : List UInt8) (s : Option Nat) : ∀ p ∈ (pChange b s).1.2.2, p.1 ≤ 65535 := by
  unfold pChange
  simp only
  split
  · simp
  · split
    · exact pPieces_hi _ _ _ (by simp)
    · simp
theorem pChanges_hi {b : List UInt8} : ∀ (n : Nat) (acc : List Ch) (s : Option Nat), (∀ c ∈ acc, ∀ p ∈ c.2.2, p.1 ≤ 65535) → ∀ c ∈ (pChanges b n acc s).1, ∀ p ∈ c.2.2, p.1 ≤ 65535
  | 0, acc, s, h => by unfold pChanges; exact h
  | n + 1, acc, none, h => by unfold pChanges; exact h
  | n + 1, acc, some a, h => by
    unfold pChanges
    refine pChanges_hi n _ _ (fun c hc => ?_)
    rcases List.mem_append.1 hc with hc | hc
    · exact h c hc
    · simp at hc
      subst hc
      exact pChange_hi b (some a)
theorem pChanges_len {b : List UInt8} : ∀ (n : Nat) (acc : List Ch) (s : Option Nat), (pChanges b n acc s).1.length ≤ acc.length + n
  | 0, acc, s => by unfold pChanges; simp
  | n + 1, acc, none => by unfold pChanges; simp
  | n + 1, acc, some a => by
    unfold pChanges
    have := pChanges_len (b := b) n (acc ++ [(pChange b (some a)).1]) (pChange b (some a)).2
    rw [List.length_append] at this
    simp at this
    omega
theorem pRecord_hi (b : List UInt8) : ∀ c ∈ (pRecord b).1.cs, ∀ p ∈ c.2.2, p.1 ≤ 65535 := by
  unfold pRecord
  simp only
  exact pChanges_hi _ _ _ (by simp)
theorem pRecord_len (b : List UInt8) : (pRecord b).1.cs.length ≤ 65535 := by
  unfold pRecord
  simp only
  have h1 := pChanges_len (b := b) (pNum b 2 (pNum b 8 (pNum b 1 (some 0)).2).2).1 [] (pNum b 2 (pNum b 8 (pNum b 1 (some 0)).2).2).2
  have h2 := pNum_lt b 2 (pNum b 8 (pNum b 1 (some 0)).2).2
  simp only [List.length_nil] at h1
  omega

/-- The result's block behind three stores. -/
theorem rec_put {w : World} {ra : Nat} {x0 x1 x2 : Value} (hz : w.heap[ra]? = some (.cells #[x0, x1, x2] 38 (0, 0))) (v0 v1 v2 : Value) :
    (((w.setCell ⟨ra, 0, none⟩ v0).setCell ⟨ra, 1, none⟩ v1).setCell ⟨ra, 2, none⟩ v2).heap[ra]? = some (.cells #[v0, v1, v2] 38 (0, 0)) := by
  simp only [World.setCell, Array.getElem?_modify, if_pos, hz]
  rfl

set_option maxRecDepth 100000 in
set_option maxHeartbeats 8000000 in
theorem Decode_any (A : Option Addr) (n c : Nat) (b : List UInt8) (w : World) (hb : BR w A n b) (hn : n ≤ 211106232532992) (hnc : n ≤ c) (hc : c ≤ 9223372036854775807) :
    Calls Try.prog 16 #[.slice A n c] w fun e w' => ∃ v, e = .returned (.tuple #[.agg #[.int .u8 ((decR b).kind : Int), .int .i64 (decR b).tx, v], .int .i64 (decN b : Int), .int .i64 (decE b : Int)]) ∧ OCW w' w.heap.size v (decR b).cs ∧ Below w.heap.size w w' := by
  obtain ⟨i0, hi0, hz0, hz1, hz2⟩ := info_parts info_u8
  have hl := hb.len
  have hU := fun (W : World) (hW : BR W A n b) => U32_any A n c b W 0 hW (by omega) (by omega) (by omega)
  have hz := heap_alloc_new w (.cells #[.int .u8 0, .int .i64 0, .slice none 0 0] 38)
  have hbA := gr_alloc (gr_refl w) (.cells #[.int .u8 0, .int .i64 0, .slice none 0 0] 38)
  have HBW := Lib.hid (hb.below hbA)
  have HZ := Lib.hid hz
  have HBA := Lib.hid hbA
  have hsz : (w.alloc (.cells #[.int .u8 0, .int .i64 0, .slice none 0 0] 38)).heap.size = w.heap.size + 1 := by rw [World.size_alloc]
  have HSZ := Lib.hid hsz
  have HL := Lib.hid hl
  by_cases h4 : n < 4
  · -- too short for the length
    have e1 : numAt b 0 4 = none := by
      unfold numAt
      rw [if_pos (by omega)]
    have hs : short b := .inl (by omega)
    have HR : Hid (decR b = rec0 ∧ decN b = 0 ∧ decE b = 150) := Lib.hid ⟨by unfold decR; rw [if_pos hs], by unfold decN; rw [if_pos hs], by unfold decE; rw [if_pos hs]⟩
    rw [e1] at hU
    have HU := Lib.hid hU
    clear hU e1 hs hb hl hz hbA hsz h4
    go_enter Try.func16, Try.ntmps16
    go_wp2_with fail
    generalize w.alloc (.cells #[.int .u8 0, .int .i64 0, .slice none 0 0] 38) = wA at *
    refine (HU.out _ HBW.out).mono ?_
    rintro e w' ⟨rfl, rfl⟩
    have r0 : wA.cell? ⟨w.heap.size, 0, none⟩ = some (.int .u8 0) := by rw [cell_of_row wA _ 0 _ _ _ HZ.out]; rfl
    have r1 : wA.cell? ⟨w.heap.size, 1, none⟩ = some (.int .i64 0) := by rw [cell_of_row wA _ 1 _ _ _ HZ.out]; rfl
    have r2 : wA.cell? ⟨w.heap.size, 2, none⟩ = some (.slice none 0 0) := by rw [cell_of_row wA _ 2 _ _ _ HZ.out]; rfl
    have g0 : wA.frozen? ⟨w.heap.size, 0, none⟩ = false := by simp [World.frozen?, HZ.out]
    have g1 : wA.frozen? ⟨w.heap.size, 1, none⟩ = false := by simp [World.frozen?, HZ.out]
    have g2 : wA.frozen? ⟨w.heap.size, 2, none⟩ = false := by simp [World.frozen?, HZ.out]
    go_wp2_with fail
    have f1 := rec_put HZ.out (.int .u8 0) (.int .i64 0) (.slice none 0 0)
    have f5 : Below w.heap.size w ((((wA).setCell ⟨w.heap.size, 0, none⟩ (.int .u8 0)).setCell ⟨w.heap.size, 1, none⟩ (.int .i64 0)).setCell ⟨w.heap.size, 2, none⟩ (.slice none 0 0)) := ((HBA.out.setCell (p := ⟨w.heap.size, 0, none⟩) (Nat.le_refl _) _).setCell (p := ⟨w.heap.size, 1, none⟩) (Nat.le_refl _) _).setCell (p := ⟨w.heap.size, 2, none⟩) (Nat.le_refl _) _
    clear r0 r1 r2 g0 g1 g2
    generalize ((wA.setCell ⟨w.heap.size, 0, none⟩ (.int .u8 0)).setCell ⟨w.heap.size, 1, none⟩ (.int .i64 0)).setCell ⟨w.heap.size, 2, none⟩ (.slice none 0 0) = wf at *
    have z0 : wf.cell? ⟨w.heap.size, 0, none⟩ = some (.int .u8 0) := by rw [cell_of_row wf _ 0 _ _ _ f1]; rfl
    have z1 : wf.cell? ⟨w.heap.size, 1, none⟩ = some (.int .i64 0) := by rw [cell_of_row wf _ 1 _ _ _ f1]; rfl
    have z2 : wf.cell? ⟨w.heap.size, 2, none⟩ = some (.slice none 0 0) := by rw [cell_of_row wf _ 2 _ _ _ f1]; rfl
    refine bodyPost_ret (v := .tuple #[.agg #[.int .u8 0, .int .i64 0, .slice none 0 0], .int .i64 0, .int .i64 150]) (by simp [results, Try.results16, go_sem, z0, z1, z2]) rfl ?_
    rw [HR.out.1, HR.out.2.1, HR.out.2.2]
    exact ⟨_, rfl, OCW.nil _ _, f5⟩
  · have e1 : numAt b 0 4 = some (said b) := by
      have := numAt_fit (b := b) (x := 0) (k := 4) (by omega)
      rw [List.drop_zero] at this
      exact this
    have hsd : said b < 4294967296 := by
      have := leN_fit (b := b) (x := 0) (k := 4) (by omega)
      rw [List.drop_zero] at this
      exact this
    rw [e1] at hU
    have HU : Hid (∀ W, BR W A n b → Calls Try.prog 39 #[.slice A n c, .int .i64 0] W fun e w' => e = .returned (.tuple #[.int .u32 (said b : Int), .bool true]) ∧ W = w') := Lib.hid hU
    clear hU e1
    by_cases h5 : n < 4 + said b
    · have hs : short b := .inr (by omega)
      have HR : Hid (decR b = rec0 ∧ decN b = 0 ∧ decE b = 150) := Lib.hid ⟨by unfold decR; rw [if_pos hs], by unfold decN; rw [if_pos hs], by unfold decE; rw [if_pos hs]⟩
      generalize said b = sd at *
      have t1 : decide ((n : Int) - 4 < (sd : Int)) = true := by simp; omega
      have b0 : (0 : Int) ≤ (sd : Int) := Int.natCast_nonneg _
      have b1 : (sd : Int) ≤ 4294967295 := by omega
      have b2 : (4 : Int) ≤ (n : Int) := by omega
      have b3 : (n : Int) ≤ 211106232532992 := by omega
      clear hs hb hl hz hbA hsz h4 h5 hsd
      go_enter Try.func16, Try.ntmps16
      go_wp2_with fail
      generalize w.alloc (.cells #[.int .u8 0, .int .i64 0, .slice none 0 0] 38) = wA at *
      refine (HU.out _ HBW.out).mono ?_
      rintro e w' ⟨rfl, rfl⟩
      have r0 : wA.cell? ⟨w.heap.size, 0, none⟩ = some (.int .u8 0) := by rw [cell_of_row wA _ 0 _ _ _ HZ.out]; rfl
      have r1 : wA.cell? ⟨w.heap.size, 1, none⟩ = some (.int .i64 0) := by rw [cell_of_row wA _ 1 _ _ _ HZ.out]; rfl
      have r2 : wA.cell? ⟨w.heap.size, 2, none⟩ = some (.slice none 0 0) := by rw [cell_of_row wA _ 2 _ _ _ HZ.out]; rfl
      have g0 : wA.frozen? ⟨w.heap.size, 0, none⟩ = false := by simp [World.frozen?, HZ.out]
      have g1 : wA.frozen? ⟨w.heap.size, 1, none⟩ = false := by simp [World.frozen?, HZ.out]
      have g2 : wA.frozen? ⟨w.heap.size, 2, none⟩ = false := by simp [World.frozen?, HZ.out]
      go_wp2_with fail
      have f1 := rec_put HZ.out (.int .u8 0) (.int .i64 0) (.slice none 0 0)
      have f5 : Below w.heap.size w ((((wA).setCell ⟨w.heap.size, 0, none⟩ (.int .u8 0)).setCell ⟨w.heap.size, 1, none⟩ (.int .i64 0)).setCell ⟨w.heap.size, 2, none⟩ (.slice none 0 0)) := ((HBA.out.setCell (p := ⟨w.heap.size, 0, none⟩) (Nat.le_refl _) _).setCell (p := ⟨w.heap.size, 1, none⟩) (Nat.le_refl _) _).setCell (p := ⟨w.heap.size, 2, none⟩) (Nat.le_refl _) _
      clear r0 r1 r2 g0 g1 g2
      generalize ((wA.setCell ⟨w.heap.size, 0, none⟩ (.int .u8 0)).setCell ⟨w.heap.size, 1, none⟩ (.int .i64 0)).setCell ⟨w.heap.size, 2, none⟩ (.slice none 0 0) = wf at *
      have z0 : wf.cell? ⟨w.heap.size, 0, none⟩ = some (.int .u8 0) := by rw [cell_of_row wf _ 0 _ _ _ f1]; rfl
      have z1 : wf.cell? ⟨w.heap.size, 1, none⟩ = some (.int .i64 0) := by rw [cell_of_row wf _ 1 _ _ _ f1]; rfl
      have z2 : wf.cell? ⟨w.heap.size, 2, none⟩ = some (.slice none 0 0) := by rw [cell_of_row wf _ 2 _ _ _ f1]; rfl
      refine bodyPost_ret (v := .tuple #[.agg #[.int .u8 0, .int .i64 0, .slice none 0 0], .int .i64 0, .int .i64 150]) (by simp [results, Try.results16, go_sem, z0, z1, z2]) rfl ?_
      rw [HR.out.1, HR.out.2.1, HR.out.2.2]
      exact ⟨_, rfl, OCW.nil _ _, f5⟩
    · have hs : ¬ short b := by unfold short; omega
      have hbl : (body b).length = said b := by unfold body; rw [List.length_take, List.length_drop]; omega
      have HRC := Lib.hid (fun (W : World) (rb : Nat) (h1 : RSt W rb (cutA A c 4 1) (said b) (c - 4) (some 0)) (h2 : BR W (cutA A c 4 1) (said b) (body b)) (h3 : ∀ ad, cutA A c 4 1 = some ad → 0 < said b → ad.block ≠ rb) => record_any W rb (cutA A c 4 1) (said b) (c - 4) (body b) h1 h2 h3 (by omega) (by omega) (by omega))
      have HBB : Hid (∀ W, BR W A n b → BR W (cutA A c 4 1) (said b) (body b)) := Lib.hid (fun W hW => by
        have h := hW.cut (k := 4) (j := 4 + said b) (c := c) (by omega) (by omega) hnc
        rw [show 4 + said b - 4 = said b from by omega] at h
        exact h)
      have HNB : Hid (∀ ad, cutA A c 4 1 = some ad → 0 < said b → ad.block < w.heap.size) := Lib.hid (fun ad e h0 => by
        obtain ⟨g, o, rfl, kc⟩ := hb.at_ (k := 0) (by omega)
        have hlt : g < w.heap.size := World.block_lt_of_cell? w _ kc
        unfold cutA at e
        rw [if_neg (by omega)] at e
        simp [Addr.add_lit] at e
        subst e
        exact hlt)
      have hcut := fun W => run_cut_lh (P := Try.prog) W 26 5 i0 Try.underlying26 hi0 1 hz1 A n c (4 : Int) (4 + (said b : Int)) 4 (4 + said b) rfl (by omega) (by omega) (by omega)
      rw [show 4 + said b - 4 = said b from by omega] at hcut
      have HDR : Hid (decR b = if fine b then (pRecord (body b)).1 else rec0) := Lib.hid (by unfold decR; rw [if_neg hs])
      have HDN : Hid (decN b = if fine b then 4 + said b else 0) := Lib.hid (by unfold decN; rw [if_neg hs])
      have HDE : Hid (decE b = if fine b then 0 else 151) := Lib.hid (by unfold decE; rw [if_neg hs])
      have HFI : Hid (fine b ↔ (pRecord (body b)).2 = some (said b) ∧ (pRecord (body b)).1.right = true) := Lib.hid Iff.rfl
      have HHI := Lib.hid (pRecord_hi (body b))
      have HLE := Lib.hid (pRecord_len (body b))
      generalize pRecord (body b) = pr at *
      obtain ⟨⟨kd, tx, cs⟩, st⟩ := pr
      simp only at HHI HLE HFI HRC
      generalize body b = bd at *
      generalize said b = sd at *
      have t1 : decide ((n : Int) - 4 < (sd : Int)) = false := by simp; omega
      have b0 : (0 : Int) ≤ (sd : Int) := Int.natCast_nonneg _
      have b1 : (sd : Int) ≤ 4294967295 := by omega
      have b2 : (4 : Int) ≤ (n : Int) := by omega
      have b3 : (n : Int) ≤ 211106232532992 := by omega
      clear hs hb hl hz hbA hsz h4 h5 hsd hbl
      go_enter Try.func16, Try.ntmps16
      go_wp2_with fail
      generalize w.alloc (.cells #[.int .u8 0, .int .i64 0, .slice none 0 0] 38) = wA at *
      refine (HU.out _ HBW.out).mono ?_
      rintro e w' ⟨rfl, rfl⟩
      go_wp2_with fail
      generalize hrb : wA.heap.size = rb at *
      have hbR := gr_alloc (gr_refl wA) (.cells #[.slice (cutA A c 4 1) sd (c - 4), .int .i64 0, .bool false] 66)
      have hrs : RSt (wA.alloc (.cells #[.slice (cutA A c 4 1) sd (c - 4), .int .i64 0, .bool false] 66)) rb (cutA A c 4 1) sd (c - 4) (some 0) := ⟨0, by omega, by rw [← hrb]; exact heap_alloc_new wA _, fun x e => by injection e with e; exact e.symm⟩
      have HX := Lib.hid (HRC.out _ rb hrs (HBB.out _ (HBW.out.below hbR)) (fun ad e h0 => by have := HNB.out ad e h0; have := HSZ.out; omega))
      have HBR := Lib.hid hbR
      have HRB : Hid (wA.heap.size = rb) := Lib.hid hrb
      clear hbR hrs hrb HRC HBB HNB HBW HU
      generalize wA.alloc (.cells #[.slice (cutA A c 4 1) sd (c - 4), .int .i64 0, .bool false] 66) = wB at *
      go_wp2_with fail
      refine HX.out.mono ?_
      rintro e w3 ⟨v3, rfl, oc3, rs3, o3⟩
      obtain ⟨A3, c3, rfl, hcr3, hc3, hm3⟩ := oc3.cr
      have hz3 : w3.heap[w.heap.size]? = some (.cells #[.int .u8 0, .int .i64 0, .slice none 0 0] 38 (0, 0)) := by
        have hlt : w.heap.size < wA.heap.size := by have := HSZ.out; have := HRB.out; omega
        have h1 := (HBR.out.block w.heap.size hlt).trans HZ.out
        have hlt2 : w.heap.size < wB.heap.size := Nat.lt_of_lt_of_le hlt HBR.out.size
        have hlt3 : w.heap.size ≠ rb := by have := HRB.out; omega
        exact (o3.block w.heap.size hlt2 hlt3).trans h1
      have hb3 : Below w.heap.size w w3 := (HBA.out.trans (HBR.out.mono HBA.out.size)).trans (o3.below (B := w.heap.size) (fun k e => by have := HRB.out; have := HSZ.out; omega) (by have := HBR.out.size; have := HSZ.out; have := HRB.out; omega))
      have ocw3 := oc3.lower (b := w.heap.size) (by have := HBR.out.size; have := HSZ.out; have := HRB.out; omega)
      have HOC := Lib.hid ocw3
      have HZ3 := Lib.hid hz3
      have HB3 := Lib.hid hb3
      have HCR := Lib.hid hcr3
      have HRS := Lib.hid rs3
      clear oc3 ocw3 hz3 hb3 hcr3 rs3 o3 HX HBR HBA HZ
      go_upto_region 7 with fail
      have hbC := gr_alloc (gr_refl w3) (.cells #[.int .u8 (kd : Int), .int .i64 tx, .slice A3 cs.length c3] 38)
      have hnC := heap_alloc_new w3 (.cells #[.int .u8 (kd : Int), .int .i64 tx, .slice A3 cs.length c3] 38)
      have HOC2 := Lib.hid (HOC.out.below hbC)
      have HZ4 : Hid ((w3.alloc (.cells #[.int .u8 (kd : Int), .int .i64 tx, .slice A3 cs.length c3] 38)).heap[w.heap.size]? = some (.cells #[.int .u8 0, .int .i64 0, .slice none 0 0] 38 (0, 0))) := Lib.hid ((hbC.block _ (Array.getElem?_eq_some_iff.1 HZ3.out).1).trans HZ3.out)
      have HB4 := Lib.hid (gr_trans HB3.out hbC)
      have HCR2 := Lib.hid (HCR.out.below hbC)
      have hrs4 := HRS.out.below hbC
      generalize hvb : w3.heap.size = vb at *
      have HVB := Lib.hid hvb
      have q0 : (w3.alloc (.cells #[.int .u8 (kd : Int), .int .i64 tx, .slice A3 cs.length c3] 38)).cell? ⟨vb, 0, none⟩ = some (.int .u8 (kd : Int)) := by rw [cell_of_row _ vb 0 _ _ _ hnC]; rfl
      have q1 : (w3.alloc (.cells #[.int .u8 (kd : Int), .int .i64 tx, .slice A3 cs.length c3] 38)).cell? ⟨vb, 1, none⟩ = some (.int .i64 tx) := by rw [cell_of_row _ vb 1 _ _ _ hnC]; rfl
      have q2 : (w3.alloc (.cells #[.int .u8 (kd : Int), .int .i64 tx, .slice A3 cs.length c3] 38)).cell? ⟨vb, 2, none⟩ = some (.slice A3 cs.length c3) := by rw [cell_of_row _ vb 2 _ _ _ hnC]; rfl
      clear hbC hnC HOC HZ3 HB3 HCR HRS hvb
      generalize w3.alloc (.cells #[.int .u8 (kd : Int), .int .i64 tx, .slice A3 cs.length c3] 38) = wC at *
      obtain ⟨a, ha, hrb4, hx⟩ := hrs4
      have p0 := hrb4.c0
      have p1 := hrb4.c1
      have p2 := hrb4.c2
      have HZ := HZ4
      have HBA := HB4
      by_cases hst : st = some sd
      · subst hst
        obtain rfl : a = sd := (hx sd rfl).symm
        have p2' : wC.cell? ⟨rb, 2, none⟩ = some (.bool false) := p2
        have t9 : ((a : Int) != (a : Int)) = false := by simp
        have HRT := Lib.hid (Right_any (kd : Int) tx A3 cs.length c3 cs wC HCR2.out (by have := HLE.out; omega) (fun c hc p hp => by have := HHI.out c hc p hp; omega))
        clear p2 hrb4 ha hx
        cases hrt : rightR (kd : Int) tx cs with
        | false =>
          have HR : Hid (decR b = rec0 ∧ decN b = 0 ∧ decE b = 151) := Lib.hid (by
            have hf : ¬ fine b := fun h => by
              have := (HFI.out.1 h).2
              unfold Rec.right at this
              simp only at this
              rw [hrt] at this
              cases this
            rw [HDR.out, HDN.out, HDE.out, if_neg hf, if_neg hf, if_neg hf]
            exact ⟨rfl, rfl, rfl⟩)
          rw [hrt] at HRT
          clear hrt HDR HDN HDE HFI HHI HLE
          go_wp2_with fail
          refine HRT.out.mono ?_
          rintro e w5 ⟨rfl, hb5⟩
          have HZ := Lib.hid ((hb5.block _ (Array.getElem?_eq_some_iff.1 HZ4.out).1).trans HZ4.out)
          have HBA := Lib.hid (gr_trans HB4.out hb5)
          clear HZ4 HB4 hb5 HRT q0 q1 q2 p0 p1 p2'
          have r0 : w5.cell? ⟨w.heap.size, 0, none⟩ = some (.int .u8 0) := by rw [cell_of_row w5 _ 0 _ _ _ HZ.out]; rfl
          have r1 : w5.cell? ⟨w.heap.size, 1, none⟩ = some (.int .i64 0) := by rw [cell_of_row w5 _ 1 _ _ _ HZ.out]; rfl
          have r2 : w5.cell? ⟨w.heap.size, 2, none⟩ = some (.slice none 0 0) := by rw [cell_of_row w5 _ 2 _ _ _ HZ.out]; rfl
          have g0 : w5.frozen? ⟨w.heap.size, 0, none⟩ = false := by simp [World.frozen?, HZ.out]
          have g1 : w5.frozen? ⟨w.heap.size, 1, none⟩ = false := by simp [World.frozen?, HZ.out]
          have g2 : w5.frozen? ⟨w.heap.size, 2, none⟩ = false := by simp [World.frozen?, HZ.out]
          go_wp2_with fail
          have f1 := rec_put HZ.out (.int .u8 0) (.int .i64 0) (.slice none 0 0)
          have f5 : Below w.heap.size w ((((w5).setCell ⟨w.heap.size, 0, none⟩ (.int .u8 0)).setCell ⟨w.heap.size, 1, none⟩ (.int .i64 0)).setCell ⟨w.heap.size, 2, none⟩ (.slice none 0 0)) := ((HBA.out.setCell (p := ⟨w.heap.size, 0, none⟩) (Nat.le_refl _) _).setCell (p := ⟨w.heap.size, 1, none⟩) (Nat.le_refl _) _).setCell (p := ⟨w.heap.size, 2, none⟩) (Nat.le_refl _) _
          clear r0 r1 r2 g0 g1 g2
          generalize ((w5.setCell ⟨w.heap.size, 0, none⟩ (.int .u8 0)).setCell ⟨w.heap.size, 1, none⟩ (.int .i64 0)).setCell ⟨w.heap.size, 2, none⟩ (.slice none 0 0) = wf at *
          have z0 : wf.cell? ⟨w.heap.size, 0, none⟩ = some (.int .u8 0) := by rw [cell_of_row wf _ 0 _ _ _ f1]; rfl
          have z1 : wf.cell? ⟨w.heap.size, 1, none⟩ = some (.int .i64 0) := by rw [cell_of_row wf _ 1 _ _ _ f1]; rfl
          have z2 : wf.cell? ⟨w.heap.size, 2, none⟩ = some (.slice none 0 0) := by rw [cell_of_row wf _ 2 _ _ _ f1]; rfl
          refine bodyPost_ret (v := .tuple #[.agg #[.int .u8 0, .int .i64 0, .slice none 0 0], .int .i64 0, .int .i64 151]) (by simp [results, Try.results16, go_sem, z0, z1, z2]) rfl ?_
          rw [HR.out.1, HR.out.2.1, HR.out.2.2]
          exact ⟨_, rfl, OCW.nil _ _, f5⟩
        | true =>
          have HR : Hid (decR b = ⟨kd, tx, cs⟩ ∧ decN b = 4 + a ∧ decE b = 0) := Lib.hid (by
            have hf : fine b := HFI.out.2 ⟨rfl, hrt⟩
            rw [HDR.out, HDN.out, HDE.out, if_pos hf, if_pos hf, if_pos hf]
            exact ⟨rfl, rfl, rfl⟩)
          rw [hrt] at HRT
          clear hrt HDR HDN HDE HFI HHI HLE
          go_wp2_with fail
          refine HRT.out.mono ?_
          rintro e w5 ⟨rfl, hb5⟩
          have HZ := Lib.hid ((hb5.block _ (Array.getElem?_eq_some_iff.1 HZ4.out).1).trans HZ4.out)
          have HBA := Lib.hid (gr_trans HB4.out hb5)
          have HOC3 := Lib.hid (HOC2.out.below hb5)
          have q0' := keep_of_below hb5 q0
          have q1' := keep_of_below hb5 q1
          have q2' := keep_of_below hb5 q2
          clear HZ4 HB4 hb5 HRT q0 q1 q2 p0 p1 p2' HOC2
          have r0 : w5.cell? ⟨w.heap.size, 0, none⟩ = some (.int .u8 0) := by rw [cell_of_row w5 _ 0 _ _ _ HZ.out]; rfl
          have r1 : w5.cell? ⟨w.heap.size, 1, none⟩ = some (.int .i64 0) := by rw [cell_of_row w5 _ 1 _ _ _ HZ.out]; rfl
          have r2 : w5.cell? ⟨w.heap.size, 2, none⟩ = some (.slice none 0 0) := by rw [cell_of_row w5 _ 2 _ _ _ HZ.out]; rfl
          have g0 : w5.frozen? ⟨w.heap.size, 0, none⟩ = false := by simp [World.frozen?, HZ.out]
          have g1 : w5.frozen? ⟨w.heap.size, 1, none⟩ = false := by simp [World.frozen?, HZ.out]
          have g2 : w5.frozen? ⟨w.heap.size, 2, none⟩ = false := by simp [World.frozen?, HZ.out]
          go_wp2_with fail
          have f1 := rec_put HZ.out (.int .u8 (kd : Int)) (.int .i64 tx) (.slice A3 cs.length c3)
          have f5 : Below w.heap.size w ((((w5).setCell ⟨w.heap.size, 0, none⟩ (.int .u8 (kd : Int))).setCell ⟨w.heap.size, 1, none⟩ (.int .i64 tx)).setCell ⟨w.heap.size, 2, none⟩ (.slice A3 cs.length c3)) := ((HBA.out.setCell (p := ⟨w.heap.size, 0, none⟩) (Nat.le_refl _) _).setCell (p := ⟨w.heap.size, 1, none⟩) (Nat.le_refl _) _).setCell (p := ⟨w.heap.size, 2, none⟩) (Nat.le_refl _) _
          have f6 := HOC3.out.ty (((((Off.refl (fun k => k = w.heap.size) w5).setCell (g := w.heap.size) (j := 0) (.int .u8 (kd : Int)) rfl).setCell (g := w.heap.size) (j := 1) (.int .i64 tx) rfl).setCell (g := w.heap.size) (j := 2) (.slice A3 cs.length c3) rfl)) (fun k e => by subst e; exact ⟨_, _, _, HZ.out, by decide, by decide, by decide⟩)
          clear r0 r1 r2 g0 g1 g2
          generalize ((w5.setCell ⟨w.heap.size, 0, none⟩ (.int .u8 (kd : Int))).setCell ⟨w.heap.size, 1, none⟩ (.int .i64 tx)).setCell ⟨w.heap.size, 2, none⟩ (.slice A3 cs.length c3) = wf at *
          have z0 : wf.cell? ⟨w.heap.size, 0, none⟩ = some (.int .u8 (kd : Int)) := by rw [cell_of_row wf _ 0 _ _ _ f1]; rfl
          have z1 : wf.cell? ⟨w.heap.size, 1, none⟩ = some (.int .i64 tx) := by rw [cell_of_row wf _ 1 _ _ _ f1]; rfl
          have z2 : wf.cell? ⟨w.heap.size, 2, none⟩ = some (.slice A3 cs.length c3) := by rw [cell_of_row wf _ 2 _ _ _ f1]; rfl
          refine bodyPost_ret (v := .tuple #[.agg #[.int .u8 (kd : Int), .int .i64 tx, .slice A3 cs.length c3], .int .i64 (4 + (a : Int)), .int .i64 0]) (by simp [results, Try.results16, go_sem, z0, z1, z2]) rfl ?_
          rw [HR.out.1, HR.out.2.1, HR.out.2.2]
          exact ⟨_, by go_num, f6, f5⟩
      · have HR : Hid (decR b = rec0 ∧ decN b = 0 ∧ decE b = 151) := Lib.hid (by
          have hf : ¬ fine b := fun h => hst (HFI.out.1 h).1
          rw [HDR.out, HDN.out, HDE.out, if_neg hf, if_neg hf, if_neg hf]
          exact ⟨rfl, rfl, rfl⟩)
        clear HDR HDN HDE HFI HHI HLE
        cases st with
        | none =>
          have p2' : wC.cell? ⟨rb, 2, none⟩ = some (.bool true) := p2
          clear p2 hst hx hrb4 ha HCR2 HOC2
          have r0 : wC.cell? ⟨w.heap.size, 0, none⟩ = some (.int .u8 0) := by rw [cell_of_row wC _ 0 _ _ _ HZ.out]; rfl
          have r1 : wC.cell? ⟨w.heap.size, 1, none⟩ = some (.int .i64 0) := by rw [cell_of_row wC _ 1 _ _ _ HZ.out]; rfl
          have r2 : wC.cell? ⟨w.heap.size, 2, none⟩ = some (.slice none 0 0) := by rw [cell_of_row wC _ 2 _ _ _ HZ.out]; rfl
          have g0 : wC.frozen? ⟨w.heap.size, 0, none⟩ = false := by simp [World.frozen?, HZ.out]
          have g1 : wC.frozen? ⟨w.heap.size, 1, none⟩ = false := by simp [World.frozen?, HZ.out]
          have g2 : wC.frozen? ⟨w.heap.size, 2, none⟩ = false := by simp [World.frozen?, HZ.out]
          go_wp2_with fail
          have f1 := rec_put HZ.out (.int .u8 0) (.int .i64 0) (.slice none 0 0)
          have f5 : Below w.heap.size w ((((wC).setCell ⟨w.heap.size, 0, none⟩ (.int .u8 0)).setCell ⟨w.heap.size, 1, none⟩ (.int .i64 0)).setCell ⟨w.heap.size, 2, none⟩ (.slice none 0 0)) := ((HBA.out.setCell (p := ⟨w.heap.size, 0, none⟩) (Nat.le_refl _) _).setCell (p := ⟨w.heap.size, 1, none⟩) (Nat.le_refl _) _).setCell (p := ⟨w.heap.size, 2, none⟩) (Nat.le_refl _) _
          clear r0 r1 r2 g0 g1 g2
          generalize ((wC.setCell ⟨w.heap.size, 0, none⟩ (.int .u8 0)).setCell ⟨w.heap.size, 1, none⟩ (.int .i64 0)).setCell ⟨w.heap.size, 2, none⟩ (.slice none 0 0) = wf at *
          have z0 : wf.cell? ⟨w.heap.size, 0, none⟩ = some (.int .u8 0) := by rw [cell_of_row wf _ 0 _ _ _ f1]; rfl
          have z1 : wf.cell? ⟨w.heap.size, 1, none⟩ = some (.int .i64 0) := by rw [cell_of_row wf _ 1 _ _ _ f1]; rfl
          have z2 : wf.cell? ⟨w.heap.size, 2, none⟩ = some (.slice none 0 0) := by rw [cell_of_row wf _ 2 _ _ _ f1]; rfl
          refine bodyPost_ret (v := .tuple #[.agg #[.int .u8 0, .int .i64 0, .slice none 0 0], .int .i64 0, .int .i64 151]) (by simp [results, Try.results16, go_sem, z0, z1, z2]) rfl ?_
          rw [HR.out.1, HR.out.2.1, HR.out.2.2]
          exact ⟨_, rfl, OCW.nil _ _, f5⟩
        | some x =>
          have p2' : wC.cell? ⟨rb, 2, none⟩ = some (.bool false) := p2
          have hax : a ≠ sd := fun e => hst (by rw [hx x rfl, e])
          have t9 : ((a : Int) != (sd : Int)) = true := by simp; omega
          clear p2 hst hx hrb4 ha hax HCR2 HOC2
          have r0 : wC.cell? ⟨w.heap.size, 0, none⟩ = some (.int .u8 0) := by rw [cell_of_row wC _ 0 _ _ _ HZ.out]; rfl
          have r1 : wC.cell? ⟨w.heap.size, 1, none⟩ = some (.int .i64 0) := by rw [cell_of_row wC _ 1 _ _ _ HZ.out]; rfl
          have r2 : wC.cell? ⟨w.heap.size, 2, none⟩ = some (.slice none 0 0) := by rw [cell_of_row wC _ 2 _ _ _ HZ.out]; rfl
          have g0 : wC.frozen? ⟨w.heap.size, 0, none⟩ = false := by simp [World.frozen?, HZ.out]
          have g1 : wC.frozen? ⟨w.heap.size, 1, none⟩ = false := by simp [World.frozen?, HZ.out]
          have g2 : wC.frozen? ⟨w.heap.size, 2, none⟩ = false := by simp [World.frozen?, HZ.out]
          go_wp2_with fail
          have f1 := rec_put HZ.out (.int .u8 0) (.int .i64 0) (.slice none 0 0)
          have f5 : Below w.heap.size w ((((wC).setCell ⟨w.heap.size, 0, none⟩ (.int .u8 0)).setCell ⟨w.heap.size, 1, none⟩ (.int .i64 0)).setCell ⟨w.heap.size, 2, none⟩ (.slice none 0 0)) := ((HBA.out.setCell (p := ⟨w.heap.size, 0, none⟩) (Nat.le_refl _) _).setCell (p := ⟨w.heap.size, 1, none⟩) (Nat.le_refl _) _).setCell (p := ⟨w.heap.size, 2, none⟩) (Nat.le_refl _) _
          clear r0 r1 r2 g0 g1 g2
          generalize ((wC.setCell ⟨w.heap.size, 0, none⟩ (.int .u8 0)).setCell ⟨w.heap.size, 1, none⟩ (.int .i64 0)).setCell ⟨w.heap.size, 2, none⟩ (.slice none 0 0) = wf at *
          have z0 : wf.cell? ⟨w.heap.size, 0, none⟩ = some (.int .u8 0) := by rw [cell_of_row wf _ 0 _ _ _ f1]; rfl
          have z1 : wf.cell? ⟨w.heap.size, 1, none⟩ = some (.int .i64 0) := by rw [cell_of_row wf _ 1 _ _ _ f1]; rfl
          have z2 : wf.cell? ⟨w.heap.size, 2, none⟩ = some (.slice none 0 0) := by rw [cell_of_row wf _ 2 _ _ _ f1]; rfl
          refine bodyPost_ret (v := .tuple #[.agg #[.int .u8 0, .int .i64 0, .slice none 0 0], .int .i64 0, .int .i64 151]) (by simp [results, Try.results16, go_sem, z0, z1, z2]) rfl ?_
          rw [HR.out.1, HR.out.2.1, HR.out.2.2]
          exact ⟨_, rfl, OCW.nil _ _, f5⟩

end Go.Proofs.Ythpjjoahffagcaa
