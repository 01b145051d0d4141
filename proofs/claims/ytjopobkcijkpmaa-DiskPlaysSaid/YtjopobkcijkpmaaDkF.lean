/-
  Contract: disk's Crash.
-/
import Derived.Test.YtjopobkcijkpmaaDkE
namespace Go.Proofs.Ytjopobkcijkpmaa
open Go.RowKit

/-- What a crash makes of one unsynced write. -/
def crash1 (keep : List Bool) (torn : Int) (cut : Nat) (i : Nat) (bs : List (List UInt8)) (p : Nat × List UInt8) : List (List UInt8) :=
  if (i : Int) = torn then bs.set p.1 (p.2.take cut ++ (bs.getD p.1 []).drop cut) else if keep.getD i false = true then bs.set p.1 p.2 else bs
def crashTo (keep : List Bool) (torn : Int) (cut : Nat) (bs : List (List UInt8)) (ps : List (Nat × List UInt8)) : Nat → List (List UInt8)
  | 0 => bs
  | k + 1 => crash1 keep torn cut k (crashTo keep torn cut bs ps k) (ps.getD k (0, []))

theorem crash1_len (keep : List Bool) (torn : Int) (cut i : Nat) (bs : List (List UInt8)) (p : Nat × List UInt8) : (crash1 keep torn cut i bs p).length = bs.length := by
  unfold crash1
  split
  · rw [List.length_set]
  · split
    · rw [List.length_set]
    · rfl
theorem crashTo_len (keep : List Bool) (torn : Int) (cut : Nat) (bs : List (List UInt8)) (ps : List (Nat × List UInt8)) (k : Nat) : (crashTo keep torn cut bs ps k).length = bs.length := by
  induction k with
  | zero => rfl
  | succ k ih => unfold crashTo; rw [crash1_len, ih]

/-- Crash: what it answers, and the disk then. -/
def crashE (cut : Int) : Int := if cut < 0 ∨ 4096 < cut then 2 else 0
def crashD (D : DiskS) (keep : List Bool) (torn cut : Int) : DiskS := if crashE cut ≠ 0 then D else ⟨crashTo keep torn cut.toNat D.blocks D.pending D.pending.length, [], false, -1, -1, 0⟩

/-- The slice value '.slice A n c' holds the bools l. -/
def LR (w : World) (A : Option Addr) (n : Nat) (l : List Bool) : Prop := Rd w 1 A n (l.map Value.bool)
theorem LR.len {w : World} {A : Option Addr} {n : Nat} {l : List Bool} (h : LR w A n l) : l.length = n := by have := h.1; simpa using this
theorem LR.at_ {w : World} {A : Option Addr} {n : Nat} {l : List Bool} (h : LR w A n l) {k : Nat} (hk : k < n) : ∃ g o, A = some ⟨g, o, none⟩ ∧ w.cell? ⟨g, o + k, none⟩ = some (.bool (l.getD k false)) := by
  obtain ⟨g, o, e, hc⟩ := Rd.plain h (by omega) (by omega)
  have hl : k < l.length := by rw [h.len]; exact hk
  refine ⟨g, o, e, hc k _ ?_⟩
  simp [List.getElem?_eq_getElem hl, List.getD]
theorem splice_take (z m : List UInt8) (k : Nat) (_hz : z.length = 4096) (hm : m.length = 4096) (hk : k ≤ 4096) : splice z 0 (m.take k) = m.take k ++ z.drop k := by
  unfold splice
  rw [List.take_zero, List.nil_append, Nat.zero_add, List.length_take, Nat.min_eq_left (by omega)]

set_option maxRecDepth 100000 in
set_option maxHeartbeats 4000000 in
theorem Crash_any (w : World) (ok : Nat → Prop) (base g : Nat) (F : Nat → Prop) (D : DiskS) (K : Option Addr) (nk ck : Nat) (keep : List Bool) (torn cut : Int) (h : IsD w ok base g F D) (hK : LR w K nk keep) (hA : ∀ ad, K = some ad → 0 < nk → ¬ F ad.block) (hnk : nk ≤ 9223372036854775807) (hpl : D.pending.length ≤ 1000000) :
    Calls Try.prog 23 #[.pointer (some ⟨g, 0, none⟩), .agg #[.slice K nk ck, .int .i64 torn, .int .i64 cut]] w fun e w' => e = .returned (.int .i64 (crashE cut)) ∧ DPost w ok base g F (crashD D keep torn cut) w' := by
  have hsame := DPost.same h
  obtain ⟨dr, dc, pv, dvs, pvs, hd, hF⟩ := h
  have hb0 := gr_alloc (gr_refl w) (.cells #[.slice K nk ck, .int .i64 torn, .int .i64 cut] 25)
  have hdA := hd.below hb0
  have HM := Lib.hid (made_yes g _ hdA.db.c0)
  have hbad : (cut < 0 ∨ 4096 < cut) → crashE cut = 2 ∧ DPost w ok base g F (crashD D keep torn cut) (w.alloc (.cells #[.slice K nk ck, .int .i64 torn, .int .i64 cut] 25)) := fun hc => by
    have hE : crashE cut = 2 := by unfold crashE; rw [if_pos hc]
    unfold crashD
    rw [if_pos (by rw [hE]; simp)]
    exact ⟨hE, Off.of_below hb0, F, ⟨dr, dc, pv, dvs, pvs, hdA.mono (fun k _ h => .inl h), hF⟩, fun k h => .inl h⟩
  have HBAD := Lib.hid hbad
  clear hbad hsame
  by_cases h1 : cut < 0
  · have t1 : decide (cut < 0) = true := by simpa using h1
    clear hd hdA hF hK hA
    go_enter Try.func23, Try.ntmps23
    go_wp2_with fail
    refine HM.out.mono ?_
    rintro e w' ⟨rfl, rfl⟩
    go_wp2_with fail
    go_ret
    exact ⟨ret_i (HBAD.out (.inl h1)).1.symm, (HBAD.out (.inl h1)).2⟩
  have t1 : decide (cut < 0) = false := by simpa using h1
  by_cases h2 : 4096 < cut
  · have t2 : decide (4096 < cut) = true := by simpa using h2
    clear hd hdA hF hK hA
    go_enter Try.func23, Try.ntmps23
    go_wp2_with fail
    refine HM.out.mono ?_
    rintro e w' ⟨rfl, rfl⟩
    go_wp2_with fail
    go_ret
    exact ⟨ret_i (HBAD.out (.inr h2)).1.symm, (HBAD.out (.inr h2)).2⟩
  have t2 : decide (4096 < cut) = false := by simpa using h2
  obtain ⟨cu, rfl⟩ := Int.eq_ofNat_of_zero_le (show 0 ≤ cut by omega)
  have hcu : cu ≤ 4096 := by omega
  have HE : Hid (crashE (cu : Int) = 0) := Lib.hid (by unfold crashE; rw [if_neg (by omega)])
  have HD : Hid (crashD D keep torn (cu : Int) = ⟨crashTo keep torn cu D.blocks D.pending D.pending.length, [], false, -1, -1, 0⟩) := Lib.hid (by unfold crashD; rw [if_neg (by rw [HE.out]; simp), Int.toNat_natCast])
  clear HBAD
  have HFF := Lib.hid hF
  have HKK := Lib.hid hK
  have HAA := Lib.hid hA
  have hcb : (w.alloc (.cells #[.slice K nk ck, .int .i64 torn, .int .i64 (cu : Int)] 25)).heap[w.heap.size]? = some (.cells #[.slice K nk ck, .int .i64 torn, .int .i64 (cu : Int)] 25 (0, 0)) := heap_alloc_new w _
  have ho0 : Off F w (w.alloc (.cells #[.slice K nk ck, .int .i64 torn, .int .i64 (cu : Int)] 25)) := Off.of_below hb0
  have hd0 := hdA.mono (ok' := fun k => ok k ∨ w.heap.size ≤ k) (fun k _ h => .inl h)
  obtain ⟨Ap, cp, rfl, _, _⟩ := own_form hd.pen
  have c2 := hdA.db.c2
  have hszA : w.heap.size < (w.alloc (.cells #[.slice K nk ck, .int .i64 torn, .int .i64 (cu : Int)] 25)).heap.size := by simp
  clear hd hdA hF hK hA
  go_enter Try.func23, Try.ntmps23
  go_wp2_with fail
  refine HM.out.mono ?_
  rintro e w' ⟨rfl, rfl⟩
  clear HM
  have k0 : (w.alloc (.cells #[.slice K nk ck, .int .i64 torn, .int .i64 (cu : Int)] 25)).cell? ⟨w.heap.size, 2, none⟩ = some (.int .i64 (cu : Int)) := by rw [cell_of_row _ _ 2 _ _ _ hcb]; rfl
  have HD0 := Lib.hid hd0
  have HC0 := Lib.hid hcb
  clear hd0 hcb hb0
  generalize w.alloc (.cells #[.slice K nk ck, .int .i64 torn, .int .i64 (cu : Int)] 25) = wA at *
  generalize hcbe : w.heap.size = cb at *
  have HCB := Lib.hid hcbe
  generalize hnpe : D.pending.length = np at *
  have HNP := Lib.hid hnpe
  clear hcbe hnpe
  go_wp2_with fail
  clear k0 c2
  go_loopw [24] (fun i wr => ∃ (k : Nat) (dvs : List Value), k ≤ np ∧ i = .int .i64 k ∧ Hid (DK wr (fun k => ok k ∨ cb ≤ k) base g dr dc (.slice Ap np cp) dvs pvs { D with blocks := crashTo keep torn cu D.blocks D.pending k }) ∧ Off F w wr ∧
    Hid (wr.heap[cb]? = some (.cells #[.slice K nk ck, .int .i64 torn, .int .i64 (cu : Int)] 25 (0, 0)))) (fun i _ => np - (intOf i).toNat)
  case atStart => exact ⟨0, dvs, Nat.zero_le _, rfl, HD0, ho0, HC0⟩
  case round =>
    clear HD0 HC0 ho0 dvs
    obtain ⟨k, dvs, hk, rfl, HDK, ho, HC⟩ := hrel
    have k0 : wr.cell? ⟨cb, 0, none⟩ = some (.slice K nk ck) := by rw [cell_of_row _ _ 0 _ _ _ HC.out]; rfl
    have k1 : wr.cell? ⟨cb, 1, none⟩ = some (.int .i64 torn) := by rw [cell_of_row _ _ 1 _ _ _ HC.out]; rfl
    have k2 : wr.cell? ⟨cb, 2, none⟩ = some (.int .i64 (cu : Int)) := by rw [cell_of_row _ _ 2 _ _ _ HC.out]; rfl
    by_cases hlt : k < np
    · have hlt' : k < ({ D with blocks := crashTo keep torn cu D.blocks D.pending k } : DiskS).pending.length := by show k < D.pending.length; rw [HNP.out]; exact hlt
      obtain ⟨q, c, u, p, e, x1, x2, x3, x4, x5⟩ := HDK.out.wr_at hlt'
      have e2 : (Value.slice Ap np cp) = .slice (some ⟨q, 0, none⟩) np c := by rw [e]; congr 1
      injection e2 with e3 e4 e5
      subst e3 e5
      have x4' : p.1 < (crashTo keep torn cu D.blocks D.pending k).length := x4
      have hgd : D.pending.getD k (0, []) = p := by
        have : D.pending[k]? = some p := x3
        rw [List.getD, this]; rfl
      have HST : Hid (crashTo keep torn cu D.blocks D.pending (k + 1) = crash1 keep torn cu k (crashTo keep torn cu D.blocks D.pending k) p) := Lib.hid (by rw [← hgd]; rfl)
      obtain ⟨uo, co, _, hbo⟩ := HDK.out.at_ x4
      obtain ⟨hl5, gq, rfl, hBq, hokq⟩ := x5
      have zo : wr.frozen? ⟨dr, p.1, none⟩ = false := by
        rcases HDK.out.dur.2 with ⟨e, _⟩ | ⟨q', cap', cur', e, _, hq', _⟩
        · cases e
        · cases e; simp [World.frozen?, hq']
      have c1 := HDK.out.db.c1
      have hcl : ({ D with blocks := crashTo keep torn cu D.blocks D.pending k } : DiskS).blocks.length = (crashTo keep torn cu D.blocks D.pending k).length := rfl
      rw [hcl] at c1
      have hdl := World.block_lt_of_cell? wr _ co
      have hgl := HDK.out.db.lt
      have hFd : F dr := (HFF.out dr).2 (.inr (.inl rfl))
      have hcbd : cb ≠ dr := by
        rintro rfl
        rcases HDK.out.dur.2 with ⟨e, _⟩ | ⟨q', cap', cur', e, _, hq', _⟩
        · cases e
        · cases e; exact cells_ne hq' HC.out (by decide)
      have hcbl : cb < wr.heap.size := (Array.getElem?_eq_some_iff.1 HC.out).1
      dsimp only at hdl
      have hbo' : BV (fun k => ok k ∨ cb ≤ k) wr uo ((crashTo keep torn cu D.blocks D.pending k).getD p.1 []) := hbo
      have HLAY := Lib.hid (fun (wx : World) (hb : Below wr.heap.size wr wx) (v : Value) (l : List UInt8) (hv : BV (fun k => ok k ∨ cb ≤ k) wx v l) => (HDK.out.below hb).lay x4 hv)
      have hcpl : cb ≤ wr.heap.size := by omega
      clear hcl x3 x4 e hgd hbo
      generalize hnbe : (crashTo keep torn cu D.blocks D.pending k).length = nb at *
      obtain ⟨p1, p2⟩ := p
      dsimp only at x1 x4' co zo HLAY HST hBq hl5 hbo'
      have xa1 : (wr.alloc (.cells #[.int .i64 (p1 : Int), .slice (some ⟨gq, 0, none⟩) 4096 4096] 110)).cell? ⟨g, 1, none⟩ = some (.slice (some ⟨dr, 0, none⟩) nb dc) := keep_of_below (gr_alloc (gr_refl wr) _) c1
      have xa2 : (wr.alloc (.cells #[.int .i64 (p1 : Int), .slice (some ⟨gq, 0, none⟩) 4096 4096] 110)).cell? ⟨dr, p1, none⟩ = some uo := keep_of_below (gr_alloc (gr_refl wr) _) co
      have xa3 : (wr.alloc (.cells #[.int .i64 (p1 : Int), .slice (some ⟨gq, 0, none⟩) 4096 4096] 110)).frozen? ⟨dr, p1, none⟩ = false := ((gr_alloc (gr_refl wr) _).frozen (p := ⟨dr, p1, none⟩) hdl).trans zo
      obtain ⟨xa4, xa5⟩ := cell_new_at wr (.int .i64 (p1 : Int)) (.slice (some ⟨gq, 0, none⟩) 4096 4096) 110
      have xk0 : (wr.alloc (.cells #[.int .i64 (p1 : Int), .slice (some ⟨gq, 0, none⟩) 4096 4096] 110)).cell? ⟨cb, 0, none⟩ = some (.slice K nk ck) := keep_of_below (gr_alloc (gr_refl wr) _) k0
      have xk1 : (wr.alloc (.cells #[.int .i64 (p1 : Int), .slice (some ⟨gq, 0, none⟩) 4096 4096] 110)).cell? ⟨cb, 1, none⟩ = some (.int .i64 torn) := keep_of_below (gr_alloc (gr_refl wr) _) k1
      have xk2 : (wr.alloc (.cells #[.int .i64 (p1 : Int), .slice (some ⟨gq, 0, none⟩) 4096 4096] 110)).cell? ⟨cb, 2, none⟩ = some (.int .i64 (cu : Int)) := keep_of_below (gr_alloc (gr_refl wr) _) k2
      have hbA := gr_alloc (gr_refl wr) (.cells #[.int .i64 (p1 : Int), .slice (some ⟨gq, 0, none⟩) 4096 4096] 110)
      have hoA : Off F w (wr.alloc (.cells #[.int .i64 (p1 : Int), .slice (some ⟨gq, 0, none⟩) 4096 4096] 110)) := ho.alloc _
      have HCA : Hid ((wr.alloc (.cells #[.int .i64 (p1 : Int), .slice (some ⟨gq, 0, none⟩) 4096 4096] 110)).heap[cb]? = some (.cells #[.slice K nk ck, .int .i64 torn, .int .i64 (cu : Int)] 25 (0, 0))) := Lib.hid ((Below.heap_alloc wr _ cb hcbl).trans HC.out)
      have HBA := Lib.hid (hBq.alloc (.cells #[.int .i64 (p1 : Int), .slice (some ⟨gq, 0, none⟩) 4096 4096] 110))
      have HOKQ := Lib.hid hokq
      have HL5 := Lib.hid hl5
      have HBO := Lib.hid hbo'
      clear hBq hokq hl5 hbo' hnbe
      have hkc : k ≤ 9223372036854775807 := by omega
      by_cases ht : (k : Int) = torn
      · subst ht
        obtain ⟨Ao, no, co', mo, rfl, hro, hno, hso⟩ := HBO.out.read
        have hlo := HBO.out.1
        have HWH := Lib.hid (whole_any Ao no co' mo (wr.alloc (.cells #[.int .i64 (p1 : Int), .slice (some ⟨gq, 0, none⟩) 4096 4096] 110)).drew (hro.below (gr_drewN hbA 1)) hno)
        rw [hso] at HWH
        generalize hOe : (crashTo keep (k : Int) cu D.blocks D.pending k).getD p1 [] = lo at *
        have HLO := Lib.hid hlo
        clear hso hlo hro
        have hsp := splice_take lo p2 cu HLO.out HL5.out hcu
        have hll : (p2.take cu ++ lo.drop cu).length = 4096 := by rw [List.length_append, List.length_take, List.length_drop, HLO.out, HL5.out]; omega
        have hrq : BR (wr.alloc (.cells #[.int .i64 (p1 : Int), .slice (some ⟨gq, 0, none⟩) 4096 4096] 110)) (some ⟨gq, 0, none⟩) cu (p2.take cu) := by
          have := HBA.out.readsAll
          rw [HL5.out] at this
          exact this.pre hcu
        have HRQ := Lib.hid hrq
        obtain ⟨i0, hi0, hz0, hz1, hz2⟩ := info_parts info_u8
        have hcut := fun W => run_cut_h (P := Try.prog) W 33 5 i0 Try.underlying33 hi0 1 hz1 (some ⟨gq, 0, none⟩) 4096 4096 (cu : Int) cu rfl hcu
        have HSTEP : Hid (∀ w3 : World, Below wr.heap.size wr w3 → BB w3 (wr.heap.size + 1) (p2.take cu ++ lo.drop cu) → w3.heap[cb]? = some (.cells #[.slice K nk ck, .int .i64 (k : Int), .int .i64 (cu : Int)] 25 (0, 0)) →
            DK (w3.setCell ⟨dr, p1, none⟩ (.slice (some ⟨wr.heap.size + 1, 0, none⟩) 4096 4096)) (fun k => ok k ∨ cb ≤ k) base g dr dc (.slice (some ⟨q, 0, none⟩) np cp) (dvs.set p1 (.slice (some ⟨wr.heap.size + 1, 0, none⟩) 4096 4096)) pvs { D with blocks := crashTo keep (k : Int) cu D.blocks D.pending (k + 1) } ∧
            Off F w (w3.setCell ⟨dr, p1, none⟩ (.slice (some ⟨wr.heap.size + 1, 0, none⟩) 4096 4096)) ∧ (w3.setCell ⟨dr, p1, none⟩ (.slice (some ⟨wr.heap.size + 1, 0, none⟩) 4096 4096)).heap[cb]? = some (.cells #[.slice K nk ck, .int .i64 (k : Int), .int .i64 (cu : Int)] 25 (0, 0))) := Lib.hid (by
          intro w3 hb3 hB3 hC3
          refine ⟨?_, (ho.trans (Off.of_below hb3)).setCell _ hFd, (Below.heap_setCell _ _ _ cb hcbd).trans hC3⟩
          have := HLAY.out w3 hb3 (.slice (some ⟨wr.heap.size + 1, 0, none⟩) 4096 4096) (p2.take cu ++ lo.drop cu) ⟨hll, .inr ⟨_, rfl, hB3, .inr (by omega)⟩⟩
          rw [HST.out]
          unfold crash1
          rw [if_pos rfl, hOe]
          exact this)
        have HKP : Hid (∀ W : World, Below (wr.alloc (.cells #[.int .i64 (p1 : Int), .slice (some ⟨gq, 0, none⟩) 4096 4096] 110)).heap.size (wr.alloc (.cells #[.int .i64 (p1 : Int), .slice (some ⟨gq, 0, none⟩) 4096 4096] 110)) W →
            W.cell? ⟨g, 1, none⟩ = some (.slice (some ⟨dr, 0, none⟩) nb dc) ∧ W.cell? ⟨wr.heap.size, 0, none⟩ = some (.int .i64 (p1 : Int)) ∧ W.cell? ⟨dr, p1, none⟩ = some (.slice Ao no co')) := Lib.hid (fun W h => ⟨keep_of_below h xa1, keep_of_below h xa4, keep_of_below h xa2⟩)
        have HKP2 : Hid (∀ W : World, Below (wr.alloc (.cells #[.int .i64 (p1 : Int), .slice (some ⟨gq, 0, none⟩) 4096 4096] 110)).heap.size (wr.alloc (.cells #[.int .i64 (p1 : Int), .slice (some ⟨gq, 0, none⟩) 4096 4096] 110)) W →
            W.cell? ⟨wr.heap.size, 1, none⟩ = some (.slice (some ⟨gq, 0, none⟩) 4096 4096) ∧ W.cell? ⟨cb, 2, none⟩ = some (.int .i64 (cu : Int)) ∧ W.frozen? ⟨dr, p1, none⟩ = false ∧ W.heap[cb]? = some (.cells #[.slice K nk ck, .int .i64 (k : Int), .int .i64 (cu : Int)] 25 (0, 0)) ∧ BR W (some ⟨gq, 0, none⟩) cu (p2.take cu) ∧ Below wr.heap.size wr W) :=
          Lib.hid (fun W h => ⟨keep_of_below h xa5, keep_of_below h xk2, (h.frozen (p := ⟨dr, p1, none⟩) (World.block_lt_of_cell? _ _ xa2)).trans xa3, (h.block cb (Array.getElem?_eq_some_iff.1 HCA.out).1).trans HCA.out, HRQ.out.below h, gr_trans hbA h⟩)
        have hszw : (wr.alloc (.cells #[.int .i64 (p1 : Int), .slice (some ⟨gq, 0, none⟩) 4096 4096] 110)).heap.size = wr.heap.size + 1 := by simp
        have HSZ := Lib.hid hszw
        clear hsp hll hrq HLAY HST HBO HBA HOKQ hOe hoA hbA hszw xa5 xk0 xk2 xa3 c1 co zo
        have HSP : Hid (splice lo 0 (p2.take cu) = p2.take cu ++ lo.drop cu) := Lib.hid (splice_take lo p2 cu HLO.out HL5.out hcu)
        go_wp2_with fail
        generalize wr.alloc (.cells #[.int .i64 (p1 : Int), .slice (some ⟨gq, 0, none⟩) 4096 4096] 110) = wa at *
        have hi0' : (0 : Int) ≤ (p1 : Int) := Int.natCast_nonneg _
        have hi1' : (p1 : Int) < (nb : Int) := by omega
        have hS0 := HKP.out wa (gr_refl wa)
        go_region_held3 (fun W => W.cell? ⟨g, 1, none⟩ = some (.slice (some ⟨dr, 0, none⟩) nb dc) ∧ W.cell? ⟨wr.heap.size, 0, none⟩ = some (.int .i64 (p1 : Int)) ∧ W.cell? ⟨dr, p1, none⟩ = some (.slice Ao no co'))
          (first | go_keep | exact HKP.out _ hb3)
          ((go_at_call 63; refine HWH.out.mono ?_; rintro e w2 ⟨rfl, hB2, hb2⟩; have hb3 : Below wa.heap.size wa w2 := ⟨hb2.os, hb2.tape, hb2.output, hb2.size, hb2.block⟩))
        have hB2 : BB w2 (wr.heap.size + 1) lo := by rw [← HSZ.out]; exact hB2
        rw [HSZ.out]
        obtain ⟨y1, y2, y3, y4, y5, y6⟩ := HKP2.out w2 hb3
        have hcp := run_copy_B w2 3 (wr.heap.size + 1) 0 4096 4096 lo (p2.take cu) (some ⟨wr.heap.size + 1, 0, none⟩) (some ⟨gq, 0, none⟩) cu 4096 cu hB2 y5 (Nat.min_eq_left hcu) (fun _ => rfl) (by rw [HLO.out]; omega)
        rw [List.take_of_length_le (by rw [List.length_take]; omega), HSP.out] at hcp
        have hB3 := hB2.set_ (p2.take cu ++ lo.drop cu)
        have hb4 : Below wa.heap.size wa (setB w2 (wr.heap.size + 1) (p2.take cu ++ lo.drop cu)) := setB_below hb3 (by rw [HSZ.out]; exact Nat.le_refl _) _
        have HB3 := Lib.hid hB3
        have HW : Hid (wa.drew.heap.size = wr.heap.size + 1) := HSZ
        obtain ⟨z1, z2, z3⟩ := HKP.out _ hb4
        obtain ⟨z4, z5, z6, z7, z8, z9⟩ := HKP2.out _ hb4
        have HFIN := Lib.hid (HSTEP.out _ z9 HB3.out z7)
        clear hB2 hB3 y3 y4 y5 y6 HWH z7 z8 z9 hb4 HSTEP HKP HKP2 HB3
        go_wp2_with fail
        generalize setB w2 (wr.heap.size + 1) (p2.take cu ++ lo.drop cu) = w3 at *
        go_region
        all_goals
          go_wp2_with fail
          go_roundw
          case rel => exact ⟨k + 1, _, by omega, by go_num, Lib.hid (HFIN.out.1.below ⟨rfl, rfl, rfl, Nat.le_refl _, fun _ _ => rfl⟩), HFIN.out.2.1.drewN 1, Lib.hid HFIN.out.2.2⟩
          case measure => simp [intOf]; omega
      · have tt : ((k : Int) == torn) = false := beq_eq_false_iff_ne.2 ht
        by_cases hkp : keep.getD k false = true
        · have hkn : k < nk := by
            rcases Nat.lt_or_ge k nk with h | h
            · exact h
            · rw [List.getD, List.getElem?_eq_none (by rw [HKK.out.len]; exact h)] at hkp; cases hkp
          have hKr : LR wr K nk keep := HKK.out.off ho HAA.out
          obtain ⟨gk, ok', eK, ck0⟩ := hKr.at_ hkn
          rw [hkp] at ck0
          have xk3 := keep_of_below hbA ck0
          subst eK
          have HNEW : Hid (DK ((wr.alloc (.cells #[.int .i64 (p1 : Int), .slice (some ⟨gq, 0, none⟩) 4096 4096] 110)).setCell ⟨dr, p1, none⟩ (.slice (some ⟨gq, 0, none⟩) 4096 4096)) (fun k => ok k ∨ cb ≤ k) base g dr dc (.slice (some ⟨q, 0, none⟩) np cp) (dvs.set p1 (.slice (some ⟨gq, 0, none⟩) 4096 4096)) pvs { D with blocks := crashTo keep torn cu D.blocks D.pending (k + 1) }) := Lib.hid (by
            have := HLAY.out _ hbA (.slice (some ⟨gq, 0, none⟩) 4096 4096) p2 ⟨HL5.out, .inr ⟨gq, rfl, HBA.out, HOKQ.out⟩⟩
            rw [HST.out]
            unfold crash1
            rw [if_neg ht, if_pos hkp]
            exact this)
          have HCN : Hid (((wr.alloc (.cells #[.int .i64 (p1 : Int), .slice (some ⟨gq, 0, none⟩) 4096 4096] 110)).setCell ⟨dr, p1, none⟩ (.slice (some ⟨gq, 0, none⟩) 4096 4096)).heap[cb]? = some (.cells #[.slice (some ⟨gk, ok', none⟩) nk ck, .int .i64 torn, .int .i64 (cu : Int)] 25 (0, 0))) := Lib.hid ((Below.heap_setCell _ _ _ cb hcbd).trans HCA.out)
          have hoN : Off F w ((wr.alloc (.cells #[.int .i64 (p1 : Int), .slice (some ⟨gq, 0, none⟩) 4096 4096] 110)).setCell ⟨dr, p1, none⟩ (.slice (some ⟨gq, 0, none⟩) 4096 4096)) := hoA.setCell _ hFd
          have t3 : decide ((k : Int) < (nk : Int)) = true := by simp; omega
          have t3' : decide (k < nk) = true := by simp; omega
          clear HLAY HST HBO HBA HOKQ HL5 HCA hoA hbA hkp ht
          go_wp2_with fail
          generalize wr.alloc (.cells #[.int .i64 (p1 : Int), .slice (some ⟨gq, 0, none⟩) 4096 4096] 110) = wa at *
          go_region
          all_goals
            go_wp2_with fail
            go_roundw
            case rel => exact ⟨k + 1, _, by omega, by go_num, Lib.hid (HNEW.out.below ⟨rfl, rfl, rfl, Nat.le_refl _, fun _ _ => rfl⟩), hoN.drewN 1, Lib.hid HCN.out⟩
            case measure => simp [intOf]; omega
        · have HNEW : Hid (DK (wr.alloc (.cells #[.int .i64 (p1 : Int), .slice (some ⟨gq, 0, none⟩) 4096 4096] 110)) (fun k => ok k ∨ cb ≤ k) base g dr dc (.slice (some ⟨q, 0, none⟩) np cp) dvs pvs { D with blocks := crashTo keep torn cu D.blocks D.pending (k + 1) }) := Lib.hid (by
            rw [HST.out]
            unfold crash1
            rw [if_neg ht, if_neg hkp]
            exact HDK.out.below hbA)
          by_cases hkn : k < nk
          · have hKr : LR wr K nk keep := HKK.out.off ho HAA.out
            obtain ⟨gk, ok', eK, ck0⟩ := hKr.at_ hkn
            have hkf : keep.getD k false = false := by simpa using hkp
            rw [hkf] at ck0
            have xk3 := keep_of_below hbA ck0
            subst eK
            have t3 : decide ((k : Int) < (nk : Int)) = true := by simp; omega
            have t3' : decide (k < nk) = true := by simp; omega
            clear hkp hkf HDK hbA
            clear HLAY HST HBO HBA HOKQ HL5 ht xa2 xa3
            go_wp2_with fail
            go_roundw
            case rel => exact ⟨k + 1, dvs, by omega, by go_num, HNEW, hoA, HCA⟩
            case measure => simp [intOf]; omega
          · have t3 : decide ((k : Int) < (nk : Int)) = false := by simp; omega
            have t3' : decide (k < nk) = false := by simp; omega
            clear hkp HDK hbA
            clear HLAY HST HBO HBA HOKQ HL5 ht xa2 xa3
            go_wp2_with fail
            go_roundw
            case rel => exact ⟨k + 1, dvs, by omega, by go_num, HNEW, hoA, HCA⟩
            case measure => simp [intOf]; omega
    · obtain rfl : k = np := by omega
      have hz2 := HDK.out.db.frozen 2
      have c2 := HDK.out.db.c2
      have hdf := HDK.out.forget
      have of : Off F wr (wr.setCell ⟨g, 2, none⟩ (.slice none 0 0)) := (Off.refl _ wr).setCell _ ((HFF.out g).2 (.inl rfl))
      have hz3 := hdf.db.frozen 3
      have c3 := hdf.db.c3
      have db3 := hdf.db.s3 false
      have HDIS := Lib.hid (disarm_any g _ _ _ _ _ _ _ db3)
      have HFG := Lib.hid hdf
      have hFg : F g := (HFF.out g).2 (.inl rfl)
      clear hdf db3
      go_wp2_with fail
      refine HDIS.out.mono ?_
      rintro e w2 ⟨⟨x, rfl⟩, hdb2, ho2⟩
      have og : Off (· = g) (wr.setCell ⟨g, 2, none⟩ (.slice none 0 0)) w2 := ((Off.refl (fun x => x = g) _).setCell (g := g) (j := 3) (.bool false) rfl).trans ho2
      have hfin := HFG.out.turn (D' := ⟨crashTo keep torn cu D.blocks D.pending k, [], false, -1, -1, 0⟩) og hdb2 rfl rfl (by show (-1 : Int) ≤ -1; omega) (by show (-1 : Int) ≤ _; omega) (by show (-1 : Int) ≤ -1; omega) (by show (-1 : Int) ≤ _; omega)
      have HFIN := Lib.hid hfin
      have ofin : Off F w w2 := (ho.trans of).trans (og.mono (fun k _ e => by rw [e]; exact hFg))
      clear HFG hdb2 hfin
      go_wp2_with fail
      go_ret
      refine ⟨ret_i HE.out.symm, ofin, foot g dr (.slice none 0 0), ⟨dr, dc, .slice none 0 0, dvs, [], ?_, fun k => Iff.rfl⟩, fun k hk => ?_⟩
      · rw [HD.out, HCB.out]
        exact HFIN.out
      · rcases hk with rfl | rfl | hk
        · exact .inl hFg
        · exact .inl ((HFF.out _).2 (.inr (.inl rfl)))
        · simp [Value.ownBlock] at hk

end Go.Proofs.Ytjopobkcijkpmaa
