/-
  Texts of this claim, joined: PrC, PrD, PrE, Rgr, PrF, PrG. No statement of the program is proved here.
-/
import Derived.Test.YtmdgnjmhbjdlmaaGreatPkA5
import Derived.Test.YtmdgnjmhbjdlmaaGreatPkA2
/-! PrC -/
namespace Go.Proofs.YtmdgnjmhbjdlmaaGreat
open Go Go.RowKit
structure DN (D : DiskS) : Prop where
 p1 : -1 ≤ D.power
 p2 : D.power ≤ 9223372036854775807
 f1 : -1 ≤ D.fault
 f2 : D.fault ≤ 9223372036854775807
 bl : D.blocks.length ≤ 4096
theorem RK.open6 {G : Nat → Prop} {w : World} {v : Value} {D : DiskS} (h : RK G w v D) : ∃ bA bn bc wA wn wc dn po fa wi, v = .agg #[.slice bA bn bc, .slice wA wn wc, .bool dn, .int .i64 po, .int .i64 fa, .int .i64 wi] := by
 obtain ⟨bA, bc, wA, wc, bus, wus, rfl, _⟩ := h
 exact ⟨_, _, _, _, _, _, _, _, _, _, rfl⟩
theorem plusG.lt {G : Nat → Prop} {w w' : World} (hG : ∀ k, G k → k < w.heap.size) (hs : w.heap.size ≤ w'.heap.size) : ∀ k, plusG G w w' k → k < w'.heap.size := fun k e => by
 rcases e with e | e
 ·exact Nat.lt_of_lt_of_le (hG k e) hs
 ·exact e.2
theorem plusG.up {G : Nat → Prop} {w w1 w2 : World} (h1 : w1.heap.size ≤ w2.heap.size) : ∀ k, plusG G w w1 k → plusG G w w2 k := fun k e => by
 rcases e with e | e
 ·exact .inl e
 ·exact .inr ⟨e.1, Nat.lt_of_lt_of_le e.2 h1⟩
theorem plusG.in {G : Nat → Prop} {w w' a b : World} (h1 : w.heap.size ≤ a.heap.size) (h2 : b.heap.size ≤ w'.heap.size) : ∀ k, plusG G a b k → plusG G w w' k := fun k e => by
 rcases e with e | e
 ·exact .inl e
 ·exact .inr ⟨Nat.le_trans h1 e.1, Nat.lt_of_lt_of_le e.2 h2⟩
theorem plusG.in2 {G : Nat → Prop} {w w' a b c d : World} (h1 : w.heap.size ≤ a.heap.size) (h2 : b.heap.size ≤ w'.heap.size) (h3 : w.heap.size ≤ c.heap.size) (h4 : d.heap.size ≤ w'.heap.size) : ∀ k, plusG (plusG G a b) c d k → plusG G w w' k := fun k e => by
 rcases e with e | e
 ·exact plusG.in h1 h2 k e
 ·exact .inr ⟨Nat.le_trans h3 e.1, Nat.lt_of_lt_of_le e.2 h4⟩
set_option maxRecDepth 100000 in
set_option maxHeartbeats 16000000 in
theorem rWrite_any {G : Nat → Prop} {w : World} {v : Value} {D : DiskS} {P : PoS} {L : Int} (h : RP G w v D P L) (hG : ∀ k, G k → k < w.heap.size) (hpi : PI D P) (hdn : DN D) (hpd : D.pending.length ≤ 1000000) (hct : P.count ≤ 1152921504606846976) (i : Nat) (hi : i < P.fr.length) :
  Calls Tryz.prog 67 #[v, .int .i64 (i : Int)] w fun e w' => ∃ v', e = .returned (.tuple #[v', .int .i64 (writeR (some L) D P i).2.2]) ∧ RP (plusG G w w') w' v' (writeR (some L) D P i).1 (writeR (some L) D P i).2.1 L ∧ Below w.heap.size w w' := by
 obtain ⟨bA, bn, bc, wA, wn, wc, dn, po, fa, wi, fv, q, rfl, h1, h2, h3⟩ := h
 have hlen : P.fr.length = q.length := by rw [← h3, List.length_map]
 obtain ⟨A, c, rfl, hc1, hc2, hA⟩ := h2.form
 obtain ⟨fg, rfl, hfg, hfgG⟩ := hA (by omega)
 obtain ⟨⟨pf, pu⟩, hp⟩ : ∃ p, q[i]? = some p := ⟨_, List.getElem?_eq_getElem (by omega)⟩
 have hpu := (h2.pv _ (List.mem_of_getElem? hp)).form
 dsimp only at hpu
 obtain ⟨Ap, cp, rfl, hbr, hcp, hcm⟩ := hpu
 have hpf : P.fr.getD i fr0 = pf := qf_at h3 hp
 have hok := hpi.ok pf (hpf ▸ getD_mem (d := fr0) hi)
 have HWR := Lib.hid (writeR_at (some L) D P i pf hpf)
 have hfit : P.base + pf.page ≤ 4096 := by have := hpi.fit; have := hpi.d2; omega
 have hep : P.epoch ≤ 4294967295 := hpi.e2
 have hq6 : q.length ≤ 256 := by have := hpi.len; have := hpi.m2; omega
 have HT := Lib.hid (two14 w (.slice bA bn bc) (.slice wA wn wc) (.bool dn) (.int .i64 po) (.int .i64 fa) (.int .i64 wi) (.int .i64 (P.base : Int)) (.int .i64 (P.pages : Int)) (.int .i64 (P.most : Int)) (.int .i64 (P.epoch : Int)) (.int .i64 (P.count : Int)) (.int .i64 L) (.slice (some ⟨fg, 0, none⟩) q.length c) (.int .i64 (P.hand : Int)))
 have HK := Lib.hid h1
 have HFG := Lib.hid h2
 have HQF := Lib.hid h3
 have HGl := Lib.hid hG
 have HP := Lib.hid hp
 have HOK := Lib.hid hok
 have HDN := Lib.hid hdn
 have HPD := Lib.hid hpd
 have HHI := Lib.hid hi
 have HPF := Lib.hid hpf
 obtain ⟨n, hn⟩ : ∃ n, n = q.length := ⟨_, rfl⟩
 have hin : i < n := by omega
 have hn6 : n ≤ 256 := by omega
 have HN := Lib.hid hn
 rw [← hn] at HT ⊢
 have i1 : (0 : Int) ≤ (i : Int) := Int.natCast_nonneg _
 have i2 : (i : Int) < (n : Int) := by omega
 clear h1 h2 h3 hG hp hlen hn hc1 hc2 hA hok hdn hpd hpi hq6 hi hpf hbr
 go_enter Tryz.func67, Tryz.ntmps67
 go_upto_region 1 with fail
 obtain ⟨x1, x2, hb, hs⟩ := HT.out _ rfl
 clear HT
 generalize (w.alloc (.cells #[.slice bA bn bc, .slice wA wn wc, .bool dn, .int .i64 po, .int .i64 fa, .int .i64 wi, .int .i64 (P.base : Int), .int .i64 (P.pages : Int), .int .i64 (P.most : Int), .int .i64 (P.epoch : Int), .int .i64 (P.count : Int), .int .i64 L, .slice (some ⟨fg, 0, none⟩) n c, .int .i64 (P.hand : Int)] 42)).alloc (.cells #[.slice none 0 0, .slice none 0 0, .bool false, .int .i64 0, .int .i64 0, .int .i64 0, .int .i64 0, .int .i64 0, .int .i64 0, .int .i64 0, .int .i64 0, .int .i64 0, .slice none 0 0, .int .i64 0] 42) = w1 at *
 have y12 := x1.c12
 obtain ⟨f0, f1, f2, f3, f4⟩ := rf_cells (by have := (HFG.out.below hb).tk; rw [← HN.out] at this; exact this) HP.out
 dsimp only at f0 f1 f2 f3 f4
 have hb2 := gr_alloc (gr_refl w1) (.cells #[.int .i64 (pf.page : Int), .slice Ap pf.pay.length cp, .int .i64 pf.lsn, .bool pf.dirty, .bool pf.used] 98)
 have X3 := Lib.hid (F5.new w1 (.int .i64 (pf.page : Int)) (.slice Ap pf.pay.length cp) (.int .i64 pf.lsn) (.bool pf.dirty) (.bool pf.used))
 have X1 := Lib.hid (x1.below hb2)
 have X2 := Lib.hid (x2.below hb2)
 have HB2 : Hid (Below w.heap.size w _) := Lib.hid (gr_trans hb hb2)
 have hs2 : (w1.alloc (.cells #[.int .i64 (pf.page : Int), .slice Ap pf.pay.length cp, .int .i64 pf.lsn, .bool pf.dirty, .bool pf.used] 98)).heap.size = w.heap.size + 3 := by rw [World.size_alloc, hs]
 clear x1 x2 hb hb2
 go_upto_region 2 with fail
 clear y12 f0 f1 f2 f3 f4
 generalize w1.alloc (.cells #[.int .i64 (pf.page : Int), .slice Ap pf.pay.length cp, .int .i64 pf.lsn, .bool pf.dirty, .bool pf.used] 98) = w2 at *
 generalize w1.heap.size = g3 at *
 subst hs
 have e2 := X3.out.c2
 have y11 := X1.out.c11
 by_cases hlt : L < pf.lsn
 ·have t1 : decide (pf.lsn > L) = true := decide_eq_true hlt
  have t2 : decide (L < pf.lsn) = true := decide_eq_true hlt
  have ha : asksE (some L) pf.lsn = 4 := if_pos hlt
  have HE : Hid (writeR (some L) D P i = (D, P, 4)) := Lib.hid (HWR.out.trans ((if_pos (by rw [ha]; decide)).trans (by rw [ha])))
  clear ha
  clear hlt
  go_upto_region 3 with fail
  clear e2 y11
  have y0 := X1.out.c0
  have y1 := X1.out.c1
  have y2 := X1.out.c2
  have y3 := X1.out.c3
  have y4 := X1.out.c4
  have y5 := X1.out.c5
  have y6 := X1.out.c6
  have y7 := X1.out.c7
  have y8 := X1.out.c8
  have y9 := X1.out.c9
  have y10 := X1.out.c10
  have y11 := X1.out.c11
  have y12 := X1.out.c12
  have y13 := X1.out.c13
  have r0 := X2.out.c0
  have r1 := X2.out.c1
  have r2 := X2.out.c2
  have r3 := X2.out.c3
  have r4 := X2.out.c4
  have r5 := X2.out.c5
  have r6 := X2.out.c6
  have r7 := X2.out.c7
  have r8 := X2.out.c8
  have r9 := X2.out.c9
  have r10 := X2.out.c10
  have r11 := X2.out.c11
  have r12 := X2.out.c12
  have r13 := X2.out.c13
  have rz0 := X2.out.fz 0
  have rz1 := X2.out.fz 1
  have rz2 := X2.out.fz 2
  have rz3 := X2.out.fz 3
  have rz4 := X2.out.fz 4
  have rz5 := X2.out.fz 5
  have rz6 := X2.out.fz 6
  have rz7 := X2.out.fz 7
  have rz8 := X2.out.fz 8
  have rz9 := X2.out.fz 9
  have rz10 := X2.out.fz 10
  have rz11 := X2.out.fz 11
  have rz12 := X2.out.fz 12
  have rz13 := X2.out.fz 13
  have HSs1 := Lib.hid (X2.out.all (.slice bA bn bc) (.slice wA wn wc) (.bool dn) (.int .i64 po) (.int .i64 fa) (.int .i64 wi) (.int .i64 (P.base : Int)) (.int .i64 (P.pages : Int)) (.int .i64 (P.most : Int)) (.int .i64 (P.epoch : Int)) (.int .i64 (P.count : Int)) (.int .i64 L) (.slice (some ⟨fg, 0, none⟩) n c) (.int .i64 (P.hand : Int)))
  go_wp2_with fail
  clear r0 r1 r2 r3 r4 r5 r6 r7 r8 r9 r10 r11 r12 r13 rz0 rz1 rz2 rz3 rz4 rz5 rz6 rz7 rz8 rz9 rz10 rz11 rz12 rz13
  obtain ⟨s1, s1o⟩ := HSs1.out _ rfl
  clear HSs1
  generalize ((((((((((((((w2.setCell ⟨w.heap.size + 1, 0, none⟩ (.slice bA bn bc)).setCell ⟨w.heap.size + 1, 1, none⟩ (.slice wA wn wc)).setCell ⟨w.heap.size + 1, 2, none⟩ (.bool dn)).setCell ⟨w.heap.size + 1, 3, none⟩ (.int .i64 po)).setCell ⟨w.heap.size + 1, 4, none⟩ (.int .i64 fa)).setCell ⟨w.heap.size + 1, 5, none⟩ (.int .i64 wi)).setCell ⟨w.heap.size + 1, 6, none⟩ (.int .i64 (P.base : Int))).setCell ⟨w.heap.size + 1, 7, none⟩ (.int .i64 (P.pages : Int))).setCell ⟨w.heap.size + 1, 8, none⟩ (.int .i64 (P.most : Int))).setCell ⟨w.heap.size + 1, 9, none⟩ (.int .i64 (P.epoch : Int))).setCell ⟨w.heap.size + 1, 10, none⟩ (.int .i64 (P.count : Int))).setCell ⟨w.heap.size + 1, 11, none⟩ (.int .i64 L)).setCell ⟨w.heap.size + 1, 12, none⟩ (.slice (some ⟨fg, 0, none⟩) n c)).setCell ⟨w.heap.size + 1, 13, none⟩ (.int .i64 (P.hand : Int))) = wf at *
  clear y0 y1 y2 y3 y4 y5 y6 y7 y8 y9 y10 y11 y12 y13
  have z0 := s1.c0
  have z1 := s1.c1
  have z2 := s1.c2
  have z3 := s1.c3
  have z4 := s1.c4
  have z5 := s1.c5
  have z6 := s1.c6
  have z7 := s1.c7
  have z8 := s1.c8
  have z9 := s1.c9
  have z10 := s1.c10
  have z11 := s1.c11
  have z12 := s1.c12
  have z13 := s1.c13
  refine bodyPost_ret (v := .tuple #[pV bA bn bc wA wn wc dn po fa wi P L (.slice (some ⟨fg, 0, none⟩) n c), .int .i64 4]) (by simp [results, Tryz.results67, go_sem, z0, z1, z2, z3, z4, z5, z6, z7, z8, z9, z10, z11, z12, z13]) rfl ?_
  rw [HE.out]
  have hbf : Below w.heap.size w wf := HB2.out.trans ((s1o.below (B := w.heap.size) (fun k e => by omega) HB2.out.size))
  exact ⟨_, rfl, (show RP G w _ D P L from ⟨bA, bn, bc, wA, wn, wc, dn, po, fa, wi, _, q, rfl, HK.out, by rw [HN.out]; exact HFG.out, HQF.out⟩).below hbf |>.mono (fun k e => .inl e), hbf⟩
 ·have t1 : decide (pf.lsn > L) = false := decide_eq_false hlt
  have t2 : decide (L < pf.lsn) = false := decide_eq_false hlt
  have ha0 : asksE (some L) pf.lsn = 0 := if_neg hlt
  have ha : ¬ (asksE (some L) pf.lsn ≠ 0) := fun e => e ha0
  have h2 := HWR.out.trans (if_neg ha)
  obtain ⟨er, her⟩ : ∃ er, er = writeE D ((P.base + pf.page : Nat) : Int) 4096 := ⟨_, rfl⟩
  obtain ⟨D2, hD2⟩ : ∃ D2, D2 = writeD D ((P.base + pf.page : Nat) : Int) (blockP (stampN P) pf.pay) := ⟨_, rfl⟩
  rw [← her, ← hD2] at h2
  have HWR2 := Lib.hid h2
  clear h2
  have hlB := blockP_len (v := stampN P) (HOK.out.2.1)
  have HPU : Hid (∀ W A c, Below w.heap.size w W → BR W A 4096 (blockP (stampN P) pf.pay) → Calls Tryz.prog 87 #[.agg #[.slice bA bn bc, .slice wA wn wc, .bool dn, .int .i64 po, .int .i64 fa, .int .i64 wi], .int .i64 ((P.base : Int) + (pf.page : Int)), .slice A 4096 c] W fun e w' => ∃ bA2 bn2 bc2 wA2 wn2 wc2 dn2 po2 fa2 wi2, e = .returned (.tuple #[.agg #[.slice bA2 bn2 bc2, .slice wA2 wn2 wc2, .bool dn2, .int .i64 po2, .int .i64 fa2, .int .i64 wi2], .int .i64 er]) ∧ RK (plusG G W w') w' (.agg #[.slice bA2 bn2 bc2, .slice wA2 wn2 wc2, .bool dn2, .int .i64 po2, .int .i64 fa2, .int .i64 wi2]) D2 ∧ Below W.heap.size W w') := Lib.hid fun W A c hW hbr => (refPut03_any G _ D _ A 4096 c (blockP (stampN P) pf.pay) W (HK.out.below hW) (fun k hk => Nat.lt_of_lt_of_le (HGl.out k hk) hW.size) hbr HDN.out.p1 HDN.out.p2 HDN.out.f1 HDN.out.f2 HPD.out (by omega)).mono (by
   rintro e w' ⟨v', rfl, h1, h2⟩
   rw [← Int.natCast_add, ← her]
   rw [← Int.natCast_add, ← hD2] at h1
   obtain ⟨a1, a2, a3, a4, a5, a6, a7, a8, a9, a10, rfl⟩ := h1.open6
   exact ⟨a1, a2, a3, a4, a5, a6, a7, a8, a9, a10, rfl, h1, h2⟩)
  clear her hD2 hlB
  clear hlt ha ha0 HWR
  go_upto_region 4 with fail
  clear e2 y11
  have E1 := Lib.hid X3.out.c1
  have Y9 := Lib.hid X1.out.c9
  have Y10 := Lib.hid X1.out.c10
  have hpl := HOK.out.2.1
  have HOF : Hid (∀ W, Calls Tryz.prog 86 #[.int .i64 (P.epoch : Int), .int .i64 (P.count : Int)] W fun e w' => e = .returned (.int .u64 ((stampN P : Nat) : Int)) ∧ W = w') := Lib.hid fun W => (refOf_any _ _ W).mono fun e w' h => ⟨by rw [h.1]; unfold stampN; simp, h.2⟩
  have HSE : Hid (∀ W, Below w2.heap.size w2 W → Calls Tryz.prog 85 #[.slice Ap pf.pay.length cp, .int .u64 ((stampN P : Nat) : Int)] W fun e w' => (∃ A c, e = .returned (.tuple #[.slice A 4096 c, .int .i64 0]) ∧ BO w' w2.heap.size A c (blockP (stampN P) pf.pay)) ∧ Below W.heap.size W w') := Lib.hid fun W hW => (refSeal_fits Ap pf.pay.length cp (stampN P) pf.pay W (by
   obtain ⟨A', c', e', hr', _⟩ := ((HFG.out.below (HB2.out.trans (hW.mono HB2.out.size))).pv _ (List.mem_of_getElem? HP.out)).form
   injection e' with e1' _ _
   rw [e1']
   exact hr') (by omega) (by unfold stampN; omega)).mono (by
   rintro e w' ⟨r, rfl, h1, h2⟩
   rw [show 4080 - pf.pay.length = 0 by omega, List.replicate_zero, List.append_nil] at h1
   obtain ⟨A, c, rfl, h3⟩ := BO.of (own_lower h1 hW.size) (blockP_len hpl)
   exact ⟨⟨A, c, rfl, h3⟩, h2⟩)
  clear hpl
  refine' wp_region_mono (by kernel_rfl) (by kernel_rfl) (by kernel_rfl) (by kernel_rfl) (by kernel_rfl) (by kernel_rfl)
   [MP.is (.pointer (some ⟨w.heap.size + 2, 1, none⟩)), MP.is (.slice Ap pf.pay.length cp), MP.is (.pointer (some ⟨w.heap.size, 9, none⟩)), MP.is (.int .i64 (P.epoch : Int)), MP.is (.pointer (some ⟨w.heap.size, 10, none⟩)), MP.is (.int .i64 (P.count : Int)), MP.is (.int .u64 ((stampN P : Nat) : Int)), MP.sl w2.heap.size (blockP (stampN P) pf.pay), MP.sl w2.heap.size (blockP (stampN P) pf.pay), MP.bo w2.heap.size (blockP (stampN P) pf.pay), MP.is (.int .i64 0), MP.bo w2.heap.size (blockP (stampN P) pf.pay), MP.is (.int .i64 0)] ?hAA1 ?hst1 ?hend1
  case hAA1 =>
   intro f
   conv => lhs; simp only [putA, dstOf, List.size_toArray, List.length_cons, List.length_nil, Nat.zero_add, Nat.reduceAdd, List.getElem?_toArray, List.getElem?_cons_zero, List.getElem?_cons_succ, Option.bind_some, Act.put, List.setIfInBounds_toArray, List.set_cons_zero, List.set_cons_succ]
   first | done | exact rfl
  case hst1 =>
   change Steps _ _ _ _ _ [0, 1, 2, 3, 4, 5, 6, 7, 8, 9, 10, 11, 12]
   refine Steps.cons rfl ?_ ?_
   ·intro f wz hB h K Q hK
    clear h
    try simp only [List.getElem_toArray, List.getElem_cons_zero]
    try rw [if_pos (by rfl)]
    go_simp
    exact hK _ _ (gr_refl _) rfl
   refine Steps.cons rfl ?_ ?_
   ·intro f wz hB h K Q hK
    have h0 : (MP.is (.pointer (some ⟨w.heap.size + 2, 1, none⟩))).p (f 0) wz := h 0 (by kernel_rfl)
    have e0 : f 0 = (.pointer (some ⟨w.heap.size + 2, 1, none⟩)) := h0
    simp only [e0] at hK ⊢
    clear e0
    clear h
    try rw [if_pos (by rfl)]
    have y0 := keep_of_below (bel_drew hB) E1.out
    have y1 := keep_of_below (bel_drew hB) Y9.out
    have y2 := keep_of_below (bel_drew hB) Y10.out
    go_simp
    exact hK _ _ (gr_refl _) rfl
   refine Steps.cons rfl ?_ ?_
   ·intro f wz hB h K Q hK
    clear h
    try rw [if_pos (by rfl)]
    go_simp
    exact hK _ _ (gr_refl _) rfl
   refine Steps.cons rfl ?_ ?_
   ·intro f wz hB h K Q hK
    have h2 : (MP.is (.pointer (some ⟨w.heap.size, 9, none⟩))).p (f 2) wz := h 2 (by kernel_rfl)
    have e2 : f 2 = (.pointer (some ⟨w.heap.size, 9, none⟩)) := h2
    simp only [e2] at hK ⊢
    clear e2
    clear h
    try rw [if_pos (by rfl)]
    have y0 := keep_of_below (bel_drew hB) E1.out
    have y1 := keep_of_below (bel_drew hB) Y9.out
    have y2 := keep_of_below (bel_drew hB) Y10.out
    go_simp
    exact hK _ _ (gr_refl _) rfl
   refine Steps.cons rfl ?_ ?_
   ·intro f wz hB h K Q hK
    clear h
    try rw [if_pos (by rfl)]
    go_simp
    exact hK _ _ (gr_refl _) rfl
   refine Steps.cons rfl ?_ ?_
   ·intro f wz hB h K Q hK
    have h4 : (MP.is (.pointer (some ⟨w.heap.size, 10, none⟩))).p (f 4) wz := h 4 (by kernel_rfl)
    have e4 : f 4 = (.pointer (some ⟨w.heap.size, 10, none⟩)) := h4
    simp only [e4] at hK ⊢
    clear e4
    clear h
    try rw [if_pos (by rfl)]
    have y0 := keep_of_below (bel_drew hB) E1.out
    have y1 := keep_of_below (bel_drew hB) Y9.out
    have y2 := keep_of_below (bel_drew hB) Y10.out
    go_simp
    exact hK _ _ (gr_refl _) rfl
   refine Steps.cons rfl ?_ ?_
   ·intro f wz hB h K Q hK
    have h3 : (MP.is (.int .i64 (P.epoch : Int))).p (f 3) wz := h 3 (by kernel_rfl)
    have e3 : f 3 = (.int .i64 (P.epoch : Int)) := h3
    have h5 : (MP.is (.int .i64 (P.count : Int))).p (f 5) wz := h 5 (by kernel_rfl)
    have e5 : f 5 = (.int .i64 (P.count : Int)) := h5
    simp only [e3, e5] at hK ⊢
    clear e3 e5
    clear h
    try rw [if_pos (by rfl)]
    go_simp
    refine (HOF.out _).mono ?_
    rintro e w5 ⟨rfl, rfl⟩
    exact hK _ _ (gr_refl _) rfl
   refine Steps.cons rfl ?_ ?_
   ·intro f wz hB h K Q hK
    have h1 : (MP.is (.slice Ap pf.pay.length cp)).p (f 1) wz := h 1 (by kernel_rfl)
    have e1 : f 1 = (.slice Ap pf.pay.length cp) := h1
    have h6 : (MP.is (.int .u64 ((stampN P : Nat) : Int))).p (f 6) wz := h 6 (by kernel_rfl)
    have e6 : f 6 = (.int .u64 ((stampN P : Nat) : Int)) := h6
    simp only [e1, e6] at hK ⊢
    clear e1 e6
    clear h
    try rw [if_pos (by rfl)]
    go_simp
    refine (HSE.out _ (bel_drew hB)).mono ?_
    rintro e w5 ⟨⟨A, c, rfl, h5⟩, hb5⟩
    exact hK _ _ hb5 ⟨A, c, rfl, h5⟩
   refine Steps.cons rfl ?_ ?_
   ·intro f wz hB h K Q hK
    have h7 : (MP.sl w2.heap.size (blockP (stampN P) pf.pay)).p (f 7) wz := h 7 (by kernel_rfl)
    obtain ⟨A7, c7, e7, q7⟩ := h7
    simp only [e7] at hK ⊢
    clear e7
    clear h
    try rw [if_pos (by rfl)]
    go_simp
    exact hK _ _ (gr_refl _) ⟨A7, c7, rfl, q7⟩
   refine Steps.cons rfl ?_ ?_
   ·intro f wz hB h K Q hK
    have h8 : (MP.sl w2.heap.size (blockP (stampN P) pf.pay)).p (f 8) wz := h 8 (by kernel_rfl)
    obtain ⟨A8, c8, e8, q8⟩ := h8
    simp only [e8] at hK ⊢
    clear e8
    clear h
    try rw [if_pos (by rfl)]
    go_simp
    exact hK _ _ (gr_refl _) ⟨A8, c8, rfl, q8⟩
   refine Steps.cons rfl ?_ ?_
   ·intro f wz hB h K Q hK
    have h8 : (MP.sl w2.heap.size (blockP (stampN P) pf.pay)).p (f 8) wz := h 8 (by kernel_rfl)
    obtain ⟨A8, c8, e8, q8⟩ := h8
    simp only [e8] at hK ⊢
    clear e8
    clear h
    try rw [if_pos (by rfl)]
    go_simp
    exact hK _ _ (gr_refl _) rfl
   refine Steps.cons rfl ?_ ?_
   ·intro f wz hB h K Q hK
    have h9 : (MP.bo w2.heap.size (blockP (stampN P) pf.pay)).p (f 9) wz := h 9 (by kernel_rfl)
    obtain ⟨A9, c9, e9, q9⟩ := h9
    simp only [e9] at hK ⊢
    clear e9
    clear h
    try rw [if_pos (by rfl)]
    go_simp
    exact hK _ _ (gr_refl _) ⟨A9, c9, rfl, q9⟩
   refine Steps.cons rfl ?_ ?_
   ·intro f wz hB h K Q hK
    have h10 : (MP.is (.int .i64 0)).p (f 10) wz := h 10 (by kernel_rfl)
    have e10 : f 10 = (.int .i64 0) := h10
    simp only [e10] at hK ⊢
    clear e10
    clear h
    try rw [if_pos (by rfl)]
    go_simp
    exact hK _ _ (gr_refl _) rfl
   exact Steps.nil
  intro f w10 hB10 hR
  have e0 : f 0 = (.pointer (some ⟨w.heap.size + 2, 1, none⟩)) := hR 0 (by decide)
  have e1 : f 1 = (.slice Ap pf.pay.length cp) := hR 1 (by decide)
  have e2 : f 2 = (.pointer (some ⟨w.heap.size, 9, none⟩)) := hR 2 (by decide)
  have e3 : f 3 = (.int .i64 (P.epoch : Int)) := hR 3 (by decide)
  have e4 : f 4 = (.pointer (some ⟨w.heap.size, 10, none⟩)) := hR 4 (by decide)
  have e5 : f 5 = (.int .i64 (P.count : Int)) := hR 5 (by decide)
  have e6 : f 6 = (.int .u64 ((stampN P : Nat) : Int)) := hR 6 (by decide)
  obtain ⟨A710, c710, e7, q710⟩ := (show (MP.sl w2.heap.size (blockP (stampN P) pf.pay)).p (f 7) w10 from hR 7 (by decide))
  obtain ⟨A810, c810, e8, q810⟩ := (show (MP.sl w2.heap.size (blockP (stampN P) pf.pay)).p (f 8) w10 from hR 8 (by decide))
  obtain ⟨A910, c910, e9, q910⟩ := (show (MP.bo w2.heap.size (blockP (stampN P) pf.pay)).p (f 9) w10 from hR 9 (by decide))
  have e10 : f 10 = (.int .i64 0) := hR 10 (by decide)
  obtain ⟨A1110, c1110, e11, q1110⟩ := (show (MP.bo w2.heap.size (blockP (stampN P) pf.pay)).p (f 11) w10 from hR 11 (by decide))
  have e12 : f 12 = (.int .i64 0) := hR 12 (by decide)
  simp only [e0, e1, e2, e3, e4, e5, e6, e7, e8, e9, e10, e11, e12]
  clear e0 e1 e2 e3 e4 e5 e6 e7 e8 e9 e10 e11 e12 hR
  have HB10 : Hid (Below w2.heap.size w2 w10) := Lib.hid (Below.trans (gr_drewN (gr_refl w2) 1) hB10)
  clear hB10 E1 Y9 Y10 HOF HSE
  have HBR : Hid (BR w10 A1110 4096 (blockP (stampN P) pf.pay)) := Lib.hid (by
   obtain ⟨A', c', e', hr', _⟩ := q1110.2.formN q1110.1
   injection e' with e1' _ _
   rw [e1']
   exact hr')
  clear q710 q810 q1110
  have HW10 : Hid (Below w.heap.size w w10) := Lib.hid (HB2.out.trans (HB10.out.mono HB2.out.size))
  have X1 := Lib.hid (X1.out.below HB10.out)
  have X2 := Lib.hid (X2.out.below HB10.out)
  have X3 := Lib.hid (X3.out.below HB10.out)
  have y6 := X1.out.c6
  have y0 := X1.out.c0
  have y1 := X1.out.c1
  have y2 := X1.out.c2
  have y3 := X1.out.c3
  have y4 := X1.out.c4
  have y5 := X1.out.c5
  have z0 := X3.out.c0
  have x9 : ((0 : Int) != 0) = false := rfl
  have j1 : IntKind.i64.wrap ((P.base : Int) + (pf.page : Int)) = (P.base : Int) + (pf.page : Int) := by rw [IntKind.wrap_i64]; omega
  go_upto_region 5 with fail
  go_upto_region 6 with fail
  refine (HPU.out _ _ _ HW10.out HBR.out).mono ?_
  rintro e w11 ⟨bA2, bn2, bc2, wA2, wn2, wc2, dn2, po2, fa2, wi2, rfl, hrk, hb11⟩
  have HRK := Lib.hid hrk
  have hgr := gr_alloc hb11 (.cells #[.slice bA2 bn2 bc2, .slice wA2 wn2 wc2, .bool dn2, .int .i64 po2, .int .i64 fa2, .int .i64 wi2] 33)
  have HB12 : Hid (Below w10.heap.size w10 _) := Lib.hid hgr
  have HB12' : Hid (Below w11.heap.size w11 (w11.alloc (.cells #[.slice bA2 bn2 bc2, .slice wA2 wn2 wc2, .bool dn2, .int .i64 po2, .int .i64 fa2, .int .i64 wi2] 33))) := Lib.hid (gr_alloc (gr_refl w11) _)
  have Z6 := Lib.hid (B6.new w11 (.slice bA2 bn2 bc2) (.slice wA2 wn2 wc2) (.bool dn2) (.int .i64 po2) (.int .i64 fa2) (.int .i64 wi2))
  have h11 : w10.heap.size ≤ w11.heap.size := hb11.size
  clear hrk hgr hb11 y0 y1 y2 y3 y4 y5 y6 z0 HPU HBR j1
  go_upto_region 6 with fail
  generalize w11.alloc (.cells #[.slice bA2 bn2 bc2, .slice wA2 wn2 wc2, .bool dn2, .int .i64 po2, .int .i64 fa2, .int .i64 wi2] 33) = w12 at *
  have X1 := Lib.hid (X1.out.below HB12.out)
  have X2 := Lib.hid (X2.out.below HB12.out)
  have X3 := Lib.hid (X3.out.below HB12.out)
  have y0 := X1.out.c0
  have yz0 := X1.out.fz 0
  have u0 := Z6.out.c0
  have y1 := X1.out.c1
  have yz1 := X1.out.fz 1
  have u1 := Z6.out.c1
  have y2 := X1.out.c2
  have yz2 := X1.out.fz 2
  have u2 := Z6.out.c2
  have y3 := X1.out.c3
  have yz3 := X1.out.fz 3
  have u3 := Z6.out.c3
  have y4 := X1.out.c4
  have yz4 := X1.out.fz 4
  have u4 := Z6.out.c4
  have y5 := X1.out.c5
  have yz5 := X1.out.fz 5
  have u5 := Z6.out.c5
  have HS6 := Lib.hid (X1.out.disk (.slice bA2 bn2 bc2) (.slice wA2 wn2 wc2) (.bool dn2) (.int .i64 po2) (.int .i64 fa2) (.int .i64 wi2))
  go_upto_region 7 with fail
  clear y0 yz0 u0 y1 yz1 u1 y2 yz2 u2 y3 yz3 u3 y4 yz4 u4 y5 yz5 u5
  obtain ⟨x1, o13⟩ := HS6.out _ rfl
  clear HS6
  generalize ((((((w12.setCell ⟨w.heap.size, 0, none⟩ (.slice bA2 bn2 bc2)).setCell ⟨w.heap.size, 1, none⟩ (.slice wA2 wn2 wc2)).setCell ⟨w.heap.size, 2, none⟩ (.bool dn2)).setCell ⟨w.heap.size, 3, none⟩ (.int .i64 po2)).setCell ⟨w.heap.size, 4, none⟩ (.int .i64 fa2)).setCell ⟨w.heap.size, 5, none⟩ (.int .i64 wi2)) = w13 at *
  have hs10 : w2.heap.size ≤ w10.heap.size := HB10.out.size
  have hs12 : w10.heap.size ≤ w12.heap.size := HB12.out.size
  have X1 := Lib.hid x1
  have X2 := Lib.hid (X2.out.off o13 (by omega))
  have X3 := Lib.hid (X3.out.off o13 (by omega))
  have HB13 : Hid (Below w.heap.size w w13) := Lib.hid ((HW10.out.trans (HB12.out.mono HW10.out.size)).trans (o13.below (fun k e => by omega) (Nat.le_trans HW10.out.size hs12)))
  have HRK : Hid (RK (plusG G w10 w11) w13 (.agg #[.slice bA2 bn2 bc2, .slice wA2 wn2 wc2, .bool dn2, .int .i64 po2, .int .i64 fa2, .int .i64 wi2]) D2) := Lib.hid (((HRK.out.below HB12'.out)).off o13 (fun k e hk => by
   rcases hk with hk | hk
   ·have := HGl.out k hk; omega
   ·omega))
  have HS13 : Hid (w11.heap.size ≤ w13.heap.size) := Lib.hid (Nat.le_trans HB12'.out.size o13.size)
  have HH10 : Hid (w.heap.size ≤ w10.heap.size) := Lib.hid HW10.out.size
  clear x1 o13 HB12 HB12' HW10 HB10 HB2 Z6
  by_cases her : er = 0
  ·have t3 : (er != 0) = false := by rw [her]; rfl
   have HE : Hid (writeR (some L) D P i = (D2, { P with fr := P.fr.set i { pf with dirty := false }, count := P.count + 1 }, 0)) := Lib.hid (HWR2.out.trans (if_neg (by rw [her]; simp)))
   clear her HWR2
   go_upto_region 9 with fail
   have z3 := X3.out.c3
   have zz3 := X3.out.fz 3
   have HX3 := Lib.hid (X3.out.set3 (.bool false))
   have HO14 : Hid (Off (fun k => k = w.heap.size + 2) w13 (w13.setCell ⟨w.heap.size + 2, 3, none⟩ (.bool false))) := Lib.hid ((Off.refl _ w13).setCell _ rfl)
   go_upto_region 10 with fail
   clear z3 zz3
   generalize w13.setCell ⟨w.heap.size + 2, 3, none⟩ (.bool false) = w14 at *
   have X1 := Lib.hid (X1.out.off HO14.out (by omega))
   have X2 := Lib.hid (X2.out.off HO14.out (by omega))
   have HB14 : Hid (Below w.heap.size w w14) := Lib.hid (HB13.out.trans (HO14.out.below (fun k e => by omega) HB13.out.size))
   have HG1 : Hid (∀ k, plusG G w10 w11 k → k < w14.heap.size) := Lib.hid (fun k hk => Nat.lt_of_lt_of_le (by
    rcases hk with hk | hk
    ·have := HGl.out k hk; have := HH10.out; omega
    ·exact hk.2) (Nat.le_trans HS13.out HO14.out.size))
   have HRP : Hid (RP (plusG G w10 w11) w14 (pV bA2 bn2 bc2 wA2 wn2 wc2 dn2 po2 fa2 wi2 P L (.slice (some ⟨fg, 0, none⟩) n c)) D2 P L) := Lib.hid ⟨bA2, bn2, bc2, wA2, wn2, wc2, dn2, po2, fa2, wi2, _, q, rfl, HRK.out.off HO14.out (fun k e hk => by
    rcases hk with hk | hk
    ·have := HGl.out k hk; omega
    ·omega), by rw [HN.out]; exact (HFG.out.below HB14.out).mono (fun k e => .inl e), HQF.out⟩
   have hu := ((HFG.out.below HB14.out).pv _ (List.mem_of_getElem? HP.out))
   have hug := (HFG.out.pg _ (List.mem_of_getElem? HP.out))
   dsimp only at hu hug
   have HWI : Hid (Calls Tryz.prog 59 #[pV bA2 bn2 bc2 wA2 wn2 wc2 dn2 po2 fa2 wi2 P L (.slice (some ⟨fg, 0, none⟩) n c), .int .i64 (i : Int), .agg #[.int .i64 (pf.page : Int), .slice Ap pf.pay.length cp, .int .i64 pf.lsn, .bool false, .bool pf.used]] w14 fun e w' => ∃ bA3 bn3 bc3 wA3 wn3 wc3 dn3 po3 fa3 wi3 A3 n3 c3 q3, e = .returned (.agg #[.slice bA3 bn3 bc3, .slice wA3 wn3 wc3, .bool dn3, .int .i64 po3, .int .i64 fa3, .int .i64 wi3, .int .i64 (P.base : Int), .int .i64 (P.pages : Int), .int .i64 (P.most : Int), .int .i64 (P.epoch : Int), .int .i64 (P.count : Int), .int .i64 L, .slice A3 n3 c3, .int .i64 (P.hand : Int)]) ∧ RK (plusG (plusG G w10 w11) w14 w') w' (.agg #[.slice bA3 bn3 bc3, .slice wA3 wn3 wc3, .bool dn3, .int .i64 po3, .int .i64 fa3, .int .i64 wi3]) D2 ∧ FG (plusG (plusG G w10 w11) w14 w') w' (.slice A3 n3 c3) q3 ∧ q3.map Prod.fst = P.fr.set i { pf with dirty := false } ∧ Below w14.heap.size w14 w') := Lib.hid ((rWith_any HRP.out HG1.out i HHI.out { pf with dirty := false } (.slice Ap pf.pay.length cp) hu (fun k e => .inl (hug k e)) (by have := HN.out; have := congrArg List.length HQF.out; rw [List.length_map] at this; omega)).mono (by
    rintro e w' ⟨v', rfl, ⟨a1, a2, a3, a4, a5, a6, a7, a8, a9, a10, fv3, q3, rfl, h1, h2, h3⟩, hb⟩
    obtain ⟨A3, c3, rfl, _⟩ := h2.form
    exact ⟨a1, a2, a3, a4, a5, a6, a7, a8, a9, a10, A3, _, c3, q3, rfl, h1, h2, h3, hb⟩))
   clear hu hug HRP HRK HG1
   have y0 := X1.out.c0
   have y1 := X1.out.c1
   have y2 := X1.out.c2
   have y3 := X1.out.c3
   have y4 := X1.out.c4
   have y5 := X1.out.c5
   have y6 := X1.out.c6
   have y7 := X1.out.c7
   have y8 := X1.out.c8
   have y9 := X1.out.c9
   have y10 := X1.out.c10
   have y11 := X1.out.c11
   have y12 := X1.out.c12
   have y13 := X1.out.c13
   have z0 := HX3.out.c0
   have z1 := HX3.out.c1
   have z2 := HX3.out.c2
   have z3 := HX3.out.c3
   have z4 := HX3.out.c4
   go_upto_region 11 with fail
   refine HWI.out.mono ?_
   rintro e w15 ⟨bA3, bn3, bc3, wA3, wn3, wc3, dn3, po3, fa3, wi3, A3, n3, c3, q3, rfl, hk3, hf3, hq3, hb15⟩
   clear HWI y0 y1 y2 y3 y4 y5 y6 y7 y8 y9 y10 y11 y12 y13 z0 z1 z2 z3 z4
   have HK3 := Lib.hid hk3
   have HF3 := Lib.hid hf3
   have HQ3 := Lib.hid hq3
   have HB15 := Lib.hid hb15
   have X1 := Lib.hid (X1.out.below hb15)
   have X2 := Lib.hid (X2.out.below hb15)
   clear hk3 hf3 hq3 hb15 HX3
   have y0 := X1.out.c0
   have y1 := X1.out.c1
   have y2 := X1.out.c2
   have y3 := X1.out.c3
   have y4 := X1.out.c4
   have y5 := X1.out.c5
   have y6 := X1.out.c6
   have y7 := X1.out.c7
   have y8 := X1.out.c8
   have y9 := X1.out.c9
   have y10 := X1.out.c10
   have y11 := X1.out.c11
   have y12 := X1.out.c12
   have y13 := X1.out.c13
   have yz0 := X1.out.fz 0
   have yz1 := X1.out.fz 1
   have yz2 := X1.out.fz 2
   have yz3 := X1.out.fz 3
   have yz4 := X1.out.fz 4
   have yz5 := X1.out.fz 5
   have yz6 := X1.out.fz 6
   have yz7 := X1.out.fz 7
   have yz8 := X1.out.fz 8
   have yz9 := X1.out.fz 9
   have yz10 := X1.out.fz 10
   have yz11 := X1.out.fz 11
   have yz12 := X1.out.fz 12
   have yz13 := X1.out.fz 13
   have HSX1b := Lib.hid (X1.out.all (.slice bA3 bn3 bc3) (.slice wA3 wn3 wc3) (.bool dn3) (.int .i64 po3) (.int .i64 fa3) (.int .i64 wi3) (.int .i64 (P.base : Int)) (.int .i64 (P.pages : Int)) (.int .i64 (P.most : Int)) (.int .i64 (P.epoch : Int)) (.int .i64 (P.count : Int)) (.int .i64 L) (.slice A3 n3 c3) (.int .i64 (P.hand : Int)))
   go_upto_region 11 with fail
   clear y0 y1 y2 y3 y4 y5 y6 y7 y8 y9 y10 y11 y12 y13 yz0 yz1 yz2 yz3 yz4 yz5 yz6 yz7 yz8 yz9 yz10 yz11 yz12 yz13
   obtain ⟨X1b, X1bo⟩ := HSX1b.out _ rfl
   clear HSX1b
   generalize ((((((((((((((w15.setCell ⟨w.heap.size, 0, none⟩ (.slice bA3 bn3 bc3)).setCell ⟨w.heap.size, 1, none⟩ (.slice wA3 wn3 wc3)).setCell ⟨w.heap.size, 2, none⟩ (.bool dn3)).setCell ⟨w.heap.size, 3, none⟩ (.int .i64 po3)).setCell ⟨w.heap.size, 4, none⟩ (.int .i64 fa3)).setCell ⟨w.heap.size, 5, none⟩ (.int .i64 wi3)).setCell ⟨w.heap.size, 6, none⟩ (.int .i64 (P.base : Int))).setCell ⟨w.heap.size, 7, none⟩ (.int .i64 (P.pages : Int))).setCell ⟨w.heap.size, 8, none⟩ (.int .i64 (P.most : Int))).setCell ⟨w.heap.size, 9, none⟩ (.int .i64 (P.epoch : Int))).setCell ⟨w.heap.size, 10, none⟩ (.int .i64 (P.count : Int))).setCell ⟨w.heap.size, 11, none⟩ (.int .i64 L)).setCell ⟨w.heap.size, 12, none⟩ (.slice A3 n3 c3)).setCell ⟨w.heap.size, 13, none⟩ (.int .i64 (P.hand : Int))) = w16 at *
   have X2 := Lib.hid (X2.out.off X1bo (by omega))
   have X1 := Lib.hid X1b
   have y10 := X1b.c10
   have yz10 := X1b.fz 10
   have j2 : IntKind.i64.wrap ((P.count : Int) + 1) = (P.count : Int) + 1 := by rw [IntKind.wrap_i64]; omega
   have HX1 := Lib.hid (X1b.set10 (.int .i64 ((P.count : Int) + 1)))
   have HO17 : Hid (Off (fun k => k = w.heap.size) w16 (w16.setCell ⟨w.heap.size, 10, none⟩ (.int .i64 ((P.count : Int) + 1)))) := Lib.hid ((Off.refl _ w16).setCell _ rfl)
   have HO16 := Lib.hid X1bo
   clear X1b X1bo
   go_upto_region 12 with fail
   clear y10 yz10 j2
   generalize w16.setCell ⟨w.heap.size, 10, none⟩ (.int .i64 ((P.count : Int) + 1)) = w17 at *
   have X2 := Lib.hid (X2.out.off HO17.out (by omega))
   have y0 := HX1.out.c0
   have y1 := HX1.out.c1
   have y2 := HX1.out.c2
   have y3 := HX1.out.c3
   have y4 := HX1.out.c4
   have y5 := HX1.out.c5
   have y6 := HX1.out.c6
   have y7 := HX1.out.c7
   have y8 := HX1.out.c8
   have y9 := HX1.out.c9
   have y10 := HX1.out.c10
   have y11 := HX1.out.c11
   have y12 := HX1.out.c12
   have y13 := HX1.out.c13
   have r0 := X2.out.c0
   have r1 := X2.out.c1
   have r2 := X2.out.c2
   have r3 := X2.out.c3
   have r4 := X2.out.c4
   have r5 := X2.out.c5
   have r6 := X2.out.c6
   have r7 := X2.out.c7
   have r8 := X2.out.c8
   have r9 := X2.out.c9
   have r10 := X2.out.c10
   have r11 := X2.out.c11
   have r12 := X2.out.c12
   have r13 := X2.out.c13
   have rz0 := X2.out.fz 0
   have rz1 := X2.out.fz 1
   have rz2 := X2.out.fz 2
   have rz3 := X2.out.fz 3
   have rz4 := X2.out.fz 4
   have rz5 := X2.out.fz 5
   have rz6 := X2.out.fz 6
   have rz7 := X2.out.fz 7
   have rz8 := X2.out.fz 8
   have rz9 := X2.out.fz 9
   have rz10 := X2.out.fz 10
   have rz11 := X2.out.fz 11
   have rz12 := X2.out.fz 12
   have rz13 := X2.out.fz 13
   have HSs1 := Lib.hid (X2.out.all (.slice bA3 bn3 bc3) (.slice wA3 wn3 wc3) (.bool dn3) (.int .i64 po3) (.int .i64 fa3) (.int .i64 wi3) (.int .i64 (P.base : Int)) (.int .i64 (P.pages : Int)) (.int .i64 (P.most : Int)) (.int .i64 (P.epoch : Int)) (.int .i64 ((P.count : Int) + 1)) (.int .i64 L) (.slice A3 n3 c3) (.int .i64 (P.hand : Int)))
   go_wp2_with fail
   clear r0 r1 r2 r3 r4 r5 r6 r7 r8 r9 r10 r11 r12 r13 rz0 rz1 rz2 rz3 rz4 rz5 rz6 rz7 rz8 rz9 rz10 rz11 rz12 rz13
   obtain ⟨s1, s1o⟩ := HSs1.out _ rfl
   clear HSs1
   generalize ((((((((((((((w17.setCell ⟨w.heap.size + 1, 0, none⟩ (.slice bA3 bn3 bc3)).setCell ⟨w.heap.size + 1, 1, none⟩ (.slice wA3 wn3 wc3)).setCell ⟨w.heap.size + 1, 2, none⟩ (.bool dn3)).setCell ⟨w.heap.size + 1, 3, none⟩ (.int .i64 po3)).setCell ⟨w.heap.size + 1, 4, none⟩ (.int .i64 fa3)).setCell ⟨w.heap.size + 1, 5, none⟩ (.int .i64 wi3)).setCell ⟨w.heap.size + 1, 6, none⟩ (.int .i64 (P.base : Int))).setCell ⟨w.heap.size + 1, 7, none⟩ (.int .i64 (P.pages : Int))).setCell ⟨w.heap.size + 1, 8, none⟩ (.int .i64 (P.most : Int))).setCell ⟨w.heap.size + 1, 9, none⟩ (.int .i64 (P.epoch : Int))).setCell ⟨w.heap.size + 1, 10, none⟩ (.int .i64 ((P.count : Int) + 1))).setCell ⟨w.heap.size + 1, 11, none⟩ (.int .i64 L)).setCell ⟨w.heap.size + 1, 12, none⟩ (.slice A3 n3 c3)).setCell ⟨w.heap.size + 1, 13, none⟩ (.int .i64 (P.hand : Int))) = wf at *
   clear y0 y1 y2 y3 y4 y5 y6 y7 y8 y9 y10 y11 y12 y13
   have z0 := s1.c0
   have z1 := s1.c1
   have z2 := s1.c2
   have z3 := s1.c3
   have z4 := s1.c4
   have z5 := s1.c5
   have z6 := s1.c6
   have z7 := s1.c7
   have z8 := s1.c8
   have z9 := s1.c9
   have z10 := s1.c10
   have z11 := s1.c11
   have z12 := s1.c12
   have z13 := s1.c13
   refine bodyPost_ret (v := .tuple #[.agg #[.slice bA3 bn3 bc3, .slice wA3 wn3 wc3, .bool dn3, .int .i64 po3, .int .i64 fa3, .int .i64 wi3, .int .i64 (P.base : Int), .int .i64 (P.pages : Int), .int .i64 (P.most : Int), .int .i64 (P.epoch : Int), .int .i64 ((P.count : Int) + 1), .int .i64 L, .slice A3 n3 c3, .int .i64 (P.hand : Int)], .int .i64 0]) (by simp [results, Tryz.results67, go_sem, z0, z1, z2, z3, z4, z5, z6, z7, z8, z9, z10, z11, z12, z13]) rfl ?_
   rw [HE.out]
   have hall : Off (fun k => k = w.heap.size ∨ k = w.heap.size + 1) w15 wf := ((HO16.out.mono (fun k _ e => .inl e)).trans (HO17.out.mono (fun k _ e => .inl e))).trans (s1o.mono (fun k _ e => .inr e))
   have h15 : w14.heap.size ≤ w15.heap.size := HB15.out.size
   have hb0 : Below w.heap.size w w15 := HB14.out.trans (HB15.out.mono HB14.out.size)
   have hbf : Below w.heap.size w wf := hb0.trans (hall.below (fun k e => by rcases e with e | e <;> omega) hb0.size)
   have h1314 := HO14.out.size
   have hS : ∀ k, (k = w.heap.size ∨ k = w.heap.size + 1) → ¬ plusG (plusG G w10 w11) w14 w15 k := fun k e hk => by
    rcases hk with (hk | hk) | hk
    ·have := HGl.out k hk; omega
    ·omega
    ·have := HS13.out; omega
   have hpg := plusG.in2 (G := G) HH10.out (show w11.heap.size ≤ wf.heap.size by have := HS13.out; have := hall.size; omega) HB14.out.size hall.size
   exact ⟨_, rfl, ⟨bA3, bn3, bc3, wA3, wn3, wc3, dn3, po3, fa3, wi3, _, q3, rfl, (HK3.out.off hall hS).mono hpg, (HF3.out.off hall hS).mono hpg, HQ3.out⟩, hbf⟩
  ·have t3 : (er != 0) = true := bne_iff_ne.2 her
   have HE : Hid (writeR (some L) D P i = (D2, P, er)) := Lib.hid (HWR2.out.trans (if_pos her))
   clear her HWR2
   go_upto_region 8 with fail
   have y0 := X1.out.c0
   have y1 := X1.out.c1
   have y2 := X1.out.c2
   have y3 := X1.out.c3
   have y4 := X1.out.c4
   have y5 := X1.out.c5
   have y6 := X1.out.c6
   have y7 := X1.out.c7
   have y8 := X1.out.c8
   have y9 := X1.out.c9
   have y10 := X1.out.c10
   have y11 := X1.out.c11
   have y12 := X1.out.c12
   have y13 := X1.out.c13
   have r0 := X2.out.c0
   have r1 := X2.out.c1
   have r2 := X2.out.c2
   have r3 := X2.out.c3
   have r4 := X2.out.c4
   have r5 := X2.out.c5
   have r6 := X2.out.c6
   have r7 := X2.out.c7
   have r8 := X2.out.c8
   have r9 := X2.out.c9
   have r10 := X2.out.c10
   have r11 := X2.out.c11
   have r12 := X2.out.c12
   have r13 := X2.out.c13
   have rz0 := X2.out.fz 0
   have rz1 := X2.out.fz 1
   have rz2 := X2.out.fz 2
   have rz3 := X2.out.fz 3
   have rz4 := X2.out.fz 4
   have rz5 := X2.out.fz 5
   have rz6 := X2.out.fz 6
   have rz7 := X2.out.fz 7
   have rz8 := X2.out.fz 8
   have rz9 := X2.out.fz 9
   have rz10 := X2.out.fz 10
   have rz11 := X2.out.fz 11
   have rz12 := X2.out.fz 12
   have rz13 := X2.out.fz 13
   have HSs1 := Lib.hid (X2.out.all (.slice bA2 bn2 bc2) (.slice wA2 wn2 wc2) (.bool dn2) (.int .i64 po2) (.int .i64 fa2) (.int .i64 wi2) (.int .i64 (P.base : Int)) (.int .i64 (P.pages : Int)) (.int .i64 (P.most : Int)) (.int .i64 (P.epoch : Int)) (.int .i64 (P.count : Int)) (.int .i64 L) (.slice (some ⟨fg, 0, none⟩) n c) (.int .i64 (P.hand : Int)))
   go_wp2_with fail
   clear r0 r1 r2 r3 r4 r5 r6 r7 r8 r9 r10 r11 r12 r13 rz0 rz1 rz2 rz3 rz4 rz5 rz6 rz7 rz8 rz9 rz10 rz11 rz12 rz13
   obtain ⟨s1, s1o⟩ := HSs1.out _ rfl
   clear HSs1
   generalize ((((((((((((((w13.setCell ⟨w.heap.size + 1, 0, none⟩ (.slice bA2 bn2 bc2)).setCell ⟨w.heap.size + 1, 1, none⟩ (.slice wA2 wn2 wc2)).setCell ⟨w.heap.size + 1, 2, none⟩ (.bool dn2)).setCell ⟨w.heap.size + 1, 3, none⟩ (.int .i64 po2)).setCell ⟨w.heap.size + 1, 4, none⟩ (.int .i64 fa2)).setCell ⟨w.heap.size + 1, 5, none⟩ (.int .i64 wi2)).setCell ⟨w.heap.size + 1, 6, none⟩ (.int .i64 (P.base : Int))).setCell ⟨w.heap.size + 1, 7, none⟩ (.int .i64 (P.pages : Int))).setCell ⟨w.heap.size + 1, 8, none⟩ (.int .i64 (P.most : Int))).setCell ⟨w.heap.size + 1, 9, none⟩ (.int .i64 (P.epoch : Int))).setCell ⟨w.heap.size + 1, 10, none⟩ (.int .i64 (P.count : Int))).setCell ⟨w.heap.size + 1, 11, none⟩ (.int .i64 L)).setCell ⟨w.heap.size + 1, 12, none⟩ (.slice (some ⟨fg, 0, none⟩) n c)).setCell ⟨w.heap.size + 1, 13, none⟩ (.int .i64 (P.hand : Int))) = wf at *
   clear y0 y1 y2 y3 y4 y5 y6 y7 y8 y9 y10 y11 y12 y13
   have z0 := s1.c0
   have z1 := s1.c1
   have z2 := s1.c2
   have z3 := s1.c3
   have z4 := s1.c4
   have z5 := s1.c5
   have z6 := s1.c6
   have z7 := s1.c7
   have z8 := s1.c8
   have z9 := s1.c9
   have z10 := s1.c10
   have z11 := s1.c11
   have z12 := s1.c12
   have z13 := s1.c13
   refine bodyPost_ret (v := .tuple #[pV bA2 bn2 bc2 wA2 wn2 wc2 dn2 po2 fa2 wi2 P L (.slice (some ⟨fg, 0, none⟩) n c), .int .i64 er]) (by simp [results, Tryz.results67, go_sem, z0, z1, z2, z3, z4, z5, z6, z7, z8, z9, z10, z11, z12, z13]) rfl ?_
   rw [HE.out]
   have hbf : Below w.heap.size w wf := HB13.out.trans (s1o.below (fun k e => by omega) HB13.out.size)
   have HRKf := HRK.out.off s1o (fun k e hk => by
    rcases hk with hk | hk
    ·have := HGl.out k hk; omega
    ·omega)
   exact ⟨_, rfl, ⟨bA2, bn2, bc2, wA2, wn2, wc2, dn2, po2, fa2, wi2, _, q, rfl, HRKf.mono (plusG.in HH10.out (Nat.le_trans HS13.out s1o.size)), by rw [HN.out]; exact (HFG.out.below hbf).mono (fun k e => .inl e), HQF.out⟩, hbf⟩
end Go.Proofs.YtmdgnjmhbjdlmaaGreat

/-! PrD -/
namespace Go.Proofs.YtmdgnjmhbjdlmaaGreat
open Go Go.RowKit
theorem fit48 (m : Nat) (h : m ≤ 256) : (m + m / 4 + 256) * 48 ≤ 281474976710656 := by omega
set_option maxRecDepth 100000 in
set_option maxHeartbeats 8000000 in
theorem rHold_room {G : Nat → Prop} {w : World} {v : Value} {D : DiskS} {P : PoS} {L : Int} (h : RP G w v D P L) (hG : ∀ k, G k → k < w.heap.size) (f : FrS) (u : Value) (hu : OB w 0 u f.pay) (hug : ∀ k, u.ownBlock = some k → G k) (hm : P.most ≤ 256) (hr : P.fr.length < P.most) :
  Calls Tryz.prog 62 #[v, .agg #[.int .i64 (f.page : Int), u, .int .i64 f.lsn, .bool f.dirty, .bool f.used]] w fun e w' => ∃ v', e = .returned (.tuple #[v', .int .i64 0]) ∧ RP (plusG G w w') w' v' D (pushP P f) L ∧ Below w.heap.size w w' := by
 obtain ⟨bA, bn, bc, wA, wn, wc, dn, po, fa, wi, fv, q, rfl, h1, h2, h3⟩ := h
 have hlen : P.fr.length = q.length := by rw [← h3, List.length_map]
 obtain ⟨A, c, rfl, hc1, hc2, hA⟩ := h2.form
 obtain ⟨Au, cu, rfl, _, _, _⟩ := hu.form
 have HT := Lib.hid (three145 w (.slice bA bn bc) (.slice wA wn wc) (.bool dn) (.int .i64 po) (.int .i64 fa) (.int .i64 wi) (.int .i64 (P.base : Int)) (.int .i64 (P.pages : Int)) (.int .i64 (P.most : Int)) (.int .i64 (P.epoch : Int)) (.int .i64 (P.count : Int)) (.int .i64 L) (.slice A q.length c) (.int .i64 (P.hand : Int)) (.int .i64 (f.page : Int)) (.slice Au f.pay.length cu) (.int .i64 f.lsn) (.bool f.dirty) (.bool f.used))
 have HK := Lib.hid h1
 have HFG := Lib.hid h2
 have HQF := Lib.hid h3
 have HGl := Lib.hid hG
 have HU := Lib.hid hu
 have HUG := Lib.hid hug
 obtain ⟨n, hn⟩ : ∃ n, n = q.length := ⟨_, rfl⟩
 have hnm : n < P.most := by omega
 have hn6 : n < 256 := by omega
 have HN := Lib.hid hn
 rw [← hn] at HT ⊢
 have t1 : decide (n < P.most) = true := decide_eq_true hnm
 have t2 : decide ((n : Int) < (P.most : Int)) = true := decide_eq_true (by omega)
 clear h1 h2 h3 hG hu hug hlen hn hc1 hc2 hA hr hm hnm
 go_enter Tryz.func62, Tryz.ntmps62
 go_upto_region 1 with fail
 obtain ⟨x1, x2, x3, hb, hs⟩ := HT.out _ rfl
 clear HT
 generalize ((w.alloc (.cells #[.slice bA bn bc, .slice wA wn wc, .bool dn, .int .i64 po, .int .i64 fa, .int .i64 wi, .int .i64 (P.base : Int), .int .i64 (P.pages : Int), .int .i64 (P.most : Int), .int .i64 (P.epoch : Int), .int .i64 (P.count : Int), .int .i64 L, .slice A n c, .int .i64 (P.hand : Int)] 42)).alloc (.cells #[.int .i64 (f.page : Int), .slice Au f.pay.length cu, .int .i64 f.lsn, .bool f.dirty, .bool f.used] 98)).alloc (.cells #[.slice none 0 0, .slice none 0 0, .bool false, .int .i64 0, .int .i64 0, .int .i64 0, .int .i64 0, .int .i64 0, .int .i64 0, .int .i64 0, .int .i64 0, .int .i64 0, .slice none 0 0, .int .i64 0] 42) = w1 at *
 have HX2 := Lib.hid x2
 have HX3 := Lib.hid x3
 have HX1 := Lib.hid x1
 have HB := Lib.hid hb
 have HS1 := Lib.hid hs
 have y12 := x1.c12
 have y8 := x1.c8
 have HROW : Hid (Rd w1 5 A n (q.flatMap EF)) := Lib.hid (by rw [HN.out]; exact Rd.of_own (HFG.out.below HB.out).tk)
 have HON := Lib.hid (own2 HFG.out)
 obtain ⟨i3, z3, hi3, hz3, hzc, hsz, hby⟩ := info_rframe
 have hbt : (0 + n + (0 + n) / 4 + 256) * 48 ≤ 281474976710656 := by omega
 have hbt2 : (n + 1 + (n + 1) / 4 + 256) * 48 ≤ 281474976710656 := fit48 _ (Nat.succ_le_of_lt hn6)
 have hmx : 0 + n ≤ maxLen := by simp only [maxLen]; omega
 have hmx2 : n + 1 ≤ maxLen := by simp only [maxLen]; omega
 clear x1 x2 x3 hb hs
 go_upto_region 3 with fail
 go_upto_region 4 with (at_builtin; refine wpList_append_Rd _ rfl (.tmp 16) (.tmp 18) _ rfl w1.heap.size 98 i3 z3 5 48 Tryz.underlying40 hi3 hz3 hsz hby hzc (.slice none 0 0) 0 [] rfl ⟨rfl, .inl ⟨rfl, rfl⟩⟩ A n c _ rfl HROW.out HON.out hbt hmx (Nat.le_refl _) ?_; intro v4 w4 hown4 hg4 _ hbl4)
 rw [Nat.zero_add, List.nil_append] at hown4
 have HB4 : Hid (Below w1.heap.size w1 w4) := Lib.hid ⟨hg4.os, hg4.tape, hg4.output, hg4.size, fun k hk => hg4.block k hk (by simp [Value.ownBlock])⟩
 obtain ⟨A4, c4, rfl, _, _⟩ := own_form hown4
 have X2 := Lib.hid (HX2.out.below HB4.out)
 have HOWN5 : Hid ((w4.alloc (.cells #[.int .i64 (f.page : Int), .slice Au f.pay.length cu, .int .i64 f.lsn, .bool f.dirty, .bool f.used] 98)).ownsRow w1.heap.size 98 5 (.slice A4 n c4) n (q.flatMap EF)) := Lib.hid (ownsRow_off hown4 (Off.of_below (S := fun _ => False) (gr_alloc (gr_refl w4) _)) (fun _ _ h => h))
 have HRN : Hid (Rd (w4.alloc (.cells #[.int .i64 (f.page : Int), .slice Au f.pay.length cu, .int .i64 f.lsn, .bool f.dirty, .bool f.used] 98)) 5 (some ⟨w4.heap.size, 0, none⟩) 1 [.int .i64 (f.page : Int), .slice Au f.pay.length cu, .int .i64 f.lsn, .bool f.dirty, .bool f.used]) := Lib.hid (Rd.new w4 98 #[.int .i64 (f.page : Int), .slice Au f.pay.length cu, .int .i64 f.lsn, .bool f.dirty, .bool f.used] 1 5 rfl)
 have HB5 : Hid (Below w1.heap.size w1 (w4.alloc (.cells #[.int .i64 (f.page : Int), .slice Au f.pay.length cu, .int .i64 f.lsn, .bool f.dirty, .bool f.used] 98))) := Lib.hid (gr_alloc HB4.out _)
 have HON5 : Hid (∀ u ∈ ([.int .i64 (f.page : Int), .slice Au f.pay.length cu, .int .i64 f.lsn, .bool f.dirty, .bool f.used] : List Value), u.oneCell' = true) := Lib.hid (by
  intro u hu
  simp only [List.mem_cons, List.not_mem_nil, or_false] at hu
  rcases hu with rfl | rfl | rfl | rfl | rfl <;> rfl)
 have HBX : ∀ {w6 : World}, (w4.alloc (.cells #[.int .i64 (f.page : Int), .slice Au f.pay.length cu, .int .i64 f.lsn, .bool f.dirty, .bool f.used] 98)).grownBy w6 (Value.slice A4 n c4).ownBlock → B14 w6 w.heap.size (.slice bA bn bc) (.slice wA wn wc) (.bool dn) (.int .i64 po) (.int .i64 fa) (.int .i64 wi) (.int .i64 (P.base : Int)) (.int .i64 (P.pages : Int)) (.int .i64 (P.most : Int)) (.int .i64 (P.epoch : Int)) (.int .i64 (P.count : Int)) (.int .i64 L) (.slice A n c) (.int .i64 (P.hand : Int)) := fun hg => (HX1.out.below HB5.out).off (Off.of_grown (S := fun k => (Value.slice A4 n c4).ownBlock = some k) hg (fun k e => e)) (fun e => by have := (HOWN5.out.lt _ e).1; have := HS1.out; omega)
 have e0 := X2.out.c0
 have e1 := X2.out.c1
 have e2 := X2.out.c2
 have e3 := X2.out.c3
 have e4 := X2.out.c4
 clear hown4 hg4 hbl4 y12 y8 HROW HON hmx hbt
 go_upto_region 5 with (at_builtin; refine wpList_append_Rd _ rfl (.tmp 20) (.tmp 22) _ rfl w1.heap.size 98 i3 z3 5 48 Tryz.underlying40 hi3 hz3 hsz hby hzc (.slice A4 n c4) n (q.flatMap EF) rfl HOWN5.out (some ⟨w4.heap.size, 0, none⟩) 1 1 [.int .i64 (f.page : Int), .slice Au f.pay.length cu, .int .i64 f.lsn, .bool f.dirty, .bool f.used] rfl HRN.out HON5.out hbt2 hmx2 HB5.out.size ?_; intro v6 w6 hown6 hg6 _ hbl6; obtain ⟨A6, c6, rfl, _, _⟩ := own_form hown6; have y12 := (HBX hg6).c12; have yz12 := (HBX hg6).fz 12)
 clear HRN HON5 e0 e1 e2 e3 e4 X2
 have HO6 : Hid (Off (fun k => (Value.slice A4 n c4).ownBlock = some k) (w4.alloc (.cells #[.int .i64 (f.page : Int), .slice Au f.pay.length cu, .int .i64 f.lsn, .bool f.dirty, .bool f.used] 98)) w6) := Lib.hid (Off.of_grown hg6 (fun k e => e))
 have HA4 : Hid (∀ k, (Value.slice A4 n c4).ownBlock = some k → w1.heap.size ≤ k) := Lib.hid fun k e => (HOWN5.out.lt k e).1
 generalize w4.alloc (.cells #[.int .i64 (f.page : Int), .slice Au f.pay.length cu, .int .i64 f.lsn, .bool f.dirty, .bool f.used] 98) = w5 at *
 have HBW5 : Hid (Below w.heap.size w w5) := Lib.hid (HB.out.trans (HB5.out.mono HB.out.size))
 have HBW : Hid (Below w.heap.size w w6) := Lib.hid (HBW5.out.trans (HO6.out.below (fun k e => Nat.le_trans HB.out.size (HA4.out k e)) HBW5.out.size))
 have X1 := Lib.hid ((HX1.out.below HB5.out).off HO6.out (fun e => by have := HA4.out _ e; have := HS1.out; omega))
 have X3 := Lib.hid ((HX3.out.below HB5.out).off HO6.out (fun e => by have := HA4.out _ e; have := HS1.out; omega))
 have HOWN6 := Lib.hid hown6
 have HX1b := Lib.hid (X1.out.set12 (.slice A6 (n + 1) c6))
 have HO7 : Hid (Off (fun k => k = w.heap.size) w6 (w6.setCell ⟨w.heap.size, 12, none⟩ (.slice A6 (n + 1) c6))) := Lib.hid ((Off.refl _ w6).setCell _ rfl)
 clear hown6 hg6 hbl6 HOWN5 HX1 HX2 HX3 HB4 y12 yz12 X1 HBX
 generalize w6.setCell ⟨w.heap.size, 12, none⟩ (.slice A6 (n + 1) c6) = w7 at *
 have X3b := Lib.hid (X3.out.off HO7.out (by omega))
 have y0 := HX1b.out.c0
 have y1 := HX1b.out.c1
 have y2 := HX1b.out.c2
 have y3 := HX1b.out.c3
 have y4 := HX1b.out.c4
 have y5 := HX1b.out.c5
 have y6 := HX1b.out.c6
 have y7 := HX1b.out.c7
 have y8 := HX1b.out.c8
 have y9 := HX1b.out.c9
 have y10 := HX1b.out.c10
 have y11 := HX1b.out.c11
 have y12 := HX1b.out.c12
 have y13 := HX1b.out.c13
 have r0 := X3b.out.c0
 have r1 := X3b.out.c1
 have r2 := X3b.out.c2
 have r3 := X3b.out.c3
 have r4 := X3b.out.c4
 have r5 := X3b.out.c5
 have r6 := X3b.out.c6
 have r7 := X3b.out.c7
 have r8 := X3b.out.c8
 have r9 := X3b.out.c9
 have r10 := X3b.out.c10
 have r11 := X3b.out.c11
 have r12 := X3b.out.c12
 have r13 := X3b.out.c13
 have rz0 := X3b.out.fz 0
 have rz1 := X3b.out.fz 1
 have rz2 := X3b.out.fz 2
 have rz3 := X3b.out.fz 3
 have rz4 := X3b.out.fz 4
 have rz5 := X3b.out.fz 5
 have rz6 := X3b.out.fz 6
 have rz7 := X3b.out.fz 7
 have rz8 := X3b.out.fz 8
 have rz9 := X3b.out.fz 9
 have rz10 := X3b.out.fz 10
 have rz11 := X3b.out.fz 11
 have rz12 := X3b.out.fz 12
 have rz13 := X3b.out.fz 13
 have HSs1 := Lib.hid (X3b.out.all (.slice bA bn bc) (.slice wA wn wc) (.bool dn) (.int .i64 po) (.int .i64 fa) (.int .i64 wi) (.int .i64 (P.base : Int)) (.int .i64 (P.pages : Int)) (.int .i64 (P.most : Int)) (.int .i64 (P.epoch : Int)) (.int .i64 (P.count : Int)) (.int .i64 L) (.slice A6 (n + 1) c6) (.int .i64 (P.hand : Int)))
 go_wp2_with fail
 clear r0 r1 r2 r3 r4 r5 r6 r7 r8 r9 r10 r11 r12 r13 rz0 rz1 rz2 rz3 rz4 rz5 rz6 rz7 rz8 rz9 rz10 rz11 rz12 rz13
 obtain ⟨s1, s1o⟩ := HSs1.out _ rfl
 clear HSs1
 generalize ((((((((((((((w7.setCell ⟨w.heap.size + 2, 0, none⟩ (.slice bA bn bc)).setCell ⟨w.heap.size + 2, 1, none⟩ (.slice wA wn wc)).setCell ⟨w.heap.size + 2, 2, none⟩ (.bool dn)).setCell ⟨w.heap.size + 2, 3, none⟩ (.int .i64 po)).setCell ⟨w.heap.size + 2, 4, none⟩ (.int .i64 fa)).setCell ⟨w.heap.size + 2, 5, none⟩ (.int .i64 wi)).setCell ⟨w.heap.size + 2, 6, none⟩ (.int .i64 (P.base : Int))).setCell ⟨w.heap.size + 2, 7, none⟩ (.int .i64 (P.pages : Int))).setCell ⟨w.heap.size + 2, 8, none⟩ (.int .i64 (P.most : Int))).setCell ⟨w.heap.size + 2, 9, none⟩ (.int .i64 (P.epoch : Int))).setCell ⟨w.heap.size + 2, 10, none⟩ (.int .i64 (P.count : Int))).setCell ⟨w.heap.size + 2, 11, none⟩ (.int .i64 L)).setCell ⟨w.heap.size + 2, 12, none⟩ (.slice A6 (n + 1) c6)).setCell ⟨w.heap.size + 2, 13, none⟩ (.int .i64 (P.hand : Int))) = wf at *
 clear y0 y1 y2 y3 y4 y5 y6 y7 y8 y9 y10 y11 y12 y13
 have z0 := s1.c0
 have z1 := s1.c1
 have z2 := s1.c2
 have z3 := s1.c3
 have z4 := s1.c4
 have z5 := s1.c5
 have z6 := s1.c6
 have z7 := s1.c7
 have z8 := s1.c8
 have z9 := s1.c9
 have z10 := s1.c10
 have z11 := s1.c11
 have z12 := s1.c12
 have z13 := s1.c13
 refine bodyPost_ret (v := .tuple #[.agg #[.slice bA bn bc, .slice wA wn wc, .bool dn, .int .i64 po, .int .i64 fa, .int .i64 wi, .int .i64 (P.base : Int), .int .i64 (P.pages : Int), .int .i64 (P.most : Int), .int .i64 (P.epoch : Int), .int .i64 (P.count : Int), .int .i64 L, .slice A6 (n + 1) c6, .int .i64 (P.hand : Int)], .int .i64 0]) (by simp [results, Tryz.results62, go_sem, z0, z1, z2, z3, z4, z5, z6, z7, z8, z9, z10, z11, z12, z13]) rfl ?_
 have hof : Off (fun k => k = w.heap.size ∨ k = w.heap.size + 2) w6 wf := (HO7.out.mono (fun k _ e => .inl e)).trans (s1o.mono (fun k _ e => .inr e))
 have hbf : Below w.heap.size w wf := HBW.out.trans (hof.below (fun k e => by rcases e with e | e <;> omega) HBW.out.size)
 have hs := HS1.out
 have htk : EO EF 5 98 w6 w1.heap.size (.slice A6 (n + 1) c6) (q ++ [(f, Value.slice Au f.pay.length cu)]) := by
  have h6 := HOWN6.out
  rw [HN.out] at h6 ⊢
  exact EO.snoc (x := (f, Value.slice Au f.pay.length cu)) h6 rfl
 refine ⟨_, rfl, ⟨bA, bn, bc, wA, wn, wc, dn, po, fa, wi, _, q ++ [(f, Value.slice Au f.pay.length cu)], rfl, (HK.out.below hbf).mono (fun k e => .inl e), ⟨?_, fun k e => ?_, fun x hx => ?_, fun x hx k e => ?_⟩, ?_⟩, hbf⟩
 ·refine ownsRow_off (own_lower htk (Nat.zero_le _)) hof (fun k e e2 => ?_)
  have := (htk.lt k e).1
  rcases e2 with e2 | e2 <;> omega
 ·have := htk.lt k e
  exact .inr ⟨by omega, Nat.lt_of_lt_of_le this.2 hof.size⟩
 ·rcases List.mem_append.1 hx with hx | hx
  ·exact (HFG.out.pv x hx).below hbf
  ·rw [List.mem_singleton.1 hx]; exact HU.out.below hbf
 ·rcases List.mem_append.1 hx with hx | hx
  ·exact .inl (HFG.out.pg x hx k e)
  ·rw [List.mem_singleton.1 hx] at e; exact .inl (HUG.out k e)
 ·show (q ++ [(f, _)]).map Prod.fst = P.fr ++ [f]
  rw [List.map_append, HQF.out]; rfl
end Go.Proofs.YtmdgnjmhbjdlmaaGreat

/-! PrE -/
namespace Go.Proofs.YtmdgnjmhbjdlmaaGreat
open Go Go.RowKit
theorem rWith_pv {G : Nat → Prop} {W : World} {D : DiskS} {L : Int} {bA wA A : Option Addr} {bn bc wn wc n c : Nat} {dn : Bool} {po fa wi : Int} {xb xp xm xe xc xh : Nat} {q : List FV} {fr : List FrS} (hk : RK G W (.agg #[.slice bA bn bc, .slice wA wn wc, .bool dn, .int .i64 po, .int .i64 fa, .int .i64 wi]) D) (hf : FG G W (.slice A n c) q) (hq : q.map Prod.fst = fr) (hG : ∀ k, G k → k < W.heap.size) (i : Nat) (hi : i < fr.length) (f : FrS) (u : Value) (hu : OB W 0 u f.pay) (hug : ∀ k, u.ownBlock = some k → G k) (hm : fr.length ≤ 256) :
  Calls Tryz.prog 59 #[.agg #[.slice bA bn bc, .slice wA wn wc, .bool dn, .int .i64 po, .int .i64 fa, .int .i64 wi, .int .i64 (xb : Int), .int .i64 (xp : Int), .int .i64 (xm : Int), .int .i64 (xe : Int), .int .i64 (xc : Int), .int .i64 L, .slice A n c, .int .i64 (xh : Int)], .int .i64 (i : Int), .agg #[.int .i64 (f.page : Int), u, .int .i64 f.lsn, .bool f.dirty, .bool f.used]] W fun e W' => ∃ bA2 bn2 bc2 wA2 wn2 wc2 dn2 po2 fa2 wi2 A2 n2 c2 q2, e = .returned (.agg #[.slice bA2 bn2 bc2, .slice wA2 wn2 wc2, .bool dn2, .int .i64 po2, .int .i64 fa2, .int .i64 wi2, .int .i64 (xb : Int), .int .i64 (xp : Int), .int .i64 (xm : Int), .int .i64 (xe : Int), .int .i64 (xc : Int), .int .i64 L, .slice A2 n2 c2, .int .i64 (xh : Int)]) ∧ RK (plusG G W W') W' (.agg #[.slice bA2 bn2 bc2, .slice wA2 wn2 wc2, .bool dn2, .int .i64 po2, .int .i64 fa2, .int .i64 wi2]) D ∧ FG (plusG G W W') W' (.slice A2 n2 c2) q2 ∧ n2 = q2.length ∧ q2.map Prod.fst = fr.set i f ∧ Below W.heap.size W W' := by
 refine (rWith_any (v := .agg #[.slice bA bn bc, .slice wA wn wc, .bool dn, .int .i64 po, .int .i64 fa, .int .i64 wi, .int .i64 (xb : Int), .int .i64 (xp : Int), .int .i64 (xm : Int), .int .i64 (xe : Int), .int .i64 (xc : Int), .int .i64 L, .slice A n c, .int .i64 (xh : Int)]) (P := ⟨xb, xp, xm, xe, xc, fr, xh⟩) (L := L) ⟨bA, bn, bc, wA, wn, wc, dn, po, fa, wi, .slice A n c, q, rfl, hk, hf, hq⟩ hG i hi f u hu hug hm).mono ?_
 rintro e w' ⟨v', rfl, ⟨a1, a2, a3, a4, a5, a6, a7, a8, a9, a10, fv3, q3, rfl, h1, h2, h3⟩, hb⟩
 obtain ⟨A3, c3, rfl, _⟩ := h2.form
 exact ⟨a1, a2, a3, a4, a5, a6, a7, a8, a9, a10, A3, _, c3, q3, rfl, h1, h2, rfl, h3, hb⟩
theorem rWrite_pv {G : Nat → Prop} {W : World} {D : DiskS} {L : Int} {bA wA A : Option Addr} {bn bc wn wc n c : Nat} {dn : Bool} {po fa wi : Int} {xb xp xm xe xc xh : Nat} {q : List FV} {fr : List FrS} (hk : RK G W (.agg #[.slice bA bn bc, .slice wA wn wc, .bool dn, .int .i64 po, .int .i64 fa, .int .i64 wi]) D) (hf : FG G W (.slice A n c) q) (hq : q.map Prod.fst = fr) (hG : ∀ k, G k → k < W.heap.size) (hpi : PI D ⟨xb, xp, xm, xe, xc, fr, xh⟩) (hdn : DN D) (hpd : D.pending.length ≤ 1000000) (hct : xc ≤ 1152921504606846976) (i : Nat) (hi : i < fr.length) {D4 : DiskS} {P4 : PoS} {e4 : Int} (hr : (D4, P4, e4) = writeR (some L) D ⟨xb, xp, xm, xe, xc, fr, xh⟩ i) :
  Calls Tryz.prog 67 #[.agg #[.slice bA bn bc, .slice wA wn wc, .bool dn, .int .i64 po, .int .i64 fa, .int .i64 wi, .int .i64 (xb : Int), .int .i64 (xp : Int), .int .i64 (xm : Int), .int .i64 (xe : Int), .int .i64 (xc : Int), .int .i64 L, .slice A n c, .int .i64 (xh : Int)], .int .i64 (i : Int)] W fun e W' => ∃ bA2 bn2 bc2 wA2 wn2 wc2 dn2 po2 fa2 wi2 A2 n2 c2 q2, e = .returned (.tuple #[.agg #[.slice bA2 bn2 bc2, .slice wA2 wn2 wc2, .bool dn2, .int .i64 po2, .int .i64 fa2, .int .i64 wi2, .int .i64 (P4.base : Int), .int .i64 (P4.pages : Int), .int .i64 (P4.most : Int), .int .i64 (P4.epoch : Int), .int .i64 (P4.count : Int), .int .i64 L, .slice A2 n2 c2, .int .i64 (P4.hand : Int)], .int .i64 e4]) ∧ RK (plusG G W W') W' (.agg #[.slice bA2 bn2 bc2, .slice wA2 wn2 wc2, .bool dn2, .int .i64 po2, .int .i64 fa2, .int .i64 wi2]) D4 ∧ FG (plusG G W W') W' (.slice A2 n2 c2) q2 ∧ n2 = q2.length ∧ q2.map Prod.fst = P4.fr ∧ Below W.heap.size W W' := by
 refine (rWrite_any (v := .agg #[.slice bA bn bc, .slice wA wn wc, .bool dn, .int .i64 po, .int .i64 fa, .int .i64 wi, .int .i64 (xb : Int), .int .i64 (xp : Int), .int .i64 (xm : Int), .int .i64 (xe : Int), .int .i64 (xc : Int), .int .i64 L, .slice A n c, .int .i64 (xh : Int)]) (P := ⟨xb, xp, xm, xe, xc, fr, xh⟩) (L := L) ⟨bA, bn, bc, wA, wn, wc, dn, po, fa, wi, .slice A n c, q, rfl, hk, hf, hq⟩ hG hpi hdn hpd hct i hi).mono ?_
 rw [← hr]
 rintro e w' ⟨v', rfl, ⟨a1, a2, a3, a4, a5, a6, a7, a8, a9, a10, fv3, q3, rfl, h1, h2, h3⟩, hb⟩
 obtain ⟨A3, c3, rfl, _⟩ := h2.form
 exact ⟨a1, a2, a3, a4, a5, a6, a7, a8, a9, a10, A3, _, c3, q3, rfl, h1, h2, rfl, h3, hb⟩
theorem usedR {w : World} {g c : Nat} {q : List FV} (h : EO EF 5 98 w 0 (.slice (some ⟨g, 0, none⟩) q.length c) q) : usedW w g q.length = usedN (q.map Prod.fst) := by
 unfold usedW usedN
 rw [← countP_range (fun f => f.used) fr0 (q.map Prod.fst), List.length_map]
 refine List.countP_congr fun i hi => ?_
 have hi2 : i < q.length := List.mem_range.1 hi
 have hq : q[i]? = some q[i] := List.getElem?_eq_getElem hi2
 rw [(rf_cells h hq).2.2.2.2, List.getD_eq_getElem?_getD, List.getElem?_map, hq]
 rfl
def rUsed (w : World) (b : Nat) : Nat := match w.cell? ⟨b, 12, none⟩ with
 | some (.slice (some ⟨g, _, _⟩) n _) => usedW w g n
 | _ => 0
theorem rUsed_of {w : World} {b : Nat} {G : Nat → Prop} {q : List FV} {A : Option Addr} {n c : Nat} (hc : w.cell? ⟨b, 12, none⟩ = some (.slice A n c)) (hf : FG G w (.slice A n c) q) (hn : n = q.length) (h0 : 0 < n) : rUsed w b = usedN (q.map Prod.fst) := by
 subst hn
 obtain ⟨A', c', e, _, _, hA⟩ := hf.form
 injection e with e1 _ _
 obtain ⟨g, e2, _, _⟩ := hA h0
 rw [e1, e2] at hc hf
 unfold rUsed
 rw [hc]
 exact usedR hf.tk
def RB (G : Nat → Prop) (w : World) (b : Nat) (D : DiskS) (P : PoS) (fr : List FrS) (hd : Nat) (L : Int) : Prop :=
 ∃ bA bn bc wA wn wc dn po fa wi A n c q, B14 w b (.slice bA bn bc) (.slice wA wn wc) (.bool dn) (.int .i64 po) (.int .i64 fa) (.int .i64 wi) (.int .i64 (P.base : Int)) (.int .i64 (P.pages : Int)) (.int .i64 (P.most : Int)) (.int .i64 (P.epoch : Int)) (.int .i64 (P.count : Int)) (.int .i64 L) (.slice A n c) (.int .i64 (hd : Int)) ∧ RK G w (.agg #[.slice bA bn bc, .slice wA wn wc, .bool dn, .int .i64 po, .int .i64 fa, .int .i64 wi]) D ∧ FG G w (.slice A n c) q ∧ n = q.length ∧ q.map Prod.fst = fr
set_option maxRecDepth 100000 in
set_option maxHeartbeats 16000000 in
theorem rHold_full {G : Nat → Prop} {w : World} {v : Value} {D : DiskS} {P : PoS} {L : Int} (h : RP G w v D P L) (hG : ∀ k, G k → k < w.heap.size) (hpi : PI D P) (hdn : DN D) (hpd : D.pending.length ≤ 1000000) (hct : P.count ≤ 1152921504606846976) (f : FrS) (u : Value) (hu : OB w 0 u f.pay) (hug : ∀ k, u.ownBlock = some k → G k) (hr : P.fr.length = P.most) :
  Calls Tryz.prog 62 #[v, .agg #[.int .i64 (f.page : Int), u, .int .i64 f.lsn, .bool f.dirty, .bool f.used]] w fun e w' => ∃ v', e = .returned (.tuple #[v', .int .i64 (holdR (some L) D P f).2.2]) ∧ RP (plusG G w w') w' v' (holdR (some L) D P f).1 (holdR (some L) D P f).2.1 L ∧ Below w.heap.size w w' := by
 obtain ⟨bA, bn, bc, wA, wn, wc, dn, po, fa, wi, fv, q, rfl, h1, h2, h3⟩ := h
 have hlen : P.fr.length = q.length := by rw [← h3, List.length_map]
 obtain ⟨A, c, rfl, hc1, hc2, hA⟩ := h2.form
 obtain ⟨Au, cu, rfl, _, _, _⟩ := hu.form
 have HT := Lib.hid (three145 w (.slice bA bn bc) (.slice wA wn wc) (.bool dn) (.int .i64 po) (.int .i64 fa) (.int .i64 wi) (.int .i64 (P.base : Int)) (.int .i64 (P.pages : Int)) (.int .i64 (P.most : Int)) (.int .i64 (P.epoch : Int)) (.int .i64 (P.count : Int)) (.int .i64 L) (.slice A q.length c) (.int .i64 (P.hand : Int)) (.int .i64 (f.page : Int)) (.slice Au f.pay.length cu) (.int .i64 f.lsn) (.bool f.dirty) (.bool f.used))
 have HK := Lib.hid h1
 have HFG := Lib.hid h2
 have HQF := Lib.hid h3
 have HGl := Lib.hid hG
 have HU0 := Lib.hid hu
 have HUG := Lib.hid hug
 have HPI := Lib.hid hpi
 have HDN := Lib.hid hdn
 have HPD := Lib.hid hpd
 have HCT := Lib.hid hct
 have HMM : Hid (2 ≤ P.most ∧ P.most ≤ 256 ∧ P.fr.length = P.most ∧ P.hand < P.most) := Lib.hid ⟨hpi.m1, hpi.m2, hr, hpi.hd⟩
 obtain ⟨n, hn⟩ : ∃ n, n = q.length := ⟨_, rfl⟩
 have HN := Lib.hid hn
 have t1 : decide (n < P.most) = false := decide_eq_false (by omega)
 have t2 : decide ((n : Int) < (P.most : Int)) = false := decide_eq_false (by omega)
 rw [← hn] at HT ⊢
 have i0m : ¬ ((P.most : Int) = 0) := by have := hpi.m1; omega
 clear h1 h2 h3 hG hu hug hlen hn hc1 hc2 hA hr hpi hdn hpd hct
 go_enter Tryz.func62, Tryz.ntmps62
 go_upto_region 1 with fail
 obtain ⟨x1, x2, x3, hb, hs⟩ := HT.out _ rfl
 clear HT
 generalize ((w.alloc (.cells #[.slice bA bn bc, .slice wA wn wc, .bool dn, .int .i64 po, .int .i64 fa, .int .i64 wi, .int .i64 (P.base : Int), .int .i64 (P.pages : Int), .int .i64 (P.most : Int), .int .i64 (P.epoch : Int), .int .i64 (P.count : Int), .int .i64 L, .slice A n c, .int .i64 (P.hand : Int)] 42)).alloc (.cells #[.int .i64 (f.page : Int), .slice Au f.pay.length cu, .int .i64 f.lsn, .bool f.dirty, .bool f.used] 98)).alloc (.cells #[.slice none 0 0, .slice none 0 0, .bool false, .int .i64 0, .int .i64 0, .int .i64 0, .int .i64 0, .int .i64 0, .int .i64 0, .int .i64 0, .int .i64 0, .int .i64 0, .slice none 0 0, .int .i64 0] 42) = w1 at *
 have HX2 := Lib.hid x2
 have HX3 := Lib.hid x3
 have HB := Lib.hid hb
 have HS1 := Lib.hid hs
 have HRB : Hid (RB (plusG G w1 w1) w1 w.heap.size D P P.fr P.hand L) := Lib.hid ⟨bA, bn, bc, wA, wn, wc, dn, po, fa, wi, A, n, c, q, x1, (HK.out.below hb).mono (fun k e => .inl e), by rw [HN.out]; exact (HFG.out.below hb).mono (fun k e => .inl e), HN.out, HQF.out⟩
 have y12 := x1.c12
 have y8 := x1.c8
 clear x1 x2 x3 hb hs
 go_upto_region 6 with fail
 clear y12 y8 t1 t2
 go_loopw [] (fun wr => ∃ (fr : List FrS) (hd : Nat), Hid (RB (plusG G w1 wr) wr w.heap.size D P fr hd L) ∧ Hid (spinF P.most (usedN fr) fr hd = spinF P.most (usedN P.fr) P.fr P.hand) ∧ Hid (Alike P.fr fr ∧ hd < P.most) ∧ Hid (F5 wr (w.heap.size + 1) (.int .i64 (f.page : Int)) (.slice Au f.pay.length cu) (.int .i64 f.lsn) (.bool f.dirty) (.bool f.used)) ∧ Hid (B14 wr (w.heap.size + 2) (.slice none 0 0) (.slice none 0 0) (.bool false) (.int .i64 0) (.int .i64 0) (.int .i64 0) (.int .i64 0) (.int .i64 0) (.int .i64 0) (.int .i64 0) (.int .i64 0) (.int .i64 0) (.slice none 0 0) (.int .i64 0)) ∧ Hid (Below w.heap.size w wr ∧ w1.heap.size ≤ wr.heap.size)) (fun wr => rUsed wr w.heap.size)
 case atStart => exact ⟨P.fr, P.hand, HRB, Lib.hid rfl, Lib.hid ⟨Alike.refl _, HMM.out.2.2.2⟩, HX2, HX3, Lib.hid ⟨HB.out, Nat.le_refl _⟩⟩
 case round =>
  obtain ⟨fr, hd, HRBr, HSP, HAL, X2, X3, HBr⟩ := hrel
  obtain ⟨bA1, bn1, bc1, wA1, wn1, wc1, dn1, po1, fa1, wi1, A1, n1, c1, q1, hx1, hk1, hf1, hn1, hq1⟩ := HRBr.out
  have hfl : fr.length = P.most := by have := HAL.out.1.1; have := HMM.out.2.2.1; omega
  have hn1m : n1 = P.most := by rw [hn1, ← hfl, ← hq1, List.length_map]
  have hhd : hd < n1 := by have := HAL.out.2; omega
  obtain ⟨A1', c1', e1, _, _, hA⟩ := hf1.form
  obtain ⟨g1, rfl, hg1, _⟩ : ∃ g, A1 = some ⟨g, 0, none⟩ ∧ g < wr.heap.size ∧ plusG G w1 wr g := by
   injection e1 with e1 _ _
   obtain ⟨g, e2, e3, e4⟩ := hA (by omega)
   exact ⟨g, e1.trans e2, e3, e4⟩
  clear e1 hA
  obtain ⟨⟨pf, pu⟩, hp⟩ : ∃ p, q1[hd]? = some p := ⟨_, List.getElem?_eq_getElem (by omega)⟩
  have hpu := (hf1.pv _ (List.mem_of_getElem? hp)).form
  dsimp only at hpu
  obtain ⟨Ap, cp, rfl, _, _, _⟩ := hpu
  have hpf : fr.getD hd fr0 = pf := by rw [← hq1, List.getD_eq_getElem?_getD, List.getElem?_map, hp]; rfl
  have HPF := Lib.hid hpf
  have htk := hf1.tk
  rw [hn1] at htk
  obtain ⟨f0, f1, f2, f3, f4⟩ := rf_cells htk hp
  dsimp only at f0 f1 f2 f3 f4
  have X1 := Lib.hid hx1
  have HK1 := Lib.hid hk1
  have HF1 := Lib.hid hf1
  have HN1 := Lib.hid hn1
  have HQ1 := Lib.hid hq1
  have HP := Lib.hid hp
  have HFL := Lib.hid hfl
  have HNM := Lib.hid hn1m
  have HG1 := Lib.hid hg1
  have y12 := hx1.c12
  have y13 := hx1.c13
  have i0 : (0 : Int) ≤ (hd : Int) := Int.natCast_nonneg _
  have i1 : (hd : Int) < (n1 : Int) := by omega
  have hn16 : n1 ≤ 256 := by have := HMM.out.2.1; omega
  clear hx1 hk1 hf1 hn1 hq1 hp hfl htk hpf hn1m hg1 HRBr
  cases hus : pf.used with
  | true =>
   rw [hus] at f4
   have HU : Hid ((fr.getD hd fr0).used = true) := Lib.hid (by rw [HPF.out]; exact hus)
   clear hus
   have HMW : Hid (rUsed wr w.heap.size = usedN fr) := Lib.hid (by
    have := rUsed_of y12 HF1.out HN1.out (by omega)
    rw [HQ1.out] at this
    exact this)
   go_upto_region 7 with fail
   go_upto_region 8 with fail
   clear f0 f1 f2 f3 f4 y12 y13
   have X5 := Lib.hid (F5.new wr (.int .i64 (pf.page : Int)) (.slice Ap pf.pay.length cp) (.int .i64 pf.lsn) (.bool pf.dirty) (.bool true))
   have HBa : Hid (Below wr.heap.size wr (wr.alloc (.cells #[.int .i64 (pf.page : Int), .slice Ap pf.pay.length cp, .int .i64 pf.lsn, .bool pf.dirty, .bool true] 98))) := Lib.hid (gr_alloc (gr_refl wr) _)
   generalize wr.alloc (.cells #[.int .i64 (pf.page : Int), .slice Ap pf.pay.length cp, .int .i64 pf.lsn, .bool pf.dirty, .bool true] 98) = wa at *
   obtain ⟨g5, hg5⟩ : ∃ g, g = wr.heap.size := ⟨_, rfl⟩
   rw [← hg5] at X5 ⊢
   have HG5 := Lib.hid hg5
   have u4 := X5.out.c4
   have uz4 := X5.out.fz 4
   have X5b := Lib.hid (X5.out.set4 (.bool false))
   have HOb : Hid (Off (fun k => k = g5) wa (wa.setCell ⟨g5, 4, none⟩ (.bool false))) := Lib.hid ((Off.refl _ wa).setCell _ rfl)
   clear hg5
   go_upto_region 9 with fail
   clear u4 uz4 X5
   generalize wa.setCell ⟨g5, 4, none⟩ (.bool false) = wb at *
   have hw3 : w.heap.size + 3 ≤ wr.heap.size := by have := HS1.out; have := HBr.out.2; omega
   have X1 := Lib.hid ((X1.out.below HBa.out).off HOb.out (by have := HG5.out; omega))
   have X2 := Lib.hid ((X2.out.below HBa.out).off HOb.out (by have := HG5.out; omega))
   have X3 := Lib.hid ((X3.out.below HBa.out).off HOb.out (by have := HG5.out; omega))
   have hng : ∀ k, k = g5 → ¬ plusG G w1 wr k := fun k e hk => by
    have := HG5.out
    rcases hk with hk | hk
    ·have := HGl.out k hk; omega
    ·omega
   have HK1 := Lib.hid ((HK1.out.below HBa.out).off HOb.out hng)
   have HF1 := Lib.hid ((HF1.out.below HBa.out).off HOb.out hng)
   have HBb : Hid (Below wr.heap.size wr wb) := Lib.hid (HBa.out.trans (HOb.out.below (fun k e => by have := HG5.out; omega) HBa.out.size))
   have hup := HF1.out.pv _ (List.mem_of_getElem? HP.out)
   have hgp := HF1.out.pg _ (List.mem_of_getElem? HP.out)
   dsimp only at hup hgp
   have HWI := Lib.hid (rWith_pv (xb := P.base) (xp := P.pages) (xm := P.most) (xe := P.epoch) (xc := P.count) (xh := hd) (L := L) HK1.out HF1.out HQ1.out (fun k hk => Nat.lt_of_lt_of_le (by
    rcases hk with hk | hk
    ·have := HGl.out k hk; omega
    ·exact hk.2) HBb.out.size) hd (by rw [HFL.out, ← HNM.out]; omega) { pf with used := false } (.slice Ap pf.pay.length cp) hup hgp (by rw [HFL.out, ← HNM.out]; omega))
   dsimp only at HWI
   clear hup hgp hng hw3
   have y0 := X1.out.c0
   have y1 := X1.out.c1
   have y2 := X1.out.c2
   have y3 := X1.out.c3
   have y4 := X1.out.c4
   have y5 := X1.out.c5
   have y6 := X1.out.c6
   have y7 := X1.out.c7
   have y8 := X1.out.c8
   have y9 := X1.out.c9
   have y10 := X1.out.c10
   have y11 := X1.out.c11
   have y12 := X1.out.c12
   have y13 := X1.out.c13
   have z0 := X5b.out.c0
   have z1 := X5b.out.c1
   have z2 := X5b.out.c2
   have z3 := X5b.out.c3
   have z4 := X5b.out.c4
   go_upto_region 10 with fail
   refine HWI.out.mono ?_
   rintro e wc ⟨bA2, bn2, bc2, wA2, wn2, wc2, dn2, po2, fa2, wi2, A2, n2, c2, q2, rfl, hk2, hf2, hn2, hq2, hbc⟩
   clear HWI y0 y1 y2 y3 y4 y5 y6 y7 y8 y9 y10 y11 y12 y13 z0 z1 z2 z3 z4
   have HK2 := Lib.hid hk2
   have HF2 := Lib.hid hf2
   have HN2 := Lib.hid hn2
   have HQ2 := Lib.hid hq2
   have HBc := Lib.hid hbc
   have X1 := Lib.hid (X1.out.below hbc)
   have X2 := Lib.hid (X2.out.below hbc)
   have X3 := Lib.hid (X3.out.below hbc)
   clear hk2 hf2 hn2 hq2 hbc X5b
   have y0 := X1.out.c0
   have y1 := X1.out.c1
   have y2 := X1.out.c2
   have y3 := X1.out.c3
   have y4 := X1.out.c4
   have y5 := X1.out.c5
   have y6 := X1.out.c6
   have y7 := X1.out.c7
   have y8 := X1.out.c8
   have y9 := X1.out.c9
   have y10 := X1.out.c10
   have y11 := X1.out.c11
   have y12 := X1.out.c12
   have y13 := X1.out.c13
   have yz0 := X1.out.fz 0
   have yz1 := X1.out.fz 1
   have yz2 := X1.out.fz 2
   have yz3 := X1.out.fz 3
   have yz4 := X1.out.fz 4
   have yz5 := X1.out.fz 5
   have yz6 := X1.out.fz 6
   have yz7 := X1.out.fz 7
   have yz8 := X1.out.fz 8
   have yz9 := X1.out.fz 9
   have yz10 := X1.out.fz 10
   have yz11 := X1.out.fz 11
   have yz12 := X1.out.fz 12
   have yz13 := X1.out.fz 13
   have HSX1b := Lib.hid (X1.out.all (.slice bA2 bn2 bc2) (.slice wA2 wn2 wc2) (.bool dn2) (.int .i64 po2) (.int .i64 fa2) (.int .i64 wi2) (.int .i64 (P.base : Int)) (.int .i64 (P.pages : Int)) (.int .i64 (P.most : Int)) (.int .i64 (P.epoch : Int)) (.int .i64 (P.count : Int)) (.int .i64 L) (.slice A2 n2 c2) (.int .i64 (hd : Int)))
   go_upto_region 10 with fail
   clear y0 y1 y2 y3 y4 y5 y6 y7 y8 y9 y10 y11 y12 y13 yz0 yz1 yz2 yz3 yz4 yz5 yz6 yz7 yz8 yz9 yz10 yz11 yz12 yz13
   obtain ⟨X1b, X1bo⟩ := HSX1b.out _ rfl
   clear HSX1b
   generalize ((((((((((((((wc.setCell ⟨w.heap.size, 0, none⟩ (.slice bA2 bn2 bc2)).setCell ⟨w.heap.size, 1, none⟩ (.slice wA2 wn2 wc2)).setCell ⟨w.heap.size, 2, none⟩ (.bool dn2)).setCell ⟨w.heap.size, 3, none⟩ (.int .i64 po2)).setCell ⟨w.heap.size, 4, none⟩ (.int .i64 fa2)).setCell ⟨w.heap.size, 5, none⟩ (.int .i64 wi2)).setCell ⟨w.heap.size, 6, none⟩ (.int .i64 (P.base : Int))).setCell ⟨w.heap.size, 7, none⟩ (.int .i64 (P.pages : Int))).setCell ⟨w.heap.size, 8, none⟩ (.int .i64 (P.most : Int))).setCell ⟨w.heap.size, 9, none⟩ (.int .i64 (P.epoch : Int))).setCell ⟨w.heap.size, 10, none⟩ (.int .i64 (P.count : Int))).setCell ⟨w.heap.size, 11, none⟩ (.int .i64 L)).setCell ⟨w.heap.size, 12, none⟩ (.slice A2 n2 c2)).setCell ⟨w.heap.size, 13, none⟩ (.int .i64 (hd : Int))) = wd at *
   have X2 := Lib.hid (X2.out.off X1bo (by omega))
   have X3 := Lib.hid (X3.out.off X1bo (by omega))
   have hwp : IntKind.i64.wrap ((hd : Int) + 1) = (hd : Int) + 1 := by rw [IntKind.wrap_i64]; omega
   obtain ⟨hmb, hm0⟩ : P.most ≤ 256 ∧ ¬ P.most = 0 := ⟨HMM.out.2.1, by have := HMM.out.1; omega⟩
   obtain ⟨nx, hnx⟩ : ∃ nx, nx = (hd + 1) % P.most := ⟨_, rfl⟩
   have hrem : ((hd : Int) + 1).tmod (P.most : Int) = (nx : Int) := by
    rw [Int.tmod_eq_emod_of_nonneg (by omega), hnx, Int.natCast_emod, Int.natCast_add]
    rfl
   have HNX := Lib.hid hnx
   have hnl : nx < P.most := by rw [hnx]; exact Nat.mod_lt _ (by omega)
   have hwn : IntKind.i64.wrap (nx : Int) = (nx : Int) := by rw [IntKind.wrap_i64]; omega
   clear hnx hmb
   have y13 := X1b.c13
   have yz13 := X1b.fz 13
   have y8 := X1b.c8
   have HX1 := Lib.hid (X1b.set13 (.int .i64 (nx : Int)))
   have HOe : Hid (Off (fun k => k = w.heap.size) wd (wd.setCell ⟨w.heap.size, 13, none⟩ (.int .i64 (nx : Int)))) := Lib.hid ((Off.refl _ wd).setCell _ rfl)
   have HOd := Lib.hid X1bo
   clear X1b X1bo
   go_wp2_with fail
   have h3 := HS1.out
   have hbr := HBr.out.2
   have hbb := HBb.out.size
   have hnb : ∀ k, k = w.heap.size → ¬ plusG (plusG G w1 wr) wb wc k := fun k e hk => by
    rcases hk with (hk | hk) | hk
    ·have := HGl.out k hk; omega
    ·omega
    ·omega
   have hsz : wc.heap.size ≤ (wd.setCell ⟨w.heap.size, 13, none⟩ (.int .i64 (nx : Int))).heap.size := Nat.le_trans HOd.out.size HOe.out.size
   have hgm : ∀ k, plusG (plusG G w1 wr) wb wc k → plusG G w1 (wd.setCell ⟨w.heap.size, 13, none⟩ (.int .i64 (nx : Int))) k := plusG.in2 (Nat.le_refl _) (Nat.le_trans (Nat.le_trans hbb HBc.out.size) hsz) (Nat.le_trans hbr hbb) hsz
   have hbe : Below w.heap.size w (wd.setCell ⟨w.heap.size, 13, none⟩ (.int .i64 (nx : Int))) ∧ w1.heap.size ≤ (wd.setCell ⟨w.heap.size, 13, none⟩ (.int .i64 (nx : Int))).heap.size := by
    have b1 := HBr.out.1
    have b2 : Below w.heap.size w wb := b1.trans (HBb.out.mono b1.size)
    have b3 : Below w.heap.size w wc := b2.trans (HBc.out.mono b2.size)
    have b4 := b3.trans (HOd.out.below (fun k e => by omega) b3.size)
    exact ⟨b4.trans (HOe.out.below (fun k e => by omega) b4.size), Nat.le_trans (Nat.le_trans hbr (Nat.le_trans hbb HBc.out.size)) hsz⟩
   go_roundw
   case rel =>
    refine ⟨fr.set hd { fr.getD hd fr0 with used := false }, nx, Lib.hid ⟨bA2, bn2, bc2, wA2, wn2, wc2, dn2, po2, fa2, wi2, A2, n2, c2, q2, HX1.out, ?_, ?_, HN2.out, by rw [HPF.out]; exact HQ2.out⟩, Lib.hid ?_, Lib.hid ⟨HAL.out.1.set hd false, hnl⟩, Lib.hid (X2.out.off HOe.out (by omega)), Lib.hid (X3.out.off HOe.out (by omega)), Lib.hid (hbe)⟩
    ·exact ((HK2.out.off HOd.out hnb).off HOe.out hnb).mono hgm
    ·exact ((HF2.out.off HOd.out hnb).off HOe.out hnb).mono hgm
    ·rw [← HSP.out, spin_step (by rw [HFL.out, ← HNM.out]; omega) HU.out, HNX.out]
   case measure =>
    have hu0 := usedN_set (fr := fr) (h := hd) (by rw [HFL.out, ← HNM.out]; omega) HU.out
    have e2 := rUsed_of HX1.out.c12 ((HF2.out.off HOd.out hnb).off HOe.out hnb) HN2.out (by rw [HN2.out]; have := congrArg List.length HQ2.out; rw [List.length_map, List.length_set, HFL.out] at this; omega)
    have e1 := HMW.out
    rw [HQ2.out, ← HPF.out] at e2
    rw [e1]
    refine Nat.lt_of_le_of_lt (Nat.le_of_eq e2) ?_
    rw [← hu0]
    exact Nat.lt_succ_self _
  | false =>
   rw [hus] at f4
   have HU : Hid ((fr.getD hd fr0).used = false) := Lib.hid (by rw [HPF.out]; exact hus)
   clear hus
   have HSPN : Hid (spun P = ⟨P.base, P.pages, P.most, P.epoch, P.count, fr, hd⟩) := Lib.hid (by
    unfold spun
    rw [← HSP.out, spin_stop HU.out])
   have HW1 : Hid (w1.heap.size ≤ wr.heap.size) := Lib.hid HBr.out.2
   cases hdt : pf.dirty with
   | false =>
    have HHE : Hid (holdR (some L) D P f = (D, putP ⟨P.base, P.pages, P.most, P.epoch, P.count, fr, hd⟩ f, 0)) := Lib.hid (by
     unfold holdR
     rw [if_neg (by have := HMM.out; omega), HSPN.out, if_neg (by rw [HPF.out, hdt]; decide)])
    rw [hdt] at f3
    have HGS : Hid (∀ k, plusG G w1 wr k → (G k ∨ w1.heap.size ≤ k) ∧ k < wr.heap.size) := Lib.hid (fun k hk => by
     rcases hk with hk | hk
     ·have := HGl.out k hk; have := HBr.out.1.size; exact ⟨.inl hk, by omega⟩
     ·exact ⟨.inr hk.1, hk.2⟩)
    have HGI : Hid (∀ k, G k → plusG G w1 wr k) := Lib.hid (fun k hk => .inl hk)
    have HBt : Hid (Below w.heap.size w wr) := Lib.hid HBr.out.1
    clear hdt
    go_upto_region 16 with fail
    clear f0 f1 f2 f3 f4 y12 y13
    have HWI := Lib.hid (rWith_pv (xb := P.base) (xp := P.pages) (xm := P.most) (xe := P.epoch) (xc := P.count) (xh := hd) (L := L) HK1.out HF1.out HQ1.out (fun k hk => (HGS.out k hk).2) hd (by rw [HFL.out, ← HNM.out]; omega) f (.slice Au f.pay.length cu) (HU0.out.below HBt.out) (fun k e => HGI.out k (HUG.out k e)) (by rw [HFL.out, ← HNM.out]; omega))
    have y0 := X1.out.c0
    have y1 := X1.out.c1
    have y2 := X1.out.c2
    have y3 := X1.out.c3
    have y4 := X1.out.c4
    have y5 := X1.out.c5
    have y6 := X1.out.c6
    have y7 := X1.out.c7
    have y8 := X1.out.c8
    have y9 := X1.out.c9
    have y10 := X1.out.c10
    have y11 := X1.out.c11
    have y12 := X1.out.c12
    have y13 := X1.out.c13
    have z0 := X2.out.c0
    have z1 := X2.out.c1
    have z2 := X2.out.c2
    have z3 := X2.out.c3
    have z4 := X2.out.c4
    go_upto_region 17 with fail
    refine HWI.out.mono ?_
    rintro e wx ⟨bA5, bn5, bc5, wA5, wn5, wc5, dn5, po5, fa5, wi5, A5, n5, c5, q5, rfl, hk5, hf5, hn5, hq5, hbx⟩
    clear HWI y0 y1 y2 y3 y4 y5 y6 y7 y8 y9 y10 y11 y12 y13 z0 z1 z2 z3 z4
    have HK5 := Lib.hid hk5
    have HF5 := Lib.hid hf5
    have HN5 := Lib.hid hn5
    have HQ5 := Lib.hid hq5
    have HBx := Lib.hid hbx
    have X1 := Lib.hid (X1.out.below hbx)
    have X3 := Lib.hid (X3.out.below hbx)
    clear hk5 hf5 hn5 hq5 hbx X2
    have y0 := X1.out.c0
    have y1 := X1.out.c1
    have y2 := X1.out.c2
    have y3 := X1.out.c3
    have y4 := X1.out.c4
    have y5 := X1.out.c5
    have y6 := X1.out.c6
    have y7 := X1.out.c7
    have y8 := X1.out.c8
    have y9 := X1.out.c9
    have y10 := X1.out.c10
    have y11 := X1.out.c11
    have y12 := X1.out.c12
    have y13 := X1.out.c13
    have yz0 := X1.out.fz 0
    have yz1 := X1.out.fz 1
    have yz2 := X1.out.fz 2
    have yz3 := X1.out.fz 3
    have yz4 := X1.out.fz 4
    have yz5 := X1.out.fz 5
    have yz6 := X1.out.fz 6
    have yz7 := X1.out.fz 7
    have yz8 := X1.out.fz 8
    have yz9 := X1.out.fz 9
    have yz10 := X1.out.fz 10
    have yz11 := X1.out.fz 11
    have yz12 := X1.out.fz 12
    have yz13 := X1.out.fz 13
    have HSX1b := Lib.hid (X1.out.all (.slice bA5 bn5 bc5) (.slice wA5 wn5 wc5) (.bool dn5) (.int .i64 po5) (.int .i64 fa5) (.int .i64 wi5) (.int .i64 (P.base : Int)) (.int .i64 (P.pages : Int)) (.int .i64 (P.most : Int)) (.int .i64 (P.epoch : Int)) (.int .i64 (P.count : Int)) (.int .i64 L) (.slice A5 n5 c5) (.int .i64 (hd : Int)))
    go_upto_region 17 with fail
    clear y0 y1 y2 y3 y4 y5 y6 y7 y8 y9 y10 y11 y12 y13 yz0 yz1 yz2 yz3 yz4 yz5 yz6 yz7 yz8 yz9 yz10 yz11 yz12 yz13
    obtain ⟨X1b, X1bo⟩ := HSX1b.out _ rfl
    clear HSX1b
    generalize ((((((((((((((wx.setCell ⟨w.heap.size, 0, none⟩ (.slice bA5 bn5 bc5)).setCell ⟨w.heap.size, 1, none⟩ (.slice wA5 wn5 wc5)).setCell ⟨w.heap.size, 2, none⟩ (.bool dn5)).setCell ⟨w.heap.size, 3, none⟩ (.int .i64 po5)).setCell ⟨w.heap.size, 4, none⟩ (.int .i64 fa5)).setCell ⟨w.heap.size, 5, none⟩ (.int .i64 wi5)).setCell ⟨w.heap.size, 6, none⟩ (.int .i64 (P.base : Int))).setCell ⟨w.heap.size, 7, none⟩ (.int .i64 (P.pages : Int))).setCell ⟨w.heap.size, 8, none⟩ (.int .i64 (P.most : Int))).setCell ⟨w.heap.size, 9, none⟩ (.int .i64 (P.epoch : Int))).setCell ⟨w.heap.size, 10, none⟩ (.int .i64 (P.count : Int))).setCell ⟨w.heap.size, 11, none⟩ (.int .i64 L)).setCell ⟨w.heap.size, 12, none⟩ (.slice A5 n5 c5)).setCell ⟨w.heap.size, 13, none⟩ (.int .i64 (hd : Int))) = wy at *
    have X3 := Lib.hid (X3.out.off X1bo (by omega))
    have hwp : IntKind.i64.wrap ((hd : Int) + 1) = (hd : Int) + 1 := by rw [IntKind.wrap_i64]; omega
    obtain ⟨hmb, hm0⟩ : P.most ≤ 256 ∧ ¬ P.most = 0 := ⟨HMM.out.2.1, by have := HMM.out.1; omega⟩
    obtain ⟨nx, hnx⟩ : ∃ nx, nx = (hd + 1) % P.most := ⟨_, rfl⟩
    have hrem : ((hd : Int) + 1).tmod (P.most : Int) = (nx : Int) := by
     rw [Int.tmod_eq_emod_of_nonneg (by omega), hnx, Int.natCast_emod, Int.natCast_add]
     rfl
    have HNX := Lib.hid hnx
    have hnl : nx < P.most := by rw [hnx]; exact Nat.mod_lt _ (by omega)
    have hwn : IntKind.i64.wrap (nx : Int) = (nx : Int) := by rw [IntKind.wrap_i64]; omega
    clear hnx hmb
    have y13 := X1b.c13
    have yz13 := X1b.fz 13
    have y8 := X1b.c8
    have HX1 := Lib.hid (X1b.set13 (.int .i64 (nx : Int)))
    have HOe : Hid (Off (fun k => k = w.heap.size) wy (wy.setCell ⟨w.heap.size, 13, none⟩ (.int .i64 (nx : Int)))) := Lib.hid ((Off.refl _ wy).setCell _ rfl)
    have HOd := Lib.hid X1bo
    clear X1b X1bo
    go_upto_region 18 with fail
    clear y13 yz13 y8 hwp hm0 hrem hwn
    generalize wy.setCell ⟨w.heap.size, 13, none⟩ (.int .i64 (nx : Int)) = wz at *
    have X3b := Lib.hid (X3.out.off HOe.out (by omega))
    have y0 := HX1.out.c0
    have y1 := HX1.out.c1
    have y2 := HX1.out.c2
    have y3 := HX1.out.c3
    have y4 := HX1.out.c4
    have y5 := HX1.out.c5
    have y6 := HX1.out.c6
    have y7 := HX1.out.c7
    have y8 := HX1.out.c8
    have y9 := HX1.out.c9
    have y10 := HX1.out.c10
    have y11 := HX1.out.c11
    have y12 := HX1.out.c12
    have y13 := HX1.out.c13
    have r0 := X3b.out.c0
    have r1 := X3b.out.c1
    have r2 := X3b.out.c2
    have r3 := X3b.out.c3
    have r4 := X3b.out.c4
    have r5 := X3b.out.c5
    have r6 := X3b.out.c6
    have r7 := X3b.out.c7
    have r8 := X3b.out.c8
    have r9 := X3b.out.c9
    have r10 := X3b.out.c10
    have r11 := X3b.out.c11
    have r12 := X3b.out.c12
    have r13 := X3b.out.c13
    have rz0 := X3b.out.fz 0
    have rz1 := X3b.out.fz 1
    have rz2 := X3b.out.fz 2
    have rz3 := X3b.out.fz 3
    have rz4 := X3b.out.fz 4
    have rz5 := X3b.out.fz 5
    have rz6 := X3b.out.fz 6
    have rz7 := X3b.out.fz 7
    have rz8 := X3b.out.fz 8
    have rz9 := X3b.out.fz 9
    have rz10 := X3b.out.fz 10
    have rz11 := X3b.out.fz 11
    have rz12 := X3b.out.fz 12
    have rz13 := X3b.out.fz 13
    have HSs1 := Lib.hid (X3b.out.all (.slice bA5 bn5 bc5) (.slice wA5 wn5 wc5) (.bool dn5) (.int .i64 po5) (.int .i64 fa5) (.int .i64 wi5) (.int .i64 (P.base : Int)) (.int .i64 (P.pages : Int)) (.int .i64 (P.most : Int)) (.int .i64 (P.epoch : Int)) (.int .i64 (P.count : Int)) (.int .i64 L) (.slice A5 n5 c5) (.int .i64 (nx : Int)))
    go_wp2_with fail
    clear r0 r1 r2 r3 r4 r5 r6 r7 r8 r9 r10 r11 r12 r13 rz0 rz1 rz2 rz3 rz4 rz5 rz6 rz7 rz8 rz9 rz10 rz11 rz12 rz13
    obtain ⟨s1, s1o⟩ := HSs1.out _ rfl
    clear HSs1
    generalize ((((((((((((((wz.setCell ⟨w.heap.size + 2, 0, none⟩ (.slice bA5 bn5 bc5)).setCell ⟨w.heap.size + 2, 1, none⟩ (.slice wA5 wn5 wc5)).setCell ⟨w.heap.size + 2, 2, none⟩ (.bool dn5)).setCell ⟨w.heap.size + 2, 3, none⟩ (.int .i64 po5)).setCell ⟨w.heap.size + 2, 4, none⟩ (.int .i64 fa5)).setCell ⟨w.heap.size + 2, 5, none⟩ (.int .i64 wi5)).setCell ⟨w.heap.size + 2, 6, none⟩ (.int .i64 (P.base : Int))).setCell ⟨w.heap.size + 2, 7, none⟩ (.int .i64 (P.pages : Int))).setCell ⟨w.heap.size + 2, 8, none⟩ (.int .i64 (P.most : Int))).setCell ⟨w.heap.size + 2, 9, none⟩ (.int .i64 (P.epoch : Int))).setCell ⟨w.heap.size + 2, 10, none⟩ (.int .i64 (P.count : Int))).setCell ⟨w.heap.size + 2, 11, none⟩ (.int .i64 L)).setCell ⟨w.heap.size + 2, 12, none⟩ (.slice A5 n5 c5)).setCell ⟨w.heap.size + 2, 13, none⟩ (.int .i64 (nx : Int))) = wf at *
    clear y0 y1 y2 y3 y4 y5 y6 y7 y8 y9 y10 y11 y12 y13
    have z0 := s1.c0
    have z1 := s1.c1
    have z2 := s1.c2
    have z3 := s1.c3
    have z4 := s1.c4
    have z5 := s1.c5
    have z6 := s1.c6
    have z7 := s1.c7
    have z8 := s1.c8
    have z9 := s1.c9
    have z10 := s1.c10
    have z11 := s1.c11
    have z12 := s1.c12
    have z13 := s1.c13
    refine bodyPost_ret (v := .tuple #[.agg #[.slice bA5 bn5 bc5, .slice wA5 wn5 wc5, .bool dn5, .int .i64 po5, .int .i64 fa5, .int .i64 wi5, .int .i64 (P.base : Int), .int .i64 (P.pages : Int), .int .i64 (P.most : Int), .int .i64 (P.epoch : Int), .int .i64 (P.count : Int), .int .i64 L, .slice A5 n5 c5, .int .i64 (nx : Int)], .int .i64 0]) (by simp [results, Tryz.results62, go_sem, z0, z1, z2, z3, z4, z5, z6, z7, z8, z9, z10, z11, z12, z13]) rfl ?_
    rw [HHE.out]
    have hall : Off (fun k => k = w.heap.size ∨ k = w.heap.size + 2) wx wf := ((HOd.out.mono (fun k _ e => .inl e)).trans (HOe.out.mono (fun k _ e => .inl e))).trans (s1o.mono (fun k _ e => .inr e))
    have hbt := HBt.out
    have hb0 : Below w.heap.size w wx := hbt.trans (HBx.out.mono hbt.size)
    have hbf : Below w.heap.size w wf := hb0.trans (hall.below (fun k e => by rcases e with e | e <;> omega) hb0.size)
    have h3 := HS1.out
    have h4 := HW1.out
    have hS : ∀ k, (k = w.heap.size ∨ k = w.heap.size + 2) → ¬ plusG (plusG G w1 wr) wr wx k := fun k e hk => by
     rcases hk with hk | hk
     ·rcases (HGS.out k hk).1 with h | h
      ·have := HGl.out k h; omega
      ·omega
     ·omega
    have hpg : ∀ k, plusG (plusG G w1 wr) wr wx k → plusG G w wf k := fun k hk => by
     have h5 := hall.size
     have h6 := HBx.out.size
     have h7 := hbt.size
     rcases hk with hk | hk
     ·obtain ⟨hk1, hk2⟩ := HGS.out k hk
      rcases hk1 with h | h
      ·exact .inl h
      ·exact .inr ⟨by omega, by omega⟩
     ·exact .inr ⟨by omega, by omega⟩
    exact ⟨_, rfl, ⟨bA5, bn5, bc5, wA5, wn5, wc5, dn5, po5, fa5, wi5, _, q5, by rw [HNX.out]; rfl, (HK5.out.off hall hS).mono hpg, (HF5.out.off hall hS).mono hpg, HQ5.out⟩, hbf⟩
   | true =>
    rw [hdt] at f3
    obtain ⟨⟨D4, P4, e4⟩, hr4⟩ : ∃ r, r = writeR (some L) D ⟨P.base, P.pages, P.most, P.epoch, P.count, fr, hd⟩ hd := ⟨_, rfl⟩
    have HHE : Hid (holdR (some L) D P f = if e4 ≠ 0 then (D4, P4, e4) else (D4, putP P4 f, 0)) := Lib.hid (by
     unfold holdR
     rw [if_neg (by have := HMM.out; omega), HSPN.out, if_pos (by rw [HPF.out, hdt]), ← hr4])
    have HSH := Lib.hid (writeR_shape (some L) D ⟨P.base, P.pages, P.most, P.epoch, P.count, fr, hd⟩ hd)
    have HLN := Lib.hid (writeR_len (some L) D ⟨P.base, P.pages, P.most, P.epoch, P.count, fr, hd⟩ hd)
    have HWW := Lib.hid (rWrite_pv (L := L) HK1.out HF1.out HQ1.out (fun k hk => by
     rcases hk with hk | hk
     ·have := HGl.out k hk; have := HBr.out.1.size; omega
     ·exact hk.2) (HPI.out.alike HAL.out.1 HAL.out.2) HDN.out HPD.out HCT.out hd (by rw [HFL.out, ← HNM.out]; omega) hr4)
    rw [← hr4] at HSH HLN
    dsimp only at HSH HLN
    clear hdt hr4
    go_upto_region 12 with fail
    clear f0 f1 f2 f3 f4 y12 y13
    have y0 := X1.out.c0
    have y1 := X1.out.c1
    have y2 := X1.out.c2
    have y3 := X1.out.c3
    have y4 := X1.out.c4
    have y5 := X1.out.c5
    have y6 := X1.out.c6
    have y7 := X1.out.c7
    have y8 := X1.out.c8
    have y9 := X1.out.c9
    have y10 := X1.out.c10
    have y11 := X1.out.c11
    have y12 := X1.out.c12
    have y13 := X1.out.c13
    go_upto_region 13 with fail
    refine HWW.out.mono ?_
    rintro e wc ⟨bA4, bn4, bc4, wA4, wn4, wc4, dn4, po4, fa4, wi4, A4, n4, c4, q4, rfl, hk4, hf4, hn4, hq4, hbc⟩
    clear HWW y0 y1 y2 y3 y4 y5 y6 y7 y8 y9 y10 y11 y12 y13
    have HK4 := Lib.hid hk4
    have HF4 := Lib.hid hf4
    have HN4 := Lib.hid hn4
    have HQ4 := Lib.hid hq4
    have HBc := Lib.hid hbc
    have hgr := gr_alloc (gr_refl wc) (.cells #[.slice bA4 bn4 bc4, .slice wA4 wn4 wc4, .bool dn4, .int .i64 po4, .int .i64 fa4, .int .i64 wi4, .int .i64 (P4.base : Int), .int .i64 (P4.pages : Int), .int .i64 (P4.most : Int), .int .i64 (P4.epoch : Int), .int .i64 (P4.count : Int), .int .i64 L, .slice A4 n4 c4, .int .i64 (P4.hand : Int)] 42)
    have HBd := Lib.hid hgr
    have X1 := Lib.hid ((X1.out.below hbc).below hgr)
    have X2 := Lib.hid ((X2.out.below hbc).below hgr)
    have X3 := Lib.hid ((X3.out.below hbc).below hgr)
    have X8 := Lib.hid (B14.new wc (.slice bA4 bn4 bc4) (.slice wA4 wn4 wc4) (.bool dn4) (.int .i64 po4) (.int .i64 fa4) (.int .i64 wi4) (.int .i64 (P4.base : Int)) (.int .i64 (P4.pages : Int)) (.int .i64 (P4.most : Int)) (.int .i64 (P4.epoch : Int)) (.int .i64 (P4.count : Int)) (.int .i64 L) (.slice A4 n4 c4) (.int .i64 (P4.hand : Int)))
    clear hk4 hf4 hn4 hq4 hbc hgr
    go_upto_region 13 with fail
    generalize wc.alloc (.cells #[.slice bA4 bn4 bc4, .slice wA4 wn4 wc4, .bool dn4, .int .i64 po4, .int .i64 fa4, .int .i64 wi4, .int .i64 (P4.base : Int), .int .i64 (P4.pages : Int), .int .i64 (P4.most : Int), .int .i64 (P4.epoch : Int), .int .i64 (P4.count : Int), .int .i64 L, .slice A4 n4 c4, .int .i64 (P4.hand : Int)] 42) = wd at *
    have u0 := X8.out.c0
    have u1 := X8.out.c1
    have u2 := X8.out.c2
    have u3 := X8.out.c3
    have u4 := X8.out.c4
    have u5 := X8.out.c5
    have u6 := X8.out.c6
    have u7 := X8.out.c7
    have u8 := X8.out.c8
    have u9 := X8.out.c9
    have u10 := X8.out.c10
    have u11 := X8.out.c11
    have u12 := X8.out.c12
    have u13 := X8.out.c13
    have y0 := X1.out.c0
    have y1 := X1.out.c1
    have y2 := X1.out.c2
    have y3 := X1.out.c3
    have y4 := X1.out.c4
    have y5 := X1.out.c5
    have y6 := X1.out.c6
    have y7 := X1.out.c7
    have y8 := X1.out.c8
    have y9 := X1.out.c9
    have y10 := X1.out.c10
    have y11 := X1.out.c11
    have y12 := X1.out.c12
    have y13 := X1.out.c13
    have yz0 := X1.out.fz 0
    have yz1 := X1.out.fz 1
    have yz2 := X1.out.fz 2
    have yz3 := X1.out.fz 3
    have yz4 := X1.out.fz 4
    have yz5 := X1.out.fz 5
    have yz6 := X1.out.fz 6
    have yz7 := X1.out.fz 7
    have yz8 := X1.out.fz 8
    have yz9 := X1.out.fz 9
    have yz10 := X1.out.fz 10
    have yz11 := X1.out.fz 11
    have yz12 := X1.out.fz 12
    have yz13 := X1.out.fz 13
    have HSX1b := Lib.hid (X1.out.all (.slice bA4 bn4 bc4) (.slice wA4 wn4 wc4) (.bool dn4) (.int .i64 po4) (.int .i64 fa4) (.int .i64 wi4) (.int .i64 (P4.base : Int)) (.int .i64 (P4.pages : Int)) (.int .i64 (P4.most : Int)) (.int .i64 (P4.epoch : Int)) (.int .i64 (P4.count : Int)) (.int .i64 L) (.slice A4 n4 c4) (.int .i64 (P4.hand : Int)))
    go_upto_region 14 with fail
    clear u0 u1 u2 u3 u4 u5 u6 u7 u8 u9 u10 u11 u12 u13 X8
    clear y0 y1 y2 y3 y4 y5 y6 y7 y8 y9 y10 y11 y12 y13 yz0 yz1 yz2 yz3 yz4 yz5 yz6 yz7 yz8 yz9 yz10 yz11 yz12 yz13
    obtain ⟨X1b, X1bo⟩ := HSX1b.out _ rfl
    clear HSX1b
    generalize ((((((((((((((wd.setCell ⟨w.heap.size, 0, none⟩ (.slice bA4 bn4 bc4)).setCell ⟨w.heap.size, 1, none⟩ (.slice wA4 wn4 wc4)).setCell ⟨w.heap.size, 2, none⟩ (.bool dn4)).setCell ⟨w.heap.size, 3, none⟩ (.int .i64 po4)).setCell ⟨w.heap.size, 4, none⟩ (.int .i64 fa4)).setCell ⟨w.heap.size, 5, none⟩ (.int .i64 wi4)).setCell ⟨w.heap.size, 6, none⟩ (.int .i64 (P4.base : Int))).setCell ⟨w.heap.size, 7, none⟩ (.int .i64 (P4.pages : Int))).setCell ⟨w.heap.size, 8, none⟩ (.int .i64 (P4.most : Int))).setCell ⟨w.heap.size, 9, none⟩ (.int .i64 (P4.epoch : Int))).setCell ⟨w.heap.size, 10, none⟩ (.int .i64 (P4.count : Int))).setCell ⟨w.heap.size, 11, none⟩ (.int .i64 L)).setCell ⟨w.heap.size, 12, none⟩ (.slice A4 n4 c4)).setCell ⟨w.heap.size, 13, none⟩ (.int .i64 (P4.hand : Int))) = wt at *
    have X2 := Lib.hid (X2.out.off X1bo (by omega))
    have X3 := Lib.hid (X3.out.off X1bo (by omega))
    have X1 := Lib.hid X1b
    have HOt := Lib.hid X1bo
    clear X1b X1bo
    have hng : ∀ k, k = w.heap.size → ¬ plusG (plusG G w1 wr) wr wc k := fun k e hk => by
     have h1 := HBr.out.1.size
     have h3 := HS1.out
     have h4 := HW1.out
     rcases hk with (hk | hk) | hk
     ·have := HGl.out k hk; omega
     ·omega
     ·omega
    have HK4 := Lib.hid ((HK4.out.below HBd.out).off HOt.out hng)
    have HF4 := Lib.hid ((HF4.out.below HBd.out).off HOt.out hng)
    have HSZ : Hid (wc.heap.size ≤ wt.heap.size ∧ wr.heap.size ≤ wc.heap.size) := Lib.hid ⟨Nat.le_trans HBd.out.size HOt.out.size, HBc.out.size⟩
    have HBt : Hid (Below w.heap.size w wt) := Lib.hid (by
     have b1 := HBr.out.1
     have b2 : Below w.heap.size w wc := b1.trans (HBc.out.mono b1.size)
     have b3 : Below w.heap.size w wd := b2.trans (HBd.out.mono b2.size)
     exact b3.trans (HOt.out.below (fun k e => by omega) b3.size))
    have HGS : Hid (∀ k, plusG (plusG G w1 wr) wr wc k → (G k ∨ w1.heap.size ≤ k) ∧ k < wt.heap.size) := Lib.hid (fun k hk => by
     have h1 := HSZ.out
     have h2 := HBt.out.size
     have h4 := HW1.out
     rcases hk with (hk | hk) | hk
     ·have := HGl.out k hk; exact ⟨.inl hk, by omega⟩
     ·exact ⟨.inr hk.1, by omega⟩
     ·exact ⟨.inr (by omega), by omega⟩)
    have HGI : Hid (∀ k, G k → plusG (plusG G w1 wr) wr wc k) := Lib.hid (fun k hk => .inl (.inl hk))
    have HW1 : Hid (w1.heap.size ≤ wt.heap.size) := Lib.hid (by have := HSZ.out; have := HW1.out; omega)
    clear hng
    by_cases he4 : e4 = 0
    ·have t3 : (e4 != 0) = false := by rw [he4]; rfl
     have HHE2 := Lib.hid (HHE.out.trans (if_neg (fun h => h he4)))
     clear he4 HHE
     go_upto_region 16 with fail
     have HWI := Lib.hid (rWith_pv (xb := P4.base) (xp := P4.pages) (xm := P4.most) (xe := P4.epoch) (xc := P4.count) (xh := P4.hand) (L := L) HK4.out HF4.out HQ4.out (fun k hk => (HGS.out k hk).2) P4.hand (by have := HSH.out.2.1; have := HLN.out; have := HFL.out; have := HNM.out; omega) f (.slice Au f.pay.length cu) (HU0.out.below HBt.out) (fun k e => HGI.out k (HUG.out k e)) (by have := HLN.out; have := HFL.out; have := HNM.out; omega))
     have y0 := X1.out.c0
     have y1 := X1.out.c1
     have y2 := X1.out.c2
     have y3 := X1.out.c3
     have y4 := X1.out.c4
     have y5 := X1.out.c5
     have y6 := X1.out.c6
     have y7 := X1.out.c7
     have y8 := X1.out.c8
     have y9 := X1.out.c9
     have y10 := X1.out.c10
     have y11 := X1.out.c11
     have y12 := X1.out.c12
     have y13 := X1.out.c13
     have z0 := X2.out.c0
     have z1 := X2.out.c1
     have z2 := X2.out.c2
     have z3 := X2.out.c3
     have z4 := X2.out.c4
     go_upto_region 17 with fail
     refine HWI.out.mono ?_
     rintro e wx ⟨bA5, bn5, bc5, wA5, wn5, wc5, dn5, po5, fa5, wi5, A5, n5, c5, q5, rfl, hk5, hf5, hn5, hq5, hbx⟩
     clear HWI y0 y1 y2 y3 y4 y5 y6 y7 y8 y9 y10 y11 y12 y13 z0 z1 z2 z3 z4
     have HK5 := Lib.hid hk5
     have HF5 := Lib.hid hf5
     have HN5 := Lib.hid hn5
     have HQ5 := Lib.hid hq5
     have HBx := Lib.hid hbx
     have X1 := Lib.hid (X1.out.below hbx)
     have X3 := Lib.hid (X3.out.below hbx)
     clear hk5 hf5 hn5 hq5 hbx X2
     have y0 := X1.out.c0
     have y1 := X1.out.c1
     have y2 := X1.out.c2
     have y3 := X1.out.c3
     have y4 := X1.out.c4
     have y5 := X1.out.c5
     have y6 := X1.out.c6
     have y7 := X1.out.c7
     have y8 := X1.out.c8
     have y9 := X1.out.c9
     have y10 := X1.out.c10
     have y11 := X1.out.c11
     have y12 := X1.out.c12
     have y13 := X1.out.c13
     have yz0 := X1.out.fz 0
     have yz1 := X1.out.fz 1
     have yz2 := X1.out.fz 2
     have yz3 := X1.out.fz 3
     have yz4 := X1.out.fz 4
     have yz5 := X1.out.fz 5
     have yz6 := X1.out.fz 6
     have yz7 := X1.out.fz 7
     have yz8 := X1.out.fz 8
     have yz9 := X1.out.fz 9
     have yz10 := X1.out.fz 10
     have yz11 := X1.out.fz 11
     have yz12 := X1.out.fz 12
     have yz13 := X1.out.fz 13
     have HSX1b := Lib.hid (X1.out.all (.slice bA5 bn5 bc5) (.slice wA5 wn5 wc5) (.bool dn5) (.int .i64 po5) (.int .i64 fa5) (.int .i64 wi5) (.int .i64 (P4.base : Int)) (.int .i64 (P4.pages : Int)) (.int .i64 (P4.most : Int)) (.int .i64 (P4.epoch : Int)) (.int .i64 (P4.count : Int)) (.int .i64 L) (.slice A5 n5 c5) (.int .i64 (P4.hand : Int)))
     go_upto_region 17 with fail
     clear y0 y1 y2 y3 y4 y5 y6 y7 y8 y9 y10 y11 y12 y13 yz0 yz1 yz2 yz3 yz4 yz5 yz6 yz7 yz8 yz9 yz10 yz11 yz12 yz13
     obtain ⟨X1b, X1bo⟩ := HSX1b.out _ rfl
     clear HSX1b
     generalize ((((((((((((((wx.setCell ⟨w.heap.size, 0, none⟩ (.slice bA5 bn5 bc5)).setCell ⟨w.heap.size, 1, none⟩ (.slice wA5 wn5 wc5)).setCell ⟨w.heap.size, 2, none⟩ (.bool dn5)).setCell ⟨w.heap.size, 3, none⟩ (.int .i64 po5)).setCell ⟨w.heap.size, 4, none⟩ (.int .i64 fa5)).setCell ⟨w.heap.size, 5, none⟩ (.int .i64 wi5)).setCell ⟨w.heap.size, 6, none⟩ (.int .i64 (P4.base : Int))).setCell ⟨w.heap.size, 7, none⟩ (.int .i64 (P4.pages : Int))).setCell ⟨w.heap.size, 8, none⟩ (.int .i64 (P4.most : Int))).setCell ⟨w.heap.size, 9, none⟩ (.int .i64 (P4.epoch : Int))).setCell ⟨w.heap.size, 10, none⟩ (.int .i64 (P4.count : Int))).setCell ⟨w.heap.size, 11, none⟩ (.int .i64 L)).setCell ⟨w.heap.size, 12, none⟩ (.slice A5 n5 c5)).setCell ⟨w.heap.size, 13, none⟩ (.int .i64 (P4.hand : Int))) = wy at *
     have X3 := Lib.hid (X3.out.off X1bo (by omega))
     have hwp : IntKind.i64.wrap ((P4.hand : Int) + 1) = (P4.hand : Int) + 1 := by rw [IntKind.wrap_i64]; have := HSH.out.2.1; omega
     obtain ⟨hmb, hm0⟩ : P4.most ≤ 256 ∧ ¬ P4.most = 0 := ⟨by have := HMM.out.2.1; have := HSH.out.1; omega, by have := HMM.out.1; have := HSH.out.1; omega⟩
     obtain ⟨nx, hnx⟩ : ∃ nx, nx = (P4.hand + 1) % P4.most := ⟨_, rfl⟩
     have hrem : ((P4.hand : Int) + 1).tmod (P4.most : Int) = (nx : Int) := by
      rw [Int.tmod_eq_emod_of_nonneg (by omega), hnx, Int.natCast_emod, Int.natCast_add]
      rfl
     have HNX := Lib.hid hnx
     have hnl : nx < P4.most := by rw [hnx]; exact Nat.mod_lt _ (by omega)
     have hwn : IntKind.i64.wrap (nx : Int) = (nx : Int) := by rw [IntKind.wrap_i64]; omega
     clear hnx hmb
     have y13 := X1b.c13
     have yz13 := X1b.fz 13
     have y8 := X1b.c8
     have HX1 := Lib.hid (X1b.set13 (.int .i64 (nx : Int)))
     have HOe : Hid (Off (fun k => k = w.heap.size) wy (wy.setCell ⟨w.heap.size, 13, none⟩ (.int .i64 (nx : Int)))) := Lib.hid ((Off.refl _ wy).setCell _ rfl)
     have HOd := Lib.hid X1bo
     clear X1b X1bo
     go_upto_region 18 with fail
     clear y13 yz13 y8 hwp hm0 hrem hwn
     generalize wy.setCell ⟨w.heap.size, 13, none⟩ (.int .i64 (nx : Int)) = wz at *
     have X3b := Lib.hid (X3.out.off HOe.out (by omega))
     have y0 := HX1.out.c0
     have y1 := HX1.out.c1
     have y2 := HX1.out.c2
     have y3 := HX1.out.c3
     have y4 := HX1.out.c4
     have y5 := HX1.out.c5
     have y6 := HX1.out.c6
     have y7 := HX1.out.c7
     have y8 := HX1.out.c8
     have y9 := HX1.out.c9
     have y10 := HX1.out.c10
     have y11 := HX1.out.c11
     have y12 := HX1.out.c12
     have y13 := HX1.out.c13
     have r0 := X3b.out.c0
     have r1 := X3b.out.c1
     have r2 := X3b.out.c2
     have r3 := X3b.out.c3
     have r4 := X3b.out.c4
     have r5 := X3b.out.c5
     have r6 := X3b.out.c6
     have r7 := X3b.out.c7
     have r8 := X3b.out.c8
     have r9 := X3b.out.c9
     have r10 := X3b.out.c10
     have r11 := X3b.out.c11
     have r12 := X3b.out.c12
     have r13 := X3b.out.c13
     have rz0 := X3b.out.fz 0
     have rz1 := X3b.out.fz 1
     have rz2 := X3b.out.fz 2
     have rz3 := X3b.out.fz 3
     have rz4 := X3b.out.fz 4
     have rz5 := X3b.out.fz 5
     have rz6 := X3b.out.fz 6
     have rz7 := X3b.out.fz 7
     have rz8 := X3b.out.fz 8
     have rz9 := X3b.out.fz 9
     have rz10 := X3b.out.fz 10
     have rz11 := X3b.out.fz 11
     have rz12 := X3b.out.fz 12
     have rz13 := X3b.out.fz 13
     have HSs1 := Lib.hid (X3b.out.all (.slice bA5 bn5 bc5) (.slice wA5 wn5 wc5) (.bool dn5) (.int .i64 po5) (.int .i64 fa5) (.int .i64 wi5) (.int .i64 (P4.base : Int)) (.int .i64 (P4.pages : Int)) (.int .i64 (P4.most : Int)) (.int .i64 (P4.epoch : Int)) (.int .i64 (P4.count : Int)) (.int .i64 L) (.slice A5 n5 c5) (.int .i64 (nx : Int)))
     go_wp2_with fail
     clear r0 r1 r2 r3 r4 r5 r6 r7 r8 r9 r10 r11 r12 r13 rz0 rz1 rz2 rz3 rz4 rz5 rz6 rz7 rz8 rz9 rz10 rz11 rz12 rz13
     obtain ⟨s1, s1o⟩ := HSs1.out _ rfl
     clear HSs1
     generalize ((((((((((((((wz.setCell ⟨w.heap.size + 2, 0, none⟩ (.slice bA5 bn5 bc5)).setCell ⟨w.heap.size + 2, 1, none⟩ (.slice wA5 wn5 wc5)).setCell ⟨w.heap.size + 2, 2, none⟩ (.bool dn5)).setCell ⟨w.heap.size + 2, 3, none⟩ (.int .i64 po5)).setCell ⟨w.heap.size + 2, 4, none⟩ (.int .i64 fa5)).setCell ⟨w.heap.size + 2, 5, none⟩ (.int .i64 wi5)).setCell ⟨w.heap.size + 2, 6, none⟩ (.int .i64 (P4.base : Int))).setCell ⟨w.heap.size + 2, 7, none⟩ (.int .i64 (P4.pages : Int))).setCell ⟨w.heap.size + 2, 8, none⟩ (.int .i64 (P4.most : Int))).setCell ⟨w.heap.size + 2, 9, none⟩ (.int .i64 (P4.epoch : Int))).setCell ⟨w.heap.size + 2, 10, none⟩ (.int .i64 (P4.count : Int))).setCell ⟨w.heap.size + 2, 11, none⟩ (.int .i64 L)).setCell ⟨w.heap.size + 2, 12, none⟩ (.slice A5 n5 c5)).setCell ⟨w.heap.size + 2, 13, none⟩ (.int .i64 (nx : Int))) = wf at *
     clear y0 y1 y2 y3 y4 y5 y6 y7 y8 y9 y10 y11 y12 y13
     have z0 := s1.c0
     have z1 := s1.c1
     have z2 := s1.c2
     have z3 := s1.c3
     have z4 := s1.c4
     have z5 := s1.c5
     have z6 := s1.c6
     have z7 := s1.c7
     have z8 := s1.c8
     have z9 := s1.c9
     have z10 := s1.c10
     have z11 := s1.c11
     have z12 := s1.c12
     have z13 := s1.c13
     refine bodyPost_ret (v := .tuple #[.agg #[.slice bA5 bn5 bc5, .slice wA5 wn5 wc5, .bool dn5, .int .i64 po5, .int .i64 fa5, .int .i64 wi5, .int .i64 (P4.base : Int), .int .i64 (P4.pages : Int), .int .i64 (P4.most : Int), .int .i64 (P4.epoch : Int), .int .i64 (P4.count : Int), .int .i64 L, .slice A5 n5 c5, .int .i64 (nx : Int)], .int .i64 0]) (by simp [results, Tryz.results62, go_sem, z0, z1, z2, z3, z4, z5, z6, z7, z8, z9, z10, z11, z12, z13]) rfl ?_
     rw [HHE2.out]
     have hall : Off (fun k => k = w.heap.size ∨ k = w.heap.size + 2) wx wf := ((HOd.out.mono (fun k _ e => .inl e)).trans (HOe.out.mono (fun k _ e => .inl e))).trans (s1o.mono (fun k _ e => .inr e))
     have hbt := HBt.out
     have hb0 : Below w.heap.size w wx := hbt.trans (HBx.out.mono hbt.size)
     have hbf : Below w.heap.size w wf := hb0.trans (hall.below (fun k e => by rcases e with e | e <;> omega) hb0.size)
     have h3 := HS1.out
     have h4 := HW1.out
     have hS : ∀ k, (k = w.heap.size ∨ k = w.heap.size + 2) → ¬ plusG (plusG (plusG G w1 wr) wr wc) wt wx k := fun k e hk => by
      rcases hk with hk | hk
      ·rcases (HGS.out k hk).1 with h | h
       ·have := HGl.out k h; omega
       ·omega
      ·omega
     have hpg : ∀ k, plusG (plusG (plusG G w1 wr) wr wc) wt wx k → plusG G w wf k := fun k hk => by
      have h5 := hall.size
      have h6 := HBx.out.size
      have h7 := hbt.size
      rcases hk with hk | hk
      ·obtain ⟨hk1, hk2⟩ := HGS.out k hk
       rcases hk1 with h | h
       ·exact .inl h
       ·exact .inr ⟨by omega, by omega⟩
      ·exact .inr ⟨by omega, by omega⟩
     exact ⟨_, rfl, ⟨bA5, bn5, bc5, wA5, wn5, wc5, dn5, po5, fa5, wi5, _, q5, by rw [HNX.out]; rfl, (HK5.out.off hall hS).mono hpg, (HF5.out.off hall hS).mono hpg, HQ5.out⟩, hbf⟩
    ·have t3 : (e4 != 0) = true := bne_iff_ne.2 he4
     have HHE2 := Lib.hid (HHE.out.trans (if_pos he4))
     clear he4 HHE
     go_upto_region 15 with fail
     have y0 := X1.out.c0
     have y1 := X1.out.c1
     have y2 := X1.out.c2
     have y3 := X1.out.c3
     have y4 := X1.out.c4
     have y5 := X1.out.c5
     have y6 := X1.out.c6
     have y7 := X1.out.c7
     have y8 := X1.out.c8
     have y9 := X1.out.c9
     have y10 := X1.out.c10
     have y11 := X1.out.c11
     have y12 := X1.out.c12
     have y13 := X1.out.c13
     have r0 := X3.out.c0
     have r1 := X3.out.c1
     have r2 := X3.out.c2
     have r3 := X3.out.c3
     have r4 := X3.out.c4
     have r5 := X3.out.c5
     have r6 := X3.out.c6
     have r7 := X3.out.c7
     have r8 := X3.out.c8
     have r9 := X3.out.c9
     have r10 := X3.out.c10
     have r11 := X3.out.c11
     have r12 := X3.out.c12
     have r13 := X3.out.c13
     have rz0 := X3.out.fz 0
     have rz1 := X3.out.fz 1
     have rz2 := X3.out.fz 2
     have rz3 := X3.out.fz 3
     have rz4 := X3.out.fz 4
     have rz5 := X3.out.fz 5
     have rz6 := X3.out.fz 6
     have rz7 := X3.out.fz 7
     have rz8 := X3.out.fz 8
     have rz9 := X3.out.fz 9
     have rz10 := X3.out.fz 10
     have rz11 := X3.out.fz 11
     have rz12 := X3.out.fz 12
     have rz13 := X3.out.fz 13
     have HSs1 := Lib.hid (X3.out.all (.slice bA4 bn4 bc4) (.slice wA4 wn4 wc4) (.bool dn4) (.int .i64 po4) (.int .i64 fa4) (.int .i64 wi4) (.int .i64 (P4.base : Int)) (.int .i64 (P4.pages : Int)) (.int .i64 (P4.most : Int)) (.int .i64 (P4.epoch : Int)) (.int .i64 (P4.count : Int)) (.int .i64 L) (.slice A4 n4 c4) (.int .i64 (P4.hand : Int)))
     go_wp2_with fail
     clear r0 r1 r2 r3 r4 r5 r6 r7 r8 r9 r10 r11 r12 r13 rz0 rz1 rz2 rz3 rz4 rz5 rz6 rz7 rz8 rz9 rz10 rz11 rz12 rz13
     obtain ⟨s1, s1o⟩ := HSs1.out _ rfl
     clear HSs1
     generalize ((((((((((((((wt.setCell ⟨w.heap.size + 2, 0, none⟩ (.slice bA4 bn4 bc4)).setCell ⟨w.heap.size + 2, 1, none⟩ (.slice wA4 wn4 wc4)).setCell ⟨w.heap.size + 2, 2, none⟩ (.bool dn4)).setCell ⟨w.heap.size + 2, 3, none⟩ (.int .i64 po4)).setCell ⟨w.heap.size + 2, 4, none⟩ (.int .i64 fa4)).setCell ⟨w.heap.size + 2, 5, none⟩ (.int .i64 wi4)).setCell ⟨w.heap.size + 2, 6, none⟩ (.int .i64 (P4.base : Int))).setCell ⟨w.heap.size + 2, 7, none⟩ (.int .i64 (P4.pages : Int))).setCell ⟨w.heap.size + 2, 8, none⟩ (.int .i64 (P4.most : Int))).setCell ⟨w.heap.size + 2, 9, none⟩ (.int .i64 (P4.epoch : Int))).setCell ⟨w.heap.size + 2, 10, none⟩ (.int .i64 (P4.count : Int))).setCell ⟨w.heap.size + 2, 11, none⟩ (.int .i64 L)).setCell ⟨w.heap.size + 2, 12, none⟩ (.slice A4 n4 c4)).setCell ⟨w.heap.size + 2, 13, none⟩ (.int .i64 (P4.hand : Int))) = wf at *
     clear y0 y1 y2 y3 y4 y5 y6 y7 y8 y9 y10 y11 y12 y13
     have z0 := s1.c0
     have z1 := s1.c1
     have z2 := s1.c2
     have z3 := s1.c3
     have z4 := s1.c4
     have z5 := s1.c5
     have z6 := s1.c6
     have z7 := s1.c7
     have z8 := s1.c8
     have z9 := s1.c9
     have z10 := s1.c10
     have z11 := s1.c11
     have z12 := s1.c12
     have z13 := s1.c13
     refine bodyPost_ret (v := .tuple #[.agg #[.slice bA4 bn4 bc4, .slice wA4 wn4 wc4, .bool dn4, .int .i64 po4, .int .i64 fa4, .int .i64 wi4, .int .i64 (P4.base : Int), .int .i64 (P4.pages : Int), .int .i64 (P4.most : Int), .int .i64 (P4.epoch : Int), .int .i64 (P4.count : Int), .int .i64 L, .slice A4 n4 c4, .int .i64 (P4.hand : Int)], .int .i64 e4]) (by simp [results, Tryz.results62, go_sem, z0, z1, z2, z3, z4, z5, z6, z7, z8, z9, z10, z11, z12, z13]) rfl ?_
     rw [HHE2.out]
     have hbt := HBt.out
     have hbf : Below w.heap.size w wf := hbt.trans (s1o.below (fun k e => by omega) hbt.size)
     have hS : ∀ k, k = w.heap.size + 2 → ¬ plusG (plusG G w1 wr) wr wc k := fun k e hk => by
      have h3 := HS1.out
      rcases (HGS.out k hk).1 with h | h
      ·have := HGl.out k h; omega
      ·omega
     have hpg : ∀ k, plusG (plusG G w1 wr) wr wc k → plusG G w wf k := fun k hk => by
      have h5 := s1o.size
      have h3 := HS1.out
      obtain ⟨hk1, hk2⟩ := HGS.out k hk
      rcases hk1 with h | h
      ·exact .inl h
      ·exact .inr ⟨by omega, by omega⟩
     exact ⟨_, rfl, ⟨bA4, bn4, bc4, wA4, wn4, wc4, dn4, po4, fa4, wi4, _, q4, rfl, (HK4.out.off s1o hS).mono hpg, (HF4.out.off s1o hS).mono hpg, HQ4.out⟩, hbf⟩
end Go.Proofs.YtmdgnjmhbjdlmaaGreat

/-! Rgr -/
namespace Go.Proofs.YtmdgnjmhbjdlmaaGreat
open Go Go.RowKit
structure Rl where
 r : World → World → Prop
 trans : ∀ a b c, r a b → r b c → r a c
 bel : ∀ w w', Below w.heap.size w w' → r w w'
structure MPR (X : Rl) where
 p : Value → World → Prop
 mono : ∀ v w w', X.r w w' → p v w → p v w'
def MPR.any {X : Rl} : MPR X := ⟨fun _ _ => True, fun _ _ _ _ _ => trivial⟩
def MPR.is {X : Rl} (c : Value) : MPR X := ⟨fun v _ => v = c, fun _ _ _ _ h => h⟩
def StepOKR {X : Rl} (P : Program) (ops : Array Oper) (Rs : List (MPR X)) (w0 : World) (AA : (Nat → Value) → Act) (i : Nat) (o : Oper) : Prop :=
 ∀ (f : Nat → Value) (w : World), X.r w0 w → (∀ j, (needsOf .any ops i).contains j = true → (Rs.getD j MPR.any).p (f j) w) →
  ∀ (K : Act → World → Prop) (Q : Exit → Act → World → Prop), (∀ v w', X.r w w' → (Rs.getD i MPR.any).p v w' → K ((AA f).put o.dst v) w') →
   if Region.wanted o (yielded ops (AA f).tmps) = true then Oper.wp P o (AA f) w K Q else K ((AA f).put o.dst undef) w
def StepsR {X : Rl} (P : Program) (ops : Array Oper) (Rs : List (MPR X)) (w0 : World) (AA : (Nat → Value) → Act) (l : List Nat) : Prop := ∀ i ∈ l, ∀ o, ops[i]? = some o → StepOKR P ops Rs w0 AA i o
section
variable {X : Rl} {P : Program} {ops : Array Oper} {Q : Exit → Act → World → Prop} {Rs : List (MPR X)} {w0 : World} {AA : (Nat → Value) → Act}
theorem StepsR.nil : StepsR P ops Rs w0 AA [] := fun _ h => by cases h
theorem StepsR.cons {i : Nat} {l : List Nat} {o : Oper} (ho : ops[i]? = some o) (h : StepOKR P ops Rs w0 AA i o) (hs : StepsR P ops Rs w0 AA l) : StepsR P ops Rs w0 AA (i :: l) := fun j hj x hx => by
 rcases List.mem_cons.1 hj with rfl | hj
 ·rw [ho] at hx
  cases hx
  exact h
 ·exact hs j hj x hx
theorem rel_step {i : Nat} {o : Oper} {a : Act} {w : World} {f : Nat → Value} {listed : Array Bool} (ho : ops[i]? = some o) (hAA : ∀ f, putA ops f a ops.size = AA f) (hd : dstsApart ops = true) (hk : looksBack .any ops = true) (hsel : Region.noSelect ops = true)
  (hs : listed.size = ops.size) (hl : listed.getD i true = false) (hn : ∀ j, (needsOf .any ops i).contains j = true → listed.getD j false = true)
  (hB : X.r w0 w) (hR : ∀ j, j < ops.size → listed.getD j false = true → (Rs.getD j MPR.any).p (f j) w) (hst : StepOKR P ops Rs w0 AA i o)
  (hnlt : ∀ j, (needsOf .any ops i).contains j = true → j < ops.size) :
  wpOp P ops Q i (fun a' w' => ∃ f', a' = putL ops (listed.setIfInBounds i true) f' a ops.size ∧ X.r w0 w' ∧ ∀ j, j < ops.size → (listed.setIfInBounds i true).getD j false = true → (Rs.getD j MPR.any).p (f' j) w') (putL ops listed f a ops.size) w := by
 have hi : i < ops.size := (Array.getElem?_eq_some_iff.1 ho).1
 have hlook : ∀ x ∈ o.looksAt ops, (putL ops listed f a ops.size).tmps[x]? = (AA f).tmps[x]? := by
  intro x hx
  rw [← hAA f]
  refine putL_at _ (fun j hj he => ?_)
  unfold looksBack at hk
  rw [List.all_eq_true] at hk
  have h1 := hk i (List.mem_range.2 hi)
  rw [ho] at h1
  simp only [List.all_eq_true] at h1
  have h2 := h1 x hx j (List.mem_range.2 hj)
  simp only [Bool.or_eq_true] at h2
  rcases h2 with h2 | h2
  ·rw [he] at h2
   simp at h2
  ·exact hn j h2
 have hex : execOp (putL ops listed f a ops.size).eval o = execOp (AA f).eval o := execOp_congr o (fun cs b => Region.noSelect_spec hsel i o cs b ho) (fun x hx => eval_at (fun t e => hlook t (by
  subst e
  exact List.mem_append_left _ (List.mem_filterMap.2 ⟨.tmp t, by simpa using hx, rfl⟩))))
 have hwt : Region.wanted o (yielded ops (putL ops listed f a ops.size).tmps) = Region.wanted o (yielded ops (AA f).tmps) := by
  unfold Region.wanted
  cases hg : o.guard with
  | none => rfl
  | some gw =>
   obtain ⟨g, want⟩ := gw
   simp only
   have hy : yielded ops (putL ops listed f a ops.size).tmps g = yielded ops (AA f).tmps g := by
    unfold yielded
    cases ht : (ops[g]?).bind (·.dst) with
    | none => rfl
    | some t =>
     simp only [Option.bind_some]
     rw [hlook t (by simp [Oper.looksAt, hg, ht])]
   rw [hy]
 have hdef : (AA f).defers = (putL ops listed f a ops.size).defers := by rw [← hAA f, putA_defers, putL_defers]
 have hsz : (AA f).tmps.size = (putL ops listed f a ops.size).tmps.size := by rw [← hAA f, putA_size, putL_size]
 -- the way on
 have fin : ∀ v w', (∃ v2, (AA f).put o.dst v = (AA f).put o.dst v2 ∧ X.r w w' ∧ (Rs.getD i MPR.any).p v2 w') → ∃ f', (putL ops listed f a ops.size).put o.dst v = putL ops (listed.setIfInBounds i true) f' a ops.size ∧ X.r w0 w' ∧ ∀ j, j < ops.size → (listed.setIfInBounds i true).getD j false = true → (Rs.getD j MPR.any).p (f' j) w' := by
  rintro v w' ⟨v2, e, hb, hr⟩
  have hdst : dstOf ops i = o.dst := by unfold dstOf; rw [ho]; rfl
  refine ⟨upd f i v2, ?_, X.trans _ _ _ hB hb, fun j hj hlj => ?_⟩
  ·rw [putL_set hd hs hl ops.size (Nat.le_refl _) hi, hdst]
   exact put_turn hsz e
  ·by_cases e2 : j = i
   ·subst e2
    unfold upd
    rw [if_pos rfl]
    exact hr
   ·unfold upd
    rw [if_neg e2]
    rw [getD_set_ne false (Ne.symm e2)] at hlj
    exact (Rs.getD j MPR.any).mono _ _ _ hb (hR j hj hlj)
 have hK := hst f w hB (fun j hj => hR j (hnlt j hj) (hn j hj)) (fun a' w' => ∃ v2, a' = (AA f).put o.dst v2 ∧ X.r w w' ∧ (Rs.getD i MPR.any).p v2 w') (fun _ _ _ => False) (fun v w' hb hr => ⟨v, rfl, hb, hr⟩)
 unfold wpOp
 rw [ho]
 simp only
 rw [hwt]
 split
 ·rename_i hw
  rw [if_pos hw] at hK
  refine .inl ?_
  unfold Oper.wp at hK ⊢
  rw [hex]
  generalize (execOp (AA f).eval o).run P w = r at *
  cases r with
  | ok n w' =>
   cases n <;> simp only [Oper.upon] at hK ⊢
   case value v => exact fin v w' hK
   case skip => exact fin _ w' hK
   case defer d =>
    exfalso
    obtain ⟨v2, e, _⟩ := hK
    have h1 := congrArg Act.defers e
    rw [put_defers, put_defers] at h1
    have h2 := congrArg List.length h1
    simp at h2
   case enter fn args =>
    refine Calls.mono hK fun e w'' he => ?_
    cases e with
    | returned v => exact fin v w'' he
    | panicked c => exact he.elim
    | outgrown => obtain ⟨_, _, h⟩ := he; exact h.elim
   case row row args => exact Rows.mono hK fun v w'' he => fin v w'' he
  | halt x w' => cases x <;> simp only [Oper.upon] at hK
 ·rename_i hw
  rw [if_neg hw] at hK
  exact fin _ w hK
theorem wpAny_rel (hb : edgesBack .any ops = true) {a : Act} (hAA : ∀ f, putA ops f a ops.size = AA f) (hd : dstsApart ops = true) (hk : looksBack .any ops = true) (hsel : Region.noSelect ops = true)
  (hst : StepsR P ops Rs w0 AA (List.range ops.size)) (hend : ∀ f w, X.r w0 w → (∀ j, j < ops.size → (Rs.getD j MPR.any).p (f j) w) → Q .normal (AA f) w)
  (hnlt : ∀ i j, i < ops.size → (needsOf .any ops i).contains j = true → j < ops.size) :
  ∀ (fuel : Nat) (listed : Array Bool) (f : Nat → Value) (w : World), listed.size = ops.size → closedL .any ops listed → X.r w0 w → (∀ j, j < ops.size → listed.getD j false = true → (Rs.getD j MPR.any).p (f j) w) → ((List.range ops.size).filter (fun j => !listed.getD j false)).length ≤ fuel →
   wpAny P .any ops Q fuel listed (putL ops listed f a ops.size) w := by
 have done : ∀ (listed : Array Bool) (f : Nat → Value) (w : World), listed.size = ops.size → X.r w0 w → (∀ j, j < ops.size → listed.getD j false = true → (Rs.getD j MPR.any).p (f j) w) → Region.ready .any ops listed = [] → Q .normal (putL ops listed f a ops.size) w := by
  intro listed f w hs hB hR hr
  have hall := all_listed hb hs hr ops.size (Nat.le_refl _)
  rw [putL_all hall ops.size (Nat.le_refl _), hAA]
  exact hend f w hB (fun j hj => hR j hj (hall j hj))
 intro fuel
 induction fuel with
 | zero =>
  intro listed f w hs hc hB hR hf
  have hr : Region.ready .any ops listed = [] := by
   rcases hq : Region.ready .any ops listed with _ | ⟨x, xs⟩
   ·rfl
   ·exfalso
    have hx : x ∈ Region.ready .any ops listed := by rw [hq]; simp
    obtain ⟨h1, z, hz, _⟩ := mem_ready.1 hx
    have hxl : x < ops.size := (Array.getElem?_eq_some_iff.1 hz).1
    have hx2 : x ∈ (List.range ops.size).filter (fun j => !listed.getD j false) := by
     rw [List.mem_filter]
     refine ⟨List.mem_range.2 hxl, ?_⟩
     rw [Array.getD_eq_getD_getElem?, Array.getElem?_eq_getElem (show x < listed.size by omega)] at h1 ⊢
     simp only [Option.getD_some] at h1 ⊢
     rw [h1]
     rfl
    rw [List.length_eq_zero_iff.1 (Nat.le_zero.1 hf)] at hx2
    cases hx2
  exact ⟨hr, done listed f w hs hB hR hr⟩
 | succ fuel ih =>
  intro listed f w hs hc hB hR hf
  refine ⟨done listed f w hs hB hR, fun i hi => ?_⟩
  obtain ⟨h1, o, ho, hall⟩ := mem_ready.1 hi
  have hil : i < ops.size := (Array.getElem?_eq_some_iff.1 ho).1
  have hneed : ∀ j, (needsOf .any ops i).contains j = true → listed.getD j false = true := by
   intro j hj
   refine needs_listed hc hs ops.size (depsOf .any ops i) (fun k hk2 => ?_) j (by simpa [needsOf] using hj)
   unfold depsOf at hk2
   rw [ho] at hk2
   simp only [List.mem_map, List.mem_filter, Array.mem_toList_iff] at hk2
   obtain ⟨e, ⟨he, hbd⟩, rfl⟩ := hk2
   exact hall e he hbd
  refine wpOp_mono (fun a' w' => ?_) (rel_step ho hAA hd hk hsel hs h1 hneed hB hR (hst i (List.mem_range.2 hil) o ho) (fun j => hnlt i j hil))
  rintro ⟨f', rfl, hB', hR'⟩
  refine ih (listed.setIfInBounds i true) f' w' (by simp [hs]) (fun j x hx hj e he hbd => ?_) hB' hR' ?_
  ·by_cases e0 : i = j
   ·subst e0
    rw [ho] at hx
    cases hx
    exact getD_set_true (hall e he hbd)
   ·rw [getD_set_ne true e0] at hj
    exact getD_set_true (hc j x hx hj e he hbd)
  ·-- one fewer
   have hlt : ((List.range ops.size).filter (fun j => !(listed.setIfInBounds i true).getD j false)).length < ((List.range ops.size).filter (fun j => !listed.getD j false)).length := by
    have e1 : (List.range ops.size).filter (fun j => !(listed.setIfInBounds i true).getD j false) = ((List.range ops.size).filter (fun j => !listed.getD j false)).filter (fun j => decide (j ≠ i)) := by
     rw [List.filter_filter]
     refine List.filter_congr (fun j hj => ?_)
     by_cases e : j = i
     ·subst e
      have : (listed.setIfInBounds j true).getD j false = true := by
       rw [Array.getD_eq_getD_getElem?, Array.getElem?_setIfInBounds_self_of_lt (by omega)]
       rfl
      rw [this]
      simp
     ·rw [getD_set_ne false (Ne.symm e)]
      simp [e]
    rw [e1]
    refine List.length_filter_lt_length_iff_exists.2 ⟨i, ?_, by simp⟩
    rw [List.mem_filter]
    refine ⟨List.mem_range.2 hil, ?_⟩
    rw [Array.getD_eq_getD_getElem?, Array.getElem?_eq_getElem (show i < listed.size by omega)] at h1 ⊢
    simp only [Option.getD_some] at h1 ⊢
    rw [h1]
    rfl
   omega
theorem wp_region_rel {id : Nat} {a : Act} {w : World} (hm : P.follows .mixedOrders = true) (hb : edgesBack .any ops = true) (hd : dstsApart ops = true) (hk : looksBack .any ops = true) (hsel : Region.noSelect ops = true)
  (hnl : ((List.range ops.size).all fun i => (needsOf .any ops i).all fun j => decide (j < ops.size)) = true) (Rs : List (MPR X)) (hAA : ∀ f, putA ops f a ops.size = AA f)
  (hst : StepsR P ops Rs w.drew AA (List.range ops.size)) (hend : ∀ f w', X.r w.drew w' → (∀ j, j < ops.size → (Rs.getD j MPR.any).p (f j) w') → Q .normal (AA f) w') : (Code.region id ops true).wp P Q a w := by
 refine wp_region_any hm ?_
 have hl0 : ∀ k, k < ops.size → (Array.replicate ops.size false).getD k false = false := fun k hk => by
  rw [Array.getD_eq_getD_getElem?, Array.getElem?_eq_getElem (by simpa using hk)]
  simp
 have h := wpAny_rel (Q := Q) hb hAA hd hk hsel hst hend (fun i j hi hj => by
  rw [List.all_eq_true] at hnl
  have h1 := hnl i (List.mem_range.2 hi)
  rw [List.all_eq_true] at h1
  simpa using h1 j (by simpa using hj)) ops.size (Array.replicate ops.size false) (fun _ => undef) w.drew (by simp) (fun j x hx hj => by
  have hlt := (Array.getElem?_eq_some_iff.1 hx).1
  rw [Array.getD_eq_getD_getElem?, Array.getElem?_eq_getElem (by simpa using hlt)] at hj
  simp at hj) (X.bel _ _ ⟨rfl, rfl, rfl, Nat.le_refl _, fun _ _ => rfl⟩) (fun j hj h => by rw [hl0 j hj] at h; cases h) (by
  refine Nat.le_trans (List.length_filter_le _ _) ?_
  simp)
 rw [putL_none hl0 ops.size (Nat.le_refl _)] at h
 exact h
end
theorem Rl.gr (X : Rl) (w : World) : X.r w w := X.bel _ _ (gr_refl w)
end Go.Proofs.YtmdgnjmhbjdlmaaGreat

/-! PrF -/
namespace Go.Proofs.YtmdgnjmhbjdlmaaGreat
open Go Go.RowKit
theorem rHold_any {G : Nat → Prop} {w : World} {v : Value} {D : DiskS} {P : PoS} {L : Int} (h : RP G w v D P L) (hG : ∀ k, G k → k < w.heap.size) (hpi : PI D P) (hdn : DN D) (hpd : D.pending.length ≤ 1000000) (hct : P.count ≤ 1152921504606846976) (f : FrS) (u : Value) (hu : OB w 0 u f.pay) (hug : ∀ k, u.ownBlock = some k → G k) :
  Calls Tryz.prog 62 #[v, .agg #[.int .i64 (f.page : Int), u, .int .i64 f.lsn, .bool f.dirty, .bool f.used]] w fun e w' => ∃ v', e = .returned (.tuple #[v', .int .i64 (holdR (some L) D P f).2.2]) ∧ RP (plusG G w w') w' v' (holdR (some L) D P f).1 (holdR (some L) D P f).2.1 L ∧ Below w.heap.size w w' := by
 rcases Nat.lt_or_ge P.fr.length P.most with hr | hr
 ·have e : holdR (some L) D P f = (D, pushP P f, 0) := by unfold holdR; rw [if_pos hr]
  rw [e]
  exact rHold_room h hG f u hu hug hpi.m2 hr
 ·exact rHold_full h hG hpi hdn hpd hct f u hu hug (by have := hpi.len; omega)
def PVal (G : Nat → Prop) (w0 w : World) (v : Value) (D : DiskS) (P : PoS) (L : Int) : Prop :=
 ∃ bA2 bn2 bc2 wA2 wn2 wc2 dn2 po2 fa2 wi2 A2 n2 c2 q2, v = .agg #[.slice bA2 bn2 bc2, .slice wA2 wn2 wc2, .bool dn2, .int .i64 po2, .int .i64 fa2, .int .i64 wi2, .int .i64 (P.base : Int), .int .i64 (P.pages : Int), .int .i64 (P.most : Int), .int .i64 (P.epoch : Int), .int .i64 (P.count : Int), .int .i64 L, .slice A2 n2 c2, .int .i64 (P.hand : Int)] ∧ RK (plusG G w0 w) w (.agg #[.slice bA2 bn2 bc2, .slice wA2 wn2 wc2, .bool dn2, .int .i64 po2, .int .i64 fa2, .int .i64 wi2]) D ∧ FG (plusG G w0 w) w (.slice A2 n2 c2) q2 ∧ q2.map Prod.fst = P.fr
theorem PVal.below {G : Nat → Prop} {w0 w w' : World} {v : Value} {D : DiskS} {P : PoS} {L : Int} (h : PVal G w0 w v D P L) (hb : Below w.heap.size w w') : PVal G w0 w' v D P L := by
 obtain ⟨bA, bn, bc, wA, wn, wc, dn, po, fa, wi, A, n, c, q, e, h1, h2, h3⟩ := h
 exact ⟨bA, bn, bc, wA, wn, wc, dn, po, fa, wi, A, n, c, q, e, (h1.below hb).mono (plusG.up hb.size), (h2.below hb).mono (plusG.up hb.size), h3⟩
theorem PVal.of {G : Nat → Prop} {w0 w : World} {v : Value} {D : DiskS} {P : PoS} {L : Int} (h : RP (plusG G w0 w) w v D P L) : PVal G w0 w v D P L := by
 obtain ⟨a1, a2, a3, a4, a5, a6, a7, a8, a9, a10, fv3, q3, rfl, h1, h2, h3⟩ := h
 obtain ⟨A3, c3, rfl, _⟩ := h2.form
 exact ⟨a1, a2, a3, a4, a5, a6, a7, a8, a9, a10, A3, _, c3, q3, rfl, h1, h2, h3⟩
theorem PVal.wide {G : Nat → Prop} {w0 w1 w : World} {v : Value} {D : DiskS} {P : PoS} {L : Int} (h : PVal G w1 w v D P L) (hs : w0.heap.size ≤ w1.heap.size) : PVal G w0 w v D P L := by
 obtain ⟨bA, bn, bc, wA, wn, wc, dn, po, fa, wi, A, n, c, q, e, h1, h2, h3⟩ := h
 exact ⟨bA, bn, bc, wA, wn, wc, dn, po, fa, wi, A, n, c, q, e, h1.mono (plusG.in hs (Nat.le_refl _)), h2.mono (plusG.in hs (Nat.le_refl _)), h3⟩
def ZB (G : Nat → Prop) (w0 : World) (g : Nat) (D : DiskS) (P : PoS) (L : Int) (w : World) : Prop :=
 ∃ bA2 bn2 bc2 wA2 wn2 wc2 dn2 po2 fa2 wi2 A2 n2 c2 q2, B14 w g (.slice bA2 bn2 bc2) (.slice wA2 wn2 wc2) (.bool dn2) (.int .i64 po2) (.int .i64 fa2) (.int .i64 wi2) (.int .i64 (P.base : Int)) (.int .i64 (P.pages : Int)) (.int .i64 (P.most : Int)) (.int .i64 (P.epoch : Int)) (.int .i64 (P.count : Int)) (.int .i64 L) (.slice A2 n2 c2) (.int .i64 (P.hand : Int)) ∧ RK (plusG G w0 w) w (.agg #[.slice bA2 bn2 bc2, .slice wA2 wn2 wc2, .bool dn2, .int .i64 po2, .int .i64 fa2, .int .i64 wi2]) D ∧ FG (plusG G w0 w) w (.slice A2 n2 c2) q2 ∧ q2.map Prod.fst = P.fr
theorem ZB.below {G : Nat → Prop} {w0 w w' : World} {g : Nat} {D : DiskS} {P : PoS} {L : Int} (h : ZB G w0 g D P L w) (hb : Below w.heap.size w w') : ZB G w0 g D P L w' := by
 obtain ⟨bA, bn, bc, wA, wn, wc, dn, po, fa, wi, A, n, c, q, e, h1, h2, h3⟩ := h
 exact ⟨bA, bn, bc, wA, wn, wc, dn, po, fa, wi, A, n, c, q, e.below hb, (h1.below hb).mono (plusG.up hb.size), (h2.below hb).mono (plusG.up hb.size), h3⟩
theorem PVal.off {G : Nat → Prop} {w0 w w' : World} {g : Nat} {v : Value} {D : DiskS} {P : PoS} {L : Int} (h : PVal G w0 w v D P L) (ho : Off (fun k => k = g) w w') (hg : ¬ G g) (hl : g < w0.heap.size) : PVal G w0 w' v D P L := by
 obtain ⟨bA, bn, bc, wA, wn, wc, dn, po, fa, wi, A, n, c, q, e, h1, h2, h3⟩ := h
 have hS : ∀ k, k = g → ¬ plusG G w0 w k := fun k e hk => by
  subst e
  rcases hk with hk | hk
  ·exact hg hk
  ·omega
 exact ⟨bA, bn, bc, wA, wn, wc, dn, po, fa, wi, A, n, c, q, e, (h1.off ho hS).mono (plusG.up ho.size), (h2.off ho hS).mono (plusG.up ho.size), h3⟩
theorem off_drew0 {S : Nat → Prop} {w w' : World} (h : Off S w.drew w') : Off S w w' := ⟨h.os, h.tape, h.output, h.size, h.block⟩
def Box14 (w : World) (g : Nat) : Prop := ∃ x0 x1 x2 x3 x4 x5 x6 x7 x8 x9 x10 x11 x12 x13, B14 w g x0 x1 x2 x3 x4 x5 x6 x7 x8 x9 x10 x11 x12 x13
def RlB (g : Nat) (Z : World → Prop) (hZ : ∀ w w', Below w.heap.size w w' → Z w → Z w') : Rl :=
 ⟨fun w w' => Off (fun k => k = g) w w' ∧ (Box14 w g → Box14 w' g) ∧ (Z w → Z w'), fun _ _ _ h k => ⟨h.1.trans k.1, fun e => k.2.1 (h.2.1 e), fun e => k.2.2 (h.2.2 e)⟩,
  fun w w' hb => ⟨Off.of_below hb, fun ⟨x0, x1, x2, x3, x4, x5, x6, x7, x8, x9, x10, x11, x12, x13, e⟩ => ⟨x0, x1, x2, x3, x4, x5, x6, x7, x8, x9, x10, x11, x12, x13, e.below hb⟩, hZ w w' hb⟩⟩
def MPR.pv {X : Rl} {G : Nat → Prop} {w0 : World} {D : DiskS} {P : PoS} {L : Int} (hX : ∀ v w w', X.r w w' → PVal G w0 w v D P L → PVal G w0 w' v D P L) : MPR X := ⟨fun v w => PVal G w0 w v D P L, hX⟩
def MPR.wd {X : Rl} {Z : World → Prop} (hX : ∀ w w', X.r w w' → Z w → Z w') : MPR X := ⟨fun _ w => Z w, fun _ => hX⟩
def MP.pv (G : Nat → Prop) (w0 : World) (D : DiskS) (P : PoS) (L : Int) : MP := ⟨fun v w => PVal G w0 w v D P L, fun _ _ _ hb h => h.below hb⟩
theorem openP_len {l : List UInt8} (h : l.length = 4096) (ho : openE l = 0) : (openP l).length = 4080 := by
 unfold openE at ho
 unfold openP
 split at ho
 ·rename_i hs
  rw [if_pos hs, List.length_take, List.length_drop, h]
  rfl
 ·cases ho
def RGet (G : Nat → Prop) (w : World) (r : Res) (l : List UInt8) (L : Int) (e : Ending) (w' : World) : Prop :=
 ∃ v' A n c, e = .returned (.tuple #[v', .slice A n c, .int .i64 r.2.2]) ∧ RP (plusG G w w') w' v' r.1 r.2.1 L ∧ BR w' A n l ∧ n ≤ c ∧ c ≤ maxLen ∧ Below w.heap.size w w'
set_option maxRecDepth 100000 in
set_option maxHeartbeats 16000000 in
theorem rGet_bad {G : Nat → Prop} {w : World} {v : Value} {D : DiskS} {P : PoS} {L : Int} (h : RP G w v D P L) (page : Int) (hp : askP P page ≠ 0) :
  Calls Tryz.prog 28 #[v, .int .i64 page] w (RGet G w (getR (some L) D P page) (getL (some L) D P page) L) := by
 have hr : getR (some L) D P page = (D, P, 2) := by
  unfold getR
  rw [if_pos hp]
  unfold askP at hp ⊢
  split at hp
  ·rename_i h; rw [if_pos h]
  ·exact absurd rfl hp
 have hl : getL (some L) D P page = [] := by unfold getL; rw [hr, if_pos (show (2 : Int) ≠ 0 by decide)]
 rw [hr, hl]
 clear hr hl
 have hpg : page < 0 ∨ (0 ≤ page ∧ (P.pages : Int) ≤ page) := by
  unfold askP at hp
  split at hp
  ·omega
  ·exact absurd rfl hp
 obtain ⟨bA, bn, bc, wA, wn, wc, dn, po, fa, wi, fv, q, rfl, h1, h2, h3⟩ := h
 obtain ⟨A, c, rfl, hc1, hc2, hA⟩ := h2.form
 have HT := Lib.hid (two14 w (.slice bA bn bc) (.slice wA wn wc) (.bool dn) (.int .i64 po) (.int .i64 fa) (.int .i64 wi) (.int .i64 (P.base : Int)) (.int .i64 (P.pages : Int)) (.int .i64 (P.most : Int)) (.int .i64 (P.epoch : Int)) (.int .i64 (P.count : Int)) (.int .i64 L) (.slice A q.length c) (.int .i64 (P.hand : Int)))
 have HK := Lib.hid h1
 have HFG := Lib.hid h2
 have HQF := Lib.hid h3
 obtain ⟨n, hn⟩ : ∃ n, n = q.length := ⟨_, rfl⟩
 have HN := Lib.hid hn
 rw [← hn] at HT ⊢
 clear h1 h2 h3 hn hc1 hc2 hA hp
 go_enter Tryz.func28, Tryz.ntmps28
 go_upto_region 1 with fail
 obtain ⟨x1, x2, hb, hs⟩ := HT.out _ rfl
 clear HT
 generalize (w.alloc (.cells #[.slice bA bn bc, .slice wA wn wc, .bool dn, .int .i64 po, .int .i64 fa, .int .i64 wi, .int .i64 (P.base : Int), .int .i64 (P.pages : Int), .int .i64 (P.most : Int), .int .i64 (P.epoch : Int), .int .i64 (P.count : Int), .int .i64 L, .slice A n c, .int .i64 (P.hand : Int)] 42)).alloc (.cells #[.slice none 0 0, .slice none 0 0, .bool false, .int .i64 0, .int .i64 0, .int .i64 0, .int .i64 0, .int .i64 0, .int .i64 0, .int .i64 0, .int .i64 0, .int .i64 0, .slice none 0 0, .int .i64 0] 42) = w1 at *
 have X1 := Lib.hid x1
 have X2 := Lib.hid x2
 have HB := Lib.hid hb
 have y7 := x1.c7
 clear x1 x2 hb hs
 rcases hpg with hpg | ⟨hpg0, hpg⟩
 ·have t1 : decide (page < 0) = true := decide_eq_true hpg
  clear hpg
  go_upto_region 2 with fail
  clear y7
  have y0 := X1.out.c0
  have y1 := X1.out.c1
  have y2 := X1.out.c2
  have y3 := X1.out.c3
  have y4 := X1.out.c4
  have y5 := X1.out.c5
  have y6 := X1.out.c6
  have y7 := X1.out.c7
  have y8 := X1.out.c8
  have y9 := X1.out.c9
  have y10 := X1.out.c10
  have y11 := X1.out.c11
  have y12 := X1.out.c12
  have y13 := X1.out.c13
  have r0 := X2.out.c0
  have r1 := X2.out.c1
  have r2 := X2.out.c2
  have r3 := X2.out.c3
  have r4 := X2.out.c4
  have r5 := X2.out.c5
  have r6 := X2.out.c6
  have r7 := X2.out.c7
  have r8 := X2.out.c8
  have r9 := X2.out.c9
  have r10 := X2.out.c10
  have r11 := X2.out.c11
  have r12 := X2.out.c12
  have r13 := X2.out.c13
  have rz0 := X2.out.fz 0
  have rz1 := X2.out.fz 1
  have rz2 := X2.out.fz 2
  have rz3 := X2.out.fz 3
  have rz4 := X2.out.fz 4
  have rz5 := X2.out.fz 5
  have rz6 := X2.out.fz 6
  have rz7 := X2.out.fz 7
  have rz8 := X2.out.fz 8
  have rz9 := X2.out.fz 9
  have rz10 := X2.out.fz 10
  have rz11 := X2.out.fz 11
  have rz12 := X2.out.fz 12
  have rz13 := X2.out.fz 13
  have HSs1 := Lib.hid (X2.out.all (.slice bA bn bc) (.slice wA wn wc) (.bool dn) (.int .i64 po) (.int .i64 fa) (.int .i64 wi) (.int .i64 (P.base : Int)) (.int .i64 (P.pages : Int)) (.int .i64 (P.most : Int)) (.int .i64 (P.epoch : Int)) (.int .i64 (P.count : Int)) (.int .i64 L) (.slice A n c) (.int .i64 (P.hand : Int)))
  go_wp2_with fail
  clear r0 r1 r2 r3 r4 r5 r6 r7 r8 r9 r10 r11 r12 r13 rz0 rz1 rz2 rz3 rz4 rz5 rz6 rz7 rz8 rz9 rz10 rz11 rz12 rz13
  obtain ⟨s1, s1o⟩ := HSs1.out _ rfl
  clear HSs1
  generalize ((((((((((((((w1.setCell ⟨w.heap.size + 1, 0, none⟩ (.slice bA bn bc)).setCell ⟨w.heap.size + 1, 1, none⟩ (.slice wA wn wc)).setCell ⟨w.heap.size + 1, 2, none⟩ (.bool dn)).setCell ⟨w.heap.size + 1, 3, none⟩ (.int .i64 po)).setCell ⟨w.heap.size + 1, 4, none⟩ (.int .i64 fa)).setCell ⟨w.heap.size + 1, 5, none⟩ (.int .i64 wi)).setCell ⟨w.heap.size + 1, 6, none⟩ (.int .i64 (P.base : Int))).setCell ⟨w.heap.size + 1, 7, none⟩ (.int .i64 (P.pages : Int))).setCell ⟨w.heap.size + 1, 8, none⟩ (.int .i64 (P.most : Int))).setCell ⟨w.heap.size + 1, 9, none⟩ (.int .i64 (P.epoch : Int))).setCell ⟨w.heap.size + 1, 10, none⟩ (.int .i64 (P.count : Int))).setCell ⟨w.heap.size + 1, 11, none⟩ (.int .i64 L)).setCell ⟨w.heap.size + 1, 12, none⟩ (.slice A n c)).setCell ⟨w.heap.size + 1, 13, none⟩ (.int .i64 (P.hand : Int))) = wf at *
  clear y0 y1 y2 y3 y4 y5 y6 y7 y8 y9 y10 y11 y12 y13
  have z0 := s1.c0
  have z1 := s1.c1
  have z2 := s1.c2
  have z3 := s1.c3
  have z4 := s1.c4
  have z5 := s1.c5
  have z6 := s1.c6
  have z7 := s1.c7
  have z8 := s1.c8
  have z9 := s1.c9
  have z10 := s1.c10
  have z11 := s1.c11
  have z12 := s1.c12
  have z13 := s1.c13
  refine bodyPost_ret (v := .tuple #[.agg #[.slice bA bn bc, .slice wA wn wc, .bool dn, .int .i64 po, .int .i64 fa, .int .i64 wi, .int .i64 (P.base : Int), .int .i64 (P.pages : Int), .int .i64 (P.most : Int), .int .i64 (P.epoch : Int), .int .i64 (P.count : Int), .int .i64 L, .slice A n c, .int .i64 (P.hand : Int)], .slice none 0 0, .int .i64 2]) (by simp [results, Tryz.results28, go_sem, z0, z1, z2, z3, z4, z5, z6, z7, z8, z9, z10, z11, z12, z13]) rfl ?_
  have hbf : Below w.heap.size w wf := HB.out.trans (s1o.below (fun k e => by omega) HB.out.size)
  exact ⟨_, none, 0, 0, rfl, ⟨bA, bn, bc, wA, wn, wc, dn, po, fa, wi, _, q, rfl, (HK.out.below hbf).mono (fun k e => .inl e), by rw [HN.out]; exact (HFG.out.below hbf).mono (fun k e => .inl e), HQF.out⟩, ⟨rfl, fun h => absurd h (Nat.lt_irrefl 0)⟩, Nat.le_refl _, by unfold maxLen; omega, hbf⟩
 ·have t1 : decide (page < 0) = false := decide_eq_false (by omega)
  have t2 : decide (page ≥ (P.pages : Int)) = true := decide_eq_true hpg
  have t2' : decide ((P.pages : Int) ≤ page) = true := decide_eq_true hpg
  clear hpg hpg0
  go_upto_region 2 with fail
  clear y7 t2 t2'
  have y0 := X1.out.c0
  have y1 := X1.out.c1
  have y2 := X1.out.c2
  have y3 := X1.out.c3
  have y4 := X1.out.c4
  have y5 := X1.out.c5
  have y6 := X1.out.c6
  have y7 := X1.out.c7
  have y8 := X1.out.c8
  have y9 := X1.out.c9
  have y10 := X1.out.c10
  have y11 := X1.out.c11
  have y12 := X1.out.c12
  have y13 := X1.out.c13
  have r0 := X2.out.c0
  have r1 := X2.out.c1
  have r2 := X2.out.c2
  have r3 := X2.out.c3
  have r4 := X2.out.c4
  have r5 := X2.out.c5
  have r6 := X2.out.c6
  have r7 := X2.out.c7
  have r8 := X2.out.c8
  have r9 := X2.out.c9
  have r10 := X2.out.c10
  have r11 := X2.out.c11
  have r12 := X2.out.c12
  have r13 := X2.out.c13
  have rz0 := X2.out.fz 0
  have rz1 := X2.out.fz 1
  have rz2 := X2.out.fz 2
  have rz3 := X2.out.fz 3
  have rz4 := X2.out.fz 4
  have rz5 := X2.out.fz 5
  have rz6 := X2.out.fz 6
  have rz7 := X2.out.fz 7
  have rz8 := X2.out.fz 8
  have rz9 := X2.out.fz 9
  have rz10 := X2.out.fz 10
  have rz11 := X2.out.fz 11
  have rz12 := X2.out.fz 12
  have rz13 := X2.out.fz 13
  have HSs1 := Lib.hid (X2.out.all (.slice bA bn bc) (.slice wA wn wc) (.bool dn) (.int .i64 po) (.int .i64 fa) (.int .i64 wi) (.int .i64 (P.base : Int)) (.int .i64 (P.pages : Int)) (.int .i64 (P.most : Int)) (.int .i64 (P.epoch : Int)) (.int .i64 (P.count : Int)) (.int .i64 L) (.slice A n c) (.int .i64 (P.hand : Int)))
  go_wp2_with fail
  clear r0 r1 r2 r3 r4 r5 r6 r7 r8 r9 r10 r11 r12 r13 rz0 rz1 rz2 rz3 rz4 rz5 rz6 rz7 rz8 rz9 rz10 rz11 rz12 rz13
  obtain ⟨s1, s1o⟩ := HSs1.out _ rfl
  clear HSs1
  generalize ((((((((((((((w1.setCell ⟨w.heap.size + 1, 0, none⟩ (.slice bA bn bc)).setCell ⟨w.heap.size + 1, 1, none⟩ (.slice wA wn wc)).setCell ⟨w.heap.size + 1, 2, none⟩ (.bool dn)).setCell ⟨w.heap.size + 1, 3, none⟩ (.int .i64 po)).setCell ⟨w.heap.size + 1, 4, none⟩ (.int .i64 fa)).setCell ⟨w.heap.size + 1, 5, none⟩ (.int .i64 wi)).setCell ⟨w.heap.size + 1, 6, none⟩ (.int .i64 (P.base : Int))).setCell ⟨w.heap.size + 1, 7, none⟩ (.int .i64 (P.pages : Int))).setCell ⟨w.heap.size + 1, 8, none⟩ (.int .i64 (P.most : Int))).setCell ⟨w.heap.size + 1, 9, none⟩ (.int .i64 (P.epoch : Int))).setCell ⟨w.heap.size + 1, 10, none⟩ (.int .i64 (P.count : Int))).setCell ⟨w.heap.size + 1, 11, none⟩ (.int .i64 L)).setCell ⟨w.heap.size + 1, 12, none⟩ (.slice A n c)).setCell ⟨w.heap.size + 1, 13, none⟩ (.int .i64 (P.hand : Int))) = wf at *
  clear y0 y1 y2 y3 y4 y5 y6 y7 y8 y9 y10 y11 y12 y13
  have z0 := s1.c0
  have z1 := s1.c1
  have z2 := s1.c2
  have z3 := s1.c3
  have z4 := s1.c4
  have z5 := s1.c5
  have z6 := s1.c6
  have z7 := s1.c7
  have z8 := s1.c8
  have z9 := s1.c9
  have z10 := s1.c10
  have z11 := s1.c11
  have z12 := s1.c12
  have z13 := s1.c13
  refine bodyPost_ret (v := .tuple #[.agg #[.slice bA bn bc, .slice wA wn wc, .bool dn, .int .i64 po, .int .i64 fa, .int .i64 wi, .int .i64 (P.base : Int), .int .i64 (P.pages : Int), .int .i64 (P.most : Int), .int .i64 (P.epoch : Int), .int .i64 (P.count : Int), .int .i64 L, .slice A n c, .int .i64 (P.hand : Int)], .slice none 0 0, .int .i64 2]) (by simp [results, Tryz.results28, go_sem, z0, z1, z2, z3, z4, z5, z6, z7, z8, z9, z10, z11, z12, z13]) rfl ?_
  have hbf : Below w.heap.size w wf := HB.out.trans (s1o.below (fun k e => by omega) HB.out.size)
  exact ⟨_, none, 0, 0, rfl, ⟨bA, bn, bc, wA, wn, wc, dn, po, fa, wi, _, q, rfl, (HK.out.below hbf).mono (fun k e => .inl e), by rw [HN.out]; exact (HFG.out.below hbf).mono (fun k e => .inl e), HQF.out⟩, ⟨rfl, fun h => absurd h (Nat.lt_irrefl 0)⟩, Nat.le_refl _, by unfold maxLen; omega, hbf⟩
set_option maxRecDepth 100000 in
set_option maxHeartbeats 16000000 in
theorem rGet_found {G : Nat → Prop} {w : World} {v : Value} {D : DiskS} {P : PoS} {L : Int} (h : RP G w v D P L) (hG : ∀ k, G k → k < w.heap.size) (hpi : PI D P) (page i : Nat) (hp : page < P.pages) (hi : findP P page = some i) :
  Calls Tryz.prog 28 #[v, .int .i64 (page : Int)] w (RGet G w (getR (some L) D P (page : Int)) (getL (some L) D P (page : Int)) L) := by
 have hil := (findP_some hi).1
 have hr : getR (some L) D P (page : Int) = (D, useP P i, 0) := by
  unfold getR
  rw [if_neg (by unfold askP; rw [if_neg (by omega)]; simp), Int.toNat_natCast, hi]
 have hl : getL (some L) D P (page : Int) = (P.fr.getD i fr0).pay := by unfold getL; rw [hr, if_neg (show ¬ ((0 : Int) ≠ 0) by decide), Int.toNat_natCast, hi]
 rw [hr, hl]
 clear hr hl
 have HFI : Hid (∀ W v', RP G W v' D P L → Calls Tryz.prog 46 #[v', .int .i64 (page : Int)] W fun e w' => e = .returned (.int .i64 (i : Int)) ∧ Below W.heap.size W w') := Lib.hid (fun W v' h' => (rFind_any h' hpi page).mono (by
  rw [hi]
  rintro e w' ⟨rfl, hb⟩
  exact ⟨rfl, hb⟩))
 obtain ⟨bA, bn, bc, wA, wn, wc, dn, po, fa, wi, fv, q, rfl, h1, h2, h3⟩ := h
 have hlen : P.fr.length = q.length := by rw [← h3, List.length_map]
 obtain ⟨A, c, rfl, hc1, hc2, hA⟩ := h2.form
 obtain ⟨g1, rfl, hg1, _⟩ := hA (by omega)
 obtain ⟨⟨pf, pu⟩, hpq⟩ : ∃ p, q[i]? = some p := ⟨_, List.getElem?_eq_getElem (by omega)⟩
 have hpf : P.fr.getD i fr0 = pf := qf_at h3 hpq
 have hpu := (h2.pv _ (List.mem_of_getElem? hpq)).form
 dsimp only at hpu
 obtain ⟨Ap, cp, rfl, hbr, hcp, hcm⟩ := hpu
 have HT := Lib.hid (two14 w (.slice bA bn bc) (.slice wA wn wc) (.bool dn) (.int .i64 po) (.int .i64 fa) (.int .i64 wi) (.int .i64 (P.base : Int)) (.int .i64 (P.pages : Int)) (.int .i64 (P.most : Int)) (.int .i64 (P.epoch : Int)) (.int .i64 (P.count : Int)) (.int .i64 L) (.slice (some ⟨g1, 0, none⟩) q.length c) (.int .i64 (P.hand : Int)))
 have HK := Lib.hid h1
 have HFG := Lib.hid h2
 have HQF := Lib.hid h3
 have HGl := Lib.hid hG
 have HP := Lib.hid hpq
 have HPF := Lib.hid hpf
 have HBR := Lib.hid hbr
 have HCP : Hid (pf.pay.length ≤ cp ∧ cp ≤ maxLen) := Lib.hid ⟨hcp, hcm⟩
 have HIL := Lib.hid hil
 have HMM : Hid (P.fr.length ≤ 256) := Lib.hid (by have := hpi.len; have := hpi.m2; omega)
 obtain ⟨n, hn⟩ : ∃ n, n = q.length := ⟨_, rfl⟩
 have HN := Lib.hid hn
 have i0 : (0 : Int) ≤ (i : Int) := Int.natCast_nonneg _
 have i1 : (i : Int) < (n : Int) := by omega
 have t3 : decide ((i : Int) ≥ 0) = true := decide_eq_true i0
 have t3' : decide ((0 : Int) ≤ (i : Int)) = true := decide_eq_true i0
 have t1 : decide ((page : Int) < 0) = false := decide_eq_false (by omega)
 have t2 : decide ((page : Int) ≥ (P.pages : Int)) = false := decide_eq_false (by omega)
 have t2' : decide ((P.pages : Int) ≤ (page : Int)) = false := decide_eq_false (by omega)
 have t4 : decide (P.pages ≤ page) = false := decide_eq_false (by omega)
 rw [← hn] at HT ⊢
 clear h1 h2 h3 hn hc1 hc2 hA hp hi hG hpi hlen hpq hpf hbr hcp hcm hil
 go_enter Tryz.func28, Tryz.ntmps28
 go_upto_region 1 with fail
 obtain ⟨x1, x2, hb, hs⟩ := HT.out _ rfl
 clear HT
 generalize (w.alloc (.cells #[.slice bA bn bc, .slice wA wn wc, .bool dn, .int .i64 po, .int .i64 fa, .int .i64 wi, .int .i64 (P.base : Int), .int .i64 (P.pages : Int), .int .i64 (P.most : Int), .int .i64 (P.epoch : Int), .int .i64 (P.count : Int), .int .i64 L, .slice (some ⟨g1, 0, none⟩) n c, .int .i64 (P.hand : Int)] 42)).alloc (.cells #[.slice none 0 0, .slice none 0 0, .bool false, .int .i64 0, .int .i64 0, .int .i64 0, .int .i64 0, .int .i64 0, .int .i64 0, .int .i64 0, .int .i64 0, .int .i64 0, .slice none 0 0, .int .i64 0] 42) = w1 at *
 have X1 := Lib.hid x1
 have X2 := Lib.hid x2
 have HB := Lib.hid hb
 have HS1 := Lib.hid hs
 have y7 := x1.c7
 clear x1 x2 hb hs
 go_upto_region 3 with fail
 clear y7 t1 t2 t2' t4
 have y0 := X1.out.c0
 have y1 := X1.out.c1
 have y2 := X1.out.c2
 have y3 := X1.out.c3
 have y4 := X1.out.c4
 have y5 := X1.out.c5
 have y6 := X1.out.c6
 have y7 := X1.out.c7
 have y8 := X1.out.c8
 have y9 := X1.out.c9
 have y10 := X1.out.c10
 have y11 := X1.out.c11
 have y12 := X1.out.c12
 have y13 := X1.out.c13
 go_upto_region 4 with fail
 refine (HFI.out _ _ ⟨bA, bn, bc, wA, wn, wc, dn, po, fa, wi, _, q, rfl, HK.out.below HB.out, by rw [HN.out]; exact HFG.out.below HB.out, HQF.out⟩).mono ?_
 rintro e w2 ⟨rfl, hb2⟩
 have HB2 := Lib.hid hb2
 have X1 := Lib.hid (X1.out.below hb2)
 have X2 := Lib.hid (X2.out.below hb2)
 have HBW : Hid (Below w.heap.size w w2) := Lib.hid (HB.out.trans (hb2.mono HB.out.size))
 clear hb2 HFI y0 y1 y2 y3 y4 y5 y6 y7 y8 y9 y10 y11 y12 y13
 have y12 := X1.out.c12
 obtain ⟨f0, f1, f2, f3, f4⟩ := rf_cells (by have := (HFG.out.below HBW.out).tk; rw [← HN.out] at this; exact this) HP.out
 dsimp only at f0 f1 f2 f3 f4
 go_upto_region 5 with fail
 go_upto_region 6 with fail
 clear f0 f1 f2 f3 f4 y12
 have X5 := Lib.hid (F5.new w2 (.int .i64 (pf.page : Int)) (.slice Ap pf.pay.length cp) (.int .i64 pf.lsn) (.bool pf.dirty) (.bool pf.used))
 have HBa : Hid (Below w2.heap.size w2 (w2.alloc (.cells #[.int .i64 (pf.page : Int), .slice Ap pf.pay.length cp, .int .i64 pf.lsn, .bool pf.dirty, .bool pf.used] 98))) := Lib.hid (gr_alloc (gr_refl w2) _)
 generalize w2.alloc (.cells #[.int .i64 (pf.page : Int), .slice Ap pf.pay.length cp, .int .i64 pf.lsn, .bool pf.dirty, .bool pf.used] 98) = w3 at *
 obtain ⟨g5, hg5⟩ : ∃ g, g = w2.heap.size := ⟨_, rfl⟩
 rw [← hg5] at X5 ⊢
 have HG5 := Lib.hid hg5
 have u4 := X5.out.c4
 have uz4 := X5.out.fz 4
 have X5b := Lib.hid (X5.out.set4 (.bool true))
 have HO4 : Hid (Off (fun k => k = g5) w3 (w3.setCell ⟨g5, 4, none⟩ (.bool true))) := Lib.hid ((Off.refl _ w3).setCell _ rfl)
 clear hg5
 go_upto_region 7 with fail
 clear u4 uz4 X5
 generalize w3.setCell ⟨g5, 4, none⟩ (.bool true) = w4 at *
 have hw2 : w.heap.size + 2 ≤ w2.heap.size := by have := HS1.out; have := HB2.out.size; omega
 have X1 := Lib.hid ((X1.out.below HBa.out).off HO4.out (by have := HG5.out; omega))
 have X2 := Lib.hid ((X2.out.below HBa.out).off HO4.out (by have := HG5.out; omega))
 have HB4 : Hid (Below w.heap.size w w4) := Lib.hid ((HBW.out.trans (HBa.out.mono HBW.out.size)).trans (HO4.out.below (fun k e => by have := HG5.out; omega) (Nat.le_trans HBW.out.size HBa.out.size)))
 have HGI : Hid (∀ W, Off (fun k => k = w.heap.size + 1) w4 W → ∀ k, G k → k < W.heap.size) := Lib.hid (fun W hW k hk => Nat.lt_of_lt_of_le (HGl.out k hk) (Nat.le_trans HB4.out.size hW.size))
 have HWI : Hid (∀ W, Off (fun k => k = w.heap.size + 1) w4 W → Calls Tryz.prog 59 #[.agg #[.slice bA bn bc, .slice wA wn wc, .bool dn, .int .i64 po, .int .i64 fa, .int .i64 wi, .int .i64 (P.base : Int), .int .i64 (P.pages : Int), .int .i64 (P.most : Int), .int .i64 (P.epoch : Int), .int .i64 (P.count : Int), .int .i64 L, .slice (some ⟨g1, 0, none⟩) n c, .int .i64 (P.hand : Int)], .int .i64 (i : Int), .agg #[.int .i64 (pf.page : Int), .slice Ap pf.pay.length cp, .int .i64 pf.lsn, .bool pf.dirty, .bool true]] W fun e w' => ∃ v', e = .returned v' ∧ PVal G w4 w' v' D (useP P i) L ∧ Below W.heap.size W w') := Lib.hid (fun W hW => by
  have hbw : Below w.heap.size w W := HB4.out.trans (hW.below (fun k e => by omega) HB4.out.size)
  refine (rWith_any (v := .agg #[.slice bA bn bc, .slice wA wn wc, .bool dn, .int .i64 po, .int .i64 fa, .int .i64 wi, .int .i64 (P.base : Int), .int .i64 (P.pages : Int), .int .i64 (P.most : Int), .int .i64 (P.epoch : Int), .int .i64 (P.count : Int), .int .i64 L, .slice (some ⟨g1, 0, none⟩) n c, .int .i64 (P.hand : Int)]) (G := G) (P := P) (D := D) (L := L) ⟨bA, bn, bc, wA, wn, wc, dn, po, fa, wi, _, q, rfl, HK.out.below hbw, by rw [HN.out]; exact HFG.out.below hbw, HQF.out⟩ (HGI.out W hW) i HIL.out { pf with used := true } (.slice Ap pf.pay.length cp) ((HFG.out.below hbw).pv _ (List.mem_of_getElem? HP.out)) (HFG.out.pg _ (List.mem_of_getElem? HP.out)) HMM.out).mono ?_
  rintro e w' ⟨v', rfl, hrp, hb⟩
  refine ⟨v', rfl, (PVal.of (P := useP P i) ?_).wide hW.size, hb⟩
  have e2 : useP P i = { P with fr := P.fr.set i { pf with used := true } } := by unfold useP; rw [HPF.out]
  rw [e2]
  exact hrp)
 have Y0 := Lib.hid X1.out.c0
 have Y1 := Lib.hid X1.out.c1
 have Y2 := Lib.hid X1.out.c2
 have Y3 := Lib.hid X1.out.c3
 have Y4 := Lib.hid X1.out.c4
 have Y5 := Lib.hid X1.out.c5
 have Y6 := Lib.hid X1.out.c6
 have Y7 := Lib.hid X1.out.c7
 have Y8 := Lib.hid X1.out.c8
 have Y9 := Lib.hid X1.out.c9
 have Y10 := Lib.hid X1.out.c10
 have Y11 := Lib.hid X1.out.c11
 have Y12 := Lib.hid X1.out.c12
 have Y13 := Lib.hid X1.out.c13
 have Z0 := Lib.hid X5b.out.c0
 have Z1 := Lib.hid X5b.out.c1
 have Z2 := Lib.hid X5b.out.c2
 have Z3 := Lib.hid X5b.out.c3
 have Z4 := Lib.hid X5b.out.c4
 have hgG : ¬ G (w.heap.size + 1) := fun h => by have := HGl.out _ h; omega
 have hg4 : w.heap.size + 1 < w4.heap.size := by have := HS1.out; have := HB2.out.size; have := HBa.out.size; have := HO4.out.size; omega
 obtain ⟨XR, hXR⟩ : ∃ X, X = RlB (w.heap.size + 1) (ZB G w4 (w.heap.size + 1) D (useP P i) L) (fun _ _ hb h => h.below hb) := ⟨_, rfl⟩
 have HXR : Hid (∀ W W', XR.r W W' ↔ (Off (fun k => k = w.heap.size + 1) W W' ∧ (Box14 W (w.heap.size + 1) → Box14 W' (w.heap.size + 1)) ∧ (ZB G w4 (w.heap.size + 1) D (useP P i) L W → ZB G w4 (w.heap.size + 1) D (useP P i) L W'))) := Lib.hid (fun W W' => by rw [hXR]; exact Iff.rfl)
 have HPX : ∀ v W W', XR.r W W' → PVal G w4 W v D (useP P i) L → PVal G w4 W' v D (useP P i) L := fun v W W' hr h => h.off ((HXR.out W W').1 hr).1 hgG hg4
 have HZX : ∀ W W', XR.r W W' → ZB G w4 (w.heap.size + 1) D (useP P i) L W → ZB G w4 (w.heap.size + 1) D (useP P i) L W' := fun W W' hr => ((HXR.out W W').1 hr).2.2
 have HKA := Lib.hid (fun (W : World) (hr : XR.r w4.drew W) => (show B14 w4.drew w.heap.size (.slice bA bn bc) (.slice wA wn wc) (.bool dn) (.int .i64 po) (.int .i64 fa) (.int .i64 wi) (.int .i64 (P.base : Int)) (.int .i64 (P.pages : Int)) (.int .i64 (P.most : Int)) (.int .i64 (P.epoch : Int)) (.int .i64 (P.count : Int)) (.int .i64 L) (.slice (some ⟨g1, 0, none⟩) n c) (.int .i64 (P.hand : Int)) from X1.out).off ((HXR.out _ W).1 hr).1 (by omega))
 have HKB := Lib.hid (fun (W : World) (hr : XR.r w4.drew W) => (show F5 w4.drew g5 (.int .i64 (pf.page : Int)) (.slice Ap pf.pay.length cp) (.int .i64 pf.lsn) (.bool pf.dirty) (.bool true) from X5b.out).off ((HXR.out _ W).1 hr).1 (by have := HG5.out; omega))
 have HBX : Hid (Box14 w4.drew (w.heap.size + 1)) := Lib.hid ⟨_, _, _, _, _, _, _, _, _, _, _, _, _, _, X2.out⟩
 have HST : Hid (∀ W v, PVal G w4 W v D (useP P i) L → XR.r w4.drew W → ∃ bA2 bn2 bc2 wA2 wn2 wc2 dn2 po2 fa2 wi2 A2 n2 c2 x0 x1 x2 x3 x4 x5 x6 x7 x8 x9 x10 x11 x12 x13, v = .agg #[.slice bA2 bn2 bc2, .slice wA2 wn2 wc2, .bool dn2, .int .i64 po2, .int .i64 fa2, .int .i64 wi2, .int .i64 ((useP P i).base : Int), .int .i64 ((useP P i).pages : Int), .int .i64 ((useP P i).most : Int), .int .i64 ((useP P i).epoch : Int), .int .i64 ((useP P i).count : Int), .int .i64 L, .slice A2 n2 c2, .int .i64 ((useP P i).hand : Int)] ∧ B14 W (w.heap.size + 1) x0 x1 x2 x3 x4 x5 x6 x7 x8 x9 x10 x11 x12 x13 ∧ ∀ W', W' = ((((((((((((((W.setCell ⟨w.heap.size + 1, 0, none⟩ (.slice bA2 bn2 bc2)).setCell ⟨w.heap.size + 1, 1, none⟩ (.slice wA2 wn2 wc2)).setCell ⟨w.heap.size + 1, 2, none⟩ (.bool dn2)).setCell ⟨w.heap.size + 1, 3, none⟩ (.int .i64 po2)).setCell ⟨w.heap.size + 1, 4, none⟩ (.int .i64 fa2)).setCell ⟨w.heap.size + 1, 5, none⟩ (.int .i64 wi2)).setCell ⟨w.heap.size + 1, 6, none⟩ (.int .i64 ((useP P i).base : Int))).setCell ⟨w.heap.size + 1, 7, none⟩ (.int .i64 ((useP P i).pages : Int))).setCell ⟨w.heap.size + 1, 8, none⟩ (.int .i64 ((useP P i).most : Int))).setCell ⟨w.heap.size + 1, 9, none⟩ (.int .i64 ((useP P i).epoch : Int))).setCell ⟨w.heap.size + 1, 10, none⟩ (.int .i64 ((useP P i).count : Int))).setCell ⟨w.heap.size + 1, 11, none⟩ (.int .i64 L)).setCell ⟨w.heap.size + 1, 12, none⟩ (.slice A2 n2 c2)).setCell ⟨w.heap.size + 1, 13, none⟩ (.int .i64 ((useP P i).hand : Int))) → XR.r W W' ∧ ZB G w4 (w.heap.size + 1) D (useP P i) L W') := Lib.hid (fun W v hv hr => by
  obtain ⟨bA2, bn2, bc2, wA2, wn2, wc2, dn2, po2, fa2, wi2, A2, n2, c2, q2, rfl, hk2, hf2, hq2⟩ := hv
  obtain ⟨x0, x1, x2, x3, x4, x5, x6, x7, x8, x9, x10, x11, x12, x13, hx⟩ := ((HXR.out _ W).1 hr).2.1 HBX.out
  refine ⟨bA2, bn2, bc2, wA2, wn2, wc2, dn2, po2, fa2, wi2, A2, n2, c2, x0, x1, x2, x3, x4, x5, x6, x7, x8, x9, x10, x11, x12, x13, rfl, hx, fun W' eW => ?_⟩
  obtain ⟨e1, e2⟩ := hx.all (.slice bA2 bn2 bc2) (.slice wA2 wn2 wc2) (.bool dn2) (.int .i64 po2) (.int .i64 fa2) (.int .i64 wi2) (.int .i64 ((useP P i).base : Int)) (.int .i64 ((useP P i).pages : Int)) (.int .i64 ((useP P i).most : Int)) (.int .i64 ((useP P i).epoch : Int)) (.int .i64 ((useP P i).count : Int)) (.int .i64 L) (.slice A2 n2 c2) (.int .i64 ((useP P i).hand : Int)) W' eW
  have hS : ∀ k, k = w.heap.size + 1 → ¬ plusG G w4 W k := fun k e hk => by
   subst e
   rcases hk with hk | hk
   ·exact hgG hk
   ·omega
  have hz : ZB G w4 (w.heap.size + 1) D (useP P i) L W' := ⟨bA2, bn2, bc2, wA2, wn2, wc2, dn2, po2, fa2, wi2, A2, n2, c2, q2, e1, (hk2.off e2 hS).mono (plusG.up e2.size), (hf2.off e2 hS).mono (plusG.up e2.size), hq2⟩
  exact ⟨(HXR.out _ _).2 ⟨e2, fun _ => ⟨_, _, _, _, _, _, _, _, _, _, _, _, _, _, e1⟩, fun _ => hz⟩, hz⟩)
 have HRB : Hid (∀ W W', Below W.heap.size W W' → XR.r W W') := Lib.hid (fun W W' hb => XR.bel W W' hb)
 have HBR4 : Hid (∀ W, XR.r w4.drew W → Below w4.heap.size w4 W → True) := Lib.hid (fun _ _ _ => trivial)
 clear hXR HBR4
 refine' wp_region_rel (X := XR) (by kernel_rfl) (by kernel_rfl) (by kernel_rfl) (by kernel_rfl) (by kernel_rfl) (by kernel_rfl)
  [MPR.is (.agg #[.slice bA bn bc, .slice wA wn wc, .bool dn, .int .i64 po, .int .i64 fa, .int .i64 wi, .int .i64 (P.base : Int), .int .i64 (P.pages : Int), .int .i64 (P.most : Int), .int .i64 (P.epoch : Int), .int .i64 (P.count : Int), .int .i64 L, .slice (some ⟨g1, 0, none⟩) n c, .int .i64 (P.hand : Int)]), MPR.is (.int .i64 (i : Int)), MPR.is (.agg #[.int .i64 (pf.page : Int), .slice Ap pf.pay.length cp, .int .i64 pf.lsn, .bool pf.dirty, .bool true]), MPR.pv HPX, MPR.is (.pointer (some ⟨g5, 1, none⟩)), MPR.is (.slice Ap pf.pay.length cp), MPR.wd HZX, MPR.is (.slice Ap pf.pay.length cp), MPR.is (.int .i64 0)] ?hAA1 ?hst1 ?hend1
 case hAA1 =>
  intro f
  conv => lhs; simp only [putA, dstOf, List.size_toArray, List.length_cons, List.length_nil, Nat.zero_add, Nat.reduceAdd, List.getElem?_toArray, List.getElem?_cons_zero, List.getElem?_cons_succ, Option.bind_some, Act.put, List.setIfInBounds_toArray, List.set_cons_zero, List.set_cons_succ]
  first | done | exact rfl
 case hst1 =>
  change StepsR _ _ _ _ _ [0, 1, 2, 3, 4, 5, 6, 7, 8]
  refine StepsR.cons rfl ?_ ?_
  ·intro f wz hB h K Q hK
   clear h
   try simp only [List.getElem_toArray, List.getElem_cons_zero]
   try rw [if_pos (by rfl)]
   have y0 := (HKA.out _ hB).c0
   have y1 := (HKA.out _ hB).c1
   have y2 := (HKA.out _ hB).c2
   have y3 := (HKA.out _ hB).c3
   have y4 := (HKA.out _ hB).c4
   have y5 := (HKA.out _ hB).c5
   have y6 := (HKA.out _ hB).c6
   have y7 := (HKA.out _ hB).c7
   have y8 := (HKA.out _ hB).c8
   have y9 := (HKA.out _ hB).c9
   have y10 := (HKA.out _ hB).c10
   have y11 := (HKA.out _ hB).c11
   have y12 := (HKA.out _ hB).c12
   have y13 := (HKA.out _ hB).c13
   have y14 := (HKB.out _ hB).c0
   have y15 := (HKB.out _ hB).c1
   have y16 := (HKB.out _ hB).c2
   have y17 := (HKB.out _ hB).c3
   have y18 := (HKB.out _ hB).c4
   go_simp
   exact hK _ _ (Rl.gr _ _) rfl
  refine StepsR.cons rfl ?_ ?_
  ·intro f wz hB h K Q hK
   clear h
   try rw [if_pos (by rfl)]
   go_simp
   exact hK _ _ (Rl.gr _ _) rfl
  refine StepsR.cons rfl ?_ ?_
  ·intro f wz hB h K Q hK
   clear h
   try rw [if_pos (by rfl)]
   have y0 := (HKA.out _ hB).c0
   have y1 := (HKA.out _ hB).c1
   have y2 := (HKA.out _ hB).c2
   have y3 := (HKA.out _ hB).c3
   have y4 := (HKA.out _ hB).c4
   have y5 := (HKA.out _ hB).c5
   have y6 := (HKA.out _ hB).c6
   have y7 := (HKA.out _ hB).c7
   have y8 := (HKA.out _ hB).c8
   have y9 := (HKA.out _ hB).c9
   have y10 := (HKA.out _ hB).c10
   have y11 := (HKA.out _ hB).c11
   have y12 := (HKA.out _ hB).c12
   have y13 := (HKA.out _ hB).c13
   have y14 := (HKB.out _ hB).c0
   have y15 := (HKB.out _ hB).c1
   have y16 := (HKB.out _ hB).c2
   have y17 := (HKB.out _ hB).c3
   have y18 := (HKB.out _ hB).c4
   go_simp
   exact hK _ _ (Rl.gr _ _) rfl
  refine StepsR.cons rfl ?_ ?_
  ·intro f wz hB h K Q hK
   have h0 : (MPR.is (.agg #[.slice bA bn bc, .slice wA wn wc, .bool dn, .int .i64 po, .int .i64 fa, .int .i64 wi, .int .i64 (P.base : Int), .int .i64 (P.pages : Int), .int .i64 (P.most : Int), .int .i64 (P.epoch : Int), .int .i64 (P.count : Int), .int .i64 L, .slice (some ⟨g1, 0, none⟩) n c, .int .i64 (P.hand : Int)])).p (f 0) wz := h 0 (by kernel_rfl)
   have e0 : f 0 = (.agg #[.slice bA bn bc, .slice wA wn wc, .bool dn, .int .i64 po, .int .i64 fa, .int .i64 wi, .int .i64 (P.base : Int), .int .i64 (P.pages : Int), .int .i64 (P.most : Int), .int .i64 (P.epoch : Int), .int .i64 (P.count : Int), .int .i64 L, .slice (some ⟨g1, 0, none⟩) n c, .int .i64 (P.hand : Int)]) := h0
   have h1 : (MPR.is (.int .i64 (i : Int))).p (f 1) wz := h 1 (by kernel_rfl)
   have e1 : f 1 = (.int .i64 (i : Int)) := h1
   have h2 : (MPR.is (.agg #[.int .i64 (pf.page : Int), .slice Ap pf.pay.length cp, .int .i64 pf.lsn, .bool pf.dirty, .bool true])).p (f 2) wz := h 2 (by kernel_rfl)
   have e2 : f 2 = (.agg #[.int .i64 (pf.page : Int), .slice Ap pf.pay.length cp, .int .i64 pf.lsn, .bool pf.dirty, .bool true]) := h2
   simp only [e0, e1, e2] at hK ⊢
   clear e0 e1 e2
   clear h
   try rw [if_pos (by rfl)]
   go_simp
   refine (HWI.out _ (off_drew0 ((HXR.out _ _).1 hB).1)).mono ?_
   rintro e w5 ⟨v', rfl, hp5, hb5⟩
   exact hK _ _ (HRB.out _ _ hb5) hp5
  refine StepsR.cons rfl ?_ ?_
  ·intro f wz hB h K Q hK
   clear h
   try rw [if_pos (by rfl)]
   go_simp
   exact hK _ _ (Rl.gr _ _) rfl
  refine StepsR.cons rfl ?_ ?_
  ·intro f wz hB h K Q hK
   have h4 : (MPR.is (.pointer (some ⟨g5, 1, none⟩))).p (f 4) wz := h 4 (by kernel_rfl)
   have e4 : f 4 = (.pointer (some ⟨g5, 1, none⟩)) := h4
   simp only [e4] at hK ⊢
   clear e4
   clear h
   try rw [if_pos (by rfl)]
   have y0 := (HKA.out _ hB).c0
   have y1 := (HKA.out _ hB).c1
   have y2 := (HKA.out _ hB).c2
   have y3 := (HKA.out _ hB).c3
   have y4 := (HKA.out _ hB).c4
   have y5 := (HKA.out _ hB).c5
   have y6 := (HKA.out _ hB).c6
   have y7 := (HKA.out _ hB).c7
   have y8 := (HKA.out _ hB).c8
   have y9 := (HKA.out _ hB).c9
   have y10 := (HKA.out _ hB).c10
   have y11 := (HKA.out _ hB).c11
   have y12 := (HKA.out _ hB).c12
   have y13 := (HKA.out _ hB).c13
   have y14 := (HKB.out _ hB).c0
   have y15 := (HKB.out _ hB).c1
   have y16 := (HKB.out _ hB).c2
   have y17 := (HKB.out _ hB).c3
   have y18 := (HKB.out _ hB).c4
   go_simp
   exact hK _ _ (Rl.gr _ _) rfl
  refine StepsR.cons rfl ?_ ?_
  ·intro f wz hB h K Q hK
   have h3 : (MPR.pv HPX).p (f 3) wz := h 3 (by kernel_rfl)
   clear h
   try rw [if_pos (by rfl)]
   obtain ⟨bA2, bn2, bc2, wA2, wn2, wc2, dn2, po2, fa2, wi2, A2, n2, c2, x0, x1, x2, x3, x4, x5, x6, x7, x8, x9, x10, x11, x12, x13, e3, hx, hst⟩ := HST.out wz _ h3 hB
   simp only [e3] at hK ⊢
   clear e3 h3
   have r0 := hx.c0
   have r1 := hx.c1
   have r2 := hx.c2
   have r3 := hx.c3
   have r4 := hx.c4
   have r5 := hx.c5
   have r6 := hx.c6
   have r7 := hx.c7
   have r8 := hx.c8
   have r9 := hx.c9
   have r10 := hx.c10
   have r11 := hx.c11
   have r12 := hx.c12
   have r13 := hx.c13
   have rz0 := hx.fz 0
   have rz1 := hx.fz 1
   have rz2 := hx.fz 2
   have rz3 := hx.fz 3
   have rz4 := hx.fz 4
   have rz5 := hx.fz 5
   have rz6 := hx.fz 6
   have rz7 := hx.fz 7
   have rz8 := hx.fz 8
   have rz9 := hx.fz 9
   have rz10 := hx.fz 10
   have rz11 := hx.fz 11
   have rz12 := hx.fz 12
   have rz13 := hx.fz 13
   obtain ⟨hr1, hr2⟩ := hst _ rfl
   go_simp
   exact hK undef _ hr1 hr2
  refine StepsR.cons rfl ?_ ?_
  ·intro f wz hB h K Q hK
   have h5 : (MPR.is (.slice Ap pf.pay.length cp)).p (f 5) wz := h 5 (by kernel_rfl)
   have e5 : f 5 = (.slice Ap pf.pay.length cp) := h5
   simp only [e5] at hK ⊢
   clear e5
   clear h
   try rw [if_pos (by rfl)]
   go_simp
   exact hK _ _ (Rl.gr _ _) rfl
  refine StepsR.cons rfl ?_ ?_
  ·intro f wz hB h K Q hK
   clear h
   try rw [if_pos (by rfl)]
   go_simp
   exact hK _ _ (Rl.gr _ _) rfl
  exact StepsR.nil
 intro f w7 hB7 hR
 have hz7 : ZB G w4 (w.heap.size + 1) D (useP P i) L w7 := hR 6 (by decide)
 have e0 : f 0 = (.agg #[.slice bA bn bc, .slice wA wn wc, .bool dn, .int .i64 po, .int .i64 fa, .int .i64 wi, .int .i64 (P.base : Int), .int .i64 (P.pages : Int), .int .i64 (P.most : Int), .int .i64 (P.epoch : Int), .int .i64 (P.count : Int), .int .i64 L, .slice (some ⟨g1, 0, none⟩) n c, .int .i64 (P.hand : Int)]) := hR 0 (by decide)
 have e1 : f 1 = (.int .i64 (i : Int)) := hR 1 (by decide)
 have e2 : f 2 = (.agg #[.int .i64 (pf.page : Int), .slice Ap pf.pay.length cp, .int .i64 pf.lsn, .bool pf.dirty, .bool true]) := hR 2 (by decide)
 generalize f 3 = x37
 have e4 : f 4 = (.pointer (some ⟨g5, 1, none⟩)) := hR 4 (by decide)
 have e5 : f 5 = (.slice Ap pf.pay.length cp) := hR 5 (by decide)
 generalize f 6 = x67
 have e7 : f 7 = (.slice Ap pf.pay.length cp) := hR 7 (by decide)
 have e8 : f 8 = (.int .i64 0) := hR 8 (by decide)
 simp only [e0, e1, e2, e4, e5, e7, e8]
 clear e0 e1 e2 e4 e5 e7 e8 hR
 have HO7 := Lib.hid (off_drew0 ((HXR.out _ _).1 hB7).1)
 obtain ⟨bA2, bn2, bc2, wA2, wn2, wc2, dn2, po2, fa2, wi2, A2, n2, c2, q2, s1, hk2, hf2, hq2⟩ := hz7
 have HK2 := Lib.hid hk2
 have HF2 := Lib.hid hf2
 have HQ2 := Lib.hid hq2
 clear hB7 hk2 hf2 hq2 HKA HKB HBX HST HRB HWI HXR HPX HZX
 go_wp2_with fail
 have z0 := s1.c0
 have z1 := s1.c1
 have z2 := s1.c2
 have z3 := s1.c3
 have z4 := s1.c4
 have z5 := s1.c5
 have z6 := s1.c6
 have z7 := s1.c7
 have z8 := s1.c8
 have z9 := s1.c9
 have z10 := s1.c10
 have z11 := s1.c11
 have z12 := s1.c12
 have z13 := s1.c13
 refine bodyPost_ret (v := .tuple #[.agg #[.slice bA2 bn2 bc2, .slice wA2 wn2 wc2, .bool dn2, .int .i64 po2, .int .i64 fa2, .int .i64 wi2, .int .i64 ((useP P i).base : Int), .int .i64 ((useP P i).pages : Int), .int .i64 ((useP P i).most : Int), .int .i64 ((useP P i).epoch : Int), .int .i64 ((useP P i).count : Int), .int .i64 L, .slice A2 n2 c2, .int .i64 ((useP P i).hand : Int)], .slice Ap pf.pay.length cp, .int .i64 0]) (by simp [results, Tryz.results28, go_sem, z0, z1, z2, z3, z4, z5, z6, z7, z8, z9, z10, z11, z12, z13]) rfl ?_
 have hbf : Below w.heap.size w w7 := HB4.out.trans (HO7.out.below (fun k e => by omega) HB4.out.size)
 have hpg : ∀ k, plusG G w4 w7 k → plusG G w w7 k := plusG.in HB4.out.size (Nat.le_refl _)
 rw [HPF.out]
 exact ⟨_, Ap, pf.pay.length, cp, rfl, ⟨bA2, bn2, bc2, wA2, wn2, wc2, dn2, po2, fa2, wi2, _, q2, rfl, HK2.out.mono hpg, HF2.out.mono hpg, HQ2.out⟩, HBR.out.below hbf, HCP.out.1, HCP.out.2, hbf⟩
end Go.Proofs.YtmdgnjmhbjdlmaaGreat

/-! PrG -/
namespace Go.Proofs.YtmdgnjmhbjdlmaaGreat
open Go Go.RowKit
set_option maxRecDepth 100000 in
set_option maxHeartbeats 16000000 in
theorem rGet_miss {G : Nat → Prop} {w : World} {v : Value} {D : DiskS} {P : PoS} {L : Int} (h : RP G w v D P L) (hG : ∀ k, G k → k < w.heap.size) (hpi : PI D P) (hdn : DN D) (hpd : D.pending.length ≤ 1000000) (hct : P.count ≤ 1152921504606846976) (page : Nat) (hp : page < P.pages) (hi : findP P page = none) :
  Calls Tryz.prog 28 #[v, .int .i64 (page : Int)] w (RGet G w (getR (some L) D P (page : Int)) (getL (some L) D P (page : Int)) L) := by
 obtain ⟨re, hre⟩ : ∃ re, re = readE D ((P.base + page : Nat) : Int) := ⟨_, rfl⟩
 obtain ⟨rl, hrl⟩ : ∃ rl, rl = readL D ((P.base + page : Nat) : Int) := ⟨_, rfl⟩
 have hr : getR (some L) D P (page : Int) = if re ≠ 0 then (D, P, re) else if openE rl ≠ 0 then (D, P, openE rl) else holdR (some L) D P ⟨page, openP rl, 0, false, true⟩ := by
  unfold getR
  rw [if_neg (by unfold askP; rw [if_neg (by omega)]; simp), Int.toNat_natCast, hi, hre, hrl]
 have hl : getL (some L) D P (page : Int) = if (getR (some L) D P (page : Int)).2.2 ≠ 0 then [] else openP rl := by unfold getL; rw [Int.toNat_natCast, hi, hrl]
 rw [hr] at hl
 obtain ⟨RR, hRR⟩ : ∃ r, r = getR (some L) D P (page : Int) := ⟨_, rfl⟩
 obtain ⟨LL, hLL⟩ : ∃ l, l = getL (some L) D P (page : Int) := ⟨_, rfl⟩
 rw [← hRR, ← hLL]
 have HE := Lib.hid (hRR.trans hr)
 rw [← hr, ← hRR] at hl
 have HL : Hid (LL = if RR.2.2 ≠ 0 then [] else openP rl) := Lib.hid (hLL.trans hl)
 have HFI : Hid (∀ W v', RP G W v' D P L → Calls Tryz.prog 46 #[v', .int .i64 (page : Int)] W fun e w' => e = .returned (.int .i64 (-1)) ∧ Below W.heap.size W w') := Lib.hid (fun W v' h' => (rFind_any h' hpi page).mono (by
  rw [hi]
  rintro e w' ⟨rfl, hb⟩
  exact ⟨rfl, hb⟩))
 clear hl hr hRR hLL
 obtain ⟨bA, bn, bc, wA, wn, wc, dn, po, fa, wi, fv, q, rfl, h1, h2, h3⟩ := h
 obtain ⟨A, c, rfl, hc1, hc2, hA⟩ := h2.form
 have HRD : Hid (∀ W, Below w.heap.size w W → Calls Tryz.prog 60 #[.agg #[.slice bA bn bc, .slice wA wn wc, .bool dn, .int .i64 po, .int .i64 fa, .int .i64 wi], .int .i64 ((P.base : Int) + (page : Int))] W fun e w' => (re = 0 → ∃ A3 c3, e = .returned (.tuple #[.slice A3 4096 c3, .int .i64 re]) ∧ BR w' A3 4096 rl ∧ 4096 ≤ c3 ∧ rl.length = 4096) ∧ (re ≠ 0 → e = .returned (.tuple #[.slice none 0 0, .int .i64 re])) ∧ Below W.heap.size W w') := Lib.hid (fun W hW => (refRead03_any G _ D _ W (h1.below hW)).mono (by
  rintro e w' ⟨u, rfl, h4, h5, h6⟩
  rw [← Int.natCast_add, ← hre] at h4 h5 ⊢
  rw [← hrl] at h4
  refine ⟨fun h0 => ?_, fun h0 => ?_, h6⟩
  ·obtain ⟨hl, A3, c3, rfl, h7, _, h8, _⟩ := h4 h0
   exact ⟨A3, c3, rfl, h7.below h6, h8, hl⟩
  ·rw [h5 h0]))
 have HT := Lib.hid (two14 w (.slice bA bn bc) (.slice wA wn wc) (.bool dn) (.int .i64 po) (.int .i64 fa) (.int .i64 wi) (.int .i64 (P.base : Int)) (.int .i64 (P.pages : Int)) (.int .i64 (P.most : Int)) (.int .i64 (P.epoch : Int)) (.int .i64 (P.count : Int)) (.int .i64 L) (.slice A q.length c) (.int .i64 (P.hand : Int)))
 have HK := Lib.hid h1
 have HFG := Lib.hid h2
 have HQF := Lib.hid h3
 have HGl := Lib.hid hG
 have HPI := Lib.hid hpi
 have HDN := Lib.hid hdn
 have HPD := Lib.hid hpd
 have HCT := Lib.hid hct
 obtain ⟨n, hn⟩ : ∃ n, n = q.length := ⟨_, rfl⟩
 have HN := Lib.hid hn
 have t3 : decide ((-1 : Int) ≥ 0) = false := by decide
 have t3' : decide ((0 : Int) ≤ (-1 : Int)) = false := by decide
 have t1 : decide ((page : Int) < 0) = false := decide_eq_false (by omega)
 have t2 : decide ((page : Int) ≥ (P.pages : Int)) = false := decide_eq_false (by omega)
 have t2' : decide ((P.pages : Int) ≤ (page : Int)) = false := decide_eq_false (by omega)
 have t4 : decide (P.pages ≤ page) = false := decide_eq_false (by omega)
 have j1 : IntKind.i64.wrap ((P.base : Int) + (page : Int)) = (P.base : Int) + (page : Int) := by have := hpi.fit; have := hpi.d2; rw [IntKind.wrap_i64]; omega
 rw [← hn] at HT ⊢
 clear h1 h2 h3 hn hc1 hc2 hA hp hi hG hpi hdn hpd hct hre hrl
 go_enter Tryz.func28, Tryz.ntmps28
 go_upto_region 1 with fail
 obtain ⟨x1, x2, hb, hs⟩ := HT.out _ rfl
 clear HT
 generalize (w.alloc (.cells #[.slice bA bn bc, .slice wA wn wc, .bool dn, .int .i64 po, .int .i64 fa, .int .i64 wi, .int .i64 (P.base : Int), .int .i64 (P.pages : Int), .int .i64 (P.most : Int), .int .i64 (P.epoch : Int), .int .i64 (P.count : Int), .int .i64 L, .slice A n c, .int .i64 (P.hand : Int)] 42)).alloc (.cells #[.slice none 0 0, .slice none 0 0, .bool false, .int .i64 0, .int .i64 0, .int .i64 0, .int .i64 0, .int .i64 0, .int .i64 0, .int .i64 0, .int .i64 0, .int .i64 0, .slice none 0 0, .int .i64 0] 42) = w1 at *
 have X1 := Lib.hid x1
 have X2 := Lib.hid x2
 have HB := Lib.hid hb
 have HS1 := Lib.hid hs
 have y7 := x1.c7
 clear x1 x2 hb hs
 go_upto_region 3 with fail
 clear y7 t1 t2 t2' t4
 have y0 := X1.out.c0
 have y1 := X1.out.c1
 have y2 := X1.out.c2
 have y3 := X1.out.c3
 have y4 := X1.out.c4
 have y5 := X1.out.c5
 have y6 := X1.out.c6
 have y7 := X1.out.c7
 have y8 := X1.out.c8
 have y9 := X1.out.c9
 have y10 := X1.out.c10
 have y11 := X1.out.c11
 have y12 := X1.out.c12
 have y13 := X1.out.c13
 go_upto_region 4 with fail
 refine (HFI.out _ _ ⟨bA, bn, bc, wA, wn, wc, dn, po, fa, wi, _, q, rfl, HK.out.below HB.out, by rw [HN.out]; exact HFG.out.below HB.out, HQF.out⟩).mono ?_
 rintro e w2 ⟨rfl, hb2⟩
 have X1 := Lib.hid (X1.out.below hb2)
 have X2 := Lib.hid (X2.out.below hb2)
 have HBW2 : Hid (Below w.heap.size w w2) := Lib.hid (HB.out.trans (hb2.mono HB.out.size))
 have HS2 : Hid (w.heap.size + 2 ≤ w2.heap.size) := Lib.hid (by have := HS1.out; have := hb2.size; omega)
 clear hb2 HFI y0 y1 y2 y3 y4 y5 y6 y7 y8 y9 y10 y11 y12 y13
 have y0 := X1.out.c0
 have y1 := X1.out.c1
 have y2 := X1.out.c2
 have y3 := X1.out.c3
 have y4 := X1.out.c4
 have y5 := X1.out.c5
 have y6 := X1.out.c6
 go_upto_region 8 with fail
 go_upto_region 9 with fail
 refine (HRD.out _ HBW2.out).mono ?_
 rintro e w3 ⟨hr0, hr1, hb3⟩
 have X1 := Lib.hid (X1.out.below hb3)
 have X2 := Lib.hid (X2.out.below hb3)
 have HBW : Hid (Below w.heap.size w w3) := Lib.hid (HBW2.out.trans (hb3.mono HBW2.out.size))
 have HS3 : Hid (w.heap.size + 2 ≤ w3.heap.size) := Lib.hid (by have := HS2.out; have := hb3.size; omega)
 clear hb3 HRD y0 y1 y2 y3 y4 y5 y6 j1
 by_cases hre : re = 0
 case neg =>
  rw [hr1 hre]
  have t5 : (re != 0) = true := bne_iff_ne.2 hre
  have HE2 := Lib.hid (HE.out.trans (if_pos hre))
  have HL2 : Hid (LL = []) := Lib.hid (HL.out.trans (if_pos (by rw [HE2.out]; exact hre)))
  clear hr0 hr1 hre
  go_upto_region 10 with fail
  have y0 := X1.out.c0
  have y1 := X1.out.c1
  have y2 := X1.out.c2
  have y3 := X1.out.c3
  have y4 := X1.out.c4
  have y5 := X1.out.c5
  have y6 := X1.out.c6
  have y7 := X1.out.c7
  have y8 := X1.out.c8
  have y9 := X1.out.c9
  have y10 := X1.out.c10
  have y11 := X1.out.c11
  have y12 := X1.out.c12
  have y13 := X1.out.c13
  have r0 := X2.out.c0
  have r1 := X2.out.c1
  have r2 := X2.out.c2
  have r3 := X2.out.c3
  have r4 := X2.out.c4
  have r5 := X2.out.c5
  have r6 := X2.out.c6
  have r7 := X2.out.c7
  have r8 := X2.out.c8
  have r9 := X2.out.c9
  have r10 := X2.out.c10
  have r11 := X2.out.c11
  have r12 := X2.out.c12
  have r13 := X2.out.c13
  have rz0 := X2.out.fz 0
  have rz1 := X2.out.fz 1
  have rz2 := X2.out.fz 2
  have rz3 := X2.out.fz 3
  have rz4 := X2.out.fz 4
  have rz5 := X2.out.fz 5
  have rz6 := X2.out.fz 6
  have rz7 := X2.out.fz 7
  have rz8 := X2.out.fz 8
  have rz9 := X2.out.fz 9
  have rz10 := X2.out.fz 10
  have rz11 := X2.out.fz 11
  have rz12 := X2.out.fz 12
  have rz13 := X2.out.fz 13
  have HSs1 := Lib.hid (X2.out.all (.slice bA bn bc) (.slice wA wn wc) (.bool dn) (.int .i64 po) (.int .i64 fa) (.int .i64 wi) (.int .i64 (P.base : Int)) (.int .i64 (P.pages : Int)) (.int .i64 (P.most : Int)) (.int .i64 (P.epoch : Int)) (.int .i64 (P.count : Int)) (.int .i64 L) (.slice A n c) (.int .i64 (P.hand : Int)))
  go_wp2_with fail
  clear r0 r1 r2 r3 r4 r5 r6 r7 r8 r9 r10 r11 r12 r13 rz0 rz1 rz2 rz3 rz4 rz5 rz6 rz7 rz8 rz9 rz10 rz11 rz12 rz13
  obtain ⟨s1, s1o⟩ := HSs1.out _ rfl
  clear HSs1
  generalize ((((((((((((((w3.setCell ⟨w.heap.size + 1, 0, none⟩ (.slice bA bn bc)).setCell ⟨w.heap.size + 1, 1, none⟩ (.slice wA wn wc)).setCell ⟨w.heap.size + 1, 2, none⟩ (.bool dn)).setCell ⟨w.heap.size + 1, 3, none⟩ (.int .i64 po)).setCell ⟨w.heap.size + 1, 4, none⟩ (.int .i64 fa)).setCell ⟨w.heap.size + 1, 5, none⟩ (.int .i64 wi)).setCell ⟨w.heap.size + 1, 6, none⟩ (.int .i64 (P.base : Int))).setCell ⟨w.heap.size + 1, 7, none⟩ (.int .i64 (P.pages : Int))).setCell ⟨w.heap.size + 1, 8, none⟩ (.int .i64 (P.most : Int))).setCell ⟨w.heap.size + 1, 9, none⟩ (.int .i64 (P.epoch : Int))).setCell ⟨w.heap.size + 1, 10, none⟩ (.int .i64 (P.count : Int))).setCell ⟨w.heap.size + 1, 11, none⟩ (.int .i64 L)).setCell ⟨w.heap.size + 1, 12, none⟩ (.slice A n c)).setCell ⟨w.heap.size + 1, 13, none⟩ (.int .i64 (P.hand : Int))) = wf at *
  clear y0 y1 y2 y3 y4 y5 y6 y7 y8 y9 y10 y11 y12 y13
  have z0 := s1.c0
  have z1 := s1.c1
  have z2 := s1.c2
  have z3 := s1.c3
  have z4 := s1.c4
  have z5 := s1.c5
  have z6 := s1.c6
  have z7 := s1.c7
  have z8 := s1.c8
  have z9 := s1.c9
  have z10 := s1.c10
  have z11 := s1.c11
  have z12 := s1.c12
  have z13 := s1.c13
  refine bodyPost_ret (v := .tuple #[.agg #[.slice bA bn bc, .slice wA wn wc, .bool dn, .int .i64 po, .int .i64 fa, .int .i64 wi, .int .i64 (P.base : Int), .int .i64 (P.pages : Int), .int .i64 (P.most : Int), .int .i64 (P.epoch : Int), .int .i64 (P.count : Int), .int .i64 L, .slice A n c, .int .i64 (P.hand : Int)], .slice none 0 0, .int .i64 re]) (by simp [results, Tryz.results28, go_sem, z0, z1, z2, z3, z4, z5, z6, z7, z8, z9, z10, z11, z12, z13]) rfl ?_
  rw [HE2.out, HL2.out]
  have hbf : Below w.heap.size w wf := HBW.out.trans (s1o.below (fun k e => by omega) HBW.out.size)
  exact ⟨_, none, 0, 0, rfl, ⟨bA, bn, bc, wA, wn, wc, dn, po, fa, wi, _, q, rfl, (HK.out.below hbf).mono (fun k e => .inl e), by rw [HN.out]; exact (HFG.out.below hbf).mono (fun k e => .inl e), HQF.out⟩, ⟨rfl, fun h => absurd h (Nat.lt_irrefl 0)⟩, Nat.le_refl _, by unfold maxLen; omega, hbf⟩
 case pos =>
  obtain ⟨A3, c3, rfl, hbr, hc3, hrl⟩ := hr0 hre
  have HOP := Lib.hid (refOpen_any A3 c3 rl w3 hbr hc3)
  have HRL := Lib.hid hrl
  have HE3 := Lib.hid (HE.out.trans (if_neg (fun h => h hre)))
  rw [hre]
  clear HE
  have t5 : ((0 : Int) != 0) = false := rfl
  clear hr0 hr1 hbr hc3 hrl
  subst hre
  go_upto_region 11 with fail
  go_upto_region 12 with fail
  refine HOP.out.mono ?_
  rintro e w4 ⟨r, rfl, hob, hb4⟩
  obtain ⟨A5, c5, rfl, hbr5, hc51, hc52⟩ := hob.form
  have HOB := Lib.hid hob
  have HB4 := Lib.hid hb4
  have HBR5 := Lib.hid hbr5
  have HC5 : Hid ((openP rl).length ≤ c5 ∧ c5 ≤ maxLen) := Lib.hid ⟨hc51, hc52⟩
  have X1 := Lib.hid (X1.out.below hb4)
  have X2 := Lib.hid (X2.out.below hb4)
  have HBW3 := HBW
  have HBW : Hid (Below w.heap.size w w4) := Lib.hid (HBW3.out.trans (hb4.mono HBW3.out.size))
  have HS4 : Hid (w.heap.size + 2 ≤ w4.heap.size) := Lib.hid (by have := HS3.out; have := hb4.size; omega)
  clear hob hb4 hbr5 hc51 hc52 HOP
  obtain ⟨oe, hoe⟩ : ∃ oe, oe = openE rl := ⟨_, rfl⟩
  obtain ⟨ol, hol⟩ : ∃ ol, ol = openP rl := ⟨_, rfl⟩
  obtain ⟨n5, hn5⟩ : ∃ n5, n5 = ol.length := ⟨_, rfl⟩
  rw [← hol] at HOB HBR5 HC5
  have HE3 := Lib.hid (show RR = if oe ≠ 0 then (D, P, oe) else holdR (some L) D P ⟨page, ol, 0, false, true⟩ by rw [HE3.out, hoe, hol])
  have HL : Hid (LL = if RR.2.2 ≠ 0 then [] else ol) := Lib.hid (by rw [HL.out, hol])
  rw [← hoe]
  rw [← hn5] at HBR5 HC5
  rw [← hol, ← hn5]
  rw [← hn5] at HOB
  by_cases ho : oe = 0
  case neg =>
   have HE2 := Lib.hid (HE3.out.trans (if_pos ho))
   have HL2 : Hid (LL = []) := Lib.hid (HL.out.trans (if_pos (by rw [HE2.out]; exact ho)))
   have t6 : (oe != 0) = true := bne_iff_ne.2 ho
   clear ho hoe hol hn5
   go_upto_region 13 with fail
   have y0 := X1.out.c0
   have y1 := X1.out.c1
   have y2 := X1.out.c2
   have y3 := X1.out.c3
   have y4 := X1.out.c4
   have y5 := X1.out.c5
   have y6 := X1.out.c6
   have y7 := X1.out.c7
   have y8 := X1.out.c8
   have y9 := X1.out.c9
   have y10 := X1.out.c10
   have y11 := X1.out.c11
   have y12 := X1.out.c12
   have y13 := X1.out.c13
   have r0 := X2.out.c0
   have r1 := X2.out.c1
   have r2 := X2.out.c2
   have r3 := X2.out.c3
   have r4 := X2.out.c4
   have r5 := X2.out.c5
   have r6 := X2.out.c6
   have r7 := X2.out.c7
   have r8 := X2.out.c8
   have r9 := X2.out.c9
   have r10 := X2.out.c10
   have r11 := X2.out.c11
   have r12 := X2.out.c12
   have r13 := X2.out.c13
   have rz0 := X2.out.fz 0
   have rz1 := X2.out.fz 1
   have rz2 := X2.out.fz 2
   have rz3 := X2.out.fz 3
   have rz4 := X2.out.fz 4
   have rz5 := X2.out.fz 5
   have rz6 := X2.out.fz 6
   have rz7 := X2.out.fz 7
   have rz8 := X2.out.fz 8
   have rz9 := X2.out.fz 9
   have rz10 := X2.out.fz 10
   have rz11 := X2.out.fz 11
   have rz12 := X2.out.fz 12
   have rz13 := X2.out.fz 13
   have HSs1 := Lib.hid (X2.out.all (.slice bA bn bc) (.slice wA wn wc) (.bool dn) (.int .i64 po) (.int .i64 fa) (.int .i64 wi) (.int .i64 (P.base : Int)) (.int .i64 (P.pages : Int)) (.int .i64 (P.most : Int)) (.int .i64 (P.epoch : Int)) (.int .i64 (P.count : Int)) (.int .i64 L) (.slice A n c) (.int .i64 (P.hand : Int)))
   go_wp2_with fail
   clear r0 r1 r2 r3 r4 r5 r6 r7 r8 r9 r10 r11 r12 r13 rz0 rz1 rz2 rz3 rz4 rz5 rz6 rz7 rz8 rz9 rz10 rz11 rz12 rz13
   obtain ⟨s1, s1o⟩ := HSs1.out _ rfl
   clear HSs1
   generalize ((((((((((((((w4.setCell ⟨w.heap.size + 1, 0, none⟩ (.slice bA bn bc)).setCell ⟨w.heap.size + 1, 1, none⟩ (.slice wA wn wc)).setCell ⟨w.heap.size + 1, 2, none⟩ (.bool dn)).setCell ⟨w.heap.size + 1, 3, none⟩ (.int .i64 po)).setCell ⟨w.heap.size + 1, 4, none⟩ (.int .i64 fa)).setCell ⟨w.heap.size + 1, 5, none⟩ (.int .i64 wi)).setCell ⟨w.heap.size + 1, 6, none⟩ (.int .i64 (P.base : Int))).setCell ⟨w.heap.size + 1, 7, none⟩ (.int .i64 (P.pages : Int))).setCell ⟨w.heap.size + 1, 8, none⟩ (.int .i64 (P.most : Int))).setCell ⟨w.heap.size + 1, 9, none⟩ (.int .i64 (P.epoch : Int))).setCell ⟨w.heap.size + 1, 10, none⟩ (.int .i64 (P.count : Int))).setCell ⟨w.heap.size + 1, 11, none⟩ (.int .i64 L)).setCell ⟨w.heap.size + 1, 12, none⟩ (.slice A n c)).setCell ⟨w.heap.size + 1, 13, none⟩ (.int .i64 (P.hand : Int))) = wf at *
   clear y0 y1 y2 y3 y4 y5 y6 y7 y8 y9 y10 y11 y12 y13
   have z0 := s1.c0
   have z1 := s1.c1
   have z2 := s1.c2
   have z3 := s1.c3
   have z4 := s1.c4
   have z5 := s1.c5
   have z6 := s1.c6
   have z7 := s1.c7
   have z8 := s1.c8
   have z9 := s1.c9
   have z10 := s1.c10
   have z11 := s1.c11
   have z12 := s1.c12
   have z13 := s1.c13
   refine bodyPost_ret (v := .tuple #[.agg #[.slice bA bn bc, .slice wA wn wc, .bool dn, .int .i64 po, .int .i64 fa, .int .i64 wi, .int .i64 (P.base : Int), .int .i64 (P.pages : Int), .int .i64 (P.most : Int), .int .i64 (P.epoch : Int), .int .i64 (P.count : Int), .int .i64 L, .slice A n c, .int .i64 (P.hand : Int)], .slice none 0 0, .int .i64 oe]) (by simp [results, Tryz.results28, go_sem, z0, z1, z2, z3, z4, z5, z6, z7, z8, z9, z10, z11, z12, z13]) rfl ?_
   rw [HE2.out, HL2.out]
   have hbf : Below w.heap.size w wf := HBW.out.trans (s1o.below (fun k e => by omega) HBW.out.size)
   exact ⟨_, none, 0, 0, rfl, ⟨bA, bn, bc, wA, wn, wc, dn, po, fa, wi, _, q, rfl, (HK.out.below hbf).mono (fun k e => .inl e), by rw [HN.out]; exact (HFG.out.below hbf).mono (fun k e => .inl e), HQF.out⟩, ⟨rfl, fun h => absurd h (Nat.lt_irrefl 0)⟩, Nat.le_refl _, by unfold maxLen; omega, hbf⟩
  case pos =>
   have hol4 : ol.length = 4080 := by rw [hol]; exact openP_len HRL.out (by rw [← hoe]; exact ho)
   have HE4 := Lib.hid (HE3.out.trans (if_neg (fun h => h ho)))
   have t6 : (oe != 0) = false := by rw [ho]; rfl
   obtain ⟨⟨D4, P4, e4⟩, hr4⟩ : ∃ r, r = holdR (some L) D P ⟨page, ol, 0, false, true⟩ := ⟨_, rfl⟩
   have HE2 : Hid (RR = (D4, P4, e4)) := Lib.hid (HE4.out.trans hr4.symm)
   have hug5 : ∀ k, (Value.slice A5 n5 c5).ownBlock = some k → plusG G w3 w4 k := fun k e => .inr (HOB.out.lt k e)
   have HHO : Hid (Calls Tryz.prog 62 #[.agg #[.slice bA bn bc, .slice wA wn wc, .bool dn, .int .i64 po, .int .i64 fa, .int .i64 wi, .int .i64 (P.base : Int), .int .i64 (P.pages : Int), .int .i64 (P.most : Int), .int .i64 (P.epoch : Int), .int .i64 (P.count : Int), .int .i64 L, .slice A n c, .int .i64 (P.hand : Int)], .agg #[.int .i64 (page : Int), .slice A5 n5 c5, .int .i64 0, .bool false, .bool true]] w4 fun e w' => ∃ bA4 bn4 bc4 wA4 wn4 wc4 dn4 po4 fa4 wi4 A4 n4 c4 q4, e = .returned (.tuple #[.agg #[.slice bA4 bn4 bc4, .slice wA4 wn4 wc4, .bool dn4, .int .i64 po4, .int .i64 fa4, .int .i64 wi4, .int .i64 (P4.base : Int), .int .i64 (P4.pages : Int), .int .i64 (P4.most : Int), .int .i64 (P4.epoch : Int), .int .i64 (P4.count : Int), .int .i64 L, .slice A4 n4 c4, .int .i64 (P4.hand : Int)], .int .i64 e4]) ∧ RK (plusG (plusG G w3 w4) w4 w') w' (.agg #[.slice bA4 bn4 bc4, .slice wA4 wn4 wc4, .bool dn4, .int .i64 po4, .int .i64 fa4, .int .i64 wi4]) D4 ∧ FG (plusG (plusG G w3 w4) w4 w') w' (.slice A4 n4 c4) q4 ∧ q4.map Prod.fst = P4.fr ∧ Below w4.heap.size w4 w') := Lib.hid (by
    have hx := rHold_any (G := plusG G w3 w4) (v := .agg #[.slice bA bn bc, .slice wA wn wc, .bool dn, .int .i64 po, .int .i64 fa, .int .i64 wi, .int .i64 (P.base : Int), .int .i64 (P.pages : Int), .int .i64 (P.most : Int), .int .i64 (P.epoch : Int), .int .i64 (P.count : Int), .int .i64 L, .slice A n c, .int .i64 (P.hand : Int)]) (P := P) (D := D) (L := L) (w := w4) ⟨bA, bn, bc, wA, wn, wc, dn, po, fa, wi, _, q, rfl, (HK.out.below HBW.out).mono (fun k e => .inl e), by rw [HN.out]; exact (HFG.out.below HBW.out).mono (fun k e => .inl e), HQF.out⟩ (fun k hk => by
     rcases hk with hk | hk
     ·have := HGl.out k hk; have := HBW.out.size; omega
     ·exact hk.2) HPI.out HDN.out HPD.out HCT.out ⟨page, ol, 0, false, true⟩ (.slice A5 n5 c5) (by
      have := HOB.out
      rw [hn5] at this ⊢
      exact own_lower this (Nat.zero_le _)) hug5
    rw [← hr4] at hx
    refine hx.mono ?_
    rintro e w' ⟨v', rfl, ⟨a1, a2, a3, a4, a5, a6, a7, a8, a9, a10, fv3, q3, rfl, h1, h2, h3⟩, hb⟩
    obtain ⟨A3, c3, rfl, _⟩ := h2.form
    exact ⟨a1, a2, a3, a4, a5, a6, a7, a8, a9, a10, A3, _, c3, q3, rfl, h1, h2, h3, hb⟩)
   clear ho hoe hol hn5 hr4 hol4 hug5
   have y0 := X1.out.c0
   have y1 := X1.out.c1
   have y2 := X1.out.c2
   have y3 := X1.out.c3
   have y4 := X1.out.c4
   have y5 := X1.out.c5
   have y6 := X1.out.c6
   have y7 := X1.out.c7
   have y8 := X1.out.c8
   have y9 := X1.out.c9
   have y10 := X1.out.c10
   have y11 := X1.out.c11
   have y12 := X1.out.c12
   have y13 := X1.out.c13
   go_upto_region 14 with fail
   go_upto_region 15 with fail
   refine HHO.out.mono ?_
   rintro e w5 ⟨bA4, bn4, bc4, wA4, wn4, wc4, dn4, po4, fa4, wi4, A4, n4, c4, q4, rfl, hk4, hf4, hq4, hb5⟩
   clear HHO y0 y1 y2 y3 y4 y5 y6 y7 y8 y9 y10 y11 y12 y13
   have HK4 := Lib.hid hk4
   have HF4 := Lib.hid hf4
   have HQ4 := Lib.hid hq4
   have HB5 := Lib.hid hb5
   have hgr := gr_alloc (gr_refl w5) (.cells #[.slice bA4 bn4 bc4, .slice wA4 wn4 wc4, .bool dn4, .int .i64 po4, .int .i64 fa4, .int .i64 wi4, .int .i64 (P4.base : Int), .int .i64 (P4.pages : Int), .int .i64 (P4.most : Int), .int .i64 (P4.epoch : Int), .int .i64 (P4.count : Int), .int .i64 L, .slice A4 n4 c4, .int .i64 (P4.hand : Int)] 42)
   have HB6 := Lib.hid hgr
   have X2 := Lib.hid ((X2.out.below hb5).below hgr)
   have X8 := Lib.hid (B14.new w5 (.slice bA4 bn4 bc4) (.slice wA4 wn4 wc4) (.bool dn4) (.int .i64 po4) (.int .i64 fa4) (.int .i64 wi4) (.int .i64 (P4.base : Int)) (.int .i64 (P4.pages : Int)) (.int .i64 (P4.most : Int)) (.int .i64 (P4.epoch : Int)) (.int .i64 (P4.count : Int)) (.int .i64 L) (.slice A4 n4 c4) (.int .i64 (P4.hand : Int)))
   have HBW4 := HBW
   have HBW5 : Hid (Below w.heap.size w w5) := Lib.hid (HBW4.out.trans (hb5.mono HBW4.out.size))
   clear hk4 hf4 hq4 hb5 hgr X1
   go_upto_region 15 with fail
   generalize w5.alloc (.cells #[.slice bA4 bn4 bc4, .slice wA4 wn4 wc4, .bool dn4, .int .i64 po4, .int .i64 fa4, .int .i64 wi4, .int .i64 (P4.base : Int), .int .i64 (P4.pages : Int), .int .i64 (P4.most : Int), .int .i64 (P4.epoch : Int), .int .i64 (P4.count : Int), .int .i64 L, .slice A4 n4 c4, .int .i64 (P4.hand : Int)] 42) = w6 at *
   have HBW : Hid (Below w.heap.size w w6) := Lib.hid (HBW5.out.trans (HB6.out.mono HBW5.out.size))
   have HFIN : Hid (∀ wf, Off (fun k => k = w.heap.size + 1) w6 wf → RP (plusG G w wf) wf (.agg #[.slice bA4 bn4 bc4, .slice wA4 wn4 wc4, .bool dn4, .int .i64 po4, .int .i64 fa4, .int .i64 wi4, .int .i64 (P4.base : Int), .int .i64 (P4.pages : Int), .int .i64 (P4.most : Int), .int .i64 (P4.epoch : Int), .int .i64 (P4.count : Int), .int .i64 L, .slice A4 n4 c4, .int .i64 (P4.hand : Int)]) D4 P4 L ∧ Below w.heap.size w wf) := Lib.hid (fun wf s1o => by
    have hbf : Below w.heap.size w wf := HBW.out.trans (s1o.below (fun k e => by omega) HBW.out.size)
    have hS : ∀ k, k = w.heap.size + 1 → ¬ plusG (plusG G w3 w4) w4 w5 k := fun k e hk => by
     have h3 := HS3.out
     have h4 := HS4.out
     rcases hk with (hk | hk) | hk
     ·have := HGl.out k hk; omega
     ·omega
     ·omega
    have hpg : ∀ k, plusG (plusG G w3 w4) w4 w5 k → plusG G w wf k := plusG.in2 HBW3.out.size (Nat.le_trans HB5.out.size (Nat.le_trans HB6.out.size s1o.size)) HBW4.out.size (Nat.le_trans HB6.out.size s1o.size)
    exact ⟨⟨bA4, bn4, bc4, wA4, wn4, wc4, dn4, po4, fa4, wi4, _, q4, rfl, ((HK4.out.below HB6.out).off s1o hS).mono hpg, ((HF4.out.below HB6.out).off s1o hS).mono hpg, HQ4.out⟩, hbf⟩)
   by_cases he : e4 = 0
   case neg =>
    have t7 : (e4 != 0) = true := bne_iff_ne.2 he
    have HL2 : Hid (LL = []) := Lib.hid (HL.out.trans (if_pos (by rw [HE2.out]; exact he)))
    clear he t6
    go_upto_region 16 with fail
    have y0 := X8.out.c0
    have y1 := X8.out.c1
    have y2 := X8.out.c2
    have y3 := X8.out.c3
    have y4 := X8.out.c4
    have y5 := X8.out.c5
    have y6 := X8.out.c6
    have y7 := X8.out.c7
    have y8 := X8.out.c8
    have y9 := X8.out.c9
    have y10 := X8.out.c10
    have y11 := X8.out.c11
    have y12 := X8.out.c12
    have y13 := X8.out.c13
    have r0 := X2.out.c0
    have r1 := X2.out.c1
    have r2 := X2.out.c2
    have r3 := X2.out.c3
    have r4 := X2.out.c4
    have r5 := X2.out.c5
    have r6 := X2.out.c6
    have r7 := X2.out.c7
    have r8 := X2.out.c8
    have r9 := X2.out.c9
    have r10 := X2.out.c10
    have r11 := X2.out.c11
    have r12 := X2.out.c12
    have r13 := X2.out.c13
    have rz0 := X2.out.fz 0
    have rz1 := X2.out.fz 1
    have rz2 := X2.out.fz 2
    have rz3 := X2.out.fz 3
    have rz4 := X2.out.fz 4
    have rz5 := X2.out.fz 5
    have rz6 := X2.out.fz 6
    have rz7 := X2.out.fz 7
    have rz8 := X2.out.fz 8
    have rz9 := X2.out.fz 9
    have rz10 := X2.out.fz 10
    have rz11 := X2.out.fz 11
    have rz12 := X2.out.fz 12
    have rz13 := X2.out.fz 13
    have HSs1 := Lib.hid (X2.out.all (.slice bA4 bn4 bc4) (.slice wA4 wn4 wc4) (.bool dn4) (.int .i64 po4) (.int .i64 fa4) (.int .i64 wi4) (.int .i64 (P4.base : Int)) (.int .i64 (P4.pages : Int)) (.int .i64 (P4.most : Int)) (.int .i64 (P4.epoch : Int)) (.int .i64 (P4.count : Int)) (.int .i64 L) (.slice A4 n4 c4) (.int .i64 (P4.hand : Int)))
    go_wp2_with fail
    clear r0 r1 r2 r3 r4 r5 r6 r7 r8 r9 r10 r11 r12 r13 rz0 rz1 rz2 rz3 rz4 rz5 rz6 rz7 rz8 rz9 rz10 rz11 rz12 rz13
    obtain ⟨s1, s1o⟩ := HSs1.out _ rfl
    clear HSs1
    generalize ((((((((((((((w6.setCell ⟨w.heap.size + 1, 0, none⟩ (.slice bA4 bn4 bc4)).setCell ⟨w.heap.size + 1, 1, none⟩ (.slice wA4 wn4 wc4)).setCell ⟨w.heap.size + 1, 2, none⟩ (.bool dn4)).setCell ⟨w.heap.size + 1, 3, none⟩ (.int .i64 po4)).setCell ⟨w.heap.size + 1, 4, none⟩ (.int .i64 fa4)).setCell ⟨w.heap.size + 1, 5, none⟩ (.int .i64 wi4)).setCell ⟨w.heap.size + 1, 6, none⟩ (.int .i64 (P4.base : Int))).setCell ⟨w.heap.size + 1, 7, none⟩ (.int .i64 (P4.pages : Int))).setCell ⟨w.heap.size + 1, 8, none⟩ (.int .i64 (P4.most : Int))).setCell ⟨w.heap.size + 1, 9, none⟩ (.int .i64 (P4.epoch : Int))).setCell ⟨w.heap.size + 1, 10, none⟩ (.int .i64 (P4.count : Int))).setCell ⟨w.heap.size + 1, 11, none⟩ (.int .i64 L)).setCell ⟨w.heap.size + 1, 12, none⟩ (.slice A4 n4 c4)).setCell ⟨w.heap.size + 1, 13, none⟩ (.int .i64 (P4.hand : Int))) = wf at *
    clear y0 y1 y2 y3 y4 y5 y6 y7 y8 y9 y10 y11 y12 y13
    have z0 := s1.c0
    have z1 := s1.c1
    have z2 := s1.c2
    have z3 := s1.c3
    have z4 := s1.c4
    have z5 := s1.c5
    have z6 := s1.c6
    have z7 := s1.c7
    have z8 := s1.c8
    have z9 := s1.c9
    have z10 := s1.c10
    have z11 := s1.c11
    have z12 := s1.c12
    have z13 := s1.c13
    refine bodyPost_ret (v := .tuple #[.agg #[.slice bA4 bn4 bc4, .slice wA4 wn4 wc4, .bool dn4, .int .i64 po4, .int .i64 fa4, .int .i64 wi4, .int .i64 (P4.base : Int), .int .i64 (P4.pages : Int), .int .i64 (P4.most : Int), .int .i64 (P4.epoch : Int), .int .i64 (P4.count : Int), .int .i64 L, .slice A4 n4 c4, .int .i64 (P4.hand : Int)], .slice none 0 0, .int .i64 e4]) (by simp [results, Tryz.results28, go_sem, z0, z1, z2, z3, z4, z5, z6, z7, z8, z9, z10, z11, z12, z13]) rfl ?_
    rw [HE2.out, HL2.out]
    obtain ⟨hrp, hbf⟩ := HFIN.out wf s1o
    exact ⟨_, none, 0, 0, rfl, hrp, ⟨rfl, fun h => absurd h (Nat.lt_irrefl 0)⟩, Nat.le_refl _, by unfold maxLen; omega, hbf⟩
   case pos =>
    have t7 : (e4 != 0) = false := by rw [he]; rfl
    have HL2 : Hid (LL = ol) := Lib.hid (HL.out.trans (if_neg (by rw [HE2.out]; exact fun h => h he)))
    have HE2 : Hid (RR = (D4, P4, 0)) := Lib.hid (by rw [HE2.out, he])
    clear he t6
    go_upto_region 17 with fail
    have y0 := X8.out.c0
    have y1 := X8.out.c1
    have y2 := X8.out.c2
    have y3 := X8.out.c3
    have y4 := X8.out.c4
    have y5 := X8.out.c5
    have y6 := X8.out.c6
    have y7 := X8.out.c7
    have y8 := X8.out.c8
    have y9 := X8.out.c9
    have y10 := X8.out.c10
    have y11 := X8.out.c11
    have y12 := X8.out.c12
    have y13 := X8.out.c13
    have r0 := X2.out.c0
    have r1 := X2.out.c1
    have r2 := X2.out.c2
    have r3 := X2.out.c3
    have r4 := X2.out.c4
    have r5 := X2.out.c5
    have r6 := X2.out.c6
    have r7 := X2.out.c7
    have r8 := X2.out.c8
    have r9 := X2.out.c9
    have r10 := X2.out.c10
    have r11 := X2.out.c11
    have r12 := X2.out.c12
    have r13 := X2.out.c13
    have rz0 := X2.out.fz 0
    have rz1 := X2.out.fz 1
    have rz2 := X2.out.fz 2
    have rz3 := X2.out.fz 3
    have rz4 := X2.out.fz 4
    have rz5 := X2.out.fz 5
    have rz6 := X2.out.fz 6
    have rz7 := X2.out.fz 7
    have rz8 := X2.out.fz 8
    have rz9 := X2.out.fz 9
    have rz10 := X2.out.fz 10
    have rz11 := X2.out.fz 11
    have rz12 := X2.out.fz 12
    have rz13 := X2.out.fz 13
    have HSs1 := Lib.hid (X2.out.all (.slice bA4 bn4 bc4) (.slice wA4 wn4 wc4) (.bool dn4) (.int .i64 po4) (.int .i64 fa4) (.int .i64 wi4) (.int .i64 (P4.base : Int)) (.int .i64 (P4.pages : Int)) (.int .i64 (P4.most : Int)) (.int .i64 (P4.epoch : Int)) (.int .i64 (P4.count : Int)) (.int .i64 L) (.slice A4 n4 c4) (.int .i64 (P4.hand : Int)))
    go_wp2_with fail
    clear r0 r1 r2 r3 r4 r5 r6 r7 r8 r9 r10 r11 r12 r13 rz0 rz1 rz2 rz3 rz4 rz5 rz6 rz7 rz8 rz9 rz10 rz11 rz12 rz13
    obtain ⟨s1, s1o⟩ := HSs1.out _ rfl
    clear HSs1
    generalize ((((((((((((((w6.setCell ⟨w.heap.size + 1, 0, none⟩ (.slice bA4 bn4 bc4)).setCell ⟨w.heap.size + 1, 1, none⟩ (.slice wA4 wn4 wc4)).setCell ⟨w.heap.size + 1, 2, none⟩ (.bool dn4)).setCell ⟨w.heap.size + 1, 3, none⟩ (.int .i64 po4)).setCell ⟨w.heap.size + 1, 4, none⟩ (.int .i64 fa4)).setCell ⟨w.heap.size + 1, 5, none⟩ (.int .i64 wi4)).setCell ⟨w.heap.size + 1, 6, none⟩ (.int .i64 (P4.base : Int))).setCell ⟨w.heap.size + 1, 7, none⟩ (.int .i64 (P4.pages : Int))).setCell ⟨w.heap.size + 1, 8, none⟩ (.int .i64 (P4.most : Int))).setCell ⟨w.heap.size + 1, 9, none⟩ (.int .i64 (P4.epoch : Int))).setCell ⟨w.heap.size + 1, 10, none⟩ (.int .i64 (P4.count : Int))).setCell ⟨w.heap.size + 1, 11, none⟩ (.int .i64 L)).setCell ⟨w.heap.size + 1, 12, none⟩ (.slice A4 n4 c4)).setCell ⟨w.heap.size + 1, 13, none⟩ (.int .i64 (P4.hand : Int))) = wf at *
    clear y0 y1 y2 y3 y4 y5 y6 y7 y8 y9 y10 y11 y12 y13
    have z0 := s1.c0
    have z1 := s1.c1
    have z2 := s1.c2
    have z3 := s1.c3
    have z4 := s1.c4
    have z5 := s1.c5
    have z6 := s1.c6
    have z7 := s1.c7
    have z8 := s1.c8
    have z9 := s1.c9
    have z10 := s1.c10
    have z11 := s1.c11
    have z12 := s1.c12
    have z13 := s1.c13
    refine bodyPost_ret (v := .tuple #[.agg #[.slice bA4 bn4 bc4, .slice wA4 wn4 wc4, .bool dn4, .int .i64 po4, .int .i64 fa4, .int .i64 wi4, .int .i64 (P4.base : Int), .int .i64 (P4.pages : Int), .int .i64 (P4.most : Int), .int .i64 (P4.epoch : Int), .int .i64 (P4.count : Int), .int .i64 L, .slice A4 n4 c4, .int .i64 (P4.hand : Int)], .slice A5 n5 c5, .int .i64 0]) (by simp [results, Tryz.results28, go_sem, z0, z1, z2, z3, z4, z5, z6, z7, z8, z9, z10, z11, z12, z13]) rfl ?_
    rw [HE2.out, HL2.out]
    obtain ⟨hrp, hbf⟩ := HFIN.out wf s1o
    exact ⟨_, A5, n5, c5, rfl, hrp, Rd.off ((HBR5.out.below HB5.out).below HB6.out) s1o (fun ad ea _ e => by subst ea; have h5 := (HOB.out.lt ad.block rfl).1; have := HS3.out; omega), HC5.out.1, HC5.out.2, hbf⟩
theorem rGet_any {G : Nat → Prop} {w : World} {v : Value} {D : DiskS} {P : PoS} {L : Int} (h : RP G w v D P L) (hG : ∀ k, G k → k < w.heap.size) (hpi : PI D P) (hdn : DN D) (hpd : D.pending.length ≤ 1000000) (hct : P.count ≤ 1152921504606846976) (page : Int) :
  Calls Tryz.prog 28 #[v, .int .i64 page] w (RGet G w (getR (some L) D P page) (getL (some L) D P page) L) := by
 by_cases hp : askP P page ≠ 0
 ·exact rGet_bad h page hp
 ·have hpg : 0 ≤ page ∧ page < P.pages := by
   unfold askP at hp
   split at hp
   ·exact absurd (show (2 : Int) ≠ 0 by decide) hp
   ·omega
  obtain ⟨p, rfl⟩ := Int.eq_ofNat_of_zero_le hpg.1
  cases hf : findP P p with
  | some i => exact rGet_found h hG hpi p i (by omega) hf
  | none => exact rGet_miss h hG hpi hdn hpd hct p (by omega) hf
end Go.Proofs.YtmdgnjmhbjdlmaaGreat
