/-
  Texts of this claim, joined: PrH, PrI, Rge, PrJ, PrK, PlT. No statement of the program is proved here.
-/
import Derived.Test.YtmdgnjmhbjdlmaaGreatPkA6
import Derived.Test.YtmdgnjmhbjdlmaaGreatPkA2
import Derived.Test.YtmdgnjmhbjdlmaaGreatPkA4
/-! PrH -/
namespace Go.Proofs.YtmdgnjmhbjdlmaaGreat
open Go Go.RowKit
def RSet (G : Nat → Prop) (w : World) (r : Res) (L : Int) (e : Ending) (w' : World) : Prop :=
 ∃ v', e = .returned (.tuple #[v', .int .i64 r.2.2]) ∧ RP (plusG G w w') w' v' r.1 r.2.1 L ∧ Below w.heap.size w w'
theorem setE_2 (P : PoS) (page : Int) (n : Nat) (lsn : Int) : setE P page n lsn = if page < 0 ∨ (P.pages : Int) ≤ page ∨ n ≠ 4080 ∨ lsn < 0 then 2 else 0 := by
 unfold setE askP
 by_cases h1 : page < 0 ∨ (P.pages : Int) ≤ page
 ·rw [if_pos h1, if_pos (by decide), if_pos (by omega)]
 ·rw [if_neg h1, if_neg (by decide)]
  by_cases h2 : n ≠ 4080 ∨ lsn < 0
  ·rw [if_pos h2, if_pos (by omega)]
  ·rw [if_neg h2, if_neg (by omega)]
set_option maxRecDepth 100000 in
set_option maxHeartbeats 16000000 in
theorem rSet_bad {G : Nat → Prop} {w : World} {v : Value} {D : DiskS} {P : PoS} {L : Int} (h : RP G w v D P L) (page lsn : Int) (Ab : Option Addr) (nb cb : Nat) (l : List UInt8) (hl : l.length = nb) (hp : setE P page l.length lsn ≠ 0) :
  Calls Tryz.prog 30 #[v, .int .i64 page, .slice Ab nb cb, .int .i64 lsn] w (RSet G w (setR (some L) D P page l lsn) L) := by
 rw [setE_2] at hp
 have hc : page < 0 ∨ (P.pages : Int) ≤ page ∨ l.length ≠ 4080 ∨ lsn < 0 := by
  by_cases h : page < 0 ∨ (P.pages : Int) ≤ page ∨ l.length ≠ 4080 ∨ lsn < 0
  ·exact h
  ·rw [if_neg h] at hp; exact absurd rfl hp
 have h2 : setE P page l.length lsn = 2 := by rw [setE_2, if_pos hc]
 have hr : setR (some L) D P page l lsn = (D, P, 2) := by
  unfold setR
  rw [h2, if_pos (by decide)]
 rw [hr]
 clear hr
 have hpg : page < 0 ∨ (0 ≤ page ∧ ((P.pages : Int) ≤ page ∨ (page < (P.pages : Int) ∧ (nb ≠ 4080 ∨ (nb = 4080 ∧ lsn < 0))))) := by
  rw [hl] at hc
  omega
 clear h2 hp hl hc
 obtain ⟨bA, bn, bc, wA, wn, wc, dn, po, fa, wi, fv, q, rfl, h1, h2, h3⟩ := h
 have hlen : P.fr.length = q.length := by rw [← h3, List.length_map]
 obtain ⟨A, c, rfl, hc1, hc2, hA⟩ := h2.form
 have HT := Lib.hid (two14 w (.slice bA bn bc) (.slice wA wn wc) (.bool dn) (.int .i64 po) (.int .i64 fa) (.int .i64 wi) (.int .i64 (P.base : Int)) (.int .i64 (P.pages : Int)) (.int .i64 (P.most : Int)) (.int .i64 (P.epoch : Int)) (.int .i64 (P.count : Int)) (.int .i64 L) (.slice A q.length c) (.int .i64 (P.hand : Int)))
 have HK := Lib.hid h1
 have HFG := Lib.hid h2
 have HQF := Lib.hid h3
 obtain ⟨n, hn⟩ : ∃ n, n = q.length := ⟨_, rfl⟩
 have HN := Lib.hid hn
 rw [← hn] at HT ⊢
 clear h1 h2 h3 hn hc1 hc2 hA hlen
 go_enter Tryz.func30, Tryz.ntmps30
 go_upto_region 1 with fail
 obtain ⟨x1, x2, hb, hs⟩ := HT.out _ rfl
 clear HT
 generalize (w.alloc (.cells #[.slice bA bn bc, .slice wA wn wc, .bool dn, .int .i64 po, .int .i64 fa, .int .i64 wi, .int .i64 (P.base : Int), .int .i64 (P.pages : Int), .int .i64 (P.most : Int), .int .i64 (P.epoch : Int), .int .i64 (P.count : Int), .int .i64 L, .slice A n c, .int .i64 (P.hand : Int)] 42)).alloc (.cells #[.slice none 0 0, .slice none 0 0, .bool false, .int .i64 0, .int .i64 0, .int .i64 0, .int .i64 0, .int .i64 0, .int .i64 0, .int .i64 0, .int .i64 0, .int .i64 0, .slice none 0 0, .int .i64 0] 42) = w1 at *
 have X1 := Lib.hid x1
 have X2 := Lib.hid x2
 have HB := Lib.hid hb
 have HS1 := Lib.hid hs
 have y7 := x1.c7
 clear x1 x2 hb hs
 rcases hpg with hpg | ⟨hpg0, hpg⟩
 ·have t1 : decide (page < 0) = true := decide_eq_true hpg
  clear hpg
  go_upto_region 2 with fail
  clear y7
  have y0 := X1.out.c0
  have y1 := X1.out.c1
  have y2 := X1.out.c2
  have y3 := X1.out.c3
  have y4 := X1.out.c4
  have y5 := X1.out.c5
  have y6 := X1.out.c6
  have y7 := X1.out.c7
  have y8 := X1.out.c8
  have y9 := X1.out.c9
  have y10 := X1.out.c10
  have y11 := X1.out.c11
  have y12 := X1.out.c12
  have y13 := X1.out.c13
  have r0 := X2.out.c0
  have r1 := X2.out.c1
  have r2 := X2.out.c2
  have r3 := X2.out.c3
  have r4 := X2.out.c4
  have r5 := X2.out.c5
  have r6 := X2.out.c6
  have r7 := X2.out.c7
  have r8 := X2.out.c8
  have r9 := X2.out.c9
  have r10 := X2.out.c10
  have r11 := X2.out.c11
  have r12 := X2.out.c12
  have r13 := X2.out.c13
  have rz0 := X2.out.fz 0
  have rz1 := X2.out.fz 1
  have rz2 := X2.out.fz 2
  have rz3 := X2.out.fz 3
  have rz4 := X2.out.fz 4
  have rz5 := X2.out.fz 5
  have rz6 := X2.out.fz 6
  have rz7 := X2.out.fz 7
  have rz8 := X2.out.fz 8
  have rz9 := X2.out.fz 9
  have rz10 := X2.out.fz 10
  have rz11 := X2.out.fz 11
  have rz12 := X2.out.fz 12
  have rz13 := X2.out.fz 13
  have HSs1 := Lib.hid (X2.out.all (.slice bA bn bc) (.slice wA wn wc) (.bool dn) (.int .i64 po) (.int .i64 fa) (.int .i64 wi) (.int .i64 (P.base : Int)) (.int .i64 (P.pages : Int)) (.int .i64 (P.most : Int)) (.int .i64 (P.epoch : Int)) (.int .i64 (P.count : Int)) (.int .i64 L) (.slice A n c) (.int .i64 (P.hand : Int)))
  go_wp2_with fail
  clear r0 r1 r2 r3 r4 r5 r6 r7 r8 r9 r10 r11 r12 r13 rz0 rz1 rz2 rz3 rz4 rz5 rz6 rz7 rz8 rz9 rz10 rz11 rz12 rz13
  obtain ⟨s1, s1o⟩ := HSs1.out _ rfl
  clear HSs1
  generalize ((((((((((((((w1.setCell ⟨w.heap.size + 1, 0, none⟩ (.slice bA bn bc)).setCell ⟨w.heap.size + 1, 1, none⟩ (.slice wA wn wc)).setCell ⟨w.heap.size + 1, 2, none⟩ (.bool dn)).setCell ⟨w.heap.size + 1, 3, none⟩ (.int .i64 po)).setCell ⟨w.heap.size + 1, 4, none⟩ (.int .i64 fa)).setCell ⟨w.heap.size + 1, 5, none⟩ (.int .i64 wi)).setCell ⟨w.heap.size + 1, 6, none⟩ (.int .i64 (P.base : Int))).setCell ⟨w.heap.size + 1, 7, none⟩ (.int .i64 (P.pages : Int))).setCell ⟨w.heap.size + 1, 8, none⟩ (.int .i64 (P.most : Int))).setCell ⟨w.heap.size + 1, 9, none⟩ (.int .i64 (P.epoch : Int))).setCell ⟨w.heap.size + 1, 10, none⟩ (.int .i64 (P.count : Int))).setCell ⟨w.heap.size + 1, 11, none⟩ (.int .i64 L)).setCell ⟨w.heap.size + 1, 12, none⟩ (.slice A n c)).setCell ⟨w.heap.size + 1, 13, none⟩ (.int .i64 (P.hand : Int))) = wf at *
  clear y0 y1 y2 y3 y4 y5 y6 y7 y8 y9 y10 y11 y12 y13
  have z0 := s1.c0
  have z1 := s1.c1
  have z2 := s1.c2
  have z3 := s1.c3
  have z4 := s1.c4
  have z5 := s1.c5
  have z6 := s1.c6
  have z7 := s1.c7
  have z8 := s1.c8
  have z9 := s1.c9
  have z10 := s1.c10
  have z11 := s1.c11
  have z12 := s1.c12
  have z13 := s1.c13
  refine bodyPost_ret (v := .tuple #[.agg #[.slice bA bn bc, .slice wA wn wc, .bool dn, .int .i64 po, .int .i64 fa, .int .i64 wi, .int .i64 (P.base : Int), .int .i64 (P.pages : Int), .int .i64 (P.most : Int), .int .i64 (P.epoch : Int), .int .i64 (P.count : Int), .int .i64 L, .slice A n c, .int .i64 (P.hand : Int)], .int .i64 2]) (by simp [results, Tryz.results30, go_sem, z0, z1, z2, z3, z4, z5, z6, z7, z8, z9, z10, z11, z12, z13]) rfl ?_
  have hbf : Below w.heap.size w wf := HB.out.trans (s1o.below (fun k e => by omega) HB.out.size)
  exact ⟨_, rfl, ⟨bA, bn, bc, wA, wn, wc, dn, po, fa, wi, _, q, rfl, (HK.out.below hbf).mono (fun k e => .inl e), by rw [HN.out]; exact (HFG.out.below hbf).mono (fun k e => .inl e), HQF.out⟩, hbf⟩
 ·have t1 : decide (page < 0) = false := decide_eq_false (by omega)
  rcases hpg with hpg | ⟨hpg1, hpg⟩
  ·have t2 : decide (page ≥ (P.pages : Int)) = true := decide_eq_true hpg
   have t2' : decide ((P.pages : Int) ≤ page) = true := decide_eq_true hpg
   clear hpg hpg0
   go_upto_region 2 with fail
   clear y7 t2 t2'
   have y0 := X1.out.c0
   have y1 := X1.out.c1
   have y2 := X1.out.c2
   have y3 := X1.out.c3
   have y4 := X1.out.c4
   have y5 := X1.out.c5
   have y6 := X1.out.c6
   have y7 := X1.out.c7
   have y8 := X1.out.c8
   have y9 := X1.out.c9
   have y10 := X1.out.c10
   have y11 := X1.out.c11
   have y12 := X1.out.c12
   have y13 := X1.out.c13
   have r0 := X2.out.c0
   have r1 := X2.out.c1
   have r2 := X2.out.c2
   have r3 := X2.out.c3
   have r4 := X2.out.c4
   have r5 := X2.out.c5
   have r6 := X2.out.c6
   have r7 := X2.out.c7
   have r8 := X2.out.c8
   have r9 := X2.out.c9
   have r10 := X2.out.c10
   have r11 := X2.out.c11
   have r12 := X2.out.c12
   have r13 := X2.out.c13
   have rz0 := X2.out.fz 0
   have rz1 := X2.out.fz 1
   have rz2 := X2.out.fz 2
   have rz3 := X2.out.fz 3
   have rz4 := X2.out.fz 4
   have rz5 := X2.out.fz 5
   have rz6 := X2.out.fz 6
   have rz7 := X2.out.fz 7
   have rz8 := X2.out.fz 8
   have rz9 := X2.out.fz 9
   have rz10 := X2.out.fz 10
   have rz11 := X2.out.fz 11
   have rz12 := X2.out.fz 12
   have rz13 := X2.out.fz 13
   have HSs1 := Lib.hid (X2.out.all (.slice bA bn bc) (.slice wA wn wc) (.bool dn) (.int .i64 po) (.int .i64 fa) (.int .i64 wi) (.int .i64 (P.base : Int)) (.int .i64 (P.pages : Int)) (.int .i64 (P.most : Int)) (.int .i64 (P.epoch : Int)) (.int .i64 (P.count : Int)) (.int .i64 L) (.slice A n c) (.int .i64 (P.hand : Int)))
   go_wp2_with fail
   clear r0 r1 r2 r3 r4 r5 r6 r7 r8 r9 r10 r11 r12 r13 rz0 rz1 rz2 rz3 rz4 rz5 rz6 rz7 rz8 rz9 rz10 rz11 rz12 rz13
   obtain ⟨s1, s1o⟩ := HSs1.out _ rfl
   clear HSs1
   generalize ((((((((((((((w1.setCell ⟨w.heap.size + 1, 0, none⟩ (.slice bA bn bc)).setCell ⟨w.heap.size + 1, 1, none⟩ (.slice wA wn wc)).setCell ⟨w.heap.size + 1, 2, none⟩ (.bool dn)).setCell ⟨w.heap.size + 1, 3, none⟩ (.int .i64 po)).setCell ⟨w.heap.size + 1, 4, none⟩ (.int .i64 fa)).setCell ⟨w.heap.size + 1, 5, none⟩ (.int .i64 wi)).setCell ⟨w.heap.size + 1, 6, none⟩ (.int .i64 (P.base : Int))).setCell ⟨w.heap.size + 1, 7, none⟩ (.int .i64 (P.pages : Int))).setCell ⟨w.heap.size + 1, 8, none⟩ (.int .i64 (P.most : Int))).setCell ⟨w.heap.size + 1, 9, none⟩ (.int .i64 (P.epoch : Int))).setCell ⟨w.heap.size + 1, 10, none⟩ (.int .i64 (P.count : Int))).setCell ⟨w.heap.size + 1, 11, none⟩ (.int .i64 L)).setCell ⟨w.heap.size + 1, 12, none⟩ (.slice A n c)).setCell ⟨w.heap.size + 1, 13, none⟩ (.int .i64 (P.hand : Int))) = wf at *
   clear y0 y1 y2 y3 y4 y5 y6 y7 y8 y9 y10 y11 y12 y13
   have z0 := s1.c0
   have z1 := s1.c1
   have z2 := s1.c2
   have z3 := s1.c3
   have z4 := s1.c4
   have z5 := s1.c5
   have z6 := s1.c6
   have z7 := s1.c7
   have z8 := s1.c8
   have z9 := s1.c9
   have z10 := s1.c10
   have z11 := s1.c11
   have z12 := s1.c12
   have z13 := s1.c13
   refine bodyPost_ret (v := .tuple #[.agg #[.slice bA bn bc, .slice wA wn wc, .bool dn, .int .i64 po, .int .i64 fa, .int .i64 wi, .int .i64 (P.base : Int), .int .i64 (P.pages : Int), .int .i64 (P.most : Int), .int .i64 (P.epoch : Int), .int .i64 (P.count : Int), .int .i64 L, .slice A n c, .int .i64 (P.hand : Int)], .int .i64 2]) (by simp [results, Tryz.results30, go_sem, z0, z1, z2, z3, z4, z5, z6, z7, z8, z9, z10, z11, z12, z13]) rfl ?_
   have hbf : Below w.heap.size w wf := HB.out.trans (s1o.below (fun k e => by omega) HB.out.size)
   exact ⟨_, rfl, ⟨bA, bn, bc, wA, wn, wc, dn, po, fa, wi, _, q, rfl, (HK.out.below hbf).mono (fun k e => .inl e), by rw [HN.out]; exact (HFG.out.below hbf).mono (fun k e => .inl e), HQF.out⟩, hbf⟩
  ·have t2 : decide (page ≥ (P.pages : Int)) = false := decide_eq_false (by omega)
   have t2' : decide ((P.pages : Int) ≤ page) = false := decide_eq_false (by omega)
   rcases hpg with hpg | ⟨rfl, hpg⟩
   ·have t3 : ((nb : Int) != 4080) = true := bne_iff_ne.2 (by omega)
    clear hpg hpg0 hpg1
    go_upto_region 2 with fail
    clear y7 t2 t2' t3
    have y0 := X1.out.c0
    have y1 := X1.out.c1
    have y2 := X1.out.c2
    have y3 := X1.out.c3
    have y4 := X1.out.c4
    have y5 := X1.out.c5
    have y6 := X1.out.c6
    have y7 := X1.out.c7
    have y8 := X1.out.c8
    have y9 := X1.out.c9
    have y10 := X1.out.c10
    have y11 := X1.out.c11
    have y12 := X1.out.c12
    have y13 := X1.out.c13
    have r0 := X2.out.c0
    have r1 := X2.out.c1
    have r2 := X2.out.c2
    have r3 := X2.out.c3
    have r4 := X2.out.c4
    have r5 := X2.out.c5
    have r6 := X2.out.c6
    have r7 := X2.out.c7
    have r8 := X2.out.c8
    have r9 := X2.out.c9
    have r10 := X2.out.c10
    have r11 := X2.out.c11
    have r12 := X2.out.c12
    have r13 := X2.out.c13
    have rz0 := X2.out.fz 0
    have rz1 := X2.out.fz 1
    have rz2 := X2.out.fz 2
    have rz3 := X2.out.fz 3
    have rz4 := X2.out.fz 4
    have rz5 := X2.out.fz 5
    have rz6 := X2.out.fz 6
    have rz7 := X2.out.fz 7
    have rz8 := X2.out.fz 8
    have rz9 := X2.out.fz 9
    have rz10 := X2.out.fz 10
    have rz11 := X2.out.fz 11
    have rz12 := X2.out.fz 12
    have rz13 := X2.out.fz 13
    have HSs1 := Lib.hid (X2.out.all (.slice bA bn bc) (.slice wA wn wc) (.bool dn) (.int .i64 po) (.int .i64 fa) (.int .i64 wi) (.int .i64 (P.base : Int)) (.int .i64 (P.pages : Int)) (.int .i64 (P.most : Int)) (.int .i64 (P.epoch : Int)) (.int .i64 (P.count : Int)) (.int .i64 L) (.slice A n c) (.int .i64 (P.hand : Int)))
    go_wp2_with fail
    clear r0 r1 r2 r3 r4 r5 r6 r7 r8 r9 r10 r11 r12 r13 rz0 rz1 rz2 rz3 rz4 rz5 rz6 rz7 rz8 rz9 rz10 rz11 rz12 rz13
    obtain ⟨s1, s1o⟩ := HSs1.out _ rfl
    clear HSs1
    generalize ((((((((((((((w1.setCell ⟨w.heap.size + 1, 0, none⟩ (.slice bA bn bc)).setCell ⟨w.heap.size + 1, 1, none⟩ (.slice wA wn wc)).setCell ⟨w.heap.size + 1, 2, none⟩ (.bool dn)).setCell ⟨w.heap.size + 1, 3, none⟩ (.int .i64 po)).setCell ⟨w.heap.size + 1, 4, none⟩ (.int .i64 fa)).setCell ⟨w.heap.size + 1, 5, none⟩ (.int .i64 wi)).setCell ⟨w.heap.size + 1, 6, none⟩ (.int .i64 (P.base : Int))).setCell ⟨w.heap.size + 1, 7, none⟩ (.int .i64 (P.pages : Int))).setCell ⟨w.heap.size + 1, 8, none⟩ (.int .i64 (P.most : Int))).setCell ⟨w.heap.size + 1, 9, none⟩ (.int .i64 (P.epoch : Int))).setCell ⟨w.heap.size + 1, 10, none⟩ (.int .i64 (P.count : Int))).setCell ⟨w.heap.size + 1, 11, none⟩ (.int .i64 L)).setCell ⟨w.heap.size + 1, 12, none⟩ (.slice A n c)).setCell ⟨w.heap.size + 1, 13, none⟩ (.int .i64 (P.hand : Int))) = wf at *
    clear y0 y1 y2 y3 y4 y5 y6 y7 y8 y9 y10 y11 y12 y13
    have z0 := s1.c0
    have z1 := s1.c1
    have z2 := s1.c2
    have z3 := s1.c3
    have z4 := s1.c4
    have z5 := s1.c5
    have z6 := s1.c6
    have z7 := s1.c7
    have z8 := s1.c8
    have z9 := s1.c9
    have z10 := s1.c10
    have z11 := s1.c11
    have z12 := s1.c12
    have z13 := s1.c13
    refine bodyPost_ret (v := .tuple #[.agg #[.slice bA bn bc, .slice wA wn wc, .bool dn, .int .i64 po, .int .i64 fa, .int .i64 wi, .int .i64 (P.base : Int), .int .i64 (P.pages : Int), .int .i64 (P.most : Int), .int .i64 (P.epoch : Int), .int .i64 (P.count : Int), .int .i64 L, .slice A n c, .int .i64 (P.hand : Int)], .int .i64 2]) (by simp [results, Tryz.results30, go_sem, z0, z1, z2, z3, z4, z5, z6, z7, z8, z9, z10, z11, z12, z13]) rfl ?_
    have hbf : Below w.heap.size w wf := HB.out.trans (s1o.below (fun k e => by omega) HB.out.size)
    exact ⟨_, rfl, ⟨bA, bn, bc, wA, wn, wc, dn, po, fa, wi, _, q, rfl, (HK.out.below hbf).mono (fun k e => .inl e), by rw [HN.out]; exact (HFG.out.below hbf).mono (fun k e => .inl e), HQF.out⟩, hbf⟩
   ·have t3 : (((4080 : Nat) : Int) != 4080) = false := rfl
    have t4 : decide (lsn < 0) = true := decide_eq_true hpg
    clear hpg hpg0 hpg1
    go_upto_region 2 with fail
    clear y7 t2 t2' t3
    have y0 := X1.out.c0
    have y1 := X1.out.c1
    have y2 := X1.out.c2
    have y3 := X1.out.c3
    have y4 := X1.out.c4
    have y5 := X1.out.c5
    have y6 := X1.out.c6
    have y7 := X1.out.c7
    have y8 := X1.out.c8
    have y9 := X1.out.c9
    have y10 := X1.out.c10
    have y11 := X1.out.c11
    have y12 := X1.out.c12
    have y13 := X1.out.c13
    have r0 := X2.out.c0
    have r1 := X2.out.c1
    have r2 := X2.out.c2
    have r3 := X2.out.c3
    have r4 := X2.out.c4
    have r5 := X2.out.c5
    have r6 := X2.out.c6
    have r7 := X2.out.c7
    have r8 := X2.out.c8
    have r9 := X2.out.c9
    have r10 := X2.out.c10
    have r11 := X2.out.c11
    have r12 := X2.out.c12
    have r13 := X2.out.c13
    have rz0 := X2.out.fz 0
    have rz1 := X2.out.fz 1
    have rz2 := X2.out.fz 2
    have rz3 := X2.out.fz 3
    have rz4 := X2.out.fz 4
    have rz5 := X2.out.fz 5
    have rz6 := X2.out.fz 6
    have rz7 := X2.out.fz 7
    have rz8 := X2.out.fz 8
    have rz9 := X2.out.fz 9
    have rz10 := X2.out.fz 10
    have rz11 := X2.out.fz 11
    have rz12 := X2.out.fz 12
    have rz13 := X2.out.fz 13
    have HSs1 := Lib.hid (X2.out.all (.slice bA bn bc) (.slice wA wn wc) (.bool dn) (.int .i64 po) (.int .i64 fa) (.int .i64 wi) (.int .i64 (P.base : Int)) (.int .i64 (P.pages : Int)) (.int .i64 (P.most : Int)) (.int .i64 (P.epoch : Int)) (.int .i64 (P.count : Int)) (.int .i64 L) (.slice A n c) (.int .i64 (P.hand : Int)))
    go_wp2_with fail
    clear r0 r1 r2 r3 r4 r5 r6 r7 r8 r9 r10 r11 r12 r13 rz0 rz1 rz2 rz3 rz4 rz5 rz6 rz7 rz8 rz9 rz10 rz11 rz12 rz13
    obtain ⟨s1, s1o⟩ := HSs1.out _ rfl
    clear HSs1
    generalize ((((((((((((((w1.setCell ⟨w.heap.size + 1, 0, none⟩ (.slice bA bn bc)).setCell ⟨w.heap.size + 1, 1, none⟩ (.slice wA wn wc)).setCell ⟨w.heap.size + 1, 2, none⟩ (.bool dn)).setCell ⟨w.heap.size + 1, 3, none⟩ (.int .i64 po)).setCell ⟨w.heap.size + 1, 4, none⟩ (.int .i64 fa)).setCell ⟨w.heap.size + 1, 5, none⟩ (.int .i64 wi)).setCell ⟨w.heap.size + 1, 6, none⟩ (.int .i64 (P.base : Int))).setCell ⟨w.heap.size + 1, 7, none⟩ (.int .i64 (P.pages : Int))).setCell ⟨w.heap.size + 1, 8, none⟩ (.int .i64 (P.most : Int))).setCell ⟨w.heap.size + 1, 9, none⟩ (.int .i64 (P.epoch : Int))).setCell ⟨w.heap.size + 1, 10, none⟩ (.int .i64 (P.count : Int))).setCell ⟨w.heap.size + 1, 11, none⟩ (.int .i64 L)).setCell ⟨w.heap.size + 1, 12, none⟩ (.slice A n c)).setCell ⟨w.heap.size + 1, 13, none⟩ (.int .i64 (P.hand : Int))) = wf at *
    clear y0 y1 y2 y3 y4 y5 y6 y7 y8 y9 y10 y11 y12 y13
    have z0 := s1.c0
    have z1 := s1.c1
    have z2 := s1.c2
    have z3 := s1.c3
    have z4 := s1.c4
    have z5 := s1.c5
    have z6 := s1.c6
    have z7 := s1.c7
    have z8 := s1.c8
    have z9 := s1.c9
    have z10 := s1.c10
    have z11 := s1.c11
    have z12 := s1.c12
    have z13 := s1.c13
    refine bodyPost_ret (v := .tuple #[.agg #[.slice bA bn bc, .slice wA wn wc, .bool dn, .int .i64 po, .int .i64 fa, .int .i64 wi, .int .i64 (P.base : Int), .int .i64 (P.pages : Int), .int .i64 (P.most : Int), .int .i64 (P.epoch : Int), .int .i64 (P.count : Int), .int .i64 L, .slice A n c, .int .i64 (P.hand : Int)], .int .i64 2]) (by simp [results, Tryz.results30, go_sem, z0, z1, z2, z3, z4, z5, z6, z7, z8, z9, z10, z11, z12, z13]) rfl ?_
    have hbf : Below w.heap.size w wf := HB.out.trans (s1o.below (fun k e => by omega) HB.out.size)
    exact ⟨_, rfl, ⟨bA, bn, bc, wA, wn, wc, dn, po, fa, wi, _, q, rfl, (HK.out.below hbf).mono (fun k e => .inl e), by rw [HN.out]; exact (HFG.out.below hbf).mono (fun k e => .inl e), HQF.out⟩, hbf⟩
set_option maxRecDepth 100000 in
set_option maxHeartbeats 16000000 in
theorem rSet_good {G : Nat → Prop} {w : World} {v : Value} {D : DiskS} {P : PoS} {L : Int} (h : RP G w v D P L) (hG : ∀ k, G k → k < w.heap.size) (hpi : PI D P) (hdn : DN D) (hpd : D.pending.length ≤ 1000000) (hct : P.count ≤ 1152921504606846976) (page : Nat) (lsn : Int) (Ab : Option Addr) (cb : Nat) (l : List UInt8) (hl : l.length = 4080) (hbr : BR w Ab 4080 l) (hp : page < P.pages) (hls : 0 ≤ lsn) :
  Calls Tryz.prog 30 #[v, .int .i64 (page : Int), .slice Ab 4080 cb, .int .i64 lsn] w (RSet G w (setR (some L) D P (page : Int) l lsn) L) := by
 have hr : setR (some L) D P (page : Int) l lsn = match findP P page with
   | some i => (D, { P with fr := P.fr.set i ⟨page, l, lsn, true, true⟩ }, 0)
   | none => holdR (some L) D P ⟨page, l, lsn, true, true⟩ := by
  unfold setR
  rw [if_neg (by rw [setE_2, if_neg (by omega)]; simp), Int.toNat_natCast]
  rfl
 obtain ⟨RR, hRR⟩ : ∃ r, r = setR (some L) D P (page : Int) l lsn := ⟨_, rfl⟩
 rw [← hRR]
 rw [← hRR] at hr
 have HE := Lib.hid hr
 have HFI : Hid (∀ W v', RP G W v' D P L → Calls Tryz.prog 46 #[v', .int .i64 (page : Int)] W fun e w' => e = .returned (.int .i64 (fI (findP P page))) ∧ Below W.heap.size W w') := Lib.hid (fun W v' h' => rFind_any h' hpi page)
 clear hRR
 have HFL := Lib.hid (fun i (e : findP P page = some i) => (findP_some e).1)
 clear hr
 obtain ⟨bA, bn, bc, wA, wn, wc, dn, po, fa, wi, fv, q, rfl, h1, h2, h3⟩ := h
 have hlen : P.fr.length = q.length := by rw [← h3, List.length_map]
 obtain ⟨A, c, rfl, hc1, hc2, hA⟩ := h2.form
 have HT := Lib.hid (two14 w (.slice bA bn bc) (.slice wA wn wc) (.bool dn) (.int .i64 po) (.int .i64 fa) (.int .i64 wi) (.int .i64 (P.base : Int)) (.int .i64 (P.pages : Int)) (.int .i64 (P.most : Int)) (.int .i64 (P.epoch : Int)) (.int .i64 (P.count : Int)) (.int .i64 L) (.slice A q.length c) (.int .i64 (P.hand : Int)))
 have HK := Lib.hid h1
 have HFG := Lib.hid h2
 have HQF := Lib.hid h3
 obtain ⟨n, hn⟩ : ∃ n, n = q.length := ⟨_, rfl⟩
 have HN := Lib.hid hn
 rw [← hn] at HT ⊢
 have HGl := Lib.hid hG
 have HPI := Lib.hid hpi
 have HDN := Lib.hid hdn
 have HPD := Lib.hid hpd
 have HCT := Lib.hid hct
 have HBL := Lib.hid hbr
 have HLL := Lib.hid hl
 have HMM : Hid (P.fr.length ≤ 256) := Lib.hid (by have := hpi.len; have := hpi.m2; omega)
 have t1 : decide ((page : Int) < 0) = false := decide_eq_false (by omega)
 have t2 : decide ((page : Int) ≥ (P.pages : Int)) = false := decide_eq_false (by omega)
 have t2' : decide ((P.pages : Int) ≤ (page : Int)) = false := decide_eq_false (by omega)
 have t2n : decide (P.pages ≤ page) = false := decide_eq_false (by omega)
 have t3 : (((4080 : Nat) : Int) != 4080) = false := rfl
 have t4 : decide (lsn < 0) = false := decide_eq_false (by omega)
 obtain ⟨i0, hi0, hz0, hz1, hz2⟩ := info_parts info_u8
 have hbt : (0 + 4080 + (0 + 4080) / 4 + 256) * 1 ≤ 281474976710656 := by omega
 have hmx : 0 + 4080 ≤ maxLen := by simp only [maxLen]; omega
 have hone : ∀ u ∈ l.map bv, u.oneCell' = true := by intro u hu; obtain ⟨b, _, rfl⟩ := List.mem_map.1 hu; rfl
 clear h1 h2 h3 hn hc1 hc2 hA hlen hG hpi hdn hpd hct hl hbr hp hls
 go_enter Tryz.func30, Tryz.ntmps30
 go_upto_region 1 with fail
 obtain ⟨x1, x2, hb, hs⟩ := HT.out _ rfl
 clear HT
 generalize (w.alloc (.cells #[.slice bA bn bc, .slice wA wn wc, .bool dn, .int .i64 po, .int .i64 fa, .int .i64 wi, .int .i64 (P.base : Int), .int .i64 (P.pages : Int), .int .i64 (P.most : Int), .int .i64 (P.epoch : Int), .int .i64 (P.count : Int), .int .i64 L, .slice A n c, .int .i64 (P.hand : Int)] 42)).alloc (.cells #[.slice none 0 0, .slice none 0 0, .bool false, .int .i64 0, .int .i64 0, .int .i64 0, .int .i64 0, .int .i64 0, .int .i64 0, .int .i64 0, .int .i64 0, .int .i64 0, .slice none 0 0, .int .i64 0] 42) = w1 at *
 have X1 := Lib.hid x1
 have X2 := Lib.hid x2
 have HB := Lib.hid hb
 have HS1 := Lib.hid hs
 have y7 := x1.c7
 clear x1 x2 hb hs
 have HBL1 := Lib.hid (HBL.out.below HB.out)
 go_upto_region 3 with fail
 clear y7 t1 t2 t2' t2n t3 t4
 go_upto_region 4 with fail
 go_upto_region 5 with (at_builtin; refine wpList_append_Rd _ rfl (.tmp 32) (.tmp 33) _ rfl w1.heap.size 5 i0 _ 1 1 Tryz.underlying57 hi0 hz0 hz1 hz2 rfl (.slice none 0 0) 0 [] rfl ⟨rfl, .inl ⟨rfl, rfl⟩⟩ Ab 4080 cb _ rfl HBL1.out hone hbt hmx (Nat.le_refl _) ?_; intro v2 w2 hown2 hg2 _ hbl2; obtain ⟨A2, c2, rfl, _, _⟩ := own_form hown2)
 rw [Nat.zero_add, List.nil_append] at hown2
 have HB2 : Hid (Below w1.heap.size w1 w2) := Lib.hid ⟨hg2.os, hg2.tape, hg2.output, hg2.size, fun k hk => hg2.block k hk (by simp [Value.ownBlock])⟩
 have HOB2 : Hid (OB w2 w1.heap.size (.slice A2 4080 c2) l) := Lib.hid (OB.of_own (by rw [← HLL.out] at hown2 ⊢; exact hown2) rfl)
 clear hown2 hg2 hbl2 hone hbt hmx
 have X5 := Lib.hid (F5.new w2 (.int .i64 (page : Int)) (.slice A2 4080 c2) (.int .i64 lsn) (.bool true) (.bool true))
 have HB3 : Hid (Below w2.heap.size w2 (w2.alloc (.cells #[.int .i64 (page : Int), .slice A2 4080 c2, .int .i64 lsn, .bool true, .bool true] 98))) := Lib.hid (gr_alloc (gr_refl w2) _)
 go_upto_region 5 with fail
 generalize w2.alloc (.cells #[.int .i64 (page : Int), .slice A2 4080 c2, .int .i64 lsn, .bool true, .bool true] 98) = w3 at *
 obtain ⟨g5, hg5⟩ : ∃ g, g = w2.heap.size := ⟨_, rfl⟩
 rw [← hg5] at X5 ⊢
 have HBW2 : Hid (Below w.heap.size w w2) := Lib.hid (HB.out.trans (HB2.out.mono HB.out.size))
 have HBW3 : Hid (Below w.heap.size w w3) := Lib.hid (HBW2.out.trans (HB3.out.mono HBW2.out.size))
 have X1 := Lib.hid ((X1.out.below HB2.out).below HB3.out)
 have X2 := Lib.hid ((X2.out.below HB2.out).below HB3.out)
 have HOB3 := Lib.hid (HOB2.out.below HB3.out)
 have HS2 : Hid (w.heap.size + 2 ≤ w1.heap.size ∧ w1.heap.size ≤ w2.heap.size ∧ w2.heap.size ≤ w3.heap.size) := Lib.hid ⟨by have := HS1.out; omega, HB2.out.size, HB3.out.size⟩
 clear hg5 HBL1 HBL
 have y0 := X1.out.c0
 have y1 := X1.out.c1
 have y2 := X1.out.c2
 have y3 := X1.out.c3
 have y4 := X1.out.c4
 have y5 := X1.out.c5
 have y6 := X1.out.c6
 have y7 := X1.out.c7
 have y8 := X1.out.c8
 have y9 := X1.out.c9
 have y10 := X1.out.c10
 have y11 := X1.out.c11
 have y12 := X1.out.c12
 have y13 := X1.out.c13
 go_upto_region 6 with fail
 refine (HFI.out _ _ ⟨bA, bn, bc, wA, wn, wc, dn, po, fa, wi, _, q, rfl, HK.out.below HBW3.out, by rw [HN.out]; exact HFG.out.below HBW3.out, HQF.out⟩).mono ?_
 rintro e w4 ⟨rfl, hb4⟩
 have HB4 := Lib.hid hb4
 have X1 := Lib.hid (X1.out.below hb4)
 have X2 := Lib.hid (X2.out.below hb4)
 have X5 := Lib.hid (X5.out.below hb4)
 have HOB4 := Lib.hid (HOB3.out.below hb4)
 have HBW : Hid (Below w.heap.size w w4) := Lib.hid (HBW3.out.trans (hb4.mono HBW3.out.size))
 clear hb4 HFI y0 y1 y2 y3 y4 y5 y6 y7 y8 y9 y10 y11 y12 y13
 have HG1 : Hid (∀ k, plusG G w1 w4 k → k < w4.heap.size) := Lib.hid (fun k hk => by
  rcases hk with hk | hk
  ·have := HGl.out k hk; have := HBW.out.size; omega
  ·exact hk.2)
 have HRP : Hid (RP (plusG G w1 w4) w4 (.agg #[.slice bA bn bc, .slice wA wn wc, .bool dn, .int .i64 po, .int .i64 fa, .int .i64 wi, .int .i64 (P.base : Int), .int .i64 (P.pages : Int), .int .i64 (P.most : Int), .int .i64 (P.epoch : Int), .int .i64 (P.count : Int), .int .i64 L, .slice A n c, .int .i64 (P.hand : Int)]) D P L) := Lib.hid ⟨bA, bn, bc, wA, wn, wc, dn, po, fa, wi, _, q, rfl, (HK.out.below HBW.out).mono (fun k e => .inl e), by rw [HN.out]; exact (HFG.out.below HBW.out).mono (fun k e => .inl e), HQF.out⟩
 have hu : OB w4 0 (.slice A2 4080 c2) l := by
  have := HOB4.out
  exact this.lower (Nat.zero_le _)
 have hug : ∀ k, (Value.slice A2 4080 c2).ownBlock = some k → plusG G w1 w4 k := fun k e => .inr (HOB4.out.lt k e)
 have HS4 : Hid (w3.heap.size ≤ w4.heap.size) := Lib.hid HB4.out.size
 have y0 := X1.out.c0
 have y1 := X1.out.c1
 have y2 := X1.out.c2
 have y3 := X1.out.c3
 have y4 := X1.out.c4
 have y5 := X1.out.c5
 have y6 := X1.out.c6
 have y7 := X1.out.c7
 have y8 := X1.out.c8
 have y9 := X1.out.c9
 have y10 := X1.out.c10
 have y11 := X1.out.c11
 have y12 := X1.out.c12
 have y13 := X1.out.c13
 have z0 := X5.out.c0
 have z1 := X5.out.c1
 have z2 := X5.out.c2
 have z3 := X5.out.c3
 have z4 := X5.out.c4
 cases hf : findP P page with
 | some i =>
  have i0' : (0 : Int) ≤ (i : Int) := Int.natCast_nonneg _
  have t5 : decide ((i : Int) ≥ 0) = true := decide_eq_true i0'
  have t5' : decide ((0 : Int) ≤ (i : Int)) = true := decide_eq_true i0'
  have HWI : Hid (Calls Tryz.prog 59 #[.agg #[.slice bA bn bc, .slice wA wn wc, .bool dn, .int .i64 po, .int .i64 fa, .int .i64 wi, .int .i64 (P.base : Int), .int .i64 (P.pages : Int), .int .i64 (P.most : Int), .int .i64 (P.epoch : Int), .int .i64 (P.count : Int), .int .i64 L, .slice A n c, .int .i64 (P.hand : Int)], .int .i64 (i : Int), .agg #[.int .i64 (page : Int), .slice A2 4080 c2, .int .i64 lsn, .bool true, .bool true]] w4 fun e w' => ∃ bA4 bn4 bc4 wA4 wn4 wc4 dn4 po4 fa4 wi4 A4 n4 c4 q4, e = .returned (.agg #[.slice bA4 bn4 bc4, .slice wA4 wn4 wc4, .bool dn4, .int .i64 po4, .int .i64 fa4, .int .i64 wi4, .int .i64 (P.base : Int), .int .i64 (P.pages : Int), .int .i64 (P.most : Int), .int .i64 (P.epoch : Int), .int .i64 (P.count : Int), .int .i64 L, .slice A4 n4 c4, .int .i64 (P.hand : Int)]) ∧ RK (plusG (plusG G w1 w4) w4 w') w' (.agg #[.slice bA4 bn4 bc4, .slice wA4 wn4 wc4, .bool dn4, .int .i64 po4, .int .i64 fa4, .int .i64 wi4]) D ∧ FG (plusG (plusG G w1 w4) w4 w') w' (.slice A4 n4 c4) q4 ∧ q4.map Prod.fst = P.fr.set i ⟨page, l, lsn, true, true⟩ ∧ Below w4.heap.size w4 w') := Lib.hid ((rWith_any HRP.out HG1.out i (HFL.out i hf) ⟨page, l, lsn, true, true⟩ (.slice A2 4080 c2) hu hug HMM.out).mono (by
   rintro e w' ⟨v', rfl, ⟨a1, a2, a3, a4, a5, a6, a7, a8, a9, a10, fv3, q3, rfl, h1, h2, h3⟩, hb⟩
   obtain ⟨A3, c3, rfl, _⟩ := h2.form
   exact ⟨a1, a2, a3, a4, a5, a6, a7, a8, a9, a10, A3, _, c3, q3, rfl, h1, h2, h3, hb⟩))
  have HE2 : Hid (RR = (D, { P with fr := P.fr.set i ⟨page, l, lsn, true, true⟩ }, 0)) := Lib.hid (by rw [HE.out, hf])
  rw [show fI (some i) = (i : Int) from rfl]
  clear hu hug hf i0'
  go_upto_region 7 with fail
  go_wp2_with fail
  refine HWI.out.mono ?_
  rintro e w5 ⟨bA4, bn4, bc4, wA4, wn4, wc4, dn4, po4, fa4, wi4, A4, n4, c4, q4, rfl, hk4, hf4, hq4, hb5⟩
  clear HWI y0 y1 y2 y3 y4 y5 y6 y7 y8 y9 y10 y11 y12 y13 z0 z1 z2 z3 z4
  have HK4 := Lib.hid hk4
  have HF4 := Lib.hid hf4
  have HQ4 := Lib.hid hq4
  have HB5 := Lib.hid hb5
  have X2 := Lib.hid (X2.out.below hb5)
  clear hk4 hf4 hq4 hb5
  have r0 := X2.out.c0
  have r1 := X2.out.c1
  have r2 := X2.out.c2
  have r3 := X2.out.c3
  have r4 := X2.out.c4
  have r5 := X2.out.c5
  have r6 := X2.out.c6
  have r7 := X2.out.c7
  have r8 := X2.out.c8
  have r9 := X2.out.c9
  have r10 := X2.out.c10
  have r11 := X2.out.c11
  have r12 := X2.out.c12
  have r13 := X2.out.c13
  have rz0 := X2.out.fz 0
  have rz1 := X2.out.fz 1
  have rz2 := X2.out.fz 2
  have rz3 := X2.out.fz 3
  have rz4 := X2.out.fz 4
  have rz5 := X2.out.fz 5
  have rz6 := X2.out.fz 6
  have rz7 := X2.out.fz 7
  have rz8 := X2.out.fz 8
  have rz9 := X2.out.fz 9
  have rz10 := X2.out.fz 10
  have rz11 := X2.out.fz 11
  have rz12 := X2.out.fz 12
  have rz13 := X2.out.fz 13
  have HSs1 := Lib.hid (X2.out.all (.slice bA4 bn4 bc4) (.slice wA4 wn4 wc4) (.bool dn4) (.int .i64 po4) (.int .i64 fa4) (.int .i64 wi4) (.int .i64 (P.base : Int)) (.int .i64 (P.pages : Int)) (.int .i64 (P.most : Int)) (.int .i64 (P.epoch : Int)) (.int .i64 (P.count : Int)) (.int .i64 L) (.slice A4 n4 c4) (.int .i64 (P.hand : Int)))
  go_wp2_with fail
  clear r0 r1 r2 r3 r4 r5 r6 r7 r8 r9 r10 r11 r12 r13 rz0 rz1 rz2 rz3 rz4 rz5 rz6 rz7 rz8 rz9 rz10 rz11 rz12 rz13
  obtain ⟨s1, s1o⟩ := HSs1.out _ rfl
  clear HSs1
  generalize ((((((((((((((w5.setCell ⟨w.heap.size + 1, 0, none⟩ (.slice bA4 bn4 bc4)).setCell ⟨w.heap.size + 1, 1, none⟩ (.slice wA4 wn4 wc4)).setCell ⟨w.heap.size + 1, 2, none⟩ (.bool dn4)).setCell ⟨w.heap.size + 1, 3, none⟩ (.int .i64 po4)).setCell ⟨w.heap.size + 1, 4, none⟩ (.int .i64 fa4)).setCell ⟨w.heap.size + 1, 5, none⟩ (.int .i64 wi4)).setCell ⟨w.heap.size + 1, 6, none⟩ (.int .i64 (P.base : Int))).setCell ⟨w.heap.size + 1, 7, none⟩ (.int .i64 (P.pages : Int))).setCell ⟨w.heap.size + 1, 8, none⟩ (.int .i64 (P.most : Int))).setCell ⟨w.heap.size + 1, 9, none⟩ (.int .i64 (P.epoch : Int))).setCell ⟨w.heap.size + 1, 10, none⟩ (.int .i64 (P.count : Int))).setCell ⟨w.heap.size + 1, 11, none⟩ (.int .i64 L)).setCell ⟨w.heap.size + 1, 12, none⟩ (.slice A4 n4 c4)).setCell ⟨w.heap.size + 1, 13, none⟩ (.int .i64 (P.hand : Int))) = wf at *
  have z0 := s1.c0
  have z1 := s1.c1
  have z2 := s1.c2
  have z3 := s1.c3
  have z4 := s1.c4
  have z5 := s1.c5
  have z6 := s1.c6
  have z7 := s1.c7
  have z8 := s1.c8
  have z9 := s1.c9
  have z10 := s1.c10
  have z11 := s1.c11
  have z12 := s1.c12
  have z13 := s1.c13
  refine bodyPost_ret (v := .tuple #[.agg #[.slice bA4 bn4 bc4, .slice wA4 wn4 wc4, .bool dn4, .int .i64 po4, .int .i64 fa4, .int .i64 wi4, .int .i64 (P.base : Int), .int .i64 (P.pages : Int), .int .i64 (P.most : Int), .int .i64 (P.epoch : Int), .int .i64 (P.count : Int), .int .i64 L, .slice A4 n4 c4, .int .i64 (P.hand : Int)], .int .i64 0]) (by simp [results, Tryz.results30, go_sem, z0, z1, z2, z3, z4, z5, z6, z7, z8, z9, z10, z11, z12, z13]) rfl ?_
  rw [HE2.out]
  have hbw5 : Below w.heap.size w w5 := HBW.out.trans (HB5.out.mono HBW.out.size)
  have hbf : Below w.heap.size w wf := hbw5.trans (s1o.below (fun k e => by omega) hbw5.size)
  have hS : ∀ k, k = w.heap.size + 1 → ¬ plusG (plusG G w1 w4) w4 w5 k := fun k e hk => by
   have h2 := HS2.out
   have h4 := HS4.out
   rcases hk with (hk | hk) | hk
   ·have := HGl.out k hk; omega
   ·omega
   ·omega
  have hpg : ∀ k, plusG (plusG G w1 w4) w4 w5 k → plusG G w wf k := plusG.in2 (by have := HS2.out; omega) (Nat.le_trans HB5.out.size s1o.size) HBW.out.size s1o.size
  exact ⟨_, rfl, ⟨bA4, bn4, bc4, wA4, wn4, wc4, dn4, po4, fa4, wi4, _, q4, rfl, (HK4.out.off s1o hS).mono hpg, (HF4.out.off s1o hS).mono hpg, HQ4.out⟩, hbf⟩
 | none =>
  have t5 : decide ((-1 : Int) ≥ 0) = false := by decide
  have t5' : decide ((0 : Int) ≤ (-1 : Int)) = false := by decide
  obtain ⟨⟨D4, P4, e4⟩, hr4⟩ : ∃ r, r = holdR (some L) D P ⟨page, l, lsn, true, true⟩ := ⟨_, rfl⟩
  have HWI : Hid (Calls Tryz.prog 62 #[.agg #[.slice bA bn bc, .slice wA wn wc, .bool dn, .int .i64 po, .int .i64 fa, .int .i64 wi, .int .i64 (P.base : Int), .int .i64 (P.pages : Int), .int .i64 (P.most : Int), .int .i64 (P.epoch : Int), .int .i64 (P.count : Int), .int .i64 L, .slice A n c, .int .i64 (P.hand : Int)], .agg #[.int .i64 (page : Int), .slice A2 4080 c2, .int .i64 lsn, .bool true, .bool true]] w4 fun e w' => ∃ bA4 bn4 bc4 wA4 wn4 wc4 dn4 po4 fa4 wi4 A4 n4 c4 q4, e = .returned (.tuple #[.agg #[.slice bA4 bn4 bc4, .slice wA4 wn4 wc4, .bool dn4, .int .i64 po4, .int .i64 fa4, .int .i64 wi4, .int .i64 (P4.base : Int), .int .i64 (P4.pages : Int), .int .i64 (P4.most : Int), .int .i64 (P4.epoch : Int), .int .i64 (P4.count : Int), .int .i64 L, .slice A4 n4 c4, .int .i64 (P4.hand : Int)], .int .i64 e4]) ∧ RK (plusG (plusG G w1 w4) w4 w') w' (.agg #[.slice bA4 bn4 bc4, .slice wA4 wn4 wc4, .bool dn4, .int .i64 po4, .int .i64 fa4, .int .i64 wi4]) D4 ∧ FG (plusG (plusG G w1 w4) w4 w') w' (.slice A4 n4 c4) q4 ∧ q4.map Prod.fst = P4.fr ∧ Below w4.heap.size w4 w') := Lib.hid (by
   have hx := rHold_any HRP.out HG1.out HPI.out HDN.out HPD.out HCT.out ⟨page, l, lsn, true, true⟩ (.slice A2 4080 c2) hu hug
   rw [← hr4] at hx
   refine hx.mono ?_
   rintro e w' ⟨v', rfl, ⟨a1, a2, a3, a4, a5, a6, a7, a8, a9, a10, fv3, q3, rfl, h1, h2, h3⟩, hb⟩
   obtain ⟨A3, c3, rfl, _⟩ := h2.form
   exact ⟨a1, a2, a3, a4, a5, a6, a7, a8, a9, a10, A3, _, c3, q3, rfl, h1, h2, h3, hb⟩)
  have HE2 : Hid (RR = (D4, P4, e4)) := Lib.hid (by rw [HE.out, hf]; exact hr4.symm)
  rw [show fI none = (-1 : Int) from rfl]
  clear hu hug hf hr4
  go_upto_region 8 with fail
  go_wp2_with fail
  refine HWI.out.mono ?_
  rintro e w5 ⟨bA4, bn4, bc4, wA4, wn4, wc4, dn4, po4, fa4, wi4, A4, n4, c4, q4, rfl, hk4, hf4, hq4, hb5⟩
  clear HWI y0 y1 y2 y3 y4 y5 y6 y7 y8 y9 y10 y11 y12 y13 z0 z1 z2 z3 z4
  have HK4 := Lib.hid hk4
  have HF4 := Lib.hid hf4
  have HQ4 := Lib.hid hq4
  have HB5 := Lib.hid hb5
  have X2 := Lib.hid (X2.out.below hb5)
  clear hk4 hf4 hq4 hb5
  have r0 := X2.out.c0
  have r1 := X2.out.c1
  have r2 := X2.out.c2
  have r3 := X2.out.c3
  have r4 := X2.out.c4
  have r5 := X2.out.c5
  have r6 := X2.out.c6
  have r7 := X2.out.c7
  have r8 := X2.out.c8
  have r9 := X2.out.c9
  have r10 := X2.out.c10
  have r11 := X2.out.c11
  have r12 := X2.out.c12
  have r13 := X2.out.c13
  have rz0 := X2.out.fz 0
  have rz1 := X2.out.fz 1
  have rz2 := X2.out.fz 2
  have rz3 := X2.out.fz 3
  have rz4 := X2.out.fz 4
  have rz5 := X2.out.fz 5
  have rz6 := X2.out.fz 6
  have rz7 := X2.out.fz 7
  have rz8 := X2.out.fz 8
  have rz9 := X2.out.fz 9
  have rz10 := X2.out.fz 10
  have rz11 := X2.out.fz 11
  have rz12 := X2.out.fz 12
  have rz13 := X2.out.fz 13
  have HSs1 := Lib.hid (X2.out.all (.slice bA4 bn4 bc4) (.slice wA4 wn4 wc4) (.bool dn4) (.int .i64 po4) (.int .i64 fa4) (.int .i64 wi4) (.int .i64 (P4.base : Int)) (.int .i64 (P4.pages : Int)) (.int .i64 (P4.most : Int)) (.int .i64 (P4.epoch : Int)) (.int .i64 (P4.count : Int)) (.int .i64 L) (.slice A4 n4 c4) (.int .i64 (P4.hand : Int)))
  go_wp2_with fail
  clear r0 r1 r2 r3 r4 r5 r6 r7 r8 r9 r10 r11 r12 r13 rz0 rz1 rz2 rz3 rz4 rz5 rz6 rz7 rz8 rz9 rz10 rz11 rz12 rz13
  obtain ⟨s1, s1o⟩ := HSs1.out _ rfl
  clear HSs1
  generalize ((((((((((((((w5.setCell ⟨w.heap.size + 1, 0, none⟩ (.slice bA4 bn4 bc4)).setCell ⟨w.heap.size + 1, 1, none⟩ (.slice wA4 wn4 wc4)).setCell ⟨w.heap.size + 1, 2, none⟩ (.bool dn4)).setCell ⟨w.heap.size + 1, 3, none⟩ (.int .i64 po4)).setCell ⟨w.heap.size + 1, 4, none⟩ (.int .i64 fa4)).setCell ⟨w.heap.size + 1, 5, none⟩ (.int .i64 wi4)).setCell ⟨w.heap.size + 1, 6, none⟩ (.int .i64 (P4.base : Int))).setCell ⟨w.heap.size + 1, 7, none⟩ (.int .i64 (P4.pages : Int))).setCell ⟨w.heap.size + 1, 8, none⟩ (.int .i64 (P4.most : Int))).setCell ⟨w.heap.size + 1, 9, none⟩ (.int .i64 (P4.epoch : Int))).setCell ⟨w.heap.size + 1, 10, none⟩ (.int .i64 (P4.count : Int))).setCell ⟨w.heap.size + 1, 11, none⟩ (.int .i64 L)).setCell ⟨w.heap.size + 1, 12, none⟩ (.slice A4 n4 c4)).setCell ⟨w.heap.size + 1, 13, none⟩ (.int .i64 (P4.hand : Int))) = wf at *
  have z0 := s1.c0
  have z1 := s1.c1
  have z2 := s1.c2
  have z3 := s1.c3
  have z4 := s1.c4
  have z5 := s1.c5
  have z6 := s1.c6
  have z7 := s1.c7
  have z8 := s1.c8
  have z9 := s1.c9
  have z10 := s1.c10
  have z11 := s1.c11
  have z12 := s1.c12
  have z13 := s1.c13
  refine bodyPost_ret (v := .tuple #[.agg #[.slice bA4 bn4 bc4, .slice wA4 wn4 wc4, .bool dn4, .int .i64 po4, .int .i64 fa4, .int .i64 wi4, .int .i64 (P4.base : Int), .int .i64 (P4.pages : Int), .int .i64 (P4.most : Int), .int .i64 (P4.epoch : Int), .int .i64 (P4.count : Int), .int .i64 L, .slice A4 n4 c4, .int .i64 (P4.hand : Int)], .int .i64 e4]) (by simp [results, Tryz.results30, go_sem, z0, z1, z2, z3, z4, z5, z6, z7, z8, z9, z10, z11, z12, z13]) rfl ?_
  rw [HE2.out]
  have hbw5 : Below w.heap.size w w5 := HBW.out.trans (HB5.out.mono HBW.out.size)
  have hbf : Below w.heap.size w wf := hbw5.trans (s1o.below (fun k e => by omega) hbw5.size)
  have hS : ∀ k, k = w.heap.size + 1 → ¬ plusG (plusG G w1 w4) w4 w5 k := fun k e hk => by
   have h2 := HS2.out
   have h4 := HS4.out
   rcases hk with (hk | hk) | hk
   ·have := HGl.out k hk; omega
   ·omega
   ·omega
  have hpg : ∀ k, plusG (plusG G w1 w4) w4 w5 k → plusG G w wf k := plusG.in2 (by have := HS2.out; omega) (Nat.le_trans HB5.out.size s1o.size) HBW.out.size s1o.size
  exact ⟨_, rfl, ⟨bA4, bn4, bc4, wA4, wn4, wc4, dn4, po4, fa4, wi4, _, q4, rfl, (HK4.out.off s1o hS).mono hpg, (HF4.out.off s1o hS).mono hpg, HQ4.out⟩, hbf⟩
theorem rSet_any {G : Nat → Prop} {w : World} {v : Value} {D : DiskS} {P : PoS} {L : Int} (h : RP G w v D P L) (hG : ∀ k, G k → k < w.heap.size) (hpi : PI D P) (hdn : DN D) (hpd : D.pending.length ≤ 1000000) (hct : P.count ≤ 1152921504606846976) (page lsn : Int) (Ab : Option Addr) (nb cb : Nat) (l : List UInt8) (hbr : BR w Ab nb l) :
  Calls Tryz.prog 30 #[v, .int .i64 page, .slice Ab nb cb, .int .i64 lsn] w (RSet G w (setR (some L) D P page l lsn) L) := by
 have hl := hbr.len
 by_cases hp : setE P page l.length lsn ≠ 0
 ·exact rSet_bad h page lsn Ab nb cb l hl hp
 ·have hpg : 0 ≤ page ∧ page < P.pages ∧ l.length = 4080 ∧ 0 ≤ lsn := by
   rw [setE_2] at hp
   by_cases hc : page < 0 ∨ (P.pages : Int) ≤ page ∨ l.length ≠ 4080 ∨ lsn < 0
   ·rw [if_pos hc] at hp; exact absurd (show (2 : Int) ≠ 0 by decide) hp
   ·omega
  obtain ⟨p, rfl⟩ := Int.eq_ofNat_of_zero_le hpg.1
  have hn : nb = 4080 := by omega
  subst hn
  exact rSet_good h hG hpi hdn hpd hct p lsn Ab cb l hl hbr (by omega) hpg.2.2.2
end Go.Proofs.YtmdgnjmhbjdlmaaGreat

/-! PrI -/
namespace Go.Proofs.YtmdgnjmhbjdlmaaGreat
open Go Go.RowKit
def prd (P : PoS) (dt : Bool) (p : Nat) : Bool := (findP P p).isSome && (!dt || (P.fr.getD ((findP P p).getD 0) fr0).dirty)
def heldD (P : PoS) (dt : Bool) : List Nat := (List.range P.pages).filter (prd P dt)
theorem heldD_held (P : PoS) : heldD P false = heldL P := by
 unfold heldD heldL
 refine List.filter_congr fun p _ => ?_
 unfold prd
 simp
theorem heldD_dirty (P : PoS) : heldD P true = dirtyL P := by
 unfold heldD dirtyL heldL
 rw [List.filter_filter]
 refine List.filter_congr fun p _ => ?_
 unfold prd
 rw [Bool.and_comm]
 simp
def OJ (w : World) (base : Nat) (v : Value) (l : List Int) : Prop := w.ownsRow base 3 1 v l.length (l.map (Value.int .i64))
section
variable {w w' : World} {base : Nat} {v : Value} {l : List Int}
theorem OJ.form (h : OJ w base v l) : ∃ A c, v = .slice A l.length c ∧ IR w A l.length l ∧ l.length ≤ c ∧ c ≤ maxLen := by
 obtain ⟨A, c, rfl, h1, h2⟩ := own_form h
 exact ⟨A, c, rfl, Rd.of_own h, h1, h2⟩
theorem OJ.below (h : OJ w base v l) (hb : Below w.heap.size w w') : OJ w' base v l := ownsRow_off h (Off.of_below (S := fun _ => False) hb) (fun _ _ h => h)
theorem OJ.lower {b : Nat} (h : OJ w base v l) (hb : b ≤ base) : OJ w b v l := own_lower h hb
theorem OJ.of_own {n : Nat} {xs : List Value} (h : w.ownsRow base 3 1 v n xs) (e : xs = l.map (Value.int .i64)) : OJ w base v l := by
 subst e
 have hl := h.1
 unfold OJ
 rw [List.length_map, Nat.mul_one] at hl
 rw [hl]
 exact h
end
theorem info_intR : (Tryz.prog.info? 3).map (fun i => (i.zero, i.size, i.bytes)) = some (some (.int .i64 0), 1, 8) := by kernel_rfl
set_option maxRecDepth 100000 in
set_option maxHeartbeats 16000000 in
theorem rHeld_any {G : Nat → Prop} {w : World} {v : Value} {D D' : DiskS} {P : PoS} {L : Int} (h : RP G w v D P L) (hpi : PI D' P) (dt : Bool) :
  Calls Tryz.prog 16 #[v, .bool dt] w fun e w' => ∃ u, e = .returned u ∧ OJ w' w.heap.size u (intsL (heldD P dt)) ∧ Below w.heap.size w w' := by
 have HPG : Hid (P.pages ≤ 4096) := Lib.hid (by have := hpi.fit; have := hpi.d2; omega)
 have HFI : Hid (∀ W v' p, RP G W v' D P L → Calls Tryz.prog 46 #[v', .int .i64 ((p : Nat) : Int)] W fun e w' => e = .returned (.int .i64 (fI (findP P p))) ∧ Below W.heap.size W w') := Lib.hid (fun W v' p h' => rFind_any h' hpi p)
 obtain ⟨bA, bn, bc, wA, wn, wc, dn, po, fa, wi, fv, q, rfl, h1, h2, h3⟩ := h
 have hlen : P.fr.length = q.length := by rw [← h3, List.length_map]
 obtain ⟨A, c, rfl, hc1, hc2, hA⟩ := h2.form
 have HA := Lib.hid hA
 have HX0 := Lib.hid (B14.new w (.slice bA bn bc) (.slice wA wn wc) (.bool dn) (.int .i64 po) (.int .i64 fa) (.int .i64 wi) (.int .i64 (P.base : Int)) (.int .i64 (P.pages : Int)) (.int .i64 (P.most : Int)) (.int .i64 (P.epoch : Int)) (.int .i64 (P.count : Int)) (.int .i64 L) (.slice A q.length c) (.int .i64 (P.hand : Int)))
 have HB0 : Hid (Below w.heap.size w (w.alloc (.cells #[.slice bA bn bc, .slice wA wn wc, .bool dn, .int .i64 po, .int .i64 fa, .int .i64 wi, .int .i64 (P.base : Int), .int .i64 (P.pages : Int), .int .i64 (P.most : Int), .int .i64 (P.epoch : Int), .int .i64 (P.count : Int), .int .i64 L, .slice A q.length c, .int .i64 (P.hand : Int)] 42))) := Lib.hid (gr_alloc (gr_refl w) _)
 have HK := Lib.hid h1
 have HFG := Lib.hid h2
 have HQF := Lib.hid h3
 have HLE := Lib.hid hlen
 obtain ⟨n, hn⟩ : ∃ n, n = q.length := ⟨_, rfl⟩
 have HN := Lib.hid hn
 rw [← hn] at HX0 HB0 ⊢
 obtain ⟨i0, hi0, hz0, hz1, hz2⟩ := info_parts info_intR
 clear h1 h2 h3 hn hc1 hc2 hA hlen hpi
 go_enter Tryz.func16, Tryz.ntmps16
 go_upto_region 2 with fail
 go_wp2_with fail
 generalize w.alloc (.cells #[.slice bA bn bc, .slice wA wn wc, .bool dn, .int .i64 po, .int .i64 fa, .int .i64 wi, .int .i64 (P.base : Int), .int .i64 (P.pages : Int), .int .i64 (P.most : Int), .int .i64 (P.epoch : Int), .int .i64 (P.count : Int), .int .i64 L, .slice A n c, .int .i64 (P.hand : Int)] 42) = w1 at *
 go_loopw [5, 6] (fun o x wr => ∃ (k mo : Nat) (Ao : Option Addr) (co : Nat), k ≤ P.pages ∧ mo ≤ k ∧ x = .int .i64 (k : Int) ∧ o = .slice Ao mo co ∧ Hid (wr.ownsRow w1.heap.size 3 1 (.slice Ao mo co) mo ((intsL ((List.range k).filter (prd P dt))).map (Value.int .i64))) ∧ Hid (Below w1.heap.size w1 wr)) (fun _ x _ => P.pages - (RowKit.intOf x).toNat)
 case atStart => exact ⟨0, 0, none, 0, by omega, by omega, rfl, rfl, Lib.hid (show w1.ownsRow w1.heap.size 3 1 (.slice none 0 0) 0 [] from ⟨rfl, .inl ⟨rfl, rfl⟩⟩), Lib.hid (gr_refl w1)⟩
 case round =>
  obtain ⟨k, mo, Ao, co, hk, hmk, rfl, rfl, HOI2, HBr⟩ := hrel
  have HMK := Lib.hid hmk
  have X1 := Lib.hid (HX0.out.below HBr.out)
  have hpg := HPG.out
  have hbt : (mo + 1 + (mo + 1) / 4 + 256) * 8 ≤ 281474976710656 := by omega
  have hmx : mo + 1 ≤ maxLen := by simp only [maxLen]; omega
  clear hmk
  by_cases hlt : k < P.pages
  ·have t1 : decide ((k : Int) < (P.pages : Int)) = true := decide_eq_true (by omega)
   have t1' : decide (k < P.pages) = true := decide_eq_true hlt
   have HBW : Hid (Below w.heap.size w wr) := Lib.hid (HB0.out.trans (HBr.out.mono HB0.out.size))
   have y0 := X1.out.c0
   have y1 := X1.out.c1
   have y2 := X1.out.c2
   have y3 := X1.out.c3
   have y4 := X1.out.c4
   have y5 := X1.out.c5
   have y6 := X1.out.c6
   have y7 := X1.out.c7
   have y8 := X1.out.c8
   have y9 := X1.out.c9
   have y10 := X1.out.c10
   have y11 := X1.out.c11
   have y12 := X1.out.c12
   have y13 := X1.out.c13
   go_upto_region 6 with fail
   refine (HFI.out _ _ _ ⟨bA, bn, bc, wA, wn, wc, dn, po, fa, wi, _, q, rfl, HK.out.below HBW.out, by rw [HN.out]; exact HFG.out.below HBW.out, HQF.out⟩).mono ?_
   rintro e w2 ⟨rfl, hb2⟩
   have HB2 : Hid (Below w1.heap.size w1 w2) := Lib.hid (HBr.out.trans (hb2.mono HBr.out.size))
   have HBW2 : Hid (Below w.heap.size w w2) := Lib.hid (HBW.out.trans (hb2.mono HBW.out.size))
   have HOI2 := Lib.hid (ownsRow_off HOI2.out (Off.of_below (S := fun _ => False) hb2) (fun _ _ h => h))
   have X1 := Lib.hid (X1.out.below hb2)
   clear hb2 t1 t1' y0 y1 y2 y3 y4 y5 y6 y7 y8 y9 y10 y11 y12 y13
   cases hf : findP P k with
   | none =>
    rw [show fI none = (-1 : Int) from rfl]
    have t5 : decide ((-1 : Int) ≥ 0) = false := by decide
    have t5' : decide ((0 : Int) ≤ (-1 : Int)) = false := by decide
    have HON : Hid (w2.ownsRow w1.heap.size 3 1 (.slice Ao mo co) mo ((intsL ((List.range (k + 1)).filter (prd P dt))).map (Value.int .i64))) := Lib.hid (by
     have hpr : prd P dt k = false := by unfold prd; rw [hf]; rfl
     have e1 : (List.range (k + 1)).filter (prd P dt) = (List.range k).filter (prd P dt) := by rw [List.range_succ, List.filter_append, List.filter_cons, hpr]; simp
     rw [e1]
     exact HOI2.out)
    clear hf
    go_wp2_with fail
    go_roundw
    case rel => exact ⟨k + 1, mo, Ao, co, by omega, by have := HMK.out; omega, by go_num, rfl, HON, HB2⟩
    case measure => simp [RowKit.intOf]; omega
   | some i =>
    rw [show fI (some i) = (i : Int) from rfl]
    have i0' : (0 : Int) ≤ (i : Int) := Int.natCast_nonneg _
    have t5 : decide ((i : Int) ≥ 0) = true := decide_eq_true i0'
    have t5' : decide ((0 : Int) ≤ (i : Int)) = true := decide_eq_true i0'
    have hiq : i < q.length := by rw [← HLE.out]; exact (findP_some hf).1
    obtain ⟨g1, rfl, _, _⟩ := HA.out (by omega)
    obtain ⟨⟨pf, pu⟩, hpq⟩ : ∃ p, q[i]? = some p := ⟨_, List.getElem?_eq_getElem hiq⟩
    have hpf : P.fr.getD i fr0 = pf := qf_at HQF.out hpq
    have HPF := Lib.hid hpf
    have y12 := X1.out.c12
    have f3 := (rf_cells (by have := (HFG.out.below HBW2.out).tk; exact this) hpq).2.2.2.1
    dsimp only at f3
    have i1 : (i : Int) < (n : Int) := by rw [HN.out]; omega
    have HF0 := Lib.hid hf
    clear hf hpf hpq hiq
    cases dt with
    | false =>
     have hfd : True := trivial
     have HPR : Hid (prd P false k = true) := Lib.hid (by unfold prd; rw [HF0.out]; simp only [Option.isSome_some, Bool.true_and, Option.getD_some]; simp)
     have HOW : Hid ((w2.alloc (.cells #[.int .i64 (k : Int)] 3)).ownsRow w1.heap.size 3 1 (.slice Ao mo co) mo ((intsL ((List.range k).filter (prd P false))).map (Value.int .i64))) := Lib.hid (ownsRow_off HOI2.out (Off.of_below (S := fun _ => False) (gr_alloc (gr_refl w2) _)) (fun _ _ h => h))
     have HRN : Hid (Rd (w2.alloc (.cells #[.int .i64 (k : Int)] 3)) 1 (some ⟨w2.heap.size, 0, none⟩) 1 [.int .i64 (k : Int)]) := Lib.hid (Rd.new w2 _ #[.int .i64 (k : Int)] 1 1 rfl)
     have hbs : w1.heap.size ≤ (w2.alloc (.cells #[.int .i64 (k : Int)] 3)).heap.size := Nat.le_trans HB2.out.size (gr_alloc (gr_refl w2) (.cells #[.int .i64 (k : Int)] 3)).size
     clear hfd HF0 f3
     go_wp2_with (at_builtin; refine wpList_append_Rd _ rfl (.tmp 31) (.tmp 33) _ rfl w1.heap.size 3 i0 _ 1 8 Tryz.underlying54 hi0 hz0 hz1 hz2 rfl (.slice Ao mo co) mo _ rfl HOW.out (some ⟨w2.heap.size, 0, none⟩) 1 1 [.int .i64 (k : Int)] rfl HRN.out (by simp [Value.oneCell']) hbt hmx hbs ?_; intro v4 w4 hown4 hg4 _ hbl4; obtain ⟨A4, c4, rfl, _, _⟩ := own_form hown4)
     have HBX : Hid (Below w1.heap.size w1 w4) := Lib.hid ((HB2.out.trans ((gr_alloc (gr_refl w2) _).mono HB2.out.size)).trans ((Off.of_grown (S := fun k => (Value.slice Ao mo co).ownBlock = some k) hg4 (fun k e => e)).below (fun k e => (HOW.out.lt k e).1) hbs))
     have HON : Hid (w4.ownsRow w1.heap.size 3 1 (.slice A4 (mo + 1) c4) (mo + 1) ((intsL ((List.range (k + 1)).filter (prd P false))).map (Value.int .i64))) := Lib.hid (by
      have e1 : (List.range (k + 1)).filter (prd P false) = (List.range k).filter (prd P false) ++ [k] := by rw [List.range_succ, List.filter_append, List.filter_cons, if_pos HPR.out]; rfl
      rw [e1]
      have e2 : (intsL ((List.range k).filter (prd P false) ++ [k])).map (Value.int .i64) = (intsL ((List.range k).filter (prd P false))).map (Value.int .i64) ++ [.int .i64 (k : Int)] := by unfold intsL; rw [List.map_append, List.map_append]; rfl
      rw [e2]
      exact hown4)
     clear hown4 hg4 hbl4 HOW HRN hbs HPR
     go_wp2_with fail
     go_roundw
     case rel => exact ⟨k + 1, mo + 1, A4, c4, by omega, by have := HMK.out; omega, by go_num, rfl, HON, HBX⟩
     case measure => simp [RowKit.intOf]; omega
    | true =>
     cases hfd : pf.dirty with
     | false =>
      rw [hfd] at f3
      have HON : Hid (w2.ownsRow w1.heap.size 3 1 (.slice Ao mo co) mo ((intsL ((List.range (k + 1)).filter (prd P true))).map (Value.int .i64))) := Lib.hid (by
       have hpr : prd P true k = false := by unfold prd; rw [HF0.out]; simp only [Option.getD_some]; rw [HPF.out, hfd]; rfl
       have e1 : (List.range (k + 1)).filter (prd P true) = (List.range k).filter (prd P true) := by rw [List.range_succ, List.filter_append, List.filter_cons, hpr]; simp
       rw [e1]
       exact HOI2.out)
      clear hfd HF0
      go_wp2_with fail
      go_roundw
      case rel => exact ⟨k + 1, mo, Ao, co, by omega, by have := HMK.out; omega, by go_num, rfl, HON, HB2⟩
      case measure => simp [RowKit.intOf]; omega
     | true =>
      rw [hfd] at f3
      have HPR : Hid (prd P true k = true) := Lib.hid (by unfold prd; rw [HF0.out]; simp only [Option.isSome_some, Bool.true_and, Option.getD_some]; rw [HPF.out, hfd]; rfl)
      have HOW : Hid ((w2.alloc (.cells #[.int .i64 (k : Int)] 3)).ownsRow w1.heap.size 3 1 (.slice Ao mo co) mo ((intsL ((List.range k).filter (prd P true))).map (Value.int .i64))) := Lib.hid (ownsRow_off HOI2.out (Off.of_below (S := fun _ => False) (gr_alloc (gr_refl w2) _)) (fun _ _ h => h))
      have HRN : Hid (Rd (w2.alloc (.cells #[.int .i64 (k : Int)] 3)) 1 (some ⟨w2.heap.size, 0, none⟩) 1 [.int .i64 (k : Int)]) := Lib.hid (Rd.new w2 _ #[.int .i64 (k : Int)] 1 1 rfl)
      have hbs : w1.heap.size ≤ (w2.alloc (.cells #[.int .i64 (k : Int)] 3)).heap.size := Nat.le_trans HB2.out.size (gr_alloc (gr_refl w2) (.cells #[.int .i64 (k : Int)] 3)).size
      clear hfd HF0
      go_wp2_with (at_builtin; refine wpList_append_Rd _ rfl (.tmp 31) (.tmp 33) _ rfl w1.heap.size 3 i0 _ 1 8 Tryz.underlying54 hi0 hz0 hz1 hz2 rfl (.slice Ao mo co) mo _ rfl HOW.out (some ⟨w2.heap.size, 0, none⟩) 1 1 [.int .i64 (k : Int)] rfl HRN.out (by simp [Value.oneCell']) hbt hmx hbs ?_; intro v4 w4 hown4 hg4 _ hbl4; obtain ⟨A4, c4, rfl, _, _⟩ := own_form hown4)
      have HBX : Hid (Below w1.heap.size w1 w4) := Lib.hid ((HB2.out.trans ((gr_alloc (gr_refl w2) _).mono HB2.out.size)).trans ((Off.of_grown (S := fun k => (Value.slice Ao mo co).ownBlock = some k) hg4 (fun k e => e)).below (fun k e => (HOW.out.lt k e).1) hbs))
      have HON : Hid (w4.ownsRow w1.heap.size 3 1 (.slice A4 (mo + 1) c4) (mo + 1) ((intsL ((List.range (k + 1)).filter (prd P true))).map (Value.int .i64))) := Lib.hid (by
       have e1 : (List.range (k + 1)).filter (prd P true) = (List.range k).filter (prd P true) ++ [k] := by rw [List.range_succ, List.filter_append, List.filter_cons, if_pos HPR.out]; rfl
       rw [e1]
       have e2 : (intsL ((List.range k).filter (prd P true) ++ [k])).map (Value.int .i64) = (intsL ((List.range k).filter (prd P true))).map (Value.int .i64) ++ [.int .i64 (k : Int)] := by unfold intsL; rw [List.map_append, List.map_append]; rfl
       rw [e2]
       exact hown4)
      clear hown4 hg4 hbl4 HOW HRN hbs HPR
      go_wp2_with fail
      go_roundw
      case rel => exact ⟨k + 1, mo + 1, A4, c4, by omega, by have := HMK.out; omega, by go_num, rfl, HON, HBX⟩
      case measure => simp [RowKit.intOf]; omega
  ·have hke : k = P.pages := by omega
   have t1 : decide ((k : Int) < (P.pages : Int)) = false := decide_eq_false (by omega)
   have t1' : decide (k < P.pages) = false := decide_eq_false hlt
   have y7 := X1.out.c7
   have HKE := Lib.hid hke
   clear hke
   go_wp2_with fail
   go_ret
   refine ⟨_, rfl, ?_, HB0.out.trans (HBr.out.mono HB0.out.size)⟩
   unfold heldD
   rw [← HKE.out]
   exact (OJ.of_own HOI2.out rfl).lower HB0.out.size
end Go.Proofs.YtmdgnjmhbjdlmaaGreat

/-! Rge -/
namespace Go.Proofs.YtmdgnjmhbjdlmaaGreat
open Go Go.RowKit
section
variable {P : Program} {ops : Array Oper} {Q : Exit → Act → World → Prop} {Rs : List MP} {w0 : World} {AA : (Nat → Value) → Act}
theorem wpAny_tailE (hb : edgesBack .any ops = true) {a : Act} (hAA : ∀ f, putA ops f a ops.size = AA f) (hd : dstsApart ops = true) (hk : looksBack .any ops = true) (hsel : Region.noSelect ops = true)
  (T E : Nat → Bool)
  (hTn : ∀ i, i < ops.size → T i = true → ∀ j, j < ops.size → T j = false → E j = false → (needsOf .any ops i).contains j = true)
  (hst : ∀ i, i < ops.size → T i = false → ∀ o, ops[i]? = some o → StepOK P ops Rs w0 AA i o)
  (hnlt : ∀ i j, i < ops.size → (needsOf .any ops i).contains j = true → j < ops.size)
  (hend : ∀ (listed : Array Bool) f w, listed.size = ops.size → (∀ k, k < ops.size → T k = true → listed.getD k false = false) → (∀ k, k < ops.size → T k = false → E k = false → listed.getD k false = true) → Below w0.heap.size w0 w → (∀ j, j < ops.size → listed.getD j false = true → (Rs.getD j MP.any).p (f j) w) → wpAny P .any ops Q (unl ops listed) listed (putL ops listed f a ops.size) w) :
  ∀ (u : Nat) (listed : Array Bool) (f : Nat → Value) (w : World), listed.size = ops.size → closedL .any ops listed → (∀ j, j < ops.size → T j = true → listed.getD j false = false) → Below w0.heap.size w0 w → (∀ j, j < ops.size → listed.getD j false = true → (Rs.getD j MP.any).p (f j) w) → unl ops listed = u →
   wpAny P .any ops Q (unl ops listed) listed (putL ops listed f a ops.size) w := by
 intro u
 induction u with
 | zero =>
  intro listed f w hs hc hT hB hR hm
  refine hend listed f w hs hT (fun k hk _ _ => ?_) hB hR
  cases hl : listed.getD k false with
  | true => rfl
  | false =>
   exfalso
   have hx : k ∈ (List.range ops.size).filter (fun j => !listed.getD j false) := List.mem_filter.2 ⟨List.mem_range.2 hk, by rw [hl]; rfl⟩
   have : 0 < unl ops listed := List.length_pos_of_mem hx
   omega
 | succ u ih =>
  intro listed f w hs hc hT hB hR hm
  by_cases hex : ∃ k, k < ops.size ∧ T k = false ∧ E k = false ∧ listed.getD k false = false
  ·obtain ⟨k, hkl, hTk, hEk, hlk⟩ := hex
   rw [hm]
   refine ⟨fun hr => ?_, fun i hi => ?_⟩
   ·have := all_listed hb hs hr ops.size (Nat.le_refl _) k hkl
    rw [hlk] at this
    cases this
   ·obtain ⟨h1, o, ho, hall⟩ := mem_ready.1 hi
    have hil : i < ops.size := (Array.getElem?_eq_some_iff.1 ho).1
    have hneed : ∀ j, (needsOf .any ops i).contains j = true → listed.getD j false = true := by
     intro j hj
     refine needs_listed hc hs ops.size (depsOf .any ops i) (fun k hk2 => ?_) j (by simpa [needsOf] using hj)
     unfold depsOf at hk2
     rw [ho] at hk2
     simp only [List.mem_map, List.mem_filter, Array.mem_toList_iff] at hk2
     obtain ⟨e, ⟨he, hbd⟩, rfl⟩ := hk2
     exact hall e he hbd
    have hTi : T i = false := by
     cases hTi : T i with
     | false => rfl
     | true =>
      have h := hneed k (hTn i hil hTi k hkl hTk hEk)
      rw [hlk] at h
      cases h
    refine wpOp_mono (fun a' w' => ?_) (mono_step ho hAA hd hk hsel hs h1 hneed hB hR (hst i hil hTi o ho) (fun j => hnlt i j hil))
    rintro ⟨f', rfl, hB', hR'⟩
    have hu := unl_step (ops := ops) hs hil h1
    have hu2 : unl ops (listed.setIfInBounds i true) = u := by omega
    have hgo := ih (listed.setIfInBounds i true) f' w' (by simp [hs]) (fun j x hx hj e he hbd => by
     by_cases e0 : i = j
     ·subst e0
      rw [ho] at hx
      cases hx
      exact getD_set_true (hall e he hbd)
     ·rw [getD_set_ne true e0] at hj
      exact getD_set_true (hc j x hx hj e he hbd)) (fun j hj hTj => by
     by_cases e0 : i = j
     ·subst e0
      rw [hTi] at hTj
      cases hTj
     ·rw [getD_set_ne false e0]
      exact hT j hj hTj) hB' hR' hu2
    rw [hu2] at hgo
    exact hgo
  ·refine hend listed f w hs hT (fun k hk h1 h2 => ?_) hB hR
   cases hl : listed.getD k false with
   | true => rfl
   | false => exact absurd ⟨k, hk, h1, h2, hl⟩ hex
def tailE (ops : Array Oper) (T : Nat → Bool) (e : Nat) : Bool := (List.range ops.size).all fun i => !T i || (List.range ops.size).all fun j => T j || j == e || (needsOf .any ops i).contains j
def boardE (ops : Array Oper) (T : Nat → Bool) (e : Nat) (b : Bool) (lm : Array Bool) : Bool := lm.size == ops.size && (List.range ops.size).all fun k => lm.getD k false == (!T k && (k != e || b))
theorem boardE_spec {T : Nat → Bool} {e : Nat} {b : Bool} {lm listed : Array Bool} (h : boardE ops T e b lm = true) (he : T e = false) (hs : listed.size = ops.size) (h1 : ∀ k, k < ops.size → T k = true → listed.getD k false = false) (h2 : ∀ k, k < ops.size → T k = false → (k == e) = false → listed.getD k false = true) (hb : listed.getD e false = b) : listed = lm := by
 unfold boardE at h
 rw [Bool.and_eq_true, List.all_eq_true] at h
 obtain ⟨h3, h4⟩ := h
 refine board_ext (hs.trans (beq_iff_eq.1 h3).symm) (fun k hk => ?_)
 have h5 := h4 k (List.mem_range.2 (by omega))
 rw [beq_iff_eq] at h5
 rw [h5]
 cases hT : T k with
 | true => rw [h1 k (by omega) hT]; rfl
 | false =>
  by_cases e0 : k = e
  ·subst e0; rw [hb]; simp
  ·rw [h2 k (by omega) hT (by simpa using e0)]
   simp [e0]
theorem wp_region_tailE {id : Nat} {a : Act} {w : World} (hm : P.follows .mixedOrders = true) (hb : edgesBack .any ops = true) (hd : dstsApart ops = true) (hk : looksBack .any ops = true) (hsel : Region.noSelect ops = true)
  (hnl : ((List.range ops.size).all fun i => (needsOf .any ops i).all fun j => decide (j < ops.size)) = true) (Rs : List MP) (T : Nat → Bool) (e : Nat) (lm1 lm0 : Array Bool) (hTe : T e = false)
  (hTn : tailE ops T e = true) (hl1 : boardE ops T e true lm1 = true) (hl0 : boardE ops T e false lm0 = true) (hAA : ∀ f, putA ops f a ops.size = AA f)
  (hst : Steps P ops Rs w.drew AA ((List.range ops.size).filter fun j => !T j))
  (hend1 : ∀ f w', Below w.drew.heap.size w.drew w' → (∀ j, j < ops.size → lm1.getD j false = true → (Rs.getD j MP.any).p (f j) w') → wpAny P .any ops Q (unl ops lm1) lm1 (putL ops lm1 f a ops.size) w')
  (hend0 : ∀ f w', Below w.drew.heap.size w.drew w' → (∀ j, j < ops.size → lm0.getD j false = true → (Rs.getD j MP.any).p (f j) w') → wpAny P .any ops Q (unl ops lm0) lm0 (putL ops lm0 f a ops.size) w') : (Code.region id ops true).wp P Q a w := by
 refine wp_region_any hm ?_
 have hl00 : ∀ k, k < ops.size → (Array.replicate ops.size false).getD k false = false := fun k hk => by
  rw [Array.getD_eq_getD_getElem?, Array.getElem?_eq_getElem (by simpa using hk)]
  simp
 have hu0 : unl ops (Array.replicate ops.size false) = ops.size := by
  unfold unl
  rw [List.filter_eq_self.2 (fun j hj => by rw [hl00 j (List.mem_range.1 hj)]; rfl), List.length_range]
 have h := wpAny_tailE (Q := Q) (w0 := w.drew) hb hAA hd hk hsel T (fun k => k == e)
  (fun i hi hTi j hj hTj hej => by
   unfold tailE at hTn
   rw [List.all_eq_true] at hTn
   have h1 := hTn i (List.mem_range.2 hi)
   rw [hTi] at h1
   simp only [Bool.not_true, Bool.false_or, List.all_eq_true] at h1
   have h2 := h1 j (List.mem_range.2 hj)
   rw [hTj, hej] at h2
   simpa using h2)
  (fun i hi hTi o ho => hst i (List.mem_filter.2 ⟨List.mem_range.2 hi, by rw [hTi]; rfl⟩) o ho)
  (fun i j hi hj => by
   rw [List.all_eq_true] at hnl
   have h1 := hnl i (List.mem_range.2 hi)
   rw [List.all_eq_true] at h1
   simpa using h1 j (by simpa using hj))
  (fun listed f w' hs h1 h2 hB hR => by
   cases hb : listed.getD e false with
   | true =>
    have := boardE_spec hl1 hTe hs h1 h2 hb
    subst this
    exact hend1 f w' hB hR
   | false =>
    have := boardE_spec hl0 hTe hs h1 h2 hb
    subst this
    exact hend0 f w' hB hR)
  ops.size (Array.replicate ops.size false) (fun _ => undef) w.drew (by simp) (fun j x hx hj => by
   have hlt := (Array.getElem?_eq_some_iff.1 hx).1
   rw [Array.getD_eq_getD_getElem?, Array.getElem?_eq_getElem (by simpa using hlt)] at hj
   simp at hj) (fun j hj _ => hl00 j hj) ⟨rfl, rfl, rfl, Nat.le_refl _, fun _ _ => rfl⟩ (fun j hj h => by rw [hl00 j hj] at h; cases h) hu0
 rw [hu0, putL_none hl00 ops.size (Nat.le_refl _)] at h
 exact h
end
end Go.Proofs.YtmdgnjmhbjdlmaaGreat

/-! PrJ -/
namespace Go.Proofs.YtmdgnjmhbjdlmaaGreat
open Go Go.RowKit
def RBX (G : Nat → Prop) (w : World) (b : Nat) (D : DiskS) (P : PoS) (L : Int) : Prop :=
 ∃ bA1 bn1 bc1 wA1 wn1 wc1 dn1 po1 fa1 wi1 A1 n1 c1 q1, B14 w b (.slice bA1 bn1 bc1) (.slice wA1 wn1 wc1) (.bool dn1) (.int .i64 po1) (.int .i64 fa1) (.int .i64 wi1) (.int .i64 (P.base : Int)) (.int .i64 (P.pages : Int)) (.int .i64 (P.most : Int)) (.int .i64 (P.epoch : Int)) (.int .i64 (P.count : Int)) (.int .i64 L) (.slice A1 n1 c1) (.int .i64 (P.hand : Int)) ∧ RK G w (.agg #[.slice bA1 bn1 bc1, .slice wA1 wn1 wc1, .bool dn1, .int .i64 po1, .int .i64 fa1, .int .i64 wi1]) D ∧ FG G w (.slice A1 n1 c1) q1 ∧ q1.map Prod.fst = P.fr
theorem flushF_cons (L : Option Int) (p : Nat) (ps : List Nat) (D : DiskS) (P : PoS) : flushF L (p :: ps) D P = if (writeR L D P ((findP P p).getD 0)).2.2 ≠ 0 then writeR L D P ((findP P p).getD 0) else flushF L ps (writeR L D P ((findP P p).getD 0)).1 (writeR L D P ((findP P p).getD 0)).2.1 := rfl
def ZBx (w : World) (k : Nat) : Prop := B14 w k (.slice none 0 0) (.slice none 0 0) (.bool false) (.int .i64 0) (.int .i64 0) (.int .i64 0) (.int .i64 0) (.int .i64 0) (.int .i64 0) (.int .i64 0) (.int .i64 0) (.int .i64 0) (.slice none 0 0) (.int .i64 0)
theorem zbx_cell {w : World} {k o : Nat} {u : Value} (h : ZBx w k) (hc : w.cell? ⟨k, o, none⟩ = some u) : u = .slice none 0 0 ∨ u = .bool false ∨ u = .int .i64 0 := by
 rw [cell_of_row w k o _ _ _ h] at hc
 have ho : o < 14 := by
  have := (Array.getElem?_eq_some_iff.1 hc).1
  simpa using this
 have : ∀ o : Fin 14, ∀ u, (#[.slice none 0 0, .slice none 0 0, .bool false, .int .i64 0, .int .i64 0, .int .i64 0, .int .i64 0, .int .i64 0, .int .i64 0, .int .i64 0, .int .i64 0, .int .i64 0, .slice none 0 0, .int .i64 0] : Array Value)[o.val]? = some u → u = .slice none 0 0 ∨ u = .bool false ∨ u = .int .i64 0 := by
  intro o u h
  match o with
  | 0 => exact .inl (Option.some.inj h).symm
  | 1 => exact .inl (Option.some.inj h).symm
  | 2 => exact .inr (.inl (Option.some.inj h).symm)
  | 3 | 4 | 5 | 6 | 7 | 8 | 9 | 10 | 11 | 13 => exact .inr (.inr (Option.some.inj h).symm)
  | 12 => exact .inl (Option.some.inj h).symm
 exact this ⟨o, ho⟩ u hc
section
variable {G : Nat → Prop} {w w' : World} {v fv : Value} {D : DiskS} {q : List FV}
theorem RdG.nz {size n : Nat} {A : Option Addr} {xs : List Value} (h : RdG G w size A n xs) (hG : ∀ k, G k → k < w.heap.size) (hs : 0 < size) (hx : 0 < n → ∃ (j : Nat) (u : Value), xs[j]? = some u ∧ u ≠ Value.slice none 0 0 ∧ u ≠ Value.bool false ∧ u ≠ Value.int .i64 0) : RdG (fun k => G k ∧ k < w.heap.size ∧ ¬ ZBx w k) w size A n xs := by
 refine ⟨h.1, fun ad e h0 => ⟨h.2 ad e h0, hG _ (h.2 ad e h0), fun hz => ?_⟩⟩
 obtain ⟨g, o, e2, hc⟩ := h.1.plain h0 hs
 obtain ⟨j, u, hj, h1, h2, h3⟩ := hx h0
 rw [e2] at e
 injection e with e
 subst e
 rcases zbx_cell hz (hc j u hj) with e | e | e
 ·exact h1 e
 ·exact h2 e
 ·exact h3 e
theorem VG.nz {u : Value} {l : List UInt8} (h : VG G w u l) (hG : ∀ k, G k → k < w.heap.size) : VG (fun k => G k ∧ k < w.heap.size ∧ ¬ ZBx w k) w u l := by
 obtain ⟨hl, A, c, e, h1, h2, h3⟩ := h
 refine ⟨hl, A, c, e, h1, fun ad ea => ⟨h2 ad ea, hG _ (h2 ad ea), fun hz => ?_⟩, h3⟩
 obtain ⟨g, o, e2, hc⟩ := Rd.plain h1 (by omega) (by omega)
 rw [e2] at ea
 injection ea with ea
 subst ea
 have := hc 0 (bv (l.getD 0 0)) (by rw [List.getElem?_map, List.getElem?_eq_getElem (by omega), List.getD_eq_getElem?_getD, List.getElem?_eq_getElem (by omega)]; rfl)
 rcases zbx_cell hz this with e | e | e <;> cases e
theorem slice_ne {A : Option Addr} {c : Nat} : Value.slice A 4096 c ≠ Value.slice none 0 0 ∧ Value.slice A 4096 c ≠ Value.bool false ∧ Value.slice A 4096 c ≠ Value.int .i64 0 := ⟨fun e => by injection e with _ e _; omega, fun e => (by cases e), fun e => (by cases e)⟩
theorem RK.nz (h : RK G w v D) (hG : ∀ k, G k → k < w.heap.size) : RK (fun k => G k ∧ k < w.heap.size ∧ ¬ ZBx w k) w v D := by
 obtain ⟨bA, bc, wA, wc, bus, wus, e, k1, k2, k3, k4, hd⟩ := h
 refine ⟨bA, bc, wA, wc, bus, wus, e, k1, k2, k3, k4, hd.br.nz hG (by omega) (fun h0 => ?_), fun i u l hu hl => (hd.bv i u l hu hl).nz hG, hd.wr.nz hG (by omega) (fun h0 => ?_), fun i q p hq hp => ⟨(hd.wv i q p hq hp).1, (hd.wv i q p hq hp).2.1, (hd.wv i q p hq hp).2.2.nz hG⟩, hd.wl⟩
 ·have hb : 0 < bus.length := by have := hd.br.1.1; omega
  obtain ⟨_, A, c, e, _⟩ := hd.bv 0 _ _ (List.getElem?_eq_getElem hb) (List.getElem?_eq_getElem h0)
  exact ⟨0, _, List.getElem?_eq_getElem hb, by rw [e]; exact slice_ne⟩
 ·have hb : 0 < wus.length := by have := hd.wl; omega
  obtain ⟨_, _, _, A, c, e, _⟩ := hd.wv 0 _ _ (List.getElem?_eq_getElem hb) (List.getElem?_eq_getElem h0)
  refine ⟨1, wus[0].2, ?_, by rw [e]; exact slice_ne⟩
  cases wus with
  | nil => cases hb
  | cons q qs => rfl
theorem FG.nz (h : FG G w fv q) (hG : ∀ k, G k → k < w.heap.size) : FG (fun k => G k ∧ k < w.heap.size ∧ ¬ ZBx w k) w fv q := by
 refine ⟨h.tk, fun k e => ⟨h.tg k e, hG k (h.tg k e), fun hz => ?_⟩, h.pv, fun x hx k e => ⟨h.pg x hx k e, hG k (h.pg x hx k e), fun hz => ?_⟩⟩
 ·obtain ⟨cur, hc⟩ := own_blk h.tk e
  exact cells_ne hz hc (by decide)
 ·obtain ⟨cur, hc⟩ := own_blk (h.pv x hx) e
  exact cells_ne hz hc (by decide)
end
def PZ (G : Nat → Prop) (w0 w : World) (v : Value) (D : DiskS) (P : PoS) (L : Int) : Prop :=
 ∃ bA2 bn2 bc2 wA2 wn2 wc2 dn2 po2 fa2 wi2 A2 n2 c2 q2, v = .agg #[.slice bA2 bn2 bc2, .slice wA2 wn2 wc2, .bool dn2, .int .i64 po2, .int .i64 fa2, .int .i64 wi2, .int .i64 (P.base : Int), .int .i64 (P.pages : Int), .int .i64 (P.most : Int), .int .i64 (P.epoch : Int), .int .i64 (P.count : Int), .int .i64 L, .slice A2 n2 c2, .int .i64 (P.hand : Int)] ∧ RK (fun k => plusG G w0 w k ∧ k < w.heap.size ∧ ¬ ZBx w k) w (.agg #[.slice bA2 bn2 bc2, .slice wA2 wn2 wc2, .bool dn2, .int .i64 po2, .int .i64 fa2, .int .i64 wi2]) D ∧ FG (fun k => plusG G w0 w k ∧ k < w.heap.size ∧ ¬ ZBx w k) w (.slice A2 n2 c2) q2 ∧ q2.map Prod.fst = P.fr
theorem nz_up {G : Nat → Prop} {w0 w w' : World} (hb : Below w.heap.size w w') : ∀ k, (plusG G w0 w k ∧ k < w.heap.size ∧ ¬ ZBx w k) → (plusG G w0 w' k ∧ k < w'.heap.size ∧ ¬ ZBx w' k) := fun k h =>
 ⟨plusG.up hb.size k h.1, Nat.lt_of_lt_of_le h.2.1 hb.size, fun hz => h.2.2 (by unfold ZBx B14 at hz ⊢; rw [← hb.block k h.2.1]; exact hz)⟩
theorem PZ.below {G : Nat → Prop} {w0 w w' : World} {v : Value} {D : DiskS} {P : PoS} {L : Int} (h : PZ G w0 w v D P L) (hb : Below w.heap.size w w') : PZ G w0 w' v D P L := by
 obtain ⟨bA, bn, bc, wA, wn, wc, dn, po, fa, wi, A, n, c, q, e, h1, h2, h3⟩ := h
 exact ⟨bA, bn, bc, wA, wn, wc, dn, po, fa, wi, A, n, c, q, e, (h1.below hb).mono (nz_up hb), (h2.below hb).mono (nz_up hb), h3⟩
theorem PVal.pz {G : Nat → Prop} {w0 w : World} {v : Value} {D : DiskS} {P : PoS} {L : Int} (h : PVal G w0 w v D P L) (hG : ∀ k, plusG G w0 w k → k < w.heap.size) : PZ G w0 w v D P L := by
 obtain ⟨bA, bn, bc, wA, wn, wc, dn, po, fa, wi, A, n, c, q, e, h1, h2, h3⟩ := h
 exact ⟨bA, bn, bc, wA, wn, wc, dn, po, fa, wi, A, n, c, q, e, h1.nz hG, h2.nz hG, h3⟩
def MP.pz (G : Nat → Prop) (w0 : World) (D : DiskS) (P : PoS) (L : Int) : MP := ⟨fun v w => ∃ v', v = v' ∧ PZ G w0 w v' D P L, fun _ _ _ hb ⟨v', e, h⟩ => ⟨v', e, h.below hb⟩⟩
def MP.pt (G : Nat → Prop) (w0 : World) (D : DiskS) (P : PoS) (L e : Int) : MP := ⟨fun v w => ∃ v', v = .tuple #[v', .int .i64 e] ∧ PZ G w0 w v' D P L, fun _ _ _ hb ⟨v', e, h⟩ => ⟨v', e, h.below hb⟩⟩
def MP.bx (w0 : World) : MP := ⟨fun v w => ∃ g, v = .pointer (some ⟨g, 0, none⟩) ∧ w0.heap.size ≤ g ∧ ZBx w g, fun _ _ _ hb ⟨g, e, h1, h2⟩ => ⟨g, e, h1, B14.below h2 hb⟩⟩
theorem PZ.fill {G : Nat → Prop} {w0 w : World} {v : Value} {D : DiskS} {P : PoS} {L : Int} {g : Nat} (h : PZ G w0 w v D P L) (hz : ZBx w g) : ∃ bA2 bn2 bc2 wA2 wn2 wc2 dn2 po2 fa2 wi2 A2 n2 c2, v = .agg #[.slice bA2 bn2 bc2, .slice wA2 wn2 wc2, .bool dn2, .int .i64 po2, .int .i64 fa2, .int .i64 wi2, .int .i64 (P.base : Int), .int .i64 (P.pages : Int), .int .i64 (P.most : Int), .int .i64 (P.epoch : Int), .int .i64 (P.count : Int), .int .i64 L, .slice A2 n2 c2, .int .i64 (P.hand : Int)] ∧ ∀ W', W' = ((((((((((((((w.setCell ⟨g, 0, none⟩ (.slice bA2 bn2 bc2)).setCell ⟨g, 1, none⟩ (.slice wA2 wn2 wc2)).setCell ⟨g, 2, none⟩ (.bool dn2)).setCell ⟨g, 3, none⟩ (.int .i64 po2)).setCell ⟨g, 4, none⟩ (.int .i64 fa2)).setCell ⟨g, 5, none⟩ (.int .i64 wi2)).setCell ⟨g, 6, none⟩ (.int .i64 (P.base : Int))).setCell ⟨g, 7, none⟩ (.int .i64 (P.pages : Int))).setCell ⟨g, 8, none⟩ (.int .i64 (P.most : Int))).setCell ⟨g, 9, none⟩ (.int .i64 (P.epoch : Int))).setCell ⟨g, 10, none⟩ (.int .i64 (P.count : Int))).setCell ⟨g, 11, none⟩ (.int .i64 L)).setCell ⟨g, 12, none⟩ (.slice A2 n2 c2)).setCell ⟨g, 13, none⟩ (.int .i64 (P.hand : Int))) → ZB G w0 g D P L W' ∧ Off (fun k => k = g) w W' := by
 obtain ⟨bA2, bn2, bc2, wA2, wn2, wc2, dn2, po2, fa2, wi2, A2, n2, c2, q2, e, h1, h2, h3⟩ := h
 refine ⟨bA2, bn2, bc2, wA2, wn2, wc2, dn2, po2, fa2, wi2, A2, n2, c2, e, fun W' eW => ?_⟩
 obtain ⟨e1, e2⟩ := (show B14 w g (.slice none 0 0) (.slice none 0 0) (.bool false) (.int .i64 0) (.int .i64 0) (.int .i64 0) (.int .i64 0) (.int .i64 0) (.int .i64 0) (.int .i64 0) (.int .i64 0) (.int .i64 0) (.slice none 0 0) (.int .i64 0) from hz).all (.slice bA2 bn2 bc2) (.slice wA2 wn2 wc2) (.bool dn2) (.int .i64 po2) (.int .i64 fa2) (.int .i64 wi2) (.int .i64 (P.base : Int)) (.int .i64 (P.pages : Int)) (.int .i64 (P.most : Int)) (.int .i64 (P.epoch : Int)) (.int .i64 (P.count : Int)) (.int .i64 L) (.slice A2 n2 c2) (.int .i64 (P.hand : Int)) W' eW
 have hS : ∀ k, k = g → ¬ (plusG G w0 w k ∧ k < w.heap.size ∧ ¬ ZBx w k) := fun k e hk => hk.2.2 (e ▸ hz)
 have hm : ∀ k, (plusG G w0 w k ∧ k < w.heap.size ∧ ¬ ZBx w k) → plusG G w0 W' k := fun k hk => plusG.up e2.size k hk.1
 exact ⟨⟨bA2, bn2, bc2, wA2, wn2, wc2, dn2, po2, fa2, wi2, A2, n2, c2, q2, e1, (h1.off e2 hS).mono hm, (h2.off e2 hS).mono hm, h3⟩, e2⟩
theorem OJ.lt_ {w : World} {base : Nat} {v : Value} {l : List Int} (h : OJ w base v l) (k : Nat) (e : v.ownBlock = some k) : base ≤ k := (World.ownsRow.lt h k e).1
section
variable {D : DiskS} {P : PoS}
structure FlA (D : DiskS) (P : PoS) (k : Nat) (D1 : DiskS) (P1 : PoS) : Prop where
 pi : PI D1 P1
 dn : DN D1
 pd : D1.pending.length ≤ D.pending.length + k
 ct : P1.count ≤ P.count + k
 pg : P1.fr.map FrS.page = P.fr.map FrS.page
theorem DN.op (h : DN D) : DN (opS D) := ⟨opL_ge h.p1, opL_le h.p2, opL_ge h.f1, opL_le h.f2, h.bl⟩
theorem DN.write (h : DN D) (b : Int) (m : List UInt8) : DN (writeD D b m) := by
 unfold writeD
 split
 ·exact h
 ·split
  ·exact h.op
  ·exact ⟨h.op.p1, h.op.p2, h.op.f1, h.op.f2, h.op.bl⟩
theorem DN.writeR (h : DN D) (L : Option Int) (P : PoS) (n : Nat) : DN (writeR L D P n).1 := by
 unfold Go.Proofs.YtmdgnjmhbjdlmaaGreat.writeR
 dsimp only
 split
 ·exact h
 ·split
  ·exact h.write _ _
  ·exact h.write _ _
theorem writeR_more (L : Option Int) (D : DiskS) (P : PoS) (n : Nat) : (writeR L D P n).1.pending.length ≤ D.pending.length + 1 ∧ (writeR L D P n).2.1.count ≤ P.count + 1 := by
 unfold writeR
 dsimp only
 split
 ·exact ⟨Nat.le_succ _, Nat.le_succ _⟩
 ·split
  ·exact ⟨writeD_pend _ _ _, Nat.le_succ _⟩
  ·exact ⟨writeD_pend _ _ _, Nat.le_refl _⟩
theorem FlA.step {k i : Nat} {P1 : PoS} {D1 : DiskS} (h : FlA D P k D1 P1) (L : Option Int) (hi : i < P1.fr.length) : FlA D P (k + 1) (writeR L D1 P1 i).1 (writeR L D1 P1 i).2.1 := by
 have h1 := writeR_more L D1 P1 i
 have h2 := h.pd
 have h3 := h.ct
 exact ⟨h.pi.write L hi, h.dn.writeR L P1 i, by omega, by omega, by rw [writeR_pages]; exact h.pg⟩
end
set_option maxRecDepth 100000 in
set_option maxHeartbeats 16000000 in
theorem rFlush_any {G : Nat → Prop} {w : World} {v : Value} {D : DiskS} {P : PoS} {L : Int} (h : RP G w v D P L) (hG : ∀ k, G k → k < w.heap.size) (hpi : PI D P) (hdn : DN D) (hpd : D.pending.length ≤ 900000) (hct : P.count ≤ 1152921504606840000) :
  Calls Tryz.prog 34 #[v] w (RSet G w (flushR (some L) D P) L) := by
 obtain ⟨RR, hRR⟩ : ∃ r, r = flushR (some L) D P := ⟨_, rfl⟩
 rw [← hRR]
 obtain ⟨ks, hks⟩ : ∃ l, l = dirtyL P := ⟨_, rfl⟩
 have HRR : Hid (RR = if (flushF (some L) ks D P).2.2 ≠ 0 then flushF (some L) ks D P else (syncD (flushF (some L) ks D P).1, (flushF (some L) ks D P).2.1, opC (flushF (some L) ks D P).1)) := Lib.hid (by rw [hRR, hks]; rfl)
 have HKM : Hid (∀ p ∈ ks, p ∈ P.fr.map FrS.page) := Lib.hid (fun p hp => by
  rw [hks] at hp
  unfold dirtyL heldL at hp
  have h1 := (List.mem_filter.1 (List.mem_filter.1 hp).1).2
  by_cases hn : p ∈ P.fr.map FrS.page
  ·exact hn
  ·rw [(findP_none P p).2 hn] at h1; cases h1)
 have HKL : Hid (ks.length ≤ 4096) := Lib.hid (by
  rw [hks]
  unfold dirtyL heldL
  refine Nat.le_trans (List.length_filter_le _ _) (Nat.le_trans (List.length_filter_le _ _) ?_)
  rw [List.length_range]
  have := hpi.fit
  have := hpi.d2
  omega)
 have HHE : Hid (∀ W v', RP G W v' D P L → Calls Tryz.prog 16 #[v', .bool true] W fun e w' => ∃ A n c, e = .returned (.slice A n c) ∧ n = ks.length ∧ IR w' A n (intsL ks) ∧ (0 < n → ∃ g, A = some ⟨g, 0, none⟩ ∧ W.heap.size ≤ g) ∧ Below W.heap.size W w') := Lib.hid (fun W v' h' => (rHeld_any h' hpi true).mono (by
  rintro e w' ⟨u, rfl, h1, h2⟩
  rw [heldD_dirty, ← hks] at h1
  obtain ⟨A, c, rfl, h3, _⟩ := h1.form
  have e1 : (intsL ks).length = ks.length := by unfold intsL; rw [List.length_map]
  rw [e1] at h3 ⊢
  refine ⟨A, _, c, rfl, rfl, h3, fun h0 => ?_, h2⟩
  have h5 := own_plain h1 (by rw [e1]; exact h0)
  obtain ⟨g, c', e2⟩ := h5
  injection e2 with e2 _ _
  exact ⟨g, e2, (OJ.lt_ h1 g (by rw [e2]; rfl))⟩))
 obtain ⟨bA, bn, bc, wA, wn, wc, dn, po, fa, wi, fv, q, rfl, h1, h2, h3⟩ := h
 obtain ⟨A, c, rfl, hc1, hc2, hA⟩ := h2.form
 have HT := Lib.hid (two14 w (.slice bA bn bc) (.slice wA wn wc) (.bool dn) (.int .i64 po) (.int .i64 fa) (.int .i64 wi) (.int .i64 (P.base : Int)) (.int .i64 (P.pages : Int)) (.int .i64 (P.most : Int)) (.int .i64 (P.epoch : Int)) (.int .i64 (P.count : Int)) (.int .i64 L) (.slice A q.length c) (.int .i64 (P.hand : Int)))
 have HK := Lib.hid h1
 have HFG := Lib.hid h2
 have HQF := Lib.hid h3
 have HGl := Lib.hid hG
 have HFL0 : Hid (FlA D P 0 D P) := Lib.hid ⟨hpi, hdn, by omega, by omega, rfl⟩
 have HPC : Hid (D.pending.length ≤ 900000 ∧ P.count ≤ 1152921504606840000) := Lib.hid ⟨hpd, hct⟩
 obtain ⟨n, hn⟩ : ∃ n, n = q.length := ⟨_, rfl⟩
 have HN := Lib.hid hn
 rw [← hn] at HT ⊢
 clear h1 h2 h3 hn hc1 hc2 hA hG hpi hdn hpd hct hRR hks
 go_enter Tryz.func34, Tryz.ntmps34
 go_upto_region 1 with fail
 obtain ⟨x1, x2, hb, hs⟩ := HT.out _ rfl
 clear HT
 generalize (w.alloc (.cells #[.slice bA bn bc, .slice wA wn wc, .bool dn, .int .i64 po, .int .i64 fa, .int .i64 wi, .int .i64 (P.base : Int), .int .i64 (P.pages : Int), .int .i64 (P.most : Int), .int .i64 (P.epoch : Int), .int .i64 (P.count : Int), .int .i64 L, .slice A n c, .int .i64 (P.hand : Int)] 42)).alloc (.cells #[.slice none 0 0, .slice none 0 0, .bool false, .int .i64 0, .int .i64 0, .int .i64 0, .int .i64 0, .int .i64 0, .int .i64 0, .int .i64 0, .int .i64 0, .int .i64 0, .slice none 0 0, .int .i64 0] 42) = w1 at *
 have X1 := Lib.hid x1
 have X2 := Lib.hid x2
 have HB := Lib.hid hb
 have HS1 := Lib.hid hs
 clear x1 x2 hb hs
 have y0 := X1.out.c0
 have y1 := X1.out.c1
 have y2 := X1.out.c2
 have y3 := X1.out.c3
 have y4 := X1.out.c4
 have y5 := X1.out.c5
 have y6 := X1.out.c6
 have y7 := X1.out.c7
 have y8 := X1.out.c8
 have y9 := X1.out.c9
 have y10 := X1.out.c10
 have y11 := X1.out.c11
 have y12 := X1.out.c12
 have y13 := X1.out.c13
 go_upto_region 2 with fail
 refine (HHE.out _ _ ⟨bA, bn, bc, wA, wn, wc, dn, po, fa, wi, _, q, rfl, HK.out.below HB.out, by rw [HN.out]; exact HFG.out.below HB.out, HQF.out⟩).mono ?_
 rintro e w2 ⟨Ak, nk, ck, rfl, hnk, hir, hgk, hb2⟩
 have HGK := Lib.hid hgk
 have HIR := Lib.hid hir
 have HNK := Lib.hid hnk
 have X1 := Lib.hid (X1.out.below hb2)
 have X2 := Lib.hid (X2.out.below hb2)
 have HBW : Hid (Below w.heap.size w w2) := Lib.hid (HB.out.trans (hb2.mono HB.out.size))
 have HS2 : Hid (w.heap.size + 2 ≤ w2.heap.size) := Lib.hid (by have := HS1.out; have := hb2.size; omega)
 have HRB : Hid (RBX (plusG G w2 w2) w2 w.heap.size D P L) := Lib.hid ⟨bA, bn, bc, wA, wn, wc, dn, po, fa, wi, A, n, c, q, X1.out, (HK.out.below HBW.out).mono (fun k e => .inl e), by rw [HN.out]; exact (HFG.out.below HBW.out).mono (fun k e => .inl e), HQF.out⟩
 clear hir hnk hgk hb2 HHE X1 y0 y1 y2 y3 y4 y5 y6 y7 y8 y9 y10 y11 y12 y13
 go_upto_region 3 with fail
 go_loopw [5] (fun x wr => ∃ (k : Nat) (D1 : DiskS) (P1 : PoS), k ≤ nk ∧ x = .int .i64 (k : Int) ∧ Hid (RBX (plusG G w2 wr) wr w.heap.size D1 P1 L) ∧ Hid (flushF (some L) ks D P = flushF (some L) (ks.drop k) D1 P1) ∧ Hid (FlA D P k D1 P1) ∧ Hid (B14 wr (w.heap.size + 1) (.slice none 0 0) (.slice none 0 0) (.bool false) (.int .i64 0) (.int .i64 0) (.int .i64 0) (.int .i64 0) (.int .i64 0) (.int .i64 0) (.int .i64 0) (.int .i64 0) (.int .i64 0) (.slice none 0 0) (.int .i64 0)) ∧ Hid (IR wr Ak nk (intsL ks)) ∧ Hid (Below w.heap.size w wr ∧ w2.heap.size ≤ wr.heap.size)) (fun x _ => nk - (RowKit.intOf x).toNat)
 case atStart => exact ⟨0, D, P, by omega, rfl, HRB, Lib.hid rfl, HFL0, X2, HIR, Lib.hid ⟨HBW.out, Nat.le_refl _⟩⟩
 case round =>
  obtain ⟨k, D1, P1, hk, rfl, HRBr, HFE, HFI, X2, HIRr, HBr⟩ := hrel
  obtain ⟨bA1, bn1, bc1, wA1, wn1, wc1, dn1, po1, fa1, wi1, A1, n1, c1, q1, hx1, hk1, hf1, hq1⟩ := HRBr.out
  have X1 := Lib.hid hx1
  have HK1 := Lib.hid hk1
  have HF1 := Lib.hid hf1
  have HQ1 := Lib.hid hq1
  clear hx1 hk1 hf1 hq1 HRBr
  by_cases hlt : k < nk
  ·have t1 : decide ((k : Int) < (nk : Int)) = true := decide_eq_true (by omega)
   have t1' : decide (k < nk) = true := decide_eq_true hlt
   have i0 : (0 : Int) ≤ (k : Int) := Int.natCast_nonneg _
   have i1 : (k : Int) < (nk : Int) := by omega
   obtain ⟨gk, rfl, hgkw⟩ := HGK.out (by omega)
   have hkl : k < ks.length := by rw [← HNK.out]; exact hlt
   obtain ⟨p, hp⟩ : ∃ p, ks[k]? = some p := ⟨_, List.getElem?_eq_getElem hkl⟩
   have hdr : ks.drop k = p :: ks.drop (k + 1) := by
    rw [List.drop_eq_getElem_cons hkl]
    rw [List.getElem?_eq_getElem hkl] at hp
    injection hp with hp
    rw [hp]
   have hpc : wr.cell? ⟨gk, k, none⟩ = some (.int .i64 (p : Int)) := by
    obtain ⟨g, o, e2, hc⟩ := Rd.plain HIRr.out (by omega) (by omega)
    injection e2 with e2
    cases e2
    have := hc k (.int .i64 (p : Int)) (by unfold intsL; rw [List.getElem?_map, List.getElem?_map, hp]; rfl)
    rw [Nat.zero_add] at this
    exact this
   obtain ⟨i, hi⟩ : ∃ i, findP P1 p = some i := by
    cases hf : findP P1 p with
    | some i => exact ⟨i, rfl⟩
    | none =>
     exfalso
     refine (findP_none P1 p).1 hf ?_
     rw [HFI.out.pg]
     exact HKM.out p (List.mem_of_getElem? hp)
   have hil := (findP_some hi).1
   have HF5 := Lib.hid (HFI.out.step (some L) hil)
   obtain ⟨⟨D4, P4, er4⟩, hr4⟩ : ∃ r, r = writeR (some L) D1 P1 i := ⟨_, rfl⟩
   have HFE5 : Hid (flushF (some L) ks D P = if er4 ≠ 0 then (D4, P4, er4) else flushF (some L) (ks.drop (k + 1)) D4 P4) := Lib.hid (by
    rw [HFE.out, hdr, flushF_cons, hi]
    show (if (writeR (some L) D1 P1 i).2.2 ≠ 0 then _ else _) = _
    rw [show ((some i).getD 0) = i from rfl, ← hr4])
   rw [← hr4] at HF5
   have HPC5 := Lib.hid hpc
   have HGR : Hid (∀ W, Below wr.heap.size wr W → ∀ k, plusG G w2 wr k → k < W.heap.size) := Lib.hid (fun W hW k hk => by
    have h1 := hW.size
    rcases hk with hk | hk
    ·have := HGl.out k hk; have := HBr.out.1.size; omega
    ·omega)
   have HRP : Hid (∀ W, Below wr.heap.size wr W → RP (plusG G w2 wr) W (.agg #[.slice bA1 bn1 bc1, .slice wA1 wn1 wc1, .bool dn1, .int .i64 po1, .int .i64 fa1, .int .i64 wi1, .int .i64 (P1.base : Int), .int .i64 (P1.pages : Int), .int .i64 (P1.most : Int), .int .i64 (P1.epoch : Int), .int .i64 (P1.count : Int), .int .i64 L, .slice A1 n1 c1, .int .i64 (P1.hand : Int)]) D1 P1 L) := Lib.hid (fun W hW => ⟨bA1, bn1, bc1, wA1, wn1, wc1, dn1, po1, fa1, wi1, _, q1, rfl, HK1.out.below hW, HF1.out.below hW, HQ1.out⟩)
   have HGKB : Hid (¬ gk = w.heap.size) := Lib.hid (by have := HS1.out; omega)
   clear hgkw
   have HCF : Hid (∀ W, Below wr.heap.size wr W → Calls Tryz.prog 46 #[.agg #[.slice bA1 bn1 bc1, .slice wA1 wn1 wc1, .bool dn1, .int .i64 po1, .int .i64 fa1, .int .i64 wi1, .int .i64 (P1.base : Int), .int .i64 (P1.pages : Int), .int .i64 (P1.most : Int), .int .i64 (P1.epoch : Int), .int .i64 (P1.count : Int), .int .i64 L, .slice A1 n1 c1, .int .i64 (P1.hand : Int)], .int .i64 (p : Int)] W fun e w' => e = .returned (.int .i64 (i : Int)) ∧ Below W.heap.size W w') := Lib.hid (fun W hW => (rFind_any (HRP.out W hW) HFI.out.pi p).mono (by
    rw [hi]
    rintro e w' ⟨rfl, hb⟩
    exact ⟨rfl, hb⟩))
   have HCW : Hid (∀ W, Below wr.heap.size wr W → Calls Tryz.prog 67 #[.agg #[.slice bA1 bn1 bc1, .slice wA1 wn1 wc1, .bool dn1, .int .i64 po1, .int .i64 fa1, .int .i64 wi1, .int .i64 (P1.base : Int), .int .i64 (P1.pages : Int), .int .i64 (P1.most : Int), .int .i64 (P1.epoch : Int), .int .i64 (P1.count : Int), .int .i64 L, .slice A1 n1 c1, .int .i64 (P1.hand : Int)], .int .i64 (i : Int)] W fun e w' => (∃ v', e = .returned (.tuple #[v', .int .i64 er4]) ∧ PZ (plusG G w2 wr) wr w' v' D4 P4 L) ∧ Below W.heap.size W w') := Lib.hid (fun W hW => by
    have hx := rWrite_any (HRP.out W hW) (HGR.out W hW) HFI.out.pi HFI.out.dn (by have := HFI.out.pd; have := HPC.out.1; have := HKL.out; omega) (by have := HFI.out.ct; have := HPC.out.2; have := HKL.out; omega) i hil
    rw [← hr4] at hx
    refine hx.mono ?_
    rintro e w' ⟨v', rfl, hrp, hb⟩
    have hpv := (PVal.of (G := plusG G w2 wr) hrp).wide hW.size
    exact ⟨⟨v', rfl, hpv.pz (fun k hk => by
     rcases hk with hk | hk
     ·exact Nat.lt_of_lt_of_le (HGR.out W hW k hk) hb.size
     ·exact hk.2)⟩, hb⟩)
   clear hkl hp hdr hpc hi hil hr4 HFE
   go_upto_region 5 with fail
   go_cut [6, 7] from 18 to 28 (fun t6 t7 wx => ∃ g6, t6 = .pointer (some ⟨g6, 0, none⟩) ∧ t7 = .int .i64 er4 ∧ wr.heap.size ≤ g6 ∧ Hid (ZB (plusG G w2 wr) wr g6 D4 P4 L wx) ∧ Hid (Below wr.heap.size wr wx))
   case first =>
    have Y0 := Lib.hid X1.out.c0
    have Y1 := Lib.hid X1.out.c1
    have Y2 := Lib.hid X1.out.c2
    have Y3 := Lib.hid X1.out.c3
    have Y4 := Lib.hid X1.out.c4
    have Y5 := Lib.hid X1.out.c5
    have Y6 := Lib.hid X1.out.c6
    have Y7 := Lib.hid X1.out.c7
    have Y8 := Lib.hid X1.out.c8
    have Y9 := Lib.hid X1.out.c9
    have Y10 := Lib.hid X1.out.c10
    have Y11 := Lib.hid X1.out.c11
    have Y12 := Lib.hid X1.out.c12
    have Y13 := Lib.hid X1.out.c13
    refine' wp_region_tailE (by kernel_rfl) (by kernel_rfl) (by kernel_rfl) (by kernel_rfl) (by kernel_rfl) (by kernel_rfl)
     [MP.is (.agg #[.slice bA1 bn1 bc1, .slice wA1 wn1 wc1, .bool dn1, .int .i64 po1, .int .i64 fa1, .int .i64 wi1, .int .i64 (P1.base : Int), .int .i64 (P1.pages : Int), .int .i64 (P1.most : Int), .int .i64 (P1.epoch : Int), .int .i64 (P1.count : Int), .int .i64 L, .slice A1 n1 c1, .int .i64 (P1.hand : Int)]), MP.is (.agg #[.slice bA1 bn1 bc1, .slice wA1 wn1 wc1, .bool dn1, .int .i64 po1, .int .i64 fa1, .int .i64 wi1, .int .i64 (P1.base : Int), .int .i64 (P1.pages : Int), .int .i64 (P1.most : Int), .int .i64 (P1.epoch : Int), .int .i64 (P1.count : Int), .int .i64 L, .slice A1 n1 c1, .int .i64 (P1.hand : Int)]), MP.is (.slice (some ⟨gk, 0, none⟩) nk ck), MP.is (.int .i64 (k : Int)), MP.is (.pointer (some ⟨gk, k, none⟩)), MP.is (.int .i64 (p : Int)), MP.is (.int .i64 (i : Int)), MP.pt (plusG G w2 wr) wr D4 P4 L er4, MP.pt (plusG G w2 wr) wr D4 P4 L er4, MP.pz (plusG G w2 wr) wr D4 P4 L, MP.is (.int .i64 er4), MP.bx wr, MP.any, MP.any]
     (fun j => j == 12 || j == 13) 10 #[true, true, true, true, true, true, true, true, true, true, true, true, false, false] #[true, true, true, true, true, true, true, true, true, true, false, true, false, false] rfl (by kernel_rfl) (by kernel_rfl) (by kernel_rfl) ?hAA1 ?hst1 ?hend11 ?hend01
    case hAA1 =>
     intro f
     conv => lhs; simp only [putA, dstOf, List.size_toArray, List.length_cons, List.length_nil, Nat.zero_add, Nat.reduceAdd, List.getElem?_toArray, List.getElem?_cons_zero, List.getElem?_cons_succ, Option.bind_some, Act.put, List.setIfInBounds_toArray, List.set_cons_zero, List.set_cons_succ]
     first | done | exact rfl
    case hst1 =>
     refine Steps.of_list (l' := [0, 1, 2, 3, 4, 5, 6, 7, 8, 9, 10, 11]) (by kernel_rfl) ?_
     refine Steps.cons rfl ?_ ?_
     ·intro f wz hB h K Q hK
      clear h
      try simp only [List.getElem_toArray, List.getElem_cons_zero]
      try rw [if_pos (by rfl)]
      have y0 := keep_of_below (bel_drew hB) Y0.out
      have y1 := keep_of_below (bel_drew hB) Y1.out
      have y2 := keep_of_below (bel_drew hB) Y2.out
      have y3 := keep_of_below (bel_drew hB) Y3.out
      have y4 := keep_of_below (bel_drew hB) Y4.out
      have y5 := keep_of_below (bel_drew hB) Y5.out
      have y6 := keep_of_below (bel_drew hB) Y6.out
      have y7 := keep_of_below (bel_drew hB) Y7.out
      have y8 := keep_of_below (bel_drew hB) Y8.out
      have y9 := keep_of_below (bel_drew hB) Y9.out
      have y10 := keep_of_below (bel_drew hB) Y10.out
      have y11 := keep_of_below (bel_drew hB) Y11.out
      have y12 := keep_of_below (bel_drew hB) Y12.out
      have y13 := keep_of_below (bel_drew hB) Y13.out
      have y14 := keep_of_below (bel_drew hB) HPC5.out
      go_simp
      exact hK _ _ (gr_refl _) rfl
     refine Steps.cons rfl ?_ ?_
     ·intro f wz hB h K Q hK
      clear h
      try rw [if_pos (by rfl)]
      have y0 := keep_of_below (bel_drew hB) Y0.out
      have y1 := keep_of_below (bel_drew hB) Y1.out
      have y2 := keep_of_below (bel_drew hB) Y2.out
      have y3 := keep_of_below (bel_drew hB) Y3.out
      have y4 := keep_of_below (bel_drew hB) Y4.out
      have y5 := keep_of_below (bel_drew hB) Y5.out
      have y6 := keep_of_below (bel_drew hB) Y6.out
      have y7 := keep_of_below (bel_drew hB) Y7.out
      have y8 := keep_of_below (bel_drew hB) Y8.out
      have y9 := keep_of_below (bel_drew hB) Y9.out
      have y10 := keep_of_below (bel_drew hB) Y10.out
      have y11 := keep_of_below (bel_drew hB) Y11.out
      have y12 := keep_of_below (bel_drew hB) Y12.out
      have y13 := keep_of_below (bel_drew hB) Y13.out
      have y14 := keep_of_below (bel_drew hB) HPC5.out
      go_simp
      exact hK _ _ (gr_refl _) rfl
     refine Steps.cons rfl ?_ ?_
     ·intro f wz hB h K Q hK
      clear h
      try rw [if_pos (by rfl)]
      go_simp
      exact hK _ _ (gr_refl _) rfl
     refine Steps.cons rfl ?_ ?_
     ·intro f wz hB h K Q hK
      clear h
      try rw [if_pos (by rfl)]
      go_simp
      exact hK _ _ (gr_refl _) rfl
     refine Steps.cons rfl ?_ ?_
     ·intro f wz hB h K Q hK
      have h2 : (MP.is (.slice (some ⟨gk, 0, none⟩) nk ck)).p (f 2) wz := h 2 (by kernel_rfl)
      have e2 : f 2 = (.slice (some ⟨gk, 0, none⟩) nk ck) := h2
      have h3 : (MP.is (.int .i64 (k : Int))).p (f 3) wz := h 3 (by kernel_rfl)
      have e3 : f 3 = (.int .i64 (k : Int)) := h3
      simp only [e2, e3] at hK ⊢
      clear e2 e3
      clear h
      try rw [if_pos (by rfl)]
      go_simp
      exact hK _ _ (gr_refl _) rfl
     refine Steps.cons rfl ?_ ?_
     ·intro f wz hB h K Q hK
      have h4 : (MP.is (.pointer (some ⟨gk, k, none⟩))).p (f 4) wz := h 4 (by kernel_rfl)
      have e4 : f 4 = (.pointer (some ⟨gk, k, none⟩)) := h4
      simp only [e4] at hK ⊢
      clear e4
      clear h
      try rw [if_pos (by rfl)]
      have y0 := keep_of_below (bel_drew hB) Y0.out
      have y1 := keep_of_below (bel_drew hB) Y1.out
      have y2 := keep_of_below (bel_drew hB) Y2.out
      have y3 := keep_of_below (bel_drew hB) Y3.out
      have y4 := keep_of_below (bel_drew hB) Y4.out
      have y5 := keep_of_below (bel_drew hB) Y5.out
      have y6 := keep_of_below (bel_drew hB) Y6.out
      have y7 := keep_of_below (bel_drew hB) Y7.out
      have y8 := keep_of_below (bel_drew hB) Y8.out
      have y9 := keep_of_below (bel_drew hB) Y9.out
      have y10 := keep_of_below (bel_drew hB) Y10.out
      have y11 := keep_of_below (bel_drew hB) Y11.out
      have y12 := keep_of_below (bel_drew hB) Y12.out
      have y13 := keep_of_below (bel_drew hB) Y13.out
      have y14 := keep_of_below (bel_drew hB) HPC5.out
      go_simp
      exact hK _ _ (gr_refl _) rfl
     refine Steps.cons rfl ?_ ?_
     ·intro f wz hB h K Q hK
      have h1 : (MP.is (.agg #[.slice bA1 bn1 bc1, .slice wA1 wn1 wc1, .bool dn1, .int .i64 po1, .int .i64 fa1, .int .i64 wi1, .int .i64 (P1.base : Int), .int .i64 (P1.pages : Int), .int .i64 (P1.most : Int), .int .i64 (P1.epoch : Int), .int .i64 (P1.count : Int), .int .i64 L, .slice A1 n1 c1, .int .i64 (P1.hand : Int)])).p (f 1) wz := h 1 (by kernel_rfl)
      have e1 : f 1 = (.agg #[.slice bA1 bn1 bc1, .slice wA1 wn1 wc1, .bool dn1, .int .i64 po1, .int .i64 fa1, .int .i64 wi1, .int .i64 (P1.base : Int), .int .i64 (P1.pages : Int), .int .i64 (P1.most : Int), .int .i64 (P1.epoch : Int), .int .i64 (P1.count : Int), .int .i64 L, .slice A1 n1 c1, .int .i64 (P1.hand : Int)]) := h1
      have h5 : (MP.is (.int .i64 (p : Int))).p (f 5) wz := h 5 (by kernel_rfl)
      have e5 : f 5 = (.int .i64 (p : Int)) := h5
      simp only [e1, e5] at hK ⊢
      clear e1 e5
      clear h
      try rw [if_pos (by rfl)]
      go_simp
      refine (HCF.out _ (bel_drew hB)).mono ?_
      rintro e w5 ⟨rfl, hb5⟩
      exact hK _ _ hb5 rfl
     refine Steps.cons rfl ?_ ?_
     ·intro f wz hB h K Q hK
      have h0 : (MP.is (.agg #[.slice bA1 bn1 bc1, .slice wA1 wn1 wc1, .bool dn1, .int .i64 po1, .int .i64 fa1, .int .i64 wi1, .int .i64 (P1.base : Int), .int .i64 (P1.pages : Int), .int .i64 (P1.most : Int), .int .i64 (P1.epoch : Int), .int .i64 (P1.count : Int), .int .i64 L, .slice A1 n1 c1, .int .i64 (P1.hand : Int)])).p (f 0) wz := h 0 (by kernel_rfl)
      have e0 : f 0 = (.agg #[.slice bA1 bn1 bc1, .slice wA1 wn1 wc1, .bool dn1, .int .i64 po1, .int .i64 fa1, .int .i64 wi1, .int .i64 (P1.base : Int), .int .i64 (P1.pages : Int), .int .i64 (P1.most : Int), .int .i64 (P1.epoch : Int), .int .i64 (P1.count : Int), .int .i64 L, .slice A1 n1 c1, .int .i64 (P1.hand : Int)]) := h0
      have h6 : (MP.is (.int .i64 (i : Int))).p (f 6) wz := h 6 (by kernel_rfl)
      have e6 : f 6 = (.int .i64 (i : Int)) := h6
      simp only [e0, e6] at hK ⊢
      clear e0 e6
      clear h
      try rw [if_pos (by rfl)]
      go_simp
      refine (HCW.out _ (bel_drew hB)).mono ?_
      rintro e w5 ⟨⟨v', rfl, hz⟩, hb5⟩
      exact hK _ _ hb5 ⟨v', rfl, hz⟩
     refine Steps.cons rfl ?_ ?_
     ·intro f wz hB h K Q hK
      have h7 : (MP.pt (plusG G w2 wr) wr D4 P4 L er4).p (f 7) wz := h 7 (by kernel_rfl)
      obtain ⟨v7, e7, z7⟩ := h7
      simp only [e7] at hK ⊢
      clear e7
      clear h
      try rw [if_pos (by rfl)]
      go_simp
      exact hK _ _ (gr_refl _) ⟨v7, rfl, z7⟩
     refine Steps.cons rfl ?_ ?_
     ·intro f wz hB h K Q hK
      have h8 : (MP.pt (plusG G w2 wr) wr D4 P4 L er4).p (f 8) wz := h 8 (by kernel_rfl)
      obtain ⟨v8, e8, z8⟩ := h8
      simp only [e8] at hK ⊢
      clear e8
      clear h
      try rw [if_pos (by rfl)]
      go_simp
      exact hK _ _ (gr_refl _) ⟨_, rfl, z8⟩
     refine Steps.cons rfl ?_ ?_
     ·intro f wz hB h K Q hK
      have h8 : (MP.pt (plusG G w2 wr) wr D4 P4 L er4).p (f 8) wz := h 8 (by kernel_rfl)
      obtain ⟨v8, e8, z8⟩ := h8
      simp only [e8] at hK ⊢
      clear e8
      clear h
      try rw [if_pos (by rfl)]
      go_simp
      exact hK _ _ (gr_refl _) rfl
     refine Steps.cons rfl ?_ ?_
     ·intro f wz hB h K Q hK
      clear h
      try rw [if_pos (by rfl)]
      go_simp
      exact hK _ _ (gr_alloc (gr_refl _) _) ⟨_, rfl, hB.size, B14.new wz (.slice none 0 0) (.slice none 0 0) (.bool false) (.int .i64 0) (.int .i64 0) (.int .i64 0) (.int .i64 0) (.int .i64 0) (.int .i64 0) (.int .i64 0) (.int .i64 0) (.int .i64 0) (.slice none 0 0) (.int .i64 0)⟩
     exact Steps.nil
    case hend11 =>
     intro f w7 hB7 hR
     conv => arg 7; simp only [putL, dstOf, List.size_toArray, List.length_cons, List.length_nil, Nat.zero_add, Nat.reduceAdd, List.getElem?_toArray, List.getElem?_cons_zero, List.getElem?_cons_succ, Option.bind_some, Act.put, List.setIfInBounds_toArray, List.set_cons_zero, List.set_cons_succ, Array.getD_eq_getD_getElem?, Option.getD_some, if_true, if_false, Bool.false_eq_true]
     have e0 : f 0 = (.agg #[.slice bA1 bn1 bc1, .slice wA1 wn1 wc1, .bool dn1, .int .i64 po1, .int .i64 fa1, .int .i64 wi1, .int .i64 (P1.base : Int), .int .i64 (P1.pages : Int), .int .i64 (P1.most : Int), .int .i64 (P1.epoch : Int), .int .i64 (P1.count : Int), .int .i64 L, .slice A1 n1 c1, .int .i64 (P1.hand : Int)]) := hR 0 (by decide) rfl
     have e1 : f 1 = (.agg #[.slice bA1 bn1 bc1, .slice wA1 wn1 wc1, .bool dn1, .int .i64 po1, .int .i64 fa1, .int .i64 wi1, .int .i64 (P1.base : Int), .int .i64 (P1.pages : Int), .int .i64 (P1.most : Int), .int .i64 (P1.epoch : Int), .int .i64 (P1.count : Int), .int .i64 L, .slice A1 n1 c1, .int .i64 (P1.hand : Int)]) := hR 1 (by decide) rfl
     have e2 : f 2 = (.slice (some ⟨gk, 0, none⟩) nk ck) := hR 2 (by decide) rfl
     have e3 : f 3 = (.int .i64 (k : Int)) := hR 3 (by decide) rfl
     have e4 : f 4 = (.pointer (some ⟨gk, k, none⟩)) := hR 4 (by decide) rfl
     have e5 : f 5 = (.int .i64 (p : Int)) := hR 5 (by decide) rfl
     have e6 : f 6 = (.int .i64 (i : Int)) := hR 6 (by decide) rfl
     obtain ⟨v77, e7, z77⟩ := (show (MP.pt (plusG G w2 wr) wr D4 P4 L er4).p (f 7) w7 from hR 7 (by decide) rfl)
     obtain ⟨v87, e8, z87⟩ := (show (MP.pt (plusG G w2 wr) wr D4 P4 L er4).p (f 8) w7 from hR 8 (by decide) rfl)
     obtain ⟨v97, e9, z97⟩ := (show (MP.pz (plusG G w2 wr) wr D4 P4 L).p (f 9) w7 from hR 9 (by decide) rfl)
     have e10 : f 10 = (.int .i64 er4) := hR 10 (by decide) rfl
     obtain ⟨g117, e11, l117, z117⟩ := (show (MP.bx wr).p (f 11) w7 from hR 11 (by decide) rfl)
     simp only [e0, e1, e2, e3, e4, e5, e6, e7, e8, e9, e10, e11]
     clear e0 e1 e2 e3 e4 e5 e6 e7 e8 e9 e10 e11 hR
     have HB7 : Hid (Below wr.heap.size wr w7) := Lib.hid (Below.trans (gr_drewN (gr_refl wr) 1) hB7)
     have HZ7 := Lib.hid z117
     obtain ⟨bA2, bn2, bc2, wA2, wn2, wc2, dn2, po2, fa2, wi2, A2, n2, c2, rfl, hfill⟩ := z97.fill z117
     have HFILL := Lib.hid hfill
     have r0 := (show B14 w7 g117 (.slice none 0 0) (.slice none 0 0) (.bool false) (.int .i64 0) (.int .i64 0) (.int .i64 0) (.int .i64 0) (.int .i64 0) (.int .i64 0) (.int .i64 0) (.int .i64 0) (.int .i64 0) (.slice none 0 0) (.int .i64 0) from z117).c0
     have r1 := (show B14 w7 g117 (.slice none 0 0) (.slice none 0 0) (.bool false) (.int .i64 0) (.int .i64 0) (.int .i64 0) (.int .i64 0) (.int .i64 0) (.int .i64 0) (.int .i64 0) (.int .i64 0) (.int .i64 0) (.slice none 0 0) (.int .i64 0) from z117).c1
     have r2 := (show B14 w7 g117 (.slice none 0 0) (.slice none 0 0) (.bool false) (.int .i64 0) (.int .i64 0) (.int .i64 0) (.int .i64 0) (.int .i64 0) (.int .i64 0) (.int .i64 0) (.int .i64 0) (.int .i64 0) (.slice none 0 0) (.int .i64 0) from z117).c2
     have r3 := (show B14 w7 g117 (.slice none 0 0) (.slice none 0 0) (.bool false) (.int .i64 0) (.int .i64 0) (.int .i64 0) (.int .i64 0) (.int .i64 0) (.int .i64 0) (.int .i64 0) (.int .i64 0) (.int .i64 0) (.slice none 0 0) (.int .i64 0) from z117).c3
     have r4 := (show B14 w7 g117 (.slice none 0 0) (.slice none 0 0) (.bool false) (.int .i64 0) (.int .i64 0) (.int .i64 0) (.int .i64 0) (.int .i64 0) (.int .i64 0) (.int .i64 0) (.int .i64 0) (.int .i64 0) (.slice none 0 0) (.int .i64 0) from z117).c4
     have r5 := (show B14 w7 g117 (.slice none 0 0) (.slice none 0 0) (.bool false) (.int .i64 0) (.int .i64 0) (.int .i64 0) (.int .i64 0) (.int .i64 0) (.int .i64 0) (.int .i64 0) (.int .i64 0) (.int .i64 0) (.slice none 0 0) (.int .i64 0) from z117).c5
     have r6 := (show B14 w7 g117 (.slice none 0 0) (.slice none 0 0) (.bool false) (.int .i64 0) (.int .i64 0) (.int .i64 0) (.int .i64 0) (.int .i64 0) (.int .i64 0) (.int .i64 0) (.int .i64 0) (.int .i64 0) (.slice none 0 0) (.int .i64 0) from z117).c6
     have r7 := (show B14 w7 g117 (.slice none 0 0) (.slice none 0 0) (.bool false) (.int .i64 0) (.int .i64 0) (.int .i64 0) (.int .i64 0) (.int .i64 0) (.int .i64 0) (.int .i64 0) (.int .i64 0) (.int .i64 0) (.slice none 0 0) (.int .i64 0) from z117).c7
     have r8 := (show B14 w7 g117 (.slice none 0 0) (.slice none 0 0) (.bool false) (.int .i64 0) (.int .i64 0) (.int .i64 0) (.int .i64 0) (.int .i64 0) (.int .i64 0) (.int .i64 0) (.int .i64 0) (.int .i64 0) (.slice none 0 0) (.int .i64 0) from z117).c8
     have r9 := (show B14 w7 g117 (.slice none 0 0) (.slice none 0 0) (.bool false) (.int .i64 0) (.int .i64 0) (.int .i64 0) (.int .i64 0) (.int .i64 0) (.int .i64 0) (.int .i64 0) (.int .i64 0) (.int .i64 0) (.slice none 0 0) (.int .i64 0) from z117).c9
     have r10 := (show B14 w7 g117 (.slice none 0 0) (.slice none 0 0) (.bool false) (.int .i64 0) (.int .i64 0) (.int .i64 0) (.int .i64 0) (.int .i64 0) (.int .i64 0) (.int .i64 0) (.int .i64 0) (.int .i64 0) (.slice none 0 0) (.int .i64 0) from z117).c10
     have r11 := (show B14 w7 g117 (.slice none 0 0) (.slice none 0 0) (.bool false) (.int .i64 0) (.int .i64 0) (.int .i64 0) (.int .i64 0) (.int .i64 0) (.int .i64 0) (.int .i64 0) (.int .i64 0) (.int .i64 0) (.slice none 0 0) (.int .i64 0) from z117).c11
     have r12 := (show B14 w7 g117 (.slice none 0 0) (.slice none 0 0) (.bool false) (.int .i64 0) (.int .i64 0) (.int .i64 0) (.int .i64 0) (.int .i64 0) (.int .i64 0) (.int .i64 0) (.int .i64 0) (.int .i64 0) (.slice none 0 0) (.int .i64 0) from z117).c12
     have r13 := (show B14 w7 g117 (.slice none 0 0) (.slice none 0 0) (.bool false) (.int .i64 0) (.int .i64 0) (.int .i64 0) (.int .i64 0) (.int .i64 0) (.int .i64 0) (.int .i64 0) (.int .i64 0) (.int .i64 0) (.slice none 0 0) (.int .i64 0) from z117).c13
     have rz0 := (show B14 w7 g117 (.slice none 0 0) (.slice none 0 0) (.bool false) (.int .i64 0) (.int .i64 0) (.int .i64 0) (.int .i64 0) (.int .i64 0) (.int .i64 0) (.int .i64 0) (.int .i64 0) (.int .i64 0) (.slice none 0 0) (.int .i64 0) from z117).fz 0
     have rz1 := (show B14 w7 g117 (.slice none 0 0) (.slice none 0 0) (.bool false) (.int .i64 0) (.int .i64 0) (.int .i64 0) (.int .i64 0) (.int .i64 0) (.int .i64 0) (.int .i64 0) (.int .i64 0) (.int .i64 0) (.slice none 0 0) (.int .i64 0) from z117).fz 1
     have rz2 := (show B14 w7 g117 (.slice none 0 0) (.slice none 0 0) (.bool false) (.int .i64 0) (.int .i64 0) (.int .i64 0) (.int .i64 0) (.int .i64 0) (.int .i64 0) (.int .i64 0) (.int .i64 0) (.int .i64 0) (.slice none 0 0) (.int .i64 0) from z117).fz 2
     have rz3 := (show B14 w7 g117 (.slice none 0 0) (.slice none 0 0) (.bool false) (.int .i64 0) (.int .i64 0) (.int .i64 0) (.int .i64 0) (.int .i64 0) (.int .i64 0) (.int .i64 0) (.int .i64 0) (.int .i64 0) (.slice none 0 0) (.int .i64 0) from z117).fz 3
     have rz4 := (show B14 w7 g117 (.slice none 0 0) (.slice none 0 0) (.bool false) (.int .i64 0) (.int .i64 0) (.int .i64 0) (.int .i64 0) (.int .i64 0) (.int .i64 0) (.int .i64 0) (.int .i64 0) (.int .i64 0) (.slice none 0 0) (.int .i64 0) from z117).fz 4
     have rz5 := (show B14 w7 g117 (.slice none 0 0) (.slice none 0 0) (.bool false) (.int .i64 0) (.int .i64 0) (.int .i64 0) (.int .i64 0) (.int .i64 0) (.int .i64 0) (.int .i64 0) (.int .i64 0) (.int .i64 0) (.slice none 0 0) (.int .i64 0) from z117).fz 5
     have rz6 := (show B14 w7 g117 (.slice none 0 0) (.slice none 0 0) (.bool false) (.int .i64 0) (.int .i64 0) (.int .i64 0) (.int .i64 0) (.int .i64 0) (.int .i64 0) (.int .i64 0) (.int .i64 0) (.int .i64 0) (.slice none 0 0) (.int .i64 0) from z117).fz 6
     have rz7 := (show B14 w7 g117 (.slice none 0 0) (.slice none 0 0) (.bool false) (.int .i64 0) (.int .i64 0) (.int .i64 0) (.int .i64 0) (.int .i64 0) (.int .i64 0) (.int .i64 0) (.int .i64 0) (.int .i64 0) (.slice none 0 0) (.int .i64 0) from z117).fz 7
     have rz8 := (show B14 w7 g117 (.slice none 0 0) (.slice none 0 0) (.bool false) (.int .i64 0) (.int .i64 0) (.int .i64 0) (.int .i64 0) (.int .i64 0) (.int .i64 0) (.int .i64 0) (.int .i64 0) (.int .i64 0) (.slice none 0 0) (.int .i64 0) from z117).fz 8
     have rz9 := (show B14 w7 g117 (.slice none 0 0) (.slice none 0 0) (.bool false) (.int .i64 0) (.int .i64 0) (.int .i64 0) (.int .i64 0) (.int .i64 0) (.int .i64 0) (.int .i64 0) (.int .i64 0) (.int .i64 0) (.slice none 0 0) (.int .i64 0) from z117).fz 9
     have rz10 := (show B14 w7 g117 (.slice none 0 0) (.slice none 0 0) (.bool false) (.int .i64 0) (.int .i64 0) (.int .i64 0) (.int .i64 0) (.int .i64 0) (.int .i64 0) (.int .i64 0) (.int .i64 0) (.int .i64 0) (.slice none 0 0) (.int .i64 0) from z117).fz 10
     have rz11 := (show B14 w7 g117 (.slice none 0 0) (.slice none 0 0) (.bool false) (.int .i64 0) (.int .i64 0) (.int .i64 0) (.int .i64 0) (.int .i64 0) (.int .i64 0) (.int .i64 0) (.int .i64 0) (.int .i64 0) (.slice none 0 0) (.int .i64 0) from z117).fz 11
     have rz12 := (show B14 w7 g117 (.slice none 0 0) (.slice none 0 0) (.bool false) (.int .i64 0) (.int .i64 0) (.int .i64 0) (.int .i64 0) (.int .i64 0) (.int .i64 0) (.int .i64 0) (.int .i64 0) (.int .i64 0) (.slice none 0 0) (.int .i64 0) from z117).fz 12
     have rz13 := (show B14 w7 g117 (.slice none 0 0) (.slice none 0 0) (.bool false) (.int .i64 0) (.int .i64 0) (.int .i64 0) (.int .i64 0) (.int .i64 0) (.int .i64 0) (.int .i64 0) (.int .i64 0) (.int .i64 0) (.slice none 0 0) (.int .i64 0) from z117).fz 13
     have hl7 := l117
     clear z87 z77 z97 z117 hfill hB7
     refine wpAny_of_held (S := fun _ => True) _ _ _ _ ?_
     refine wpAnyH_ready (rs := [12]) (by kernel_rfl) (by simp) ?_
     refine AllReadyH.cons rfl (fun KK hK => ?_) (AllReadyH.nil)
     go_simp
     refine hK.out _ _ trivial (fun _ => ?_)
     clear hK KK
     try simp only [List.setIfInBounds_toArray, List.set_cons_zero, List.set_cons_succ]
     refine wpAnyH_ready (rs := [13]) (by kernel_rfl) (by simp) ?_
     refine AllReadyH.cons rfl (fun KK hK => ?_) (AllReadyH.nil)
     go_simp
     refine hK.out _ _ trivial (fun _ => ?_)
     clear hK KK
     try simp only [List.setIfInBounds_toArray, List.set_cons_zero, List.set_cons_succ]
     refine wpAnyH_done (by kernel_rfl) ?_ _
     obtain ⟨hz, ho⟩ := HFILL.out _ rfl
     go_wp2_with fail
     go_meet
     exact ⟨_, rfl, rfl, hl7, Lib.hid hz, Lib.hid (HB7.out.trans (ho.below (fun k e => by omega) HB7.out.size))⟩
    case hend01 =>
     intro f w7 hB7 hR
     conv => arg 7; simp only [putL, dstOf, List.size_toArray, List.length_cons, List.length_nil, Nat.zero_add, Nat.reduceAdd, List.getElem?_toArray, List.getElem?_cons_zero, List.getElem?_cons_succ, Option.bind_some, Act.put, List.setIfInBounds_toArray, List.set_cons_zero, List.set_cons_succ, Array.getD_eq_getD_getElem?, Option.getD_some, if_true, if_false, Bool.false_eq_true]
     have e0 : f 0 = (.agg #[.slice bA1 bn1 bc1, .slice wA1 wn1 wc1, .bool dn1, .int .i64 po1, .int .i64 fa1, .int .i64 wi1, .int .i64 (P1.base : Int), .int .i64 (P1.pages : Int), .int .i64 (P1.most : Int), .int .i64 (P1.epoch : Int), .int .i64 (P1.count : Int), .int .i64 L, .slice A1 n1 c1, .int .i64 (P1.hand : Int)]) := hR 0 (by decide) rfl
     have e1 : f 1 = (.agg #[.slice bA1 bn1 bc1, .slice wA1 wn1 wc1, .bool dn1, .int .i64 po1, .int .i64 fa1, .int .i64 wi1, .int .i64 (P1.base : Int), .int .i64 (P1.pages : Int), .int .i64 (P1.most : Int), .int .i64 (P1.epoch : Int), .int .i64 (P1.count : Int), .int .i64 L, .slice A1 n1 c1, .int .i64 (P1.hand : Int)]) := hR 1 (by decide) rfl
     have e2 : f 2 = (.slice (some ⟨gk, 0, none⟩) nk ck) := hR 2 (by decide) rfl
     have e3 : f 3 = (.int .i64 (k : Int)) := hR 3 (by decide) rfl
     have e4 : f 4 = (.pointer (some ⟨gk, k, none⟩)) := hR 4 (by decide) rfl
     have e5 : f 5 = (.int .i64 (p : Int)) := hR 5 (by decide) rfl
     have e6 : f 6 = (.int .i64 (i : Int)) := hR 6 (by decide) rfl
     obtain ⟨v77, e7, z77⟩ := (show (MP.pt (plusG G w2 wr) wr D4 P4 L er4).p (f 7) w7 from hR 7 (by decide) rfl)
     obtain ⟨v87, e8, z87⟩ := (show (MP.pt (plusG G w2 wr) wr D4 P4 L er4).p (f 8) w7 from hR 8 (by decide) rfl)
     obtain ⟨v97, e9, z97⟩ := (show (MP.pz (plusG G w2 wr) wr D4 P4 L).p (f 9) w7 from hR 9 (by decide) rfl)
     obtain ⟨g117, e11, l117, z117⟩ := (show (MP.bx wr).p (f 11) w7 from hR 11 (by decide) rfl)
     simp only [e0, e1, e2, e3, e4, e5, e6, e7, e8, e9, e11]
     clear e0 e1 e2 e3 e4 e5 e6 e7 e8 e9 e11 hR
     have HB7 : Hid (Below wr.heap.size wr w7) := Lib.hid (Below.trans (gr_drewN (gr_refl wr) 1) hB7)
     have HZ7 := Lib.hid z117
     obtain ⟨bA2, bn2, bc2, wA2, wn2, wc2, dn2, po2, fa2, wi2, A2, n2, c2, rfl, hfill⟩ := z97.fill z117
     have HFILL := Lib.hid hfill
     have r0 := (show B14 w7 g117 (.slice none 0 0) (.slice none 0 0) (.bool false) (.int .i64 0) (.int .i64 0) (.int .i64 0) (.int .i64 0) (.int .i64 0) (.int .i64 0) (.int .i64 0) (.int .i64 0) (.int .i64 0) (.slice none 0 0) (.int .i64 0) from z117).c0
     have r1 := (show B14 w7 g117 (.slice none 0 0) (.slice none 0 0) (.bool false) (.int .i64 0) (.int .i64 0) (.int .i64 0) (.int .i64 0) (.int .i64 0) (.int .i64 0) (.int .i64 0) (.int .i64 0) (.int .i64 0) (.slice none 0 0) (.int .i64 0) from z117).c1
     have r2 := (show B14 w7 g117 (.slice none 0 0) (.slice none 0 0) (.bool false) (.int .i64 0) (.int .i64 0) (.int .i64 0) (.int .i64 0) (.int .i64 0) (.int .i64 0) (.int .i64 0) (.int .i64 0) (.int .i64 0) (.slice none 0 0) (.int .i64 0) from z117).c2
     have r3 := (show B14 w7 g117 (.slice none 0 0) (.slice none 0 0) (.bool false) (.int .i64 0) (.int .i64 0) (.int .i64 0) (.int .i64 0) (.int .i64 0) (.int .i64 0) (.int .i64 0) (.int .i64 0) (.int .i64 0) (.slice none 0 0) (.int .i64 0) from z117).c3
     have r4 := (show B14 w7 g117 (.slice none 0 0) (.slice none 0 0) (.bool false) (.int .i64 0) (.int .i64 0) (.int .i64 0) (.int .i64 0) (.int .i64 0) (.int .i64 0) (.int .i64 0) (.int .i64 0) (.int .i64 0) (.slice none 0 0) (.int .i64 0) from z117).c4
     have r5 := (show B14 w7 g117 (.slice none 0 0) (.slice none 0 0) (.bool false) (.int .i64 0) (.int .i64 0) (.int .i64 0) (.int .i64 0) (.int .i64 0) (.int .i64 0) (.int .i64 0) (.int .i64 0) (.int .i64 0) (.slice none 0 0) (.int .i64 0) from z117).c5
     have r6 := (show B14 w7 g117 (.slice none 0 0) (.slice none 0 0) (.bool false) (.int .i64 0) (.int .i64 0) (.int .i64 0) (.int .i64 0) (.int .i64 0) (.int .i64 0) (.int .i64 0) (.int .i64 0) (.int .i64 0) (.slice none 0 0) (.int .i64 0) from z117).c6
     have r7 := (show B14 w7 g117 (.slice none 0 0) (.slice none 0 0) (.bool false) (.int .i64 0) (.int .i64 0) (.int .i64 0) (.int .i64 0) (.int .i64 0) (.int .i64 0) (.int .i64 0) (.int .i64 0) (.int .i64 0) (.slice none 0 0) (.int .i64 0) from z117).c7
     have r8 := (show B14 w7 g117 (.slice none 0 0) (.slice none 0 0) (.bool false) (.int .i64 0) (.int .i64 0) (.int .i64 0) (.int .i64 0) (.int .i64 0) (.int .i64 0) (.int .i64 0) (.int .i64 0) (.int .i64 0) (.slice none 0 0) (.int .i64 0) from z117).c8
     have r9 := (show B14 w7 g117 (.slice none 0 0) (.slice none 0 0) (.bool false) (.int .i64 0) (.int .i64 0) (.int .i64 0) (.int .i64 0) (.int .i64 0) (.int .i64 0) (.int .i64 0) (.int .i64 0) (.int .i64 0) (.slice none 0 0) (.int .i64 0) from z117).c9
     have r10 := (show B14 w7 g117 (.slice none 0 0) (.slice none 0 0) (.bool false) (.int .i64 0) (.int .i64 0) (.int .i64 0) (.int .i64 0) (.int .i64 0) (.int .i64 0) (.int .i64 0) (.int .i64 0) (.int .i64 0) (.slice none 0 0) (.int .i64 0) from z117).c10
     have r11 := (show B14 w7 g117 (.slice none 0 0) (.slice none 0 0) (.bool false) (.int .i64 0) (.int .i64 0) (.int .i64 0) (.int .i64 0) (.int .i64 0) (.int .i64 0) (.int .i64 0) (.int .i64 0) (.int .i64 0) (.slice none 0 0) (.int .i64 0) from z117).c11
     have r12 := (show B14 w7 g117 (.slice none 0 0) (.slice none 0 0) (.bool false) (.int .i64 0) (.int .i64 0) (.int .i64 0) (.int .i64 0) (.int .i64 0) (.int .i64 0) (.int .i64 0) (.int .i64 0) (.int .i64 0) (.slice none 0 0) (.int .i64 0) from z117).c12
     have r13 := (show B14 w7 g117 (.slice none 0 0) (.slice none 0 0) (.bool false) (.int .i64 0) (.int .i64 0) (.int .i64 0) (.int .i64 0) (.int .i64 0) (.int .i64 0) (.int .i64 0) (.int .i64 0) (.int .i64 0) (.slice none 0 0) (.int .i64 0) from z117).c13
     have rz0 := (show B14 w7 g117 (.slice none 0 0) (.slice none 0 0) (.bool false) (.int .i64 0) (.int .i64 0) (.int .i64 0) (.int .i64 0) (.int .i64 0) (.int .i64 0) (.int .i64 0) (.int .i64 0) (.int .i64 0) (.slice none 0 0) (.int .i64 0) from z117).fz 0
     have rz1 := (show B14 w7 g117 (.slice none 0 0) (.slice none 0 0) (.bool false) (.int .i64 0) (.int .i64 0) (.int .i64 0) (.int .i64 0) (.int .i64 0) (.int .i64 0) (.int .i64 0) (.int .i64 0) (.int .i64 0) (.slice none 0 0) (.int .i64 0) from z117).fz 1
     have rz2 := (show B14 w7 g117 (.slice none 0 0) (.slice none 0 0) (.bool false) (.int .i64 0) (.int .i64 0) (.int .i64 0) (.int .i64 0) (.int .i64 0) (.int .i64 0) (.int .i64 0) (.int .i64 0) (.int .i64 0) (.slice none 0 0) (.int .i64 0) from z117).fz 2
     have rz3 := (show B14 w7 g117 (.slice none 0 0) (.slice none 0 0) (.bool false) (.int .i64 0) (.int .i64 0) (.int .i64 0) (.int .i64 0) (.int .i64 0) (.int .i64 0) (.int .i64 0) (.int .i64 0) (.int .i64 0) (.slice none 0 0) (.int .i64 0) from z117).fz 3
     have rz4 := (show B14 w7 g117 (.slice none 0 0) (.slice none 0 0) (.bool false) (.int .i64 0) (.int .i64 0) (.int .i64 0) (.int .i64 0) (.int .i64 0) (.int .i64 0) (.int .i64 0) (.int .i64 0) (.int .i64 0) (.slice none 0 0) (.int .i64 0) from z117).fz 4
     have rz5 := (show B14 w7 g117 (.slice none 0 0) (.slice none 0 0) (.bool false) (.int .i64 0) (.int .i64 0) (.int .i64 0) (.int .i64 0) (.int .i64 0) (.int .i64 0) (.int .i64 0) (.int .i64 0) (.int .i64 0) (.slice none 0 0) (.int .i64 0) from z117).fz 5
     have rz6 := (show B14 w7 g117 (.slice none 0 0) (.slice none 0 0) (.bool false) (.int .i64 0) (.int .i64 0) (.int .i64 0) (.int .i64 0) (.int .i64 0) (.int .i64 0) (.int .i64 0) (.int .i64 0) (.int .i64 0) (.slice none 0 0) (.int .i64 0) from z117).fz 6
     have rz7 := (show B14 w7 g117 (.slice none 0 0) (.slice none 0 0) (.bool false) (.int .i64 0) (.int .i64 0) (.int .i64 0) (.int .i64 0) (.int .i64 0) (.int .i64 0) (.int .i64 0) (.int .i64 0) (.int .i64 0) (.slice none 0 0) (.int .i64 0) from z117).fz 7
     have rz8 := (show B14 w7 g117 (.slice none 0 0) (.slice none 0 0) (.bool false) (.int .i64 0) (.int .i64 0) (.int .i64 0) (.int .i64 0) (.int .i64 0) (.int .i64 0) (.int .i64 0) (.int .i64 0) (.int .i64 0) (.slice none 0 0) (.int .i64 0) from z117).fz 8
     have rz9 := (show B14 w7 g117 (.slice none 0 0) (.slice none 0 0) (.bool false) (.int .i64 0) (.int .i64 0) (.int .i64 0) (.int .i64 0) (.int .i64 0) (.int .i64 0) (.int .i64 0) (.int .i64 0) (.int .i64 0) (.slice none 0 0) (.int .i64 0) from z117).fz 9
     have rz10 := (show B14 w7 g117 (.slice none 0 0) (.slice none 0 0) (.bool false) (.int .i64 0) (.int .i64 0) (.int .i64 0) (.int .i64 0) (.int .i64 0) (.int .i64 0) (.int .i64 0) (.int .i64 0) (.int .i64 0) (.slice none 0 0) (.int .i64 0) from z117).fz 10
     have rz11 := (show B14 w7 g117 (.slice none 0 0) (.slice none 0 0) (.bool false) (.int .i64 0) (.int .i64 0) (.int .i64 0) (.int .i64 0) (.int .i64 0) (.int .i64 0) (.int .i64 0) (.int .i64 0) (.int .i64 0) (.slice none 0 0) (.int .i64 0) from z117).fz 11
     have rz12 := (show B14 w7 g117 (.slice none 0 0) (.slice none 0 0) (.bool false) (.int .i64 0) (.int .i64 0) (.int .i64 0) (.int .i64 0) (.int .i64 0) (.int .i64 0) (.int .i64 0) (.int .i64 0) (.int .i64 0) (.slice none 0 0) (.int .i64 0) from z117).fz 12
     have rz13 := (show B14 w7 g117 (.slice none 0 0) (.slice none 0 0) (.bool false) (.int .i64 0) (.int .i64 0) (.int .i64 0) (.int .i64 0) (.int .i64 0) (.int .i64 0) (.int .i64 0) (.int .i64 0) (.int .i64 0) (.slice none 0 0) (.int .i64 0) from z117).fz 13
     have hl7 := l117
     clear z87 z77 z97 z117 hfill hB7
     refine wpAny_of_held (S := fun _ => True) _ _ _ _ ?_
     refine wpAnyH_ready (rs := [10, 12]) (by kernel_rfl) (by simp) ?_
     refine AllReadyH.cons rfl (fun KK hK => ?_) (AllReadyH.cons rfl (fun KK hK => ?_) (AllReadyH.nil))
     ·try simp only [List.getElem_toArray, List.getElem_cons_succ, List.getElem_cons_zero]
      go_simp
      refine hK.out _ _ trivial (fun _ => ?_)
      clear hK KK
      try simp only [List.setIfInBounds_toArray, List.set_cons_zero, List.set_cons_succ]
      refine wpAnyH_ready (rs := [12]) (by kernel_rfl) (by simp) ?_
      refine AllReadyH.cons rfl (fun KK hK => ?_) (AllReadyH.nil)
      go_simp
      refine hK.out _ _ trivial (fun _ => ?_)
      clear hK KK
      try simp only [List.setIfInBounds_toArray, List.set_cons_zero, List.set_cons_succ]
      refine wpAnyH_ready (rs := [13]) (by kernel_rfl) (by simp) ?_
      refine AllReadyH.cons rfl (fun KK hK => ?_) (AllReadyH.nil)
      go_simp
      refine hK.out _ _ trivial (fun _ => ?_)
      clear hK KK
      try simp only [List.setIfInBounds_toArray, List.set_cons_zero, List.set_cons_succ]
      refine wpAnyH_done (by kernel_rfl) ?_ _
      obtain ⟨hz, ho⟩ := HFILL.out _ rfl
      go_wp2_with fail
      go_meet
      exact ⟨_, rfl, rfl, hl7, Lib.hid hz, Lib.hid (HB7.out.trans (ho.below (fun k e => by omega) HB7.out.size))⟩
     ·try simp only [List.getElem_toArray, List.getElem_cons_succ, List.getElem_cons_zero]
      go_simp
      refine hK.out _ _ trivial (fun _ => ?_)
      clear hK KK
      try simp only [List.setIfInBounds_toArray, List.set_cons_zero, List.set_cons_succ]
      refine wpAnyH_ready (rs := [10]) (by kernel_rfl) (by simp) ?_
      refine AllReadyH.cons rfl (fun KK hK => ?_) (AllReadyH.nil)
      go_simp
      refine hK.out _ _ trivial (fun _ => ?_)
      clear hK KK
      try simp only [List.setIfInBounds_toArray, List.set_cons_zero, List.set_cons_succ]
      refine wpAnyH_ready (rs := [13]) (by kernel_rfl) (by simp) ?_
      refine AllReadyH.cons rfl (fun KK hK => ?_) (AllReadyH.nil)
      go_simp
      refine hK.out _ _ trivial (fun _ => ?_)
      clear hK KK
      try simp only [List.setIfInBounds_toArray, List.set_cons_zero, List.set_cons_succ]
      refine wpAnyH_done (by kernel_rfl) ?_ _
      obtain ⟨hz, ho⟩ := HFILL.out _ rfl
      go_wp2_with fail
      go_meet
      exact ⟨_, rfl, rfl, hl7, Lib.hid hz, Lib.hid (HB7.out.trans (ho.below (fun k e => by omega) HB7.out.size))⟩
   case rest =>
    obtain ⟨g6, rfl, rfl, hg6, HZ, HBc⟩ := hcut
    obtain ⟨bA2, bn2, bc2, wA2, wn2, wc2, dn2, po2, fa2, wi2, A2, n2, c2, q2, hx6, hk2, hf2, hq2⟩ := HZ.out
    have X6 := Lib.hid hx6
    have HK2 := Lib.hid hk2
    have HF2 := Lib.hid hf2
    have HQ2 := Lib.hid hq2
    have X1 := Lib.hid (X1.out.below HBc.out)
    have X2 := Lib.hid (X2.out.below HBc.out)
    have HIRc := Lib.hid (Rd.below HIRr.out HBc.out)
    clear hx6 hk2 hf2 hq2 HZ
    have HG6 : Hid (wr.heap.size ≤ g6) := Lib.hid hg6
    clear hg6
    have u0 := X6.out.c0
    have u1 := X6.out.c1
    have u2 := X6.out.c2
    have u3 := X6.out.c3
    have u4 := X6.out.c4
    have u5 := X6.out.c5
    have u6 := X6.out.c6
    have u7 := X6.out.c7
    have u8 := X6.out.c8
    have u9 := X6.out.c9
    have u10 := X6.out.c10
    have u11 := X6.out.c11
    have u12 := X6.out.c12
    have u13 := X6.out.c13
    have y0 := X1.out.c0
    have y1 := X1.out.c1
    have y2 := X1.out.c2
    have y3 := X1.out.c3
    have y4 := X1.out.c4
    have y5 := X1.out.c5
    have y6 := X1.out.c6
    have y7 := X1.out.c7
    have y8 := X1.out.c8
    have y9 := X1.out.c9
    have y10 := X1.out.c10
    have y11 := X1.out.c11
    have y12 := X1.out.c12
    have y13 := X1.out.c13
    have yz0 := X1.out.fz 0
    have yz1 := X1.out.fz 1
    have yz2 := X1.out.fz 2
    have yz3 := X1.out.fz 3
    have yz4 := X1.out.fz 4
    have yz5 := X1.out.fz 5
    have yz6 := X1.out.fz 6
    have yz7 := X1.out.fz 7
    have yz8 := X1.out.fz 8
    have yz9 := X1.out.fz 9
    have yz10 := X1.out.fz 10
    have yz11 := X1.out.fz 11
    have yz12 := X1.out.fz 12
    have yz13 := X1.out.fz 13
    have HSX1b := Lib.hid (X1.out.all (.slice bA2 bn2 bc2) (.slice wA2 wn2 wc2) (.bool dn2) (.int .i64 po2) (.int .i64 fa2) (.int .i64 wi2) (.int .i64 (P4.base : Int)) (.int .i64 (P4.pages : Int)) (.int .i64 (P4.most : Int)) (.int .i64 (P4.epoch : Int)) (.int .i64 (P4.count : Int)) (.int .i64 L) (.slice A2 n2 c2) (.int .i64 (P4.hand : Int)))
    go_upto_region 7 with fail
    clear u0 u1 u2 u3 u4 u5 u6 u7 u8 u9 u10 u11 u12 u13 X6
    clear y0 y1 y2 y3 y4 y5 y6 y7 y8 y9 y10 y11 y12 y13 yz0 yz1 yz2 yz3 yz4 yz5 yz6 yz7 yz8 yz9 yz10 yz11 yz12 yz13
    obtain ⟨X1b, X1bo⟩ := HSX1b.out _ rfl
    clear HSX1b
    generalize ((((((((((((((wc.setCell ⟨w.heap.size, 0, none⟩ (.slice bA2 bn2 bc2)).setCell ⟨w.heap.size, 1, none⟩ (.slice wA2 wn2 wc2)).setCell ⟨w.heap.size, 2, none⟩ (.bool dn2)).setCell ⟨w.heap.size, 3, none⟩ (.int .i64 po2)).setCell ⟨w.heap.size, 4, none⟩ (.int .i64 fa2)).setCell ⟨w.heap.size, 5, none⟩ (.int .i64 wi2)).setCell ⟨w.heap.size, 6, none⟩ (.int .i64 (P4.base : Int))).setCell ⟨w.heap.size, 7, none⟩ (.int .i64 (P4.pages : Int))).setCell ⟨w.heap.size, 8, none⟩ (.int .i64 (P4.most : Int))).setCell ⟨w.heap.size, 9, none⟩ (.int .i64 (P4.epoch : Int))).setCell ⟨w.heap.size, 10, none⟩ (.int .i64 (P4.count : Int))).setCell ⟨w.heap.size, 11, none⟩ (.int .i64 L)).setCell ⟨w.heap.size, 12, none⟩ (.slice A2 n2 c2)).setCell ⟨w.heap.size, 13, none⟩ (.int .i64 (P4.hand : Int))) = wd at *
    have hw2 : w.heap.size + 2 ≤ w2.heap.size := HS2.out
    have X2 := Lib.hid (X2.out.off X1bo (by omega))
    have hng : ∀ k, k = w.heap.size → ¬ plusG (plusG G w2 wr) wr wc k := fun k e hk => by
     have h1 := HBr.out.1.size
     have h3 := HBr.out.2
     rcases hk with (hk | hk) | hk
     ·have := HGl.out k hk; omega
     ·omega
     ·omega
    have HK2 := Lib.hid (HK2.out.off X1bo hng)
    have HF2 := Lib.hid (HF2.out.off X1bo hng)
    have HOd := Lib.hid X1bo
    have HGM : Hid (∀ k, plusG (plusG G w2 wr) wr wc k → plusG G w2 wd k) := Lib.hid (plusG.in2 (Nat.le_refl _) (Nat.le_trans HBc.out.size HOd.out.size) HBr.out.2 HOd.out.size)
    have HBd : Hid (Below w.heap.size w wd) := Lib.hid (by
     have b1 := HBr.out.1.trans (HBc.out.mono HBr.out.1.size)
     exact b1.trans (HOd.out.below (fun k e => by omega) b1.size))
    have HSd : Hid (w2.heap.size ≤ wd.heap.size) := Lib.hid (Nat.le_trans HBr.out.2 (Nat.le_trans HBc.out.size HOd.out.size))
    have HIRd : Hid (IR wd (some ⟨gk, 0, none⟩) nk (intsL ks)) := Lib.hid (Rd.off HIRc.out HOd.out (fun ad ea _ e => by
     have := HGKB.out
     cases ea
     exact this e))
    clear hng
    have X1 := Lib.hid X1b
    clear X1b X1bo
    have hnk6 : nk ≤ 4096 := by rw [HNK.out]; exact HKL.out
    by_cases her : er4 = 0
    ·have t3 : (er4 != 0) = false := by rw [her]; rfl
     have HFE6 : Hid (flushF (some L) ks D P = flushF (some L) (ks.drop (k + 1)) D4 P4) := Lib.hid (HFE5.out.trans (if_neg (fun h => h her)))
     clear her
     go_wp2_with fail
     go_roundw
     case rel =>
      have hk1 : k + 1 ≤ nk := by omega
      exact ⟨k + 1, D4, P4, hk1, by go_num, Lib.hid ⟨bA2, bn2, bc2, wA2, wn2, wc2, dn2, po2, fa2, wi2, _, _, _, q2, X1.out, HK2.out.mono HGM.out, HF2.out.mono HGM.out, HQ2.out⟩, HFE6, HF5, X2, HIRd, Lib.hid ⟨HBd.out, HSd.out⟩⟩
     case measure => simp [RowKit.intOf]; omega
    ·have t3 : (er4 != 0) = true := bne_iff_ne.2 her
     have HFE6 : Hid (flushF (some L) ks D P = (D4, P4, er4)) := Lib.hid (HFE5.out.trans (if_pos her))
     have HR6 : Hid (RR = (D4, P4, er4)) := Lib.hid (by rw [HRR.out, HFE6.out]; exact if_pos her)
     clear her
     go_upto_region 8 with fail
     have y0 := X1.out.c0
     have y1 := X1.out.c1
     have y2 := X1.out.c2
     have y3 := X1.out.c3
     have y4 := X1.out.c4
     have y5 := X1.out.c5
     have y6 := X1.out.c6
     have y7 := X1.out.c7
     have y8 := X1.out.c8
     have y9 := X1.out.c9
     have y10 := X1.out.c10
     have y11 := X1.out.c11
     have y12 := X1.out.c12
     have y13 := X1.out.c13
     have r0 := X2.out.c0
     have r1 := X2.out.c1
     have r2 := X2.out.c2
     have r3 := X2.out.c3
     have r4 := X2.out.c4
     have r5 := X2.out.c5
     have r6 := X2.out.c6
     have r7 := X2.out.c7
     have r8 := X2.out.c8
     have r9 := X2.out.c9
     have r10 := X2.out.c10
     have r11 := X2.out.c11
     have r12 := X2.out.c12
     have r13 := X2.out.c13
     have rz0 := X2.out.fz 0
     have rz1 := X2.out.fz 1
     have rz2 := X2.out.fz 2
     have rz3 := X2.out.fz 3
     have rz4 := X2.out.fz 4
     have rz5 := X2.out.fz 5
     have rz6 := X2.out.fz 6
     have rz7 := X2.out.fz 7
     have rz8 := X2.out.fz 8
     have rz9 := X2.out.fz 9
     have rz10 := X2.out.fz 10
     have rz11 := X2.out.fz 11
     have rz12 := X2.out.fz 12
     have rz13 := X2.out.fz 13
     have HSs1 := Lib.hid (X2.out.all (.slice bA2 bn2 bc2) (.slice wA2 wn2 wc2) (.bool dn2) (.int .i64 po2) (.int .i64 fa2) (.int .i64 wi2) (.int .i64 (P4.base : Int)) (.int .i64 (P4.pages : Int)) (.int .i64 (P4.most : Int)) (.int .i64 (P4.epoch : Int)) (.int .i64 (P4.count : Int)) (.int .i64 L) (.slice A2 n2 c2) (.int .i64 (P4.hand : Int)))
     go_wp2_with fail
     clear r0 r1 r2 r3 r4 r5 r6 r7 r8 r9 r10 r11 r12 r13 rz0 rz1 rz2 rz3 rz4 rz5 rz6 rz7 rz8 rz9 rz10 rz11 rz12 rz13
     obtain ⟨s1, s1o⟩ := HSs1.out _ rfl
     clear HSs1
     generalize ((((((((((((((wd.setCell ⟨w.heap.size + 1, 0, none⟩ (.slice bA2 bn2 bc2)).setCell ⟨w.heap.size + 1, 1, none⟩ (.slice wA2 wn2 wc2)).setCell ⟨w.heap.size + 1, 2, none⟩ (.bool dn2)).setCell ⟨w.heap.size + 1, 3, none⟩ (.int .i64 po2)).setCell ⟨w.heap.size + 1, 4, none⟩ (.int .i64 fa2)).setCell ⟨w.heap.size + 1, 5, none⟩ (.int .i64 wi2)).setCell ⟨w.heap.size + 1, 6, none⟩ (.int .i64 (P4.base : Int))).setCell ⟨w.heap.size + 1, 7, none⟩ (.int .i64 (P4.pages : Int))).setCell ⟨w.heap.size + 1, 8, none⟩ (.int .i64 (P4.most : Int))).setCell ⟨w.heap.size + 1, 9, none⟩ (.int .i64 (P4.epoch : Int))).setCell ⟨w.heap.size + 1, 10, none⟩ (.int .i64 (P4.count : Int))).setCell ⟨w.heap.size + 1, 11, none⟩ (.int .i64 L)).setCell ⟨w.heap.size + 1, 12, none⟩ (.slice A2 n2 c2)).setCell ⟨w.heap.size + 1, 13, none⟩ (.int .i64 (P4.hand : Int))) = wf at *
     clear y0 y1 y2 y3 y4 y5 y6 y7 y8 y9 y10 y11 y12 y13
     have z0 := s1.c0
     have z1 := s1.c1
     have z2 := s1.c2
     have z3 := s1.c3
     have z4 := s1.c4
     have z5 := s1.c5
     have z6 := s1.c6
     have z7 := s1.c7
     have z8 := s1.c8
     have z9 := s1.c9
     have z10 := s1.c10
     have z11 := s1.c11
     have z12 := s1.c12
     have z13 := s1.c13
     refine bodyPost_ret (v := .tuple #[.agg #[.slice bA2 bn2 bc2, .slice wA2 wn2 wc2, .bool dn2, .int .i64 po2, .int .i64 fa2, .int .i64 wi2, .int .i64 (P4.base : Int), .int .i64 (P4.pages : Int), .int .i64 (P4.most : Int), .int .i64 (P4.epoch : Int), .int .i64 (P4.count : Int), .int .i64 L, .slice A2 n2 c2, .int .i64 (P4.hand : Int)], .int .i64 er4]) (by simp [results, Tryz.results34, go_sem, z0, z1, z2, z3, z4, z5, z6, z7, z8, z9, z10, z11, z12, z13]) rfl ?_
     rw [HR6.out]
     have hbf : Below w.heap.size w wf := HBd.out.trans (s1o.below (fun k e => by omega) HBd.out.size)
     have hS : ∀ k, k = w.heap.size + 1 → ¬ plusG G w2 wd k := fun k e hk => by
      rcases hk with hk | hk
      ·have := HGl.out k hk; omega
      ·omega
     have hpg : ∀ k, plusG G w2 wd k → plusG G w wf k := plusG.in (by omega) s1o.size
     exact ⟨_, rfl, ⟨bA2, bn2, bc2, wA2, wn2, wc2, dn2, po2, fa2, wi2, _, q2, rfl, ((HK2.out.mono HGM.out).off s1o hS).mono hpg, ((HF2.out.mono HGM.out).off s1o hS).mono hpg, HQ2.out⟩, hbf⟩
  ·have t1 : decide ((k : Int) < (nk : Int)) = false := decide_eq_false (by omega)
   have t1' : decide (k < nk) = false := decide_eq_false hlt
   have hke : ks.drop k = [] := List.drop_eq_nil_of_le (by rw [← HNK.out]; omega)
   have HFE5 : Hid (flushF (some L) ks D P = (D1, P1, 0)) := Lib.hid (by rw [HFE.out, hke]; rfl)
   obtain ⟨D5, hD5⟩ : ∃ D5, D5 = syncD D1 := ⟨_, rfl⟩
   obtain ⟨e5, he5⟩ : ∃ e5, e5 = opC D1 := ⟨_, rfl⟩
   have HR5 : Hid (RR = (D5, P1, e5)) := Lib.hid (by
    rw [HRR.out, HFE5.out, if_neg (fun h => h rfl), hD5, he5])
   have HSY : Hid (Calls Tryz.prog 68 #[.agg #[.slice bA1 bn1 bc1, .slice wA1 wn1 wc1, .bool dn1, .int .i64 po1, .int .i64 fa1, .int .i64 wi1]] wr fun e w' => ∃ bA3 bn3 bc3 wA3 wn3 wc3 dn3 po3 fa3 wi3, e = .returned (.tuple #[.agg #[.slice bA3 bn3 bc3, .slice wA3 wn3 wc3, .bool dn3, .int .i64 po3, .int .i64 fa3, .int .i64 wi3], .int .i64 e5]) ∧ RK (plusG (plusG G w2 wr) wr w') w' (.agg #[.slice bA3 bn3 bc3, .slice wA3 wn3 wc3, .bool dn3, .int .i64 po3, .int .i64 fa3, .int .i64 wi3]) D5 ∧ Below wr.heap.size wr w') := Lib.hid ((refSync03_any _ _ _ wr HK1.out (fun k hk => by
    rcases hk with hk | hk
    ·have := HGl.out k hk; have := HBr.out.1.size; omega
    ·exact hk.2) HFI.out.dn.p1 HFI.out.dn.p2 HFI.out.dn.f1 HFI.out.dn.f2 HFI.out.dn.bl (by have := HFI.out.pd; have := HPC.out.1; have := HKL.out; have := HNK.out; omega)).mono (by
    rintro e w' ⟨v', rfl, h1, h2⟩
    rw [← hD5] at h1
    rw [← he5]
    obtain ⟨a1, a2, a3, a4, a5, a6, a7, a8, a9, a10, rfl⟩ := h1.open6
    exact ⟨a1, a2, a3, a4, a5, a6, a7, a8, a9, a10, rfl, h1, h2⟩))
   clear hke hD5 he5 HFE
   have y0 := X1.out.c0
   have y1 := X1.out.c1
   have y2 := X1.out.c2
   have y3 := X1.out.c3
   have y4 := X1.out.c4
   have y5 := X1.out.c5
   go_upto_region 9 with fail
   go_upto_region 10 with fail
   refine HSY.out.mono ?_
   rintro e wc ⟨bA3, bn3, bc3, wA3, wn3, wc3, dn3, po3, fa3, wi3, rfl, hrk, hbc⟩
   have HRK := Lib.hid hrk
   have HBc := Lib.hid hbc
   have HBd : Hid (Below wc.heap.size wc (wc.alloc (.cells #[.slice bA3 bn3 bc3, .slice wA3 wn3 wc3, .bool dn3, .int .i64 po3, .int .i64 fa3, .int .i64 wi3] 33))) := Lib.hid (gr_alloc (gr_refl wc) _)
   have Z6 := Lib.hid (B6.new wc (.slice bA3 bn3 bc3) (.slice wA3 wn3 wc3) (.bool dn3) (.int .i64 po3) (.int .i64 fa3) (.int .i64 wi3))
   clear hrk hbc HSY y0 y1 y2 y3 y4 y5
   go_upto_region 10 with fail
   generalize wc.alloc (.cells #[.slice bA3 bn3 bc3, .slice wA3 wn3 wc3, .bool dn3, .int .i64 po3, .int .i64 fa3, .int .i64 wi3] 33) = wd at *
   have X1 := Lib.hid ((X1.out.below HBc.out).below HBd.out)
   have X2 := Lib.hid ((X2.out.below HBc.out).below HBd.out)
   have y0 := X1.out.c0
   have yz0 := X1.out.fz 0
   have u0 := Z6.out.c0
   have y1 := X1.out.c1
   have yz1 := X1.out.fz 1
   have u1 := Z6.out.c1
   have y2 := X1.out.c2
   have yz2 := X1.out.fz 2
   have u2 := Z6.out.c2
   have y3 := X1.out.c3
   have yz3 := X1.out.fz 3
   have u3 := Z6.out.c3
   have y4 := X1.out.c4
   have yz4 := X1.out.fz 4
   have u4 := Z6.out.c4
   have y5 := X1.out.c5
   have yz5 := X1.out.fz 5
   have u5 := Z6.out.c5
   have HS6 := Lib.hid (X1.out.disk (.slice bA3 bn3 bc3) (.slice wA3 wn3 wc3) (.bool dn3) (.int .i64 po3) (.int .i64 fa3) (.int .i64 wi3))
   go_upto_region 11 with fail
   clear y0 yz0 u0 y1 yz1 u1 y2 yz2 u2 y3 yz3 u3 y4 yz4 u4 y5 yz5 u5
   obtain ⟨x1, o13⟩ := HS6.out _ rfl
   clear HS6
   generalize ((((((wd.setCell ⟨w.heap.size, 0, none⟩ (.slice bA3 bn3 bc3)).setCell ⟨w.heap.size, 1, none⟩ (.slice wA3 wn3 wc3)).setCell ⟨w.heap.size, 2, none⟩ (.bool dn3)).setCell ⟨w.heap.size, 3, none⟩ (.int .i64 po3)).setCell ⟨w.heap.size, 4, none⟩ (.int .i64 fa3)).setCell ⟨w.heap.size, 5, none⟩ (.int .i64 wi3)) = we at *
   have X1 := Lib.hid x1
   have X2 := Lib.hid (X2.out.off o13 (by omega))
   have HOe := Lib.hid o13
   clear x1 o13
   have y0 := X1.out.c0
   have y1 := X1.out.c1
   have y2 := X1.out.c2
   have y3 := X1.out.c3
   have y4 := X1.out.c4
   have y5 := X1.out.c5
   have y6 := X1.out.c6
   have y7 := X1.out.c7
   have y8 := X1.out.c8
   have y9 := X1.out.c9
   have y10 := X1.out.c10
   have y11 := X1.out.c11
   have y12 := X1.out.c12
   have y13 := X1.out.c13
   have r0 := X2.out.c0
   have r1 := X2.out.c1
   have r2 := X2.out.c2
   have r3 := X2.out.c3
   have r4 := X2.out.c4
   have r5 := X2.out.c5
   have r6 := X2.out.c6
   have r7 := X2.out.c7
   have r8 := X2.out.c8
   have r9 := X2.out.c9
   have r10 := X2.out.c10
   have r11 := X2.out.c11
   have r12 := X2.out.c12
   have r13 := X2.out.c13
   have rz0 := X2.out.fz 0
   have rz1 := X2.out.fz 1
   have rz2 := X2.out.fz 2
   have rz3 := X2.out.fz 3
   have rz4 := X2.out.fz 4
   have rz5 := X2.out.fz 5
   have rz6 := X2.out.fz 6
   have rz7 := X2.out.fz 7
   have rz8 := X2.out.fz 8
   have rz9 := X2.out.fz 9
   have rz10 := X2.out.fz 10
   have rz11 := X2.out.fz 11
   have rz12 := X2.out.fz 12
   have rz13 := X2.out.fz 13
   have HSs1 := Lib.hid (X2.out.all (.slice bA3 bn3 bc3) (.slice wA3 wn3 wc3) (.bool dn3) (.int .i64 po3) (.int .i64 fa3) (.int .i64 wi3) (.int .i64 (P1.base : Int)) (.int .i64 (P1.pages : Int)) (.int .i64 (P1.most : Int)) (.int .i64 (P1.epoch : Int)) (.int .i64 (P1.count : Int)) (.int .i64 L) (.slice A1 n1 c1) (.int .i64 (P1.hand : Int)))
   go_wp2_with fail
   clear r0 r1 r2 r3 r4 r5 r6 r7 r8 r9 r10 r11 r12 r13 rz0 rz1 rz2 rz3 rz4 rz5 rz6 rz7 rz8 rz9 rz10 rz11 rz12 rz13
   obtain ⟨s1, s1o⟩ := HSs1.out _ rfl
   clear HSs1
   generalize ((((((((((((((we.setCell ⟨w.heap.size + 1, 0, none⟩ (.slice bA3 bn3 bc3)).setCell ⟨w.heap.size + 1, 1, none⟩ (.slice wA3 wn3 wc3)).setCell ⟨w.heap.size + 1, 2, none⟩ (.bool dn3)).setCell ⟨w.heap.size + 1, 3, none⟩ (.int .i64 po3)).setCell ⟨w.heap.size + 1, 4, none⟩ (.int .i64 fa3)).setCell ⟨w.heap.size + 1, 5, none⟩ (.int .i64 wi3)).setCell ⟨w.heap.size + 1, 6, none⟩ (.int .i64 (P1.base : Int))).setCell ⟨w.heap.size + 1, 7, none⟩ (.int .i64 (P1.pages : Int))).setCell ⟨w.heap.size + 1, 8, none⟩ (.int .i64 (P1.most : Int))).setCell ⟨w.heap.size + 1, 9, none⟩ (.int .i64 (P1.epoch : Int))).setCell ⟨w.heap.size + 1, 10, none⟩ (.int .i64 (P1.count : Int))).setCell ⟨w.heap.size + 1, 11, none⟩ (.int .i64 L)).setCell ⟨w.heap.size + 1, 12, none⟩ (.slice A1 n1 c1)).setCell ⟨w.heap.size + 1, 13, none⟩ (.int .i64 (P1.hand : Int))) = wf at *
   clear y0 y1 y2 y3 y4 y5 y6 y7 y8 y9 y10 y11 y12 y13
   have z0 := s1.c0
   have z1 := s1.c1
   have z2 := s1.c2
   have z3 := s1.c3
   have z4 := s1.c4
   have z5 := s1.c5
   have z6 := s1.c6
   have z7 := s1.c7
   have z8 := s1.c8
   have z9 := s1.c9
   have z10 := s1.c10
   have z11 := s1.c11
   have z12 := s1.c12
   have z13 := s1.c13
   refine bodyPost_ret (v := .tuple #[.agg #[.slice bA3 bn3 bc3, .slice wA3 wn3 wc3, .bool dn3, .int .i64 po3, .int .i64 fa3, .int .i64 wi3, .int .i64 (P1.base : Int), .int .i64 (P1.pages : Int), .int .i64 (P1.most : Int), .int .i64 (P1.epoch : Int), .int .i64 (P1.count : Int), .int .i64 L, .slice A1 n1 c1, .int .i64 (P1.hand : Int)], .int .i64 e5]) (by simp [results, Tryz.results34, go_sem, z0, z1, z2, z3, z4, z5, z6, z7, z8, z9, z10, z11, z12, z13]) rfl ?_
   rw [HR5.out]
   have hall : Off (fun k => k = w.heap.size ∨ k = w.heap.size + 1) wd wf := (HOe.out.mono (fun k _ e => .inl e)).trans (s1o.mono (fun k _ e => .inr e))
   have b1 := HBr.out.1.trans (HBc.out.mono HBr.out.1.size)
   have b2 : Below w.heap.size w wd := b1.trans (HBd.out.mono b1.size)
   have hbf : Below w.heap.size w wf := b2.trans (hall.below (fun k e => by rcases e with e | e <;> omega) b2.size)
   have h3 := HS2.out
   have h4 := HBr.out.2
   have hS : ∀ k, (k = w.heap.size ∨ k = w.heap.size + 1) → ¬ plusG (plusG G w2 wr) wr wc k := fun k e hk => by
    rcases hk with (hk | hk) | hk
    ·have := HGl.out k hk; omega
    ·omega
    ·omega
   have hS1 : ∀ k, (k = w.heap.size ∨ k = w.heap.size + 1) → ¬ plusG G w2 wr k := fun k e hk => hS k e (.inl hk)
   have hpg : ∀ k, plusG (plusG G w2 wr) wr wc k → plusG G w wf k := plusG.in2 (by omega) (Nat.le_trans HBc.out.size (Nat.le_trans HBd.out.size hall.size)) (by omega) (Nat.le_trans HBd.out.size hall.size)
   exact ⟨_, rfl, ⟨bA3, bn3, bc3, wA3, wn3, wc3, dn3, po3, fa3, wi3, _, q1, rfl, ((HRK.out.below HBd.out).off hall hS).mono hpg, (((HF1.out.below HBc.out).below HBd.out).off hall hS1).mono (fun k hk => hpg k (.inl hk)), HQ1.out⟩, hbf⟩
end Go.Proofs.YtmdgnjmhbjdlmaaGreat

/-! PrK -/
namespace Go.Proofs.YtmdgnjmhbjdlmaaGreat
open Go Go.RowKit
set_option maxRecDepth 100000 in
set_option maxHeartbeats 32000000 in
theorem rNew_bad (w : World) {bA wA : Option Addr} {bn bc wn wc : Nat} {dn : Bool} {po fa wi : Int} (base pages frames epoch count : Int) (hbn : bn ≤ 4096) (hm : mayP bn base pages frames epoch count = false) :
  Calls Tryz.prog 9 #[.agg #[.slice bA bn bc, .slice wA wn wc, .bool dn, .int .i64 po, .int .i64 fa, .int .i64 wi], .int .i64 base, .int .i64 pages, .int .i64 frames, .int .i64 epoch, .int .i64 count] w fun e w' => e = .returned (.tuple #[.agg #[.slice none 0 0, .slice none 0 0, .bool false, .int .i64 0, .int .i64 0, .int .i64 0, .int .i64 0, .int .i64 0, .int .i64 0, .int .i64 0, .int .i64 0, .int .i64 0, .slice none 0 0, .int .i64 0], .int .i64 2]) ∧ Below w.heap.size w w' := by
 have hc : base < 0 ∨ (0 ≤ base ∧ (pages < 1 ∨ (1 ≤ pages ∧ (pages > (bn : Int) ∨ (pages ≤ (bn : Int) ∧ (base > (bn : Int) - pages ∨ (base ≤ (bn : Int) - pages ∧ (frames < 2 ∨ (2 ≤ frames ∧ (frames > 256 ∨ (frames ≤ 256 ∧ (epoch < 1 ∨ (1 ≤ epoch ∧ (epoch > 4294967295 ∨ (epoch ≤ 4294967295 ∧ (count < 0 ∨ (0 ≤ count ∧ (count > 4294967295)))))))))))))))))) := by
  have hm' : ¬ (mayP bn base pages frames epoch count = true) := by rw [hm]; decide
  unfold mayP at hm'
  simp only [Bool.and_eq_true, decide_eq_true_eq] at hm'
  omega
 clear hm
 go_enter Tryz.func9, Tryz.ntmps9
 go_upto_region 1 with fail
 have x1 := B6.new w (.slice bA bn bc) (.slice wA wn wc) (.bool dn) (.int .i64 po) (.int .i64 fa) (.int .i64 wi)
 have hb1 := gr_alloc (gr_refl w) (.cells #[.slice bA bn bc, .slice wA wn wc, .bool dn, .int .i64 po, .int .i64 fa, .int .i64 wi] 33)
 have hs1 : (w.alloc (.cells #[.slice bA bn bc, .slice wA wn wc, .bool dn, .int .i64 po, .int .i64 fa, .int .i64 wi] 33)).heap.size = w.heap.size + 1 := World.size_alloc _ _
 generalize w.alloc (.cells #[.slice bA bn bc, .slice wA wn wc, .bool dn, .int .i64 po, .int .i64 fa, .int .i64 wi] 33) = wa at *
 have x2 := B14.new wa (.slice none 0 0) (.slice none 0 0) (.bool false) (.int .i64 0) (.int .i64 0) (.int .i64 0) (.int .i64 0) (.int .i64 0) (.int .i64 0) (.int .i64 0) (.int .i64 0) (.int .i64 0) (.slice none 0 0) (.int .i64 0)
 have hb2 := gr_alloc (gr_refl wa) (.cells #[.slice none 0 0, .slice none 0 0, .bool false, .int .i64 0, .int .i64 0, .int .i64 0, .int .i64 0, .int .i64 0, .int .i64 0, .int .i64 0, .int .i64 0, .int .i64 0, .slice none 0 0, .int .i64 0] 42)
 rw [hs1] at x2
 have X1 := Lib.hid (x1.below hb2)
 have X2 := Lib.hid x2
 have HB : Hid (Below w.heap.size w _) := Lib.hid (gr_trans hb1 hb2)
 clear x1 x2 hb1 hb2
 try rw [hs1]
 generalize wa.alloc (.cells #[.slice none 0 0, .slice none 0 0, .bool false, .int .i64 0, .int .i64 0, .int .i64 0, .int .i64 0, .int .i64 0, .int .i64 0, .int .i64 0, .int .i64 0, .int .i64 0, .slice none 0 0, .int .i64 0] 42) = w1 at *
 have y0 := X1.out.c0
 have y1 := X1.out.c1
 have y2 := X1.out.c2
 have y3 := X1.out.c3
 have y4 := X1.out.c4
 have y5 := X1.out.c5
 clear hs1
 rcases hc with hc | ⟨hn0, hc⟩
 ·have t0 : decide (base < 0) = true := decide_eq_true (by omega)
  clear hc
  go_upto_region 3 with fail
  have r0 := X2.out.c0
  have r1 := X2.out.c1
  have r2 := X2.out.c2
  have r3 := X2.out.c3
  have r4 := X2.out.c4
  have r5 := X2.out.c5
  have r6 := X2.out.c6
  have r7 := X2.out.c7
  have r8 := X2.out.c8
  have r9 := X2.out.c9
  have r10 := X2.out.c10
  have r11 := X2.out.c11
  have r12 := X2.out.c12
  have r13 := X2.out.c13
  have rz0 := X2.out.fz 0
  have rz1 := X2.out.fz 1
  have rz2 := X2.out.fz 2
  have rz3 := X2.out.fz 3
  have rz4 := X2.out.fz 4
  have rz5 := X2.out.fz 5
  have rz6 := X2.out.fz 6
  have rz7 := X2.out.fz 7
  have rz8 := X2.out.fz 8
  have rz9 := X2.out.fz 9
  have rz10 := X2.out.fz 10
  have rz11 := X2.out.fz 11
  have rz12 := X2.out.fz 12
  have rz13 := X2.out.fz 13
  have HSs1 := Lib.hid (X2.out.all (.slice none 0 0) (.slice none 0 0) (.bool false) (.int .i64 0) (.int .i64 0) (.int .i64 0) (.int .i64 0) (.int .i64 0) (.int .i64 0) (.int .i64 0) (.int .i64 0) (.int .i64 0) (.slice none 0 0) (.int .i64 0))
  go_wp2_with fail
  clear r0 r1 r2 r3 r4 r5 r6 r7 r8 r9 r10 r11 r12 r13 rz0 rz1 rz2 rz3 rz4 rz5 rz6 rz7 rz8 rz9 rz10 rz11 rz12 rz13
  obtain ⟨s1, s1o⟩ := HSs1.out _ rfl
  clear HSs1
  generalize ((((((((((((((w1.setCell ⟨w.heap.size + 1, 0, none⟩ (.slice none 0 0)).setCell ⟨w.heap.size + 1, 1, none⟩ (.slice none 0 0)).setCell ⟨w.heap.size + 1, 2, none⟩ (.bool false)).setCell ⟨w.heap.size + 1, 3, none⟩ (.int .i64 0)).setCell ⟨w.heap.size + 1, 4, none⟩ (.int .i64 0)).setCell ⟨w.heap.size + 1, 5, none⟩ (.int .i64 0)).setCell ⟨w.heap.size + 1, 6, none⟩ (.int .i64 0)).setCell ⟨w.heap.size + 1, 7, none⟩ (.int .i64 0)).setCell ⟨w.heap.size + 1, 8, none⟩ (.int .i64 0)).setCell ⟨w.heap.size + 1, 9, none⟩ (.int .i64 0)).setCell ⟨w.heap.size + 1, 10, none⟩ (.int .i64 0)).setCell ⟨w.heap.size + 1, 11, none⟩ (.int .i64 0)).setCell ⟨w.heap.size + 1, 12, none⟩ (.slice none 0 0)).setCell ⟨w.heap.size + 1, 13, none⟩ (.int .i64 0)) = wf at *
  have z0 := s1.c0
  have z1 := s1.c1
  have z2 := s1.c2
  have z3 := s1.c3
  have z4 := s1.c4
  have z5 := s1.c5
  have z6 := s1.c6
  have z7 := s1.c7
  have z8 := s1.c8
  have z9 := s1.c9
  have z10 := s1.c10
  have z11 := s1.c11
  have z12 := s1.c12
  have z13 := s1.c13
  refine bodyPost_ret (v := .tuple #[.agg #[.slice none 0 0, .slice none 0 0, .bool false, .int .i64 0, .int .i64 0, .int .i64 0, .int .i64 0, .int .i64 0, .int .i64 0, .int .i64 0, .int .i64 0, .int .i64 0, .slice none 0 0, .int .i64 0], .int .i64 2]) (by simp [results, Tryz.results9, go_sem, z0, z1, z2, z3, z4, z5, z6, z7, z8, z9, z10, z11, z12, z13]) rfl ?_
  have hbf : Below w.heap.size w wf := HB.out.trans (s1o.below (fun k e => by omega) HB.out.size)
  exact ⟨rfl, hbf⟩
 ·have t0 : decide (base < 0) = false := decide_eq_false (by omega)
  rcases hc with hc | ⟨hn1, hc⟩
  ·have t1 : decide (pages < 1) = true := decide_eq_true (by omega)
   clear hc
   go_upto_region 3 with fail
   have r0 := X2.out.c0
   have r1 := X2.out.c1
   have r2 := X2.out.c2
   have r3 := X2.out.c3
   have r4 := X2.out.c4
   have r5 := X2.out.c5
   have r6 := X2.out.c6
   have r7 := X2.out.c7
   have r8 := X2.out.c8
   have r9 := X2.out.c9
   have r10 := X2.out.c10
   have r11 := X2.out.c11
   have r12 := X2.out.c12
   have r13 := X2.out.c13
   have rz0 := X2.out.fz 0
   have rz1 := X2.out.fz 1
   have rz2 := X2.out.fz 2
   have rz3 := X2.out.fz 3
   have rz4 := X2.out.fz 4
   have rz5 := X2.out.fz 5
   have rz6 := X2.out.fz 6
   have rz7 := X2.out.fz 7
   have rz8 := X2.out.fz 8
   have rz9 := X2.out.fz 9
   have rz10 := X2.out.fz 10
   have rz11 := X2.out.fz 11
   have rz12 := X2.out.fz 12
   have rz13 := X2.out.fz 13
   have HSs1 := Lib.hid (X2.out.all (.slice none 0 0) (.slice none 0 0) (.bool false) (.int .i64 0) (.int .i64 0) (.int .i64 0) (.int .i64 0) (.int .i64 0) (.int .i64 0) (.int .i64 0) (.int .i64 0) (.int .i64 0) (.slice none 0 0) (.int .i64 0))
   go_wp2_with fail
   clear r0 r1 r2 r3 r4 r5 r6 r7 r8 r9 r10 r11 r12 r13 rz0 rz1 rz2 rz3 rz4 rz5 rz6 rz7 rz8 rz9 rz10 rz11 rz12 rz13
   obtain ⟨s1, s1o⟩ := HSs1.out _ rfl
   clear HSs1
   generalize ((((((((((((((w1.setCell ⟨w.heap.size + 1, 0, none⟩ (.slice none 0 0)).setCell ⟨w.heap.size + 1, 1, none⟩ (.slice none 0 0)).setCell ⟨w.heap.size + 1, 2, none⟩ (.bool false)).setCell ⟨w.heap.size + 1, 3, none⟩ (.int .i64 0)).setCell ⟨w.heap.size + 1, 4, none⟩ (.int .i64 0)).setCell ⟨w.heap.size + 1, 5, none⟩ (.int .i64 0)).setCell ⟨w.heap.size + 1, 6, none⟩ (.int .i64 0)).setCell ⟨w.heap.size + 1, 7, none⟩ (.int .i64 0)).setCell ⟨w.heap.size + 1, 8, none⟩ (.int .i64 0)).setCell ⟨w.heap.size + 1, 9, none⟩ (.int .i64 0)).setCell ⟨w.heap.size + 1, 10, none⟩ (.int .i64 0)).setCell ⟨w.heap.size + 1, 11, none⟩ (.int .i64 0)).setCell ⟨w.heap.size + 1, 12, none⟩ (.slice none 0 0)).setCell ⟨w.heap.size + 1, 13, none⟩ (.int .i64 0)) = wf at *
   have z0 := s1.c0
   have z1 := s1.c1
   have z2 := s1.c2
   have z3 := s1.c3
   have z4 := s1.c4
   have z5 := s1.c5
   have z6 := s1.c6
   have z7 := s1.c7
   have z8 := s1.c8
   have z9 := s1.c9
   have z10 := s1.c10
   have z11 := s1.c11
   have z12 := s1.c12
   have z13 := s1.c13
   refine bodyPost_ret (v := .tuple #[.agg #[.slice none 0 0, .slice none 0 0, .bool false, .int .i64 0, .int .i64 0, .int .i64 0, .int .i64 0, .int .i64 0, .int .i64 0, .int .i64 0, .int .i64 0, .int .i64 0, .slice none 0 0, .int .i64 0], .int .i64 2]) (by simp [results, Tryz.results9, go_sem, z0, z1, z2, z3, z4, z5, z6, z7, z8, z9, z10, z11, z12, z13]) rfl ?_
   have hbf : Below w.heap.size w wf := HB.out.trans (s1o.below (fun k e => by omega) HB.out.size)
   exact ⟨rfl, hbf⟩
  ·have t1 : decide (pages < 1) = false := decide_eq_false (by omega)
   rcases hc with hc | ⟨hn2, hc⟩
   ·have t2 : decide (pages > (bn : Int)) = true := decide_eq_true (by omega)
    have s2 : decide ((bn : Int) < pages) = true := decide_eq_true (by omega)
    clear hc
    go_upto_region 3 with fail
    have r0 := X2.out.c0
    have r1 := X2.out.c1
    have r2 := X2.out.c2
    have r3 := X2.out.c3
    have r4 := X2.out.c4
    have r5 := X2.out.c5
    have r6 := X2.out.c6
    have r7 := X2.out.c7
    have r8 := X2.out.c8
    have r9 := X2.out.c9
    have r10 := X2.out.c10
    have r11 := X2.out.c11
    have r12 := X2.out.c12
    have r13 := X2.out.c13
    have rz0 := X2.out.fz 0
    have rz1 := X2.out.fz 1
    have rz2 := X2.out.fz 2
    have rz3 := X2.out.fz 3
    have rz4 := X2.out.fz 4
    have rz5 := X2.out.fz 5
    have rz6 := X2.out.fz 6
    have rz7 := X2.out.fz 7
    have rz8 := X2.out.fz 8
    have rz9 := X2.out.fz 9
    have rz10 := X2.out.fz 10
    have rz11 := X2.out.fz 11
    have rz12 := X2.out.fz 12
    have rz13 := X2.out.fz 13
    have HSs1 := Lib.hid (X2.out.all (.slice none 0 0) (.slice none 0 0) (.bool false) (.int .i64 0) (.int .i64 0) (.int .i64 0) (.int .i64 0) (.int .i64 0) (.int .i64 0) (.int .i64 0) (.int .i64 0) (.int .i64 0) (.slice none 0 0) (.int .i64 0))
    go_wp2_with fail
    clear r0 r1 r2 r3 r4 r5 r6 r7 r8 r9 r10 r11 r12 r13 rz0 rz1 rz2 rz3 rz4 rz5 rz6 rz7 rz8 rz9 rz10 rz11 rz12 rz13
    obtain ⟨s1, s1o⟩ := HSs1.out _ rfl
    clear HSs1
    generalize ((((((((((((((w1.setCell ⟨w.heap.size + 1, 0, none⟩ (.slice none 0 0)).setCell ⟨w.heap.size + 1, 1, none⟩ (.slice none 0 0)).setCell ⟨w.heap.size + 1, 2, none⟩ (.bool false)).setCell ⟨w.heap.size + 1, 3, none⟩ (.int .i64 0)).setCell ⟨w.heap.size + 1, 4, none⟩ (.int .i64 0)).setCell ⟨w.heap.size + 1, 5, none⟩ (.int .i64 0)).setCell ⟨w.heap.size + 1, 6, none⟩ (.int .i64 0)).setCell ⟨w.heap.size + 1, 7, none⟩ (.int .i64 0)).setCell ⟨w.heap.size + 1, 8, none⟩ (.int .i64 0)).setCell ⟨w.heap.size + 1, 9, none⟩ (.int .i64 0)).setCell ⟨w.heap.size + 1, 10, none⟩ (.int .i64 0)).setCell ⟨w.heap.size + 1, 11, none⟩ (.int .i64 0)).setCell ⟨w.heap.size + 1, 12, none⟩ (.slice none 0 0)).setCell ⟨w.heap.size + 1, 13, none⟩ (.int .i64 0)) = wf at *
    have z0 := s1.c0
    have z1 := s1.c1
    have z2 := s1.c2
    have z3 := s1.c3
    have z4 := s1.c4
    have z5 := s1.c5
    have z6 := s1.c6
    have z7 := s1.c7
    have z8 := s1.c8
    have z9 := s1.c9
    have z10 := s1.c10
    have z11 := s1.c11
    have z12 := s1.c12
    have z13 := s1.c13
    refine bodyPost_ret (v := .tuple #[.agg #[.slice none 0 0, .slice none 0 0, .bool false, .int .i64 0, .int .i64 0, .int .i64 0, .int .i64 0, .int .i64 0, .int .i64 0, .int .i64 0, .int .i64 0, .int .i64 0, .slice none 0 0, .int .i64 0], .int .i64 2]) (by simp [results, Tryz.results9, go_sem, z0, z1, z2, z3, z4, z5, z6, z7, z8, z9, z10, z11, z12, z13]) rfl ?_
    have hbf : Below w.heap.size w wf := HB.out.trans (s1o.below (fun k e => by omega) HB.out.size)
    exact ⟨rfl, hbf⟩
   ·have t2 : decide (pages > (bn : Int)) = false := decide_eq_false (by omega)
    have s2 : decide ((bn : Int) < pages) = false := decide_eq_false (by omega)
    rcases hc with hc | ⟨hn3, hc⟩
    ·have jw : IntKind.i64.wrap ((bn : Int) - pages) = (bn : Int) - pages := by rw [IntKind.wrap_i64]; omega
     have t3 : decide (base > (bn : Int) - pages) = true := decide_eq_true (by omega)
     have s3 : decide ((bn : Int) - pages < base) = true := decide_eq_true (by omega)
     clear hc
     go_upto_region 3 with fail
     have r0 := X2.out.c0
     have r1 := X2.out.c1
     have r2 := X2.out.c2
     have r3 := X2.out.c3
     have r4 := X2.out.c4
     have r5 := X2.out.c5
     have r6 := X2.out.c6
     have r7 := X2.out.c7
     have r8 := X2.out.c8
     have r9 := X2.out.c9
     have r10 := X2.out.c10
     have r11 := X2.out.c11
     have r12 := X2.out.c12
     have r13 := X2.out.c13
     have rz0 := X2.out.fz 0
     have rz1 := X2.out.fz 1
     have rz2 := X2.out.fz 2
     have rz3 := X2.out.fz 3
     have rz4 := X2.out.fz 4
     have rz5 := X2.out.fz 5
     have rz6 := X2.out.fz 6
     have rz7 := X2.out.fz 7
     have rz8 := X2.out.fz 8
     have rz9 := X2.out.fz 9
     have rz10 := X2.out.fz 10
     have rz11 := X2.out.fz 11
     have rz12 := X2.out.fz 12
     have rz13 := X2.out.fz 13
     have HSs1 := Lib.hid (X2.out.all (.slice none 0 0) (.slice none 0 0) (.bool false) (.int .i64 0) (.int .i64 0) (.int .i64 0) (.int .i64 0) (.int .i64 0) (.int .i64 0) (.int .i64 0) (.int .i64 0) (.int .i64 0) (.slice none 0 0) (.int .i64 0))
     go_wp2_with fail
     clear r0 r1 r2 r3 r4 r5 r6 r7 r8 r9 r10 r11 r12 r13 rz0 rz1 rz2 rz3 rz4 rz5 rz6 rz7 rz8 rz9 rz10 rz11 rz12 rz13
     obtain ⟨s1, s1o⟩ := HSs1.out _ rfl
     clear HSs1
     generalize ((((((((((((((w1.setCell ⟨w.heap.size + 1, 0, none⟩ (.slice none 0 0)).setCell ⟨w.heap.size + 1, 1, none⟩ (.slice none 0 0)).setCell ⟨w.heap.size + 1, 2, none⟩ (.bool false)).setCell ⟨w.heap.size + 1, 3, none⟩ (.int .i64 0)).setCell ⟨w.heap.size + 1, 4, none⟩ (.int .i64 0)).setCell ⟨w.heap.size + 1, 5, none⟩ (.int .i64 0)).setCell ⟨w.heap.size + 1, 6, none⟩ (.int .i64 0)).setCell ⟨w.heap.size + 1, 7, none⟩ (.int .i64 0)).setCell ⟨w.heap.size + 1, 8, none⟩ (.int .i64 0)).setCell ⟨w.heap.size + 1, 9, none⟩ (.int .i64 0)).setCell ⟨w.heap.size + 1, 10, none⟩ (.int .i64 0)).setCell ⟨w.heap.size + 1, 11, none⟩ (.int .i64 0)).setCell ⟨w.heap.size + 1, 12, none⟩ (.slice none 0 0)).setCell ⟨w.heap.size + 1, 13, none⟩ (.int .i64 0)) = wf at *
     have z0 := s1.c0
     have z1 := s1.c1
     have z2 := s1.c2
     have z3 := s1.c3
     have z4 := s1.c4
     have z5 := s1.c5
     have z6 := s1.c6
     have z7 := s1.c7
     have z8 := s1.c8
     have z9 := s1.c9
     have z10 := s1.c10
     have z11 := s1.c11
     have z12 := s1.c12
     have z13 := s1.c13
     refine bodyPost_ret (v := .tuple #[.agg #[.slice none 0 0, .slice none 0 0, .bool false, .int .i64 0, .int .i64 0, .int .i64 0, .int .i64 0, .int .i64 0, .int .i64 0, .int .i64 0, .int .i64 0, .int .i64 0, .slice none 0 0, .int .i64 0], .int .i64 2]) (by simp [results, Tryz.results9, go_sem, z0, z1, z2, z3, z4, z5, z6, z7, z8, z9, z10, z11, z12, z13]) rfl ?_
     have hbf : Below w.heap.size w wf := HB.out.trans (s1o.below (fun k e => by omega) HB.out.size)
     exact ⟨rfl, hbf⟩
    ·have jw : IntKind.i64.wrap ((bn : Int) - pages) = (bn : Int) - pages := by rw [IntKind.wrap_i64]; omega
     have t3 : decide (base > (bn : Int) - pages) = false := decide_eq_false (by omega)
     have s3 : decide ((bn : Int) - pages < base) = false := decide_eq_false (by omega)
     rcases hc with hc | ⟨hn4, hc⟩
     ·have t4 : decide (frames < 2) = true := decide_eq_true (by omega)
      clear hc
      go_upto_region 3 with fail
      have r0 := X2.out.c0
      have r1 := X2.out.c1
      have r2 := X2.out.c2
      have r3 := X2.out.c3
      have r4 := X2.out.c4
      have r5 := X2.out.c5
      have r6 := X2.out.c6
      have r7 := X2.out.c7
      have r8 := X2.out.c8
      have r9 := X2.out.c9
      have r10 := X2.out.c10
      have r11 := X2.out.c11
      have r12 := X2.out.c12
      have r13 := X2.out.c13
      have rz0 := X2.out.fz 0
      have rz1 := X2.out.fz 1
      have rz2 := X2.out.fz 2
      have rz3 := X2.out.fz 3
      have rz4 := X2.out.fz 4
      have rz5 := X2.out.fz 5
      have rz6 := X2.out.fz 6
      have rz7 := X2.out.fz 7
      have rz8 := X2.out.fz 8
      have rz9 := X2.out.fz 9
      have rz10 := X2.out.fz 10
      have rz11 := X2.out.fz 11
      have rz12 := X2.out.fz 12
      have rz13 := X2.out.fz 13
      have HSs1 := Lib.hid (X2.out.all (.slice none 0 0) (.slice none 0 0) (.bool false) (.int .i64 0) (.int .i64 0) (.int .i64 0) (.int .i64 0) (.int .i64 0) (.int .i64 0) (.int .i64 0) (.int .i64 0) (.int .i64 0) (.slice none 0 0) (.int .i64 0))
      go_wp2_with fail
      clear r0 r1 r2 r3 r4 r5 r6 r7 r8 r9 r10 r11 r12 r13 rz0 rz1 rz2 rz3 rz4 rz5 rz6 rz7 rz8 rz9 rz10 rz11 rz12 rz13
      obtain ⟨s1, s1o⟩ := HSs1.out _ rfl
      clear HSs1
      generalize ((((((((((((((w1.setCell ⟨w.heap.size + 1, 0, none⟩ (.slice none 0 0)).setCell ⟨w.heap.size + 1, 1, none⟩ (.slice none 0 0)).setCell ⟨w.heap.size + 1, 2, none⟩ (.bool false)).setCell ⟨w.heap.size + 1, 3, none⟩ (.int .i64 0)).setCell ⟨w.heap.size + 1, 4, none⟩ (.int .i64 0)).setCell ⟨w.heap.size + 1, 5, none⟩ (.int .i64 0)).setCell ⟨w.heap.size + 1, 6, none⟩ (.int .i64 0)).setCell ⟨w.heap.size + 1, 7, none⟩ (.int .i64 0)).setCell ⟨w.heap.size + 1, 8, none⟩ (.int .i64 0)).setCell ⟨w.heap.size + 1, 9, none⟩ (.int .i64 0)).setCell ⟨w.heap.size + 1, 10, none⟩ (.int .i64 0)).setCell ⟨w.heap.size + 1, 11, none⟩ (.int .i64 0)).setCell ⟨w.heap.size + 1, 12, none⟩ (.slice none 0 0)).setCell ⟨w.heap.size + 1, 13, none⟩ (.int .i64 0)) = wf at *
      have z0 := s1.c0
      have z1 := s1.c1
      have z2 := s1.c2
      have z3 := s1.c3
      have z4 := s1.c4
      have z5 := s1.c5
      have z6 := s1.c6
      have z7 := s1.c7
      have z8 := s1.c8
      have z9 := s1.c9
      have z10 := s1.c10
      have z11 := s1.c11
      have z12 := s1.c12
      have z13 := s1.c13
      refine bodyPost_ret (v := .tuple #[.agg #[.slice none 0 0, .slice none 0 0, .bool false, .int .i64 0, .int .i64 0, .int .i64 0, .int .i64 0, .int .i64 0, .int .i64 0, .int .i64 0, .int .i64 0, .int .i64 0, .slice none 0 0, .int .i64 0], .int .i64 2]) (by simp [results, Tryz.results9, go_sem, z0, z1, z2, z3, z4, z5, z6, z7, z8, z9, z10, z11, z12, z13]) rfl ?_
      have hbf : Below w.heap.size w wf := HB.out.trans (s1o.below (fun k e => by omega) HB.out.size)
      exact ⟨rfl, hbf⟩
     ·have t4 : decide (frames < 2) = false := decide_eq_false (by omega)
      rcases hc with hc | ⟨hn5, hc⟩
      ·have t5 : decide (frames > 256) = true := decide_eq_true (by omega)
       have s5 : decide (256 < frames) = true := decide_eq_true (by omega)
       clear hc
       go_upto_region 3 with fail
       have r0 := X2.out.c0
       have r1 := X2.out.c1
       have r2 := X2.out.c2
       have r3 := X2.out.c3
       have r4 := X2.out.c4
       have r5 := X2.out.c5
       have r6 := X2.out.c6
       have r7 := X2.out.c7
       have r8 := X2.out.c8
       have r9 := X2.out.c9
       have r10 := X2.out.c10
       have r11 := X2.out.c11
       have r12 := X2.out.c12
       have r13 := X2.out.c13
       have rz0 := X2.out.fz 0
       have rz1 := X2.out.fz 1
       have rz2 := X2.out.fz 2
       have rz3 := X2.out.fz 3
       have rz4 := X2.out.fz 4
       have rz5 := X2.out.fz 5
       have rz6 := X2.out.fz 6
       have rz7 := X2.out.fz 7
       have rz8 := X2.out.fz 8
       have rz9 := X2.out.fz 9
       have rz10 := X2.out.fz 10
       have rz11 := X2.out.fz 11
       have rz12 := X2.out.fz 12
       have rz13 := X2.out.fz 13
       have HSs1 := Lib.hid (X2.out.all (.slice none 0 0) (.slice none 0 0) (.bool false) (.int .i64 0) (.int .i64 0) (.int .i64 0) (.int .i64 0) (.int .i64 0) (.int .i64 0) (.int .i64 0) (.int .i64 0) (.int .i64 0) (.slice none 0 0) (.int .i64 0))
       go_wp2_with fail
       clear r0 r1 r2 r3 r4 r5 r6 r7 r8 r9 r10 r11 r12 r13 rz0 rz1 rz2 rz3 rz4 rz5 rz6 rz7 rz8 rz9 rz10 rz11 rz12 rz13
       obtain ⟨s1, s1o⟩ := HSs1.out _ rfl
       clear HSs1
       generalize ((((((((((((((w1.setCell ⟨w.heap.size + 1, 0, none⟩ (.slice none 0 0)).setCell ⟨w.heap.size + 1, 1, none⟩ (.slice none 0 0)).setCell ⟨w.heap.size + 1, 2, none⟩ (.bool false)).setCell ⟨w.heap.size + 1, 3, none⟩ (.int .i64 0)).setCell ⟨w.heap.size + 1, 4, none⟩ (.int .i64 0)).setCell ⟨w.heap.size + 1, 5, none⟩ (.int .i64 0)).setCell ⟨w.heap.size + 1, 6, none⟩ (.int .i64 0)).setCell ⟨w.heap.size + 1, 7, none⟩ (.int .i64 0)).setCell ⟨w.heap.size + 1, 8, none⟩ (.int .i64 0)).setCell ⟨w.heap.size + 1, 9, none⟩ (.int .i64 0)).setCell ⟨w.heap.size + 1, 10, none⟩ (.int .i64 0)).setCell ⟨w.heap.size + 1, 11, none⟩ (.int .i64 0)).setCell ⟨w.heap.size + 1, 12, none⟩ (.slice none 0 0)).setCell ⟨w.heap.size + 1, 13, none⟩ (.int .i64 0)) = wf at *
       have z0 := s1.c0
       have z1 := s1.c1
       have z2 := s1.c2
       have z3 := s1.c3
       have z4 := s1.c4
       have z5 := s1.c5
       have z6 := s1.c6
       have z7 := s1.c7
       have z8 := s1.c8
       have z9 := s1.c9
       have z10 := s1.c10
       have z11 := s1.c11
       have z12 := s1.c12
       have z13 := s1.c13
       refine bodyPost_ret (v := .tuple #[.agg #[.slice none 0 0, .slice none 0 0, .bool false, .int .i64 0, .int .i64 0, .int .i64 0, .int .i64 0, .int .i64 0, .int .i64 0, .int .i64 0, .int .i64 0, .int .i64 0, .slice none 0 0, .int .i64 0], .int .i64 2]) (by simp [results, Tryz.results9, go_sem, z0, z1, z2, z3, z4, z5, z6, z7, z8, z9, z10, z11, z12, z13]) rfl ?_
       have hbf : Below w.heap.size w wf := HB.out.trans (s1o.below (fun k e => by omega) HB.out.size)
       exact ⟨rfl, hbf⟩
      ·have t5 : decide (frames > 256) = false := decide_eq_false (by omega)
       have s5 : decide (256 < frames) = false := decide_eq_false (by omega)
       rcases hc with hc | ⟨hn6, hc⟩
       ·have t6 : decide (epoch < 1) = true := decide_eq_true (by omega)
        clear hc
        go_upto_region 3 with fail
        have r0 := X2.out.c0
        have r1 := X2.out.c1
        have r2 := X2.out.c2
        have r3 := X2.out.c3
        have r4 := X2.out.c4
        have r5 := X2.out.c5
        have r6 := X2.out.c6
        have r7 := X2.out.c7
        have r8 := X2.out.c8
        have r9 := X2.out.c9
        have r10 := X2.out.c10
        have r11 := X2.out.c11
        have r12 := X2.out.c12
        have r13 := X2.out.c13
        have rz0 := X2.out.fz 0
        have rz1 := X2.out.fz 1
        have rz2 := X2.out.fz 2
        have rz3 := X2.out.fz 3
        have rz4 := X2.out.fz 4
        have rz5 := X2.out.fz 5
        have rz6 := X2.out.fz 6
        have rz7 := X2.out.fz 7
        have rz8 := X2.out.fz 8
        have rz9 := X2.out.fz 9
        have rz10 := X2.out.fz 10
        have rz11 := X2.out.fz 11
        have rz12 := X2.out.fz 12
        have rz13 := X2.out.fz 13
        have HSs1 := Lib.hid (X2.out.all (.slice none 0 0) (.slice none 0 0) (.bool false) (.int .i64 0) (.int .i64 0) (.int .i64 0) (.int .i64 0) (.int .i64 0) (.int .i64 0) (.int .i64 0) (.int .i64 0) (.int .i64 0) (.slice none 0 0) (.int .i64 0))
        go_wp2_with fail
        clear r0 r1 r2 r3 r4 r5 r6 r7 r8 r9 r10 r11 r12 r13 rz0 rz1 rz2 rz3 rz4 rz5 rz6 rz7 rz8 rz9 rz10 rz11 rz12 rz13
        obtain ⟨s1, s1o⟩ := HSs1.out _ rfl
        clear HSs1
        generalize ((((((((((((((w1.setCell ⟨w.heap.size + 1, 0, none⟩ (.slice none 0 0)).setCell ⟨w.heap.size + 1, 1, none⟩ (.slice none 0 0)).setCell ⟨w.heap.size + 1, 2, none⟩ (.bool false)).setCell ⟨w.heap.size + 1, 3, none⟩ (.int .i64 0)).setCell ⟨w.heap.size + 1, 4, none⟩ (.int .i64 0)).setCell ⟨w.heap.size + 1, 5, none⟩ (.int .i64 0)).setCell ⟨w.heap.size + 1, 6, none⟩ (.int .i64 0)).setCell ⟨w.heap.size + 1, 7, none⟩ (.int .i64 0)).setCell ⟨w.heap.size + 1, 8, none⟩ (.int .i64 0)).setCell ⟨w.heap.size + 1, 9, none⟩ (.int .i64 0)).setCell ⟨w.heap.size + 1, 10, none⟩ (.int .i64 0)).setCell ⟨w.heap.size + 1, 11, none⟩ (.int .i64 0)).setCell ⟨w.heap.size + 1, 12, none⟩ (.slice none 0 0)).setCell ⟨w.heap.size + 1, 13, none⟩ (.int .i64 0)) = wf at *
        have z0 := s1.c0
        have z1 := s1.c1
        have z2 := s1.c2
        have z3 := s1.c3
        have z4 := s1.c4
        have z5 := s1.c5
        have z6 := s1.c6
        have z7 := s1.c7
        have z8 := s1.c8
        have z9 := s1.c9
        have z10 := s1.c10
        have z11 := s1.c11
        have z12 := s1.c12
        have z13 := s1.c13
        refine bodyPost_ret (v := .tuple #[.agg #[.slice none 0 0, .slice none 0 0, .bool false, .int .i64 0, .int .i64 0, .int .i64 0, .int .i64 0, .int .i64 0, .int .i64 0, .int .i64 0, .int .i64 0, .int .i64 0, .slice none 0 0, .int .i64 0], .int .i64 2]) (by simp [results, Tryz.results9, go_sem, z0, z1, z2, z3, z4, z5, z6, z7, z8, z9, z10, z11, z12, z13]) rfl ?_
        have hbf : Below w.heap.size w wf := HB.out.trans (s1o.below (fun k e => by omega) HB.out.size)
        exact ⟨rfl, hbf⟩
       ·have t6 : decide (epoch < 1) = false := decide_eq_false (by omega)
        rcases hc with hc | ⟨hn7, hc⟩
        ·have t7 : decide (epoch > 4294967295) = true := decide_eq_true (by omega)
         have s7 : decide (4294967295 < epoch) = true := decide_eq_true (by omega)
         clear hc
         go_upto_region 3 with fail
         have r0 := X2.out.c0
         have r1 := X2.out.c1
         have r2 := X2.out.c2
         have r3 := X2.out.c3
         have r4 := X2.out.c4
         have r5 := X2.out.c5
         have r6 := X2.out.c6
         have r7 := X2.out.c7
         have r8 := X2.out.c8
         have r9 := X2.out.c9
         have r10 := X2.out.c10
         have r11 := X2.out.c11
         have r12 := X2.out.c12
         have r13 := X2.out.c13
         have rz0 := X2.out.fz 0
         have rz1 := X2.out.fz 1
         have rz2 := X2.out.fz 2
         have rz3 := X2.out.fz 3
         have rz4 := X2.out.fz 4
         have rz5 := X2.out.fz 5
         have rz6 := X2.out.fz 6
         have rz7 := X2.out.fz 7
         have rz8 := X2.out.fz 8
         have rz9 := X2.out.fz 9
         have rz10 := X2.out.fz 10
         have rz11 := X2.out.fz 11
         have rz12 := X2.out.fz 12
         have rz13 := X2.out.fz 13
         have HSs1 := Lib.hid (X2.out.all (.slice none 0 0) (.slice none 0 0) (.bool false) (.int .i64 0) (.int .i64 0) (.int .i64 0) (.int .i64 0) (.int .i64 0) (.int .i64 0) (.int .i64 0) (.int .i64 0) (.int .i64 0) (.slice none 0 0) (.int .i64 0))
         go_wp2_with fail
         clear r0 r1 r2 r3 r4 r5 r6 r7 r8 r9 r10 r11 r12 r13 rz0 rz1 rz2 rz3 rz4 rz5 rz6 rz7 rz8 rz9 rz10 rz11 rz12 rz13
         obtain ⟨s1, s1o⟩ := HSs1.out _ rfl
         clear HSs1
         generalize ((((((((((((((w1.setCell ⟨w.heap.size + 1, 0, none⟩ (.slice none 0 0)).setCell ⟨w.heap.size + 1, 1, none⟩ (.slice none 0 0)).setCell ⟨w.heap.size + 1, 2, none⟩ (.bool false)).setCell ⟨w.heap.size + 1, 3, none⟩ (.int .i64 0)).setCell ⟨w.heap.size + 1, 4, none⟩ (.int .i64 0)).setCell ⟨w.heap.size + 1, 5, none⟩ (.int .i64 0)).setCell ⟨w.heap.size + 1, 6, none⟩ (.int .i64 0)).setCell ⟨w.heap.size + 1, 7, none⟩ (.int .i64 0)).setCell ⟨w.heap.size + 1, 8, none⟩ (.int .i64 0)).setCell ⟨w.heap.size + 1, 9, none⟩ (.int .i64 0)).setCell ⟨w.heap.size + 1, 10, none⟩ (.int .i64 0)).setCell ⟨w.heap.size + 1, 11, none⟩ (.int .i64 0)).setCell ⟨w.heap.size + 1, 12, none⟩ (.slice none 0 0)).setCell ⟨w.heap.size + 1, 13, none⟩ (.int .i64 0)) = wf at *
         have z0 := s1.c0
         have z1 := s1.c1
         have z2 := s1.c2
         have z3 := s1.c3
         have z4 := s1.c4
         have z5 := s1.c5
         have z6 := s1.c6
         have z7 := s1.c7
         have z8 := s1.c8
         have z9 := s1.c9
         have z10 := s1.c10
         have z11 := s1.c11
         have z12 := s1.c12
         have z13 := s1.c13
         refine bodyPost_ret (v := .tuple #[.agg #[.slice none 0 0, .slice none 0 0, .bool false, .int .i64 0, .int .i64 0, .int .i64 0, .int .i64 0, .int .i64 0, .int .i64 0, .int .i64 0, .int .i64 0, .int .i64 0, .slice none 0 0, .int .i64 0], .int .i64 2]) (by simp [results, Tryz.results9, go_sem, z0, z1, z2, z3, z4, z5, z6, z7, z8, z9, z10, z11, z12, z13]) rfl ?_
         have hbf : Below w.heap.size w wf := HB.out.trans (s1o.below (fun k e => by omega) HB.out.size)
         exact ⟨rfl, hbf⟩
        ·have t7 : decide (epoch > 4294967295) = false := decide_eq_false (by omega)
         have s7 : decide (4294967295 < epoch) = false := decide_eq_false (by omega)
         rcases hc with hc | ⟨hn8, hc⟩
         ·have t8 : decide (count < 0) = true := decide_eq_true (by omega)
          clear hc
          go_upto_region 3 with fail
          have r0 := X2.out.c0
          have r1 := X2.out.c1
          have r2 := X2.out.c2
          have r3 := X2.out.c3
          have r4 := X2.out.c4
          have r5 := X2.out.c5
          have r6 := X2.out.c6
          have r7 := X2.out.c7
          have r8 := X2.out.c8
          have r9 := X2.out.c9
          have r10 := X2.out.c10
          have r11 := X2.out.c11
          have r12 := X2.out.c12
          have r13 := X2.out.c13
          have rz0 := X2.out.fz 0
          have rz1 := X2.out.fz 1
          have rz2 := X2.out.fz 2
          have rz3 := X2.out.fz 3
          have rz4 := X2.out.fz 4
          have rz5 := X2.out.fz 5
          have rz6 := X2.out.fz 6
          have rz7 := X2.out.fz 7
          have rz8 := X2.out.fz 8
          have rz9 := X2.out.fz 9
          have rz10 := X2.out.fz 10
          have rz11 := X2.out.fz 11
          have rz12 := X2.out.fz 12
          have rz13 := X2.out.fz 13
          have HSs1 := Lib.hid (X2.out.all (.slice none 0 0) (.slice none 0 0) (.bool false) (.int .i64 0) (.int .i64 0) (.int .i64 0) (.int .i64 0) (.int .i64 0) (.int .i64 0) (.int .i64 0) (.int .i64 0) (.int .i64 0) (.slice none 0 0) (.int .i64 0))
          go_wp2_with fail
          clear r0 r1 r2 r3 r4 r5 r6 r7 r8 r9 r10 r11 r12 r13 rz0 rz1 rz2 rz3 rz4 rz5 rz6 rz7 rz8 rz9 rz10 rz11 rz12 rz13
          obtain ⟨s1, s1o⟩ := HSs1.out _ rfl
          clear HSs1
          generalize ((((((((((((((w1.setCell ⟨w.heap.size + 1, 0, none⟩ (.slice none 0 0)).setCell ⟨w.heap.size + 1, 1, none⟩ (.slice none 0 0)).setCell ⟨w.heap.size + 1, 2, none⟩ (.bool false)).setCell ⟨w.heap.size + 1, 3, none⟩ (.int .i64 0)).setCell ⟨w.heap.size + 1, 4, none⟩ (.int .i64 0)).setCell ⟨w.heap.size + 1, 5, none⟩ (.int .i64 0)).setCell ⟨w.heap.size + 1, 6, none⟩ (.int .i64 0)).setCell ⟨w.heap.size + 1, 7, none⟩ (.int .i64 0)).setCell ⟨w.heap.size + 1, 8, none⟩ (.int .i64 0)).setCell ⟨w.heap.size + 1, 9, none⟩ (.int .i64 0)).setCell ⟨w.heap.size + 1, 10, none⟩ (.int .i64 0)).setCell ⟨w.heap.size + 1, 11, none⟩ (.int .i64 0)).setCell ⟨w.heap.size + 1, 12, none⟩ (.slice none 0 0)).setCell ⟨w.heap.size + 1, 13, none⟩ (.int .i64 0)) = wf at *
          have z0 := s1.c0
          have z1 := s1.c1
          have z2 := s1.c2
          have z3 := s1.c3
          have z4 := s1.c4
          have z5 := s1.c5
          have z6 := s1.c6
          have z7 := s1.c7
          have z8 := s1.c8
          have z9 := s1.c9
          have z10 := s1.c10
          have z11 := s1.c11
          have z12 := s1.c12
          have z13 := s1.c13
          refine bodyPost_ret (v := .tuple #[.agg #[.slice none 0 0, .slice none 0 0, .bool false, .int .i64 0, .int .i64 0, .int .i64 0, .int .i64 0, .int .i64 0, .int .i64 0, .int .i64 0, .int .i64 0, .int .i64 0, .slice none 0 0, .int .i64 0], .int .i64 2]) (by simp [results, Tryz.results9, go_sem, z0, z1, z2, z3, z4, z5, z6, z7, z8, z9, z10, z11, z12, z13]) rfl ?_
          have hbf : Below w.heap.size w wf := HB.out.trans (s1o.below (fun k e => by omega) HB.out.size)
          exact ⟨rfl, hbf⟩
         ·have t8 : decide (count < 0) = false := decide_eq_false (by omega)
          have t9 : decide (count > 4294967295) = true := decide_eq_true (by omega)
          have s9 : decide (4294967295 < count) = true := decide_eq_true (by omega)
          clear hc
          go_upto_region 3 with fail
          have r0 := X2.out.c0
          have r1 := X2.out.c1
          have r2 := X2.out.c2
          have r3 := X2.out.c3
          have r4 := X2.out.c4
          have r5 := X2.out.c5
          have r6 := X2.out.c6
          have r7 := X2.out.c7
          have r8 := X2.out.c8
          have r9 := X2.out.c9
          have r10 := X2.out.c10
          have r11 := X2.out.c11
          have r12 := X2.out.c12
          have r13 := X2.out.c13
          have rz0 := X2.out.fz 0
          have rz1 := X2.out.fz 1
          have rz2 := X2.out.fz 2
          have rz3 := X2.out.fz 3
          have rz4 := X2.out.fz 4
          have rz5 := X2.out.fz 5
          have rz6 := X2.out.fz 6
          have rz7 := X2.out.fz 7
          have rz8 := X2.out.fz 8
          have rz9 := X2.out.fz 9
          have rz10 := X2.out.fz 10
          have rz11 := X2.out.fz 11
          have rz12 := X2.out.fz 12
          have rz13 := X2.out.fz 13
          have HSs1 := Lib.hid (X2.out.all (.slice none 0 0) (.slice none 0 0) (.bool false) (.int .i64 0) (.int .i64 0) (.int .i64 0) (.int .i64 0) (.int .i64 0) (.int .i64 0) (.int .i64 0) (.int .i64 0) (.int .i64 0) (.slice none 0 0) (.int .i64 0))
          go_wp2_with fail
          clear r0 r1 r2 r3 r4 r5 r6 r7 r8 r9 r10 r11 r12 r13 rz0 rz1 rz2 rz3 rz4 rz5 rz6 rz7 rz8 rz9 rz10 rz11 rz12 rz13
          obtain ⟨s1, s1o⟩ := HSs1.out _ rfl
          clear HSs1
          generalize ((((((((((((((w1.setCell ⟨w.heap.size + 1, 0, none⟩ (.slice none 0 0)).setCell ⟨w.heap.size + 1, 1, none⟩ (.slice none 0 0)).setCell ⟨w.heap.size + 1, 2, none⟩ (.bool false)).setCell ⟨w.heap.size + 1, 3, none⟩ (.int .i64 0)).setCell ⟨w.heap.size + 1, 4, none⟩ (.int .i64 0)).setCell ⟨w.heap.size + 1, 5, none⟩ (.int .i64 0)).setCell ⟨w.heap.size + 1, 6, none⟩ (.int .i64 0)).setCell ⟨w.heap.size + 1, 7, none⟩ (.int .i64 0)).setCell ⟨w.heap.size + 1, 8, none⟩ (.int .i64 0)).setCell ⟨w.heap.size + 1, 9, none⟩ (.int .i64 0)).setCell ⟨w.heap.size + 1, 10, none⟩ (.int .i64 0)).setCell ⟨w.heap.size + 1, 11, none⟩ (.int .i64 0)).setCell ⟨w.heap.size + 1, 12, none⟩ (.slice none 0 0)).setCell ⟨w.heap.size + 1, 13, none⟩ (.int .i64 0)) = wf at *
          have z0 := s1.c0
          have z1 := s1.c1
          have z2 := s1.c2
          have z3 := s1.c3
          have z4 := s1.c4
          have z5 := s1.c5
          have z6 := s1.c6
          have z7 := s1.c7
          have z8 := s1.c8
          have z9 := s1.c9
          have z10 := s1.c10
          have z11 := s1.c11
          have z12 := s1.c12
          have z13 := s1.c13
          refine bodyPost_ret (v := .tuple #[.agg #[.slice none 0 0, .slice none 0 0, .bool false, .int .i64 0, .int .i64 0, .int .i64 0, .int .i64 0, .int .i64 0, .int .i64 0, .int .i64 0, .int .i64 0, .int .i64 0, .slice none 0 0, .int .i64 0], .int .i64 2]) (by simp [results, Tryz.results9, go_sem, z0, z1, z2, z3, z4, z5, z6, z7, z8, z9, z10, z11, z12, z13]) rfl ?_
          have hbf : Below w.heap.size w wf := HB.out.trans (s1o.below (fun k e => by omega) HB.out.size)
          exact ⟨rfl, hbf⟩
set_option maxRecDepth 100000 in
set_option maxHeartbeats 16000000 in
theorem rNew_good {G : Nat → Prop} {w : World} {vd : Value} {D : DiskS} (h : RK G w vd D) (base pages frames epoch count : Nat) (hbn : D.blocks.length ≤ 4096) (hm : mayP D.blocks.length base pages frames epoch count = true) :
  Calls Tryz.prog 9 #[vd, .int .i64 (base : Int), .int .i64 (pages : Int), .int .i64 (frames : Int), .int .i64 (epoch : Int), .int .i64 (count : Int)] w fun e w' => ∃ v', e = .returned (.tuple #[v', .int .i64 0]) ∧ RP G w' v' D (newP base pages frames epoch count) 0 ∧ Below w.heap.size w w' := by
 obtain ⟨bA, bc, wA, wc, bus, wus, rfl, k1, k2, k3, k4, hd⟩ := h
 have HRK : Hid (∀ w', Below w.heap.size w w' → RK G w' (.agg #[.slice bA D.blocks.length bc, .slice wA D.pending.length wc, .bool D.down, .int .i64 D.power, .int .i64 D.fault, .int .i64 D.wi]) D) := Lib.hid (fun w' hb => ⟨bA, bc, wA, wc, bus, wus, rfl, k1, k2, k3, k4, hd.below hb⟩)
 unfold mayP at hm
 simp only [Bool.and_eq_true, decide_eq_true_eq] at hm
 obtain ⟨m1, m2, m3, m4, m5, m6, m7, m8, m9, m10⟩ := hm
 clear k1 k2 k3 k4 hd
 generalize D.down = dn at *
 generalize D.power = po at *
 generalize D.fault = fa at *
 generalize D.wi = wi at *
 generalize D.blocks.length = bn at *
 generalize D.pending.length = wn at *
 go_enter Tryz.func9, Tryz.ntmps9
 go_upto_region 1 with fail
 have x1 := B6.new w (.slice bA bn bc) (.slice wA wn wc) (.bool dn) (.int .i64 po) (.int .i64 fa) (.int .i64 wi)
 have hb1 := gr_alloc (gr_refl w) (.cells #[.slice bA bn bc, .slice wA wn wc, .bool dn, .int .i64 po, .int .i64 fa, .int .i64 wi] 33)
 have hs1 : (w.alloc (.cells #[.slice bA bn bc, .slice wA wn wc, .bool dn, .int .i64 po, .int .i64 fa, .int .i64 wi] 33)).heap.size = w.heap.size + 1 := World.size_alloc _ _
 generalize w.alloc (.cells #[.slice bA bn bc, .slice wA wn wc, .bool dn, .int .i64 po, .int .i64 fa, .int .i64 wi] 33) = wa at *
 have x2 := B14.new wa (.slice none 0 0) (.slice none 0 0) (.bool false) (.int .i64 0) (.int .i64 0) (.int .i64 0) (.int .i64 0) (.int .i64 0) (.int .i64 0) (.int .i64 0) (.int .i64 0) (.int .i64 0) (.slice none 0 0) (.int .i64 0)
 have hb2 := gr_alloc (gr_refl wa) (.cells #[.slice none 0 0, .slice none 0 0, .bool false, .int .i64 0, .int .i64 0, .int .i64 0, .int .i64 0, .int .i64 0, .int .i64 0, .int .i64 0, .int .i64 0, .int .i64 0, .slice none 0 0, .int .i64 0] 42)
 rw [hs1] at x2
 have X1 := Lib.hid (x1.below hb2)
 have X2 := Lib.hid x2
 have HB : Hid (Below w.heap.size w _) := Lib.hid (gr_trans hb1 hb2)
 clear x1 x2 hb1 hb2
 try rw [hs1]
 generalize wa.alloc (.cells #[.slice none 0 0, .slice none 0 0, .bool false, .int .i64 0, .int .i64 0, .int .i64 0, .int .i64 0, .int .i64 0, .int .i64 0, .int .i64 0, .int .i64 0, .int .i64 0, .slice none 0 0, .int .i64 0] 42) = w1 at *
 have y0 := X1.out.c0
 have y1 := X1.out.c1
 have y2 := X1.out.c2
 have y3 := X1.out.c3
 have y4 := X1.out.c4
 have y5 := X1.out.c5
 clear hs1
 have t0 : decide ((base : Int) < 0) = false := decide_eq_false (by omega)
 have t1 : decide ((pages : Int) < 1) = false := decide_eq_false (by omega)
 have t2 : decide ((pages : Int) > (bn : Int)) = false := decide_eq_false (by omega)
 have s2 : decide ((bn : Int) < (pages : Int)) = false := decide_eq_false (by omega)
 have jw : IntKind.i64.wrap ((bn : Int) - (pages : Int)) = (bn : Int) - (pages : Int) := by rw [IntKind.wrap_i64]; omega
 have t3 : decide ((base : Int) > (bn : Int) - (pages : Int)) = false := decide_eq_false (by omega)
 have s3 : decide ((bn : Int) - (pages : Int) < (base : Int)) = false := decide_eq_false (by omega)
 have t4 : decide ((frames : Int) < 2) = false := decide_eq_false (by omega)
 have t5 : decide ((frames : Int) > 256) = false := decide_eq_false (by omega)
 have s5 : decide (256 < (frames : Int)) = false := decide_eq_false (by omega)
 have t6 : decide ((epoch : Int) < 1) = false := decide_eq_false (by omega)
 have t7 : decide ((epoch : Int) > 4294967295) = false := decide_eq_false (by omega)
 have s7 : decide (4294967295 < (epoch : Int)) = false := decide_eq_false (by omega)
 have t8 : decide ((count : Int) < 0) = false := decide_eq_false (by omega)
 have t9 : decide ((count : Int) > 4294967295) = false := decide_eq_false (by omega)
 have s9 : decide (4294967295 < (count : Int)) = false := decide_eq_false (by omega)
 have n1 : decide (pages < 1) = false := decide_eq_false (by omega)
 have n2 : decide (bn < pages) = false := decide_eq_false (by omega)
 have n4 : decide (frames < 2) = false := decide_eq_false (by omega)
 have n5 : decide (256 < frames) = false := decide_eq_false (by omega)
 have n6 : decide (epoch < 1) = false := decide_eq_false (by omega)
 have n7 : decide (4294967295 < epoch) = false := decide_eq_false (by omega)
 have n9 : decide (4294967295 < count) = false := decide_eq_false (by omega)
 clear m1 m2 m3 m4 m5 m6 m7 m8 m9 m10
 go_upto_region 4 with fail
 have r0 := X2.out.c0
 have r1 := X2.out.c1
 have r2 := X2.out.c2
 have r3 := X2.out.c3
 have r4 := X2.out.c4
 have r5 := X2.out.c5
 have r6 := X2.out.c6
 have r7 := X2.out.c7
 have r8 := X2.out.c8
 have r9 := X2.out.c9
 have r10 := X2.out.c10
 have r11 := X2.out.c11
 have r12 := X2.out.c12
 have r13 := X2.out.c13
 have rz0 := X2.out.fz 0
 have rz1 := X2.out.fz 1
 have rz2 := X2.out.fz 2
 have rz3 := X2.out.fz 3
 have rz4 := X2.out.fz 4
 have rz5 := X2.out.fz 5
 have rz6 := X2.out.fz 6
 have rz7 := X2.out.fz 7
 have rz8 := X2.out.fz 8
 have rz9 := X2.out.fz 9
 have rz10 := X2.out.fz 10
 have rz11 := X2.out.fz 11
 have rz12 := X2.out.fz 12
 have rz13 := X2.out.fz 13
 have HSs1 := Lib.hid (X2.out.all (.slice bA bn bc) (.slice wA wn wc) (.bool dn) (.int .i64 po) (.int .i64 fa) (.int .i64 wi) (.int .i64 (base : Int)) (.int .i64 (pages : Int)) (.int .i64 (frames : Int)) (.int .i64 (epoch : Int)) (.int .i64 (count : Int)) (.int .i64 0) (.slice none 0 0) (.int .i64 0))
 go_wp2_with fail
 clear r0 r1 r2 r3 r4 r5 r6 r7 r8 r9 r10 r11 r12 r13 rz0 rz1 rz2 rz3 rz4 rz5 rz6 rz7 rz8 rz9 rz10 rz11 rz12 rz13
 obtain ⟨s1, s1o⟩ := HSs1.out _ rfl
 clear HSs1
 generalize ((((((((((((((w1.setCell ⟨w.heap.size + 1, 0, none⟩ (.slice bA bn bc)).setCell ⟨w.heap.size + 1, 1, none⟩ (.slice wA wn wc)).setCell ⟨w.heap.size + 1, 2, none⟩ (.bool dn)).setCell ⟨w.heap.size + 1, 3, none⟩ (.int .i64 po)).setCell ⟨w.heap.size + 1, 4, none⟩ (.int .i64 fa)).setCell ⟨w.heap.size + 1, 5, none⟩ (.int .i64 wi)).setCell ⟨w.heap.size + 1, 6, none⟩ (.int .i64 (base : Int))).setCell ⟨w.heap.size + 1, 7, none⟩ (.int .i64 (pages : Int))).setCell ⟨w.heap.size + 1, 8, none⟩ (.int .i64 (frames : Int))).setCell ⟨w.heap.size + 1, 9, none⟩ (.int .i64 (epoch : Int))).setCell ⟨w.heap.size + 1, 10, none⟩ (.int .i64 (count : Int))).setCell ⟨w.heap.size + 1, 11, none⟩ (.int .i64 0)).setCell ⟨w.heap.size + 1, 12, none⟩ (.slice none 0 0)).setCell ⟨w.heap.size + 1, 13, none⟩ (.int .i64 0)) = wf at *
 have z0 := s1.c0
 have z1 := s1.c1
 have z2 := s1.c2
 have z3 := s1.c3
 have z4 := s1.c4
 have z5 := s1.c5
 have z6 := s1.c6
 have z7 := s1.c7
 have z8 := s1.c8
 have z9 := s1.c9
 have z10 := s1.c10
 have z11 := s1.c11
 have z12 := s1.c12
 have z13 := s1.c13
 refine bodyPost_ret (v := .tuple #[.agg #[.slice bA bn bc, .slice wA wn wc, .bool dn, .int .i64 po, .int .i64 fa, .int .i64 wi, .int .i64 (base : Int), .int .i64 (pages : Int), .int .i64 (frames : Int), .int .i64 (epoch : Int), .int .i64 (count : Int), .int .i64 0, .slice none 0 0, .int .i64 0], .int .i64 0]) (by simp [results, Tryz.results9, go_sem, z0, z1, z2, z3, z4, z5, z6, z7, z8, z9, z10, z11, z12, z13]) rfl ?_
 have hbf : Below w.heap.size w wf := HB.out.trans (s1o.below (fun k e => by omega) HB.out.size)
 exact ⟨_, rfl, ⟨bA, bn, bc, wA, wn, wc, dn, po, fa, wi, _, [], rfl, HRK.out wf hbf, ⟨⟨rfl, .inl ⟨rfl, rfl⟩⟩, fun k e => by (cases e), fun x hx => by (cases hx), fun x hx => by (cases hx)⟩, rfl⟩, hbf⟩
end Go.Proofs.YtmdgnjmhbjdlmaaGreat

/-! PlT -/
namespace Go.Proofs.YtmdgnjmhbjdlmaaGreat
open Go.RowKit
section
variable {bs : List (List UInt8)} {ps : List (Nat × List UInt8)} {P : PoS} {now : Nat → List UInt8}
end
end Go.Proofs.YtmdgnjmhbjdlmaaGreat
