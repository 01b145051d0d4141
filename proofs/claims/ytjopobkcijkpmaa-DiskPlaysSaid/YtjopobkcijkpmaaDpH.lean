/-
  The reference of chapter 03: operation in one, Crash.
-/
import Derived.Test.YtjopobkcijkpmaaDpG
namespace Go.Proofs.Ytjopobkcijkpmaa
open Go.RowKit

theorem B6.set0 {w : World} {g : Nat} {x0 x1 x2 x3 x4 x5 : Value} (h : B6 w g x0 x1 x2 x3 x4 x5) (u : Value) : B6 (w.setCell ⟨g, 0, none⟩ u) g u x1 x2 x3 x4 x5 := by
  unfold B6 at h ⊢
  simp only [World.setCell, Array.getElem?_modify, if_pos, h]
  rfl
theorem B6.set1 {w : World} {g : Nat} {x0 x1 x2 x3 x4 x5 : Value} (h : B6 w g x0 x1 x2 x3 x4 x5) (u : Value) : B6 (w.setCell ⟨g, 1, none⟩ u) g x0 u x2 x3 x4 x5 := by
  unfold B6 at h ⊢
  simp only [World.setCell, Array.getElem?_modify, if_pos, h]
  rfl
theorem set6o {w : World} {g : Nat} {y0 y1 y2 y3 y4 y5 : Value} (h : B6 w g y0 y1 y2 y3 y4 y5) (u0 u1 u2 u3 u4 u5 : Value) {w0 : World} (hb : Below w0.heap.size w0 w) (hg : w0.heap.size ≤ g) :
    ∀ w2, w2 = (((((w.setCell ⟨g, 0, none⟩ u0).setCell ⟨g, 1, none⟩ u1).setCell ⟨g, 2, none⟩ u2).setCell ⟨g, 3, none⟩ u3).setCell ⟨g, 4, none⟩ u4).setCell ⟨g, 5, none⟩ u5 → B6 w2 g u0 u1 u2 u3 u4 u5 ∧ Below w0.heap.size w0 w2 ∧ Off (· = g) w w2 := by
  intro w2 e
  obtain ⟨a, b⟩ := set6 h u0 u1 u2 u3 u4 u5 hb hg w2 e
  refine ⟨a, b, ?_⟩
  rw [e]
  exact ((((((Off.refl (· = g) w).setCell _ rfl).setCell _ rfl).setCell _ rfl).setCell _ rfl).setCell _ rfl).setCell _ rfl
/-- Three variables: the receiver, the crash, the result. -/
theorem threeC (w : World) (x0 x1 x2 x3 x4 x5 y0 y1 y2 : Value) : ∀ w1, w1 = ((w.alloc (.cells #[x0, x1, x2, x3, x4, x5] 66)).alloc (.cells #[y0, y1, y2] 25)).alloc (.cells #[.slice none 0 0, .slice none 0 0, .bool false, .int .i64 0, .int .i64 0, .int .i64 0] 66) →
    B6 w1 w.heap.size x0 x1 x2 x3 x4 x5 ∧ w1.heap[w.heap.size + 1]? = some (.cells #[y0, y1, y2] 25 (0, 0)) ∧ B6 w1 (w.heap.size + 1 + 1) (.slice none 0 0) (.slice none 0 0) (.bool false) (.int .i64 0) (.int .i64 0) (.int .i64 0) ∧ Below w.heap.size w w1 := by
  rintro w1 rfl
  obtain ⟨a, b, c⟩ := twoC w x0 x1 x2 x3 x4 x5 y0 y1 y2 _ rfl
  have hs : ((w.alloc (.cells #[x0, x1, x2, x3, x4, x5] 66)).alloc (.cells #[y0, y1, y2] 25)).heap.size = w.heap.size + 1 + 1 := by rw [World.size_alloc, World.size_alloc]
  generalize (w.alloc (.cells #[x0, x1, x2, x3, x4, x5] 66)).alloc (.cells #[y0, y1, y2] 25) = w2 at *
  have hb := gr_alloc (gr_refl w2) (.cells #[.slice none 0 0, .slice none 0 0, .bool false, .int .i64 0, .int .i64 0, .int .i64 0] 66)
  refine ⟨a.below hb, (hb.block _ (Array.getElem?_eq_some_iff.1 b).1).trans b, ?_, gr_trans c hb⟩
  rw [← hs]
  exact B6.new w2 _ _ _ _ _ _
theorem plusG.mono {G : Nat → Prop} {w w1 w2 w3 : World} (h1 : w.heap.size ≤ w1.heap.size) (h2 : w2.heap.size ≤ w3.heap.size) : ∀ k, plusG G w1 w2 k → plusG G w w3 k := by
  rintro k (h | ⟨h, h'⟩)
  · exact .inl h
  · exact .inr ⟨by omega, by omega⟩
/-- A disk whose blocks are what left answers. -/
theorem RK.of_left {G : Nat → Prop} {w : World} {A : Option Addr} {c n : Nat} {us : List Value} {bs : List (List UInt8)} (hn : bs.length = n) (h1 : n ≤ c) (h2 : c ≤ maxLen) (hr : RdG G w 1 A n us) (hv : ∀ (i : Nat) (u : Value) (l : List UInt8), us[i]? = some u → bs[i]? = some l → VG G w u l) (dn : Bool) (po fa wi : Int) :
    RK G w (.agg #[.slice A n c, .slice none 0 0, .bool dn, .int .i64 po, .int .i64 fa, .int .i64 wi]) ⟨bs, [], dn, po, fa, wi⟩ := by
  subst hn
  exact ⟨A, c, none, 0, us, [], rfl, h1, h2, Nat.le_refl _, by simp [maxLen], ⟨hr, hv, ⟨⟨rfl, fun h => absurd h (by simp)⟩, fun _ e => by cases e⟩, fun i q p h => by simp at h, rfl⟩⟩

theorem opV_any (bA wA : Option Addr) (bn bc wn wc : Nat) (dn : Bool) (po fa wi : Int) (w : World) (p1 : -1 ≤ po) (p2 : po ≤ 9223372036854775807) (f1 : -1 ≤ fa) (f2 : fa ≤ 9223372036854775807) :
    Calls Try.prog 103 #[.agg #[.slice bA bn bc, .slice wA wn wc, .bool dn, .int .i64 po, .int .i64 fa, .int .i64 wi]] w fun e w' => e = .returned (.tuple #[.agg #[.slice bA bn bc, .slice wA wn wc, .bool (opD dn po), .int .i64 (opL dn po), .int .i64 (opL dn fa), .int .i64 wi], .int .i64 (opE dn po fa wi)]) ∧ Below w.heap.size w w' := by
  cases dn
  · exact opV_up bA wA bn bc wn wc po fa wi w p1 p2 f1 f2
  · exact opV_down bA wA bn bc wn wc po fa wi w

set_option maxRecDepth 100000 in
set_option maxHeartbeats 4000000 in
theorem refCrash_any (G : Nat → Prop) (v : Value) (D : DiskS) (K : Option Addr) (nk ck : Nat) (keep : List Bool) (torn cut : Int) (w : World) (h : RK G w v D) (hG : ∀ k, G k → k < w.heap.size) (hK : LR w K nk keep) (hnk : nk ≤ 9223372036854775807) (hn1 : D.blocks.length ≤ 4096) (hp : D.pending.length ≤ 1000000) :
    Calls Try.prog 88 #[v, .agg #[.slice K nk ck, .int .i64 torn, .int .i64 cut]] w fun e w' => ∃ v', e = .returned (.tuple #[v', .int .i64 (crashE cut)]) ∧ RK (plusG G w w') w' v' (crashD D keep torn cut) ∧ Below w.heap.size w w' := by
  have HR := Lib.hid h
  have HG := Lib.hid hG
  have HL : Hid (∀ (W : World) (cu : Nat), Below w.heap.size w W → cu ≤ 4096 → _) := Lib.hid (fun W cu hb hcu => refLeft_any G v D K nk ck keep torn cu W (h.below hb) (fun k hk => Nat.lt_of_lt_of_le (hG k hk) hb.size) (hK.below hb) hnk hcu hn1 hp)
  obtain ⟨bA, bc, wA, wc, bus, wus, rfl, k1, k2, k3, k4, hd⟩ := h
  have HT := Lib.hid (threeC w (.slice bA D.blocks.length bc) (.slice wA D.pending.length wc) (.bool D.down) (.int .i64 D.power) (.int .i64 D.fault) (.int .i64 D.wi) (.slice K nk ck) (.int .i64 torn) (.int .i64 cut))
  have HLN : Hid (∀ cu k, (crashTo keep torn cu D.blocks D.pending k).length = D.blocks.length) := Lib.hid (fun cu k => crashTo_len _ _ _ _ _ k)
  clear hd hG hK k1 k2 k3 k4
  by_cases hc : cut < 0 ∨ 4096 < cut
  · have HE : Hid (crashE cut = 2) := Lib.hid (by unfold crashE; rw [if_pos hc])
    have HD : Hid (crashD D keep torn cut = D) := Lib.hid (by unfold crashD; rw [if_pos (by rw [HE.out]; simp)])
    have HF : Hid (∀ wf, Below w.heap.size w wf → _) := Lib.hid (fun wf hb => (HR.out.below hb).mono (G' := plusG G w wf) (fun k hk => .inl hk))
    clear HL HR HLN
    generalize D.blocks.length = bn at *
    generalize D.pending.length = wn at *
    by_cases c1 : cut < 0
    · have t1 : decide (cut < 0) = true := decide_eq_true c1
      go_enter Try.func88, Try.ntmps88
      go_upto_region 1 with fail
      obtain ⟨x1, x2, x3, hb⟩ := HT.out _ rfl
      generalize ((w.alloc (.cells #[.slice bA bn bc, .slice wA wn wc, .bool D.down, .int .i64 D.power, .int .i64 D.fault, .int .i64 D.wi] 66)).alloc (.cells #[.slice K nk ck, .int .i64 torn, .int .i64 cut] 25)).alloc (.cells #[.slice none 0 0, .slice none 0 0, .bool false, .int .i64 0, .int .i64 0, .int .i64 0] 66) = w1 at *
      have q2 : w1.cell? ⟨w.heap.size + 1, 2, none⟩ = some (.int .i64 cut) := by rw [cell_of_row w1 _ 2 _ _ _ x2]; rfl
      go_upto_region 2 with fail
      have y0 := x1.c0
      have y1 := x1.c1
      have y2 := x1.c2
      have y3 := x1.c3
      have y4 := x1.c4
      have y5 := x1.c5
      have r0 := x3.c0
      have r1 := x3.c1
      have r2 := x3.c2
      have r3 := x3.c3
      have r4 := x3.c4
      have r5 := x3.c5
      have f0 := x3.fz 0
      have f1 := x3.fz 1
      have f2 := x3.fz 2
      have f3 := x3.fz 3
      have f4 := x3.fz 4
      have f5 := x3.fz 5
      have HS := Lib.hid (set6o x3 (.slice bA bn bc) (.slice wA wn wc) (.bool D.down) (.int .i64 D.power) (.int .i64 D.fault) (.int .i64 D.wi) hb (by omega))
      go_wp2_with fail
      clear r0 f0 r1 f1 r2 f2 r3 f3 r4 f4 r5 f5
      obtain ⟨s1, s2, s3⟩ := HS.out _ rfl
      clear HS
      generalize ((((((w1.setCell ⟨w.heap.size + 1 + 1, 0, none⟩ (.slice bA bn bc)).setCell ⟨w.heap.size + 1 + 1, 1, none⟩ (.slice wA wn wc)).setCell ⟨w.heap.size + 1 + 1, 2, none⟩ (.bool D.down)).setCell ⟨w.heap.size + 1 + 1, 3, none⟩ (.int .i64 D.power)).setCell ⟨w.heap.size + 1 + 1, 4, none⟩ (.int .i64 D.fault)).setCell ⟨w.heap.size + 1 + 1, 5, none⟩ (.int .i64 D.wi)) = wf at *
      have z0 := s1.c0
      have z1 := s1.c1
      have z2 := s1.c2
      have z3 := s1.c3
      have z4 := s1.c4
      have z5 := s1.c5
      refine bodyPost_ret (v := .tuple #[.agg #[.slice bA bn bc, .slice wA wn wc, .bool D.down, .int .i64 D.power, .int .i64 D.fault, .int .i64 D.wi], .int .i64 (2)]) (by simp [results, Try.results88, go_sem, z0, z1, z2, z3, z4, z5]) rfl ?_
      rw [HE.out, HD.out]
      exact ⟨_, rfl, HF.out wf s2, s2⟩
    · have t1 : decide (cut < 0) = false := decide_eq_false c1
      have t2 : decide (4096 < cut) = true := decide_eq_true (by omega)
      go_enter Try.func88, Try.ntmps88
      go_upto_region 1 with fail
      obtain ⟨x1, x2, x3, hb⟩ := HT.out _ rfl
      generalize ((w.alloc (.cells #[.slice bA bn bc, .slice wA wn wc, .bool D.down, .int .i64 D.power, .int .i64 D.fault, .int .i64 D.wi] 66)).alloc (.cells #[.slice K nk ck, .int .i64 torn, .int .i64 cut] 25)).alloc (.cells #[.slice none 0 0, .slice none 0 0, .bool false, .int .i64 0, .int .i64 0, .int .i64 0] 66) = w1 at *
      have q2 : w1.cell? ⟨w.heap.size + 1, 2, none⟩ = some (.int .i64 cut) := by rw [cell_of_row w1 _ 2 _ _ _ x2]; rfl
      go_upto_region 2 with fail
      have y0 := x1.c0
      have y1 := x1.c1
      have y2 := x1.c2
      have y3 := x1.c3
      have y4 := x1.c4
      have y5 := x1.c5
      have r0 := x3.c0
      have r1 := x3.c1
      have r2 := x3.c2
      have r3 := x3.c3
      have r4 := x3.c4
      have r5 := x3.c5
      have f0 := x3.fz 0
      have f1 := x3.fz 1
      have f2 := x3.fz 2
      have f3 := x3.fz 3
      have f4 := x3.fz 4
      have f5 := x3.fz 5
      have HS := Lib.hid (set6o x3 (.slice bA bn bc) (.slice wA wn wc) (.bool D.down) (.int .i64 D.power) (.int .i64 D.fault) (.int .i64 D.wi) hb (by omega))
      go_wp2_with fail
      clear r0 f0 r1 f1 r2 f2 r3 f3 r4 f4 r5 f5
      obtain ⟨s1, s2, s3⟩ := HS.out _ rfl
      clear HS
      generalize ((((((w1.setCell ⟨w.heap.size + 1 + 1, 0, none⟩ (.slice bA bn bc)).setCell ⟨w.heap.size + 1 + 1, 1, none⟩ (.slice wA wn wc)).setCell ⟨w.heap.size + 1 + 1, 2, none⟩ (.bool D.down)).setCell ⟨w.heap.size + 1 + 1, 3, none⟩ (.int .i64 D.power)).setCell ⟨w.heap.size + 1 + 1, 4, none⟩ (.int .i64 D.fault)).setCell ⟨w.heap.size + 1 + 1, 5, none⟩ (.int .i64 D.wi)) = wf at *
      have z0 := s1.c0
      have z1 := s1.c1
      have z2 := s1.c2
      have z3 := s1.c3
      have z4 := s1.c4
      have z5 := s1.c5
      refine bodyPost_ret (v := .tuple #[.agg #[.slice bA bn bc, .slice wA wn wc, .bool D.down, .int .i64 D.power, .int .i64 D.fault, .int .i64 D.wi], .int .i64 (2)]) (by simp [results, Try.results88, go_sem, z0, z1, z2, z3, z4, z5]) rfl ?_
      rw [HE.out, HD.out]
      exact ⟨_, rfl, HF.out wf s2, s2⟩
  · obtain ⟨cu, rfl⟩ := Int.eq_ofNat_of_zero_le (show 0 ≤ cut by omega)
    have hcu : cu ≤ 4096 := by omega
    have t1 : decide ((cu : Int) < 0) = false := decide_eq_false (by omega)
    have t2 : decide (4096 < (cu : Int)) = false := decide_eq_false (by omega)
    have HE : Hid (crashE (cu : Int) = 0) := Lib.hid (by unfold crashE; rw [if_neg hc])
    have HD : Hid (crashD D keep torn (cu : Int) = ⟨crashTo keep torn cu D.blocks D.pending D.pending.length, [], false, -1, -1, 0⟩) := Lib.hid (by unfold crashD; rw [if_neg (by rw [HE.out]; simp), Int.toNat_natCast])
    have HLN1 := Lib.hid (HLN.out cu D.pending.length)
    have HL := Lib.hid (fun W hb => HL.out W cu hb hcu)
    clear hc HR HLN
    generalize crashTo keep torn cu D.blocks D.pending D.pending.length = bs at *
    generalize D.blocks.length = bn at *
    generalize D.pending.length = wn at *
    go_enter Try.func88, Try.ntmps88
    go_upto_region 1 with fail
    obtain ⟨x1, x2, x3, hb⟩ := HT.out _ rfl
    generalize ((w.alloc (.cells #[.slice bA bn bc, .slice wA wn wc, .bool D.down, .int .i64 D.power, .int .i64 D.fault, .int .i64 D.wi] 66)).alloc (.cells #[.slice K nk ck, .int .i64 torn, .int .i64 (cu : Int)] 25)).alloc (.cells #[.slice none 0 0, .slice none 0 0, .bool false, .int .i64 0, .int .i64 0, .int .i64 0] 66) = w1 at *
    have q2 : w1.cell? ⟨w.heap.size + 1, 2, none⟩ = some (.int .i64 (cu : Int)) := by rw [cell_of_row w1 _ 2 _ _ _ x2]; rfl
    go_upto_region 3 with fail
    have q0 : w1.cell? ⟨w.heap.size + 1, 0, none⟩ = some (.slice K nk ck) := by rw [cell_of_row w1 _ 0 _ _ _ x2]; rfl
    have q1 : w1.cell? ⟨w.heap.size + 1, 1, none⟩ = some (.int .i64 torn) := by rw [cell_of_row w1 _ 1 _ _ _ x2]; rfl
    have hs1 : w.heap.size + 1 + 1 < w1.heap.size := (Array.getElem?_eq_some_iff.1 x3).1
    have y0 := x1.c0
    have y1 := x1.c1
    have y2 := x1.c2
    have y3 := x1.c3
    have y4 := x1.c4
    have y5 := x1.c5
    go_wp2_with fail
    refine (HL.out w1 hb).mono ?_
    rintro e w2 ⟨A, c, us, rfl, l1, l2, l3, l4, hb2⟩
    have x3 := x3.below hb2
    have hb := gr_trans hb (hb2.mono (by omega))
    have HF : Hid (∀ wf, Off (· = w.heap.size + 1 + 1) w2 wf → RK (plusG G w wf) wf (.agg #[.slice A bn c, .slice none 0 0, .bool false, .int .i64 (-1), .int .i64 (-1), .int .i64 0]) ⟨bs, [], false, -1, -1, 0⟩) := Lib.hid (fun wf ho =>
      ((RK.of_left HLN1.out l1 l2 l3 l4 false (-1) (-1) 0).off ho (by
        rintro k rfl (hk | ⟨hk, _⟩)
        · have := HG.out _ hk; omega
        · omega)).mono (plusG.mono (by omega) ho.size))
    clear l3 l4 y0 y1 y2 y3 y4 y5 q0 q1 q2 x1 x2 HL HT
    have r0 := x3.c0
    have r1 := x3.c1
    have r2 := x3.c2
    have r3 := x3.c3
    have r4 := x3.c4
    have r5 := x3.c5
    have f0 := x3.fz 0
    have f1 := x3.fz 1
    have f2 := x3.fz 2
    have f3 := x3.fz 3
    have f4 := x3.fz 4
    have f5 := x3.fz 5
    have HS := Lib.hid (set6o x3 (.slice A bn c) (.slice none 0 0) (.bool false) (.int .i64 (-1)) (.int .i64 (-1)) (.int .i64 0) hb (by omega))
    go_wp2_with fail
    clear r0 f0 r1 f1 r2 f2 r3 f3 r4 f4 r5 f5
    obtain ⟨s1, s2, s3⟩ := HS.out _ rfl
    clear HS
    generalize ((((((w2.setCell ⟨w.heap.size + 1 + 1, 0, none⟩ (.slice A bn c)).setCell ⟨w.heap.size + 1 + 1, 1, none⟩ (.slice none 0 0)).setCell ⟨w.heap.size + 1 + 1, 2, none⟩ (.bool false)).setCell ⟨w.heap.size + 1 + 1, 3, none⟩ (.int .i64 (-1))).setCell ⟨w.heap.size + 1 + 1, 4, none⟩ (.int .i64 (-1))).setCell ⟨w.heap.size + 1 + 1, 5, none⟩ (.int .i64 0)) = wf at *
    have z0 := s1.c0
    have z1 := s1.c1
    have z2 := s1.c2
    have z3 := s1.c3
    have z4 := s1.c4
    have z5 := s1.c5
    refine bodyPost_ret (v := .tuple #[.agg #[.slice A bn c, .slice none 0 0, .bool false, .int .i64 (-1), .int .i64 (-1), .int .i64 0], .int .i64 (0)]) (by simp [results, Try.results88, go_sem, z0, z1, z2, z3, z4, z5]) rfl ?_
    rw [HE.out, HD.out]
    exact ⟨_, rfl, HF.out wf s3, s2⟩

end Go.Proofs.Ytjopobkcijkpmaa
