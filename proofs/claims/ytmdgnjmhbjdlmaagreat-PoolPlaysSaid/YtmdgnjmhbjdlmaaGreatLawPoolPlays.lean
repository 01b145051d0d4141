/-
  The walk of PoolPlays.
-/
import Derived.Test.YtmdgnjmhbjdlmaaGreatPkA8
import Derived.Deep.CutBlock
import Derived.Deep.DeepCutAuto
namespace Go.Proofs.YtmdgnjmhbjdlmaaGreat
open Go Go.RowKit Go.Maps
def H6 (w : World) (g : Nat) (x0 x1 x2 x3 x4 x5 : Value) : Prop := w.heap[g]? = some (.cells #[x0, x1, x2, x3, x4, x5] 23 (0, 0))
section
variable {w w' : World} {g : Nat} {x0 x1 x2 x3 x4 x5 : Value}
theorem H6.new (w : World) (x0 x1 x2 x3 x4 x5 : Value) : H6 (w.alloc (.cells #[x0, x1, x2, x3, x4, x5] 23)) w.heap.size x0 x1 x2 x3 x4 x5 := heap_alloc_new w _
theorem H6.below (h : H6 w g x0 x1 x2 x3 x4 x5) (hb : Below w.heap.size w w') : H6 w' g x0 x1 x2 x3 x4 x5 := (hb.block _ (Array.getElem?_eq_some_iff.1 h).1).trans h
theorem H6.off {S : Nat → Prop} (h : H6 w g x0 x1 x2 x3 x4 x5) (ho : Off S w w') (hg : ¬ S g) : H6 w' g x0 x1 x2 x3 x4 x5 := (ho.block g (Array.getElem?_eq_some_iff.1 h).1 hg).trans h
theorem H6.c0 (h : H6 w g x0 x1 x2 x3 x4 x5) : w.cell? ⟨g, 0, none⟩ = some x0 := by rw [cell_of_row w g 0 _ _ _ h]; rfl
theorem H6.c1 (h : H6 w g x0 x1 x2 x3 x4 x5) : w.cell? ⟨g, 1, none⟩ = some x1 := by rw [cell_of_row w g 1 _ _ _ h]; rfl
theorem H6.c2 (h : H6 w g x0 x1 x2 x3 x4 x5) : w.cell? ⟨g, 2, none⟩ = some x2 := by rw [cell_of_row w g 2 _ _ _ h]; rfl
theorem H6.c3 (h : H6 w g x0 x1 x2 x3 x4 x5) : w.cell? ⟨g, 3, none⟩ = some x3 := by rw [cell_of_row w g 3 _ _ _ h]; rfl
theorem H6.c4 (h : H6 w g x0 x1 x2 x3 x4 x5) : w.cell? ⟨g, 4, none⟩ = some x4 := by rw [cell_of_row w g 4 _ _ _ h]; rfl
theorem H6.c5 (h : H6 w g x0 x1 x2 x3 x4 x5) : w.cell? ⟨g, 5, none⟩ = some x5 := by rw [cell_of_row w g 5 _ _ _ h]; rfl
end
theorem H6.fz {w : World} {g : Nat} {x0 x1 x2 x3 x4 x5 : Value} (h : H6 w g x0 x1 x2 x3 x4 x5) (j : Nat) : w.frozen? ⟨g, j, none⟩ = false := by unfold H6 at h; simp [World.frozen?, h]
theorem H6.set0 {w : World} {g : Nat} {x0 x1 x2 x3 x4 x5 : Value} (h : H6 w g x0 x1 x2 x3 x4 x5) (u : Value) : H6 (w.setCell ⟨g, 0, none⟩ u) g u x1 x2 x3 x4 x5 := by
 unfold H6 at h ⊢
 simp only [World.setCell, Array.getElem?_modify, if_pos, h]
 rfl
theorem eqP_ee (W : World) : (binOp .eql 37 (.pointer none) (.pointer none)).run Tryz.prog W = .ok (.bool true) W := by
 have h : ∀ d : Nat, (Op.equalIn (d + 1) 37 (.pointer none) (.pointer none)).run Tryz.prog W = .ok true W := fun d => by
  simp [Op.equalIn, run_underlying Tryz.underlying37]
 simp only [binOp]
 simp [Op.equal, Op.maxDepth, h 9999]
theorem QS.limit {w0 w w' : World} {gd gp gl gw : Nat} {lim : Int} {G S : Nat → Prop} {D : DiskS} {P : PoS} {bA wA A : Option Addr} {bn bc wn wc n c : Nat} {dn : Bool} {po fa wi : Int} (h : QS w0 w gd gp gl (.agg #[.slice bA bn bc, .slice wA wn wc, .bool dn, .int .i64 po, .int .i64 fa, .int .i64 wi, .int .i64 (P.base : Int), .int .i64 (P.pages : Int), .int .i64 (P.most : Int), .int .i64 (P.epoch : Int), .int .i64 (P.count : Int), .int .i64 lim, .slice A n c, .int .i64 (P.hand : Int)]) lim G D P S) (nn : Int) (ho : Off (fun k => k = gl ∨ k = gw) w w') (hb : BoxI w' gl nn) (h1 : ¬ S gw) (h2 : ¬ G gw) (h3 : w0.heap.size ≤ gw) : QS w0 w' gd gp gl (.agg #[.slice bA bn bc, .slice wA wn wc, .bool dn, .int .i64 po, .int .i64 fa, .int .i64 wi, .int .i64 (P.base : Int), .int .i64 (P.pages : Int), .int .i64 (P.most : Int), .int .i64 (P.epoch : Int), .int .i64 (P.count : Int), .int .i64 nn, .slice A n c, .int .i64 (P.hand : Int)]) nn G D P S := by
 have hS : ∀ k, S k → ¬ (k = gl ∨ k = gw) := fun k e e2 => by
  rcases e2 with rfl | rfl
  ·exact h.bn e
  ·exact h1 e
 have hG : ∀ k, (k = gl ∨ k = gw) → ¬ G k := fun k e e2 => by
  rcases e with rfl | rfl
  ·exact h.bg e2
  ·exact h2 e2
 refine ⟨h.pj.relog ho hS (fun k e => by rcases e with rfl | rfl; exact h.bb; exact h3) (hb.lv h.bn), ?_, hb, h.bn, h.bg, h.bb, h.sg, fun k e => ⟨(h.gw k e).1, Nat.lt_of_lt_of_le (h.gw k e).2 ho.size⟩, h.dn⟩
 obtain ⟨a1, a2, a3, a4, a5, a6, a7, a8, a9, a10, fv, q, e, k1, k2, k3⟩ := h.rp
 simp only [pV, Value.agg.injEq, Array.mk.injEq, List.cons.injEq, Value.slice.injEq, Value.bool.injEq, Value.int.injEq, true_and, and_true] at e
 obtain ⟨⟨rfl, rfl, rfl⟩, ⟨rfl, rfl, rfl⟩, rfl, rfl, rfl, rfl, rfl⟩ := e
 exact ⟨bA, bn, bc, wA, wn, wc, dn, po, fa, wi, _, q, rfl, k1.off ho hG, k2.off ho hG, k3⟩
theorem QS.box {w0 w w' : World} {gd gp gl gw : Nat} {v : Value} {lim : Int} {G S : Nat → Prop} {D : DiskS} {P : PoS} (h : QS w0 w gd gp gl v lim G D P S) (ho : Off (fun k => k = gw) w w') (h1 : ¬ S gw) (h2 : ¬ G gw) (h3 : w0.heap.size ≤ gw) (h4 : gw ≠ gl) : QS w0 w' gd gp gl v lim G D P S := by
 have hb := h.bx.off ho (fun e => h4 e.symm)
 exact ⟨h.pj.relog ho (fun k e e2 => h1 (e2 ▸ e)) (fun k e => by rw [e]; exact h3) (hb.lv h.bn), h.rp.off ho (fun k e e2 => h2 (e ▸ e2)), hb, h.bn, h.bg, h.bb, h.sg, fun k e => ⟨(h.gw k e).1, Nat.lt_of_lt_of_le (h.gw k e).2 ho.size⟩, h.dn⟩
theorem RP.rk_of {w : World} {L : Int} {G : Nat → Prop} {D : DiskS} {P : PoS} {bA wA A : Option Addr} {bn bc wn wc n c : Nat} {dn : Bool} {po fa wi : Int} (h : RP G w (.agg #[.slice bA bn bc, .slice wA wn wc, .bool dn, .int .i64 po, .int .i64 fa, .int .i64 wi, .int .i64 (P.base : Int), .int .i64 (P.pages : Int), .int .i64 (P.most : Int), .int .i64 (P.epoch : Int), .int .i64 (P.count : Int), .int .i64 L, .slice A n c, .int .i64 (P.hand : Int)]) D P L) : RK G w (.agg #[.slice bA bn bc, .slice wA wn wc, .bool dn, .int .i64 po, .int .i64 fa, .int .i64 wi]) D := by
 obtain ⟨a1, a2, a3, a4, a5, a6, a7, a8, a9, a10, fv, q, e, k1, k2, k3⟩ := h
 simp only [pV, Value.agg.injEq, Array.mk.injEq, List.cons.injEq, Value.slice.injEq, Value.bool.injEq, Value.int.injEq, true_and, and_true] at e
 obtain ⟨⟨rfl, rfl, rfl⟩, ⟨rfl, rfl, rfl⟩, rfl, rfl, rfl, rfl, rfl⟩ := e
 exact k1
theorem DN.new (m : Nat) (h : m ≤ 4096) : DN (newD m) := ⟨Int.le_refl _, by show (-1 : Int) ≤ _; omega, Int.le_refl _, by show (-1 : Int) ≤ _; omega, by show (List.replicate m zer).length ≤ 4096; rw [List.length_replicate]; exact h⟩
set_option maxRecDepth 100000 in
set_option maxHeartbeats 16000000 in
theorem PoolPlays_any (dk bs pg fr ep ct : Int) (A : Option Addr) (n c : Nat) (l : List Sp) (w : World) (hS : SQ w A n l) (hnc : n ≤ c) (hcm : c ≤ maxLen) :
  Calls Tryz.prog 3 #[.agg #[.int .i64 dk, .int .i64 bs, .int .i64 pg, .int .i64 fr, .int .i64 ep, .int .i64 ct], .slice A n c] w fun e w' => e = .returned (.bool true) ∧ Below w.heap.size w w' := by
 have HSR := Lib.hid hS
 have HAW := Lib.hid awake09_any
 have hnm : n ≤ 9223372036854775807 := by unfold maxLen at hcm; omega
 have hmf : ∀ (fn : Fn) (first cap : Array Value) (w : World), (Instr.makeFunc fn first cap).run Tryz.prog w = .ok (.func fn first cap) w := fun _ _ _ _ => rfl
 have h0 := H6.new w (.int .i64 dk) (.int .i64 bs) (.int .i64 pg) (.int .i64 fr) (.int .i64 ep) (.int .i64 ct)
 have hb0 := gr_alloc (gr_refl w) (.cells #[.int .i64 dk, .int .i64 bs, .int .i64 pg, .int .i64 fr, .int .i64 ep, .int .i64 ct] 23)
 obtain ⟨mi, hmi⟩ : ∃ mi : Int, mi = min dk 10 := ⟨_, rfl⟩
 have HMI := Lib.hid hmi
 clear hS hnc hcm hmi
 go_enter Tryz.func3, Tryz.ntmps3
 go_upto_region 1 with fail
 generalize w.alloc (.cells #[.int .i64 dk, .int .i64 bs, .int .i64 pg, .int .i64 fr, .int .i64 ep, .int .i64 ct] 23) = wa at *
 have x0 := h0.c0
 have z0 := h0.fz 0
 have HX := Lib.hid (h0.set0 (.int .i64 mi))
 rw [HMI.out] at HX
 have HBa : Hid (Below w.heap.size w (wa.setCell ⟨w.heap.size, 0, none⟩ (.int .i64 (min dk 10)))) := Lib.hid (hb0.trans (((Off.refl (fun k => k = w.heap.size) wa).setCell _ rfl).below (fun k e => by omega) hb0.size))
 have HSa : Hid (w.heap.size < (wa.setCell ⟨w.heap.size, 0, none⟩ (.int .i64 (min dk 10))).heap.size) := Lib.hid (Array.getElem?_eq_some_iff.1 HX.out).1
 clear hb0 h0
 go_upto_region 2 with fail
 clear x0 z0
 generalize wa.setCell ⟨w.heap.size, 0, none⟩ (.int .i64 (min dk 10)) = w1 at *
 rw [← HMI.out] at HX
 have x0 := HX.out.c0
 by_cases hbad : mi < 1
 ·have HN := Lib.hid (New_bad mi w1 (.inl hbad))
  clear hbad HMI
  go_wp2_with fail
  refine HN.out.mono ?_
  rintro e w' ⟨rfl, rfl⟩
  have hba := HBa.out
  go_wp2_with fail
  refine (HAW.out _).mono ?_
  rintro e w9 ⟨rfl, hb9⟩
  have HB9 := Lib.hid (hba.trans (hb9.mono hba.size))
  clear hb9
  go_wp2_with fail
  go_ret
  exact ⟨rfl, HB9.out⟩
 ·obtain ⟨m, rfl⟩ : ∃ m : Nat, mi = (m : Int) := ⟨mi.toNat, by omega⟩
  have hm1 : 1 ≤ m := by omega
  have hm2 : m ≤ 10 := by have := HMI.out; omega
  have HN := Lib.hid (New_any m w1 hm1 (by omega))
  clear hbad HMI
  go_upto_region 3 with fail
  clear x0
  refine HN.out.mono ?_
  rintro e w2 ⟨gd, Fd, rfl, hd, hb2⟩
  have HD := Lib.hid hd
  have HB2 := Lib.hid hb2
  have HX := Lib.hid (HX.out.below hb2)
  have HR := Lib.hid (refNew03_good m w2 hm1 (by omega))
  have x0 := HX.out.c0
  clear hd hb2 HN
  go_upto_region 5 with fail
  go_upto_region 6 with fail
  clear x0
  refine HR.out.mono ?_
  rintro e w3 ⟨v3, rfl, hrk, hb3⟩
  obtain ⟨bA, bn, bc, wA, wn, wc, dn, po, fa, wi, rfl⟩ := hrk.open6
  have HRK := Lib.hid hrk
  have HB3 := Lib.hid hb3
  have HX := Lib.hid (HX.out.below hb3)
  have x7 := Lib.hid (B6.new w3 (.slice bA bn bc) (.slice wA wn wc) (.bool dn) (.int .i64 po) (.int .i64 fa) (.int .i64 wi))
  have HB4 : Hid (Below w3.heap.size w3 (w3.alloc (.cells #[.slice bA bn bc, .slice wA wn wc, .bool dn, .int .i64 po, .int .i64 fa, .int .i64 wi] 33))) := Lib.hid (gr_alloc (gr_refl w3) _)
  have HS4 : Hid ((w3.alloc (.cells #[.slice bA bn bc, .slice wA wn wc, .bool dn, .int .i64 po, .int .i64 fa, .int .i64 wi] 33)).heap.size = w3.heap.size + 1) := Lib.hid (World.size_alloc _ _)
  clear hrk hb3 HR
  go_upto_region 6 with fail
  generalize w3.alloc (.cells #[.slice bA bn bc, .slice wA wn wc, .bool dn, .int .i64 po, .int .i64 fa, .int .i64 wi] 33) = w4 at *
  have HX := Lib.hid (HX.out.below HB4.out)
  have hx5 : BoxI (w4.alloc (.cells #[.int .i64 0] 3)) w4.heap.size 0 := heap_alloc_new w4 _
  have HX5 := Lib.hid hx5
  have HB5 : Hid (Below w4.heap.size w4 (w4.alloc (.cells #[.int .i64 0] 3))) := Lib.hid (gr_alloc (gr_refl w4) _)
  have HS5 : Hid ((w4.alloc (.cells #[.int .i64 0] 3)).heap.size = w4.heap.size + 1) := Lib.hid (World.size_alloc _ _)
  clear hx5
  go_upto_region 8 with fail
  generalize w4.alloc (.cells #[.int .i64 0] 3) = w5 at *
  have HX := Lib.hid (HX.out.below HB5.out)
  have HX7 := Lib.hid (x7.out.below HB5.out)
  obtain ⟨gl, hgl⟩ : ∃ gl, gl = w4.heap.size := ⟨_, rfl⟩
  have HGL := Lib.hid hgl
  rw [← hgl] at HX5 ⊢
  have hdlt : (newD m).blocks.length = m := List.length_replicate ..
  have HB25 : Hid (Below w2.heap.size w2 w5) := Lib.hid ((HB3.out.trans (HB4.out.mono HB3.out.size)).trans (HB5.out.mono (Nat.le_trans HB3.out.size HB4.out.size)))
  have HD5 := Lib.hid (HD.out.below HB25.out)
  have HBW5 : Hid (Below w.heap.size w w5) := Lib.hid (HBa.out.trans ((HB2.out.trans (HB25.out.mono HB2.out.size)).mono HBa.out.size))
  have HSZ : Hid (w4.heap.size = w3.heap.size + 1 ∧ w5.heap.size = w4.heap.size + 1) := Lib.hid ⟨HS4.out, HS5.out⟩
  have HRK5 := Lib.hid ((HRK.out.below HB4.out).below HB5.out)
  have x1 := HX.out.c1
  have x2 := HX.out.c2
  have x3 := HX.out.c3
  have x4 := HX.out.c4
  have x5 := HX.out.c5
  clear HS4 HS5 x7 hgl
  cases hmay : mayP m bs pg fr ep ct with
  | false =>
   have HNB := Lib.hid (PNew_bad w5 (fun _ => False) w1.heap.size gd Fd (newD m) bs pg fr ep ct (walP gl) HD5.out (by rw [hdlt]; exact hmay))
   unfold walP at HNB
   have hbn := HRK5.out.at_.1
   have HRB := Lib.hid (fun W => rNew_bad W (bA := bA) (wA := wA) (bn := bn) (bc := bc) (wn := wn) (wc := wc) (dn := dn) (po := po) (fa := fa) (wi := wi) bs pg fr ep ct (by omega) (by rw [hbn, hdlt]; exact hmay))
   clear hmay hbn hdlt
   have y0 := HX7.out.c0
   have y1 := HX7.out.c1
   have y2 := HX7.out.c2
   have y3 := HX7.out.c3
   have y4 := HX7.out.c4
   have y5 := HX7.out.c5
   go_upto_region 9 with fail
   refine HNB.out.mono ?_
   rintro e w' ⟨rfl, rfl⟩
   go_upto_region 10 with fail
   refine (HRB.out w5).mono ?_
   rintro e w6 ⟨rfl, hb6⟩
   have hbw6 := HBW5.out.trans (hb6.mono HBW5.out.size)
   have HBW6 := Lib.hid hbw6
   have hgr := gr_alloc (gr_refl w6) (.cells #[.slice none 0 0, .slice none 0 0, .bool false, .int .i64 0, .int .i64 0, .int .i64 0, .int .i64 0, .int .i64 0, .int .i64 0, .int .i64 0, .int .i64 0, .int .i64 0, .slice none 0 0, .int .i64 0] 42)
   have HB67 := Lib.hid hgr
   clear hbw6 hgr hb6 HRB HNB x1 x2 x3 x4 x5 y0 y1 y2 y3 y4 y5
   go_upto_region 10 with fail
   generalize w6.alloc (.cells #[.slice none 0 0, .slice none 0 0, .bool false, .int .i64 0, .int .i64 0, .int .i64 0, .int .i64 0, .int .i64 0, .int .i64 0, .int .i64 0, .int .i64 0, .int .i64 0, .slice none 0 0, .int .i64 0] 42) = w7 at *
   have hpp := eqP_ee
   have hb7 : Below w.heap.size w w7 := HBW6.out.trans (HB67.out.mono HBW6.out.size)
   go_wp2_with fail
   refine (HAW.out _).mono ?_
   rintro e w9 ⟨rfl, hb9⟩
   have HB9 := Lib.hid (hb7.trans (hb9.mono hb7.size))
   clear hb9
   go_wp2_with fail
   go_ret
   exact ⟨rfl, HB9.out⟩
  | true =>
   have hm3 := hmay
   unfold mayP at hm3
   simp only [Bool.and_eq_true, decide_eq_true_eq] at hm3
   obtain ⟨b1, rfl⟩ := Int.eq_ofNat_of_zero_le (show 0 ≤ bs by omega)
   obtain ⟨p1, rfl⟩ := Int.eq_ofNat_of_zero_le (show 0 ≤ pg by omega)
   obtain ⟨f1, rfl⟩ := Int.eq_ofNat_of_zero_le (show 0 ≤ fr by omega)
   obtain ⟨e1, rfl⟩ := Int.eq_ofNat_of_zero_le (show 0 ≤ ep by omega)
   obtain ⟨c1, rfl⟩ := Int.eq_ofNat_of_zero_le (show 0 ≤ ct by omega)
   have hc1 : c1 ≤ 4294967295 := by omega
   have HC1 := Lib.hid hc1
   have hsz := HSZ.out
   have hglv := HGL.out
   have h23 := HB3.out.size
   have HFL := Lib.hid (fun k hk => (HD.out.foot_lt k hk).2)
   have hb15 : Below w1.heap.size w1 w5 := HB2.out.trans (HB25.out.mono HB2.out.size)
   have HB15 := Lib.hid hb15
   have HNP := Lib.hid (PNew_pj (w0 := w1) (w := w5) (gd := gd) (wv := walP gl) (L := some 0) (D := newD m) (fun _ => False) Fd b1 p1 f1 e1 c1 hb15 HD5.out (.inr ⟨_, _, rfl⟩) (by rw [hdlt]; exact hmay) (fun _ e => e.elim) (HX5.out.lv (fun e => by
    rcases e with e | e | e
    ·have := HFL.out _ e; omega
    ·exact e
    ·omega)))
   unfold walP at HNP
   have HRG := Lib.hid (fun W (hk : RK (plusG (fun _ => False) w2 w3) W (.agg #[.slice bA bn bc, .slice wA wn wc, .bool dn, .int .i64 po, .int .i64 fa, .int .i64 wi]) (newD m)) => rNew_good hk b1 p1 f1 e1 c1 (by rw [hdlt]; omega) (by rw [hdlt]; exact hmay))
   clear hmay hm3 hc1 hsz hglv h23 hb15 hdlt
   have y0 := HX7.out.c0
   have y1 := HX7.out.c1
   have y2 := HX7.out.c2
   have y3 := HX7.out.c3
   have y4 := HX7.out.c4
   have y5 := HX7.out.c5
   go_upto_region 9 with fail
   refine HNP.out.mono ?_
   rintro e w6 ⟨gp, S6, rfl, hj, hb6, hs6⟩
   have HJ := Lib.hid hj
   have HB6 := Lib.hid hb6
   have HS6 := Lib.hid hs6
   have HX := Lib.hid (HX.out.below hb6)
   have HX7 := Lib.hid (HX7.out.below hb6)
   have HRG6 := Lib.hid (HRG.out w6 (HRK5.out.below hb6))
   clear hj hb6 hs6 HNP HRG x1 x2 x3 x4 x5 y0 y1 y2 y3 y4 y5
   have x1 := HX.out.c1
   have x2 := HX.out.c2
   have x3 := HX.out.c3
   have x4 := HX.out.c4
   have x5 := HX.out.c5
   have y0 := HX7.out.c0
   have y1 := HX7.out.c1
   have y2 := HX7.out.c2
   have y3 := HX7.out.c3
   have y4 := HX7.out.c4
   have y5 := HX7.out.c5
   go_upto_region 10 with fail
   refine HRG6.out.mono ?_
   rintro e w7 ⟨v7, rfl, hrp, hb7⟩
   obtain ⟨P0, hP0⟩ : ∃ P0, P0 = newP b1 p1 f1 e1 c1 := ⟨_, rfl⟩
   have HPC : Hid (P0.count = c1) := Lib.hid (by rw [hP0]; rfl)
   rw [← hP0] at HJ hrp
   have HRP := Lib.hid hrp
   obtain ⟨bA3, bn3, bc3, wA3, wn3, wc3, dn3, po3, fa3, wi3, fv3, q3, rfl, h1, h2, h3⟩ := hrp
   obtain ⟨A3, c3, rfl, _, _, _⟩ := h2.form
   obtain ⟨n3, hn3⟩ : ∃ n3, n3 = q3.length := ⟨_, rfl⟩
   rw [← hn3] at HRP ⊢
   have HB7 := Lib.hid hb7
   have HX := Lib.hid (HX.out.below hb7)
   have hgr := gr_alloc (gr_refl w7) (.cells #[.slice bA3 bn3 bc3, .slice wA3 wn3 wc3, .bool dn3, .int .i64 po3, .int .i64 fa3, .int .i64 wi3, .int .i64 (P0.base : Int), .int .i64 (P0.pages : Int), .int .i64 (P0.most : Int), .int .i64 (P0.epoch : Int), .int .i64 (P0.count : Int), .int .i64 0, .slice A3 n3 c3, .int .i64 (P0.hand : Int)] 42)
   have HB8 := Lib.hid hgr
   have HX := Lib.hid (HX.out.below hgr)
   have HW := Lib.hid (B14.new w7 (.slice bA3 bn3 bc3) (.slice wA3 wn3 wc3) (.bool dn3) (.int .i64 po3) (.int .i64 fa3) (.int .i64 wi3) (.int .i64 (P0.base : Int)) (.int .i64 (P0.pages : Int)) (.int .i64 (P0.most : Int)) (.int .i64 (P0.epoch : Int)) (.int .i64 (P0.count : Int)) (.int .i64 0) (.slice A3 n3 c3) (.int .i64 (P0.hand : Int)))
   clear h1 h2 h3 hn3 hb7 hgr hP0 HRG6 HX7 x1 x2 x3 x4 x5 y0 y1 y2 y3 y4 y5
   go_upto_region 10 with fail
   generalize w7.alloc (.cells #[.slice bA3 bn3 bc3, .slice wA3 wn3 wc3, .bool dn3, .int .i64 po3, .int .i64 fa3, .int .i64 wi3, .int .i64 (P0.base : Int), .int .i64 (P0.pages : Int), .int .i64 (P0.most : Int), .int .i64 (P0.epoch : Int), .int .i64 (P0.count : Int), .int .i64 0, .slice A3 n3 c3, .int .i64 (P0.hand : Int)] 42) = w8 at *
   obtain ⟨gw, hgw⟩ : ∃ g, g = w7.heap.size := ⟨_, rfl⟩
   have HGW := Lib.hid hgw
   rw [← hgw] at HW ⊢
   clear hgw
   have HQS : Hid (QS w1 w8 gd gp gl (.agg #[.slice bA3 bn3 bc3, .slice wA3 wn3 wc3, .bool dn3, .int .i64 po3, .int .i64 fa3, .int .i64 wi3, .int .i64 (P0.base : Int), .int .i64 (P0.pages : Int), .int .i64 (P0.most : Int), .int .i64 (P0.epoch : Int), .int .i64 (P0.count : Int), .int .i64 0, .slice A3 n3 c3, .int .i64 (P0.hand : Int)]) 0 (plusG (fun _ => False) w2 w3) (newD m) P0 S6) := Lib.hid (by
    have hsz := HSZ.out
    have hglv := HGL.out
    have h12 := HB2.out.size
    have h23 := HB3.out.size
    have h56 := HB6.out.size
    have h67 := HB7.out.size
    have h78 := HB8.out.size
    have hb68 : Below w6.heap.size w6 w8 := HB7.out.trans (HB8.out.mono HB7.out.size)
    refine ⟨HJ.out.below hb68, HRP.out.below HB8.out, ((HB6.out.trans (hb68.mono HB6.out.size)).block _ (by omega)).trans HX5.out, fun e => ?_, fun e => ?_, by omega, fun k e eg => ?_, fun k e => ?_, DN.new m (by omega)⟩
    ·rcases HS6.out gl e with e | e | e
     ·have := HFL.out _ e; omega
     ·exact e
     ·omega
    ·rcases e with e | e
     ·exact e
     ·omega
    ·rcases eg with eg | eg
     ·exact eg
     ·rcases HS6.out k e with e | e | e
      ·have := HFL.out _ e; omega
      ·exact e
      ·omega
    ·rcases e with e | e
     ·exact e.elim
     ·exact ⟨by omega, by omega⟩)
   have HWN : Hid (¬ S6 gw ∧ ¬ plusG (fun _ => False) w2 w3 gw ∧ w1.heap.size ≤ gw ∧ gw ≠ gl) := Lib.hid (by
    have hsz := HSZ.out
    have hglv := HGL.out
    have h12 := HB2.out.size
    have h23 := HB3.out.size
    have h56 := HB6.out.size
    have h67 := HB7.out.size
    have hgw := HGW.out
    refine ⟨fun e => ?_, fun e => ?_, by omega, by omega⟩
    ·have := HJ.out.lt e; omega
    ·rcases e with e | e
     ·exact e
     ·omega)
   have HBW8 : Hid (Below w.heap.size w w8) := Lib.hid (by
    have b6 := HBW5.out.trans (HB6.out.mono HBW5.out.size)
    have b7 := b6.trans (HB7.out.mono b6.size)
    exact b7.trans (HB8.out.mono b7.size))
   have HBL : Hid ((newD m).blocks.length = m ∧ (newD m).pending.length = 0 ∧ P0.count ≤ 4294967295) := Lib.hid ⟨List.length_replicate .., rfl, by rw [HPC.out]; exact HC1.out⟩
   generalize newD m = D0 at *
   generalize plusG (fun _ => False) w2 w3 = G0 at *
   clear HRP HB7 HB8 HB6 HS6 HJ HRK5 HRK HB3 HB4 HB5 HB25 HD HD5 HX5 HB2 HFL HB15 HBW5 HC1 HPC HGL HGW HSZ
   generalize (.int .i64 (b1 : Int) : Value) = vb at *
   generalize (.int .i64 (p1 : Int) : Value) = vp at *
   generalize (.int .i64 (f1 : Int) : Value) = vf at *
   generalize (.int .i64 (e1 : Int) : Value) = ve at *
   generalize (.int .i64 (c1 : Int) : Value) = vc at *
   go_upto_region 12 with fail
   go_upto_region 13 with fail
   go_loopw [15] (fun x wr => ∃ (k : Nat) (lim : Int) (bA3 : Option Addr) (bn3 bc3 : Nat) (wA3 : Option Addr) (wn3 wc3 : Nat) (dn3 : Bool) (po3 fa3 wi3 : Int) (A3 : Option Addr) (n3 c3 : Nat) (G S : Nat → Prop) (D : DiskS) (P : PoS), k ≤ n ∧ k ≤ 80 ∧ x = .int .i64 (k : Int) ∧ Hid (QS w1 wr gd gp gl (.agg #[.slice bA3 bn3 bc3, .slice wA3 wn3 wc3, .bool dn3, .int .i64 po3, .int .i64 fa3, .int .i64 wi3, .int .i64 (P.base : Int), .int .i64 (P.pages : Int), .int .i64 (P.most : Int), .int .i64 (P.epoch : Int), .int .i64 (P.count : Int), .int .i64 lim, .slice A3 n3 c3, .int .i64 (P.hand : Int)]) lim G D P S) ∧ Hid (B14 wr gw (.slice bA3 bn3 bc3) (.slice wA3 wn3 wc3) (.bool dn3) (.int .i64 po3) (.int .i64 fa3) (.int .i64 wi3) (.int .i64 (P.base : Int)) (.int .i64 (P.pages : Int)) (.int .i64 (P.most : Int)) (.int .i64 (P.epoch : Int)) (.int .i64 (P.count : Int)) (.int .i64 lim) (.slice A3 n3 c3) (.int .i64 (P.hand : Int))) ∧ Hid (¬ S gw ∧ ¬ G gw ∧ w1.heap.size ≤ gw ∧ gw ≠ gl) ∧ Hid (H6 wr w.heap.size (.int .i64 (m : Int)) vb vp vf ve vc) ∧ Hid (D.blocks.length = m ∧ D.pending.length ≤ 300 * k ∧ P.count ≤ 4294967295 + 300 * k) ∧ Hid (Below w.heap.size w wr)) (fun x _ => 80 - (RowKit.intOf x).toNat)
   case atStart => exact ⟨0, 0, bA3, bn3, bc3, wA3, wn3, wc3, dn3, po3, fa3, wi3, A3, n3, c3, G0, S6, D0, P0, by omega, by omega, rfl, HQS, HW, HWN, HX, Lib.hid ⟨HBL.out.1, by rw [HBL.out.2.1]; exact Nat.zero_le _, HBL.out.2.2⟩, HBW8⟩
   case round =>
    clear HQS HW HWN HX HBL HBW8
    obtain ⟨k, lim, bA4, bn4, bc4, wA4, wn4, wc4, dn4, po4, fa4, wi4, A4, n4, c4, G, S, D, P, hkn, hk80, rfl, HQ, HW, HWN, HX, HBL, HBW⟩ := hrel
    by_cases hlt : k < n ∧ k < 80
    ·obtain ⟨hl1, hl2⟩ := hlt
     have t1 : decide ((k : Int) < (n : Int)) = true := decide_eq_true (by omega)
     have t1' : decide (k < n) = true := decide_eq_true hl1
     have t2 : decide ((k : Int) < 80) = true := decide_eq_true (by omega)
     have t2' : decide (k < 80) = true := decide_eq_true hl2
     have i1 : (0 : Int) ≤ (k : Int) := Int.natCast_nonneg _
     have i2 : (k : Int) < (n : Int) := by omega
     obtain ⟨g, o, sp, rfl, hl, hsp⟩ := HSR.out.2 k hl1
     obtain ⟨K, nk, ck, q0, q1, q2, q3, q4, q5, q6, q7, q8, hLR, hnk, hnn⟩ := hsp
     obtain ⟨kd, pa, sd, sh, nn, er, keep, torn, cut⟩ := sp
     dsimp only at q0 q1 q2 q3 q4 q5 q6 q7 q8 hLR hnn
     have HKeep := Lib.hid (fun (W : World) (hW : Below w.heap.size w W) => (⟨keep_of_below hW q0, keep_of_below hW q1, keep_of_below hW q2, keep_of_below hW q3, keep_of_below hW q4, keep_of_below hW q5, keep_of_below hW q6, keep_of_below hW q7, keep_of_below hW q8⟩ : W.cell? ⟨g, o + k * 9, none⟩ = _ ∧ W.cell? ⟨g, o + k * 9 + 1, none⟩ = _ ∧ W.cell? ⟨g, o + k * 9 + 2, none⟩ = _ ∧ W.cell? ⟨g, o + k * 9 + 3, none⟩ = _ ∧ W.cell? ⟨g, o + k * 9 + 4, none⟩ = _ ∧ W.cell? ⟨g, o + k * 9 + 5, none⟩ = _ ∧ W.cell? ⟨g, o + k * 9 + 6, none⟩ = _ ∧ W.cell? ⟨g, o + k * 9 + 7, none⟩ = _ ∧ W.cell? ⟨g, o + k * 9 + 8, none⟩ = _))
     have HLR := Lib.hid (fun (W : World) (hW : Below w.heap.size w W) => (show LR W K nk keep from Rd.below hLR hW))
     have HNN : Hid (nk ≤ 140737488351232 ∧ nn ≤ 9223372036854775807) := Lib.hid ⟨hnk, hnn⟩
     have HKB : Hid (∀ ad, K = some ad → 0 < nk → ad.block < w.heap.size) := Lib.hid (fun ad e h0 => by
      obtain ⟨g', o', e2, hc⟩ := Rd.plain hLR h0 (by omega)
      rw [e2] at e
      cases e
      have hl : (keep.map Value.bool).length = nk := by have := hLR.1; omega
      exact World.block_lt_of_cell? _ _ (hc 0 _ (List.getElem?_eq_getElem (by omega))))
     clear q0 q1 q2 q3 q4 q5 q6 q7 q8 hLR hl hnk hnn
     obtain ⟨q0, q1, q2, q3, q4, q5, q6, q7, q8⟩ := HKeep.out wr HBW.out
     by_cases h4 : kd = 4
     ·have t4 : (kd == 4) = true := beq_iff_eq.2 h4
      have g0 := HQ.out.bx.c0
      have gz := HQ.out.bx.fz
      have HG2 := Lib.hid (HQ.out.bx.set nn)
      have HO2 : Hid (Off (fun k => k = gl) wr (wr.setCell ⟨gl, 0, none⟩ (.int .i64 nn))) := Lib.hid ((Off.refl _ wr).setCell _ rfl)
      clear h4
      go_upto_region 17 with fail
      clear g0 gz q0 q1 q2 q3 q4 q5 q6 q7 q8
      generalize wr.setCell ⟨gl, 0, none⟩ (.int .i64 nn) = wq at *
      have HW2 := Lib.hid (HW.out.off HO2.out HWN.out.2.2.2)
      have g0 := HG2.out.c0
      have y11 := HW2.out.c11
      have yz11 := HW2.out.fz 11
      have HW3 := Lib.hid (HW2.out.set11 (.int .i64 nn))
      have HO3 : Hid (Off (fun k => k = gw) wq (wq.setCell ⟨gw, 11, none⟩ (.int .i64 nn))) := Lib.hid ((Off.refl _ wq).setCell _ rfl)
      go_wp2_with fail
      clear g0 y11 yz11
      have hall : Off (fun k => k = gl ∨ k = gw) wr (wq.setCell ⟨gw, 11, none⟩ (.int .i64 nn)) := (HO2.out.mono (fun k _ e => .inl e)).trans (HO3.out.mono (fun k _ e => .inr e))
      have HQ3 := Lib.hid (HQ.out.limit nn hall (HG2.out.off HO3.out (fun e => HWN.out.2.2.2 e.symm)) HWN.out.1 HWN.out.2.1 HWN.out.2.2.1)
      have HX3 := Lib.hid (HX.out.off hall (fun e => by have := HSa.out; have := HQ.out.bb; have := HWN.out.2.2.1; rcases e with e | e <;> omega))
      have HBW3 : Hid (Below w.heap.size w _) := Lib.hid (HBW.out.trans (hall.below (fun k e => by have := HSa.out; have := HQ.out.bb; have := HWN.out.2.2.1; rcases e with e | e <;> omega) HBW.out.size))
      clear hall
      go_roundw
      case rel => exact ⟨k + 1, nn, bA4, bn4, bc4, wA4, wn4, wc4, dn4, po4, fa4, wi4, A4, n4, c4, G, S, D, P, by omega, by omega, by go_num, HQ3, HW3, HWN, HX3, Lib.hid ⟨HBL.out.1, by have := HBL.out.2.1; omega, by have := HBL.out.2.2; omega⟩, HBW3⟩
      case measure => simp [RowKit.intOf]; omega
     ·have t4 : (kd == 4) = false := beq_eq_false_iff_ne.2 h4
      clear h4
      have HDO := Lib.hid (fun W (hW : Below wr.heap.size wr W) => does_any (HQ.out.below hW) kd pa sd sh nn er K nk ck keep torn cut HNN.out.2 (HLR.out W (HBW.out.trans (hW.mono HBW.out.size))) (fun ad e h0 hs => by have := HKB.out ad e h0; have := HQ.out.pj.sb _ hs; have := HSa.out; omega) (by have := HNN.out.1; omega) (by have := HBL.out.2.1; omega) (by have := HBL.out.2.2; omega))
      have Y0 := Lib.hid HW.out.c0
      have Y1 := Lib.hid HW.out.c1
      have Y2 := Lib.hid HW.out.c2
      have Y3 := Lib.hid HW.out.c3
      have Y4 := Lib.hid HW.out.c4
      have Y5 := Lib.hid HW.out.c5
      have Y6 := Lib.hid HW.out.c6
      have Y7 := Lib.hid HW.out.c7
      have Y8 := Lib.hid HW.out.c8
      have Y9 := Lib.hid HW.out.c9
      have Y10 := Lib.hid HW.out.c10
      have Y11 := Lib.hid HW.out.c11
      have Y12 := Lib.hid HW.out.c12
      have Y13 := Lib.hid HW.out.c13
      have Q0 := Lib.hid q0
      have Q1 := Lib.hid q1
      have Q2 := Lib.hid q2
      have Q3 := Lib.hid q3
      have Q4 := Lib.hid q4
      have Q5 := Lib.hid q5
      have Q6 := Lib.hid q6
      have Q7 := Lib.hid q7
      have Q8 := Lib.hid q8
      go_upto_region 18 with fail
      clear q0 q1 q2 q3 q4 q5 q6 q7 q8
      go_upto_region 19 with fail
      go_cut [16] from 88 to 162 (fun t16 wx => ∃ (k2 : Nat) (lim : Int) (bA3 : Option Addr) (bn3 bc3 : Nat) (wA3 : Option Addr) (wn3 wc3 : Nat) (dn3 : Bool) (po3 fa3 wi3 : Int) (A3 : Option Addr) (n3 c3 : Nat) (G S : Nat → Prop) (D : DiskS) (P : PoS), k2 = k + 1 ∧ t16 = .bool true ∧ Hid (QS w1 wx gd gp gl (.agg #[.slice bA3 bn3 bc3, .slice wA3 wn3 wc3, .bool dn3, .int .i64 po3, .int .i64 fa3, .int .i64 wi3, .int .i64 (P.base : Int), .int .i64 (P.pages : Int), .int .i64 (P.most : Int), .int .i64 (P.epoch : Int), .int .i64 (P.count : Int), .int .i64 lim, .slice A3 n3 c3, .int .i64 (P.hand : Int)]) lim G D P S) ∧ Hid (B14 wx gw (.slice bA3 bn3 bc3) (.slice wA3 wn3 wc3) (.bool dn3) (.int .i64 po3) (.int .i64 fa3) (.int .i64 wi3) (.int .i64 (P.base : Int)) (.int .i64 (P.pages : Int)) (.int .i64 (P.most : Int)) (.int .i64 (P.epoch : Int)) (.int .i64 (P.count : Int)) (.int .i64 lim) (.slice A3 n3 c3) (.int .i64 (P.hand : Int))) ∧ Hid (¬ S gw ∧ ¬ G gw ∧ w1.heap.size ≤ gw ∧ gw ≠ gl) ∧ Hid (H6 wx w.heap.size (.int .i64 (m : Int)) vb vp vf ve vc) ∧ Hid (D.blocks.length = m ∧ D.pending.length ≤ 300 * k2 ∧ P.count ≤ 4294967295 + 300 * k2) ∧ Hid (Below w.heap.size w wx))
      case first =>
       refine wp_region_any (by kernel_rfl) ?_
       refine' wpAny_to_tail (l0 := #[false, false, false, false, false, false, false, false, false, false, false, false, false]) (by kernel_rfl) (by kernel_rfl) (by kernel_rfl) (by kernel_rfl) (by kernel_rfl)
        [MP.is (.pointer (some ⟨gd, 0, none⟩)), MP.is (.pointer (some ⟨gp, 0, none⟩)), MP.is (.agg #[.slice bA4 bn4 bc4, .slice wA4 wn4 wc4, .bool dn4, .int .i64 po4, .int .i64 fa4, .int .i64 wi4, .int .i64 (P.base : Int), .int .i64 (P.pages : Int), .int .i64 (P.most : Int), .int .i64 (P.epoch : Int), .int .i64 (P.count : Int), .int .i64 lim, .slice A4 n4 c4, .int .i64 (P.hand : Int)]), MP.is (.slice (some ⟨g, o, none⟩) n c), MP.is (.int .i64 (k : Int)), MP.is (.pointer (some ⟨g, o + k * 9, none⟩)), MP.is (.agg #[.int .i64 kd, .int .i64 pa, .int .i64 sd, .bool sh, .int .i64 nn, .int .i64 er, .slice K nk ck, .int .i64 torn, .int .i64 cut]), MP.any, MP.any, MP.any, MP.any, MP.any, MP.any]
        (fun j => j == 7 || j == 8 || j == 9 || j == 10 || j == 11 || j == 12) #[true, true, true, true, true, true, true, false, false, false, false, false, false] rfl (by kernel_rfl) rfl (by kernel_rfl) (by kernel_rfl) (by kernel_rfl) (by kernel_rfl) (fun _ => undef) (by rfl) ?hR01 ?hAA1 ?hst1 ?hend1
       case hR01 =>
        intro j hj
        have hj2 : j ∈ [] := hj
        cases hj2
       case hAA1 =>
        intro f
        conv => lhs; simp only [putA, dstOf, List.size_toArray, List.length_cons, List.length_nil, Nat.zero_add, Nat.reduceAdd, List.getElem?_toArray, List.getElem?_cons_zero, List.getElem?_cons_succ, Option.bind_some, Act.put, List.setIfInBounds_toArray, List.set_cons_zero, List.set_cons_succ]
        first | done | exact rfl
       case hst1 =>
        refine Steps.of_list (l' := [0, 1, 2, 3, 4, 5, 6]) (by kernel_rfl) ?_
        refine Steps.cons rfl ?_ ?_
        ·intro f wz hB h K Q hK
         clear h
         try simp only [List.getElem_toArray, List.getElem_cons_zero]
         try rw [if_pos (by rfl)]
         go_simp
         exact hK _ _ (gr_refl _) rfl
        refine Steps.cons rfl ?_ ?_
        ·intro f wz hB h K Q hK
         clear h
         try rw [if_pos (by rfl)]
         go_simp
         exact hK _ _ (gr_refl _) rfl
        refine Steps.cons rfl ?_ ?_
        ·intro f wz hB h K Q hK
         clear h
         try rw [if_pos (by rfl)]
         have y0 := keep_of_below hB Y0.out
         have y1 := keep_of_below hB Y1.out
         have y2 := keep_of_below hB Y2.out
         have y3 := keep_of_below hB Y3.out
         have y4 := keep_of_below hB Y4.out
         have y5 := keep_of_below hB Y5.out
         have y6 := keep_of_below hB Y6.out
         have y7 := keep_of_below hB Y7.out
         have y8 := keep_of_below hB Y8.out
         have y9 := keep_of_below hB Y9.out
         have y10 := keep_of_below hB Y10.out
         have y11 := keep_of_below hB Y11.out
         have y12 := keep_of_below hB Y12.out
         have y13 := keep_of_below hB Y13.out
         have y14 := keep_of_below hB Q0.out
         have y15 := keep_of_below hB Q1.out
         have y16 := keep_of_below hB Q2.out
         have y17 := keep_of_below hB Q3.out
         have y18 := keep_of_below hB Q4.out
         have y19 := keep_of_below hB Q5.out
         have y20 := keep_of_below hB Q6.out
         have y21 := keep_of_below hB Q7.out
         have y22 := keep_of_below hB Q8.out
         go_simp
         exact hK _ _ (gr_refl _) rfl
        refine Steps.cons rfl ?_ ?_
        ·intro f wz hB h K Q hK
         clear h
         try rw [if_pos (by rfl)]
         go_simp
         exact hK _ _ (gr_refl _) rfl
        refine Steps.cons rfl ?_ ?_
        ·intro f wz hB h K Q hK
         clear h
         try rw [if_pos (by rfl)]
         go_simp
         exact hK _ _ (gr_refl _) rfl
        refine Steps.cons rfl ?_ ?_
        ·intro f wz hB h K Q hK
         have h3 : (MP.is (.slice (some ⟨g, o, none⟩) n c)).p (f 3) wz := h 3 (by kernel_rfl)
         have e3 : f 3 = (.slice (some ⟨g, o, none⟩) n c) := h3
         have h4 : (MP.is (.int .i64 (k : Int))).p (f 4) wz := h 4 (by kernel_rfl)
         have e4 : f 4 = (.int .i64 (k : Int)) := h4
         simp only [e3, e4] at hK ⊢
         clear e3 e4
         clear h
         try rw [if_pos (by rfl)]
         go_simp
         exact hK _ _ (gr_refl _) rfl
        refine Steps.cons rfl ?_ ?_
        ·intro f wz hB h K Q hK
         have h5 : (MP.is (.pointer (some ⟨g, o + k * 9, none⟩))).p (f 5) wz := h 5 (by kernel_rfl)
         have e5 : f 5 = (.pointer (some ⟨g, o + k * 9, none⟩)) := h5
         simp only [e5] at hK ⊢
         clear e5
         clear h
         try rw [if_pos (by rfl)]
         have y0 := keep_of_below hB Y0.out
         have y1 := keep_of_below hB Y1.out
         have y2 := keep_of_below hB Y2.out
         have y3 := keep_of_below hB Y3.out
         have y4 := keep_of_below hB Y4.out
         have y5 := keep_of_below hB Y5.out
         have y6 := keep_of_below hB Y6.out
         have y7 := keep_of_below hB Y7.out
         have y8 := keep_of_below hB Y8.out
         have y9 := keep_of_below hB Y9.out
         have y10 := keep_of_below hB Y10.out
         have y11 := keep_of_below hB Y11.out
         have y12 := keep_of_below hB Y12.out
         have y13 := keep_of_below hB Y13.out
         have y14 := keep_of_below hB Q0.out
         have y15 := keep_of_below hB Q1.out
         have y16 := keep_of_below hB Q2.out
         have y17 := keep_of_below hB Q3.out
         have y18 := keep_of_below hB Q4.out
         have y19 := keep_of_below hB Q5.out
         have y20 := keep_of_below hB Q6.out
         have y21 := keep_of_below hB Q7.out
         have y22 := keep_of_below hB Q8.out
         go_simp
         exact hK _ _ (gr_refl _) rfl
        exact Steps.nil
       intro f w5 hB5 hR
       conv => arg 7; simp only [putL, dstOf, List.size_toArray, List.length_cons, List.length_nil, Nat.zero_add, Nat.reduceAdd, List.getElem?_toArray, List.getElem?_cons_zero, List.getElem?_cons_succ, Option.bind_some, Act.put, List.setIfInBounds_toArray, List.set_cons_zero, List.set_cons_succ, Array.getD_eq_getD_getElem?, Option.getD_some, if_true, if_false, Bool.false_eq_true]
       have e0 : f 0 = (.pointer (some ⟨gd, 0, none⟩)) := hR 0 (by decide) rfl
       have e1 : f 1 = (.pointer (some ⟨gp, 0, none⟩)) := hR 1 (by decide) rfl
       have e2 : f 2 = (.agg #[.slice bA4 bn4 bc4, .slice wA4 wn4 wc4, .bool dn4, .int .i64 po4, .int .i64 fa4, .int .i64 wi4, .int .i64 (P.base : Int), .int .i64 (P.pages : Int), .int .i64 (P.most : Int), .int .i64 (P.epoch : Int), .int .i64 (P.count : Int), .int .i64 lim, .slice A4 n4 c4, .int .i64 (P.hand : Int)]) := hR 2 (by decide) rfl
       have e3 : f 3 = (.slice (some ⟨g, o, none⟩) n c) := hR 3 (by decide) rfl
       have e4 : f 4 = (.int .i64 (k : Int)) := hR 4 (by decide) rfl
       have e5 : f 5 = (.pointer (some ⟨g, o + k * 9, none⟩)) := hR 5 (by decide) rfl
       have e6 : f 6 = (.agg #[.int .i64 kd, .int .i64 pa, .int .i64 sd, .bool sh, .int .i64 nn, .int .i64 er, .slice K nk ck, .int .i64 torn, .int .i64 cut]) := hR 6 (by decide) rfl
       simp only [e0, e1, e2, e3, e4, e5, e6]
       clear e0 e1 e2 e3 e4 e5 e6 hR
       have HB5 : Hid (Below wr.heap.size wr w5) := Lib.hid (bel_drew hB5)
       have HDO5 := Lib.hid (HDO.out w5 HB5.out)
       have HWB5 := Lib.hid (HW.out.below HB5.out)
       have HX5b := Lib.hid (HX.out.below HB5.out)
       have HBW5 : Hid (Below w.heap.size w w5) := Lib.hid (HBW.out.trans (HB5.out.mono HBW.out.size))
       clear hB5 Y0 Y1 Y2 Y3 Y4 Y5 Y6 Y7 Y8 Y9 Y10 Y11 Y12 Y13 Q0 Q1 Q2 Q3 Q4 Q5 Q6 Q7 Q8
       refine wpAny_of_held (S := fun _ => True) _ _ _ _ ?_
       refine wpAnyH_ready (rs := [7]) (by kernel_rfl) (by simp) ?_
       refine AllReadyH.cons rfl (fun KK hK => ?_) (AllReadyH.nil)
       rw [if_pos (by rfl)]
       go_simp
       refine HDO5.out.mono ?_
       rintro e w6 ⟨v6, G6, S6, D6, P6, rfl, hq6, hm6, hg6, hb6⟩
       obtain ⟨bA6, bn6, bc6, wA6, wn6, wc6, dn6, po6, fa6, wi6, fv6, q6, rfl, h61, h62, h63⟩ := id hq6.rp
       obtain ⟨A6, c6, rfl, _, _, _⟩ := h62.form
       obtain ⟨n6, hn6⟩ : ∃ n6, n6 = q6.length := ⟨_, rfl⟩
       rw [← hn6] at hq6 ⊢
       have HQ6 := Lib.hid hq6
       have HM6 := Lib.hid hm6
       have HG6 := Lib.hid hg6
       have HBL6 := Lib.hid hb6
       have HWC := Lib.hid (HWB5.out.off hm6.1 HWN.out.1)
       clear h61 h62 h63 hn6 hq6 hm6 hg6 hb6
       have r0 := HWC.out.c0
       have r1 := HWC.out.c1
       have r2 := HWC.out.c2
       have r3 := HWC.out.c3
       have r4 := HWC.out.c4
       have r5 := HWC.out.c5
       have r6 := HWC.out.c6
       have r7 := HWC.out.c7
       have r8 := HWC.out.c8
       have r9 := HWC.out.c9
       have r10 := HWC.out.c10
       have r11 := HWC.out.c11
       have r12 := HWC.out.c12
       have r13 := HWC.out.c13
       have rz0 := HWC.out.fz 0
       have rz1 := HWC.out.fz 1
       have rz2 := HWC.out.fz 2
       have rz3 := HWC.out.fz 3
       have rz4 := HWC.out.fz 4
       have rz5 := HWC.out.fz 5
       have rz6 := HWC.out.fz 6
       have rz7 := HWC.out.fz 7
       have rz8 := HWC.out.fz 8
       have rz9 := HWC.out.fz 9
       have rz10 := HWC.out.fz 10
       have rz11 := HWC.out.fz 11
       have rz12 := HWC.out.fz 12
       have rz13 := HWC.out.fz 13
       have HSx7 := Lib.hid (HWC.out.all (.slice bA6 bn6 bc6) (.slice wA6 wn6 wc6) (.bool dn6) (.int .i64 po6) (.int .i64 fa6) (.int .i64 wi6) (.int .i64 (P6.base : Int)) (.int .i64 (P6.pages : Int)) (.int .i64 (P6.most : Int)) (.int .i64 (P6.epoch : Int)) (.int .i64 (P6.count : Int)) (.int .i64 lim) (.slice A6 n6 c6) (.int .i64 (P6.hand : Int)))
       refine hK.out _ _ trivial (fun _ => ?_)
       clear hK KK
       try simp only [List.setIfInBounds_toArray, List.set_cons_zero, List.set_cons_succ]
       refine wpAnyH_ready (rs := [8]) (by kernel_rfl) (by simp) ?_
       refine AllReadyH.cons rfl (fun KK hK => ?_) (AllReadyH.nil)
       go_simp
       refine hK.out _ _ trivial (fun _ => ?_)
       clear hK KK
       try simp only [List.setIfInBounds_toArray, List.set_cons_zero, List.set_cons_succ]
       refine wpAnyH_ready (rs := [9, 10]) (by kernel_rfl) (by simp) ?_
       refine AllReadyH.cons rfl (fun KK hK => ?_) (AllReadyH.cons rfl (fun KK hK => ?_) (AllReadyH.nil))
       ·try simp only [List.getElem_toArray, List.getElem_cons_succ, List.getElem_cons_zero]
        go_simp
        refine hK.out _ _ trivial (fun _ => ?_)
        clear hK KK
        try simp only [List.setIfInBounds_toArray, List.set_cons_zero, List.set_cons_succ]
        refine wpAnyH_ready (rs := [10, 11]) (by kernel_rfl) (by simp) ?_
        refine AllReadyH.cons rfl (fun KK hK => ?_) (AllReadyH.cons rfl (fun KK hK => ?_) (AllReadyH.nil))
        ·try simp only [List.getElem_toArray, List.getElem_cons_succ, List.getElem_cons_zero]
         go_simp
         refine hK.out _ _ trivial (fun _ => ?_)
         clear hK KK
         try simp only [List.setIfInBounds_toArray, List.set_cons_zero, List.set_cons_succ]
         refine wpAnyH_ready (rs := [11]) (by kernel_rfl) (by simp) ?_
         refine AllReadyH.cons rfl (fun KK hK => ?_) (AllReadyH.nil)
         go_simp
         refine hK.out _ _ trivial (fun _ => ?_)
         clear hK KK
         try simp only [List.setIfInBounds_toArray, List.set_cons_zero, List.set_cons_succ]
         refine wpAnyH_ready (rs := [12]) (by kernel_rfl) (by simp) ?_
         refine AllReadyH.cons rfl (fun KK hK => ?_) (AllReadyH.nil)
         go_simp
         refine hK.out _ _ trivial (fun _ => ?_)
         clear hK KK
         try simp only [List.setIfInBounds_toArray, List.set_cons_zero, List.set_cons_succ]
         refine wpAnyH_done (by kernel_rfl) ?_ _
         go_wp2_with fail
         clear r0 r1 r2 r3 r4 r5 r6 r7 r8 r9 r10 r11 r12 r13 rz0 rz1 rz2 rz3 rz4 rz5 rz6 rz7 rz8 rz9 rz10 rz11 rz12 rz13
         obtain ⟨x7, x7o⟩ := HSx7.out _ rfl
         clear HSx7
         generalize ((((((((((((((w6.setCell ⟨gw, 0, none⟩ (.slice bA6 bn6 bc6)).setCell ⟨gw, 1, none⟩ (.slice wA6 wn6 wc6)).setCell ⟨gw, 2, none⟩ (.bool dn6)).setCell ⟨gw, 3, none⟩ (.int .i64 po6)).setCell ⟨gw, 4, none⟩ (.int .i64 fa6)).setCell ⟨gw, 5, none⟩ (.int .i64 wi6)).setCell ⟨gw, 6, none⟩ (.int .i64 (P6.base : Int))).setCell ⟨gw, 7, none⟩ (.int .i64 (P6.pages : Int))).setCell ⟨gw, 8, none⟩ (.int .i64 (P6.most : Int))).setCell ⟨gw, 9, none⟩ (.int .i64 (P6.epoch : Int))).setCell ⟨gw, 10, none⟩ (.int .i64 (P6.count : Int))).setCell ⟨gw, 11, none⟩ (.int .i64 lim)).setCell ⟨gw, 12, none⟩ (.slice A6 n6 c6)).setCell ⟨gw, 13, none⟩ (.int .i64 (P6.hand : Int))) = w7 at *
         have hwn := HWN.out
         have hS6 : ¬ S6 gw := fun e => by
          rcases HM6.out.2 _ e with e | e
          ·exact hwn.1 e
          ·have := (Array.getElem?_eq_some_iff.1 HWB5.out).1; omega
         have hG6 : ¬ G6 gw := fun e => by
          rcases HG6.out _ e with e | e
          ·exact hwn.2.1 e
          ·have := (Array.getElem?_eq_some_iff.1 HWB5.out).1; omega
         have hX6 := (HX5b.out.off HM6.out.1 (fun e => by have := HQ.out.pj.sb _ e; have := HSa.out; omega)).off x7o (by have := HSa.out; omega)
         have hbw6 : Below w.heap.size w w6 := HBW5.out.trans (HM6.out.1.below (fun k e => by have := HQ.out.pj.sb _ e; have := HSa.out; omega) HBW5.out.size)
         have hbw7 : Below w.heap.size w w7 := hbw6.trans (x7o.below (fun k e => by have := HSa.out; omega) hbw6.size)
         have hbl := HBL.out
         have hbl6 := HBL6.out
         go_meet
         exact ⟨k + 1, lim, bA6, bn6, bc6, wA6, wn6, wc6, dn6, po6, fa6, wi6, A6, n6, c6, G6, S6, D6, P6, rfl, rfl, Lib.hid (HQ6.out.box x7o hS6 hG6 hwn.2.2.1 hwn.2.2.2), Lib.hid x7, Lib.hid ⟨hS6, hG6, hwn.2.2.1, hwn.2.2.2⟩, Lib.hid hX6, Lib.hid ⟨by omega, by omega, by omega⟩, Lib.hid hbw7⟩
        ·try simp only [List.getElem_toArray, List.getElem_cons_succ, List.getElem_cons_zero]
         go_simp
         refine hK.out _ _ trivial (fun _ => ?_)
         clear hK KK
         try simp only [List.setIfInBounds_toArray, List.set_cons_zero, List.set_cons_succ]
         refine wpAnyH_ready (rs := [10]) (by kernel_rfl) (by simp) ?_
         refine AllReadyH.cons rfl (fun KK hK => ?_) (AllReadyH.nil)
         go_simp
         refine hK.out _ _ trivial (fun _ => ?_)
         clear hK KK
         try simp only [List.setIfInBounds_toArray, List.set_cons_zero, List.set_cons_succ]
         refine wpAnyH_ready (rs := [12]) (by kernel_rfl) (by simp) ?_
         refine AllReadyH.cons rfl (fun KK hK => ?_) (AllReadyH.nil)
         go_simp
         refine hK.out _ _ trivial (fun _ => ?_)
         clear hK KK
         try simp only [List.setIfInBounds_toArray, List.set_cons_zero, List.set_cons_succ]
         refine wpAnyH_done (by kernel_rfl) ?_ _
         go_wp2_with fail
         clear r0 r1 r2 r3 r4 r5 r6 r7 r8 r9 r10 r11 r12 r13 rz0 rz1 rz2 rz3 rz4 rz5 rz6 rz7 rz8 rz9 rz10 rz11 rz12 rz13
         obtain ⟨x7, x7o⟩ := HSx7.out _ rfl
         clear HSx7
         generalize ((((((((((((((w6.setCell ⟨gw, 0, none⟩ (.slice bA6 bn6 bc6)).setCell ⟨gw, 1, none⟩ (.slice wA6 wn6 wc6)).setCell ⟨gw, 2, none⟩ (.bool dn6)).setCell ⟨gw, 3, none⟩ (.int .i64 po6)).setCell ⟨gw, 4, none⟩ (.int .i64 fa6)).setCell ⟨gw, 5, none⟩ (.int .i64 wi6)).setCell ⟨gw, 6, none⟩ (.int .i64 (P6.base : Int))).setCell ⟨gw, 7, none⟩ (.int .i64 (P6.pages : Int))).setCell ⟨gw, 8, none⟩ (.int .i64 (P6.most : Int))).setCell ⟨gw, 9, none⟩ (.int .i64 (P6.epoch : Int))).setCell ⟨gw, 10, none⟩ (.int .i64 (P6.count : Int))).setCell ⟨gw, 11, none⟩ (.int .i64 lim)).setCell ⟨gw, 12, none⟩ (.slice A6 n6 c6)).setCell ⟨gw, 13, none⟩ (.int .i64 (P6.hand : Int))) = w7 at *
         have hwn := HWN.out
         have hS6 : ¬ S6 gw := fun e => by
          rcases HM6.out.2 _ e with e | e
          ·exact hwn.1 e
          ·have := (Array.getElem?_eq_some_iff.1 HWB5.out).1; omega
         have hG6 : ¬ G6 gw := fun e => by
          rcases HG6.out _ e with e | e
          ·exact hwn.2.1 e
          ·have := (Array.getElem?_eq_some_iff.1 HWB5.out).1; omega
         have hX6 := (HX5b.out.off HM6.out.1 (fun e => by have := HQ.out.pj.sb _ e; have := HSa.out; omega)).off x7o (by have := HSa.out; omega)
         have hbw6 : Below w.heap.size w w6 := HBW5.out.trans (HM6.out.1.below (fun k e => by have := HQ.out.pj.sb _ e; have := HSa.out; omega) HBW5.out.size)
         have hbw7 : Below w.heap.size w w7 := hbw6.trans (x7o.below (fun k e => by have := HSa.out; omega) hbw6.size)
         have hbl := HBL.out
         have hbl6 := HBL6.out
         go_meet
         exact ⟨k + 1, lim, bA6, bn6, bc6, wA6, wn6, wc6, dn6, po6, fa6, wi6, A6, n6, c6, G6, S6, D6, P6, rfl, rfl, Lib.hid (HQ6.out.box x7o hS6 hG6 hwn.2.2.1 hwn.2.2.2), Lib.hid x7, Lib.hid ⟨hS6, hG6, hwn.2.2.1, hwn.2.2.2⟩, Lib.hid hX6, Lib.hid ⟨by omega, by omega, by omega⟩, Lib.hid hbw7⟩
       ·try simp only [List.getElem_toArray, List.getElem_cons_succ, List.getElem_cons_zero]
        go_simp
        refine hK.out _ _ trivial (fun _ => ?_)
        clear hK KK
        try simp only [List.setIfInBounds_toArray, List.set_cons_zero, List.set_cons_succ]
        refine wpAnyH_ready (rs := [9]) (by kernel_rfl) (by simp) ?_
        refine AllReadyH.cons rfl (fun KK hK => ?_) (AllReadyH.nil)
        go_simp
        refine hK.out _ _ trivial (fun _ => ?_)
        clear hK KK
        try simp only [List.setIfInBounds_toArray, List.set_cons_zero, List.set_cons_succ]
        refine wpAnyH_ready (rs := [11]) (by kernel_rfl) (by simp) ?_
        refine AllReadyH.cons rfl (fun KK hK => ?_) (AllReadyH.nil)
        go_simp
        refine hK.out _ _ trivial (fun _ => ?_)
        clear hK KK
        try simp only [List.setIfInBounds_toArray, List.set_cons_zero, List.set_cons_succ]
        refine wpAnyH_ready (rs := [12]) (by kernel_rfl) (by simp) ?_
        refine AllReadyH.cons rfl (fun KK hK => ?_) (AllReadyH.nil)
        go_simp
        refine hK.out _ _ trivial (fun _ => ?_)
        clear hK KK
        try simp only [List.setIfInBounds_toArray, List.set_cons_zero, List.set_cons_succ]
        refine wpAnyH_done (by kernel_rfl) ?_ _
        go_wp2_with fail
        clear r0 r1 r2 r3 r4 r5 r6 r7 r8 r9 r10 r11 r12 r13 rz0 rz1 rz2 rz3 rz4 rz5 rz6 rz7 rz8 rz9 rz10 rz11 rz12 rz13
        obtain ⟨x7, x7o⟩ := HSx7.out _ rfl
        clear HSx7
        generalize ((((((((((((((w6.setCell ⟨gw, 0, none⟩ (.slice bA6 bn6 bc6)).setCell ⟨gw, 1, none⟩ (.slice wA6 wn6 wc6)).setCell ⟨gw, 2, none⟩ (.bool dn6)).setCell ⟨gw, 3, none⟩ (.int .i64 po6)).setCell ⟨gw, 4, none⟩ (.int .i64 fa6)).setCell ⟨gw, 5, none⟩ (.int .i64 wi6)).setCell ⟨gw, 6, none⟩ (.int .i64 (P6.base : Int))).setCell ⟨gw, 7, none⟩ (.int .i64 (P6.pages : Int))).setCell ⟨gw, 8, none⟩ (.int .i64 (P6.most : Int))).setCell ⟨gw, 9, none⟩ (.int .i64 (P6.epoch : Int))).setCell ⟨gw, 10, none⟩ (.int .i64 (P6.count : Int))).setCell ⟨gw, 11, none⟩ (.int .i64 lim)).setCell ⟨gw, 12, none⟩ (.slice A6 n6 c6)).setCell ⟨gw, 13, none⟩ (.int .i64 (P6.hand : Int))) = w7 at *
        have hwn := HWN.out
        have hS6 : ¬ S6 gw := fun e => by
         rcases HM6.out.2 _ e with e | e
         ·exact hwn.1 e
         ·have := (Array.getElem?_eq_some_iff.1 HWB5.out).1; omega
        have hG6 : ¬ G6 gw := fun e => by
         rcases HG6.out _ e with e | e
         ·exact hwn.2.1 e
         ·have := (Array.getElem?_eq_some_iff.1 HWB5.out).1; omega
        have hX6 := (HX5b.out.off HM6.out.1 (fun e => by have := HQ.out.pj.sb _ e; have := HSa.out; omega)).off x7o (by have := HSa.out; omega)
        have hbw6 : Below w.heap.size w w6 := HBW5.out.trans (HM6.out.1.below (fun k e => by have := HQ.out.pj.sb _ e; have := HSa.out; omega) HBW5.out.size)
        have hbw7 : Below w.heap.size w w7 := hbw6.trans (x7o.below (fun k e => by have := HSa.out; omega) hbw6.size)
        have hbl := HBL.out
        have hbl6 := HBL6.out
        go_meet
        exact ⟨k + 1, lim, bA6, bn6, bc6, wA6, wn6, wc6, dn6, po6, fa6, wi6, A6, n6, c6, G6, S6, D6, P6, rfl, rfl, Lib.hid (HQ6.out.box x7o hS6 hG6 hwn.2.2.1 hwn.2.2.2), Lib.hid x7, Lib.hid ⟨hS6, hG6, hwn.2.2.1, hwn.2.2.2⟩, Lib.hid hX6, Lib.hid ⟨by omega, by omega, by omega⟩, Lib.hid hbw7⟩
      case rest =>
       clear HQ HW HX HBL HBW HWN HDO HKeep HLR Y0 Y1 Y2 Y3 Y4 Y5 Y6 Y7 Y8 Y9 Y10 Y11 Y12 Y13 Q0 Q1 Q2 Q3 Q4 Q5 Q6 Q7 Q8
       obtain ⟨k2, lim, bA3, bn3, bc3, wA3, wn3, wc3, dn3, po3, fa3, wi3, A3, n3, c3, G, S, D, P, hk2, rfl, HQ, HW, HWN, HX, HBL, HBW⟩ := hcut
       obtain rfl := (RP.rk_of HQ.out.rp).at_.2.1
       have HC1 := Lib.hid (fun W (hW : Below wc.heap.size wc W) => Count_pj (HQ.out.pj.below hW))
       have HC2 := Lib.hid (fun W (hW : Below wc.heap.size wc W) => Pages_pj (HQ.out.pj.below hW))
       have HC3 := Lib.hid (fun W (hW : Below wc.heap.size wc W) => Pending_pj (HQ.out.pj.below hW))
       have HC4 := Lib.hid (fun W (hW : Below wc.heap.size wc W) => (Held_pj (HQ.out.pj.below hW)).mono (fun e w' hx => NewI.ir hx))
       have HC5 := Lib.hid (fun W (hW : Below wc.heap.size wc W) => (Dirty_pj (HQ.out.pj.below hW)).mono (fun e w' hx => NewI.ir hx))
       have HHD : Hid (∀ dt l, heldD P dt = l → ∀ W, Below wc.heap.size wc W → Calls Tryz.prog 16 #[.agg #[.slice bA3 bn3 bc3, .slice wA3 D.pending.length wc3, .bool dn3, .int .i64 po3, .int .i64 fa3, .int .i64 wi3, .int .i64 (P.base : Int), .int .i64 (P.pages : Int), .int .i64 (P.most : Int), .int .i64 (P.epoch : Int), .int .i64 (P.count : Int), .int .i64 lim, .slice A3 n3 c3, .int .i64 (P.hand : Int)], .bool dt] W fun e w' => (∃ A c, e = .returned (.slice A l.length c) ∧ IR w' A l.length (intsL l)) ∧ Below W.heap.size W w') := Lib.hid (fun dt l hl W hW => (rHeld_any (HQ.out.rp.below hW) HQ.out.pj.pi dt).mono (by
        rintro e w' ⟨u, rfl, h1, h2⟩
        rw [hl] at h1
        obtain ⟨A, c, rfl, h3, _⟩ := h1.form
        have e1 : (intsL l).length = l.length := by unfold intsL; rw [List.length_map]
        rw [e1] at h3 ⊢
        exact ⟨⟨A, c, rfl, h3⟩, h2⟩))
       have HC6 := Lib.hid (fun W hW => HHD.out false _ (heldD_held P) W hW)
       have HC7 := Lib.hid (fun W hW => HHD.out true _ (heldD_dirty P) W hW)
       have hl0 : ∀ l : List Nat, l.length ≤ 1000000 → ∀ A B c d W, IR W A l.length (intsL l) → IR W B l.length (intsL l) → Calls Tryz.prog 14 #[.slice A l.length c, .slice B l.length d] W fun e w' => e = .returned (.bool true) ∧ Below W.heap.size W w' := fun l hl A B c d W ha hb => (SameInts_any A B l.length l.length c d (intsL l) (intsL l) W ha hb hl hl).mono (fun e w' hx => ⟨by rw [hx.1]; simp, hx.2⟩)
       have hpgs : P.pages ≤ 4096 := by have := HQ.out.pj.pi.fit; have := HQ.out.pj.pi.d2; omega
       have hh1 : (heldL P).length ≤ 4096 := by unfold heldL; exact Nat.le_trans (List.length_filter_le _ _) (by rw [List.length_range]; exact hpgs)
       have hh2 : (dirtyL P).length ≤ 4096 := by unfold dirtyL; exact Nat.le_trans (List.length_filter_le _ _) hh1
       have HS1 := Lib.hid (hl0 (heldL P) (by omega))
       have HS2 := Lib.hid (hl0 (dirtyL P) (by omega))
       have t5 : ((P.count : Int) != (P.count : Int)) = false := bne_self_eq_false' _
       have t6 : ((P.pages : Int) != (P.pages : Int)) = false := bne_self_eq_false' _
       have t7 : ((D.pending.length : Int) != (D.pending.length : Int)) = false := bne_self_eq_false' _
       clear hl0 hpgs hh1 hh2 HHD
       have Y0 := Lib.hid HW.out.c0
       have Y1 := Lib.hid HW.out.c1
       have Y2 := Lib.hid HW.out.c2
       have Y3 := Lib.hid HW.out.c3
       have Y4 := Lib.hid HW.out.c4
       have Y5 := Lib.hid HW.out.c5
       have Y6 := Lib.hid HW.out.c6
       have Y7 := Lib.hid HW.out.c7
       have Y8 := Lib.hid HW.out.c8
       have Y9 := Lib.hid HW.out.c9
       have Y10 := Lib.hid HW.out.c10
       have Y11 := Lib.hid HW.out.c11
       have Y12 := Lib.hid HW.out.c12
       have Y13 := Lib.hid HW.out.c13
       go_upto_region 20 with fail
       refine' wp_region_mono (by kernel_rfl) (by kernel_rfl) (by kernel_rfl) (by kernel_rfl) (by kernel_rfl) (by kernel_rfl)
        [MP.is (.bool true), MP.is (.bool false), MP.is (.bool false), MP.is (.pointer (some ⟨gp, 0, none⟩)), MP.is (.int .i64 (P.count : Int)), MP.is (.pointer (some ⟨gw, 10, none⟩)), MP.is (.int .i64 (P.count : Int)), MP.is (.bool false), MP.is (.bool false), MP.is (.bool false), MP.is (.pointer (some ⟨gp, 0, none⟩)), MP.is (.int .i64 (P.pages : Int)), MP.is (.pointer (some ⟨gw, 7, none⟩)), MP.is (.int .i64 (P.pages : Int)), MP.is (.bool false), MP.is (.bool false), MP.is (.bool false), MP.is (.pointer (some ⟨gd, 0, none⟩)), MP.is (.int .i64 (D.pending.length : Int)), MP.is (.pointer (some ⟨gw, 0, none⟩)), MP.is (.pointer (some ⟨gw, 1, none⟩)), MP.is (.slice wA3 D.pending.length wc3), MP.is (.int .i64 (D.pending.length : Int)), MP.is (.bool false), MP.is (.bool false), MP.is (.bool false), MP.is (.pointer (some ⟨gp, 0, none⟩)), MP.ir (heldL P).length (intsL (heldL P)), MP.is (.agg #[.slice bA3 bn3 bc3, .slice wA3 D.pending.length wc3, .bool dn3, .int .i64 po3, .int .i64 fa3, .int .i64 wi3, .int .i64 (P.base : Int), .int .i64 (P.pages : Int), .int .i64 (P.most : Int), .int .i64 (P.epoch : Int), .int .i64 (P.count : Int), .int .i64 lim, .slice A3 n3 c3, .int .i64 (P.hand : Int)]), MP.ir (heldL P).length (intsL (heldL P)), MP.is (.bool true), MP.is (.bool false), MP.is (.bool false), MP.is (.bool false), MP.is (.pointer (some ⟨gp, 0, none⟩)), MP.ir (dirtyL P).length (intsL (dirtyL P)), MP.is (.agg #[.slice bA3 bn3 bc3, .slice wA3 D.pending.length wc3, .bool dn3, .int .i64 po3, .int .i64 fa3, .int .i64 wi3, .int .i64 (P.base : Int), .int .i64 (P.pages : Int), .int .i64 (P.most : Int), .int .i64 (P.epoch : Int), .int .i64 (P.count : Int), .int .i64 lim, .slice A3 n3 c3, .int .i64 (P.hand : Int)]), MP.ir (dirtyL P).length (intsL (dirtyL P)), MP.is (.bool true), MP.is (.bool false), MP.is (.bool false)] ?hAA2 ?hst2 ?hend2
       case hAA2 =>
        intro f
        conv => lhs; simp only [putA, dstOf, List.size_toArray, List.length_cons, List.length_nil, Nat.zero_add, Nat.reduceAdd, List.getElem?_toArray, List.getElem?_cons_zero, List.getElem?_cons_succ, Option.bind_some, Act.put, List.setIfInBounds_toArray, List.set_cons_zero, List.set_cons_succ]
        first | done | exact rfl
       case hst2 =>
        change Steps _ _ _ _ _ [0, 1, 2, 3, 4, 5, 6, 7, 8, 9, 10, 11, 12, 13, 14, 15, 16, 17, 18, 19, 20, 21, 22, 23, 24, 25, 26, 27, 28, 29, 30, 31, 32, 33, 34, 35, 36, 37, 38, 39, 40]
        refine Steps.cons rfl ?_ ?_
        ·intro f wz hB h K Q hK
         clear h
         try simp only [List.getElem_toArray, List.getElem_cons_zero]
         try rw [if_pos (by rfl)]
         go_simp
         exact hK _ _ (gr_refl _) rfl
        refine Steps.cons rfl ?_ ?_
        ·intro f wz hB h K Q hK
         have h0 : (MP.is (.bool true)).p (f 0) wz := h 0 (by kernel_rfl)
         have e0 : f 0 = (.bool true) := h0
         simp only [e0] at hK ⊢
         clear e0
         clear h
         try rw [if_pos (by rfl)]
         go_simp
         exact hK _ _ (gr_refl _) rfl
        refine Steps.cons rfl ?_ ?_
        ·intro f wz hB h K Q hK
         have h1 : (MP.is (.bool false)).p (f 1) wz := h 1 (by kernel_rfl)
         have e1 : f 1 = (.bool false) := h1
         simp only [e1] at hK ⊢
         clear e1
         clear h
         try rw [if_pos (by rfl)]
         go_simp
         exact hK _ _ (gr_refl _) rfl
        refine Steps.cons rfl ?_ ?_
        ·intro f wz hB h K Q hK
         have h2 : (MP.is (.bool false)).p (f 2) wz := h 2 (by kernel_rfl)
         have e2 : f 2 = (.bool false) := h2
         simp only [e2] at hK ⊢
         clear e2
         clear h
         try rw [if_pos (by rfl)]
         go_simp
         exact hK _ _ (gr_refl _) rfl
        refine Steps.cons rfl ?_ ?_
        ·intro f wz hB h K Q hK
         have h2 : (MP.is (.bool false)).p (f 2) wz := h 2 (by kernel_rfl)
         have e2 : f 2 = (.bool false) := h2
         have h3 : (MP.is (.pointer (some ⟨gp, 0, none⟩))).p (f 3) wz := h 3 (by kernel_rfl)
         have e3 : f 3 = (.pointer (some ⟨gp, 0, none⟩)) := h3
         simp only [e2, e3] at hK ⊢
         clear e2 e3
         clear h
         try rw [if_pos (by rfl)]
         go_simp
         refine (HC1.out _ (bel_drew hB)).mono ?_
         rintro e w5 ⟨rfl, rfl⟩
         exact hK _ _ (gr_refl _) rfl
        refine Steps.cons rfl ?_ ?_
        ·intro f wz hB h K Q hK
         have h2 : (MP.is (.bool false)).p (f 2) wz := h 2 (by kernel_rfl)
         have e2 : f 2 = (.bool false) := h2
         simp only [e2] at hK ⊢
         clear e2
         clear h
         try rw [if_pos (by rfl)]
         go_simp
         exact hK _ _ (gr_refl _) rfl
        refine Steps.cons rfl ?_ ?_
        ·intro f wz hB h K Q hK
         have h2 : (MP.is (.bool false)).p (f 2) wz := h 2 (by kernel_rfl)
         have e2 : f 2 = (.bool false) := h2
         have h5 : (MP.is (.pointer (some ⟨gw, 10, none⟩))).p (f 5) wz := h 5 (by kernel_rfl)
         have e5 : f 5 = (.pointer (some ⟨gw, 10, none⟩)) := h5
         simp only [e2, e5] at hK ⊢
         clear e2 e5
         clear h
         try rw [if_pos (by rfl)]
         have y0 := keep_of_below (bel_drew hB) Y0.out
         have y1 := keep_of_below (bel_drew hB) Y1.out
         have y2 := keep_of_below (bel_drew hB) Y2.out
         have y3 := keep_of_below (bel_drew hB) Y3.out
         have y4 := keep_of_below (bel_drew hB) Y4.out
         have y5 := keep_of_below (bel_drew hB) Y5.out
         have y6 := keep_of_below (bel_drew hB) Y6.out
         have y7 := keep_of_below (bel_drew hB) Y7.out
         have y8 := keep_of_below (bel_drew hB) Y8.out
         have y9 := keep_of_below (bel_drew hB) Y9.out
         have y10 := keep_of_below (bel_drew hB) Y10.out
         have y11 := keep_of_below (bel_drew hB) Y11.out
         have y12 := keep_of_below (bel_drew hB) Y12.out
         have y13 := keep_of_below (bel_drew hB) Y13.out
         go_simp
         exact hK _ _ (gr_refl _) rfl
        refine Steps.cons rfl ?_ ?_
        ·intro f wz hB h K Q hK
         have h2 : (MP.is (.bool false)).p (f 2) wz := h 2 (by kernel_rfl)
         have e2 : f 2 = (.bool false) := h2
         have h4 : (MP.is (.int .i64 (P.count : Int))).p (f 4) wz := h 4 (by kernel_rfl)
         have e4 : f 4 = (.int .i64 (P.count : Int)) := h4
         have h6 : (MP.is (.int .i64 (P.count : Int))).p (f 6) wz := h 6 (by kernel_rfl)
         have e6 : f 6 = (.int .i64 (P.count : Int)) := h6
         simp only [e2, e4, e6] at hK ⊢
         clear e2 e4 e6
         clear h
         try rw [if_pos (by rfl)]
         go_simp
         exact hK _ _ (gr_refl _) rfl
        refine Steps.cons rfl ?_ ?_
        ·intro f wz hB h K Q hK
         have h2 : (MP.is (.bool false)).p (f 2) wz := h 2 (by kernel_rfl)
         have e2 : f 2 = (.bool false) := h2
         have h7 : (MP.is (.bool false)).p (f 7) wz := h 7 (by kernel_rfl)
         have e7 : f 7 = (.bool false) := h7
         simp only [e2, e7] at hK ⊢
         clear e2 e7
         clear h
         try rw [if_pos (by rfl)]
         go_simp
         exact hK _ _ (gr_refl _) rfl
        refine Steps.cons rfl ?_ ?_
        ·intro f wz hB h K Q hK
         have h8 : (MP.is (.bool false)).p (f 8) wz := h 8 (by kernel_rfl)
         have e8 : f 8 = (.bool false) := h8
         simp only [e8] at hK ⊢
         clear e8
         clear h
         try rw [if_pos (by rfl)]
         go_simp
         exact hK _ _ (gr_refl _) rfl
        refine Steps.cons rfl ?_ ?_
        ·intro f wz hB h K Q hK
         have h9 : (MP.is (.bool false)).p (f 9) wz := h 9 (by kernel_rfl)
         have e9 : f 9 = (.bool false) := h9
         simp only [e9] at hK ⊢
         clear e9
         clear h
         try rw [if_pos (by rfl)]
         go_simp
         exact hK _ _ (gr_refl _) rfl
        refine Steps.cons rfl ?_ ?_
        ·intro f wz hB h K Q hK
         have h9 : (MP.is (.bool false)).p (f 9) wz := h 9 (by kernel_rfl)
         have e9 : f 9 = (.bool false) := h9
         have h10 : (MP.is (.pointer (some ⟨gp, 0, none⟩))).p (f 10) wz := h 10 (by kernel_rfl)
         have e10 : f 10 = (.pointer (some ⟨gp, 0, none⟩)) := h10
         simp only [e9, e10] at hK ⊢
         clear e9 e10
         clear h
         try rw [if_pos (by rfl)]
         go_simp
         refine (HC2.out _ (bel_drew hB)).mono ?_
         rintro e w5 ⟨rfl, rfl⟩
         exact hK _ _ (gr_refl _) rfl
        refine Steps.cons rfl ?_ ?_
        ·intro f wz hB h K Q hK
         have h9 : (MP.is (.bool false)).p (f 9) wz := h 9 (by kernel_rfl)
         have e9 : f 9 = (.bool false) := h9
         simp only [e9] at hK ⊢
         clear e9
         clear h
         try rw [if_pos (by rfl)]
         go_simp
         exact hK _ _ (gr_refl _) rfl
        refine Steps.cons rfl ?_ ?_
        ·intro f wz hB h K Q hK
         have h9 : (MP.is (.bool false)).p (f 9) wz := h 9 (by kernel_rfl)
         have e9 : f 9 = (.bool false) := h9
         have h12 : (MP.is (.pointer (some ⟨gw, 7, none⟩))).p (f 12) wz := h 12 (by kernel_rfl)
         have e12 : f 12 = (.pointer (some ⟨gw, 7, none⟩)) := h12
         simp only [e9, e12] at hK ⊢
         clear e9 e12
         clear h
         try rw [if_pos (by rfl)]
         have y0 := keep_of_below (bel_drew hB) Y0.out
         have y1 := keep_of_below (bel_drew hB) Y1.out
         have y2 := keep_of_below (bel_drew hB) Y2.out
         have y3 := keep_of_below (bel_drew hB) Y3.out
         have y4 := keep_of_below (bel_drew hB) Y4.out
         have y5 := keep_of_below (bel_drew hB) Y5.out
         have y6 := keep_of_below (bel_drew hB) Y6.out
         have y7 := keep_of_below (bel_drew hB) Y7.out
         have y8 := keep_of_below (bel_drew hB) Y8.out
         have y9 := keep_of_below (bel_drew hB) Y9.out
         have y10 := keep_of_below (bel_drew hB) Y10.out
         have y11 := keep_of_below (bel_drew hB) Y11.out
         have y12 := keep_of_below (bel_drew hB) Y12.out
         have y13 := keep_of_below (bel_drew hB) Y13.out
         go_simp
         exact hK _ _ (gr_refl _) rfl
        refine Steps.cons rfl ?_ ?_
        ·intro f wz hB h K Q hK
         have h9 : (MP.is (.bool false)).p (f 9) wz := h 9 (by kernel_rfl)
         have e9 : f 9 = (.bool false) := h9
         have h11 : (MP.is (.int .i64 (P.pages : Int))).p (f 11) wz := h 11 (by kernel_rfl)
         have e11 : f 11 = (.int .i64 (P.pages : Int)) := h11
         have h13 : (MP.is (.int .i64 (P.pages : Int))).p (f 13) wz := h 13 (by kernel_rfl)
         have e13 : f 13 = (.int .i64 (P.pages : Int)) := h13
         simp only [e9, e11, e13] at hK ⊢
         clear e9 e11 e13
         clear h
         try rw [if_pos (by rfl)]
         go_simp
         exact hK _ _ (gr_refl _) rfl
        refine Steps.cons rfl ?_ ?_
        ·intro f wz hB h K Q hK
         have h9 : (MP.is (.bool false)).p (f 9) wz := h 9 (by kernel_rfl)
         have e9 : f 9 = (.bool false) := h9
         have h14 : (MP.is (.bool false)).p (f 14) wz := h 14 (by kernel_rfl)
         have e14 : f 14 = (.bool false) := h14
         simp only [e9, e14] at hK ⊢
         clear e9 e14
         clear h
         try rw [if_pos (by rfl)]
         go_simp
         exact hK _ _ (gr_refl _) rfl
        refine Steps.cons rfl ?_ ?_
        ·intro f wz hB h K Q hK
         have h15 : (MP.is (.bool false)).p (f 15) wz := h 15 (by kernel_rfl)
         have e15 : f 15 = (.bool false) := h15
         simp only [e15] at hK ⊢
         clear e15
         clear h
         try rw [if_pos (by rfl)]
         go_simp
         exact hK _ _ (gr_refl _) rfl
        refine Steps.cons rfl ?_ ?_
        ·intro f wz hB h K Q hK
         have h16 : (MP.is (.bool false)).p (f 16) wz := h 16 (by kernel_rfl)
         have e16 : f 16 = (.bool false) := h16
         simp only [e16] at hK ⊢
         clear e16
         clear h
         try rw [if_pos (by rfl)]
         go_simp
         exact hK _ _ (gr_refl _) rfl
        refine Steps.cons rfl ?_ ?_
        ·intro f wz hB h K Q hK
         have h16 : (MP.is (.bool false)).p (f 16) wz := h 16 (by kernel_rfl)
         have e16 : f 16 = (.bool false) := h16
         have h17 : (MP.is (.pointer (some ⟨gd, 0, none⟩))).p (f 17) wz := h 17 (by kernel_rfl)
         have e17 : f 17 = (.pointer (some ⟨gd, 0, none⟩)) := h17
         simp only [e16, e17] at hK ⊢
         clear e16 e17
         clear h
         try rw [if_pos (by rfl)]
         go_simp
         refine (HC3.out _ (bel_drew hB)).mono ?_
         rintro e w5 ⟨rfl, rfl⟩
         exact hK _ _ (gr_refl _) rfl
        refine Steps.cons rfl ?_ ?_
        ·intro f wz hB h K Q hK
         have h16 : (MP.is (.bool false)).p (f 16) wz := h 16 (by kernel_rfl)
         have e16 : f 16 = (.bool false) := h16
         simp only [e16] at hK ⊢
         clear e16
         clear h
         try rw [if_pos (by rfl)]
         go_simp
         exact hK _ _ (gr_refl _) rfl
        refine Steps.cons rfl ?_ ?_
        ·intro f wz hB h K Q hK
         have h16 : (MP.is (.bool false)).p (f 16) wz := h 16 (by kernel_rfl)
         have e16 : f 16 = (.bool false) := h16
         have h19 : (MP.is (.pointer (some ⟨gw, 0, none⟩))).p (f 19) wz := h 19 (by kernel_rfl)
         have e19 : f 19 = (.pointer (some ⟨gw, 0, none⟩)) := h19
         simp only [e16, e19] at hK ⊢
         clear e16 e19
         clear h
         try rw [if_pos (by rfl)]
         go_simp
         exact hK _ _ (gr_refl _) rfl
        refine Steps.cons rfl ?_ ?_
        ·intro f wz hB h K Q hK
         have h16 : (MP.is (.bool false)).p (f 16) wz := h 16 (by kernel_rfl)
         have e16 : f 16 = (.bool false) := h16
         have h20 : (MP.is (.pointer (some ⟨gw, 1, none⟩))).p (f 20) wz := h 20 (by kernel_rfl)
         have e20 : f 20 = (.pointer (some ⟨gw, 1, none⟩)) := h20
         simp only [e16, e20] at hK ⊢
         clear e16 e20
         clear h
         try rw [if_pos (by rfl)]
         have y0 := keep_of_below (bel_drew hB) Y0.out
         have y1 := keep_of_below (bel_drew hB) Y1.out
         have y2 := keep_of_below (bel_drew hB) Y2.out
         have y3 := keep_of_below (bel_drew hB) Y3.out
         have y4 := keep_of_below (bel_drew hB) Y4.out
         have y5 := keep_of_below (bel_drew hB) Y5.out
         have y6 := keep_of_below (bel_drew hB) Y6.out
         have y7 := keep_of_below (bel_drew hB) Y7.out
         have y8 := keep_of_below (bel_drew hB) Y8.out
         have y9 := keep_of_below (bel_drew hB) Y9.out
         have y10 := keep_of_below (bel_drew hB) Y10.out
         have y11 := keep_of_below (bel_drew hB) Y11.out
         have y12 := keep_of_below (bel_drew hB) Y12.out
         have y13 := keep_of_below (bel_drew hB) Y13.out
         go_simp
         exact hK _ _ (gr_refl _) rfl
        refine Steps.cons rfl ?_ ?_
        ·intro f wz hB h K Q hK
         have h16 : (MP.is (.bool false)).p (f 16) wz := h 16 (by kernel_rfl)
         have e16 : f 16 = (.bool false) := h16
         have h21 : (MP.is (.slice wA3 D.pending.length wc3)).p (f 21) wz := h 21 (by kernel_rfl)
         have e21 : f 21 = (.slice wA3 D.pending.length wc3) := h21
         simp only [e16, e21] at hK ⊢
         clear e16 e21
         clear h
         try rw [if_pos (by rfl)]
         go_simp
         exact hK _ _ (gr_refl _) rfl
        refine Steps.cons rfl ?_ ?_
        ·intro f wz hB h K Q hK
         have h16 : (MP.is (.bool false)).p (f 16) wz := h 16 (by kernel_rfl)
         have e16 : f 16 = (.bool false) := h16
         have h18 : (MP.is (.int .i64 (D.pending.length : Int))).p (f 18) wz := h 18 (by kernel_rfl)
         have e18 : f 18 = (.int .i64 (D.pending.length : Int)) := h18
         have h22 : (MP.is (.int .i64 (D.pending.length : Int))).p (f 22) wz := h 22 (by kernel_rfl)
         have e22 : f 22 = (.int .i64 (D.pending.length : Int)) := h22
         simp only [e16, e18, e22] at hK ⊢
         clear e16 e18 e22
         clear h
         try rw [if_pos (by rfl)]
         go_simp
         exact hK _ _ (gr_refl _) rfl
        refine Steps.cons rfl ?_ ?_
        ·intro f wz hB h K Q hK
         have h16 : (MP.is (.bool false)).p (f 16) wz := h 16 (by kernel_rfl)
         have e16 : f 16 = (.bool false) := h16
         have h23 : (MP.is (.bool false)).p (f 23) wz := h 23 (by kernel_rfl)
         have e23 : f 23 = (.bool false) := h23
         simp only [e16, e23] at hK ⊢
         clear e16 e23
         clear h
         try rw [if_pos (by rfl)]
         go_simp
         exact hK _ _ (gr_refl _) rfl
        refine Steps.cons rfl ?_ ?_
        ·intro f wz hB h K Q hK
         have h24 : (MP.is (.bool false)).p (f 24) wz := h 24 (by kernel_rfl)
         have e24 : f 24 = (.bool false) := h24
         simp only [e24] at hK ⊢
         clear e24
         clear h
         try rw [if_pos (by rfl)]
         go_simp
         exact hK _ _ (gr_refl _) rfl
        refine Steps.cons rfl ?_ ?_
        ·intro f wz hB h K Q hK
         have h25 : (MP.is (.bool false)).p (f 25) wz := h 25 (by kernel_rfl)
         have e25 : f 25 = (.bool false) := h25
         simp only [e25] at hK ⊢
         clear e25
         clear h
         try rw [if_pos (by rfl)]
         go_simp
         exact hK _ _ (gr_refl _) rfl
        refine Steps.cons rfl ?_ ?_
        ·intro f wz hB h K Q hK
         have h25 : (MP.is (.bool false)).p (f 25) wz := h 25 (by kernel_rfl)
         have e25 : f 25 = (.bool false) := h25
         have h26 : (MP.is (.pointer (some ⟨gp, 0, none⟩))).p (f 26) wz := h 26 (by kernel_rfl)
         have e26 : f 26 = (.pointer (some ⟨gp, 0, none⟩)) := h26
         simp only [e25, e26] at hK ⊢
         clear e25 e26
         clear h
         try rw [if_pos (by rfl)]
         go_simp
         refine (HC4.out _ (bel_drew hB)).mono ?_
         rintro e w5 ⟨A, c, rfl, h5, hb5⟩
         exact hK _ _ hb5 ⟨A, c, rfl, h5⟩
        refine Steps.cons rfl ?_ ?_
        ·intro f wz hB h K Q hK
         have h25 : (MP.is (.bool false)).p (f 25) wz := h 25 (by kernel_rfl)
         have e25 : f 25 = (.bool false) := h25
         simp only [e25] at hK ⊢
         clear e25
         clear h
         try rw [if_pos (by rfl)]
         have y0 := keep_of_below (bel_drew hB) Y0.out
         have y1 := keep_of_below (bel_drew hB) Y1.out
         have y2 := keep_of_below (bel_drew hB) Y2.out
         have y3 := keep_of_below (bel_drew hB) Y3.out
         have y4 := keep_of_below (bel_drew hB) Y4.out
         have y5 := keep_of_below (bel_drew hB) Y5.out
         have y6 := keep_of_below (bel_drew hB) Y6.out
         have y7 := keep_of_below (bel_drew hB) Y7.out
         have y8 := keep_of_below (bel_drew hB) Y8.out
         have y9 := keep_of_below (bel_drew hB) Y9.out
         have y10 := keep_of_below (bel_drew hB) Y10.out
         have y11 := keep_of_below (bel_drew hB) Y11.out
         have y12 := keep_of_below (bel_drew hB) Y12.out
         have y13 := keep_of_below (bel_drew hB) Y13.out
         go_simp
         exact hK _ _ (gr_refl _) rfl
        refine Steps.cons rfl ?_ ?_
        ·intro f wz hB h K Q hK
         have h25 : (MP.is (.bool false)).p (f 25) wz := h 25 (by kernel_rfl)
         have e25 : f 25 = (.bool false) := h25
         have h28 : (MP.is (.agg #[.slice bA3 bn3 bc3, .slice wA3 D.pending.length wc3, .bool dn3, .int .i64 po3, .int .i64 fa3, .int .i64 wi3, .int .i64 (P.base : Int), .int .i64 (P.pages : Int), .int .i64 (P.most : Int), .int .i64 (P.epoch : Int), .int .i64 (P.count : Int), .int .i64 lim, .slice A3 n3 c3, .int .i64 (P.hand : Int)])).p (f 28) wz := h 28 (by kernel_rfl)
         have e28 : f 28 = (.agg #[.slice bA3 bn3 bc3, .slice wA3 D.pending.length wc3, .bool dn3, .int .i64 po3, .int .i64 fa3, .int .i64 wi3, .int .i64 (P.base : Int), .int .i64 (P.pages : Int), .int .i64 (P.most : Int), .int .i64 (P.epoch : Int), .int .i64 (P.count : Int), .int .i64 lim, .slice A3 n3 c3, .int .i64 (P.hand : Int)]) := h28
         simp only [e25, e28] at hK ⊢
         clear e25 e28
         clear h
         try rw [if_pos (by rfl)]
         go_simp
         refine (HC6.out _ (bel_drew hB)).mono ?_
         rintro e w5 ⟨⟨A, c, rfl, h5⟩, hb5⟩
         exact hK _ _ hb5 ⟨A, c, rfl, h5⟩
        refine Steps.cons rfl ?_ ?_
        ·intro f wz hB h K Q hK
         have h25 : (MP.is (.bool false)).p (f 25) wz := h 25 (by kernel_rfl)
         have e25 : f 25 = (.bool false) := h25
         have h27 : (MP.ir (heldL P).length (intsL (heldL P))).p (f 27) wz := h 27 (by kernel_rfl)
         obtain ⟨A27, c27, e27, q27⟩ := h27
         have h29 : (MP.ir (heldL P).length (intsL (heldL P))).p (f 29) wz := h 29 (by kernel_rfl)
         obtain ⟨A29, c29, e29, q29⟩ := h29
         simp only [e25, e27, e29] at hK ⊢
         clear e25 e27 e29
         clear h
         try rw [if_pos (by rfl)]
         go_simp
         refine (HS1.out A27 A29 c27 c29 _ q27 q29).mono ?_
         rintro e w5 ⟨rfl, hb5⟩
         exact hK _ _ hb5 rfl
        refine Steps.cons rfl ?_ ?_
        ·intro f wz hB h K Q hK
         have h25 : (MP.is (.bool false)).p (f 25) wz := h 25 (by kernel_rfl)
         have e25 : f 25 = (.bool false) := h25
         have h30 : (MP.is (.bool true)).p (f 30) wz := h 30 (by kernel_rfl)
         have e30 : f 30 = (.bool true) := h30
         simp only [e25, e30] at hK ⊢
         clear e25 e30
         clear h
         try rw [if_pos (by rfl)]
         go_simp
         exact hK _ _ (gr_refl _) rfl
        refine Steps.cons rfl ?_ ?_
        ·intro f wz hB h K Q hK
         have h25 : (MP.is (.bool false)).p (f 25) wz := h 25 (by kernel_rfl)
         have e25 : f 25 = (.bool false) := h25
         have h31 : (MP.is (.bool false)).p (f 31) wz := h 31 (by kernel_rfl)
         have e31 : f 31 = (.bool false) := h31
         simp only [e25, e31] at hK ⊢
         clear e25 e31
         clear h
         try rw [if_pos (by rfl)]
         go_simp
         exact hK _ _ (gr_refl _) rfl
        refine Steps.cons rfl ?_ ?_
        ·intro f wz hB h K Q hK
         have h32 : (MP.is (.bool false)).p (f 32) wz := h 32 (by kernel_rfl)
         have e32 : f 32 = (.bool false) := h32
         simp only [e32] at hK ⊢
         clear e32
         clear h
         try rw [if_pos (by rfl)]
         go_simp
         exact hK _ _ (gr_refl _) rfl
        refine Steps.cons rfl ?_ ?_
        ·intro f wz hB h K Q hK
         have h33 : (MP.is (.bool false)).p (f 33) wz := h 33 (by kernel_rfl)
         have e33 : f 33 = (.bool false) := h33
         simp only [e33] at hK ⊢
         clear e33
         clear h
         try rw [if_pos (by rfl)]
         go_simp
         exact hK _ _ (gr_refl _) rfl
        refine Steps.cons rfl ?_ ?_
        ·intro f wz hB h K Q hK
         have h33 : (MP.is (.bool false)).p (f 33) wz := h 33 (by kernel_rfl)
         have e33 : f 33 = (.bool false) := h33
         have h34 : (MP.is (.pointer (some ⟨gp, 0, none⟩))).p (f 34) wz := h 34 (by kernel_rfl)
         have e34 : f 34 = (.pointer (some ⟨gp, 0, none⟩)) := h34
         simp only [e33, e34] at hK ⊢
         clear e33 e34
         clear h
         try rw [if_pos (by rfl)]
         go_simp
         refine (HC5.out _ (bel_drew hB)).mono ?_
         rintro e w5 ⟨A, c, rfl, h5, hb5⟩
         exact hK _ _ hb5 ⟨A, c, rfl, h5⟩
        refine Steps.cons rfl ?_ ?_
        ·intro f wz hB h K Q hK
         have h33 : (MP.is (.bool false)).p (f 33) wz := h 33 (by kernel_rfl)
         have e33 : f 33 = (.bool false) := h33
         simp only [e33] at hK ⊢
         clear e33
         clear h
         try rw [if_pos (by rfl)]
         have y0 := keep_of_below (bel_drew hB) Y0.out
         have y1 := keep_of_below (bel_drew hB) Y1.out
         have y2 := keep_of_below (bel_drew hB) Y2.out
         have y3 := keep_of_below (bel_drew hB) Y3.out
         have y4 := keep_of_below (bel_drew hB) Y4.out
         have y5 := keep_of_below (bel_drew hB) Y5.out
         have y6 := keep_of_below (bel_drew hB) Y6.out
         have y7 := keep_of_below (bel_drew hB) Y7.out
         have y8 := keep_of_below (bel_drew hB) Y8.out
         have y9 := keep_of_below (bel_drew hB) Y9.out
         have y10 := keep_of_below (bel_drew hB) Y10.out
         have y11 := keep_of_below (bel_drew hB) Y11.out
         have y12 := keep_of_below (bel_drew hB) Y12.out
         have y13 := keep_of_below (bel_drew hB) Y13.out
         go_simp
         exact hK _ _ (gr_refl _) rfl
        refine Steps.cons rfl ?_ ?_
        ·intro f wz hB h K Q hK
         have h33 : (MP.is (.bool false)).p (f 33) wz := h 33 (by kernel_rfl)
         have e33 : f 33 = (.bool false) := h33
         have h36 : (MP.is (.agg #[.slice bA3 bn3 bc3, .slice wA3 D.pending.length wc3, .bool dn3, .int .i64 po3, .int .i64 fa3, .int .i64 wi3, .int .i64 (P.base : Int), .int .i64 (P.pages : Int), .int .i64 (P.most : Int), .int .i64 (P.epoch : Int), .int .i64 (P.count : Int), .int .i64 lim, .slice A3 n3 c3, .int .i64 (P.hand : Int)])).p (f 36) wz := h 36 (by kernel_rfl)
         have e36 : f 36 = (.agg #[.slice bA3 bn3 bc3, .slice wA3 D.pending.length wc3, .bool dn3, .int .i64 po3, .int .i64 fa3, .int .i64 wi3, .int .i64 (P.base : Int), .int .i64 (P.pages : Int), .int .i64 (P.most : Int), .int .i64 (P.epoch : Int), .int .i64 (P.count : Int), .int .i64 lim, .slice A3 n3 c3, .int .i64 (P.hand : Int)]) := h36
         simp only [e33, e36] at hK ⊢
         clear e33 e36
         clear h
         try rw [if_pos (by rfl)]
         go_simp
         refine (HC7.out _ (bel_drew hB)).mono ?_
         rintro e w5 ⟨⟨A, c, rfl, h5⟩, hb5⟩
         exact hK _ _ hb5 ⟨A, c, rfl, h5⟩
        refine Steps.cons rfl ?_ ?_
        ·intro f wz hB h K Q hK
         have h33 : (MP.is (.bool false)).p (f 33) wz := h 33 (by kernel_rfl)
         have e33 : f 33 = (.bool false) := h33
         have h35 : (MP.ir (dirtyL P).length (intsL (dirtyL P))).p (f 35) wz := h 35 (by kernel_rfl)
         obtain ⟨A35, c35, e35, q35⟩ := h35
         have h37 : (MP.ir (dirtyL P).length (intsL (dirtyL P))).p (f 37) wz := h 37 (by kernel_rfl)
         obtain ⟨A37, c37, e37, q37⟩ := h37
         simp only [e33, e35, e37] at hK ⊢
         clear e33 e35 e37
         clear h
         try rw [if_pos (by rfl)]
         go_simp
         refine (HS2.out A35 A37 c35 c37 _ q35 q37).mono ?_
         rintro e w5 ⟨rfl, hb5⟩
         exact hK _ _ hb5 rfl
        refine Steps.cons rfl ?_ ?_
        ·intro f wz hB h K Q hK
         have h33 : (MP.is (.bool false)).p (f 33) wz := h 33 (by kernel_rfl)
         have e33 : f 33 = (.bool false) := h33
         have h38 : (MP.is (.bool true)).p (f 38) wz := h 38 (by kernel_rfl)
         have e38 : f 38 = (.bool true) := h38
         simp only [e33, e38] at hK ⊢
         clear e33 e38
         clear h
         try rw [if_pos (by rfl)]
         go_simp
         exact hK _ _ (gr_refl _) rfl
        refine Steps.cons rfl ?_ ?_
        ·intro f wz hB h K Q hK
         have h33 : (MP.is (.bool false)).p (f 33) wz := h 33 (by kernel_rfl)
         have e33 : f 33 = (.bool false) := h33
         have h39 : (MP.is (.bool false)).p (f 39) wz := h 39 (by kernel_rfl)
         have e39 : f 39 = (.bool false) := h39
         simp only [e33, e39] at hK ⊢
         clear e33 e39
         clear h
         try rw [if_pos (by rfl)]
         go_simp
         exact hK _ _ (gr_refl _) rfl
        exact Steps.nil
       intro f w8 hB8 hR
       have e0 : f 0 = (.bool true) := hR 0 (by decide)
       have e1 : f 1 = (.bool false) := hR 1 (by decide)
       have e2 : f 2 = (.bool false) := hR 2 (by decide)
       have e3 : f 3 = (.pointer (some ⟨gp, 0, none⟩)) := hR 3 (by decide)
       have e4 : f 4 = (.int .i64 (P.count : Int)) := hR 4 (by decide)
       have e5 : f 5 = (.pointer (some ⟨gw, 10, none⟩)) := hR 5 (by decide)
       have e6 : f 6 = (.int .i64 (P.count : Int)) := hR 6 (by decide)
       have e7 : f 7 = (.bool false) := hR 7 (by decide)
       have e8 : f 8 = (.bool false) := hR 8 (by decide)
       have e9 : f 9 = (.bool false) := hR 9 (by decide)
       have e10 : f 10 = (.pointer (some ⟨gp, 0, none⟩)) := hR 10 (by decide)
       have e11 : f 11 = (.int .i64 (P.pages : Int)) := hR 11 (by decide)
       have e12 : f 12 = (.pointer (some ⟨gw, 7, none⟩)) := hR 12 (by decide)
       have e13 : f 13 = (.int .i64 (P.pages : Int)) := hR 13 (by decide)
       have e14 : f 14 = (.bool false) := hR 14 (by decide)
       have e15 : f 15 = (.bool false) := hR 15 (by decide)
       have e16 : f 16 = (.bool false) := hR 16 (by decide)
       have e17 : f 17 = (.pointer (some ⟨gd, 0, none⟩)) := hR 17 (by decide)
       have e18 : f 18 = (.int .i64 (D.pending.length : Int)) := hR 18 (by decide)
       have e19 : f 19 = (.pointer (some ⟨gw, 0, none⟩)) := hR 19 (by decide)
       have e20 : f 20 = (.pointer (some ⟨gw, 1, none⟩)) := hR 20 (by decide)
       have e21 : f 21 = (.slice wA3 D.pending.length wc3) := hR 21 (by decide)
       have e22 : f 22 = (.int .i64 (D.pending.length : Int)) := hR 22 (by decide)
       have e23 : f 23 = (.bool false) := hR 23 (by decide)
       have e24 : f 24 = (.bool false) := hR 24 (by decide)
       have e25 : f 25 = (.bool false) := hR 25 (by decide)
       have e26 : f 26 = (.pointer (some ⟨gp, 0, none⟩)) := hR 26 (by decide)
       obtain ⟨A278, c278, e27, q278⟩ := (show (MP.ir (heldL P).length (intsL (heldL P))).p (f 27) w8 from hR 27 (by decide))
       have e28 : f 28 = (.agg #[.slice bA3 bn3 bc3, .slice wA3 D.pending.length wc3, .bool dn3, .int .i64 po3, .int .i64 fa3, .int .i64 wi3, .int .i64 (P.base : Int), .int .i64 (P.pages : Int), .int .i64 (P.most : Int), .int .i64 (P.epoch : Int), .int .i64 (P.count : Int), .int .i64 lim, .slice A3 n3 c3, .int .i64 (P.hand : Int)]) := hR 28 (by decide)
       obtain ⟨A298, c298, e29, q298⟩ := (show (MP.ir (heldL P).length (intsL (heldL P))).p (f 29) w8 from hR 29 (by decide))
       have e30 : f 30 = (.bool true) := hR 30 (by decide)
       have e31 : f 31 = (.bool false) := hR 31 (by decide)
       have e32 : f 32 = (.bool false) := hR 32 (by decide)
       have e33 : f 33 = (.bool false) := hR 33 (by decide)
       have e34 : f 34 = (.pointer (some ⟨gp, 0, none⟩)) := hR 34 (by decide)
       obtain ⟨A358, c358, e35, q358⟩ := (show (MP.ir (dirtyL P).length (intsL (dirtyL P))).p (f 35) w8 from hR 35 (by decide))
       have e36 : f 36 = (.agg #[.slice bA3 bn3 bc3, .slice wA3 D.pending.length wc3, .bool dn3, .int .i64 po3, .int .i64 fa3, .int .i64 wi3, .int .i64 (P.base : Int), .int .i64 (P.pages : Int), .int .i64 (P.most : Int), .int .i64 (P.epoch : Int), .int .i64 (P.count : Int), .int .i64 lim, .slice A3 n3 c3, .int .i64 (P.hand : Int)]) := hR 36 (by decide)
       obtain ⟨A378, c378, e37, q378⟩ := (show (MP.ir (dirtyL P).length (intsL (dirtyL P))).p (f 37) w8 from hR 37 (by decide))
       have e38 : f 38 = (.bool true) := hR 38 (by decide)
       have e39 : f 39 = (.bool false) := hR 39 (by decide)
       have e40 : f 40 = (.bool false) := hR 40 (by decide)
       simp only [e0, e1, e2, e3, e4, e5, e6, e7, e8, e9, e10, e11, e12, e13, e14, e15, e16, e17, e18, e19, e20, e21, e22, e23, e24, e25, e26, e27, e28, e29, e30, e31, e32, e33, e34, e35, e36, e37, e38, e39, e40]
       clear e0 e1 e2 e3 e4 e5 e6 e7 e8 e9 e10 e11 e12 e13 e14 e15 e16 e17 e18 e19 e20 e21 e22 e23 e24 e25 e26 e27 e28 e29 e30 e31 e32 e33 e34 e35 e36 e37 e38 e39 e40 hR
       have HB8b : Hid (Below wc.heap.size wc w8) := Lib.hid (bel_drew hB8)
       have HQ8 := Lib.hid (HQ.out.below HB8b.out)
       have HW8 := Lib.hid (HW.out.below HB8b.out)
       have HX8 := Lib.hid (HX.out.below HB8b.out)
       have HBW8b := Lib.hid (HBW.out.trans (HB8b.out.mono HBW.out.size))
       subst hk2
       clear hB8 HC1 HC2 HC3 HC4 HC5 HC6 HC7 HS1 HS2 t5 t6 t7 HQ HW HX HBW Y0 Y1 Y2 Y3 Y4 Y5 Y6 Y7 Y8 Y9 Y10 Y11 Y12 Y13
       go_wp2_with fail
       go_roundw
       case rel => exact ⟨k + 1, lim, bA3, bn3, bc3, wA3, _, wc3, dn3, po3, fa3, wi3, A3, n3, c3, G, S, D, P, by omega, by omega, by go_num, HQ8, HW8, HWN, HX8, HBL, HBW8b⟩
       case measure => simp [RowKit.intOf]; omega
    ·have HRK := Lib.hid (RP.rk_of HQ.out.rp).at_
     by_cases hl1 : k < n
     ·have t1 : decide ((k : Int) < (n : Int)) = true := decide_eq_true (by omega)
      have t1' : decide (k < n) = true := decide_eq_true hl1
      have t2 : decide ((k : Int) < 80) = false := decide_eq_false (by omega)
      have t2' : decide (k < 80) = false := decide_eq_false (by omega)
      clear hlt hl1
      go_upto_region 22 with fail
      clear t1 t1'
      go_upto_region 23 with fail
      obtain ⟨wo, hwo⟩ : ∃ wo, wo = wr := ⟨_, rfl⟩
      subst hwo
      go_loopw [17] (fun x wt => ∃ (j : Nat), j ≤ m ∧ x = .int .i64 (j : Int) ∧ Hid (Below wo.heap.size wo wt)) (fun x _ => m - (RowKit.intOf x).toNat)
      case atStart => exact ⟨0, by omega, rfl, Lib.hid (gr_refl wo)⟩
      case round =>
       obtain ⟨j, hjm, rfl, HBt⟩ := hrel
       have x0 := (HX.out.below HBt.out).c0
       by_cases hjl : j < m
       ·have t3 : decide ((j : Int) < (m : Int)) = true := decide_eq_true (by omega)
        have t3' : decide (j < m) = true := decide_eq_true hjl
        have i1 : (0 : Int) ≤ (j : Int) := Int.natCast_nonneg _
        have hbn : bn4 = m := HRK.out.1.trans HBL.out.1
        obtain ⟨g5, o5, A5, c5, l5, rfl, hcl, hbl, hbr⟩ := HRK.out.2.2.2 j (by omega)
        have i2 : (j : Int) < (bn4 : Int) := by omega
        have hdu : askE D (j : Int) = 0 ∧ durL D (j : Int) = l5 := by
         have h0 : askE D (j : Int) = 0 := by unfold askE; rw [if_neg (by have := HBL.out.1; omega)]
         refine ⟨h0, ?_⟩
         unfold durL
         rw [if_pos h0, Int.toNat_natCast, List.getD_eq_getElem?_getD, hbl]
         rfl
        have hdp := Durable_pj (HQ.out.pj.below HBt.out) (j : Int)
        rw [hdu.1, hdu.2] at hdp
        have HDP := Lib.hid hdp
        have HBR := Lib.hid hbr
        have HCL := Lib.hid hcl
        clear hdp hdu hbl hbr hcl hbn
        go_upto_region 26 with fail
        clear x0
        refine HDP.out.mono ?_
        rintro e wu ⟨v7, rfl, ob7, hb7⟩
        obtain ⟨A7, c7, rfl, hbr7, _, _⟩ := ob7.form
        have HBu : Hid (Below wo.heap.size wo wu) := Lib.hid (HBt.out.trans (hb7.mono HBt.out.size))
        have HSB := Lib.hid (fun W (hW : wu = W) => SameBytes_any A7 A5 l5.length 4096 c7 c5 l5 l5 W (hW ▸ hbr7) (hW ▸ (HBR.out.below HBu.out)))
        have y0 := (HW.out.below HBu.out).c0
        have yc := keep_of_below HBu.out HCL.out
        have tt : (l5 == l5) = true := beq_self_eq_true _
        clear ob7 hb7 hbr7 HDP
        go_wp2_with fail
        refine (HSB.out _ rfl).mono ?_
        rintro e wv ⟨rfl, rfl⟩
        go_wp2_with fail
        go_roundw
        case rel => exact ⟨j + 1, by omega, by go_num, HBu⟩
        case measure => simp [RowKit.intOf]; omega
       ·have t3 : decide ((j : Int) < (m : Int)) = false := decide_eq_false (by omega)
        have t3' : decide (j < m) = false := decide_eq_false hjl
        have hbz : Below w.heap.size w wr := HBW.out.trans (HBt.out.mono HBW.out.size)
        go_wp2_with fail
        refine (HAW.out _).mono ?_
        rintro e w9 ⟨rfl, hb9⟩
        have HB9 := Lib.hid (hbz.trans (hb9.mono hbz.size))
        clear hb9
        go_wp2_with fail
        go_ret
        exact ⟨rfl, HB9.out⟩
     ·have t1 : decide ((k : Int) < (n : Int)) = false := decide_eq_false (by omega)
      have t1' : decide (k < n) = false := decide_eq_false hl1
      clear hlt hl1
      go_upto_region 22 with fail
      clear t1 t1'
      go_upto_region 23 with fail
      obtain ⟨wo, hwo⟩ : ∃ wo, wo = wr := ⟨_, rfl⟩
      subst hwo
      go_loopw [17] (fun x wt => ∃ (j : Nat), j ≤ m ∧ x = .int .i64 (j : Int) ∧ Hid (Below wo.heap.size wo wt)) (fun x _ => m - (RowKit.intOf x).toNat)
      case atStart => exact ⟨0, by omega, rfl, Lib.hid (gr_refl wo)⟩
      case round =>
       obtain ⟨j, hjm, rfl, HBt⟩ := hrel
       have x0 := (HX.out.below HBt.out).c0
       by_cases hjl : j < m
       ·have t3 : decide ((j : Int) < (m : Int)) = true := decide_eq_true (by omega)
        have t3' : decide (j < m) = true := decide_eq_true hjl
        have i1 : (0 : Int) ≤ (j : Int) := Int.natCast_nonneg _
        have hbn : bn4 = m := HRK.out.1.trans HBL.out.1
        obtain ⟨g5, o5, A5, c5, l5, rfl, hcl, hbl, hbr⟩ := HRK.out.2.2.2 j (by omega)
        have i2 : (j : Int) < (bn4 : Int) := by omega
        have hdu : askE D (j : Int) = 0 ∧ durL D (j : Int) = l5 := by
         have h0 : askE D (j : Int) = 0 := by unfold askE; rw [if_neg (by have := HBL.out.1; omega)]
         refine ⟨h0, ?_⟩
         unfold durL
         rw [if_pos h0, Int.toNat_natCast, List.getD_eq_getElem?_getD, hbl]
         rfl
        have hdp := Durable_pj (HQ.out.pj.below HBt.out) (j : Int)
        rw [hdu.1, hdu.2] at hdp
        have HDP := Lib.hid hdp
        have HBR := Lib.hid hbr
        have HCL := Lib.hid hcl
        clear hdp hdu hbl hbr hcl hbn
        go_upto_region 26 with fail
        clear x0
        refine HDP.out.mono ?_
        rintro e wu ⟨v7, rfl, ob7, hb7⟩
        obtain ⟨A7, c7, rfl, hbr7, _, _⟩ := ob7.form
        have HBu : Hid (Below wo.heap.size wo wu) := Lib.hid (HBt.out.trans (hb7.mono HBt.out.size))
        have HSB := Lib.hid (fun W (hW : wu = W) => SameBytes_any A7 A5 l5.length 4096 c7 c5 l5 l5 W (hW ▸ hbr7) (hW ▸ (HBR.out.below HBu.out)))
        have y0 := (HW.out.below HBu.out).c0
        have yc := keep_of_below HBu.out HCL.out
        have tt : (l5 == l5) = true := beq_self_eq_true _
        clear ob7 hb7 hbr7 HDP
        go_wp2_with fail
        refine (HSB.out _ rfl).mono ?_
        rintro e wv ⟨rfl, rfl⟩
        go_wp2_with fail
        go_roundw
        case rel => exact ⟨j + 1, by omega, by go_num, HBu⟩
        case measure => simp [RowKit.intOf]; omega
       ·have t3 : decide ((j : Int) < (m : Int)) = false := decide_eq_false (by omega)
        have t3' : decide (j < m) = false := decide_eq_false hjl
        have hbz : Below w.heap.size w wr := HBW.out.trans (HBt.out.mono HBW.out.size)
        go_wp2_with fail
        refine (HAW.out _).mono ?_
        rintro e w9 ⟨rfl, hb9⟩
        have HB9 := Lib.hid (hbz.trans (hb9.mono hbz.size))
        clear hb9
        go_wp2_with fail
        go_ret
        exact ⟨rfl, HB9.out⟩
end Go.Proofs.YtmdgnjmhbjdlmaaGreat
