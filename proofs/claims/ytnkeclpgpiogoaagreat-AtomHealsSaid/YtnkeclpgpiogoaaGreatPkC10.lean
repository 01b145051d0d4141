/-
  Texts of this claim, joined: BtB, BtC, BtD, BtE, BtF, PlH, BtG, BtH, BtI, BtJ, BtK. No statement of the program is proved here.
-/
import Derived.Test.YtnkeclpgpiogoaaGreatPkC9
import Derived.Test.YtnkeclpgpiogoaaGreatPkC8
import Derived.Test.YtnkeclpgpiogoaaGreatPkC4
/-! BtB -/
namespace Go.Proofs.YtnkeclpgpiogoaaGreat
open Go Go.RowKit Go.Maps
def YB (w : World) (g : Nat) (u0 u1 u2 u3 : Value) : Prop := w.heap[g]? = some (.cells #[u0, u1, u2, u3] 53 (0, 0))
section
variable {w w' : World} {g : Nat} {u0 u1 u2 u3 : Value}
set_option maxRecDepth 100000 in
theorem YB.lt (h : YB w g u0 u1 u2 u3) : g < w.heap.size := (Array.getElem?_eq_some_iff.1 h).1
set_option maxRecDepth 100000 in
theorem YB.off {S : Nat → Prop} (h : YB w g u0 u1 u2 u3) (ho : Off S w w') (hs : ¬ S g) : YB w' g u0 u1 u2 u3 := (ho.block g h.lt hs).trans h
set_option maxRecDepth 100000 in
theorem YB.below (h : YB w g u0 u1 u2 u3) (hb : Below w.heap.size w w') : YB w' g u0 u1 u2 u3 := (hb.block g h.lt).trans h
set_option maxRecDepth 100000 in
theorem YB.frozen (h : YB w g u0 u1 u2 u3) (j : Nat) : w.frozen? ⟨g, j, none⟩ = false := by unfold YB at h; simp [World.frozen?, h]
set_option maxRecDepth 100000 in
theorem YB.c0 (h : YB w g u0 u1 u2 u3) : w.cell? ⟨g, 0, none⟩ = some u0 := by rw [cell_of_row w g 0 _ _ _ h]; rfl
set_option maxRecDepth 100000 in
theorem YB.c1 (h : YB w g u0 u1 u2 u3) : w.cell? ⟨g, 1, none⟩ = some u1 := by rw [cell_of_row w g 1 _ _ _ h]; rfl
set_option maxRecDepth 100000 in
theorem YB.c2 (h : YB w g u0 u1 u2 u3) : w.cell? ⟨g, 2, none⟩ = some u2 := by rw [cell_of_row w g 2 _ _ _ h]; rfl
set_option maxRecDepth 100000 in
theorem YB.c3 (h : YB w g u0 u1 u2 u3) : w.cell? ⟨g, 3, none⟩ = some u3 := by rw [cell_of_row w g 3 _ _ _ h]; rfl
set_option maxRecDepth 100000 in
theorem YB.nb (h : YB w g u0 u1 u2 u3) : NE w g := ⟨_, h, by decide, by decide, by decide, by decide, by decide, by decide⟩
set_option maxRecDepth 100000 in
theorem YB.put (h : YB w g u0 u1 u2 u3) (v0 v1 v2 v3 : Value) : YB ((((w.setCell ⟨g, 0, none⟩ v0).setCell ⟨g, 1, none⟩ v1).setCell ⟨g, 2, none⟩ v2).setCell ⟨g, 3, none⟩ v3) g v0 v1 v2 v3 := by
 unfold YB at h ⊢
 simp only [World.setCell, Array.getElem?_modify, if_pos, h]
 rfl
set_option maxRecDepth 100000 in
theorem YB.puto (v0 v1 v2 v3 : Value) : Off (· = g) w ((((w.setCell ⟨g, 0, none⟩ v0).setCell ⟨g, 1, none⟩ v1).setCell ⟨g, 2, none⟩ v2).setCell ⟨g, 3, none⟩ v3) :=
 ((((Off.refl (· = g) w).setCell _ rfl).setCell _ rfl).setCell _ rfl).setCell _ rfl
end
def made10E (gj gb : Nat) : EnS := ⟨newD 140, newJ 0 120 1 0 1, gj, gb, true⟩
def yV (z : Wh) (gj : Nat) : Value := .agg #[.pointer (some ⟨z.gd, 0, none⟩), .pointer (some ⟨gj, 0, none⟩), .pointer (some ⟨z.gp, 0, none⟩), .pointer (some ⟨z.ga, 0, none⟩)]
set_option maxRecDepth 100000 in
set_option maxHeartbeats 1000000 in
theorem made10_any (f : Nat) (w0 w : World) (hb0 : Below w0.heap.size w0 w) (hf1 : 2 ≤ f) (hf2 : f ≤ 256) :
  Calls Tryz.prog 26 #[.int .i64 (f : Int)] w fun e w' => ∃ z gj gb T, e = .returned (.tuple #[yV z gj, .bool true]) ∧ AZ w0 w' z (made10E gj gb) (newP 120 20 f 1 0) newA T ∧ Below w.heap.size w w' := by
 have hba := gr_alloc (gr_refl w) (.cells #[.pointer none, .pointer none, .pointer none, .pointer none] 53)
 have hyb : YB (w.alloc (.cells #[.pointer none, .pointer none, .pointer none, .pointer none] 53)) w.heap.size (.pointer none) (.pointer none) (.pointer none) (.pointer none) := heap_alloc_new _ _
 have hd : Calls Tryz.prog 58 #[.int .i64 140] (w.alloc (.cells #[.pointer none, .pointer none, .pointer none, .pointer none] 53)) fun e w' => ∃ gd S, e = .returned (.tuple #[.pointer (some ⟨gd, 0, none⟩), .int .i64 0]) ∧ DS w0 w' gd (newD 140) S ∧ Below (w.alloc (.cells #[.pointer none, .pointer none, .pointer none, .pointer none] 53)).heap.size (w.alloc (.cells #[.pointer none, .pointer none, .pointer none, .pointer none] 53)) w' ∧ ∀ k, S k → (w.alloc (.cells #[.pointer none, .pointer none, .pointer none, .pointer none] 53)).heap.size ≤ k := DNew_ds 140 w0 _ (by omega) (by omega) (gr_trans hb0 hba)
 have HD := Lib.hid hd
 have HYB := Lib.hid hyb
 have HBA := Lib.hid hba
 have HB0 := Lib.hid hb0
 have HSZ : Hid ((w.alloc (.cells #[.pointer none, .pointer none, .pointer none, .pointer none] 53)).heap.size = w.heap.size + 1) := Lib.hid (World.size_alloc ..)
 have hmf : ∀ (fn : Fn) (first cap : Array Value) (w : World), (Instr.makeFunc fn first cap).run Tryz.prog w = .ok (.func fn first cap) w := fun _ _ _ _ => rfl
 have HLN : Hid ((newD 140).blocks.length = 140) := Lib.hid (List.length_replicate ..)
 clear hd hyb hba hb0
 go_enter Tryz.func26, Tryz.ntmps26
 go_wp2_with fail
 generalize w.alloc (.cells #[.pointer none, .pointer none, .pointer none, .pointer none] 53) = wa at *
 refine HD.out.mono ?_
 rintro e w2 ⟨gd, S, rfl, hds, hb2, hS⟩
 have HJ : Hid (Calls Tryz.prog 59 #[.pointer (some ⟨gd, 0, none⟩), .int .i64 0, .int .i64 120, .int .i64 1, .int .i64 0, .int .i64 1] w2 fun e w' => ∃ gj S', e = .returned (.tuple #[.pointer (some ⟨gj, 0, none⟩), .int .i64 0]) ∧ JS w0 w' gd gj (newD 140) (newJ 0 120 1 0 1) S' ∧ Below w2.heap.size w2 w' ∧ Mv S S' w2 w') :=
  Lib.hid (JNew_js 0 120 1 0 1 hds (by rw [HLN.out]; exact mayB_new (ring := 120) (n := 20) (by omega) (by omega)))
 have HB2 := Lib.hid hb2
 have HS := Lib.hid hS
 clear hds hb2 hS
 go_wp2_with fail
 refine HJ.out.mono ?_
 rintro e w3 ⟨gj, S', rfl, hjs, hb3, hm3⟩
 have hb4 := gr_alloc (gr_refl w3) (.cells #[.pointer (some ⟨gj, 0, none⟩)] 50)
 have hbox := heap_alloc_new w3 (.cells #[.pointer (some ⟨gj, 0, none⟩)] 50)
 have hie : IsE (w3.alloc (.cells #[.pointer (some ⟨gj, 0, none⟩)] 50)) w0.heap.size gd S' (made10E gj w3.heap.size) := IsE.of (hjs.below hb4) hbox hjs.bel.size
 have HP : Hid (Calls Tryz.prog 60 #[.pointer (some ⟨gd, 0, none⟩), .int .i64 120, .int .i64 20, .int .i64 (f : Int), .int .i64 1, .int .i64 0, .func (.func 73) #[] #[.pointer (some ⟨w3.heap.size, 0, none⟩)]] (w3.alloc (.cells #[.pointer (some ⟨gj, 0, none⟩)] 50)) fun e w' => e = .returned (.tuple #[.pointer (some ⟨(w3.alloc (.cells #[.pointer (some ⟨gj, 0, none⟩)] 50)).heap.size + 1, 0, none⟩), .int .i64 0]) ∧ PX w' w0.heap.size ((w3.alloc (.cells #[.pointer (some ⟨gj, 0, none⟩)] 50)).heap.size + 1) gd (.func (.func 73) #[] #[.pointer (some ⟨w3.heap.size, 0, none⟩)]) (made10E gj w3.heap.size) (newP 120 20 f 1 0) S' (.slice none 0 0) (w3.alloc (.cells #[.pointer (some ⟨gj, 0, none⟩)] 50)).heap.size [] ∧ Below (w3.alloc (.cells #[.pointer (some ⟨gj, 0, none⟩)] 50)).heap.size (w3.alloc (.cells #[.pointer (some ⟨gj, 0, none⟩)] 50)) w') :=
  Lib.hid (PNew_any _ w0.heap.size gd S' (made10E gj w3.heap.size) 120 20 f 1 0 _ hie (.inr ⟨_, _, rfl⟩) (by
   show mayP ((newD 140).blocks.length) _ _ _ _ _ = true
   rw [HLN.out]
   exact mayP_new (ring := 120) (n := 20) (by omega) hf1 hf2))
 have HBOX := Lib.hid hbox
 have HB3 := Lib.hid (gr_trans (gr_trans HB2.out hb3) hb4)
 have HT3 : Hid (∀ k, S' k → wa.heap.size ≤ k) := Lib.hid (fun k e => (hm3.2 k e).elim (HS.out k) (fun e => Nat.le_trans HB2.out.size e))
 clear hjs hb3 hm3 hb4 hbox hie
 have HGP : Hid (wa.heap.size ≤ (w3.alloc (.cells #[.pointer (some ⟨gj, 0, none⟩)] 50)).heap.size) := Lib.hid HB3.out.size
 obtain ⟨mb, hmb⟩ : ∃ mb, mb = (w3.alloc (.cells #[.pointer (some ⟨gj, 0, none⟩)] 50)).heap.size := ⟨_, rfl⟩
 have HMB := Lib.hid hmb
 rw [← hmb] at HGP
 clear hmb
 go_wp2_with fail
 refine HP.out.mono ?_
 rintro e w5 ⟨rfl, hpx, hb5⟩
 rw [← HMB.out] at hpx hb5 ⊢
 have hcell : w5.cell? ⟨w3.heap.size, 0, none⟩ = some (.pointer (some ⟨gj, 0, none⟩)) := keep_of_below (by rw [← HMB.out]; exact hb5) (box_cell HBOX.out)
 have HA : Hid (Calls Tryz.prog 52 #[.pointer (some ⟨mb + 1, 0, none⟩), .pointer (some ⟨gj, 0, none⟩)] w5 fun e w' => ∃ ga T, e = .returned (.tuple #[.pointer (some ⟨ga, 0, none⟩), .int .i64 0]) ∧ AZ w0 w' ⟨gd, mb + 1, .func (.func 73) #[] #[.pointer (some ⟨w3.heap.size, 0, none⟩)], ga⟩ (made10E gj w3.heap.size) (newP 120 20 f 1 0) newA T ∧ Below w5.heap.size w5 w' ∧ ∀ k, T k → PS (mb + 1) S' (.slice none 0 0) mb [] k ∨ w5.heap.size ≤ k) :=
  Lib.hid (ANew_az (gr_trans (gr_trans (gr_trans HB0.out HBA.out) HB3.out) (by rw [← HMB.out]; exact hb5)) hpx (wal10 (D0 := made10E gj w3.heap.size) rfl) (by show (1 : Nat) ≤ 20; omega) (by show (1 : Nat) ≠ 0; omega))
 have HB5 := Lib.hid (gr_trans HB3.out (by rw [← HMB.out]; exact hb5))
 clear hpx hb5
 go_wp2_with fail
 refine HA.out.mono ?_
 rintro e w6 ⟨ga, T, rfl, haz, hb6, hT⟩
 have HB6 := Lib.hid (gr_trans HB5.out hb6)
 have hyb6 := HYB.out.below HB6.out
 have hc6 := keep_of_below hb6 hcell
 have HY6 := Lib.hid hyb6
 have HNT : Hid (¬ T w.heap.size) := Lib.hid (fun e => by
  have h1 := HSZ.out
  have h2 := HGP.out
  have h3 := HB5.out.size
  rcases hT _ e with e | e
  ·rcases e with e | e | e | e | ⟨x, hx, _⟩
   ·have := HT3.out _ e
    omega
   ·omega
   ·omega
   ·simp [Value.ownBlock] at e
   ·cases hx
  ·omega)
 have HAZ := Lib.hid haz
 have f0 := hyb6.frozen 0
 have f1 := hyb6.frozen 1
 have f2 := hyb6.frozen 2
 have f3 := hyb6.frozen 3
 have z0 := hyb6.c0
 have z1 := hyb6.c1
 have z2 := hyb6.c2
 have z3 := hyb6.c3
 clear haz hb6 hT hcell hyb6
 go_wp2_with fail
 have hyf := HY6.out.put (.pointer (some ⟨gd, 0, none⟩)) (.pointer (some ⟨gj, 0, none⟩)) (.pointer (some ⟨mb + 1, 0, none⟩)) (.pointer (some ⟨ga, 0, none⟩))
 have hof := YB.puto (w := w6) (g := w.heap.size) (.pointer (some ⟨gd, 0, none⟩)) (.pointer (some ⟨gj, 0, none⟩)) (.pointer (some ⟨mb + 1, 0, none⟩)) (.pointer (some ⟨ga, 0, none⟩))
 clear f0 f1 f2 f3 z0 z1 z2 z3
 generalize (((w6.setCell ⟨w.heap.size, 0, none⟩ (.pointer (some ⟨gd, 0, none⟩))).setCell ⟨w.heap.size, 1, none⟩ (.pointer (some ⟨gj, 0, none⟩))).setCell ⟨w.heap.size, 2, none⟩ (.pointer (some ⟨mb + 1, 0, none⟩))).setCell ⟨w.heap.size, 3, none⟩ (.pointer (some ⟨ga, 0, none⟩)) = w7 at hyf hof ⊢
 have z0 := hyf.c0
 have z1 := hyf.c1
 have z2 := hyf.c2
 have z3 := hyf.c3
 refine bodyPost_ret (v := .tuple #[yV ⟨gd, mb + 1, .func (.func 73) #[] #[.pointer (some ⟨w3.heap.size, 0, none⟩)], ga⟩ gj, .bool true]) (by simp [results, Tryz.results26, go_sem, z0, z1, z2, z3, yV]) rfl ⟨_, gj, w3.heap.size, T, rfl, HAZ.out.nb hof ?_, ?_⟩
 ·rintro k rfl
  exact ⟨HY6.out.nb, HNT.out, HB0.out.size⟩
 ·have h5 := HB6.out
  have h6 := HBA.out
  exact (gr_trans h6 h5).trans (hof.below (by rintro k rfl; exact Nat.le_refl _) (gr_trans h6 h5).size)
end Go.Proofs.YtnkeclpgpiogoaaGreat

/-! BtC -/
namespace Go.Proofs.YtnkeclpgpiogoaaGreat
open Go Go.RowKit Go.Maps
set_option maxRecDepth 100000 in
theorem CI.flush {E : EnS} {P : PoS} {now : Nat → List UInt8} {recs : List Rec} {U : Nat} (h : CI E P now recs U) : fluE E.d E.j = 0 ∧ CI { E with d := fluD E.d E.j, j := fluJ E.d E.j } P now recs U ∧ (fluJ E.d E.j).sy = recs.length := by
 obtain ⟨h1, h2, h3⟩ := h.lc.flush h.ti
 obtain ⟨g1, g2, _, _⟩ := fluJ_shape E.d E.j
 exact ⟨h1, ⟨h.ti.env (fluD_blocks _ _) g1 g2 (fun x hx hl => visL_flu hl (by have := h.ti.fb; omega) h.ti.b0), h2⟩, h3⟩
set_option maxRecDepth 100000 in
theorem CI.scan {E : EnS} {P : PoS} {now : Nat → List UInt8} {recs : List Rec} {U : Nat} (h : CI E P now recs U) (hs : E.j.sy = recs.length) : scanR E.d E.j.fi E.j.bl E.j.ep 0 1 = recs := by
 obtain ⟨fs, cur, h1, h2, h3, h4⟩ := h.lc.ex
 have hc : cur = [] := by
  have := congrArg List.length h2
  rw [List.length_append] at this
  exact List.length_eq_zero_iff.1 (by omega)
 have hfb := h.ti.fb
 have hb0 := h.ti.b0
 have hji := h1.ji.b2
 have hft := h1.fits
 have hC : ringC E.d E.j.fi E.j.bl 0 = fun k => E.d.blocks.getD (E.j.fi + (0 + k) % E.j.bl) [] := by
  funext k
  unfold ringC
  refine lastL_none (fun q hq => ?_)
  have := h.lc.po q hq
  have := Nat.mod_lt (0 + k) hb0
  omega
 refine (scan_log (by rw [hC]; exact h1.log) (by omega) (scan_stop (b := [0]) (m := 0) (by simp) (by simp [needL]) (fun j hj => by omega) (.inr ?_))).1.trans ?_
 ·rw [hC]
  simp only [Nat.add_zero]
  rw [← h1.ct]
  exact h1.old _ (Nat.mod_lt _ hb0) _ (Nat.le_refl _) (by have := h1.ct; omega)
 ·rw [← h2, hc, List.append_nil]
structure SJ (w0 w : World) (z : Wh) (n bl gj : Nat) (T : Nat → Prop) (now : Nat → List UInt8) (c : Nat) (recs : List Rec) (V : Nat) (im : List (Nat × Unit)) : Prop where
 ex : ∃ D P A, AZ w0 w z D P A T ∧ CI D P now recs V ∧ P.pages = n ∧ A.br = false ∧ A.im = im ∧ P.count ≤ c ∧ D.j.bl = bl ∧ D.j.fi = 0 ∧ D.j.ep = 1 ∧ D.gj = gj
structure SF (w0 w : World) (z : Wh) (n bl gj : Nat) (T : Nat → Prop) (now : Nat → List UInt8) (c : Nat) (recs : List Rec) (V : Nat) (im : List (Nat × Unit)) : Prop where
 ex : ∃ D P A, AZ w0 w z D P A T ∧ CI D P now recs V ∧ P.pages = n ∧ A.br = false ∧ A.im = im ∧ P.count ≤ c ∧ D.j.bl = bl ∧ D.j.fi = 0 ∧ D.j.ep = 1 ∧ D.gj = gj ∧ D.j.sy = recs.length
section
variable {w0 w w1 w' : World} {z : Wh} {n bl gj c V : Nat} {T T1 T' U : Nat → Prop} {now : Nat → List UInt8} {recs : List Rec} {im : List (Nat × Unit)} {gx : Nat} {st : List (Nat × List UInt8)}
set_option maxRecDepth 100000 in
theorem SJ.below (h : SJ w0 w z n bl gj T now c recs V im) (hb : Below w.heap.size w w') : SJ w0 w' z n bl gj T now c recs V im := by
 obtain ⟨D, P, A, h1, r⟩ := h.ex
 exact ⟨D, P, A, h1.below hb, r⟩
set_option maxRecDepth 100000 in
theorem SJ.lt (h : SJ w0 w z n bl gj T now c recs V im) {k : Nat} (hk : T k) : w0.heap.size ≤ k ∧ k < w.heap.size := by
 obtain ⟨D, P, A, h1, r⟩ := h.ex
 exact h1.lt hk
set_option maxRecDepth 100000 in
theorem SJ.bel (h : SJ w0 w z n bl gj T now c recs V im) : Below w0.heap.size w0 w := by
 obtain ⟨D, P, A, h1, r⟩ := h.ex
 exact h1.bel
set_option maxRecDepth 100000 in
theorem SF.sj (h : SF w0 w z n bl gj T now c recs V im) : SJ w0 w z n bl gj T now c recs V im := by
 obtain ⟨D, P, A, h1, h2, h3, h4, h5, h6, h7, h8, h9, h10, _⟩ := h.ex
 exact ⟨D, P, A, h1, h2, h3, h4, h5, h6, h7, h8, h9, h10⟩
set_option maxRecDepth 100000 in
theorem SF.below (h : SF w0 w z n bl gj T now c recs V im) (hb : Below w.heap.size w w') : SF w0 w' z n bl gj T now c recs V im := by
 obtain ⟨D, P, A, h1, r⟩ := h.ex
 exact ⟨D, P, A, h1.below hb, r⟩
set_option maxRecDepth 100000 in
theorem SJ.new10 {f gb : Nat} (h : AZ w0 w z (made10E gj gb) (newP 120 20 f 1 0) newA T) (hf1 : 2 ≤ f) (hf2 : f ≤ 256) : SJ w0 w z 20 120 gj T (fun _ => zP) 0 [] 0 [] :=
 ⟨_, _, _, h, (CI.new (by omega) (by omega) (by omega) (by omega) (by omega) : CI ⟨newD (120 + 20), newJ 0 120 1 0 1, gj, gb, true⟩ (newP 120 20 f 1 0) (fun _ => zP) [] 0), rfl, rfl, rfl, Nat.le_refl _, rfl, rfl, rfl, rfl⟩
set_option maxRecDepth 100000 in
theorem Begin_sj (h : SJ w0 w z n bl gj T now c recs V im) :
  Calls Tryz.prog 13 #[.pointer (some ⟨z.ga, 0, none⟩)] w fun e w' => ∃ gx U, e = .returned (.pointer (some ⟨gx, 0, none⟩)) ∧ SJ w0 w' z n bl gj T now c recs V im ∧ XG w0 w' z n gx [] T U ∧ Below w.heap.size w w' ∧ w.heap.size ≤ gx ∧ ∀ k, U k → w.heap.size ≤ k := by
 obtain ⟨D, P, A, h1, r⟩ := h.ex
 refine (Begin_az h1).mono ?_
 rintro e w' ⟨gx, U, rfl, a1, a2, a3, a4, a5⟩
 exact ⟨gx, U, rfl, ⟨D, P, A, a1, r⟩, ⟨a2, XOk.new n⟩, a3, a4, a5⟩
set_option maxRecDepth 100000 in
theorem Set_sj (h : SJ w0 w z n bl gj T now c recs V im) (hx : XG w0 w z n gx st T U) (p : Nat) (B : Option Addr) (k : Nat) (l : List UInt8) (hb : BR w B 4080 l) (hp : p < n) (h16 : st.length < 16 ∨ findS st p ≠ none) :
  Calls Tryz.prog 19 #[.pointer (some ⟨gx, 0, none⟩), .int .i64 (p : Int), .slice B 4080 k] w fun e w' => e = .returned (.int .i64 0) ∧ SJ w0 w' z n bl gj T now c recs V im ∧ XG w0 w' z n gx (insS p l st) T U ∧ Off U w w' := by
 obtain ⟨D, P, A, h1, h2, h3, h4, r⟩ := h.ex
 have hpp : P.pages ≤ 4096 := by have := h1.pi.fit; have := h1.pi.d2; omega
 have hl : l.length = 4080 := hb.len
 obtain ⟨e1, e2⟩ := aset_ok (P := P) (A := A) (X := ⟨st, false⟩) rfl h4 (p := p) (by omega) hl h16
 refine (Set_at h1 hx.xz (p : Int) B 4080 k l hb (by omega) (by omega) hx.ok.most).mono ?_
 rw [e1, e2]
 rintro e w' ⟨rfl, a1, a2, a3⟩
 exact ⟨rfl, ⟨D, P, A, a1, h2, h3, h4, r⟩, ⟨a2, hx.ok.ins hp hl h16⟩, a3⟩
set_option maxRecDepth 100000 in
theorem Done_sj (h : SJ w0 w z n bl gj T now c recs V im) (hx : XG w0 w z n gx st T U) (tx : Int) (t1 : 0 ≤ tx) (t2 : tx ≤ 4611686018427387904) (hV : V + (st.length + 1) ≤ bl) (hr : recs.length ≤ 1000000) (him : im.length ≤ 4096) (hc : c ≤ 800000) :
  Calls Tryz.prog 15 #[.pointer (some ⟨gx, 0, none⟩), .int .i64 tx] w fun e w' => e = .returned (.tuple #[.int .i64 ((recs ++ if chgL im now st = [] then [] else [(⟨1, tx, chgL im now st⟩ : Rec)]).length : Int), .int .i64 0]) ∧
   ∃ T', SJ w0 w' z n bl gj T' (nowD now st) (c + 32) (recs ++ if chgL im now st = [] then [] else [⟨1, tx, chgL im now st⟩]) (V + (st.length + 1)) (markF (chgL im now st) im) ∧ XZ w' w0.heap.size z.ga gx ⟨st, true⟩ T' U ∧ Off (TU T U) w w' ∧ ∀ k, T' k → T k ∨ w.heap.size ≤ k := by
 obtain ⟨D, P, A, h1, h2, h3, h4, h5, h6, h7, h8, h9, h10⟩ := h.ex
 subst h5
 have hpp := pool_pages h1
 have hpl := h2.lc.pl
 have hla := h2.lc.la
 have hmost := hx.ok.most
 obtain ⟨s1, s2, s3, s4, s5, s6⟩ := SameG.done D P A ⟨st, false⟩ tx
 obtain ⟨E', P', q1, q2, q3, q4⟩ := h2.done (A := A) (X := ⟨st, false⟩) (by rw [h3]; exact hx.ok) rfl h4 t1 t2 (by rw [h7]; exact hV) hr
 refine (Done_at h1 hx.xz tx hmost (fun e he => by have := (hx.ok.ok e he).1; omega) (by omega) (by omega) (by omega) him).mono ?_
 rintro e w' ⟨rfl, T', a1, a2, a3, a4⟩
 rw [q1] at a1 a2 s1 s4 s5 s6 ⊢
 dsimp only at a1 a2 s1 s4 s5 s6
 refine ⟨rfl, T', ⟨_, _, _, a1, q2, q3.trans h3, h4, rfl, ?_, s5.trans h7, s4.trans h8, s6.trans h9, s1.trans h10⟩, a2, a3, a4⟩
 have q4' : P'.count ≤ P.count + 2 * st.length := q4
 omega
set_option maxRecDepth 100000 in
theorem Flush_az {D : EnS} {P : PoS} {A : AtS} (h : AZ w0 w z D P A T) (hpd : D.d.pending.length ≤ 900000) :
  Calls Tryz.prog 41 #[.pointer (some ⟨D.gj, 0, none⟩)] w fun e w' => e = .returned (.int .i64 (fluE D.d D.j)) ∧ ∃ T', AZ w0 w' z { D with d := fluD D.d D.j, j := fluJ D.d D.j } P A T' ∧ Mv T T' w w' := by
 obtain ⟨F, tv, mb, q, im, h1, h2, h3, h4, h5, h6, h7, h8, h9⟩ := h.ex
 obtain ⟨w1, e1, hj, hnx⟩ := h1.dk.next
 obtain ⟨g1, g2, g3, _⟩ := fluJ_shape D.d D.j
 refine (JFlush_js hj hpd).mono ?_
 rintro e w' ⟨rfl, F', j1, j2⟩
 have hx := h1.env (hnx _ _ _ _ j1 j2) j2 (fluD_blocks _ _)
 obtain ⟨T', ha, hm, _⟩ := h.step h2 h3 h4 h5 h6 h7 h9 (D' := { D with d := fluD D.d D.j, j := fluJ D.d D.j }) ⟨rfl, rfl, rfl, g1, g2, g3⟩ hx (j2.1.mono (fun k _ e => .inl e)) (fun k e => by
  rcases e with e | e
  ·exact (j2.2 k e).imp .inl id
  ·exact .inl (.inr e))
 exact ⟨rfl, T', ha, hm⟩
set_option maxRecDepth 100000 in
theorem Flush_sj (h : SJ w0 w z n bl gj T now c recs V im) (hc : c ≤ 900000) :
  Calls Tryz.prog 41 #[.pointer (some ⟨gj, 0, none⟩)] w fun e w' => e = .returned (.int .i64 0) ∧ ∃ T', SF w0 w' z n bl gj T' now c recs V im ∧ Mv T T' w w' := by
 obtain ⟨D, P, A, h1, h2, h3, h4, h5, h6, h7, h8, h9, rfl⟩ := h.ex
 have hpl := h2.lc.pl
 obtain ⟨g1, g2, g3, _⟩ := fluJ_shape D.d D.j
 obtain ⟨q1, q2, q3⟩ := h2.flush
 refine (Flush_az h1 (by omega)).mono ?_
 rw [q1]
 rintro e w' ⟨rfl, T', a1, a2⟩
 exact ⟨rfl, T', ⟨_, _, A, a1, q2, h3, h4, h5, h6, g2.trans h7, g1.trans h8, g3.trans h9, rfl, q3⟩, a2⟩
set_option maxRecDepth 100000 in
theorem Scan_sf (h : SF w0 w z n bl gj T now c recs V im) (hc : c ≤ 900000) :
  Calls Tryz.prog 43 #[.pointer (some ⟨z.gd, 0, none⟩), .int .i64 0, .int .i64 (bl : Int), .int .i64 1, .int .i64 0, .int .i64 1] w fun e w' => ∃ v p1 p2, e = .returned (.tuple #[v, .int .i64 p1, .int .i64 p2, .int .i64 0]) ∧ ORW w' w.heap.size v recs ∧ Below w.heap.size w w' := by
 obtain ⟨D, P, A, h1, h2, h3, h4, h5, h6, rfl, h8, h9, h10, h11⟩ := h.ex
 obtain ⟨F, tv, mb, q, im, k1, _⟩ := h1.ex
 have hjs := k1.dk.js h1.bel
 obtain ⟨S', hds, _⟩ := hjs.ds
 have hji := hjs.ji
 have hpl := h2.lc.pl
 have hfb := h2.ti.fb
 have hnb := h2.ti.nb
 have hsc := h2.scan h11
 rw [h8, h9] at hsc
 have hm : mayB D.d.blocks.length (0 : Nat) (D.j.bl : Nat) (1 : Nat) (0 : Nat) (1 : Nat) = true := by
  have b1 := hji.b1
  have b2 := hji.b2
  unfold mayB
  simp only [Bool.and_eq_true, decide_eq_true_eq]
  refine ⟨?_, ?_, ?_, ?_, ?_, ?_, ?_, ?_, ?_, ?_⟩ <;> omega
 refine (Scan_js 0 D.j.bl 1 0 1 hds hm h2.lc.easy.1 (by omega)).mono ?_
 rintro e w' ⟨v, rfl, hv, hb⟩
 rw [hsc] at hv
 exact ⟨v, _, _, rfl, hv, hb⟩
end
end Go.Proofs.YtnkeclpgpiogoaaGreat

/-! BtD -/
namespace Go.Proofs.YtnkeclpgpiogoaaGreat
open Go Go.RowKit Go.Maps
set_option maxRecDepth 100000 in
theorem pay1_len : (payT 1 []).length = 4080 := payT_len 1 []
set_option maxRecDepth 100000 in
theorem made_at (seed : Int) (n i : Nat) (hi : i < n) : (madeL seed n).getD i 0 = UInt8.ofNat (madeX seed (i + 1) / 1099511627776 % 256).toNat := by
 unfold madeL
 rw [List.getD_eq_getElem?_getD, List.getElem?_map, List.getElem?_range hi]
 rfl
set_option maxRecDepth 100000 in
theorem pay1_0 : (payT 1 []).getD 0 0 ≠ 0 := by
 rw [show payT 1 [] = madeL 1 4080 from rfl, made_at 1 4080 0 (by omega)]
 decide
set_option maxRecDepth 100000 in
theorem pay1_7 : (payT 1 []).getD 7 0 ≠ 0 := by
 rw [show payT 1 [] = madeL 1 4080 from rfl, made_at 1 4080 7 (by omega)]
 decide
set_option maxRecDepth 100000 in
theorem pay1_zP : zP ≠ payT 1 [] := fun e => by
 have h := pay1_0
 rw [← e] at h
 exact h (by unfold zP; rw [List.getD_eq_getElem?_getD, List.getElem?_replicate_of_lt (by omega)]; rfl)
set_option maxRecDepth 100000 in
theorem pay17 : payT 1 [7] = (payT 1 []).set 7 0 := rfl
set_option maxRecDepth 100000 in
theorem pay17_ne : payT 1 [] ≠ payT 1 [7] := fun e => by
 have h := pay1_7
 rw [e, pay17] at h
 refine h ?_
 rw [List.getD_eq_getElem?_getD, List.getElem?_set_self (by rw [pay1_len]; omega)]
 rfl
set_option maxRecDepth 100000 in
theorem unl_one (a : List UInt8) (ha : a.length = 4080) (h7 : a.getD 7 0 ≠ 0) : unlTo a (a.set 7 0) 4080 = [7] := by
 have e : unlTo a (a.set 7 0) 4080 = (List.range 4080).filter (fun i => i == 7) := by
  unfold unlTo
  refine List.filter_congr fun i hi => ?_
  have hi := List.mem_range.1 hi
  by_cases h : i = 7
  ·subst h
   have h2 : (a.set 7 0).getD 7 0 = 0 := by
    rw [List.getD_eq_getElem?_getD, List.getElem?_set_self (by omega)]
    rfl
   rw [h2]
   simpa using h7
  ·have h2 : (a.set 7 0).getD i 0 = a.getD i 0 := by
    rw [List.getD_eq_getElem?_getD, List.getElem?_set_ne (fun e => h e.symm), ← List.getD_eq_getElem?_getD]
   rw [h2, bne_self_eq_false]
   exact (beq_false_of_ne h).symm
 rw [e]
 decide +kernel
set_option maxRecDepth 100000 in
theorem piece_one (a : List UInt8) (ha : a.length = 4080) (h7 : a.getD 7 0 ≠ 0) : (diffL a (a.set 7 0)).length = 1 := by
 unfold diffL dst
 rw [unl_one a ha h7]
 rfl
structure YK (w : World) (z : Wh) (gj g : Nat) (T : Nat → Prop) : Prop where
 yb : YB w g (.pointer (some ⟨z.gd, 0, none⟩)) (.pointer (some ⟨gj, 0, none⟩)) (.pointer (some ⟨z.gp, 0, none⟩)) (.pointer (some ⟨z.ga, 0, none⟩))
 nt : ¬ T g
section
variable {w w' : World} {z : Wh} {gj g : Nat} {T T' S : Nat → Prop}
set_option maxRecDepth 100000 in
theorem YK.below (h : YK w z gj g T) (hb : Below w.heap.size w w') : YK w' z gj g T := ⟨h.yb.below hb, h.nt⟩
set_option maxRecDepth 100000 in
theorem YK.off (h : YK w z gj g T) (ho : Off S w w') (hs : ¬ S g) (hT : ∀ k, T' k → T k ∨ w.heap.size ≤ k) : YK w' z gj g T' := ⟨h.yb.off ho hs, fun e => (hT g e).elim h.nt (fun e => by have := h.yb.lt; omega)⟩
set_option maxRecDepth 100000 in
theorem YK.mv (h : YK w z gj g T) (hm : Mv T T' w w') : YK w' z gj g T' := h.off hm.1 h.nt hm.2
end
set_option maxRecDepth 100000 in
set_option maxRecDepth 100000 in
set_option maxRecDepth 100000 in
set_option maxRecDepth 100000 in
set_option maxRecDepth 100000 in
set_option maxRecDepth 100000 in
set_option maxRecDepth 100000 in
theorem YK.new {w0 w : World} {z : Wh} {n bl gj c V : Nat} {T : Nat → Prop} {now : Nat → List UInt8} {recs : List Rec} {im : List (Nat × Unit)} (h : SJ w0 w z n bl gj T now c recs V im) :
  YK (w.alloc (.cells #[.pointer (some ⟨z.gd, 0, none⟩), .pointer (some ⟨gj, 0, none⟩), .pointer (some ⟨z.gp, 0, none⟩), .pointer (some ⟨z.ga, 0, none⟩)] 53)) z gj w.heap.size T :=
 ⟨heap_alloc_new _ _, fun e => by have := (h.lt e).2; omega⟩
set_option maxRecDepth 100000 in
theorem st3 (m : List UInt8) : (insS 3 m [] : List (Nat × List UInt8)) = [(3, m)] := rfl
set_option maxRecDepth 100000 in
theorem chg_img (im : List (Nat × Unit)) (now : Nat → List UInt8) (p : Nat) (m : List UInt8) (h : now p ≠ m) (hi : findS im p = none) : chgL im now [(p, m)] = [((p : Int), m, [])] := by
 unfold chgL
 rw [if_neg h]
 unfold chg1
 rw [hi]
 rfl
set_option maxRecDepth 100000 in
theorem chg_pcs (im : List (Nat × Unit)) (now : Nat → List UInt8) (p : Nat) (m : List UInt8) (h : now p ≠ m) (hi : findS im p ≠ none) : chgL im now [(p, m)] = [((p : Int), [], diffL (now p) m)] := by
 unfold chgL
 rw [if_neg h]
 unfold chg1
 rw [if_pos (Option.isSome_iff_ne_none.2 hi)]
 rfl
set_option maxRecDepth 100000 in
theorem mark_img (p : Nat) (m : List UInt8) (im : List (Nat × Unit)) (h : 0 < m.length) : markF [((p : Int), m, [])] im = insS p () im := by
 unfold markF
 rw [if_pos h]
 rfl
set_option maxRecDepth 100000 in
theorem mark_pcs (p : Nat) (ps : List Pc) (im : List (Nat × Unit)) : markF [((p : Int), [], ps)] im = im := rfl
set_option maxRecDepth 100000 in
theorem nowD_one (now : Nat → List UInt8) (p : Nat) (m : List UInt8) : nowD now [(p, m)] p = m := by
 unfold nowD
 have : findS [(p, m)] p = some m := by simp [findS]
 rw [this]
 rfl
set_option maxRecDepth 100000 in
theorem piece17 : (diffL (payT 1 []) (payT 1 [7])).length = 1 := by
 rw [pay17]
 exact piece_one _ pay1_len pay1_7
def recsA (m : List UInt8) (ps : List Pc) : List Rec := [⟨1, 1, [(3, m, [])]⟩, ⟨1, 1, [(3, [], ps)]⟩]
set_option maxRecDepth 100000 in
theorem recsA_rows {w : World} {base : Nat} {v : Value} {m : List UInt8} {ps : List Pc} (h : ORW w base v (recsA m ps)) (hm : m.length = 4080) (hp : ps.length = 1) :
  ∃ gr o cr g1 o1 d1 g2 o2 d2 B1 b1 Q2 q2, v = .slice (some ⟨gr, o, none⟩) 2 cr ∧ w.cell? ⟨gr, o + 0 * 3 + 2, none⟩ = some (.slice (some ⟨g1, o1, none⟩) 1 d1) ∧ w.cell? ⟨gr, o + 1 * 3 + 2, none⟩ = some (.slice (some ⟨g2, o2, none⟩) 1 d2) ∧
   w.cell? ⟨g1, o1 + 0 * 3 + 1, none⟩ = some (.slice B1 4080 b1) ∧ w.cell? ⟨g2, o2 + 0 * 3 + 1 + 1, none⟩ = some (.slice Q2 1 q2) := by
 obtain ⟨Ar, cr, rfl, hrw, _, _⟩ := h.rw
 obtain ⟨gr, o, D1, d1, rfl, _, _, c1, k1, _, _⟩ := hrw.at_ (i := 0) (by simp [recsA])
 obtain ⟨gr', o', D2, d2, er, _, _, c2, k2, _, _⟩ := hrw.at_ (i := 1) (by simp [recsA])
 injection er with er
 injection er with e1 e2 _
 subst e1 e2
 obtain ⟨g1, o1, B1, b1, Q1, q1, rfl, _, m1, n1, _⟩ := k1.at_ (i := 0) (by simp [recsA])
 obtain ⟨g2, o2, B2, b2, Q2, q2, rfl, _, m2, n2, _⟩ := k2.at_ (i := 0) (by simp [recsA])
 have e1 : (((recsA m ps).getD 0 rec0).cs.getD 0 ch0).2.1 = m := rfl
 have e2 : (((recsA m ps).getD 1 rec0).cs.getD 0 ch0).2.2 = ps := rfl
 rw [e1, hm] at m1
 rw [e2, hp] at n2
 exact ⟨gr, o, cr, g1, o1, d1, g2, o2, d2, B1, b1, Q2, q2, rfl, c1, c2, m1, n2⟩
set_option maxRecDepth 100000 in
set_option maxHeartbeats 2000000 in
theorem awake10_any (w : World) : Calls Tryz.prog 31 #[] w fun e w' => e = .returned (.bool true) ∧ Below w.heap.size w w' := by
 have HM := Lib.hid (made10_any 4 w w (gr_refl w) (by omega) (by omega))
 go_enter Tryz.func31, Tryz.ntmps31
 go_wp2_with fail
 refine HM.out.mono ?_
 rintro e w1 ⟨z, gj, gb, T, rfl, haz, hb1⟩
 have hs0 := SJ.new10 haz (by omega) (by omega)
 have hyk := YK.new hs0
 have hs1 := hs0.below (gr_alloc (gr_refl w1) (.cells #[.pointer (some ⟨z.gd, 0, none⟩), .pointer (some ⟨gj, 0, none⟩), .pointer (some ⟨z.gp, 0, none⟩), .pointer (some ⟨z.ga, 0, none⟩)] 53))
 have HB := Lib.hid (Begin_sj hs1)
 have HYK := Lib.hid hyk
 clear haz hb1 hs0 hs1 hyk
 unfold yV
 go_wp2_with fail
 generalize w1.alloc (.cells #[.pointer (some ⟨z.gd, 0, none⟩), .pointer (some ⟨gj, 0, none⟩), .pointer (some ⟨z.gp, 0, none⟩), .pointer (some ⟨z.ga, 0, none⟩)] 53) = wa at *
 generalize w1.heap.size = g at *
 refine HB.out.mono ?_
 rintro e w2 ⟨gx, U, rfl, hs2, hx2, hb2, hgx2, hU2⟩
 have HY2 := Lib.hid (HYK.out.below hb2)
 have HUG : Hid (¬ U g) := Lib.hid (fun e => by have := hU2 g e; have := HYK.out.yb.lt; omega)
 have HP := Lib.hid (payload10_any 1 none 0 0 [] w2 (IR.none_ _ _) (by omega))
 have HS2 := Lib.hid hs2
 have HX2 := Lib.hid hx2
 clear hs2 hx2 hb2 hgx2 hU2
 go_wp2_with fail
 refine HP.out.mono ?_
 rintro e w3 ⟨rfl, hob, hb3⟩
 have HSet := Lib.hid (Set_sj (HS2.out.below hb3) (HX2.out.below hb3) 3 _ 4080 _ (ob_br hob (payT_len _ _)) (by omega) (.inl (by simp)))
 have HY3 := Lib.hid (HY2.out.below hb3)
 clear hob hb3
 go_wp2_with fail
 refine HSet.out.mono ?_
 rintro e w4 ⟨rfl, hs4, hx4, ho4⟩
 rw [st3] at hx4
 have HY4 := Lib.hid (HY3.out.off ho4 HUG.out (fun _ e => .inl e))
 have HD := Lib.hid (Done_sj hs4 hx4 1 (by omega) (by omega) (by simp) (by simp) (by simp) (by omega))
 rw [chg_img [] (fun _ => zP) 3 (payT 1 []) pay1_zP rfl, mark_img _ _ _ (by rw [pay1_len]; omega), if_neg (by simp), List.nil_append, show (insS 3 () [] : List (Nat × Unit)) = [(3, ())] from rfl, show ((([⟨1, 1, [((3 : Nat), payT 1 [], [])]⟩] : List Rec).length : Nat) : Int) = 1 from rfl] at HD
 clear hs4 hx4 ho4
 go_wp2_with fail
 refine HD.out.mono ?_
 rintro e w5 ⟨rfl, T5, hs5, hx5, ho5, hT5⟩
 have HY5 := Lib.hid (HY4.out.off ho5 (fun e => e.elim HY4.out.nt HUG.out) hT5)
 obtain ⟨mx, hxb⟩ := hx5.xb
 have hgn : ¬ T5 gx := fun e => by
  obtain ⟨mx, q, x1, x2, x3, x4, x5, x6, x7, x8, x9, x10, x11⟩ := hx5.ex
  exact x8 e
 have HXB := Lib.hid hxb
 have HGN := Lib.hid hgn
 have HGL := Lib.hid hxb.lt
 have HB5 := Lib.hid (Begin_sj hs5)
 clear hs5 hx5 ho5 hT5 hxb hgn
 have y3 := HY5.out.yb.c3
 go_wp2_with fail
 refine HB5.out.mono ?_
 rintro e w6 ⟨gz, U2, rfl, hs6, hx6, hb6, hgz, hU6⟩
 have HY6 := Lib.hid (HY5.out.below hb6)
 have HX6 := Lib.hid (HXB.out.below hb6)
 have HUG2 : Hid (¬ U2 g ∧ ¬ U2 gx) := Lib.hid ⟨fun e => by have := hU6 g e; have := HY5.out.yb.lt; omega, fun e => by have := hU6 gx e; have := HGL.out; omega⟩
 have HP6 := Lib.hid (payload10_any 1 (some ⟨w6.heap.size, 0, none⟩) 1 1 [7] (w6.alloc (.cells #[.int .i64 7] 3)) (IR.litAt w6 3 [7] #[.int .i64 7] w6.heap.size 1 rfl rfl rfl) (by omega))
 have HS6 := Lib.hid (hs6.below (gr_alloc (gr_refl w6) (.cells #[.int .i64 7] 3)))
 have HXZ6 := Lib.hid (hx6.below (gr_alloc (gr_refl w6) (.cells #[.int .i64 7] 3)))
 have HYA := Lib.hid (HY6.out.below (gr_alloc (gr_refl w6) (.cells #[.int .i64 7] 3)))
 have HXA := Lib.hid (HX6.out.below (gr_alloc (gr_refl w6) (.cells #[.int .i64 7] 3)))
 clear hs6 hx6 hb6 hgz hU6 y3
 go_wp2_with fail
 generalize w6.alloc (.cells #[.int .i64 7] 3) = wb at *
 refine HP6.out.mono ?_
 rintro e w7 ⟨rfl, hob, hb7⟩
 have HSet7 := Lib.hid (Set_sj (HS6.out.below hb7) (HXZ6.out.below hb7) 3 _ 4080 _ (ob_br hob (payT_len _ _)) (by omega) (.inl (by simp)))
 have HY7 := Lib.hid (HYA.out.below hb7)
 have HX7 := Lib.hid (HXA.out.below hb7)
 clear hob hb7
 go_wp2_with fail
 refine HSet7.out.mono ?_
 rintro e w8 ⟨rfl, hs8, hx8, ho8⟩
 rw [st3] at hx8
 have HY8 := Lib.hid (HY7.out.off ho8 HUG2.out.1 (fun _ e => .inl e))
 have HX8 := Lib.hid (HX7.out.off ho8 HUG2.out.2)
 have HD8 := Lib.hid (Done_sj hs8 hx8 1 (by omega) (by omega) (by simp) (by simp) (by simp) (by omega))
 rw [chg_pcs [(3, ())] _ 3 (payT 1 [7]) (by rw [nowD_one]; exact pay17_ne) (by decide), mark_pcs, if_neg (by simp), nowD_one, show (([⟨1, 1, [(((3 : Nat) : Int), payT 1 [], [])]⟩] : List Rec) ++ [⟨1, 1, [(((3 : Nat) : Int), [], diffL (payT 1 []) (payT 1 [7]))]⟩]) = recsA (payT 1 []) (diffL (payT 1 []) (payT 1 [7])) from rfl, show (((recsA (payT 1 []) (diffL (payT 1 []) (payT 1 [7]))).length : Nat) : Int) = 2 from rfl] at HD8
 clear hs8 hx8 ho8
 go_wp2_with fail
 refine HD8.out.mono ?_
 rintro e w9 ⟨rfl, T9, hs9, hx9, ho9, hT9⟩
 have HY9 := Lib.hid (HY8.out.off ho9 (fun e => e.elim HY8.out.nt HUG2.out.1) hT9)
 have HX9 := Lib.hid (HX8.out.off ho9 (fun e => e.elim HGN.out HUG2.out.2))
 have HGN9 : Hid (¬ T9 gx) := Lib.hid (fun e => (hT9 gx e).elim HGN.out (fun e => by have := HX8.out.lt; omega))
 have HF := Lib.hid (Flush_sj hs9 (by omega))
 clear hs9 hx9 ho9 hT9
 have y1 := HY9.out.yb.c1
 go_wp2_with fail
 refine HF.out.mono ?_
 rintro e wf ⟨rfl, Tf, hsf, hmf⟩
 have HYF := Lib.hid (HY9.out.mv hmf)
 have HXF := Lib.hid (HX9.out.off hmf.1 HGN9.out)
 have HSF := Lib.hid hsf
 have HSC := Lib.hid (Scan_sf hsf (by omega))
 clear hsf hmf y1
 have y0 := HYF.out.yb.c0
 go_wp2_with fail
 refine HSC.out.mono ?_
 rintro e ws ⟨v, p1, p2, rfl, hv, hbs⟩
 have HYS := Lib.hid (HYF.out.below hbs)
 have hxs := HXF.out.below hbs
 have HSS := Lib.hid (HSF.out.below hbs)
 obtain ⟨gr, o, cr, g1, o1, d1, g2, o2, d2, B1, b1, Q2, q2, rfl, c1, c2, m1, n2⟩ := recsA_rows hv pay1_len piece17
 clear hv hbs
 have HOV := Lib.hid (Over_any hxs)
 clear hxs
 go_wp2_with fail
 refine HOV.out.mono ?_
 rintro e ws2 ⟨rfl, rfl⟩
 have y3 := HYS.out.yb.c3
 have HIM : Hid (Calls Tryz.prog 45 #[.pointer (some ⟨z.ga, 0, none⟩)] ws fun e w' => NewI ws w' e [3]) := Lib.hid (by
  obtain ⟨D, P, A, h1, h2, h3, h4, h5, _⟩ := HSS.out.ex
  have := Imaged_at h1 (by rw [h5]; decide)
  rw [h5] at this
  exact this)
 go_wp2_with fail
 refine HIM.out.mono ?_
 rintro e wi ⟨Bi, ci, rfl, hri, hbi⟩
 have HIR := Lib.hid (IR.of_own hri)
 have HBI := Lib.hid hbi
 clear hri hbi y3
 go_wp2_with fail
 refine (SameInts_any Bi (some ⟨wi.heap.size, 0, none⟩) 1 1 ci 1 [3] [3] _ (HIR.out.below (gr_alloc (gr_refl wi) _)) (IR.litAt wi 3 [3] #[.int .i64 3] wi.heap.size 1 rfl rfl rfl) (by omega) (by omega)).mono ?_
 rintro e we ⟨rfl, hbe⟩
 rw [show (([3] : List Int) == [3]) = true from rfl]
 have HFB := Lib.hid (gr_trans (HSS.out.sj.bel) (gr_trans HBI.out (gr_trans (gr_alloc (gr_refl wi) (.cells #[.int .i64 3] 3)) hbe)))
 clear hbe
 go_wp2_with fail
 go_ret
 exact ⟨rfl, HFB.out⟩
end Go.Proofs.YtnkeclpgpiogoaaGreat

/-! BtE -/
namespace Go.Proofs.YtnkeclpgpiogoaaGreat
open Go Go.RowKit Go.Maps
def PgV (w : World) (S : Nat → Prop) (v : Value) (l : List UInt8) : Prop := ∃ g o c, v = .slice (some ⟨g, o, none⟩) 4080 c ∧ BR w (some ⟨g, o, none⟩) 4080 l ∧ ¬ S g ∧ ∃ cs fr, w.heap[g]? = some (.cells cs 5 fr)
def NoB (w : World) (k : Nat) : Prop := ∀ cs fr, w.heap[k]? ≠ some (.cells cs 5 fr)
def PgL (w : World) (S : Nat → Prop) (n : Nat) (vals : List Value) (now : Nat → List UInt8) : Prop := vals.length = n ∧ ∀ j, j < n → ∃ v, vals[j]? = some v ∧ PgV w S v (now j)
section
variable {w w' : World} {S S' : Nat → Prop} {v : Value} {l : List UInt8} {n : Nat} {vals : List Value} {now : Nat → List UInt8}
set_option maxRecDepth 100000 in
theorem PgV.len (h : PgV w S v l) : l.length = 4080 := by
 obtain ⟨g, o, c, rfl, h1, _⟩ := h
 exact h1.len
set_option maxRecDepth 100000 in
theorem PgV.one (h : PgV w S v l) : v.oneCell' = true := by
 obtain ⟨g, o, c, rfl, h1, _⟩ := h
 rfl
set_option maxRecDepth 100000 in
set_option maxRecDepth 100000 in
theorem PgV.off {R : Nat → Prop} (h : PgV w S v l) (ho : Off R w w') (hR : ∀ k, R k → S k ∨ NoB w k) (hT : ∀ k, S' k → S k ∨ w.heap.size ≤ k) : PgV w' S' v l := by
 obtain ⟨g, o, c, rfl, h1, h2, cs, fr, h3⟩ := h
 have hl : g < w.heap.size := (Array.getElem?_eq_some_iff.1 h3).1
 have hn : ¬ R g := fun hs => (hR g hs).elim h2 (fun e => e cs fr h3)
 exact ⟨g, o, c, rfl, h1.off ho (fun ad e _ hs => by injection e with e; subst e; exact hn hs), fun e => (hT g e).elim h2 (fun e => by omega), cs, fr, (ho.block g hl hn).trans h3⟩
set_option maxRecDepth 100000 in
theorem PgV.below (h : PgV w S v l) (hb : Below w.heap.size w w') : PgV w' S v l := h.off (R := fun _ => False) (Off.of_below hb) (fun _ e => False.elim e) (fun _ e => .inl e)
set_option maxRecDepth 100000 in
theorem PgV.of_ob {base : Nat} (h : OB w base v l) (hl : l.length = 4080) (hS : ∀ k, base ≤ k → ¬ S k) : PgV w S v l := by
 obtain ⟨g, c, rfl⟩ : ∃ g c, v = .slice (some ⟨g, 0, none⟩) 4080 c := by
  rcases h.2 with ⟨e0, e1⟩ | ⟨g, cap, cur, rfl, hb, hg, r⟩
  ·omega
  ·exact ⟨g, cap, by rw [hl]⟩
 obtain ⟨cur, hg, _⟩ := h.cur hl
 exact ⟨g, 0, c, rfl, ob_br h hl, hS g (h.lt g rfl).1, cur, _, hg⟩
set_option maxRecDepth 100000 in
theorem PgL.off {R : Nat → Prop} (h : PgL w S n vals now) (ho : Off R w w') (hR : ∀ k, R k → S k ∨ NoB w k) (hT : ∀ k, S' k → S k ∨ w.heap.size ≤ k) : PgL w' S' n vals now :=
 ⟨h.1, fun j hj => by
  obtain ⟨v, h1, h2⟩ := h.2 j hj
  exact ⟨v, h1, h2.off ho hR hT⟩⟩
set_option maxRecDepth 100000 in
theorem PgL.below (h : PgL w S n vals now) (hb : Below w.heap.size w w') : PgL w' S n vals now := h.off (R := fun _ => False) (Off.of_below hb) (fun _ e => False.elim e) (fun _ e => .inl e)
set_option maxRecDepth 100000 in
theorem PgL.one (h : PgL w S n vals now) : ∀ u ∈ vals, u.oneCell' = true := fun u hu => by
 obtain ⟨j, hj, rfl⟩ := List.getElem_of_mem hu
 obtain ⟨v, h1, h2⟩ := h.2 j (by rw [← h.1]; exact hj)
 rw [List.getElem?_eq_getElem hj] at h1
 injection h1 with h1
 rw [h1]
 exact h2.one
set_option maxRecDepth 100000 in
theorem PgL.set (h : PgL w S n vals now) {p : Nat} {u : Value} {m : List UInt8} (hu : PgV w S u m) : PgL w S n (vals.set p u) (updN now p m) := by
 refine ⟨by rw [List.length_set]; exact h.1, fun j hj => ?_⟩
 unfold updN
 by_cases e : j = p
 ·subst e
  rw [if_pos rfl, List.getElem?_set_self (by rw [h.1]; exact hj)]
  exact ⟨u, rfl, hu⟩
 ·rw [if_neg e, List.getElem?_set_ne (fun e2 => e e2.symm)]
  exact h.2 j hj
end
structure PR2 (w : World) (S : Nat → Prop) (A : Option Addr) (n : Nat) (now : Nat → List UInt8) : Prop where
 ex : ∃ vals g o, A = some ⟨g, o, none⟩ ∧ Rd w 1 A n vals ∧ PgL w S n vals now ∧ ¬ S g ∧ g < w.heap.size
structure PO2 (w : World) (base : Nat) (S : Nat → Prop) (g c n : Nat) (now : Nat → List UInt8) : Prop where
 ex : ∃ vals, w.ownsRow base 35 1 (.slice (some ⟨g, 0, none⟩) n c) n vals ∧ PgL w S n vals now ∧ ¬ S g
section
variable {w w' : World} {S S' : Nat → Prop} {n g c base : Nat} {A : Option Addr} {now : Nat → List UInt8}
set_option maxRecDepth 100000 in
theorem PR2.off {R : Nat → Prop} (h : PR2 w S A n now) (ho : Off R w w') (hR : ∀ k, R k → S k) (hT : ∀ k, S' k → S k ∨ w.heap.size ≤ k) : PR2 w' S' A n now := by
 obtain ⟨vals, g, o, rfl, h1, h2, h3, h4⟩ := h.ex
 exact ⟨vals, g, o, rfl, h1.off ho (fun ad e _ hs => by injection e with e; subst e; exact h3 (hR _ hs)), h2.off ho (fun k e => .inl (hR k e)) hT, fun e => (hT g e).elim h3 (fun e => by omega), Nat.lt_of_lt_of_le h4 ho.size⟩
set_option maxRecDepth 100000 in
theorem PR2.below (h : PR2 w S A n now) (hb : Below w.heap.size w w') : PR2 w' S A n now := h.off (R := fun _ => False) (Off.of_below hb) (fun _ e => False.elim e) (fun _ e => .inl e)
set_option maxRecDepth 100000 in
theorem PR2.at_ (h : PR2 w S A n now) {j : Nat} (hj : j < n) : ∃ g o v, A = some ⟨g, o, none⟩ ∧ w.cell? ⟨g, o + j, none⟩ = some v ∧ PgV w S v (now j) := by
 obtain ⟨vals, g, o, rfl, h1, h2, h3, h4⟩ := h.ex
 obtain ⟨v, e, hv⟩ := h2.2 j hj
 obtain ⟨g2, o2, e2, hc⟩ := h1.plain (by omega) (by omega)
 injection e2 with e2
 injection e2 with e2 e3 _
 subst e2 e3
 exact ⟨g, o, v, rfl, hc j v e, hv⟩
set_option maxRecDepth 100000 in
theorem PR2.len (h : PR2 w S A n now) {j : Nat} (hj : j < n) : (now j).length = 4080 := by
 obtain ⟨g, o, v, _, _, hv⟩ := h.at_ hj
 exact hv.len
set_option maxRecDepth 100000 in
theorem PO2.lt (h : PO2 w base S g c n now) : base ≤ g ∧ g < w.heap.size := by
 obtain ⟨vals, h1, h2, h3⟩ := h.ex
 exact h1.lt g rfl
set_option maxRecDepth 100000 in
theorem PO2.pr (h : PO2 w base S g c n now) : PR2 w S (some ⟨g, 0, none⟩) n now := by
 obtain ⟨vals, h1, h2, h3⟩ := h.ex
 exact ⟨vals, g, 0, rfl, Rd.of_own h1, h2, h3, (h1.lt g rfl).2⟩
set_option maxRecDepth 100000 in
theorem PO2.off {R : Nat → Prop} (h : PO2 w base S g c n now) (ho : Off R w w') (hR : ∀ k, R k → S k) (hT : ∀ k, S' k → S k ∨ w.heap.size ≤ k) : PO2 w' base S' g c n now := by
 obtain ⟨vals, h1, h2, h3⟩ := h.ex
 have hg := (h1.lt g rfl).2
 exact ⟨vals, ownsRow_off h1 ho (fun k hk hs => by injection hk with hk; subst hk; exact h3 (hR _ hs)), h2.off ho (fun k e => .inl (hR k e)) hT, fun e => (hT g e).elim h3 (fun e => by omega)⟩
set_option maxRecDepth 100000 in
theorem PO2.below (h : PO2 w base S g c n now) (hb : Below w.heap.size w w') : PO2 w' base S g c n now := h.off (R := fun _ => False) (Off.of_below hb) (fun _ e => False.elim e) (fun _ e => .inl e)
set_option maxRecDepth 100000 in
theorem PO2.cur (h : PO2 w base S g c n now) : ∃ cur : Array Value, w.heap[g]? = some (.cells cur 35 (0, 0)) ∧ n ≤ c ∧ c ≤ maxLen ∧ cur.size = c ∧ PgL w S n (cur.toList.take n) now := by
 obtain ⟨vals, h1, h2, h3⟩ := h.ex
 rcases h1.2 with ⟨e, _⟩ | ⟨g', cap', cur, e, hb, hg, hnc, hm, hcu, ht⟩
 ·cases e
 ·injection e with e1 e2 e3
  injection e1 with e1
  injection e1 with e1
  subst e1 e3
  refine ⟨cur, hg, hnc, hm, by simpa using hcu, ?_⟩
  rw [Nat.mul_one] at ht
  rw [ht]
  exact h2
set_option maxRecDepth 100000 in
theorem PO2.frozen (h : PO2 w base S g c n now) (j : Nat) : w.frozen? ⟨g, j, none⟩ = false := by
 obtain ⟨cur, hg, _⟩ := h.cur
 simp [World.frozen?, hg]
set_option maxRecDepth 100000 in
set_option maxRecDepth 100000 in
theorem PO2.put (h : PO2 w base S g c n now) {p : Nat} {u : Value} {m : List UInt8} (hu : PgV w S u m) : PO2 (w.setCell ⟨g, p, none⟩ u) base S g c n (updN now p m) ∧ Off (fun k => k = g) w (w.setCell ⟨g, p, none⟩ u) := by
 have ho : Off (fun k => k = g) w (w.setCell ⟨g, p, none⟩ u) := (Off.refl (fun k => k = g) w).setCell (S := fun k => k = g) _ rfl
 obtain ⟨cur, hg, hnc, hm, hcs, hpl⟩ := h.cur
 have hno : ∀ k, k = g → S k ∨ NoB w k := fun k e => .inr (fun cs fr h2 => by
  subst e
  rw [hg] at h2
  injection h2 with h2
  injection h2 with _ h2 _
  revert h2
  decide)
 obtain ⟨vals, h1, h2, h3⟩ := h.ex
 have hb := (h1.lt g rfl).1
 have hpl2 := (hpl.set hu (p := p)).off ho hno (fun _ e => .inl e)
 refine ⟨⟨(cur.toList.take n).set p u, ⟨by rw [hpl2.1, Nat.mul_one], .inr ⟨g, c, cur.setIfInBounds p u, rfl, hb, ?_, hnc, hm, by simpa using hcs, ?_⟩⟩, hpl2, h3⟩, ho⟩
 ·simp only [World.setCell, Array.getElem?_modify, if_pos, hg]
  simp
 ·rw [Nat.mul_one, Array.toList_setIfInBounds, List.take_set]
end
end Go.Proofs.YtnkeclpgpiogoaaGreat

/-! BtF -/
namespace Go.Proofs.YtnkeclpgpiogoaaGreat
open Go Go.RowKit Go.Maps
set_option maxRecDepth 100000 in
theorem info_pg : (Tryz.prog.info? 35).map (fun i => (i.zero, i.size, i.bytes)) = some (some (.slice none 0 0), 1, 24) := by kernel_rfl
section
variable {w0 w w' : World} {z : Wh} {n bl gj c V gx : Nat} {T T2 U : Nat → Prop} {nw cur : Nat → List UInt8} {recs : List Rec} {im : List (Nat × Unit)} {A : Option Addr} {st st0 : List (Nat × List UInt8)}
set_option maxRecDepth 100000 in
theorem SJ.offU (h : SJ w0 w z n bl gj T nw c recs V im) (hx : XG w0 w z n gx st0 T U) (ho : Off U w w') : SJ w0 w' z n bl gj T nw c recs V im := by
 obtain ⟨D, P, A, h1, r⟩ := h.ex
 exact ⟨D, P, A, h1.nb ho (fun k e => ⟨(hx.xz.lt e).2.2.2, (hx.xz.lt e).2.2.1, (hx.xz.lt e).1⟩), r⟩
set_option maxRecDepth 100000 in
theorem Set_sjG (h : SJ w0 w z n bl gj T nw c recs V im) (hT : ∀ k, T k → T2 k) (hT2 : ∀ k, T2 k → k < w.heap.size) (hx : XG w0 w z n gx st T2 U) (p : Nat) (B : Option Addr) (k : Nat) (l : List UInt8) (hb : BR w B 4080 l) (hp : p < n) (h16 : st.length < 16 ∨ findS st p ≠ none) :
  Calls Tryz.prog 19 #[.pointer (some ⟨gx, 0, none⟩), .int .i64 (p : Int), .slice B 4080 k] w fun e w' => e = .returned (.int .i64 0) ∧ XG w0 w' z n gx (insS p l st) T2 U ∧ Off U w w' := by
 obtain ⟨D, P, A, h1, h2, h3, h4, r⟩ := h.ex
 have hpp : P.pages ≤ 4096 := by have := h1.pi.fit; have := h1.pi.d2; omega
 have hl : l.length = 4080 := hb.len
 obtain ⟨e1, e2⟩ := aset_ok (P := P) (A := A) (X := ⟨st, false⟩) rfl h4 (p := p) (by omega) hl h16
 refine (Set_atG h1 hT hT2 hx.xz (p : Int) B 4080 k l hb (by omega) (by omega) hx.ok.most).mono ?_
 rw [e1, e2]
 rintro e w' ⟨rfl, _, a2, a3⟩
 exact ⟨rfl, ⟨a2, hx.ok.ins hp hl h16⟩, a3⟩
structure StI (w0 w wr : World) (z : Wh) (gx : Nat) (T U : Nat → Prop) (cur : Nat → List UInt8) (g c1 k : Nat) (st : List (Nat × List UInt8)) : Prop where
 xg : XG w0 wr z 20 gx st (fun j => T j ∨ j = g) U
 po : PO2 wr w.heap.size (TU T U) g c1 20 (nowD cur st)
 ou : Off U w wr
 len : st.length ≤ k
set_option maxRecDepth 100000 in
theorem StI.below {wr : World} {g c1 k : Nat} (h : StI w0 w wr z gx T U cur g c1 k st) (hb : Below wr.heap.size wr w') : StI w0 w w' z gx T U cur g c1 k st := ⟨h.xg.below hb, h.po.below hb, h.ou.trans (Off.of_below hb), h.len⟩
set_option maxRecDepth 100000 in
theorem StI.put {wr w2 : World} {g c1 k p g2 c2 : Nat} {l : List UInt8} (hTU : ∀ k, TU T U k → k < w.heap.size) (h : StI w0 w wr z gx T U cur g c1 k st) (hx : XG w0 w2 z 20 gx (insS p l st) (fun j => T j ∨ j = g) U) (ho : Off U wr w2) (hob : OB wr w.heap.size (.slice (some ⟨g2, 0, none⟩) 4080 c2) l) (hl : l.length = 4080) :
  StI w0 w (w2.setCell ⟨g, p, none⟩ (.slice (some ⟨g2, 0, none⟩) 4080 c2)) z gx T U cur g c1 (k + 1) (insS p l st) := by
 have hv : PgV wr (TU T U) (.slice (some ⟨g2, 0, none⟩) 4080 c2) l := PgV.of_ob hob hl (fun k hk e => by have := hTU k e; omega)
 have hv2 := hv.off ho (fun k e => .inl (.inr e)) (fun _ e => .inl e)
 have hp2 := h.po.off ho (fun k e => .inr e) (fun _ e => .inl e)
 obtain ⟨q1, q2⟩ := hp2.put (p := p) hv2
 have hgg := (h.po.lt).1
 refine ⟨⟨hx.xz.gturn q2 (fun k e e2 => ?_), hx.ok⟩, by rw [nowD_ins]; exact q1, (h.ou.trans ho).chain q2 (fun j e => .inr (by rw [e]; exact hgg)), ?_⟩
 ·have := hTU k (.inr e)
  omega
 ·have := ins_len (p := p) (m := l) h.xg.ok
  have := h.len
  omega
set_option maxRecDepth 100000 in
set_option maxHeartbeats 2000000 in
theorem step_any (h : SJ w0 w z 20 120 gj T nw c recs V im) (hx : XG w0 w z 20 gx [] T U) (hp : PR2 w (TU T U) A 20 cur) (m : Nat) (hm : m < 1000003) (cp : Nat) :
  Calls Tryz.prog 50 #[.pointer (some ⟨gx, 0, none⟩), .slice A 20 cp, .int .i64 (m : Int)] w fun e w' => ∃ g c1 st, e = .returned (.tuple #[.slice (some ⟨g, 0, none⟩) 20 c1, .bool true]) ∧
   SJ w0 w' z 20 120 gj T nw c recs V im ∧ XG w0 w' z 20 gx st T U ∧ st.length ≤ 3 ∧ PO2 w' w.heap.size (TU T U) g c1 20 (nowD cur st) ∧ Off U w w' := by
 obtain ⟨ic, hic, hy0, hy1, hy2⟩ := info_parts info_pg
 obtain ⟨vals, ga, oa, rfl, hrd, hpl, hng, hgl⟩ := hp.ex
 have HRD := Lib.hid hrd
 have HONE := Lib.hid hpl.one
 have HNIL : Hid (w.ownsRow w.heap.size 35 1 (.slice none 0 0) 0 []) := Lib.hid ⟨rfl, .inl ⟨rfl, rfl⟩⟩
 have HTU : Hid (∀ k, TU T U k → k < w.heap.size) := Lib.hid (fun k e => e.elim (fun e => (h.lt e).2) (fun e => (hx.xz.lt e).2.1))
 have HNEXT : Hid (∀ v8 w8, w8.ownsRow w.heap.size 35 1 v8 (0 + 20) ([] ++ vals) → w.grownBy w8 (Value.slice none 0 0).ownBlock → ∃ g c1, v8 = .slice (some ⟨g, 0, none⟩) 20 c1 ∧ StI w0 w w8 z gx T U cur g c1 0 []) := Lib.hid (fun v8 w8 ho hg => by
  have hb : Below w.heap.size w w8 := (Off.of_grown (S := fun _ => False) hg (fun k e => by simp [Value.ownBlock] at e)).below (fun _ e => False.elim e) (Nat.le_refl _)
  rcases ho.2 with ⟨_, e⟩ | ⟨g', cap', cur', e, hb', r⟩
  ·omega
  ·refine ⟨g', cap', e, ⟨hx.xz.more hb' hb, hx.ok⟩, ⟨vals, ?_, hpl.below hb, fun hk => ?_⟩, Off.of_below hb, Nat.le_refl _⟩
   ·rw [e] at ho
    exact ho
   ·have := HTU.out g' hk
    omega)
 have HSJ := Lib.hid h
 have HXG := Lib.hid hx
 clear hrd hpl hng hgl h hx hp
 go_enter Tryz.func50, Tryz.ntmps50
 go_wp2_with (at_builtin; refine wpList_append_Rd _ rfl (.tmp 13) (.tmp 14) 59 rfl w.heap.size 35 ic _ 1 24 Tryz.underlying59 hic hy0 hy1 hy2 rfl (.slice none 0 0) 0 [] rfl HNIL.out (some ⟨ga, oa, none⟩) 20 cp vals rfl HRD.out HONE.out (by omega) (by simp only [maxLen]; omega) (Nat.le_refl _) ?_; intro v8 w8 ho8 hg8 _ _; obtain ⟨g, c1, rfl, hs8⟩ := HNEXT.out v8 w8 ho8 hg8; have HI0 := Lib.hid hs8; clear hs8 hg8)
 go_loopw [9] (fun i wr => ∃ (k : Nat) (st : List (Nat × List UInt8)), k ≤ 1 + m % 3 ∧ i = .int .i64 (k : Int) ∧ Hid (StI w0 w wr z gx T U cur g c1 k st)) (fun i _ => 3 - (Go.RowKit.intOf i).toNat)
 case atStart => exact ⟨0, [], Nat.zero_le _, rfl, HI0⟩
 case round =>
  clear HI0 HNEXT HNIL HRD HONE
  obtain ⟨k, st, hk, rfl, HI⟩ := hrel
  have hk3 : k ≤ 3 := by omega
  by_cases hlt : k < 1 + m % 3
  ·have t1 : decide ((k : Int) < 1 + (m : Int) % 3) = true := decide_eq_true (by omega)
   have t2 : decide (k < 1 + m % 3) = true := decide_eq_true hlt
   obtain ⟨p, hp⟩ : ∃ p, p = (m / 3 + 7 * k) % 20 := ⟨_, rfl⟩
   have hp20 : p < 20 := by rw [hp]; exact Nat.mod_lt _ (by omega)
   obtain ⟨g', o', v, e1, hce, hv⟩ := HI.out.po.pr.at_ hp20
   injection e1 with e1
   injection e1 with e1 e2 _
   subst e1 e2
   rw [Nat.zero_add, hp] at hce
   obtain ⟨gp, op, cc, rfl, hbr, _, _⟩ := hv
   have HCB := Lib.hid (CopyBytes_any (some ⟨gp, op, none⟩) 4080 cc _ wr hbr (by omega))
   have HPP := Lib.hid hp
   have HP20 := Lib.hid hp20
   clear hbr hp hp20
   go_wp2_with fail
   refine HCB.out.mono ?_
   rintro e w2 ⟨v, rfl, hob, hb2⟩
   have hl : (nowD cur st p).length = 4080 := HI.out.po.pr.len HP20.out
   obtain ⟨g2, c2, rfl⟩ : ∃ g2 c2, v = .slice (some ⟨g2, 0, none⟩) 4080 c2 := by
    rcases hob.2 with ⟨e0, e1⟩ | ⟨g, cap, cur, rfl, hb, hg, r⟩
    ·omega
    ·exact ⟨g, cap, by rw [hl]⟩
   have HJ0 : Hid (∃ l, OB w2 wr.heap.size (.slice (some ⟨g2, 0, none⟩) 4080 c2) l ∧ l.length = 4080 ∧ Below wr.heap.size wr w2) := Lib.hid ⟨_, hob, hl, hb2⟩
   clear hob hb2 hl hce
   generalize wr = wo at *
   go_wp2_with fail
   go_loopw [12] (fun x wr => ∃ i : Nat, i ≤ 3 ∧ x = .int .i64 (i : Int) ∧ Hid (∃ l, OB wr wo.heap.size (.slice (some ⟨g2, 0, none⟩) 4080 c2) l ∧ l.length = 4080 ∧ Below wo.heap.size wo wr)) (fun x _ => 3 - (Go.RowKit.intOf x).toNat)
   case atStart => exact ⟨0, Nat.zero_le _, rfl, HJ0⟩
   case round =>
    clear HJ0
    obtain ⟨i, hi, rfl, HJ⟩ := hrel
    by_cases hlt : i < 3
    ·have t3 : decide ((i : Int) < 3) = true := decide_eq_true (by omega)
     have t4 : decide (i < 3) = true := decide_eq_true hlt
     obtain ⟨l, hob, hl, hbo⟩ := HJ.out
     obtain ⟨q, hq, hq1⟩ : ∃ q : Nat, (i : Int) * ((m : Int) % 977 + 1) = (q : Int) ∧ q ≤ 2931 := by
      refine ⟨i * (m % 977 + 1), by push_cast; rfl, ?_⟩
      have : i * (m % 977 + 1) ≤ 3 * 977 := Nat.mul_le_mul (by omega) (by omega)
      omega
     obtain ⟨r, hr, hr1⟩ : ∃ r : Nat, (m : Int) / (5 + (i : Int)) = (r : Int) ∧ r < 1000003 := by
      refine ⟨m / (5 + i), by push_cast; rfl, ?_⟩
      have := Nat.div_le_self m (5 + i)
      omega
     have fz := hob.frozen hl ((m / 60 + q) % 4080)
     have ce := OB.cell hob hl (j := (m / 60 + q) % 4080) (Nat.mod_lt _ (by omega))
     have HJ2 : Hid (∃ l, OB (wr.setCell ⟨g2, (m / 60 + q) % 4080, none⟩ (.int .u8 ((r : Int) % 256))) wo.heap.size (.slice (some ⟨g2, 0, none⟩) 4080 c2) l ∧ l.length = 4080 ∧ Below wo.heap.size wo (wr.setCell ⟨g2, (m / 60 + q) % 4080, none⟩ (.int .u8 ((r : Int) % 256)))) := Lib.hid
      ⟨l.set ((m / 60 + q) % 4080) (UInt8.ofNat r), hob.setInt hl ((m / 60 + q) % 4080) (UInt8.ofNat r) (Nat.mod_lt _ (by omega)) ((r : Int) % 256) (by rw [UInt8.toNat_ofNat']; omega), by rw [List.length_set]; exact hl,
       hbo.trans (((Off.refl (fun k => k = g2) wr).setCell (S := fun k => k = g2) _ rfl).below (fun k e => by rw [e]; exact hob.ge hl) hbo.size)⟩
     clear hob hbo HJ
     go_wp2_with fail
     go_roundw
     all_goals have hlt := of_decide_eq_true t4
     case rel => exact ⟨i + 1, by omega, by go_num, HJ2⟩
     case measure => simp [Go.RowKit.intOf]; omega
    ·obtain rfl : i = 3 := by omega
     obtain ⟨l, hob, hl, hbo⟩ := HJ.out
     have HST := Lib.hid (HI.out.below hbo)
     have hw : w.heap.size ≤ wo.heap.size := HI.out.ou.size
     have HOB : Hid (OB wr w.heap.size (.slice (some ⟨g2, 0, none⟩) 4080 c2) l) := Lib.hid (hob.lower hw)
     have HLL := Lib.hid hl
     have HSet : Hid (Calls Tryz.prog 19 #[.pointer (some ⟨gx, 0, none⟩), .int .i64 (((m : Int) / 3 + 7 * (k : Int)) % 20), .slice (some ⟨g2, 0, none⟩) 4080 c2] wr fun e w' => e = .returned (.int .i64 0) ∧ XG w0 w' z 20 gx (insS p l st) (fun j => T j ∨ j = g) U ∧ Off U wr w') := Lib.hid (by
      rw [show ((m : Int) / 3 + 7 * (k : Int)) % 20 = ((p : Nat) : Int) by rw [HPP.out]; push_cast; rfl]
      exact Set_sjG (HSJ.out.offU HXG.out HST.out.ou) (fun k e => .inl e) (fun k e => e.elim (fun e => Nat.lt_of_lt_of_le (HTU.out k (.inl e)) HST.out.ou.size) (fun e => by rw [e]; exact HST.out.po.lt.2)) HST.out.xg p _ c2 l (ob_br hob hl) HP20.out (.inl (by have := HST.out.len; omega)))
     clear hob hl hbo HJ
     go_wp2_with fail
     refine HSet.out.mono ?_
     rintro e w5 ⟨rfl, hx5, ho5⟩
     have HN := Lib.hid (HST.out.put HTU.out hx5 ho5 HOB.out HLL.out)
     have hp5 := HST.out.po.off ho5 (fun k e => .inr e) (fun _ e => .inl e)
     have fz5 := hp5.frozen ((m / 3 + 7 * k) % 20)
     obtain ⟨g', o', v5, e1, ce5, _⟩ := hp5.pr.at_ HP20.out
     injection e1 with e1
     injection e1 with e1 e2 _
     subst e1 e2
     rw [Nat.zero_add, HPP.out] at ce5
     rw [HPP.out] at HN
     clear hx5 ho5 hp5
     go_wp2_with fail
     go_roundw
     all_goals have hlt := of_decide_eq_true t2
     case rel => exact ⟨k + 1, _, by omega, by go_num, HN⟩
     case measure => simp [Go.RowKit.intOf]; omega
  ·have t1 : decide ((k : Int) < 1 + (m : Int) % 3) = false := decide_eq_false (by omega)
   have t2 : decide (k < 1 + m % 3) = false := decide_eq_false hlt
   have HF := Lib.hid HI.out
   go_wp2_with fail
   go_ret2
   exact ⟨g, c1, st, rfl, HSJ.out.offU HXG.out HF.out.ou, ⟨HF.out.xg.xz.sub (fun k e => .inl e), HF.out.xg.ok⟩, by have := HF.out.len; omega, HF.out.po, HF.out.ou⟩
end
end Go.Proofs.YtnkeclpgpiogoaaGreat

/-! PlH -/
namespace Go.Proofs.YtnkeclpgpiogoaaGreat
open Go.RowKit
def redoC (pg : Nat → List UInt8) (c : Ch) : Option (Nat → List UInt8) :=
 if 0 < c.2.1.length then some (updN pg c.1.toNat c.2.1) else (applyL (pg c.1.toNat) c.2.2).map (updN pg c.1.toNat)
def redoCs : List Ch → (Nat → List UInt8) → Option (Nat → List UInt8)
 | [], pg => some pg
 | c :: r, pg => (redoC pg c).bind (redoCs r)
def redoL : List Rec → (Nat → List UInt8) → Option (Nat → List UInt8)
 | [], pg => some pg
 | r :: rs, pg => (redoCs r.cs pg).bind (redoL rs)
set_option maxRecDepth 100000 in
theorem redoL_snoc : ∀ (l : List Rec) (r : Rec) (pg : Nat → List UInt8), redoL (l ++ [r]) pg = (redoL l pg).bind (redoCs r.cs)
 | [], r, pg => by
  show (redoCs r.cs pg).bind (redoL []) = redoCs r.cs pg
  cases redoCs r.cs pg <;> rfl
 | s :: l, r, pg => by
  show (redoCs s.cs pg).bind (redoL (l ++ [r])) = ((redoCs s.cs pg).bind (redoL l)).bind (redoCs r.cs)
  cases redoCs s.cs pg with
  | none => rfl
  | some q => exact redoL_snoc l r q
def inM (im : List (Nat × Unit)) (p : Nat) : Bool := (findS im p).isSome
def mixN (im : List (Nat × Unit)) (now any : Nat → List UInt8) (p : Nat) : List UInt8 := if inM im p then now p else any p
set_option maxRecDepth 100000 in
theorem inM_ins (im : List (Nat × Unit)) (p x : Nat) : inM (insS p () im) x = (decide (x = p) || inM im x) := by
 unfold inM
 rw [find_insS]
 by_cases h : x = p
 ·rw [if_pos h, decide_eq_true h]; rfl
 ·rw [if_neg h, decide_eq_false h]; rfl
set_option maxRecDepth 100000 in
theorem inM_mark : ∀ (l : List Ch) (im : List (Nat × Unit)) (x : Nat), inM (markF l im) x = (inM im x || l.any fun c => decide (0 < c.2.1.length) && decide (x = c.1.toNat))
 | [], im, x => by simp [markF]
 | c :: r, im, x => by
  unfold markF
  rw [inM_mark r, List.any_cons]
  by_cases h : 0 < c.2.1.length
  ·rw [if_pos h, inM_ins, decide_eq_true h, Bool.true_and]
   cases inM im x <;> cases decide (x = c.1.toNat) <;> simp
  ·rw [if_neg h, decide_eq_false h, Bool.false_and, Bool.false_or]
set_option maxRecDepth 100000 in
theorem redo_chg {im : List (Nat × Unit)} {now any : Nat → List UInt8} (hn : ∀ p, inM im p = true → (now p).length = 4080) : ∀ (st : List (Nat × List UInt8)) (pg : Nat → List UInt8), SortS st → (∀ e ∈ st, e.2.length = 4080 ∧ pg e.1 = mixN im now any e.1) →
  ∃ pg', redoCs (chgL im now st) pg = some pg' ∧ (∀ x, (∀ e ∈ st, e.1 ≠ x) → pg' x = pg x) ∧ ∀ e ∈ st, pg' e.1 = mixN (markF (chgL im now st) im) (nowD now st) any e.1
 | [], pg, _, _ => ⟨pg, rfl, fun _ _ => rfl, fun e he => (by cases he)⟩
 | (p, m) :: r, pg, hs, hp => by
  have hs' := List.pairwise_cons.1 hs
  obtain ⟨hm, hpg⟩ := hp _ (List.mem_cons_self ..)
  dsimp only at hm hpg
  have hne : ∀ e ∈ r, e.1 ≠ p := fun e he => by
   have := hs'.1 e.1 (List.mem_map_of_mem he)
   dsimp only at this
   omega
  have hnd : ∀ e ∈ r, nowD now ((p, m) :: r) e.1 = nowD now r e.1 := fun e he => by
   unfold nowD
   rw [findS_cons, if_neg (fun h => hne e he h.symm)]
  have hndp : nowD now ((p, m) :: r) p = m := by
   unfold nowD
   rw [findS_cons, if_pos rfl]
   rfl
  -- no change of r names p
  have hrp : ∀ c ∈ chgL im now r, c.1.toNat ≠ p := fun c hc => by
   obtain ⟨e, h1, h2, _⟩ := chgL_mem hc
   rw [h2, chg1_page, Int.toNat_natCast]
   exact hne e h1
  have hany : (chgL im now r).any (fun c => decide (0 < c.2.1.length) && decide (p = c.1.toNat)) = false := by
   rw [List.any_eq_false]
   intro c hc
   rw [show decide (p = c.1.toNat) = false from decide_eq_false (fun e => hrp c hc e.symm), Bool.and_false]
   decide
  unfold chgL
  by_cases e : now p = m
  ·rw [if_pos e]
   obtain ⟨pg', i1, i2, i3⟩ := redo_chg hn r pg hs'.2 (fun e he => hp e (List.mem_cons_of_mem _ he))
   refine ⟨pg', i1, fun x hx => i2 x (fun e he => hx e (List.mem_cons_of_mem _ he)), fun e2 he => ?_⟩
   rcases List.mem_cons.1 he with rfl | he
   ·show pg' p = mixN _ _ _ p
    rw [i2 p hne, hpg]
    unfold mixN
    rw [inM_mark, hany, Bool.or_false, hndp, e]
   ·rw [i3 e2 he]
    unfold mixN
    rw [hnd e2 he]
  ·rw [if_neg e]
   have hc : redoC pg (chg1 im p (now p) m) = some (updN pg p m) := by
    unfold redoC chg1
    by_cases hi : (findS im p).isSome = true
    ·rw [if_pos hi]
     dsimp only
     rw [if_neg (by decide), Int.toNat_natCast, hpg]
     have hmix : mixN im now any p = now p := by
      unfold mixN inM
      rw [if_pos hi]
     rw [hmix, apply_diff (hn p hi) hm]
     rfl
    ·rw [if_neg hi]
     dsimp only
     rw [if_pos (by omega), Int.toNat_natCast]
   obtain ⟨pg', i1, i2, i3⟩ := redo_chg hn r (updN pg p m) hs'.2 (fun e he => ⟨(hp e (List.mem_cons_of_mem _ he)).1, by
    unfold updN
    rw [if_neg (hne e he)]
    exact (hp e (List.mem_cons_of_mem _ he)).2⟩)
   refine ⟨pg', ?_, fun x hx => ?_, fun e2 he => ?_⟩
   ·show (redoC pg _).bind _ = _
    rw [hc]
    exact i1
   ·rw [i2 x (fun e he => hx e (List.mem_cons_of_mem _ he))]
    unfold updN
    rw [if_neg (fun e3 => hx _ (List.mem_cons_self ..) e3.symm)]
   ·have hmk : ∀ x, inM (markF (chg1 im p (now p) m :: chgL im now r) im) x = (inM im x || (decide (x = p) || (chgL im now r).any fun c => decide (0 < c.2.1.length) && decide (x = c.1.toNat))) := fun x => by
     rw [inM_mark, List.any_cons, chg1_page, Int.toNat_natCast]
     unfold chg1
     by_cases hi : (findS im p).isSome = true
     ·rw [if_pos hi]
      by_cases hx : x = p
      ·subst hx
       unfold inM
       rw [hi]
       rfl
      ·rw [decide_eq_false hx]
       simp
     ·rw [if_neg hi]
      dsimp only
      rw [decide_eq_true (show 0 < m.length by omega), Bool.true_and]
    rcases List.mem_cons.1 he with rfl | he
    ·show pg' p = mixN _ _ _ p
     rw [i2 p hne]
     unfold mixN updN
     rw [if_pos rfl, hmk, decide_eq_true rfl, Bool.true_or, Bool.or_true, if_pos rfl, hndp]
    ·rw [i3 e2 he]
     unfold mixN
     rw [hnd e2 he, hmk, inM_mark, decide_eq_false (hne e2 he), Bool.false_or]
end Go.Proofs.YtnkeclpgpiogoaaGreat

/-! BtG -/
namespace Go.Proofs.YtnkeclpgpiogoaaGreat
open Go Go.RowKit Go.Maps
def RX (w : World) (base : Nat) (A : Option Addr) (n : Nat) (rs : List Rec) : Prop :=
 ∃ us : List (Int × Int × Value), Rd w 3 A n (rcs us) ∧ us.length = rs.length ∧ ∀ (i : Nat) (p : Rec) (q : Int × Int × Value), rs[i]? = some p → us[i]? = some q → OCW w base q.2.2 p.cs
section
variable {w w' : World} {base n c : Nat} {A : Option Addr} {rs : List Rec} {cs : List Ch}
set_option maxRecDepth 100000 in
theorem RX.len (h : RX w base A n rs) : rs.length = n := by
 obtain ⟨us, hr, hl, _⟩ := h
 have := hr.1
 rw [rcs_length] at this
 omega
set_option maxRecDepth 100000 in
theorem RX.of_orw (h : ORW w base (.slice A n c) rs) (hn : rs.length = n) : RX w base A n rs := by
 obtain ⟨us, h1, h2, h3⟩ := h
 rw [hn] at h1
 exact ⟨us, Rd.of_own h1, h2, fun i p q hp hq => (h3 i p q hp hq).2.2⟩
set_option maxRecDepth 100000 in
theorem RX.below (h : RX w base A n rs) (hb : Below w.heap.size w w') : RX w' base A n rs := by
 obtain ⟨us, h1, h2, h3⟩ := h
 exact ⟨us, h1.below hb, h2, fun i p q hp hq => (h3 i p q hp hq).below hb⟩
set_option maxRecDepth 100000 in
theorem RX.at_ (h : RX w base A n rs) {i : Nat} (hi : i < n) : ∃ g o v, A = some ⟨g, o, none⟩ ∧ w.cell? ⟨g, o + i * 3 + 2, none⟩ = some v ∧ OCW w base v (rs.getD i rec0).cs := by
 have hn := h.len
 obtain ⟨us, hr, hl, hv⟩ := h
 obtain ⟨g, o, e, hc⟩ := Rd.plain hr (by omega) (by omega)
 have hip : rs[i]? = some (rs.getD i rec0) := by simp [List.getD, List.getElem?_eq_getElem (show i < rs.length by omega)]
 have hiu : us[i]? = some (us[i]'(by omega)) := List.getElem?_eq_getElem (by omega)
 obtain ⟨c1, c2, c3⟩ := rcs_at us i _ hiu
 exact ⟨g, o, _, e, hc _ _ c3, hv i _ _ hip hiu⟩
set_option maxRecDepth 100000 in
theorem OCW.at_ {D : Option Addr} {m d : Nat} (h : OCW w base (.slice D m d) cs) (hm : cs.length = m) {i : Nat} (hi : i < m) : ∃ g o u1 u2, D = some ⟨g, o, none⟩ ∧ w.cell? ⟨g, o + i * 3, none⟩ = some (.int .i64 (cs.getD i ch0).1) ∧
  w.cell? ⟨g, o + i * 3 + 1, none⟩ = some u1 ∧ w.cell? ⟨g, o + i * 3 + 1 + 1, none⟩ = some u2 ∧ OB w base u1 (cs.getD i ch0).2.1 ∧ VP w u2 (cs.getD i ch0).2.2 := by
 obtain ⟨us, h1, h2, h3⟩ := h
 rw [hm] at h1
 have hr := Rd.of_own h1
 obtain ⟨g, o, e, hc⟩ := Rd.plain hr (by omega) (by omega)
 have hip : cs[i]? = some (cs.getD i ch0) := by simp [List.getD, List.getElem?_eq_getElem (show i < cs.length by omega)]
 have hiu : us[i]? = some (us[i]'(by omega)) := List.getElem?_eq_getElem (by omega)
 obtain ⟨e1, e2, e3⟩ := h3 i _ _ hip hiu
 obtain ⟨c1, c2, c3⟩ := chs_at us i _ hiu
 exact ⟨g, o, _, _, e, by rw [← e1]; exact hc _ _ c1, hc _ _ c2, hc _ _ c3, e2, e3.vp⟩
end
def MP.apt (b : Nat) (l : List UInt8) : MP := ⟨fun u w => ∃ A c, u = .tuple #[.slice A 4080 c, .int .i64 0] ∧ OB w b (.slice A 4080 c) l, fun _ _ _ hb ⟨A, c, e, h⟩ => ⟨A, c, e, h.below hb⟩⟩
def MP.ob4 (b : Nat) (l : List UInt8) : MP := ⟨fun u w => ∃ A c, u = .slice A 4080 c ∧ OB w b (.slice A 4080 c) l, fun _ _ _ hb ⟨A, c, e, h⟩ => ⟨A, c, e, h.below hb⟩⟩
def redoOk (rs : List Rec) : Prop := ∀ r ∈ rs, ∀ c ∈ r.cs, ∃ p : Nat, c.1 = (p : Int) ∧ p < 20 ∧ (0 < c.2.1.length → c.2.1.length = 4080) ∧ ∀ q ∈ c.2.2, q.1 ≤ 9223372036854775807
structure RdI (w wr : World) (S : Nat → Prop) (g c1 : Nat) (pg : Nat → List UInt8) : Prop where
 po : PO2 wr w.heap.size S g c1 20 pg
 be : Below w.heap.size w wr
section
variable {w : World} {S : Nat → Prop} {A B : Option Addr} {pg pgF : Nat → List UInt8} {rs : List Rec} {base n : Nat}
set_option maxRecDepth 100000 in
set_option maxHeartbeats 2000000 in
theorem redo_any (hp : PR2 w S A 20 pg) (hr : RX w base B n rs) (hS : ∀ k, S k → k < base) (hbs : base ≤ w.heap.size) (hok : redoOk rs) (hF : redoL rs pg = some pgF) (hn : n ≤ 1000000) (cp cr : Nat) :
  Calls Tryz.prog 51 #[.slice A 20 cp, .slice B n cr] w fun e w' => ∃ g c1, e = .returned (.tuple #[.slice (some ⟨g, 0, none⟩) 20 c1, .bool true]) ∧ PO2 w' w.heap.size S g c1 20 pgF ∧ Below w.heap.size w w' := by
 obtain ⟨ic, hic, hy0, hy1, hy2⟩ := info_parts info_pg
 obtain ⟨vals, ga, oa, rfl, hrd, hpl, hng, hgl⟩ := hp.ex
 have HRD := Lib.hid hrd
 have HONE := Lib.hid hpl.one
 have HNIL : Hid (w.ownsRow w.heap.size 35 1 (.slice none 0 0) 0 []) := Lib.hid ⟨rfl, .inl ⟨rfl, rfl⟩⟩
 have HS : Hid (∀ k, S k → k < base) := Lib.hid hS
 have HBS := Lib.hid hbs
 have HNEXT : Hid (∀ v8 w8, w8.ownsRow w.heap.size 35 1 v8 (0 + 20) ([] ++ vals) → w.grownBy w8 (Value.slice none 0 0).ownBlock → ∃ g c1, v8 = .slice (some ⟨g, 0, none⟩) 20 c1 ∧ RdI w w8 S g c1 pg) := Lib.hid (fun v8 w8 ho hg => by
  have hb : Below w.heap.size w w8 := (Off.of_grown (S := fun _ => False) hg (fun k e => by simp [Value.ownBlock] at e)).below (fun _ e => False.elim e) (Nat.le_refl _)
  rcases ho.2 with ⟨_, e⟩ | ⟨g', cap', cur', e, hb', r⟩
  ·omega
  ·refine ⟨g', cap', e, ⟨⟨vals, ?_, hpl.below hb, fun hk => ?_⟩, hb⟩⟩
   ·rw [e] at ho
    exact ho
   ·have := hS g' hk
    omega)
 have HR := Lib.hid hr
 have HOK := Lib.hid hok
 have HF := Lib.hid hF
 clear hrd hpl hng hgl hp hr hS hbs hok hF
 go_enter Tryz.func51, Tryz.ntmps51
 go_wp2_with (at_builtin; refine wpList_append_Rd _ rfl (.tmp 12) (.tmp 13) 59 rfl w.heap.size 35 ic _ 1 24 Tryz.underlying59 hic hy0 hy1 hy2 rfl (.slice none 0 0) 0 [] rfl HNIL.out (some ⟨ga, oa, none⟩) 20 cp vals rfl HRD.out HONE.out (by omega) (by simp only [maxLen]; omega) (Nat.le_refl _) ?_; intro v8 w8 ho8 hg8 _ _; obtain ⟨g, c1, rfl, hs8⟩ := HNEXT.out v8 w8 ho8 hg8; have HI0 := Lib.hid hs8; clear hs8 hg8)
 go_loopw [7] (fun i wr => ∃ (k : Nat) (pk : Nat → List UInt8), k ≤ n ∧ i = .int .i64 (k : Int) ∧ Hid (RdI w wr S g c1 pk) ∧ Hid (redoL (rs.drop k) pk = some pgF)) (fun i _ => n - (Go.RowKit.intOf i).toNat)
 case atStart => exact ⟨0, pg, Nat.zero_le _, rfl, HI0, HF⟩
 case round =>
  clear HI0 HNEXT HNIL HRD HONE
  obtain ⟨k, pk, hk, rfl, HI, HL⟩ := hrel
  by_cases hlt : k < n
  ·have t1 : decide ((k : Int) < (n : Int)) = true := decide_eq_true (by omega)
   have t2 : decide (k < n) = true := decide_eq_true hlt
   have i1 : (0 : Int) ≤ (k : Int) := Int.natCast_nonneg _
   have i2 : (k : Int) < (n : Int) := by omega
   obtain ⟨gB, oB, v, rfl, hc, hocw⟩ := HR.out.at_ hlt
   obtain ⟨D, d, rfl, _, hdc, hdm⟩ := hocw.cr
   simp only [maxLen] at hdm
   obtain ⟨cs, hcs⟩ : ∃ cs, cs = (rs.getD k rec0).cs := ⟨_, rfl⟩
   obtain ⟨m, hm⟩ : ∃ m, m = cs.length := ⟨_, rfl⟩
   rw [← hcs, ← hm] at hc hocw
   rw [← hcs, ← hm] at hdc
   have hmb : m ≤ 9223372036854775807 := by omega
   clear hdc hdm
   have HCC : Hid (∀ wq, Below w.heap.size w wq → wq.cell? ⟨gB, oB + k * 3 + 2, none⟩ = some (.slice D m d) ∧ OCW wq base (.slice D m d) cs) := Lib.hid (fun wq hb => ⟨keep_of_below hb hc, hocw.below hb⟩)
   have HM := Lib.hid hm
   have HCK : Hid (∀ c ∈ cs, ∃ p : Nat, c.1 = (p : Int) ∧ p < 20 ∧ (0 < c.2.1.length → c.2.1.length = 4080) ∧ ∀ q ∈ c.2.2, q.1 ≤ 9223372036854775807) := Lib.hid (by
    rw [hcs]
    refine HOK.out _ ?_
    have hkl : k < rs.length := by rw [HR.out.len]; exact hlt
    have : rs[k] = rs.getD k rec0 := by simp [List.getD, List.getElem?_eq_getElem hkl]
    rw [← this]
    exact List.getElem_mem _)
   have HJ0 : Hid ((redoCs (cs.drop 0) pk).bind (redoL (rs.drop (k + 1))) = some pgF) := Lib.hid (by
    have h := HL.out
    have hkl : k < rs.length := by rw [HR.out.len]; exact hlt
    have : rs[k] = rs.getD k rec0 := by simp [List.getD, List.getElem?_eq_getElem hkl]
    rw [List.drop_eq_getElem_cons hkl, this] at h
    rw [hcs]
    exact h)
   clear hc hocw hcs hm HL
   have HLT := Lib.hid hlt
   go_wp2_with fail
   go_loopw [8] (fun x wr => ∃ (j : Nat) (pj : Nat → List UInt8), j ≤ m ∧ x = .int .i64 (j : Int) ∧ Hid (RdI w wr S g c1 pj) ∧ Hid ((redoCs (cs.drop j) pj).bind (redoL (rs.drop (k + 1))) = some pgF)) (fun x _ => m - (Go.RowKit.intOf x).toNat)
   case atStart => exact ⟨0, pk, Nat.zero_le _, rfl, HI, HJ0⟩
   case round =>
    clear HJ0 HI
    obtain ⟨j, pj, hj, rfl, HI, HL⟩ := hrel
    obtain ⟨hc, hocw⟩ := HCC.out wr HI.out.be
    by_cases hlj : j < m
    ·have t3 : decide ((j : Int) < (m : Int)) = true := decide_eq_true (by omega)
     have t4 : decide (j < m) = true := decide_eq_true hlj
     have j1 : (0 : Int) ≤ (j : Int) := Int.natCast_nonneg _
     have j2 : (j : Int) < (m : Int) := by omega
     obtain ⟨gD, oD, u1, u2, rfl, d0, d1, d2, hob, hvp⟩ := hocw.at_ HM.out.symm hlj
     have HJL : Hid (j < cs.length) := Lib.hid (by rw [← HM.out]; exact hlj)
     have hmem : cs.getD j ch0 ∈ cs := ch_mem HJL.out
     have HLC : Hid ((redoC pj (cs.getD j ch0)).bind (fun q => (redoCs (cs.drop (j + 1)) q).bind (redoL (rs.drop (k + 1)))) = some pgF) := Lib.hid (by
      have h := HL.out
      rw [ch_drop HJL.out] at h
      rw [← h]
      show _ = ((redoC pj _).bind (redoCs _)).bind _
      cases redoC pj (cs.getD j ch0) <;> rfl)
     obtain ⟨p, hp, hp20, himg, hpc⟩ := HCK.out _ hmem
     obtain ⟨⟨pz, img, ps⟩, hch⟩ : ∃ ch, ch = cs.getD j ch0 := ⟨_, rfl⟩
     rw [← hch] at hp himg hpc hob hvp d0 HLC
     dsimp only at hp himg hpc hob hvp d0
     subst hp
     obtain ⟨Bi, ci, rfl, hbi, _, _⟩ := hob.form
     obtain ⟨Bp, cp2, rfl, hpr, hpn, hpm⟩ := hvp
     have HOB := Lib.hid hob
     have HPR := Lib.hid hpr
     have HPC := Lib.hid hpc
     have HPL : Hid (ps.length ≤ 9223372036854775807) := Lib.hid (by simp only [maxLen] at hpm; omega)
     have HIMG := Lib.hid himg
     clear hob hpr hpn hpm hpc himg hbi hch hmem hocw HL
     have hba := gr_alloc (gr_refl wr) (.cells #[.int .i64 (p : Int), .slice Bi img.length ci, .slice Bp ps.length cp2] 117)
     have hpa := HI.out.po.below hba
     have fz := hpa.frozen p
     obtain ⟨g', o', vp, e1, ce, hvp⟩ := hpa.pr.at_ hp20
     injection e1 with e1
     injection e1 with e1 e2 _
     subst e1 e2
     rw [Nat.zero_add] at ce
     have HPA := Lib.hid hpa
     have HBE := Lib.hid (HI.out.be.trans (hba.mono HI.out.be.size))
     have HPV := Lib.hid hvp
     have HOA := Lib.hid (HOB.out.below hba)
     clear hba hpa hvp
     have k1 : decide ((p : Int) < 0) = false := decide_eq_false (by omega)
     have k2 : decide ((20 : Int) ≤ (p : Int)) = false := decide_eq_false (by omega)
     have p1 : (0 : Int) ≤ (p : Int) := Int.natCast_nonneg _
     have p2 : (p : Int) < 20 := by omega
     by_cases him : 0 < img.length
     ·have m1 : decide ((0 : Int) < (img.length : Int)) = true := decide_eq_true (by omega)
      have m2 : decide (0 < img.length) = true := decide_eq_true him
      have hq := HPA.out.put (p := p) (PgV.of_ob HOA.out (HIMG.out him) (fun q hq e => by have := HS.out q e; omega))
      have HN : Hid (RdI w ((wr.alloc (.cells #[.int .i64 (p : Int), .slice Bi img.length ci, .slice Bp ps.length cp2] 117)).setCell ⟨g, p, none⟩ (.slice Bi img.length ci)) S g c1 (updN pj p img)) := Lib.hid
       ⟨hq.1, HBE.out.trans (hq.2.below (fun q e => by rw [e]; exact HPA.out.lt.1) HBE.out.size)⟩
      have HL2 : Hid ((redoCs (cs.drop (j + 1)) (updN pj p img)).bind (redoL (rs.drop (k + 1))) = some pgF) := Lib.hid (by
       have h := HLC.out
       have hc : redoC pj ((p : Int), img, ps) = some (updN pj p img) := by
        unfold redoC
        rw [if_pos him, Int.toNat_natCast]
       rw [hc] at h
       exact h)
      clear hq
      go_wp2_with fail
      go_roundw
      all_goals have hjl := HJL.out
      all_goals have hmm := HM.out
      case rel => exact ⟨j + 1, _, by omega, by go_num, HN, HL2⟩
      case measure => simp [Go.RowKit.intOf]; omega
     ·have m1 : decide ((0 : Int) < (img.length : Int)) = false := decide_eq_false (by omega)
      have m2 : decide (0 < img.length) = false := decide_eq_false him
      have hx0 := heap_alloc_new wr (.cells #[.int .i64 (p : Int), .slice Bi img.length ci, .slice Bp ps.length cp2] 117)
      have HB0 : Hid ((wr.alloc (.cells #[.int .i64 (p : Int), .slice Bi img.length ci, .slice Bp ps.length cp2] 117)).cell? ⟨wr.heap.size, 0, none⟩ = some (.int .i64 (p : Int))) := Lib.hid (by rw [cell_of_row _ _ 0 _ _ _ hx0]; rfl)
      have HB2 : Hid ((wr.alloc (.cells #[.int .i64 (p : Int), .slice Bi img.length ci, .slice Bp ps.length cp2] 117)).cell? ⟨wr.heap.size, 2, none⟩ = some (.slice Bp ps.length cp2)) := Lib.hid (by rw [cell_of_row _ _ 2 _ _ _ hx0]; rfl)
      have hbx := gr_alloc (gr_refl wr) (.cells #[.int .i64 (p : Int), .slice Bi img.length ci, .slice Bp ps.length cp2] 117)
      have HPR2 : Hid (PR (wr.alloc (.cells #[.int .i64 (p : Int), .slice Bi img.length ci, .slice Bp ps.length cp2] 117)) Bp ps.length ps) := Lib.hid (HPR.out.below hbx)
      obtain ⟨l2, hl2, hl3⟩ : ∃ l2, applyL (pj p) ps = some l2 ∧ (redoCs (cs.drop (j + 1)) (updN pj p l2)).bind (redoL (rs.drop (k + 1))) = some pgF := by
       have h := HLC.out
       unfold redoC at h
       rw [if_neg him, Int.toNat_natCast] at h
       cases ha : applyL (pj p) ps with
       | none =>
        rw [ha] at h
        cases h
       | some l2 =>
        rw [ha] at h
        exact ⟨l2, rfl, h⟩
      have HL2 := Lib.hid hl3
      have hlp : (pj p).length = 4080 := HPV.out.len
      have HL4 : Hid (l2.length = 4080) := Lib.hid (applyL_len hlp hl2)
      obtain ⟨gq, oq, cq, rfl, hbq, _⟩ := HPV.out
      have HCE := Lib.hid ce
      have HAP : Hid (∀ wz, Below (wr.alloc (.cells #[.int .i64 (p : Int), .slice Bi img.length ci, .slice Bp ps.length cp2] 117)).heap.size (wr.alloc (.cells #[.int .i64 (p : Int), .slice Bi img.length ci, .slice Bp ps.length cp2] 117)) wz → Calls Tryz.prog 97 #[.slice (some ⟨gq, oq, none⟩) 4080 cq, .slice Bp ps.length cp2] wz fun e w' => ∃ v, e = .returned (.tuple #[v, .int .i64 0]) ∧ OB w' (wr.alloc (.cells #[.int .i64 (p : Int), .slice Bi img.length ci, .slice Bp ps.length cp2] 117)).heap.size v l2 ∧ Below wz.heap.size wz w') := Lib.hid (fun wz hb => by
       refine (Apply_any (some ⟨gq, oq, none⟩) Bp cq ps.length cp2 (pj p) ps wz (hbq.below hb) (HPR2.out.below hb) (by have := HPL.out; omega) HPC.out).mono ?_
       rw [hl2]
       rintro e w' ⟨h1, v, rfl, h2⟩
       exact ⟨v, rfl, h2.lower hb.size, h1⟩)
      clear hx0 hbx hl2 hl3 hlp hbq ce fz
      go_wp2_with fail
      generalize (wr.alloc (.cells #[.int .i64 (p : Int), .slice Bi img.length ci, .slice Bp ps.length cp2] 117)) = wa at *
      refine' wp_region_mono (by kernel_rfl) (by kernel_rfl) (by kernel_rfl) (by kernel_rfl) (by kernel_rfl) (by kernel_rfl)
       [MP.is (.slice (some ⟨g, 0, none⟩) 20 c1), MP.is (.pointer (some ⟨wr.heap.size, 0, none⟩)), MP.is (.int .i64 (p : Int)), MP.is (.pointer (some ⟨g, p, none⟩)), MP.is (.slice (some ⟨gq, oq, none⟩) 4080 cq), MP.is (.pointer (some ⟨wr.heap.size, 2, none⟩)), MP.is (.slice Bp ps.length cp2), MP.apt wa.heap.size l2, MP.apt wa.heap.size l2, MP.ob4 wa.heap.size l2, MP.is (.int .i64 0), MP.ob4 wa.heap.size l2, MP.is (.int .i64 0)] ?hAA1 ?hst1 ?hend1
      case hAA1 =>
       intro f
       conv => lhs; simp only [putA, dstOf, List.size_toArray, List.length_cons, List.length_nil, Nat.zero_add, Nat.reduceAdd, List.getElem?_toArray, List.getElem?_cons_zero, List.getElem?_cons_succ, Option.bind_some, Act.put, List.setIfInBounds_toArray, List.set_cons_zero, List.set_cons_succ]
       first | done | exact rfl
      case hst1 =>
       change Steps _ _ _ _ _ [0, 1, 2, 3, 4, 5, 6, 7, 8, 9, 10, 11, 12]
       refine Steps.cons rfl ?_ ?_
       ·intro f wz hB h K Q hK
        clear h
        try simp only [List.getElem_toArray, List.getElem_cons_zero]
        try rw [if_pos (by rfl)]
        go_simp
        exact hK _ _ (gr_refl _) rfl
       refine Steps.cons rfl ?_ ?_
       ·intro f wz hB h K Q hK
        clear h
        try rw [if_pos (by rfl)]
        go_simp
        exact hK _ _ (gr_refl _) rfl
       refine Steps.cons rfl ?_ ?_
       ·intro f wz hB h K Q hK
        have h1 : (MP.is (.pointer (some ⟨wr.heap.size, 0, none⟩))).p (f 1) wz := h 1 (by kernel_rfl)
        have e1 : f 1 = (.pointer (some ⟨wr.heap.size, 0, none⟩)) := h1
        simp only [e1] at hK ⊢
        clear e1
        clear h
        try rw [if_pos (by rfl)]
        have y0 := keep_of_below (bel_drew hB) HB0.out
        have y1 := keep_of_below (bel_drew hB) HB2.out
        have y2 := keep_of_below (bel_drew hB) HCE.out
        go_simp
        exact hK _ _ (gr_refl _) rfl
       refine Steps.cons rfl ?_ ?_
       ·intro f wz hB h K Q hK
        have h0 : (MP.is (.slice (some ⟨g, 0, none⟩) 20 c1)).p (f 0) wz := h 0 (by kernel_rfl)
        have e0 : f 0 = (.slice (some ⟨g, 0, none⟩) 20 c1) := h0
        have h2 : (MP.is (.int .i64 (p : Int))).p (f 2) wz := h 2 (by kernel_rfl)
        have e2 : f 2 = (.int .i64 (p : Int)) := h2
        simp only [e0, e2] at hK ⊢
        clear e0 e2
        clear h
        try rw [if_pos (by rfl)]
        go_simp
        exact hK _ _ (gr_refl _) rfl
       refine Steps.cons rfl ?_ ?_
       ·intro f wz hB h K Q hK
        have h3 : (MP.is (.pointer (some ⟨g, p, none⟩))).p (f 3) wz := h 3 (by kernel_rfl)
        have e3 : f 3 = (.pointer (some ⟨g, p, none⟩)) := h3
        simp only [e3] at hK ⊢
        clear e3
        clear h
        try rw [if_pos (by rfl)]
        have y0 := keep_of_below (bel_drew hB) HB0.out
        have y1 := keep_of_below (bel_drew hB) HB2.out
        have y2 := keep_of_below (bel_drew hB) HCE.out
        go_simp
        exact hK _ _ (gr_refl _) rfl
       refine Steps.cons rfl ?_ ?_
       ·intro f wz hB h K Q hK
        clear h
        try rw [if_pos (by rfl)]
        go_simp
        exact hK _ _ (gr_refl _) rfl
       refine Steps.cons rfl ?_ ?_
       ·intro f wz hB h K Q hK
        have h5 : (MP.is (.pointer (some ⟨wr.heap.size, 2, none⟩))).p (f 5) wz := h 5 (by kernel_rfl)
        have e5 : f 5 = (.pointer (some ⟨wr.heap.size, 2, none⟩)) := h5
        simp only [e5] at hK ⊢
        clear e5
        clear h
        try rw [if_pos (by rfl)]
        have y0 := keep_of_below (bel_drew hB) HB0.out
        have y1 := keep_of_below (bel_drew hB) HB2.out
        have y2 := keep_of_below (bel_drew hB) HCE.out
        go_simp
        exact hK _ _ (gr_refl _) rfl
       refine Steps.cons rfl ?_ ?_
       ·intro f wz hB h K Q hK
        have h4 : (MP.is (.slice (some ⟨gq, oq, none⟩) 4080 cq)).p (f 4) wz := h 4 (by kernel_rfl)
        have e4 : f 4 = (.slice (some ⟨gq, oq, none⟩) 4080 cq) := h4
        have h6 : (MP.is (.slice Bp ps.length cp2)).p (f 6) wz := h 6 (by kernel_rfl)
        have e6 : f 6 = (.slice Bp ps.length cp2) := h6
        simp only [e4, e6] at hK ⊢
        clear e4 e6
        clear h
        try rw [if_pos (by rfl)]
        go_simp
        refine (HAP.out _ (bel_drew hB)).mono ?_
        rintro e w5 ⟨v5, rfl, ob5, hb5⟩
        obtain ⟨A5, c5, rfl, _, _⟩ := ob5.formN HL4.out
        exact hK _ _ hb5 ⟨A5, c5, rfl, ob5⟩
       refine Steps.cons rfl ?_ ?_
       ·intro f wz hB h K Q hK
        have h7 : (MP.apt wa.heap.size l2).p (f 7) wz := h 7 (by kernel_rfl)
        obtain ⟨A7, c7, e7, x7⟩ := h7
        simp only [e7] at hK ⊢
        clear e7
        clear h
        try rw [if_pos (by rfl)]
        go_simp
        exact hK _ _ (gr_refl _) ⟨A7, c7, rfl, x7⟩
       refine Steps.cons rfl ?_ ?_
       ·intro f wz hB h K Q hK
        have h8 : (MP.apt wa.heap.size l2).p (f 8) wz := h 8 (by kernel_rfl)
        obtain ⟨A8, c8, e8, x8⟩ := h8
        simp only [e8] at hK ⊢
        clear e8
        clear h
        try rw [if_pos (by rfl)]
        go_simp
        exact hK _ _ (gr_refl _) ⟨A8, c8, rfl, x8⟩
       refine Steps.cons rfl ?_ ?_
       ·intro f wz hB h K Q hK
        have h8 : (MP.apt wa.heap.size l2).p (f 8) wz := h 8 (by kernel_rfl)
        obtain ⟨A8, c8, e8, x8⟩ := h8
        simp only [e8] at hK ⊢
        clear e8
        clear h
        try rw [if_pos (by rfl)]
        go_simp
        exact hK _ _ (gr_refl _) rfl
       refine Steps.cons rfl ?_ ?_
       ·intro f wz hB h K Q hK
        have h9 : (MP.ob4 wa.heap.size l2).p (f 9) wz := h 9 (by kernel_rfl)
        obtain ⟨A9, c9, e9, x9⟩ := h9
        simp only [e9] at hK ⊢
        clear e9
        clear h
        try rw [if_pos (by rfl)]
        go_simp
        exact hK _ _ (gr_refl _) ⟨A9, c9, rfl, x9⟩
       refine Steps.cons rfl ?_ ?_
       ·intro f wz hB h K Q hK
        have h10 : (MP.is (.int .i64 0)).p (f 10) wz := h 10 (by kernel_rfl)
        have e10 : f 10 = (.int .i64 0) := h10
        simp only [e10] at hK ⊢
        clear e10
        clear h
        try rw [if_pos (by rfl)]
        go_simp
        exact hK _ _ (gr_refl _) rfl
       exact Steps.nil
      intro f w2 hB2 hR
      have e0 : f 0 = (.slice (some ⟨g, 0, none⟩) 20 c1) := hR 0 (by decide)
      have e1 : f 1 = (.pointer (some ⟨wr.heap.size, 0, none⟩)) := hR 1 (by decide)
      have e2 : f 2 = (.int .i64 (p : Int)) := hR 2 (by decide)
      have e3 : f 3 = (.pointer (some ⟨g, p, none⟩)) := hR 3 (by decide)
      have e4 : f 4 = (.slice (some ⟨gq, oq, none⟩) 4080 cq) := hR 4 (by decide)
      have e5 : f 5 = (.pointer (some ⟨wr.heap.size, 2, none⟩)) := hR 5 (by decide)
      have e6 : f 6 = (.slice Bp ps.length cp2) := hR 6 (by decide)
      obtain ⟨A72, c72, e7, x72⟩ := (show (MP.apt wa.heap.size l2).p (f 7) w2 from hR 7 (by decide))
      obtain ⟨A82, c82, e8, x82⟩ := (show (MP.apt wa.heap.size l2).p (f 8) w2 from hR 8 (by decide))
      obtain ⟨A92, c92, e9, x92⟩ := (show (MP.ob4 wa.heap.size l2).p (f 9) w2 from hR 9 (by decide))
      have e10 : f 10 = (.int .i64 0) := hR 10 (by decide)
      obtain ⟨A112, c112, e11, x112⟩ := (show (MP.ob4 wa.heap.size l2).p (f 11) w2 from hR 11 (by decide))
      have e12 : f 12 = (.int .i64 0) := hR 12 (by decide)
      simp only [e0, e1, e2, e3, e4, e5, e6, e7, e8, e9, e10, e11, e12]
      clear e0 e1 e2 e3 e4 e5 e6 e7 e8 e9 e10 e11 e12 hR
      have hB2 := bel_drew hB2
      have hp2 := HPA.out.below hB2
      have fz := hp2.frozen p
      obtain ⟨g', o', vp, e1, ce, _⟩ := hp2.pr.at_ hp20
      injection e1 with e1
      injection e1 with e1 e2 _
      subst e1 e2
      rw [Nat.zero_add] at ce
      have b0 := keep_of_below hB2 HB0.out
      have hws : w.heap.size ≤ wa.heap.size := HBE.out.size
      have hbs := HBS.out
      have hq := hp2.put (p := p) (PgV.of_ob x112 HL4.out (fun q hq e => by have := HS.out q e; omega))
      have hb3 := HBE.out.trans (hB2.mono hws)
      have HN : Hid (RdI w (w2.setCell ⟨g, p, none⟩ (.slice A112 4080 c112)) S g c1 (updN pj p l2)) := Lib.hid
       ⟨hq.1, hb3.trans (hq.2.below (fun q e => by rw [e]; exact hp2.lt.1) hb3.size)⟩
      clear hq hb3 hp2 hws hbs
      go_wp2_with fail
      go_roundw
      all_goals have hjl := HJL.out
      all_goals have hmm := HM.out
      case rel => exact ⟨j + 1, _, by omega, by go_num, HN, HL2⟩
      case measure => simp [Go.RowKit.intOf]; omega
    ·have t3 : decide ((j : Int) < (m : Int)) = false := decide_eq_false (by omega)
     have t4 : decide (j < m) = false := decide_eq_false hlj
     have HL2 : Hid (redoL (rs.drop (k + 1)) pj = some pgF) := Lib.hid (by
      have h := HL.out
      rw [List.drop_of_length_le (by rw [← HM.out]; omega)] at h
      exact h)
     clear hocw
     go_wp2_with fail
     go_roundw
     all_goals have hlt := of_decide_eq_true t2
     case rel => exact ⟨k + 1, pj, by omega, by go_num, HI, HL2⟩
     case measure => simp [Go.RowKit.intOf]; omega
  ·have t1 : decide ((k : Int) < (n : Int)) = false := decide_eq_false (by omega)
   have t2 : decide (k < n) = false := decide_eq_false hlt
   have hpk : pk = pgF := by
    have h := HL.out
    rw [List.drop_of_length_le (by rw [HR.out.len]; omega)] at h
    injection h
   subst hpk
   go_wp2_with fail
   go_ret2
   exact ⟨g, c1, rfl, HI.out.po, HI.out.be⟩
end
end Go.Proofs.YtnkeclpgpiogoaaGreat

/-! BtH -/
namespace Go.Proofs.YtnkeclpgpiogoaaGreat
open Go Go.RowKit Go.Maps
structure Heal (rs : List Rec) (im : List (Nat × Unit)) (now any : Nat → List UInt8) : Prop where
 redo : redoL rs any = some (mixN im now any)
 named : ∀ x, inM im x = rs.any fun r => r.cs.any fun c => decide (c.1.toNat = x)
 ok : redoOk rs
section
variable {rs : List Rec} {im : List (Nat × Unit)} {now any : Nat → List UInt8} {st : List (Nat × List UInt8)}
set_option maxRecDepth 100000 in
theorem Heal.none_ (now any : Nat → List UInt8) : Heal [] [] now any :=
 ⟨by
  show some any = some (mixN [] now any)
  congr 1, fun _ => rfl, fun r hr => by cases hr⟩
set_option maxRecDepth 100000 in
theorem find_notin {p : Nat} (h : ∀ e ∈ st, e.1 ≠ p) : findS st p = none := by
 cases hf : findS st p with
 | none => rfl
 | some l => exact absurd rfl (h _ (find_mem hf))
set_option maxRecDepth 100000 in
theorem Heal.step (h : Heal rs im now any) (hx : XOk 20 st) (hnl : ∀ p, p < 20 → (now p).length = 4080) (him : ∀ p, inM im p = true → p < 20) (tx : Int) :
  Heal (rs ++ if chgL im now st = [] then [] else [(⟨1, tx, chgL im now st⟩ : Rec)]) (markF (chgL im now st) im) (nowD now st) any := by
 obtain ⟨pg', h1, h2, h3⟩ := redo_chg (im := im) (now := now) (any := any) (fun p hp => hnl p (him p hp)) st (mixN im now any) hx.srt (fun e he => ⟨(hx.ok e he).2, rfl⟩)
 have hnot : ∀ x, (∀ e ∈ st, e.1 ≠ x) → (chgL im now st).any (fun c => decide (0 < c.2.1.length) && decide (x = c.1.toNat)) = false := fun x hne => by
  rw [List.any_eq_false]
  intro c hc
  obtain ⟨e, q1, q2, _⟩ := chgL_mem hc
  have : c.1.toNat = e.1 := by rw [q2, chg1_page, Int.toNat_natCast]
  rw [show decide (x = c.1.toNat) = false from decide_eq_false (fun e2 => hne e q1 (by omega)), Bool.and_false]
  decide
 have hpg : pg' = mixN (markF (chgL im now st) im) (nowD now st) any := by
  funext x
  by_cases hm : ∃ e ∈ st, e.1 = x
  ·obtain ⟨e, he, rfl⟩ := hm
   exact h3 e he
  ·have hne : ∀ e ∈ st, e.1 ≠ x := fun e he e2 => hm ⟨e, he, e2⟩
   rw [h2 x hne]
   unfold mixN
   rw [inM_mark, hnot x hne, Bool.or_false]
   unfold nowD
   rw [find_notin hne]
   rfl
 rw [hpg] at h1
 by_cases hc : chgL im now st = []
 ·rw [hc] at h1 ⊢
  rw [if_pos rfl, List.append_nil]
  have e1 : some (mixN im now any) = some (mixN (markF [] im) (nowD now st) any) := h1
  exact ⟨h.redo.trans e1, h.named, h.ok⟩
 ·rw [if_neg hc]
  refine ⟨?_, fun x => ?_, fun r hr => ?_⟩
  ·rw [redoL_snoc, h.redo]
   exact h1
  ·rw [List.any_append, inM_mark, ← h.named x]
   cases hi : inM im x with
   | true => rfl
   | false =>
    simp only [Bool.false_or, List.any_cons, List.any_nil, Bool.or_false]
    refine Bool.eq_iff_iff.2 ?_
    rw [List.any_eq_true, List.any_eq_true]
    constructor
    ·rintro ⟨c, hc2, hf⟩
     rw [Bool.and_eq_true] at hf
     exact ⟨c, hc2, decide_eq_true (of_decide_eq_true hf.2).symm⟩
    ·rintro ⟨c, hc2, hf⟩
     have hf := of_decide_eq_true hf
     obtain ⟨e, q1, q2, _⟩ := chgL_mem hc2
     have hpx : c.1.toNat = e.1 := by rw [q2, chg1_page, Int.toNat_natCast]
     refine ⟨c, hc2, ?_⟩
     rw [decide_eq_true hf.symm, Bool.and_true]
     have hn : (findS im e.1).isSome = false := by
      rw [← hpx, hf]
      exact hi
     rw [q2]
     unfold chg1
     rw [hn, if_neg Bool.false_ne_true]
     have := (hx.ok e q1).2
     exact decide_eq_true (by show 0 < e.2.length; omega)
  ·rcases List.mem_append.1 hr with hr | hr
   ·exact h.ok r hr
   ·rw [List.mem_singleton.1 hr]
    intro c hc2
    obtain ⟨e, q1, q2, _⟩ := chgL_mem hc2
    obtain ⟨o1, o2⟩ := hx.ok e q1
    refine ⟨e.1, by rw [q2, chg1_page], o1, fun hpos => ?_, fun q hq => ?_⟩
    ·rw [q2] at hpos ⊢
     unfold chg1 at hpos ⊢
     by_cases hi : (findS im e.1).isSome = true
     ·rw [if_pos hi] at hpos
      cases hpos
     ·rw [if_neg hi]
      exact o2
    ·rw [q2] at hq
     unfold chg1 at hq
     split at hq
     ·have := (rpFrom_good _ 0 (Int.le_refl _) (diff_right (a := now e.1) o2).1).1 q hq
      unfold pcG at this
      omega
     ·cases hq
end
end Go.Proofs.YtnkeclpgpiogoaaGreat

/-! BtI -/
namespace Go.Proofs.YtnkeclpgpiogoaaGreat
open Go Go.RowKit Go.Maps
section
variable {w0 w w' : World} {z : Wh} {n bl gj c V : Nat} {T : Nat → Prop} {now : Nat → List UInt8} {recs : List Rec} {im : List (Nat × Unit)}
set_option maxRecDepth 100000 in
theorem Last_sj (h : SJ w0 w z n bl gj T now c recs V im) :
  Calls Tryz.prog 29 #[.pointer (some ⟨gj, 0, none⟩)] w fun e w' => e = .returned (.int .i64 (recs.length : Int)) ∧ Below w.heap.size w w' := by
 obtain ⟨D, P, A, h1, h2, h3, h4, h5, h6, h7, h8, h9, rfl⟩ := h.ex
 rw [← h2.lc.la]
 exact Last_az h1
set_option maxRecDepth 100000 in
theorem Room_sj (h : SJ w0 w z n bl gj T now c recs V im) :
  Calls Tryz.prog 33 #[.pointer (some ⟨gj, 0, none⟩)] w fun e w' => ∃ k : Nat, e = .returned (.int .i64 (k : Int)) ∧ k ≤ 1024 ∧ Below w.heap.size w w' := by
 obtain ⟨D, P, A, h1, h2, h3, h4, h5, h6, h7, h8, h9, rfl⟩ := h.ex
 obtain ⟨F, hi⟩ := h1.ie
 obtain ⟨wv, hj⟩ := jb_of hi
 obtain ⟨w1, e1, hjs, _⟩ := hi.next
 have hji := hjs.ji
 have hu := hji.u1
 have hb := hji.b2
 refine (Room_any hj (by omega) hb).mono ?_
 rintro e w' ⟨rfl, hb'⟩
 exact ⟨_, rfl, by omega, hb'⟩
set_option maxRecDepth 100000 in
theorem Fresh_sj (h : SJ w0 w z n bl gj T now c recs V im) :
  Calls Tryz.prog 40 #[.pointer (some ⟨z.ga, 0, none⟩)] w fun e w' => e = .returned (.int .i64 (im.length : Int)) ∧ SJ w0 w' z n bl gj T now c recs V [] ∧ Off T w w' := by
 obtain ⟨D, P, A, h1, h2, h3, h4, rfl, r⟩ := h.ex
 refine (Fresh_at h1).mono ?_
 rintro e w' ⟨rfl, a1, a2⟩
 exact ⟨rfl, ⟨D, P, _, a1, h2, h3, h4, rfl, r⟩, a2⟩
set_option maxRecDepth 100000 in
theorem PGet_sj (h : SJ w0 w z n bl gj T now c recs V im) (p : Nat) (hp : p < n) (hc : c ≤ 900000) :
  Calls Tryz.prog 28 #[.pointer (some ⟨z.gp, 0, none⟩), .int .i64 (p : Int)] w fun e w' => ∃ v, e = .returned (.tuple #[v, .int .i64 0]) ∧ OB w' w.heap.size v (now p) ∧ ∃ T' wn, SJ w0 wn z n bl gj T' now (c + 1) recs V im ∧ Mv T T' w wn ∧ Below wn.heap.size wn w' ∧ ∀ k, v.ownBlock = some k → wn.heap.size ≤ k := by
 obtain ⟨D, P, A, h1, h2, h3, h4, h5, h6, h7, h8, h9, h10⟩ := h.ex
 have hpl := h2.lc.pl
 obtain ⟨g1, g2, g3, g4⟩ := h2.get (p := p) (by omega)
 obtain ⟨s1, s2, s3, s4, s5, s6⟩ := SameG.get D P (p : Int)
 refine (PGet_az h1 (p : Int) (by omega) (by omega)).mono ?_
 rintro e w' ⟨v, rfl, hv, T', wn, a1, a2, a3, a4⟩
 rw [g2] at hv
 rw [g1]
 exact ⟨v, rfl, hv, T', wn, ⟨_, _, A, a1, g3, (getR_pages D P (p : Int)).1.trans h3, h4, h5, by omega, s5.trans h7, s4.trans h8, s6.trans h9, s1.trans h10⟩, a2, a3, a4⟩
end
end Go.Proofs.YtnkeclpgpiogoaaGreat

/-! BtJ -/
namespace Go.Proofs.YtnkeclpgpiogoaaGreat
open Go Go.RowKit Go.Maps
structure PF (w : World) (base : Nat) (S : Nat → Prop) (g k : Nat) (now : Nat → List UInt8) : Prop where
 ex : ∃ arr : Array Value, w.heap[g]? = some (.cells arr 35 (0, 0)) ∧ arr.size = 20 ∧ ∀ j, j < k → ∃ v, arr[j]? = some v ∧ PgV w S v (now j)
 ns : ¬ S g
 bg : base ≤ g
section
variable {w w' : World} {S S' : Nat → Prop} {base g k : Nat} {now : Nat → List UInt8}
set_option maxRecDepth 100000 in
theorem PF.lt (h : PF w base S g k now) : g < w.heap.size := by
 obtain ⟨arr, h1, _⟩ := h.ex
 exact (Array.getElem?_eq_some_iff.1 h1).1
set_option maxRecDepth 100000 in
theorem PF.new (w : World) (S : Nat → Prop) (now : Nat → List UInt8) (hS : ¬ S w.heap.size) (b : Nat) (hb : b ≤ w.heap.size) : PF (w.alloc (.cells (nils 20) 35)) b S w.heap.size 0 now :=
 ⟨⟨nils 20, heap_alloc_new w _, by have := congrArg List.length (nils_toList 20); simpa using this, fun j hj => absurd hj (Nat.not_lt_zero _)⟩, hS, hb⟩
set_option maxRecDepth 100000 in
theorem PF.off {R : Nat → Prop} (h : PF w base S g k now) (ho : Off R w w') (hR : ∀ j, R j → S j ∨ (NoB w j ∧ j ≠ g)) (hT : ∀ j, S' j → S j ∨ w.heap.size ≤ j) : PF w' base S' g k now := by
 obtain ⟨arr, h1, h2, h3⟩ := h.ex
 have hl := h.lt
 refine ⟨⟨arr, (ho.block g hl (fun e => (hR g e).elim h.ns (fun e => e.2 rfl))).trans h1, h2, fun j hj => ?_⟩, fun e => (hT g e).elim h.ns (fun e => by omega), h.bg⟩
 obtain ⟨v, q1, q2⟩ := h3 j hj
 exact ⟨v, q1, q2.off ho (fun j e => (hR j e).imp id And.left) hT⟩
set_option maxRecDepth 100000 in
theorem PF.below (h : PF w base S g k now) (hb : Below w.heap.size w w') : PF w' base S g k now := h.off (R := fun _ => False) (Off.of_below hb) (fun _ e => False.elim e) (fun _ e => .inl e)
set_option maxRecDepth 100000 in
theorem PF.nob (h : PF w base S g k now) : NoB w g := fun cs fr h2 => by
 obtain ⟨arr, h1, _⟩ := h.ex
 rw [h1] at h2
 injection h2 with h2
 injection h2 with _ h2 _
 revert h2
 decide
set_option maxRecDepth 100000 in
theorem PF.frozen (h : PF w base S g k now) (j : Nat) : w.frozen? ⟨g, j, none⟩ = false := by
 obtain ⟨arr, h1, _⟩ := h.ex
 simp [World.frozen?, h1]
set_option maxRecDepth 100000 in
theorem PF.cell (h : PF w base S g k now) {j : Nat} (hj : j < 20) : ∃ v, w.cell? ⟨g, j, none⟩ = some v := by
 obtain ⟨arr, h1, h2, _⟩ := h.ex
 rw [cell_of_row w g j _ _ _ h1]
 exact ⟨_, Array.getElem?_eq_getElem (by omega)⟩
set_option maxRecDepth 100000 in
theorem PF.put (h : PF w base S g k now) (hk : k < 20) {u : Value} (hu : PgV w S u (now k)) : PF (w.setCell ⟨g, k, none⟩ u) base S g (k + 1) now ∧ Off (fun j => j = g) w (w.setCell ⟨g, k, none⟩ u) := by
 have ho : Off (fun j => j = g) w (w.setCell ⟨g, k, none⟩ u) := (Off.refl (fun j => j = g) w).setCell (S := fun j => j = g) _ rfl
 have hno : ∀ j, j = g → S j ∨ NoB w j := fun j e => .inr (e ▸ h.nob)
 obtain ⟨arr, h1, h2, h3⟩ := h.ex
 refine ⟨⟨⟨arr.setIfInBounds k u, ?_, by simpa using h2, fun j hj => ?_⟩, h.ns, h.bg⟩, ho⟩
 ·simp only [World.setCell, Array.getElem?_modify, if_pos, h1]
  simp
 ·by_cases e : j = k
  ·subst e
   exact ⟨u, by rw [Array.getElem?_setIfInBounds_self_of_lt (by omega)], hu.off ho hno (fun _ e => .inl e)⟩
  ·obtain ⟨v, q1, q2⟩ := h3 j (by omega)
   exact ⟨v, by rw [Array.getElem?_setIfInBounds_ne (fun e2 => e e2.symm)]; exact q1, q2.off ho hno (fun _ e => .inl e)⟩
set_option maxRecDepth 100000 in
theorem PF.all (h : PF w base S g 20 now) : PO2 w base S g 20 20 now := by
 obtain ⟨arr, h1, h2, h3⟩ := h.ex
 have hl : arr.toList.take (20 * 1) = arr.toList := List.take_of_length_le (by simp [h2])
 refine ⟨arr.toList, ⟨by simp [h2], .inr ⟨g, 20, arr, rfl, h.bg, h1, Nat.le_refl _, by decide, by simpa using h2, hl⟩⟩, ⟨by simp [h2], fun j hj => ?_⟩, h.ns⟩
 obtain ⟨v, q1, q2⟩ := h3 j hj
 exact ⟨v, by rw [Array.getElem?_toList]; exact q1, q2⟩
end
end Go.Proofs.YtnkeclpgpiogoaaGreat

/-! BtK -/
namespace Go.Proofs.YtnkeclpgpiogoaaGreat
open Go Go.RowKit Go.Maps
def anyP (j : Nat) : List UInt8 := madeL ((j : Int) + 5) 4080
set_option maxRecDepth 100000 in
theorem getD_at {α : Type} {l : List α} {i : Nat} {d : α} (h : i < l.length) : l.getD i d = l[i] := by
 rw [List.getD_eq_getElem?_getD, List.getElem?_eq_getElem h]
 rfl
set_option maxRecDepth 100000 in
theorem rcs_drop : ∀ (us : List (Int × Int × Value)) (k : Nat), rcs (us.drop k) = (rcs us).drop (k * 3)
 | us, 0 => by simp
 | [], k + 1 => by simp [rcs]
 | p :: ps, k + 1 => by
  rw [List.drop_succ_cons, rcs_drop ps k, Nat.succ_mul]
  rfl
section
variable {w w' : World} {base n : Nat} {A : Option Addr} {rs : List Rec} {S S' : Nat → Prop} {now : Nat → List UInt8}
set_option maxRecDepth 100000 in
theorem RX.cut (h : RX w base A n rs) {k c : Nat} (hk : k ≤ n) (hc : n ≤ c) : RX w base (cutA A c k 3) (n - k) (rs.drop k) := by
 obtain ⟨us, h1, h2, h3⟩ := h
 refine ⟨us.drop k, ?_, by rw [List.length_drop, List.length_drop, h2], fun i p q hp hq => h3 (k + i) p q ?_ ?_⟩
 ·have h4 := Rd.cut h1 hk (Nat.le_refl n) hc
  rw [List.take_of_length_le (by rw [List.length_drop, h1.1, Nat.sub_mul]; exact Nat.le_refl _)] at h4
  rw [rcs_drop]
  exact h4
 ·rw [← List.getElem?_drop]
  exact hp
 ·rw [← List.getElem?_drop]
  exact hq
set_option maxRecDepth 100000 in
theorem PR2.mv (h : PR2 w S A n now) (hm : Mv S S' w w') : PR2 w' S' A n now := h.off hm.1 (fun _ e => e) hm.2
end
def touchF (rs : List Rec) (p : Nat) : Bool := rs.any fun r => r.cs.any fun c => decide (c.1.toNat = p)
def mrkF (recs : List Rec) (fr i k : Nat) (p : Nat) : Bool := touchF ((recs.take i).drop fr) p || ((recs.getD i rec0).cs.take k).any fun c => decide (c.1.toNat = p)
section
variable {recs : List Rec} {fr i k : Nat}
set_option maxRecDepth 100000 in
theorem touch_from : touchF ((recs.take fr).drop fr) = fun _ => false := by
 rw [List.drop_eq_nil_of_le (by rw [List.length_take]; omega)]
 rfl
set_option maxRecDepth 100000 in
theorem touch_all : touchF ((recs.take recs.length).drop fr) = touchF (recs.drop fr) := by rw [List.take_length]
set_option maxRecDepth 100000 in
theorem mrk_zero : mrkF recs fr i 0 = touchF ((recs.take i).drop fr) := by
 funext p
 unfold mrkF
 rw [List.take_zero, List.any_nil, Bool.or_false]
set_option maxRecDepth 100000 in
theorem mrk_step (hk : k < (recs.getD i rec0).cs.length) {p : Nat} (hp : ((recs.getD i rec0).cs.getD k ch0).1 = (p : Int)) : updB (mrkF recs fr i k) p true = mrkF recs fr i (k + 1) := by
 funext q
 unfold updB mrkF
 rw [List.take_add_one, List.getElem?_eq_getElem hk, Option.toList_some, List.any_append, List.any_cons, List.any_nil, Bool.or_false]
 have e : (recs.getD i rec0).cs[k] = (recs.getD i rec0).cs.getD k ch0 := (getD_at hk).symm
 rw [e, hp, Int.toNat_natCast]
 by_cases h : q = p
 ·rw [if_pos h, decide_eq_true h.symm, Bool.or_true, Bool.or_true]
 ·rw [if_neg h, decide_eq_false (fun e2 => h e2.symm), Bool.or_false]
set_option maxRecDepth 100000 in
theorem mrk_all (hf : fr ≤ i) (hi : i < recs.length) : mrkF recs fr i (recs.getD i rec0).cs.length = touchF ((recs.take (i + 1)).drop fr) := by
 funext q
 unfold mrkF
 rw [List.take_length, List.take_add_one, List.getElem?_eq_getElem hi, Option.toList_some, List.drop_append_of_le_length (by rw [List.length_take]; omega)]
 unfold touchF
 rw [List.any_append, List.any_cons, List.any_nil, Bool.or_false]
 have e : recs[i] = recs.getD i rec0 := (getD_at hi).symm
 rw [e]
set_option maxRecDepth 100000 in
theorem mrk_page (h : redoOk (recs.drop fr)) (hf : fr ≤ i) (hi : i < recs.length) (hk : k < (recs.getD i rec0).cs.length) : ∃ p : Nat, ((recs.getD i rec0).cs.getD k ch0).1 = (p : Int) ∧ p < 20 := by
 have e : recs.getD i rec0 ∈ recs.drop fr := by
  have e1 : recs.getD i rec0 = (recs.drop fr)[i - fr]'(by rw [List.length_drop]; omega) := by
   rw [List.getElem_drop, getD_at hi]
   congr 1
   omega
  rw [e1]
  exact List.getElem_mem _
 have e2 : (recs.getD i rec0).cs.getD k ch0 ∈ (recs.getD i rec0).cs := getD_mem hk
 obtain ⟨p, h1, h2, _⟩ := h _ e _ e2
 exact ⟨p, h1, h2⟩
end
section
variable {w0 w w' : World} {z : Wh} {n bl gj c V : Nat} {T : Nat → Prop} {now : Nat → List UInt8} {recs : List Rec} {im : List (Nat × Unit)}
set_option maxRecDepth 100000 in
theorem SJ.wide (h : SJ w0 w z n bl gj T now c recs V im) {c' : Nat} (hc : c ≤ c') : SJ w0 w z n bl gj T now c' recs V im := by
 obtain ⟨D, P, A, h1, h2, h3, h4, h5, h6, r⟩ := h.ex
 exact ⟨D, P, A, h1, h2, h3, h4, h5, Nat.le_trans h6 hc, r⟩
set_option maxRecDepth 100000 in
theorem SJ.srt (h : SJ w0 w z n bl gj T now c recs V im) : SortS im := by
 obtain ⟨D, P, A, h1, h2, h3, h4, h5, r⟩ := h.ex
 obtain ⟨F, tv, mb, q, i, _, _, _, _, _, _, _, h8, _⟩ := h1.ex
 rw [← h5]
 exact h8
structure HeP (i fr V : Nat) (recs : List Rec) (im : List (Nat × Unit)) (nw : Nat → List UInt8) : Prop where
 v : V ≤ 4 * i
 r : recs.length ≤ i
 f : fr ≤ recs.length
 ml : im.length ≤ 3 * i
 p : ∀ p, inM im p = true → p < 20
 he : Heal (recs.drop fr) im nw anyP
variable {i fr : Nat} {nw : Nat → List UInt8} {st : List (Nat × List UInt8)}
set_option maxRecDepth 100000 in
theorem HeP.new (nw : Nat → List UInt8) : HeP 0 0 0 [] [] nw := ⟨Nat.le_refl _, Nat.le_refl _, Nat.le_refl _, Nat.le_refl _, (fun p e => by cases e), Heal.none_ _ _⟩
set_option maxRecDepth 100000 in
theorem HeP.fresh (h : HeP i fr V recs im nw) : HeP i recs.length V recs [] nw :=
 ⟨h.v, h.r, Nat.le_refl _, Nat.zero_le _, (fun p e => by cases e), by rw [List.drop_length]; exact Heal.none_ _ _⟩
set_option maxRecDepth 100000 in
theorem HeP.step (h : HeP i fr V recs im nw) (hs : SortS im) (hx : XOk 20 st) (h3 : st.length ≤ 3) (hnl : ∀ p, p < 20 → (nw p).length = 4080) (tx : Int) :
  HeP (i + 1) fr (V + (st.length + 1)) (recs ++ if chgL im nw st = [] then [] else [(⟨1, tx, chgL im nw st⟩ : Rec)]) (markF (chgL im nw st) im) (nowD nw st) := by
 have h1 := (markF_le (chgL im nw st) im hs).1
 have h2 := chgL_len (im := im) (now := nw) st
 have q1 := h.v
 have q2 := h.r
 have q3 := h.f
 have q4 := h.ml
 have h5 : (recs ++ if chgL im nw st = [] then [] else [(⟨1, tx, chgL im nw st⟩ : Rec)]).length ≤ recs.length + 1 := by
  rw [List.length_append]
  split
  ·exact Nat.le_succ _
  ·exact Nat.le_refl _
 refine ⟨by omega, by omega, ?_, by omega, fun p e => ?_, ?_⟩
 ·rw [List.length_append]
  omega
 ·rw [inM_mark, Bool.or_eq_true] at e
  rcases e with e | e
  ·exact h.p p e
  ·obtain ⟨c, hc, hf⟩ := List.any_eq_true.1 e
   rw [Bool.and_eq_true] at hf
   have hf := of_decide_eq_true hf.2
   obtain ⟨e, g1, g2, _⟩ := chgL_mem hc
   have hpx : c.1.toNat = e.1 := by rw [g2, chg1_page, Int.toNat_natCast]
   have := (hx.ok e g1).1
   omega
 ·rw [List.drop_append_of_le_length h.f]
  exact h.he.step hx hnl h.p tx
end
structure HeI (w wr : World) (z : Wh) (gj g0 ga g i fr : Nat) : Prop where
 ex : ∃ T nw recs V im, SJ w wr z 20 120 gj T nw (32 * i) recs V im ∧ HeP i fr V recs im nw ∧ PR2 wr T (some ⟨g, 0, none⟩) 20 nw ∧ PR2 wr T (some ⟨ga, 0, none⟩) 20 anyP ∧ YK wr z gj g0 T
section
variable {w wr w' : World} {z : Wh} {gj g0 ga g i fr : Nat}
set_option maxRecDepth 100000 in
theorem HeI.below (h : HeI w wr z gj g0 ga g i fr) (hb : Below wr.heap.size wr w') : HeI w w' z gj g0 ga g i fr := by
 obtain ⟨T, nw, recs, V, im, h1, h2, h3, h4, h5⟩ := h.ex
 exact ⟨T, nw, recs, V, im, h1.below hb, h2, h3.below hb, h4.below hb, h5.below hb⟩
end
set_option maxRecDepth 100000 in
theorem PR2.at0 {w : World} {S : Nat → Prop} {g n : Nat} {now : Nat → List UInt8} (h : PR2 w S (some ⟨g, 0, none⟩) n now) {j : Nat} (hj : j < n) : ∃ g2 o2 c2, w.cell? ⟨g, j, none⟩ = some (.slice (some ⟨g2, o2, none⟩) 4080 c2) ∧ BR w (some ⟨g2, o2, none⟩) 4080 (now j) := by
 obtain ⟨g', o', v, e1, ce, hv⟩ := h.at_ hj
 injection e1 with e1
 injection e1 with e1 e2 _
 subst e1 e2
 rw [Nat.zero_add] at ce
 obtain ⟨g2, o2, c2, rfl, hb, _⟩ := hv
 exact ⟨g2, o2, c2, ce, hb⟩
structure HeL (w wr : World) (z : Wh) (gj g0 ga g gq gt c : Nat) (nw told : Nat → List UInt8) (tk : Nat → Bool) (recs : List Rec) (V : Nat) (im : List (Nat × Unit)) : Prop where
 ex : ∃ T, SJ w wr z 20 120 gj T nw c recs V im ∧ PR2 wr T (some ⟨g, 0, none⟩) 20 nw ∧ PR2 wr T (some ⟨ga, 0, none⟩) 20 anyP ∧ PR2 wr T (some ⟨gq, 0, none⟩) 20 told ∧ YK wr z gj g0 T ∧ TB wr gt tk 20 ∧ ¬ T gt
section
variable {w wr wn w' : World} {z : Wh} {gj g0 ga g gq gt c : Nat} {nw told : Nat → List UInt8} {tk : Nat → Bool} {recs : List Rec} {V : Nat} {im : List (Nat × Unit)}
set_option maxRecDepth 100000 in
theorem HeL.below (h : HeL w wr z gj g0 ga g gq gt c nw told tk recs V im) (hb : Below wr.heap.size wr w') : HeL w w' z gj g0 ga g gq gt c nw told tk recs V im := by
 obtain ⟨T, h1, h2, h3, h4, h5, h6, h7⟩ := h.ex
 exact ⟨T, h1.below hb, h2.below hb, h3.below hb, h4.below hb, h5.below hb, h6.below hb, h7⟩
set_option maxRecDepth 100000 in
theorem HeL.mv {T T' : Nat → Prop} {c' : Nat} (hs : SJ w wn z 20 120 gj T' nw c' recs V im) (hm : Mv T T' wr wn) (h2 : PR2 wr T (some ⟨g, 0, none⟩) 20 nw) (h3 : PR2 wr T (some ⟨ga, 0, none⟩) 20 anyP) (h4 : PR2 wr T (some ⟨gq, 0, none⟩) 20 told) (h5 : YK wr z gj g0 T) (h6 : TB wr gt tk 20) (h7 : ¬ T gt) : HeL w wn z gj g0 ga g gq gt c' nw told tk recs V im :=
 ⟨⟨T', hs, h2.mv hm, h3.mv hm, h4.mv hm, h5.mv hm, h6.off hm.1 h7, fun e => (hm.2 gt e).elim h7 (fun e => by have := h6.lt; omega)⟩⟩
end
end Go.Proofs.YtnkeclpgpiogoaaGreat
