/-
  Texts of this claim, joined: BtB, BtC, BtD, BtE, BtF, PlH, BtG, BtH, BtI, BtJ, BtK, BtM, BtN, BtP, BtQ, BtR, BtS. No statement of the program is proved here.
-/
import Derived.Test.YtnkeclpgpiogoaaGreatPkE9
import Derived.Test.YtnkeclpgpiogoaaGreatPkE8
import Derived.Test.YtnkeclpgpiogoaaGreatPkE4
/-! BtB -/
namespace Go.Proofs.YtnkeclpgpiogoaaGreat
open Go Go.RowKit Go.Maps
def YB (w : World) (g : Nat) (u0 u1 u2 u3 : Value) : Prop := w.heap[g]? = some (.cells #[u0, u1, u2, u3] 53 (0, 0))
section
variable {w w' : World} {g : Nat} {u0 u1 u2 u3 : Value}
set_option maxRecDepth 100000 in
theorem YB.lt (h : YB w g u0 u1 u2 u3) : g < w.heap.size := (Array.getElem?_eq_some_iff.1 h).1
set_option maxRecDepth 100000 in
theorem YB.off {S : Nat → Prop} (h : YB w g u0 u1 u2 u3) (ho : Off S w w') (hs : ¬ S g) : YB w' g u0 u1 u2 u3 := (ho.block g h.lt hs).trans h
set_option maxRecDepth 100000 in
theorem YB.below (h : YB w g u0 u1 u2 u3) (hb : Below w.heap.size w w') : YB w' g u0 u1 u2 u3 := (hb.block g h.lt).trans h
set_option maxRecDepth 100000 in
theorem YB.frozen (h : YB w g u0 u1 u2 u3) (j : Nat) : w.frozen? ⟨g, j, none⟩ = false := by unfold YB at h; simp [World.frozen?, h]
set_option maxRecDepth 100000 in
theorem YB.c0 (h : YB w g u0 u1 u2 u3) : w.cell? ⟨g, 0, none⟩ = some u0 := by rw [cell_of_row w g 0 _ _ _ h]; rfl
set_option maxRecDepth 100000 in
theorem YB.c1 (h : YB w g u0 u1 u2 u3) : w.cell? ⟨g, 1, none⟩ = some u1 := by rw [cell_of_row w g 1 _ _ _ h]; rfl
set_option maxRecDepth 100000 in
theorem YB.c2 (h : YB w g u0 u1 u2 u3) : w.cell? ⟨g, 2, none⟩ = some u2 := by rw [cell_of_row w g 2 _ _ _ h]; rfl
set_option maxRecDepth 100000 in
theorem YB.c3 (h : YB w g u0 u1 u2 u3) : w.cell? ⟨g, 3, none⟩ = some u3 := by rw [cell_of_row w g 3 _ _ _ h]; rfl
set_option maxRecDepth 100000 in
theorem YB.nb (h : YB w g u0 u1 u2 u3) : NE w g := ⟨_, h, by decide, by decide, by decide, by decide, by decide, by decide⟩
set_option maxRecDepth 100000 in
theorem YB.put (h : YB w g u0 u1 u2 u3) (v0 v1 v2 v3 : Value) : YB ((((w.setCell ⟨g, 0, none⟩ v0).setCell ⟨g, 1, none⟩ v1).setCell ⟨g, 2, none⟩ v2).setCell ⟨g, 3, none⟩ v3) g v0 v1 v2 v3 := by
 unfold YB at h ⊢
 simp only [World.setCell, Array.getElem?_modify, if_pos, h]
 rfl
set_option maxRecDepth 100000 in
theorem YB.puto (v0 v1 v2 v3 : Value) : Off (· = g) w ((((w.setCell ⟨g, 0, none⟩ v0).setCell ⟨g, 1, none⟩ v1).setCell ⟨g, 2, none⟩ v2).setCell ⟨g, 3, none⟩ v3) :=
 ((((Off.refl (· = g) w).setCell _ rfl).setCell _ rfl).setCell _ rfl).setCell _ rfl
end
def made10E (gj gb : Nat) : EnS := ⟨newD 140, newJ 0 120 1 0 1, gj, gb, true⟩
def yV (z : Wh) (gj : Nat) : Value := .agg #[.pointer (some ⟨z.gd, 0, none⟩), .pointer (some ⟨gj, 0, none⟩), .pointer (some ⟨z.gp, 0, none⟩), .pointer (some ⟨z.ga, 0, none⟩)]
set_option maxRecDepth 100000 in
set_option maxHeartbeats 1000000 in
theorem made10_any (f : Nat) (w0 w : World) (hb0 : Below w0.heap.size w0 w) (hf1 : 2 ≤ f) (hf2 : f ≤ 256) :
  Calls Tryz.prog 26 #[.int .i64 (f : Int)] w fun e w' => ∃ z gj gb T, e = .returned (.tuple #[yV z gj, .bool true]) ∧ AZ w0 w' z (made10E gj gb) (newP 120 20 f 1 0) newA T ∧ Below w.heap.size w w' := by
 have hba := gr_alloc (gr_refl w) (.cells #[.pointer none, .pointer none, .pointer none, .pointer none] 53)
 have hyb : YB (w.alloc (.cells #[.pointer none, .pointer none, .pointer none, .pointer none] 53)) w.heap.size (.pointer none) (.pointer none) (.pointer none) (.pointer none) := heap_alloc_new _ _
 have hd : Calls Tryz.prog 58 #[.int .i64 140] (w.alloc (.cells #[.pointer none, .pointer none, .pointer none, .pointer none] 53)) fun e w' => ∃ gd S, e = .returned (.tuple #[.pointer (some ⟨gd, 0, none⟩), .int .i64 0]) ∧ DS w0 w' gd (newD 140) S ∧ Below (w.alloc (.cells #[.pointer none, .pointer none, .pointer none, .pointer none] 53)).heap.size (w.alloc (.cells #[.pointer none, .pointer none, .pointer none, .pointer none] 53)) w' ∧ ∀ k, S k → (w.alloc (.cells #[.pointer none, .pointer none, .pointer none, .pointer none] 53)).heap.size ≤ k := DNew_ds 140 w0 _ (by omega) (by omega) (gr_trans hb0 hba)
 have HD := Lib.hid hd
 have HYB := Lib.hid hyb
 have HBA := Lib.hid hba
 have HB0 := Lib.hid hb0
 have HSZ : Hid ((w.alloc (.cells #[.pointer none, .pointer none, .pointer none, .pointer none] 53)).heap.size = w.heap.size + 1) := Lib.hid (World.size_alloc ..)
 have hmf : ∀ (fn : Fn) (first cap : Array Value) (w : World), (Instr.makeFunc fn first cap).run Tryz.prog w = .ok (.func fn first cap) w := fun _ _ _ _ => rfl
 have HLN : Hid ((newD 140).blocks.length = 140) := Lib.hid (List.length_replicate ..)
 clear hd hyb hba hb0
 go_enter Tryz.func26, Tryz.ntmps26
 go_wp2_with fail
 generalize w.alloc (.cells #[.pointer none, .pointer none, .pointer none, .pointer none] 53) = wa at *
 refine HD.out.mono ?_
 rintro e w2 ⟨gd, S, rfl, hds, hb2, hS⟩
 have HJ : Hid (Calls Tryz.prog 59 #[.pointer (some ⟨gd, 0, none⟩), .int .i64 0, .int .i64 120, .int .i64 1, .int .i64 0, .int .i64 1] w2 fun e w' => ∃ gj S', e = .returned (.tuple #[.pointer (some ⟨gj, 0, none⟩), .int .i64 0]) ∧ JS w0 w' gd gj (newD 140) (newJ 0 120 1 0 1) S' ∧ Below w2.heap.size w2 w' ∧ Mv S S' w2 w') :=
  Lib.hid (JNew_js 0 120 1 0 1 hds (by rw [HLN.out]; exact mayB_new (ring := 120) (n := 20) (by omega) (by omega)))
 have HB2 := Lib.hid hb2
 have HS := Lib.hid hS
 clear hds hb2 hS
 go_wp2_with fail
 refine HJ.out.mono ?_
 rintro e w3 ⟨gj, S', rfl, hjs, hb3, hm3⟩
 have hb4 := gr_alloc (gr_refl w3) (.cells #[.pointer (some ⟨gj, 0, none⟩)] 50)
 have hbox := heap_alloc_new w3 (.cells #[.pointer (some ⟨gj, 0, none⟩)] 50)
 have hie : IsE (w3.alloc (.cells #[.pointer (some ⟨gj, 0, none⟩)] 50)) w0.heap.size gd S' (made10E gj w3.heap.size) := IsE.of (hjs.below hb4) hbox hjs.bel.size
 have HP : Hid (Calls Tryz.prog 60 #[.pointer (some ⟨gd, 0, none⟩), .int .i64 120, .int .i64 20, .int .i64 (f : Int), .int .i64 1, .int .i64 0, .func (.func 73) #[] #[.pointer (some ⟨w3.heap.size, 0, none⟩)]] (w3.alloc (.cells #[.pointer (some ⟨gj, 0, none⟩)] 50)) fun e w' => e = .returned (.tuple #[.pointer (some ⟨(w3.alloc (.cells #[.pointer (some ⟨gj, 0, none⟩)] 50)).heap.size + 1, 0, none⟩), .int .i64 0]) ∧ PX w' w0.heap.size ((w3.alloc (.cells #[.pointer (some ⟨gj, 0, none⟩)] 50)).heap.size + 1) gd (.func (.func 73) #[] #[.pointer (some ⟨w3.heap.size, 0, none⟩)]) (made10E gj w3.heap.size) (newP 120 20 f 1 0) S' (.slice none 0 0) (w3.alloc (.cells #[.pointer (some ⟨gj, 0, none⟩)] 50)).heap.size [] ∧ Below (w3.alloc (.cells #[.pointer (some ⟨gj, 0, none⟩)] 50)).heap.size (w3.alloc (.cells #[.pointer (some ⟨gj, 0, none⟩)] 50)) w') :=
  Lib.hid (PNew_any _ w0.heap.size gd S' (made10E gj w3.heap.size) 120 20 f 1 0 _ hie (.inr ⟨_, _, rfl⟩) (by
   show mayP ((newD 140).blocks.length) _ _ _ _ _ = true
   rw [HLN.out]
   exact mayP_new (ring := 120) (n := 20) (by omega) hf1 hf2))
 have HBOX := Lib.hid hbox
 have HB3 := Lib.hid (gr_trans (gr_trans HB2.out hb3) hb4)
 have HT3 : Hid (∀ k, S' k → wa.heap.size ≤ k) := Lib.hid (fun k e => (hm3.2 k e).elim (HS.out k) (fun e => Nat.le_trans HB2.out.size e))
 clear hjs hb3 hm3 hb4 hbox hie
 have HGP : Hid (wa.heap.size ≤ (w3.alloc (.cells #[.pointer (some ⟨gj, 0, none⟩)] 50)).heap.size) := Lib.hid HB3.out.size
 obtain ⟨mb, hmb⟩ : ∃ mb, mb = (w3.alloc (.cells #[.pointer (some ⟨gj, 0, none⟩)] 50)).heap.size := ⟨_, rfl⟩
 have HMB := Lib.hid hmb
 rw [← hmb] at HGP
 clear hmb
 go_wp2_with fail
 refine HP.out.mono ?_
 rintro e w5 ⟨rfl, hpx, hb5⟩
 rw [← HMB.out] at hpx hb5 ⊢
 have hcell : w5.cell? ⟨w3.heap.size, 0, none⟩ = some (.pointer (some ⟨gj, 0, none⟩)) := keep_of_below (by rw [← HMB.out]; exact hb5) (box_cell HBOX.out)
 have HA : Hid (Calls Tryz.prog 52 #[.pointer (some ⟨mb + 1, 0, none⟩), .pointer (some ⟨gj, 0, none⟩)] w5 fun e w' => ∃ ga T, e = .returned (.tuple #[.pointer (some ⟨ga, 0, none⟩), .int .i64 0]) ∧ AZ w0 w' ⟨gd, mb + 1, .func (.func 73) #[] #[.pointer (some ⟨w3.heap.size, 0, none⟩)], ga⟩ (made10E gj w3.heap.size) (newP 120 20 f 1 0) newA T ∧ Below w5.heap.size w5 w' ∧ ∀ k, T k → PS (mb + 1) S' (.slice none 0 0) mb [] k ∨ w5.heap.size ≤ k) :=
  Lib.hid (ANew_az (gr_trans (gr_trans (gr_trans HB0.out HBA.out) HB3.out) (by rw [← HMB.out]; exact hb5)) hpx (wal10 (D0 := made10E gj w3.heap.size) rfl) (by show (1 : Nat) ≤ 20; omega) (by show (1 : Nat) ≠ 0; omega))
 have HB5 := Lib.hid (gr_trans HB3.out (by rw [← HMB.out]; exact hb5))
 clear hpx hb5
 go_wp2_with fail
 refine HA.out.mono ?_
 rintro e w6 ⟨ga, T, rfl, haz, hb6, hT⟩
 have HB6 := Lib.hid (gr_trans HB5.out hb6)
 have hyb6 := HYB.out.below HB6.out
 have hc6 := keep_of_below hb6 hcell
 have HY6 := Lib.hid hyb6
 have HNT : Hid (¬ T w.heap.size) := Lib.hid (fun e => by
  have h1 := HSZ.out
  have h2 := HGP.out
  have h3 := HB5.out.size
  rcases hT _ e with e | e
  ·rcases e with e | e | e | e | ⟨x, hx, _⟩
   ·have := HT3.out _ e
    omega
   ·omega
   ·omega
   ·simp [Value.ownBlock] at e
   ·cases hx
  ·omega)
 have HAZ := Lib.hid haz
 have f0 := hyb6.frozen 0
 have f1 := hyb6.frozen 1
 have f2 := hyb6.frozen 2
 have f3 := hyb6.frozen 3
 have z0 := hyb6.c0
 have z1 := hyb6.c1
 have z2 := hyb6.c2
 have z3 := hyb6.c3
 clear haz hb6 hT hcell hyb6
 go_wp2_with fail
 have hyf := HY6.out.put (.pointer (some ⟨gd, 0, none⟩)) (.pointer (some ⟨gj, 0, none⟩)) (.pointer (some ⟨mb + 1, 0, none⟩)) (.pointer (some ⟨ga, 0, none⟩))
 have hof := YB.puto (w := w6) (g := w.heap.size) (.pointer (some ⟨gd, 0, none⟩)) (.pointer (some ⟨gj, 0, none⟩)) (.pointer (some ⟨mb + 1, 0, none⟩)) (.pointer (some ⟨ga, 0, none⟩))
 clear f0 f1 f2 f3 z0 z1 z2 z3
 generalize (((w6.setCell ⟨w.heap.size, 0, none⟩ (.pointer (some ⟨gd, 0, none⟩))).setCell ⟨w.heap.size, 1, none⟩ (.pointer (some ⟨gj, 0, none⟩))).setCell ⟨w.heap.size, 2, none⟩ (.pointer (some ⟨mb + 1, 0, none⟩))).setCell ⟨w.heap.size, 3, none⟩ (.pointer (some ⟨ga, 0, none⟩)) = w7 at hyf hof ⊢
 have z0 := hyf.c0
 have z1 := hyf.c1
 have z2 := hyf.c2
 have z3 := hyf.c3
 refine bodyPost_ret (v := .tuple #[yV ⟨gd, mb + 1, .func (.func 73) #[] #[.pointer (some ⟨w3.heap.size, 0, none⟩)], ga⟩ gj, .bool true]) (by simp [results, Tryz.results26, go_sem, z0, z1, z2, z3, yV]) rfl ⟨_, gj, w3.heap.size, T, rfl, HAZ.out.nb hof ?_, ?_⟩
 ·rintro k rfl
  exact ⟨HY6.out.nb, HNT.out, HB0.out.size⟩
 ·have h5 := HB6.out
  have h6 := HBA.out
  exact (gr_trans h6 h5).trans (hof.below (by rintro k rfl; exact Nat.le_refl _) (gr_trans h6 h5).size)
end Go.Proofs.YtnkeclpgpiogoaaGreat

/-! BtC -/
namespace Go.Proofs.YtnkeclpgpiogoaaGreat
open Go Go.RowKit Go.Maps
set_option maxRecDepth 100000 in
theorem CI.flush {E : EnS} {P : PoS} {now : Nat → List UInt8} {recs : List Rec} {U : Nat} (h : CI E P now recs U) : fluE E.d E.j = 0 ∧ CI { E with d := fluD E.d E.j, j := fluJ E.d E.j } P now recs U ∧ (fluJ E.d E.j).sy = recs.length := by
 obtain ⟨h1, h2, h3⟩ := h.lc.flush h.ti
 obtain ⟨g1, g2, _, _⟩ := fluJ_shape E.d E.j
 exact ⟨h1, ⟨h.ti.env (fluD_blocks _ _) g1 g2 (fun x hx hl => visL_flu hl (by have := h.ti.fb; omega) h.ti.b0), h2⟩, h3⟩
set_option maxRecDepth 100000 in
theorem CI.scan {E : EnS} {P : PoS} {now : Nat → List UInt8} {recs : List Rec} {U : Nat} (h : CI E P now recs U) (hs : E.j.sy = recs.length) : scanR E.d E.j.fi E.j.bl E.j.ep 0 1 = recs := by
 obtain ⟨fs, cur, h1, h2, h3, h4⟩ := h.lc.ex
 have hc : cur = [] := by
  have := congrArg List.length h2
  rw [List.length_append] at this
  exact List.length_eq_zero_iff.1 (by omega)
 have hfb := h.ti.fb
 have hb0 := h.ti.b0
 have hji := h1.ji.b2
 have hft := h1.fits
 have hC : ringC E.d E.j.fi E.j.bl 0 = fun k => E.d.blocks.getD (E.j.fi + (0 + k) % E.j.bl) [] := by
  funext k
  unfold ringC
  refine lastL_none (fun q hq => ?_)
  have := h.lc.po q hq
  have := Nat.mod_lt (0 + k) hb0
  omega
 refine (scan_log (by rw [hC]; exact h1.log) (by omega) (scan_stop (b := [0]) (m := 0) (by simp) (by simp [needL]) (fun j hj => by omega) (.inr ?_))).1.trans ?_
 ·rw [hC]
  simp only [Nat.add_zero]
  rw [← h1.ct]
  exact h1.old _ (Nat.mod_lt _ hb0) _ (Nat.le_refl _) (by have := h1.ct; omega)
 ·rw [← h2, hc, List.append_nil]
structure SJ (w0 w : World) (z : Wh) (n bl gj : Nat) (T : Nat → Prop) (now : Nat → List UInt8) (c : Nat) (recs : List Rec) (V : Nat) (im : List (Nat × Unit)) : Prop where
 ex : ∃ D P A, AZ w0 w z D P A T ∧ CI D P now recs V ∧ P.pages = n ∧ A.br = false ∧ A.im = im ∧ P.count ≤ c ∧ D.j.bl = bl ∧ D.j.fi = 0 ∧ D.j.ep = 1 ∧ D.gj = gj
structure SF (w0 w : World) (z : Wh) (n bl gj : Nat) (T : Nat → Prop) (now : Nat → List UInt8) (c : Nat) (recs : List Rec) (V : Nat) (im : List (Nat × Unit)) : Prop where
 ex : ∃ D P A, AZ w0 w z D P A T ∧ CI D P now recs V ∧ P.pages = n ∧ A.br = false ∧ A.im = im ∧ P.count ≤ c ∧ D.j.bl = bl ∧ D.j.fi = 0 ∧ D.j.ep = 1 ∧ D.gj = gj ∧ D.j.sy = recs.length
section
variable {w0 w w1 w' : World} {z : Wh} {n bl gj c V : Nat} {T T1 T' U : Nat → Prop} {now : Nat → List UInt8} {recs : List Rec} {im : List (Nat × Unit)} {gx : Nat} {st : List (Nat × List UInt8)}
set_option maxRecDepth 100000 in
theorem SJ.below (h : SJ w0 w z n bl gj T now c recs V im) (hb : Below w.heap.size w w') : SJ w0 w' z n bl gj T now c recs V im := by
 obtain ⟨D, P, A, h1, r⟩ := h.ex
 exact ⟨D, P, A, h1.below hb, r⟩
set_option maxRecDepth 100000 in
theorem SJ.lt (h : SJ w0 w z n bl gj T now c recs V im) {k : Nat} (hk : T k) : w0.heap.size ≤ k ∧ k < w.heap.size := by
 obtain ⟨D, P, A, h1, r⟩ := h.ex
 exact h1.lt hk
set_option maxRecDepth 100000 in
theorem SJ.bel (h : SJ w0 w z n bl gj T now c recs V im) : Below w0.heap.size w0 w := by
 obtain ⟨D, P, A, h1, r⟩ := h.ex
 exact h1.bel
set_option maxRecDepth 100000 in
theorem SF.sj (h : SF w0 w z n bl gj T now c recs V im) : SJ w0 w z n bl gj T now c recs V im := by
 obtain ⟨D, P, A, h1, h2, h3, h4, h5, h6, h7, h8, h9, h10, _⟩ := h.ex
 exact ⟨D, P, A, h1, h2, h3, h4, h5, h6, h7, h8, h9, h10⟩
set_option maxRecDepth 100000 in
theorem SF.below (h : SF w0 w z n bl gj T now c recs V im) (hb : Below w.heap.size w w') : SF w0 w' z n bl gj T now c recs V im := by
 obtain ⟨D, P, A, h1, r⟩ := h.ex
 exact ⟨D, P, A, h1.below hb, r⟩
set_option maxRecDepth 100000 in
theorem SJ.new10 {f gb : Nat} (h : AZ w0 w z (made10E gj gb) (newP 120 20 f 1 0) newA T) (hf1 : 2 ≤ f) (hf2 : f ≤ 256) : SJ w0 w z 20 120 gj T (fun _ => zP) 0 [] 0 [] :=
 ⟨_, _, _, h, (CI.new (by omega) (by omega) (by omega) (by omega) (by omega) : CI ⟨newD (120 + 20), newJ 0 120 1 0 1, gj, gb, true⟩ (newP 120 20 f 1 0) (fun _ => zP) [] 0), rfl, rfl, rfl, Nat.le_refl _, rfl, rfl, rfl, rfl⟩
set_option maxRecDepth 100000 in
theorem Begin_sj (h : SJ w0 w z n bl gj T now c recs V im) :
  Calls Tryz.prog 13 #[.pointer (some ⟨z.ga, 0, none⟩)] w fun e w' => ∃ gx U, e = .returned (.pointer (some ⟨gx, 0, none⟩)) ∧ SJ w0 w' z n bl gj T now c recs V im ∧ XG w0 w' z n gx [] T U ∧ Below w.heap.size w w' ∧ w.heap.size ≤ gx ∧ ∀ k, U k → w.heap.size ≤ k := by
 obtain ⟨D, P, A, h1, r⟩ := h.ex
 refine (Begin_az h1).mono ?_
 rintro e w' ⟨gx, U, rfl, a1, a2, a3, a4, a5⟩
 exact ⟨gx, U, rfl, ⟨D, P, A, a1, r⟩, ⟨a2, XOk.new n⟩, a3, a4, a5⟩
set_option maxRecDepth 100000 in
theorem Set_sj (h : SJ w0 w z n bl gj T now c recs V im) (hx : XG w0 w z n gx st T U) (p : Nat) (B : Option Addr) (k : Nat) (l : List UInt8) (hb : BR w B 4080 l) (hp : p < n) (h16 : st.length < 16 ∨ findS st p ≠ none) :
  Calls Tryz.prog 19 #[.pointer (some ⟨gx, 0, none⟩), .int .i64 (p : Int), .slice B 4080 k] w fun e w' => e = .returned (.int .i64 0) ∧ SJ w0 w' z n bl gj T now c recs V im ∧ XG w0 w' z n gx (insS p l st) T U ∧ Off U w w' := by
 obtain ⟨D, P, A, h1, h2, h3, h4, r⟩ := h.ex
 have hpp : P.pages ≤ 4096 := by have := h1.pi.fit; have := h1.pi.d2; omega
 have hl : l.length = 4080 := hb.len
 obtain ⟨e1, e2⟩ := aset_ok (P := P) (A := A) (X := ⟨st, false⟩) rfl h4 (p := p) (by omega) hl h16
 refine (Set_at h1 hx.xz (p : Int) B 4080 k l hb (by omega) (by omega) hx.ok.most).mono ?_
 rw [e1, e2]
 rintro e w' ⟨rfl, a1, a2, a3⟩
 exact ⟨rfl, ⟨D, P, A, a1, h2, h3, h4, r⟩, ⟨a2, hx.ok.ins hp hl h16⟩, a3⟩
set_option maxRecDepth 100000 in
theorem Done_sj (h : SJ w0 w z n bl gj T now c recs V im) (hx : XG w0 w z n gx st T U) (tx : Int) (t1 : 0 ≤ tx) (t2 : tx ≤ 4611686018427387904) (hV : V + (st.length + 1) ≤ bl) (hr : recs.length ≤ 1000000) (him : im.length ≤ 4096) (hc : c ≤ 800000) :
  Calls Tryz.prog 15 #[.pointer (some ⟨gx, 0, none⟩), .int .i64 tx] w fun e w' => e = .returned (.tuple #[.int .i64 ((recs ++ if chgL im now st = [] then [] else [(⟨1, tx, chgL im now st⟩ : Rec)]).length : Int), .int .i64 0]) ∧
   ∃ T', SJ w0 w' z n bl gj T' (nowD now st) (c + 32) (recs ++ if chgL im now st = [] then [] else [⟨1, tx, chgL im now st⟩]) (V + (st.length + 1)) (markF (chgL im now st) im) ∧ XZ w' w0.heap.size z.ga gx ⟨st, true⟩ T' U ∧ Off (TU T U) w w' ∧ ∀ k, T' k → T k ∨ w.heap.size ≤ k := by
 obtain ⟨D, P, A, h1, h2, h3, h4, h5, h6, h7, h8, h9, h10⟩ := h.ex
 subst h5
 have hpp := pool_pages h1
 have hpl := h2.lc.pl
 have hla := h2.lc.la
 have hmost := hx.ok.most
 obtain ⟨s1, s2, s3, s4, s5, s6⟩ := SameG.done D P A ⟨st, false⟩ tx
 obtain ⟨E', P', q1, q2, q3, q4⟩ := h2.done (A := A) (X := ⟨st, false⟩) (by rw [h3]; exact hx.ok) rfl h4 t1 t2 (by rw [h7]; exact hV) hr
 refine (Done_at h1 hx.xz tx hmost (fun e he => by have := (hx.ok.ok e he).1; omega) (by omega) (by omega) (by omega) him).mono ?_
 rintro e w' ⟨rfl, T', a1, a2, a3, a4⟩
 rw [q1] at a1 a2 s1 s4 s5 s6 ⊢
 dsimp only at a1 a2 s1 s4 s5 s6
 refine ⟨rfl, T', ⟨_, _, _, a1, q2, q3.trans h3, h4, rfl, ?_, s5.trans h7, s4.trans h8, s6.trans h9, s1.trans h10⟩, a2, a3, a4⟩
 have q4' : P'.count ≤ P.count + 2 * st.length := q4
 omega
set_option maxRecDepth 100000 in
theorem Flush_az {D : EnS} {P : PoS} {A : AtS} (h : AZ w0 w z D P A T) (hpd : D.d.pending.length ≤ 900000) :
  Calls Tryz.prog 41 #[.pointer (some ⟨D.gj, 0, none⟩)] w fun e w' => e = .returned (.int .i64 (fluE D.d D.j)) ∧ ∃ T', AZ w0 w' z { D with d := fluD D.d D.j, j := fluJ D.d D.j } P A T' ∧ Mv T T' w w' := by
 obtain ⟨F, tv, mb, q, im, h1, h2, h3, h4, h5, h6, h7, h8, h9⟩ := h.ex
 obtain ⟨w1, e1, hj, hnx⟩ := h1.dk.next
 obtain ⟨g1, g2, g3, _⟩ := fluJ_shape D.d D.j
 refine (JFlush_js hj hpd).mono ?_
 rintro e w' ⟨rfl, F', j1, j2⟩
 have hx := h1.env (hnx _ _ _ _ j1 j2) j2 (fluD_blocks _ _)
 obtain ⟨T', ha, hm, _⟩ := h.step h2 h3 h4 h5 h6 h7 h9 (D' := { D with d := fluD D.d D.j, j := fluJ D.d D.j }) ⟨rfl, rfl, rfl, g1, g2, g3⟩ hx (j2.1.mono (fun k _ e => .inl e)) (fun k e => by
  rcases e with e | e
  ·exact (j2.2 k e).imp .inl id
  ·exact .inl (.inr e))
 exact ⟨rfl, T', ha, hm⟩
set_option maxRecDepth 100000 in
theorem Flush_sj (h : SJ w0 w z n bl gj T now c recs V im) (hc : c ≤ 900000) :
  Calls Tryz.prog 41 #[.pointer (some ⟨gj, 0, none⟩)] w fun e w' => e = .returned (.int .i64 0) ∧ ∃ T', SF w0 w' z n bl gj T' now c recs V im ∧ Mv T T' w w' := by
 obtain ⟨D, P, A, h1, h2, h3, h4, h5, h6, h7, h8, h9, rfl⟩ := h.ex
 have hpl := h2.lc.pl
 obtain ⟨g1, g2, g3, _⟩ := fluJ_shape D.d D.j
 obtain ⟨q1, q2, q3⟩ := h2.flush
 refine (Flush_az h1 (by omega)).mono ?_
 rw [q1]
 rintro e w' ⟨rfl, T', a1, a2⟩
 exact ⟨rfl, T', ⟨_, _, A, a1, q2, h3, h4, h5, h6, g2.trans h7, g1.trans h8, g3.trans h9, rfl, q3⟩, a2⟩
set_option maxRecDepth 100000 in
theorem Scan_sf (h : SF w0 w z n bl gj T now c recs V im) (hc : c ≤ 900000) :
  Calls Tryz.prog 43 #[.pointer (some ⟨z.gd, 0, none⟩), .int .i64 0, .int .i64 (bl : Int), .int .i64 1, .int .i64 0, .int .i64 1] w fun e w' => ∃ v p1 p2, e = .returned (.tuple #[v, .int .i64 p1, .int .i64 p2, .int .i64 0]) ∧ ORW w' w.heap.size v recs ∧ Below w.heap.size w w' := by
 obtain ⟨D, P, A, h1, h2, h3, h4, h5, h6, rfl, h8, h9, h10, h11⟩ := h.ex
 obtain ⟨F, tv, mb, q, im, k1, _⟩ := h1.ex
 have hjs := k1.dk.js h1.bel
 obtain ⟨S', hds, _⟩ := hjs.ds
 have hji := hjs.ji
 have hpl := h2.lc.pl
 have hfb := h2.ti.fb
 have hnb := h2.ti.nb
 have hsc := h2.scan h11
 rw [h8, h9] at hsc
 have hm : mayB D.d.blocks.length (0 : Nat) (D.j.bl : Nat) (1 : Nat) (0 : Nat) (1 : Nat) = true := by
  have b1 := hji.b1
  have b2 := hji.b2
  unfold mayB
  simp only [Bool.and_eq_true, decide_eq_true_eq]
  refine ⟨?_, ?_, ?_, ?_, ?_, ?_, ?_, ?_, ?_, ?_⟩ <;> omega
 refine (Scan_js 0 D.j.bl 1 0 1 hds hm h2.lc.easy.1 (by omega)).mono ?_
 rintro e w' ⟨v, rfl, hv, hb⟩
 rw [hsc] at hv
 exact ⟨v, _, _, rfl, hv, hb⟩
end
end Go.Proofs.YtnkeclpgpiogoaaGreat

/-! BtD -/
namespace Go.Proofs.YtnkeclpgpiogoaaGreat
open Go Go.RowKit Go.Maps
set_option maxRecDepth 100000 in
theorem pay1_len : (payT 1 []).length = 4080 := payT_len 1 []
set_option maxRecDepth 100000 in
theorem made_at (seed : Int) (n i : Nat) (hi : i < n) : (madeL seed n).getD i 0 = UInt8.ofNat (madeX seed (i + 1) / 1099511627776 % 256).toNat := by
 unfold madeL
 rw [List.getD_eq_getElem?_getD, List.getElem?_map, List.getElem?_range hi]
 rfl
set_option maxRecDepth 100000 in
theorem pay1_0 : (payT 1 []).getD 0 0 ≠ 0 := by
 rw [show payT 1 [] = madeL 1 4080 from rfl, made_at 1 4080 0 (by omega)]
 decide
set_option maxRecDepth 100000 in
theorem pay1_7 : (payT 1 []).getD 7 0 ≠ 0 := by
 rw [show payT 1 [] = madeL 1 4080 from rfl, made_at 1 4080 7 (by omega)]
 decide
set_option maxRecDepth 100000 in
theorem pay1_zP : zP ≠ payT 1 [] := fun e => by
 have h := pay1_0
 rw [← e] at h
 exact h (by unfold zP; rw [List.getD_eq_getElem?_getD, List.getElem?_replicate_of_lt (by omega)]; rfl)
set_option maxRecDepth 100000 in
theorem pay17 : payT 1 [7] = (payT 1 []).set 7 0 := rfl
set_option maxRecDepth 100000 in
theorem pay17_ne : payT 1 [] ≠ payT 1 [7] := fun e => by
 have h := pay1_7
 rw [e, pay17] at h
 refine h ?_
 rw [List.getD_eq_getElem?_getD, List.getElem?_set_self (by rw [pay1_len]; omega)]
 rfl
set_option maxRecDepth 100000 in
theorem unl_one (a : List UInt8) (ha : a.length = 4080) (h7 : a.getD 7 0 ≠ 0) : unlTo a (a.set 7 0) 4080 = [7] := by
 have e : unlTo a (a.set 7 0) 4080 = (List.range 4080).filter (fun i => i == 7) := by
  unfold unlTo
  refine List.filter_congr fun i hi => ?_
  have hi := List.mem_range.1 hi
  by_cases h : i = 7
  ·subst h
   have h2 : (a.set 7 0).getD 7 0 = 0 := by
    rw [List.getD_eq_getElem?_getD, List.getElem?_set_self (by omega)]
    rfl
   rw [h2]
   simpa using h7
  ·have h2 : (a.set 7 0).getD i 0 = a.getD i 0 := by
    rw [List.getD_eq_getElem?_getD, List.getElem?_set_ne (fun e => h e.symm), ← List.getD_eq_getElem?_getD]
   rw [h2, bne_self_eq_false]
   exact (beq_false_of_ne h).symm
 rw [e]
 decide +kernel
set_option maxRecDepth 100000 in
theorem piece_one (a : List UInt8) (ha : a.length = 4080) (h7 : a.getD 7 0 ≠ 0) : (diffL a (a.set 7 0)).length = 1 := by
 unfold diffL dst
 rw [unl_one a ha h7]
 rfl
structure YK (w : World) (z : Wh) (gj g : Nat) (T : Nat → Prop) : Prop where
 yb : YB w g (.pointer (some ⟨z.gd, 0, none⟩)) (.pointer (some ⟨gj, 0, none⟩)) (.pointer (some ⟨z.gp, 0, none⟩)) (.pointer (some ⟨z.ga, 0, none⟩))
 nt : ¬ T g
section
variable {w w' : World} {z : Wh} {gj g : Nat} {T T' S : Nat → Prop}
set_option maxRecDepth 100000 in
theorem YK.below (h : YK w z gj g T) (hb : Below w.heap.size w w') : YK w' z gj g T := ⟨h.yb.below hb, h.nt⟩
set_option maxRecDepth 100000 in
theorem YK.off (h : YK w z gj g T) (ho : Off S w w') (hs : ¬ S g) (hT : ∀ k, T' k → T k ∨ w.heap.size ≤ k) : YK w' z gj g T' := ⟨h.yb.off ho hs, fun e => (hT g e).elim h.nt (fun e => by have := h.yb.lt; omega)⟩
set_option maxRecDepth 100000 in
theorem YK.mv (h : YK w z gj g T) (hm : Mv T T' w w') : YK w' z gj g T' := h.off hm.1 h.nt hm.2
end
set_option maxRecDepth 100000 in
set_option maxRecDepth 100000 in
set_option maxRecDepth 100000 in
set_option maxRecDepth 100000 in
set_option maxRecDepth 100000 in
set_option maxRecDepth 100000 in
set_option maxRecDepth 100000 in
theorem YK.new {w0 w : World} {z : Wh} {n bl gj c V : Nat} {T : Nat → Prop} {now : Nat → List UInt8} {recs : List Rec} {im : List (Nat × Unit)} (h : SJ w0 w z n bl gj T now c recs V im) :
  YK (w.alloc (.cells #[.pointer (some ⟨z.gd, 0, none⟩), .pointer (some ⟨gj, 0, none⟩), .pointer (some ⟨z.gp, 0, none⟩), .pointer (some ⟨z.ga, 0, none⟩)] 53)) z gj w.heap.size T :=
 ⟨heap_alloc_new _ _, fun e => by have := (h.lt e).2; omega⟩
set_option maxRecDepth 100000 in
theorem st3 (m : List UInt8) : (insS 3 m [] : List (Nat × List UInt8)) = [(3, m)] := rfl
set_option maxRecDepth 100000 in
theorem chg_img (im : List (Nat × Unit)) (now : Nat → List UInt8) (p : Nat) (m : List UInt8) (h : now p ≠ m) (hi : findS im p = none) : chgL im now [(p, m)] = [((p : Int), m, [])] := by
 unfold chgL
 rw [if_neg h]
 unfold chg1
 rw [hi]
 rfl
set_option maxRecDepth 100000 in
theorem chg_pcs (im : List (Nat × Unit)) (now : Nat → List UInt8) (p : Nat) (m : List UInt8) (h : now p ≠ m) (hi : findS im p ≠ none) : chgL im now [(p, m)] = [((p : Int), [], diffL (now p) m)] := by
 unfold chgL
 rw [if_neg h]
 unfold chg1
 rw [if_pos (Option.isSome_iff_ne_none.2 hi)]
 rfl
set_option maxRecDepth 100000 in
theorem mark_img (p : Nat) (m : List UInt8) (im : List (Nat × Unit)) (h : 0 < m.length) : markF [((p : Int), m, [])] im = insS p () im := by
 unfold markF
 rw [if_pos h]
 rfl
set_option maxRecDepth 100000 in
theorem mark_pcs (p : Nat) (ps : List Pc) (im : List (Nat × Unit)) : markF [((p : Int), [], ps)] im = im := rfl
set_option maxRecDepth 100000 in
theorem nowD_one (now : Nat → List UInt8) (p : Nat) (m : List UInt8) : nowD now [(p, m)] p = m := by
 unfold nowD
 have : findS [(p, m)] p = some m := by simp [findS]
 rw [this]
 rfl
set_option maxRecDepth 100000 in
theorem piece17 : (diffL (payT 1 []) (payT 1 [7])).length = 1 := by
 rw [pay17]
 exact piece_one _ pay1_len pay1_7
def recsA (m : List UInt8) (ps : List Pc) : List Rec := [⟨1, 1, [(3, m, [])]⟩, ⟨1, 1, [(3, [], ps)]⟩]
set_option maxRecDepth 100000 in
theorem recsA_rows {w : World} {base : Nat} {v : Value} {m : List UInt8} {ps : List Pc} (h : ORW w base v (recsA m ps)) (hm : m.length = 4080) (hp : ps.length = 1) :
  ∃ gr o cr g1 o1 d1 g2 o2 d2 B1 b1 Q2 q2, v = .slice (some ⟨gr, o, none⟩) 2 cr ∧ w.cell? ⟨gr, o + 0 * 3 + 2, none⟩ = some (.slice (some ⟨g1, o1, none⟩) 1 d1) ∧ w.cell? ⟨gr, o + 1 * 3 + 2, none⟩ = some (.slice (some ⟨g2, o2, none⟩) 1 d2) ∧
   w.cell? ⟨g1, o1 + 0 * 3 + 1, none⟩ = some (.slice B1 4080 b1) ∧ w.cell? ⟨g2, o2 + 0 * 3 + 1 + 1, none⟩ = some (.slice Q2 1 q2) := by
 obtain ⟨Ar, cr, rfl, hrw, _, _⟩ := h.rw
 obtain ⟨gr, o, D1, d1, rfl, _, _, c1, k1, _, _⟩ := hrw.at_ (i := 0) (by simp [recsA])
 obtain ⟨gr', o', D2, d2, er, _, _, c2, k2, _, _⟩ := hrw.at_ (i := 1) (by simp [recsA])
 injection er with er
 injection er with e1 e2 _
 subst e1 e2
 obtain ⟨g1, o1, B1, b1, Q1, q1, rfl, _, m1, n1, _⟩ := k1.at_ (i := 0) (by simp [recsA])
 obtain ⟨g2, o2, B2, b2, Q2, q2, rfl, _, m2, n2, _⟩ := k2.at_ (i := 0) (by simp [recsA])
 have e1 : (((recsA m ps).getD 0 rec0).cs.getD 0 ch0).2.1 = m := rfl
 have e2 : (((recsA m ps).getD 1 rec0).cs.getD 0 ch0).2.2 = ps := rfl
 rw [e1, hm] at m1
 rw [e2, hp] at n2
 exact ⟨gr, o, cr, g1, o1, d1, g2, o2, d2, B1, b1, Q2, q2, rfl, c1, c2, m1, n2⟩
set_option maxRecDepth 100000 in
set_option maxHeartbeats 2000000 in
theorem awake10_any (w : World) : Calls Tryz.prog 31 #[] w fun e w' => e = .returned (.bool true) ∧ Below w.heap.size w w' := by
 have HM := Lib.hid (made10_any 4 w w (gr_refl w) (by omega) (by omega))
 go_enter Tryz.func31, Tryz.ntmps31
 go_wp2_with fail
 refine HM.out.mono ?_
 rintro e w1 ⟨z, gj, gb, T, rfl, haz, hb1⟩
 have hs0 := SJ.new10 haz (by omega) (by omega)
 have hyk := YK.new hs0
 have hs1 := hs0.below (gr_alloc (gr_refl w1) (.cells #[.pointer (some ⟨z.gd, 0, none⟩), .pointer (some ⟨gj, 0, none⟩), .pointer (some ⟨z.gp, 0, none⟩), .pointer (some ⟨z.ga, 0, none⟩)] 53))
 have HB := Lib.hid (Begin_sj hs1)
 have HYK := Lib.hid hyk
 clear haz hb1 hs0 hs1 hyk
 unfold yV
 go_wp2_with fail
 generalize w1.alloc (.cells #[.pointer (some ⟨z.gd, 0, none⟩), .pointer (some ⟨gj, 0, none⟩), .pointer (some ⟨z.gp, 0, none⟩), .pointer (some ⟨z.ga, 0, none⟩)] 53) = wa at *
 generalize w1.heap.size = g at *
 refine HB.out.mono ?_
 rintro e w2 ⟨gx, U, rfl, hs2, hx2, hb2, hgx2, hU2⟩
 have HY2 := Lib.hid (HYK.out.below hb2)
 have HUG : Hid (¬ U g) := Lib.hid (fun e => by have := hU2 g e; have := HYK.out.yb.lt; omega)
 have HP := Lib.hid (payload10_any 1 none 0 0 [] w2 (IR.none_ _ _) (by omega))
 have HS2 := Lib.hid hs2
 have HX2 := Lib.hid hx2
 clear hs2 hx2 hb2 hgx2 hU2
 go_wp2_with fail
 refine HP.out.mono ?_
 rintro e w3 ⟨rfl, hob, hb3⟩
 have HSet := Lib.hid (Set_sj (HS2.out.below hb3) (HX2.out.below hb3) 3 _ 4080 _ (ob_br hob (payT_len _ _)) (by omega) (.inl (by simp)))
 have HY3 := Lib.hid (HY2.out.below hb3)
 clear hob hb3
 go_wp2_with fail
 refine HSet.out.mono ?_
 rintro e w4 ⟨rfl, hs4, hx4, ho4⟩
 rw [st3] at hx4
 have HY4 := Lib.hid (HY3.out.off ho4 HUG.out (fun _ e => .inl e))
 have HD := Lib.hid (Done_sj hs4 hx4 1 (by omega) (by omega) (by simp) (by simp) (by simp) (by omega))
 rw [chg_img [] (fun _ => zP) 3 (payT 1 []) pay1_zP rfl, mark_img _ _ _ (by rw [pay1_len]; omega), if_neg (by simp), List.nil_append, show (insS 3 () [] : List (Nat × Unit)) = [(3, ())] from rfl, show ((([⟨1, 1, [((3 : Nat), payT 1 [], [])]⟩] : List Rec).length : Nat) : Int) = 1 from rfl] at HD
 clear hs4 hx4 ho4
 go_wp2_with fail
 refine HD.out.mono ?_
 rintro e w5 ⟨rfl, T5, hs5, hx5, ho5, hT5⟩
 have HY5 := Lib.hid (HY4.out.off ho5 (fun e => e.elim HY4.out.nt HUG.out) hT5)
 obtain ⟨mx, hxb⟩ := hx5.xb
 have hgn : ¬ T5 gx := fun e => by
  obtain ⟨mx, q, x1, x2, x3, x4, x5, x6, x7, x8, x9, x10, x11⟩ := hx5.ex
  exact x8 e
 have HXB := Lib.hid hxb
 have HGN := Lib.hid hgn
 have HGL := Lib.hid hxb.lt
 have HB5 := Lib.hid (Begin_sj hs5)
 clear hs5 hx5 ho5 hT5 hxb hgn
 have y3 := HY5.out.yb.c3
 go_wp2_with fail
 refine HB5.out.mono ?_
 rintro e w6 ⟨gz, U2, rfl, hs6, hx6, hb6, hgz, hU6⟩
 have HY6 := Lib.hid (HY5.out.below hb6)
 have HX6 := Lib.hid (HXB.out.below hb6)
 have HUG2 : Hid (¬ U2 g ∧ ¬ U2 gx) := Lib.hid ⟨fun e => by have := hU6 g e; have := HY5.out.yb.lt; omega, fun e => by have := hU6 gx e; have := HGL.out; omega⟩
 have HP6 := Lib.hid (payload10_any 1 (some ⟨w6.heap.size, 0, none⟩) 1 1 [7] (w6.alloc (.cells #[.int .i64 7] 3)) (IR.litAt w6 3 [7] #[.int .i64 7] w6.heap.size 1 rfl rfl rfl) (by omega))
 have HS6 := Lib.hid (hs6.below (gr_alloc (gr_refl w6) (.cells #[.int .i64 7] 3)))
 have HXZ6 := Lib.hid (hx6.below (gr_alloc (gr_refl w6) (.cells #[.int .i64 7] 3)))
 have HYA := Lib.hid (HY6.out.below (gr_alloc (gr_refl w6) (.cells #[.int .i64 7] 3)))
 have HXA := Lib.hid (HX6.out.below (gr_alloc (gr_refl w6) (.cells #[.int .i64 7] 3)))
 clear hs6 hx6 hb6 hgz hU6 y3
 go_wp2_with fail
 generalize w6.alloc (.cells #[.int .i64 7] 3) = wb at *
 refine HP6.out.mono ?_
 rintro e w7 ⟨rfl, hob, hb7⟩
 have HSet7 := Lib.hid (Set_sj (HS6.out.below hb7) (HXZ6.out.below hb7) 3 _ 4080 _ (ob_br hob (payT_len _ _)) (by omega) (.inl (by simp)))
 have HY7 := Lib.hid (HYA.out.below hb7)
 have HX7 := Lib.hid (HXA.out.below hb7)
 clear hob hb7
 go_wp2_with fail
 refine HSet7.out.mono ?_
 rintro e w8 ⟨rfl, hs8, hx8, ho8⟩
 rw [st3] at hx8
 have HY8 := Lib.hid (HY7.out.off ho8 HUG2.out.1 (fun _ e => .inl e))
 have HX8 := Lib.hid (HX7.out.off ho8 HUG2.out.2)
 have HD8 := Lib.hid (Done_sj hs8 hx8 1 (by omega) (by omega) (by simp) (by simp) (by simp) (by omega))
 rw [chg_pcs [(3, ())] _ 3 (payT 1 [7]) (by rw [nowD_one]; exact pay17_ne) (by decide), mark_pcs, if_neg (by simp), nowD_one, show (([⟨1, 1, [(((3 : Nat) : Int), payT 1 [], [])]⟩] : List Rec) ++ [⟨1, 1, [(((3 : Nat) : Int), [], diffL (payT 1 []) (payT 1 [7]))]⟩]) = recsA (payT 1 []) (diffL (payT 1 []) (payT 1 [7])) from rfl, show (((recsA (payT 1 []) (diffL (payT 1 []) (payT 1 [7]))).length : Nat) : Int) = 2 from rfl] at HD8
 clear hs8 hx8 ho8
 go_wp2_with fail
 refine HD8.out.mono ?_
 rintro e w9 ⟨rfl, T9, hs9, hx9, ho9, hT9⟩
 have HY9 := Lib.hid (HY8.out.off ho9 (fun e => e.elim HY8.out.nt HUG2.out.1) hT9)
 have HX9 := Lib.hid (HX8.out.off ho9 (fun e => e.elim HGN.out HUG2.out.2))
 have HGN9 : Hid (¬ T9 gx) := Lib.hid (fun e => (hT9 gx e).elim HGN.out (fun e => by have := HX8.out.lt; omega))
 have HF := Lib.hid (Flush_sj hs9 (by omega))
 clear hs9 hx9 ho9 hT9
 have y1 := HY9.out.yb.c1
 go_wp2_with fail
 refine HF.out.mono ?_
 rintro e wf ⟨rfl, Tf, hsf, hmf⟩
 have HYF := Lib.hid (HY9.out.mv hmf)
 have HXF := Lib.hid (HX9.out.off hmf.1 HGN9.out)
 have HSF := Lib.hid hsf
 have HSC := Lib.hid (Scan_sf hsf (by omega))
 clear hsf hmf y1
 have y0 := HYF.out.yb.c0
 go_wp2_with fail
 refine HSC.out.mono ?_
 rintro e ws ⟨v, p1, p2, rfl, hv, hbs⟩
 have HYS := Lib.hid (HYF.out.below hbs)
 have hxs := HXF.out.below hbs
 have HSS := Lib.hid (HSF.out.below hbs)
 obtain ⟨gr, o, cr, g1, o1, d1, g2, o2, d2, B1, b1, Q2, q2, rfl, c1, c2, m1, n2⟩ := recsA_rows hv pay1_len piece17
 clear hv hbs
 have HOV := Lib.hid (Over_any hxs)
 clear hxs
 go_wp2_with fail
 refine HOV.out.mono ?_
 rintro e ws2 ⟨rfl, rfl⟩
 have y3 := HYS.out.yb.c3
 have HIM : Hid (Calls Tryz.prog 45 #[.pointer (some ⟨z.ga, 0, none⟩)] ws fun e w' => NewI ws w' e [3]) := Lib.hid (by
  obtain ⟨D, P, A, h1, h2, h3, h4, h5, _⟩ := HSS.out.ex
  have := Imaged_at h1 (by rw [h5]; decide)
  rw [h5] at this
  exact this)
 go_wp2_with fail
 refine HIM.out.mono ?_
 rintro e wi ⟨Bi, ci, rfl, hri, hbi⟩
 have HIR := Lib.hid (IR.of_own hri)
 have HBI := Lib.hid hbi
 clear hri hbi y3
 go_wp2_with fail
 refine (SameInts_any Bi (some ⟨wi.heap.size, 0, none⟩) 1 1 ci 1 [3] [3] _ (HIR.out.below (gr_alloc (gr_refl wi) _)) (IR.litAt wi 3 [3] #[.int .i64 3] wi.heap.size 1 rfl rfl rfl) (by omega) (by omega)).mono ?_
 rintro e we ⟨rfl, hbe⟩
 rw [show (([3] : List Int) == [3]) = true from rfl]
 have HFB := Lib.hid (gr_trans (HSS.out.sj.bel) (gr_trans HBI.out (gr_trans (gr_alloc (gr_refl wi) (.cells #[.int .i64 3] 3)) hbe)))
 clear hbe
 go_wp2_with fail
 go_ret
 exact ⟨rfl, HFB.out⟩
end Go.Proofs.YtnkeclpgpiogoaaGreat

/-! BtE -/
namespace Go.Proofs.YtnkeclpgpiogoaaGreat
open Go Go.RowKit Go.Maps
def PgV (w : World) (S : Nat → Prop) (v : Value) (l : List UInt8) : Prop := ∃ g o c, v = .slice (some ⟨g, o, none⟩) 4080 c ∧ BR w (some ⟨g, o, none⟩) 4080 l ∧ ¬ S g ∧ ∃ cs fr, w.heap[g]? = some (.cells cs 5 fr)
def NoB (w : World) (k : Nat) : Prop := ∀ cs fr, w.heap[k]? ≠ some (.cells cs 5 fr)
def PgL (w : World) (S : Nat → Prop) (n : Nat) (vals : List Value) (now : Nat → List UInt8) : Prop := vals.length = n ∧ ∀ j, j < n → ∃ v, vals[j]? = some v ∧ PgV w S v (now j)
section
variable {w w' : World} {S S' : Nat → Prop} {v : Value} {l : List UInt8} {n : Nat} {vals : List Value} {now : Nat → List UInt8}
set_option maxRecDepth 100000 in
theorem PgV.len (h : PgV w S v l) : l.length = 4080 := by
 obtain ⟨g, o, c, rfl, h1, _⟩ := h
 exact h1.len
set_option maxRecDepth 100000 in
set_option maxRecDepth 100000 in
theorem PgV.off {R : Nat → Prop} (h : PgV w S v l) (ho : Off R w w') (hR : ∀ k, R k → S k ∨ NoB w k) (hT : ∀ k, S' k → S k ∨ w.heap.size ≤ k) : PgV w' S' v l := by
 obtain ⟨g, o, c, rfl, h1, h2, cs, fr, h3⟩ := h
 have hl : g < w.heap.size := (Array.getElem?_eq_some_iff.1 h3).1
 have hn : ¬ R g := fun hs => (hR g hs).elim h2 (fun e => e cs fr h3)
 exact ⟨g, o, c, rfl, h1.off ho (fun ad e _ hs => by injection e with e; subst e; exact hn hs), fun e => (hT g e).elim h2 (fun e => by omega), cs, fr, (ho.block g hl hn).trans h3⟩
set_option maxRecDepth 100000 in
theorem PgV.below (h : PgV w S v l) (hb : Below w.heap.size w w') : PgV w' S v l := h.off (R := fun _ => False) (Off.of_below hb) (fun _ e => False.elim e) (fun _ e => .inl e)
set_option maxRecDepth 100000 in
theorem PgV.of_ob {base : Nat} (h : OB w base v l) (hl : l.length = 4080) (hS : ∀ k, base ≤ k → ¬ S k) : PgV w S v l := by
 obtain ⟨g, c, rfl⟩ : ∃ g c, v = .slice (some ⟨g, 0, none⟩) 4080 c := by
  rcases h.2 with ⟨e0, e1⟩ | ⟨g, cap, cur, rfl, hb, hg, r⟩
  ·omega
  ·exact ⟨g, cap, by rw [hl]⟩
 obtain ⟨cur, hg, _⟩ := h.cur hl
 exact ⟨g, 0, c, rfl, ob_br h hl, hS g (h.lt g rfl).1, cur, _, hg⟩
set_option maxRecDepth 100000 in
theorem PgL.off {R : Nat → Prop} (h : PgL w S n vals now) (ho : Off R w w') (hR : ∀ k, R k → S k ∨ NoB w k) (hT : ∀ k, S' k → S k ∨ w.heap.size ≤ k) : PgL w' S' n vals now :=
 ⟨h.1, fun j hj => by
  obtain ⟨v, h1, h2⟩ := h.2 j hj
  exact ⟨v, h1, h2.off ho hR hT⟩⟩
set_option maxRecDepth 100000 in
theorem PgL.below (h : PgL w S n vals now) (hb : Below w.heap.size w w') : PgL w' S n vals now := h.off (R := fun _ => False) (Off.of_below hb) (fun _ e => False.elim e) (fun _ e => .inl e)
set_option maxRecDepth 100000 in
theorem PgL.set (h : PgL w S n vals now) {p : Nat} {u : Value} {m : List UInt8} (hu : PgV w S u m) : PgL w S n (vals.set p u) (updN now p m) := by
 refine ⟨by rw [List.length_set]; exact h.1, fun j hj => ?_⟩
 unfold updN
 by_cases e : j = p
 ·subst e
  rw [if_pos rfl, List.getElem?_set_self (by rw [h.1]; exact hj)]
  exact ⟨u, rfl, hu⟩
 ·rw [if_neg e, List.getElem?_set_ne (fun e2 => e e2.symm)]
  exact h.2 j hj
end
structure PR2 (w : World) (S : Nat → Prop) (A : Option Addr) (n : Nat) (now : Nat → List UInt8) : Prop where
 ex : ∃ vals g o, A = some ⟨g, o, none⟩ ∧ Rd w 1 A n vals ∧ PgL w S n vals now ∧ ¬ S g ∧ g < w.heap.size
structure PO2 (w : World) (base : Nat) (S : Nat → Prop) (g c n : Nat) (now : Nat → List UInt8) : Prop where
 ex : ∃ vals, w.ownsRow base 35 1 (.slice (some ⟨g, 0, none⟩) n c) n vals ∧ PgL w S n vals now ∧ ¬ S g
section
variable {w w' : World} {S S' : Nat → Prop} {n g c base : Nat} {A : Option Addr} {now : Nat → List UInt8}
set_option maxRecDepth 100000 in
theorem PR2.off {R : Nat → Prop} (h : PR2 w S A n now) (ho : Off R w w') (hR : ∀ k, R k → S k) (hT : ∀ k, S' k → S k ∨ w.heap.size ≤ k) : PR2 w' S' A n now := by
 obtain ⟨vals, g, o, rfl, h1, h2, h3, h4⟩ := h.ex
 exact ⟨vals, g, o, rfl, h1.off ho (fun ad e _ hs => by injection e with e; subst e; exact h3 (hR _ hs)), h2.off ho (fun k e => .inl (hR k e)) hT, fun e => (hT g e).elim h3 (fun e => by omega), Nat.lt_of_lt_of_le h4 ho.size⟩
set_option maxRecDepth 100000 in
theorem PR2.below (h : PR2 w S A n now) (hb : Below w.heap.size w w') : PR2 w' S A n now := h.off (R := fun _ => False) (Off.of_below hb) (fun _ e => False.elim e) (fun _ e => .inl e)
set_option maxRecDepth 100000 in
theorem PR2.at_ (h : PR2 w S A n now) {j : Nat} (hj : j < n) : ∃ g o v, A = some ⟨g, o, none⟩ ∧ w.cell? ⟨g, o + j, none⟩ = some v ∧ PgV w S v (now j) := by
 obtain ⟨vals, g, o, rfl, h1, h2, h3, h4⟩ := h.ex
 obtain ⟨v, e, hv⟩ := h2.2 j hj
 obtain ⟨g2, o2, e2, hc⟩ := h1.plain (by omega) (by omega)
 injection e2 with e2
 injection e2 with e2 e3 _
 subst e2 e3
 exact ⟨g, o, v, rfl, hc j v e, hv⟩
set_option maxRecDepth 100000 in
theorem PR2.len (h : PR2 w S A n now) {j : Nat} (hj : j < n) : (now j).length = 4080 := by
 obtain ⟨g, o, v, _, _, hv⟩ := h.at_ hj
 exact hv.len
set_option maxRecDepth 100000 in
theorem PO2.lt (h : PO2 w base S g c n now) : base ≤ g ∧ g < w.heap.size := by
 obtain ⟨vals, h1, h2, h3⟩ := h.ex
 exact h1.lt g rfl
set_option maxRecDepth 100000 in
theorem PO2.off {R : Nat → Prop} (h : PO2 w base S g c n now) (ho : Off R w w') (hR : ∀ k, R k → S k) (hT : ∀ k, S' k → S k ∨ w.heap.size ≤ k) : PO2 w' base S' g c n now := by
 obtain ⟨vals, h1, h2, h3⟩ := h.ex
 have hg := (h1.lt g rfl).2
 exact ⟨vals, ownsRow_off h1 ho (fun k hk hs => by injection hk with hk; subst hk; exact h3 (hR _ hs)), h2.off ho (fun k e => .inl (hR k e)) hT, fun e => (hT g e).elim h3 (fun e => by omega)⟩
set_option maxRecDepth 100000 in
theorem PO2.below (h : PO2 w base S g c n now) (hb : Below w.heap.size w w') : PO2 w' base S g c n now := h.off (R := fun _ => False) (Off.of_below hb) (fun _ e => False.elim e) (fun _ e => .inl e)
set_option maxRecDepth 100000 in
theorem PO2.cur (h : PO2 w base S g c n now) : ∃ cur : Array Value, w.heap[g]? = some (.cells cur 35 (0, 0)) ∧ n ≤ c ∧ c ≤ maxLen ∧ cur.size = c ∧ PgL w S n (cur.toList.take n) now := by
 obtain ⟨vals, h1, h2, h3⟩ := h.ex
 rcases h1.2 with ⟨e, _⟩ | ⟨g', cap', cur, e, hb, hg, hnc, hm, hcu, ht⟩
 ·cases e
 ·injection e with e1 e2 e3
  injection e1 with e1
  injection e1 with e1
  subst e1 e3
  refine ⟨cur, hg, hnc, hm, by simpa using hcu, ?_⟩
  rw [Nat.mul_one] at ht
  rw [ht]
  exact h2
set_option maxRecDepth 100000 in
set_option maxRecDepth 100000 in
theorem PO2.put (h : PO2 w base S g c n now) {p : Nat} {u : Value} {m : List UInt8} (hu : PgV w S u m) : PO2 (w.setCell ⟨g, p, none⟩ u) base S g c n (updN now p m) ∧ Off (fun k => k = g) w (w.setCell ⟨g, p, none⟩ u) := by
 have ho : Off (fun k => k = g) w (w.setCell ⟨g, p, none⟩ u) := (Off.refl (fun k => k = g) w).setCell (S := fun k => k = g) _ rfl
 obtain ⟨cur, hg, hnc, hm, hcs, hpl⟩ := h.cur
 have hno : ∀ k, k = g → S k ∨ NoB w k := fun k e => .inr (fun cs fr h2 => by
  subst e
  rw [hg] at h2
  injection h2 with h2
  injection h2 with _ h2 _
  revert h2
  decide)
 obtain ⟨vals, h1, h2, h3⟩ := h.ex
 have hb := (h1.lt g rfl).1
 have hpl2 := (hpl.set hu (p := p)).off ho hno (fun _ e => .inl e)
 refine ⟨⟨(cur.toList.take n).set p u, ⟨by rw [hpl2.1, Nat.mul_one], .inr ⟨g, c, cur.setIfInBounds p u, rfl, hb, ?_, hnc, hm, by simpa using hcs, ?_⟩⟩, hpl2, h3⟩, ho⟩
 ·simp only [World.setCell, Array.getElem?_modify, if_pos, hg]
  simp
 ·rw [Nat.mul_one, Array.toList_setIfInBounds, List.take_set]
end
end Go.Proofs.YtnkeclpgpiogoaaGreat

/-! BtF -/
namespace Go.Proofs.YtnkeclpgpiogoaaGreat
open Go Go.RowKit Go.Maps
section
variable {w0 w w' : World} {z : Wh} {n bl gj c V gx : Nat} {T T2 U : Nat → Prop} {nw cur : Nat → List UInt8} {recs : List Rec} {im : List (Nat × Unit)} {A : Option Addr} {st st0 : List (Nat × List UInt8)}
structure StI (w0 w wr : World) (z : Wh) (gx : Nat) (T U : Nat → Prop) (cur : Nat → List UInt8) (g c1 k : Nat) (st : List (Nat × List UInt8)) : Prop where
 xg : XG w0 wr z 20 gx st (fun j => T j ∨ j = g) U
 po : PO2 wr w.heap.size (TU T U) g c1 20 (nowD cur st)
 ou : Off U w wr
 len : st.length ≤ k
set_option maxRecDepth 100000 in
theorem StI.below {wr : World} {g c1 k : Nat} (h : StI w0 w wr z gx T U cur g c1 k st) (hb : Below wr.heap.size wr w') : StI w0 w w' z gx T U cur g c1 k st := ⟨h.xg.below hb, h.po.below hb, h.ou.trans (Off.of_below hb), h.len⟩
set_option maxRecDepth 100000 in
theorem StI.put {wr w2 : World} {g c1 k p g2 c2 : Nat} {l : List UInt8} (hTU : ∀ k, TU T U k → k < w.heap.size) (h : StI w0 w wr z gx T U cur g c1 k st) (hx : XG w0 w2 z 20 gx (insS p l st) (fun j => T j ∨ j = g) U) (ho : Off U wr w2) (hob : OB wr w.heap.size (.slice (some ⟨g2, 0, none⟩) 4080 c2) l) (hl : l.length = 4080) :
  StI w0 w (w2.setCell ⟨g, p, none⟩ (.slice (some ⟨g2, 0, none⟩) 4080 c2)) z gx T U cur g c1 (k + 1) (insS p l st) := by
 have hv : PgV wr (TU T U) (.slice (some ⟨g2, 0, none⟩) 4080 c2) l := PgV.of_ob hob hl (fun k hk e => by have := hTU k e; omega)
 have hv2 := hv.off ho (fun k e => .inl (.inr e)) (fun _ e => .inl e)
 have hp2 := h.po.off ho (fun k e => .inr e) (fun _ e => .inl e)
 obtain ⟨q1, q2⟩ := hp2.put (p := p) hv2
 have hgg := (h.po.lt).1
 refine ⟨⟨hx.xz.gturn q2 (fun k e e2 => ?_), hx.ok⟩, by rw [nowD_ins]; exact q1, (h.ou.trans ho).chain q2 (fun j e => .inr (by rw [e]; exact hgg)), ?_⟩
 ·have := hTU k (.inr e)
  omega
 ·have := ins_len (p := p) (m := l) h.xg.ok
  have := h.len
  omega
end
end Go.Proofs.YtnkeclpgpiogoaaGreat

/-! PlH -/
namespace Go.Proofs.YtnkeclpgpiogoaaGreat
open Go.RowKit
def redoC (pg : Nat → List UInt8) (c : Ch) : Option (Nat → List UInt8) :=
 if 0 < c.2.1.length then some (updN pg c.1.toNat c.2.1) else (applyL (pg c.1.toNat) c.2.2).map (updN pg c.1.toNat)
def redoCs : List Ch → (Nat → List UInt8) → Option (Nat → List UInt8)
 | [], pg => some pg
 | c :: r, pg => (redoC pg c).bind (redoCs r)
def redoL : List Rec → (Nat → List UInt8) → Option (Nat → List UInt8)
 | [], pg => some pg
 | r :: rs, pg => (redoCs r.cs pg).bind (redoL rs)
def inM (im : List (Nat × Unit)) (p : Nat) : Bool := (findS im p).isSome
def mixN (im : List (Nat × Unit)) (now any : Nat → List UInt8) (p : Nat) : List UInt8 := if inM im p then now p else any p
end Go.Proofs.YtnkeclpgpiogoaaGreat

/-! BtG -/
namespace Go.Proofs.YtnkeclpgpiogoaaGreat
open Go Go.RowKit Go.Maps
def RX (w : World) (base : Nat) (A : Option Addr) (n : Nat) (rs : List Rec) : Prop :=
 ∃ us : List (Int × Int × Value), Rd w 3 A n (rcs us) ∧ us.length = rs.length ∧ ∀ (i : Nat) (p : Rec) (q : Int × Int × Value), rs[i]? = some p → us[i]? = some q → OCW w base q.2.2 p.cs
section
variable {w w' : World} {base n c : Nat} {A : Option Addr} {rs : List Rec} {cs : List Ch}
set_option maxRecDepth 100000 in
theorem RX.len (h : RX w base A n rs) : rs.length = n := by
 obtain ⟨us, hr, hl, _⟩ := h
 have := hr.1
 rw [rcs_length] at this
 omega
set_option maxRecDepth 100000 in
theorem RX.below (h : RX w base A n rs) (hb : Below w.heap.size w w') : RX w' base A n rs := by
 obtain ⟨us, h1, h2, h3⟩ := h
 exact ⟨us, h1.below hb, h2, fun i p q hp hq => (h3 i p q hp hq).below hb⟩
set_option maxRecDepth 100000 in
theorem RX.at_ (h : RX w base A n rs) {i : Nat} (hi : i < n) : ∃ g o v, A = some ⟨g, o, none⟩ ∧ w.cell? ⟨g, o + i * 3 + 2, none⟩ = some v ∧ OCW w base v (rs.getD i rec0).cs := by
 have hn := h.len
 obtain ⟨us, hr, hl, hv⟩ := h
 obtain ⟨g, o, e, hc⟩ := Rd.plain hr (by omega) (by omega)
 have hip : rs[i]? = some (rs.getD i rec0) := by simp [List.getD, List.getElem?_eq_getElem (show i < rs.length by omega)]
 have hiu : us[i]? = some (us[i]'(by omega)) := List.getElem?_eq_getElem (by omega)
 obtain ⟨c1, c2, c3⟩ := rcs_at us i _ hiu
 exact ⟨g, o, _, e, hc _ _ c3, hv i _ _ hip hiu⟩
set_option maxRecDepth 100000 in
theorem OCW.at_ {D : Option Addr} {m d : Nat} (h : OCW w base (.slice D m d) cs) (hm : cs.length = m) {i : Nat} (hi : i < m) : ∃ g o u1 u2, D = some ⟨g, o, none⟩ ∧ w.cell? ⟨g, o + i * 3, none⟩ = some (.int .i64 (cs.getD i ch0).1) ∧
  w.cell? ⟨g, o + i * 3 + 1, none⟩ = some u1 ∧ w.cell? ⟨g, o + i * 3 + 1 + 1, none⟩ = some u2 ∧ OB w base u1 (cs.getD i ch0).2.1 ∧ VP w u2 (cs.getD i ch0).2.2 := by
 obtain ⟨us, h1, h2, h3⟩ := h
 rw [hm] at h1
 have hr := Rd.of_own h1
 obtain ⟨g, o, e, hc⟩ := Rd.plain hr (by omega) (by omega)
 have hip : cs[i]? = some (cs.getD i ch0) := by simp [List.getD, List.getElem?_eq_getElem (show i < cs.length by omega)]
 have hiu : us[i]? = some (us[i]'(by omega)) := List.getElem?_eq_getElem (by omega)
 obtain ⟨e1, e2, e3⟩ := h3 i _ _ hip hiu
 obtain ⟨c1, c2, c3⟩ := chs_at us i _ hiu
 exact ⟨g, o, _, _, e, by rw [← e1]; exact hc _ _ c1, hc _ _ c2, hc _ _ c3, e2, e3.vp⟩
end
def redoOk (rs : List Rec) : Prop := ∀ r ∈ rs, ∀ c ∈ r.cs, ∃ p : Nat, c.1 = (p : Int) ∧ p < 20 ∧ (0 < c.2.1.length → c.2.1.length = 4080) ∧ ∀ q ∈ c.2.2, q.1 ≤ 9223372036854775807
section
variable {w : World} {S : Nat → Prop} {A B : Option Addr} {pg pgF : Nat → List UInt8} {rs : List Rec} {base n : Nat}
end
end Go.Proofs.YtnkeclpgpiogoaaGreat

/-! BtH -/
namespace Go.Proofs.YtnkeclpgpiogoaaGreat
open Go Go.RowKit Go.Maps
structure Heal (rs : List Rec) (im : List (Nat × Unit)) (now any : Nat → List UInt8) : Prop where
 redo : redoL rs any = some (mixN im now any)
 named : ∀ x, inM im x = rs.any fun r => r.cs.any fun c => decide (c.1.toNat = x)
 ok : redoOk rs
section
variable {rs : List Rec} {im : List (Nat × Unit)} {now any : Nat → List UInt8} {st : List (Nat × List UInt8)}
set_option maxRecDepth 100000 in
theorem Heal.none_ (now any : Nat → List UInt8) : Heal [] [] now any :=
 ⟨by
  show some any = some (mixN [] now any)
  congr 1, fun _ => rfl, fun r hr => by cases hr⟩
end
end Go.Proofs.YtnkeclpgpiogoaaGreat

/-! BtI -/
namespace Go.Proofs.YtnkeclpgpiogoaaGreat
open Go Go.RowKit Go.Maps
section
variable {w0 w w' : World} {z : Wh} {n bl gj c V : Nat} {T : Nat → Prop} {now : Nat → List UInt8} {recs : List Rec} {im : List (Nat × Unit)}
end
end Go.Proofs.YtnkeclpgpiogoaaGreat

/-! BtJ -/
namespace Go.Proofs.YtnkeclpgpiogoaaGreat
open Go Go.RowKit Go.Maps
structure PF (w : World) (base : Nat) (S : Nat → Prop) (g k : Nat) (now : Nat → List UInt8) : Prop where
 ex : ∃ arr : Array Value, w.heap[g]? = some (.cells arr 35 (0, 0)) ∧ arr.size = 20 ∧ ∀ j, j < k → ∃ v, arr[j]? = some v ∧ PgV w S v (now j)
 ns : ¬ S g
 bg : base ≤ g
section
variable {w w' : World} {S S' : Nat → Prop} {base g k : Nat} {now : Nat → List UInt8}
set_option maxRecDepth 100000 in
theorem PF.lt (h : PF w base S g k now) : g < w.heap.size := by
 obtain ⟨arr, h1, _⟩ := h.ex
 exact (Array.getElem?_eq_some_iff.1 h1).1
set_option maxRecDepth 100000 in
theorem PF.off {R : Nat → Prop} (h : PF w base S g k now) (ho : Off R w w') (hR : ∀ j, R j → S j ∨ (NoB w j ∧ j ≠ g)) (hT : ∀ j, S' j → S j ∨ w.heap.size ≤ j) : PF w' base S' g k now := by
 obtain ⟨arr, h1, h2, h3⟩ := h.ex
 have hl := h.lt
 refine ⟨⟨arr, (ho.block g hl (fun e => (hR g e).elim h.ns (fun e => e.2 rfl))).trans h1, h2, fun j hj => ?_⟩, fun e => (hT g e).elim h.ns (fun e => by omega), h.bg⟩
 obtain ⟨v, q1, q2⟩ := h3 j hj
 exact ⟨v, q1, q2.off ho (fun j e => (hR j e).imp id And.left) hT⟩
set_option maxRecDepth 100000 in
theorem PF.below (h : PF w base S g k now) (hb : Below w.heap.size w w') : PF w' base S g k now := h.off (R := fun _ => False) (Off.of_below hb) (fun _ e => False.elim e) (fun _ e => .inl e)
set_option maxRecDepth 100000 in
theorem PF.nob (h : PF w base S g k now) : NoB w g := fun cs fr h2 => by
 obtain ⟨arr, h1, _⟩ := h.ex
 rw [h1] at h2
 injection h2 with h2
 injection h2 with _ h2 _
 revert h2
 decide
set_option maxRecDepth 100000 in
theorem PF.put (h : PF w base S g k now) (hk : k < 20) {u : Value} (hu : PgV w S u (now k)) : PF (w.setCell ⟨g, k, none⟩ u) base S g (k + 1) now ∧ Off (fun j => j = g) w (w.setCell ⟨g, k, none⟩ u) := by
 have ho : Off (fun j => j = g) w (w.setCell ⟨g, k, none⟩ u) := (Off.refl (fun j => j = g) w).setCell (S := fun j => j = g) _ rfl
 have hno : ∀ j, j = g → S j ∨ NoB w j := fun j e => .inr (e ▸ h.nob)
 obtain ⟨arr, h1, h2, h3⟩ := h.ex
 refine ⟨⟨⟨arr.setIfInBounds k u, ?_, by simpa using h2, fun j hj => ?_⟩, h.ns, h.bg⟩, ho⟩
 ·simp only [World.setCell, Array.getElem?_modify, if_pos, h1]
  simp
 ·by_cases e : j = k
  ·subst e
   exact ⟨u, by rw [Array.getElem?_setIfInBounds_self_of_lt (by omega)], hu.off ho hno (fun _ e => .inl e)⟩
  ·obtain ⟨v, q1, q2⟩ := h3 j (by omega)
   exact ⟨v, by rw [Array.getElem?_setIfInBounds_ne (fun e2 => e e2.symm)]; exact q1, q2.off ho hno (fun _ e => .inl e)⟩
set_option maxRecDepth 100000 in
theorem PF.all (h : PF w base S g 20 now) : PO2 w base S g 20 20 now := by
 obtain ⟨arr, h1, h2, h3⟩ := h.ex
 have hl : arr.toList.take (20 * 1) = arr.toList := List.take_of_length_le (by simp [h2])
 refine ⟨arr.toList, ⟨by simp [h2], .inr ⟨g, 20, arr, rfl, h.bg, h1, Nat.le_refl _, by decide, by simpa using h2, hl⟩⟩, ⟨by simp [h2], fun j hj => ?_⟩, h.ns⟩
 obtain ⟨v, q1, q2⟩ := h3 j hj
 exact ⟨v, by rw [Array.getElem?_toList]; exact q1, q2⟩
end
end Go.Proofs.YtnkeclpgpiogoaaGreat

/-! BtK -/
namespace Go.Proofs.YtnkeclpgpiogoaaGreat
open Go Go.RowKit Go.Maps
def anyP (j : Nat) : List UInt8 := madeL ((j : Int) + 5) 4080
section
variable {w w' : World} {base n : Nat} {A : Option Addr} {rs : List Rec} {S S' : Nat → Prop} {now : Nat → List UInt8}
end
section
variable {recs : List Rec} {fr i k : Nat}
end
section
variable {w0 w w' : World} {z : Wh} {n bl gj c V : Nat} {T : Nat → Prop} {now : Nat → List UInt8} {recs : List Rec} {im : List (Nat × Unit)}
set_option maxRecDepth 100000 in
theorem SJ.srt (h : SJ w0 w z n bl gj T now c recs V im) : SortS im := by
 obtain ⟨D, P, A, h1, h2, h3, h4, h5, r⟩ := h.ex
 obtain ⟨F, tv, mb, q, i, _, _, _, _, _, _, _, h8, _⟩ := h1.ex
 rw [← h5]
 exact h8
structure HeP (i fr V : Nat) (recs : List Rec) (im : List (Nat × Unit)) (nw : Nat → List UInt8) : Prop where
 v : V ≤ 4 * i
 r : recs.length ≤ i
 f : fr ≤ recs.length
 ml : im.length ≤ 3 * i
 p : ∀ p, inM im p = true → p < 20
 he : Heal (recs.drop fr) im nw anyP
variable {i fr : Nat} {nw : Nat → List UInt8} {st : List (Nat × List UInt8)}
end
structure HeI (w wr : World) (z : Wh) (gj g0 ga g i fr : Nat) : Prop where
 ex : ∃ T nw recs V im, SJ w wr z 20 120 gj T nw (32 * i) recs V im ∧ HeP i fr V recs im nw ∧ PR2 wr T (some ⟨g, 0, none⟩) 20 nw ∧ PR2 wr T (some ⟨ga, 0, none⟩) 20 anyP ∧ YK wr z gj g0 T
section
variable {w wr w' : World} {z : Wh} {gj g0 ga g i fr : Nat}
set_option maxRecDepth 100000 in
theorem HeI.below (h : HeI w wr z gj g0 ga g i fr) (hb : Below wr.heap.size wr w') : HeI w w' z gj g0 ga g i fr := by
 obtain ⟨T, nw, recs, V, im, h1, h2, h3, h4, h5⟩ := h.ex
 exact ⟨T, nw, recs, V, im, h1.below hb, h2, h3.below hb, h4.below hb, h5.below hb⟩
end
structure HeL (w wr : World) (z : Wh) (gj g0 ga g gq gt c : Nat) (nw told : Nat → List UInt8) (tk : Nat → Bool) (recs : List Rec) (V : Nat) (im : List (Nat × Unit)) : Prop where
 ex : ∃ T, SJ w wr z 20 120 gj T nw c recs V im ∧ PR2 wr T (some ⟨g, 0, none⟩) 20 nw ∧ PR2 wr T (some ⟨ga, 0, none⟩) 20 anyP ∧ PR2 wr T (some ⟨gq, 0, none⟩) 20 told ∧ YK wr z gj g0 T ∧ TB wr gt tk 20 ∧ ¬ T gt
section
variable {w wr wn w' : World} {z : Wh} {gj g0 ga g gq gt c : Nat} {nw told : Nat → List UInt8} {tk : Nat → Bool} {recs : List Rec} {V : Nat} {im : List (Nat × Unit)}
set_option maxRecDepth 100000 in
theorem HeL.below (h : HeL w wr z gj g0 ga g gq gt c nw told tk recs V im) (hb : Below wr.heap.size wr w') : HeL w w' z gj g0 ga g gq gt c nw told tk recs V im := by
 obtain ⟨T, h1, h2, h3, h4, h5, h6, h7⟩ := h.ex
 exact ⟨T, h1.below hb, h2.below hb, h3.below hb, h4.below hb, h5.below hb, h6.below hb, h7⟩
end
end Go.Proofs.YtnkeclpgpiogoaaGreat

/-! BtM -/
namespace Go.Proofs.YtnkeclpgpiogoaaGreat
open Go Go.RowKit Go.Maps
def EnS.out (D : EnS) (S : Nat → Prop) : EnS := { D with j := { D.j with ex := fun k => D.j.ex k ∨ S k } }
section
variable {w0 w w' : World} {z : Wh} {D : EnS} {P : PoS} {A : AtS} {T F S : Nat → Prop} {b0 gd : Nat}
set_option maxRecDepth 100000 in
theorem IsE.exput (h : IsE w b0 gd F D) (hb : Below w.heap.size w w') (hS : ∀ k, S k → w.heap.size ≤ k ∧ k < w'.heap.size) : IsE w' b0 gd F (D.out S) := by
 obtain ⟨w0, rfl, h1, h2, h3⟩ := h
 obtain ⟨Fd, wv, j1, j2, j3, j4, j5, j6, j7⟩ := h1.ex
 refine ⟨w0, rfl, ⟨gr_trans h1.bel hb, fun k e => ?_, Fd, wv, (j1.mono (fun k hk ho => ⟨ho.1, ho.2.1, ho.2.2.1, fun e => ?_⟩)).below hb, j2.below hb, j3.below hb, j4, j5, ⟨j6.b1, j6.b2, j6.f1, j6.p1, j6.u1, j6.c1, j6.l1⟩, j7⟩, (hb.block _ (Array.getElem?_eq_some_iff.1 h2).1).trans h2, h3⟩
 ·exact e.elim (fun e => Nat.lt_of_lt_of_le (h1.xl k e) hb.size) (fun e => (hS k e).2)
 ·exact e.elim ho.2.2.2 (fun e => by have := (hS k e).1; omega)
set_option maxRecDepth 100000 in
theorem PI.exput (h : PI D P) : PI (D.out S) P := ⟨h.fit, h.d2, h.m1, h.m2, h.e2, h.len, h.hd, h.ok, h.nd⟩
set_option maxRecDepth 100000 in
theorem AZ.exput (h : AZ w0 w z D P A T) (hb : Below w.heap.size w w') (hS : ∀ k, S k → w.heap.size ≤ k ∧ k < w'.heap.size) : AZ w0 w' z (D.out S) P A T := by
 obtain ⟨F, tv, mb, q, im, h1, h2, h3, r⟩ := h.ex
 have h1' := h1.below hb
 exact ⟨gr_trans h.bel hb, h.lv.to rfl rfl rfl, F, tv, mb, q, im, ⟨h1.dk.exput hb hS, h1'.pb, h1'.tk, h1'.qf, h1'.pv, h1'.ap, h1'.mp, h1.pi.exput, h1'.bp, h1'.bm⟩, h2.below hb, h3.below hb, r⟩
end
section
variable {E : EnS} {P : PoS} {now : Nat → List UInt8} {recs : List Rec} {U : Nat} {S : Nat → Prop}
set_option maxRecDepth 100000 in
theorem CI.exput (h : CI E P now recs U) : CI (E.out S) P now recs U := by
 obtain ⟨h1, h2⟩ := h
 refine ⟨⟨h1.pi.exput, h1.nb, h1.fb, h1.b0, h1.nl, h1.held, h1.disk⟩, ⟨h2.easy, ?_, h2.la, h2.po, h2.pl⟩⟩
 obtain ⟨fs, cur, g, r⟩ := h2.ex
 exact ⟨fs, cur, ⟨⟨g.ji.b1, g.ji.b2, g.ji.f1, g.ji.p1, g.ji.u1, g.ji.c1, g.ji.l1⟩, g.br, g.wl, g.wr, g.fb, g.log, g.us, g.pl, g.ct, g.old, g.ep⟩, r⟩
end
def SameX (E E' : EnS) : Prop := E'.j.ex = E.j.ex
set_option maxRecDepth 100000 in
theorem SameX.refl (E : EnS) : SameX E E := rfl
set_option maxRecDepth 100000 in
theorem SameX.log (E : EnS) (n : Int) : SameX E (logD E n) := by
 unfold logD
 split
 ·exact rfl
 ·exact fluJ_ex E.d E.j
set_option maxRecDepth 100000 in
theorem SameX.write (D : EnS) (P : PoS) (n : Nat) : SameX D (writeR D P n).1 := by
 unfold writeR
 dsimp only
 split
 ·exact SameX.log ..
 ·split <;> exact SameX.log ..
set_option maxRecDepth 100000 in
theorem SameX.hold (D : EnS) (P : PoS) (f : FrS) : SameX D (holdR D P f).1 := by
 unfold holdR
 split
 ·exact SameX.refl D
 ·split
  ·split <;> exact SameX.write ..
  ·exact SameX.refl D
set_option maxRecDepth 100000 in
theorem SameX.get (D : EnS) (P : PoS) (p : Int) : SameX D (getR D P p).1 := by
 unfold getR
 split
 ·exact SameX.refl D
 ·split
  ·exact SameX.refl D
  ·dsimp only
   split
   ·exact SameX.refl D
   ·split
    ·exact SameX.refl D
    ·exact SameX.hold ..
set_option maxRecDepth 100000 in
theorem SameX.aget (D : EnS) (P : PoS) (A : AtS) (X : AxS) (p : Int) : SameX D (agetR D P A X p).1 := by
 unfold agetR
 split
 ·exact SameX.refl D
 ·split
  ·exact SameX.refl D
  ·exact SameX.get D P p
structure SX (w0 w : World) (z : Wh) (n bl gj : Nat) (T X : Nat → Prop) (now : Nat → List UInt8) (c : Nat) (recs : List Rec) (V : Nat) (im : List (Nat × Unit)) : Prop where
 ex : ∃ D P A, AZ w0 w z D P A T ∧ CI D P now recs V ∧ P.pages = n ∧ A.br = false ∧ A.im = im ∧ P.count ≤ c ∧ D.j.bl = bl ∧ D.j.fi = 0 ∧ D.j.ep = 1 ∧ D.gj = gj ∧ ∀ k, X k → D.j.ex k
section
variable {w0 w w' : World} {z : Wh} {n bl gj c V gx : Nat} {T T2 U S X : Nat → Prop} {now : Nat → List UInt8} {recs : List Rec} {im : List (Nat × Unit)} {st : List (Nat × List UInt8)}
set_option maxRecDepth 100000 in
theorem SX.below (h : SX w0 w z n bl gj T X now c recs V im) (hb : Below w.heap.size w w') : SX w0 w' z n bl gj T X now c recs V im := by
 obtain ⟨D, P, A, h1, r⟩ := h.ex
 exact ⟨D, P, A, h1.below hb, r⟩
set_option maxRecDepth 100000 in
theorem SX.put (h : SX w0 w z n bl gj T X now c recs V im) (hb : Below w.heap.size w w') (hS : ∀ k, S k → w.heap.size ≤ k ∧ k < w'.heap.size) : SX w0 w' z n bl gj T (fun k => X k ∨ S k) now c recs V im := by
 obtain ⟨D, P, A, h1, h2, h3, h4, h5, h6, h7, h8, h9, h10, h11⟩ := h.ex
 exact ⟨D.out S, P, A, h1.exput hb hS, h2.exput, h3, h4, h5, h6, h7, h8, h9, h10, fun k e => e.imp (h11 k) id⟩
end
end Go.Proofs.YtnkeclpgpiogoaaGreat

/-! BtN -/
namespace Go.Proofs.YtnkeclpgpiogoaaGreat
open Go Go.RowKit Go.Maps
section
variable {w0 w wn w' : World} {z : Wh} {n gx : Nat} {T T' T2 T3 U S : Nat → Prop} {st : List (Nat × List UInt8)}
set_option maxRecDepth 100000 in
theorem XG.to (h : XG w0 w z n gx st T2 U) (hm : Mv T T' w wn) (hb : Below wn.heap.size wn w') (hT : ∀ k, T k → T2 k) (h3 : ∀ k, T3 k → T2 k ∨ w.heap.size ≤ k) : XG w0 w' z n gx st T3 U :=
 ⟨h.xz.off (hm.1.trans (Off.of_below hb)) (fun k e => .inl (hT k e)) (fun k e e2 => (h.xz.lt e).2.2.1 (hT k e2)) h3, h.ok⟩
end
structure Ln (w0 w : World) (z : Wh) (gj g0 gx gz c : Nat) (U U2 : Nat → Prop) (sx sz : List (Nat × List UInt8)) (L : List Nat) (T : Nat → Prop) : Prop where
 fs : SX w0 w z 20 120 gj T (fun k => k ∈ L) (fun _ => zP) c [] 0 []
 fx : XG w0 w z 20 gx sx (fun k => T k ∨ k ∈ L) U
 fz : XG w0 w z 20 gz sz (fun k => T k ∨ k ∈ L) U2
 fy : YK w z gj g0 T
 fl : ∀ k ∈ L, ¬ T k ∧ k < w.heap.size ∧ w0.heap.size ≤ k
section
variable {w0 w wn w' : World} {z : Wh} {gj g0 gx gz c c' q : Nat} {T T' U U2 S : Nat → Prop} {sx sz : List (Nat × List UInt8)} {L : List Nat}
set_option maxRecDepth 100000 in
theorem Ln.ob {base k n d : Nat} {l : List UInt8} (h : Ln w0 w z gj g0 gx gz c U U2 sx sz L T) (ho : OB w base (.slice (some ⟨k, 0, none⟩) n d) l) (hk : k ∈ L) (hm : Mv T T' w wn) (hb : Below wn.heap.size wn w') : OB w' base (.slice (some ⟨k, 0, none⟩) n d) l :=
 (ho.off hm.1 (fun j e e2 => by
  injection e with e
  have e : k = j := e
  subst e
  exact (h.fl _ hk).1 e2)).below hb
end
def MP.bg (w0 : World) (z : Wh) (T : Nat → Prop) (a : Nat) : MP := ⟨fun u w => ∃ gx U, u = .pointer (some ⟨gx, 0, none⟩) ∧ XG w0 w z 20 gx [] T U ∧ ∀ k, U k → a ≤ k, fun _ _ _ hb ⟨gx, U, e, h, k⟩ => ⟨gx, U, e, h.below hb, k⟩⟩
end Go.Proofs.YtnkeclpgpiogoaaGreat

/-! BtP -/
namespace Go.Proofs.YtnkeclpgpiogoaaGreat
open Go Go.RowKit Go.Maps
def ZD (D : EnS) : Prop := ∀ b : Nat, b < 140 → readE D.d (b : Int) = 0 ∧ readL D.d (b : Int) = zer
section
variable {D : EnS} {P P' : PoS} {p i : Nat} {m : List UInt8} {f : FrS} {r st : List (Nat × List UInt8)} {acc l : List Ch} {n : Int}
set_option maxRecDepth 100000 in
theorem ZD.of (h1 : D.d.blocks = List.replicate 140 zer) (h2 : D.d.pending = []) (h3 : D.d.down = false) : ZD D := fun b hb => by
 have hr : readE D.d (b : Int) = 0 := by
  unfold readE askE
  rw [h1, List.length_replicate, if_neg (show ¬ ((if (b : Int) < 0 ∨ ((140 : Nat) : Int) ≤ (b : Int) then (2 : Int) else 0) ≠ 0) from fun e => e (if_neg (by omega))), h3]
  rfl
 refine ⟨hr, ?_⟩
 unfold readL
 rw [hr, if_neg (fun e => e rfl), h1, h2, Int.toNat_natCast, lastL_none (fun q hq => by cases hq), List.getD_eq_getElem?_getD, List.getElem?_replicate, if_pos hb]
 rfl
set_option maxRecDepth 100000 in
theorem getR_none (hz : ZD D) (hb : P.base = 120) (hg : P.pages = 20) (hp : p < 20) (hf : findP P p = none) :
  getR D P (p : Int) = holdR D P ⟨p, zP, 0, false, true⟩ ∧ getL D P (p : Int) = if (holdR D P ⟨p, zP, 0, false, true⟩).2.2 ≠ 0 then [] else zP := by
 obtain ⟨r1, r2⟩ := hz (120 + p) (by omega)
 obtain ⟨o1, o2⟩ := open_zer
 have e : getR D P (p : Int) = holdR D P ⟨p, zP, 0, false, true⟩ := by
  unfold getR
  rw [if_neg (show ¬ askP P (p : Int) ≠ 0 from fun e => e (by unfold askP; rw [hg, if_neg (by omega)])), Int.toNat_natCast, hf]
  dsimp only
  rw [hb, r1, if_neg (fun e => e rfl), r2, o1, if_neg (fun e => e rfl), o2]
 refine ⟨e, ?_⟩
 unfold getL
 rw [e, Int.toNat_natCast, hf]
 dsimp only
 rw [hb, r2, o2]
set_option maxRecDepth 100000 in
theorem chgF_step (hz : ZD D) (hb : P.base = 120) (hg : P.pages = 20) (hp : p < 20) (hf : findP P p = none) (hh : holdR D P ⟨p, zP, 0, false, true⟩ = (D, P', 0)) (hm : zP ≠ m) :
  chgF [] ((p, m) :: r) D P acc = chgF [] r D P' (acc ++ [((p : Int), m, [])]) := by
 obtain ⟨e1, e2⟩ := getR_none hz hb hg hp hf
 rw [hh] at e1 e2
 rw [if_neg (fun e => e rfl)] at e2
 conv => lhs; unfold chgF
 rw [e1, e2, if_neg (fun e => e rfl), if_neg hm]
 rfl
set_option maxRecDepth 100000 in
theorem holdR_room (h : P.fr.length < P.most) : holdR D P f = (D, pushP P f, 0) := by
 unfold holdR
 rw [if_pos h]
set_option maxRecDepth 100000 in
theorem holdR_clean (h : ¬ P.fr.length < P.most) (hd : ((spun P).fr.getD (spun P).hand fr0).dirty = false) : holdR D P f = (D, putP (spun P) f, 0) := by
 unfold holdR
 rw [if_neg h, hd, if_neg Bool.false_ne_true]
set_option maxRecDepth 100000 in
theorem holdR_dirty (h : ¬ P.fr.length < P.most) (hd : ((spun P).fr.getD (spun P).hand fr0).dirty = true) (hl : logE D ((spun P).fr.getD (spun P).hand fr0).lsn = 6) :
  holdR D P f = (logD D ((spun P).fr.getD (spun P).hand fr0).lsn, spun P, 6) := by
 have hw : writeR D (spun P) (spun P).hand = (logD D ((spun P).fr.getD (spun P).hand fr0).lsn, spun P, 6) := by
  unfold writeR
  dsimp only
  rw [hl, if_pos (show (6 : Int) ≠ 0 by decide)]
 unfold holdR
 rw [if_neg h, if_pos hd, hw, if_pos (show (6 : Int) ≠ 0 by decide)]
set_option maxRecDepth 100000 in
theorem setR_some (hg : P.pages = 20) (hp : p < 20) (hm : m.length = 4080) (hn : 0 ≤ n) (hf : findP P p = some i) : setR D P (p : Int) m n = (D, setP P i ⟨p, m, n, true, true⟩, 0) := by
 unfold setR
 rw [if_neg (show ¬ setE P (p : Int) m.length n ≠ 0 from fun e => e (by
  unfold setE askP
  rw [hg, if_neg (show ¬ ((if (p : Int) < 0 ∨ ((20 : Nat) : Int) ≤ (p : Int) then (2 : Int) else 0) ≠ 0) from fun e => e (if_neg (by omega))), if_neg (by omega)])), Int.toNat_natCast, hf]
set_option maxRecDepth 100000 in
theorem setR_none (hg : P.pages = 20) (hp : p < 20) (hm : m.length = 4080) (hn : 0 ≤ n) (hf : findP P p = none) : setR D P (p : Int) m n = holdR D P ⟨p, m, n, true, true⟩ := by
 unfold setR
 rw [if_neg (show ¬ setE P (p : Int) m.length n ≠ 0 from fun e => e (by
  unfold setE askP
  rw [hg, if_neg (show ¬ ((if (p : Int) < 0 ∨ ((20 : Nat) : Int) ≤ (p : Int) then (2 : Int) else 0) ≠ 0) from fun e => e (if_neg (by omega))), if_neg (by omega)])), Int.toNat_natCast, hf]
set_option maxRecDepth 100000 in
theorem putF_step (hf : findS st p = some m) (hs : setR D P (p : Int) m n = (D, P', 0)) : putF st n (((p : Int), m, []) :: l) D P = putF st n l D P' := by
 conv => lhs; unfold putF
 dsimp only
 rw [Int.toNat_natCast, hf, Option.getD_some, hs, if_neg (fun e => e rfl)]
set_option maxRecDepth 100000 in
theorem putF_stop {E : EnS} (hf : findS st p = some m) (hs : setR D P (p : Int) m n = (E, P', 6)) : putF st n (((p : Int), m, []) :: l) D P = (E, P', 6) := by
 unfold putF
 dsimp only
 rw [Int.toNat_natCast, hf, Option.getD_some, hs, if_pos (show (6 : Int) ≠ 0 by decide)]
set_option maxRecDepth 100000 in
set_option maxRecDepth 100000 in
theorem flu6 {d : DiskS} {J : JnS} (h1 : d.blocks.length = 140) (h2 : d.down = false) (h3 : d.power = 0) (j1 : J.br = false) (j2 : J.waits ≠ []) (j3 : J.fi = 0) (j4 : J.bl = 120) : fluE d J = 6 ∧ (fluD d J).pending = d.pending := by
 have hw : J.waits.length ≠ 0 := fun e => j2 (List.length_eq_zero_iff.1 e)
 obtain ⟨k, hk⟩ : ∃ k, needL J.waits.length = k + 1 := ⟨needL J.waits.length - 1, by unfold needL; omega⟩
 have hws : wsJ J = (J.fi + (J.pl + 0) % J.bl, sealL (ofN J.ep (J.ct + 0)) (payL J.waits 0)) :: ((List.range k).map Nat.succ).map fun i => (J.fi + (J.pl + i) % J.bl, sealL (ofN J.ep (J.ct + i)) (payL J.waits i)) := by
  unfold wsJ wsL
  rw [hk, List.range_succ_eq_map, List.map_cons]
 have hl : (sealL (ofN J.ep (J.ct + 0)) (payL J.waits 0)).length = 4096 := sealL_len (payL_len _ _)
 have hm := Nat.mod_lt (J.pl + 0) (show 0 < J.bl by omega)
 have hop : opC d = 6 := by
  unfold opC opE
  rw [h2, h3]
  rfl
 have hask : askE d ((J.fi + (J.pl + 0) % J.bl : Nat) : Int) = 0 := by
  unfold askE
  rw [h1, if_neg (by omega)]
 have he : writeE d ((J.fi + (J.pl + 0) % J.bl : Nat) : Int) (sealL (ofN J.ep (J.ct + 0)) (payL J.waits 0)).length = 6 := by
  unfold writeE
  rw [hask, if_neg (fun e => e rfl), hl, if_neg (fun e => e rfl), hop]
 have hp : putAll d (wsJ J) = (writeD d ((J.fi + (J.pl + 0) % J.bl : Nat) : Int) (sealL (ofN J.ep (J.ct + 0)) (payL J.waits 0)), 6) := by
  rw [hws]
  unfold putAll
  rw [he, if_pos (show (6 : Int) ≠ 0 by decide)]
 constructor
 ·unfold fluE flushE
  rw [j1, if_neg Bool.false_ne_true, if_neg hw, hp, if_pos (show (6 : Int) ≠ 0 by decide)]
 ·unfold fluD flushD
  rw [if_neg (fun e => e.elim (fun e => by rw [j1] at e; cases e) hw), hp, if_pos (show (6 : Int) ≠ 0 by decide)]
  show (writeD d _ _).pending = _
  unfold writeD
  rw [if_neg (fun e => e.elim (fun e => e hask) (fun e => e hl)), if_pos (by rw [hop]; decide)]
  rfl
end
end Go.Proofs.YtnkeclpgpiogoaaGreat

/-! BtQ -/
namespace Go.Proofs.YtnkeclpgpiogoaaGreat
open Go Go.RowKit Go.Maps
def fz (p : Nat) : FrS := ⟨p, zP, 0, false, true⟩
def fd (p : Nat) (m : List UInt8) (u : Bool) : FrS := ⟨p, m, 1, true, u⟩
section
variable {D D1 : EnS} {P P1 : PoS} {A : AtS} {X : AxS} {tx : Int} {l : List Ch} {st : List (Nat × List UInt8)} {now : Nat → List UInt8}
set_option maxRecDepth 100000 in
theorem doneR_run (hs : stE A X = 0) (t1 : 0 ≤ tx) (t2 : tx ≤ 4611686018427387904) (hc : chgF A.im X.st D P [] = (D1, P1, 0, l)) : doneR D P A X tx = done2 D1 P1 A X tx l := by
 unfold doneR
 rw [if_neg (fun e => e hs), if_neg (by omega)]
 dsimp only
 rw [hc, if_neg (fun e => e rfl)]
set_option maxRecDepth 100000 in
theorem doneR_stop {e : Int} (he : e ≠ 0) (hs : stE A X = 0) (t1 : 0 ≤ tx) (t2 : tx ≤ 4611686018427387904) (hc : chgF A.im X.st D P [] = (D1, P1, e, l)) : doneR D P A X tx = ⟨D1, P1, A, X, 0, e⟩ := by
 unfold doneR
 rw [if_neg (fun e => e hs), if_neg (by omega)]
 dsimp only
 rw [hc, if_pos he]
set_option maxRecDepth 100000 in
theorem chgF_stop {im : List (Nat × Unit)} {p : Nat} {m : List UInt8} {r : List (Nat × List UInt8)} {acc : List Ch} {e : Int} (he : e ≠ 0) (h : getR D P (p : Int) = (D1, P1, e)) : chgF im ((p, m) :: r) D P acc = (D1, P1, e, []) := by
 unfold chgF
 rw [h, if_pos he]
set_option maxRecDepth 100000 in
set_option maxRecDepth 100000 in
set_option maxRecDepth 100000 in
set_option maxRecDepth 100000 in
theorem app_fits (h : CI D P now [] 0) (hx : XOk P.pages st) (hU : st.length + 1 ≤ D.j.bl) (t1 : 0 ≤ tx) (t2 : tx ≤ 4611686018427387904) (hl : l.length ≠ 0) (hc : chgF [] st D P [] = (D1, P1, 0, l)) : appE D1.j ⟨1, tx, l⟩ = 0 := by
 obtain ⟨E', P', e, _⟩ := h.done (A := newA) (X := ⟨st, false⟩) (tx := tx) hx rfl rfl t1 t2 (by show 0 + (st.length + 1) ≤ _; omega) (by simp)
 rw [doneR_run (A := newA) (X := ⟨st, false⟩) rfl t1 t2 hc] at e
 have e2 := congrArg DRes.e e
 unfold done2 at e2
 rw [if_neg hl] at e2
 by_cases ha : appE D1.j ⟨1, tx, l⟩ = 0
 ·exact ha
 ·rw [if_pos ha] at e2
  exact e2
end
section
variable {D : EnS} {P P2 P3 : PoS} {f : FrS} {n : Int}
set_option maxRecDepth 100000 in
theorem holdR_room2 (h : P.fr.length < P.most) (hp : pushP P f = P2) : holdR D P f = (D, P2, 0) := by
 subst hp
 exact holdR_room h
set_option maxRecDepth 100000 in
theorem holdR_clean2 (h : ¬ P.fr.length < P.most) (hs : spun P = P2) (hd : (P2.fr.getD P2.hand fr0).dirty = false) (hp : putP P2 f = P3) : holdR D P f = (D, P3, 0) := by
 subst hs hp
 exact holdR_clean h hd
set_option maxRecDepth 100000 in
theorem holdR_dirty2 (h : ¬ P.fr.length < P.most) (hs : spun P = P2) (hd : (P2.fr.getD P2.hand fr0).dirty = true) (hn : (P2.fr.getD P2.hand fr0).lsn = n) (hl : logE D n = 6) : holdR D P f = (logD D n, P2, 6) := by
 subst hs hn
 exact holdR_dirty h hd hl
end
/-! Four frames. -/
set_option maxRecDepth 100000 in
theorem spun_two (m5 : List UInt8) : spun (⟨120, 20, 2, 1, 0, [fz 7, fd 5 m5 true], 0⟩ : PoS) = ⟨120, 20, 2, 1, 0, [⟨7, zP, 0, false, false⟩, fd 5 m5 false], 0⟩ := by
 have hu : usedN [fz 7, fd 5 m5 true] = 2 := rfl
 unfold spun
 dsimp only
 rw [hu]
 simp only [spinF, fz, fd, List.getD_cons_zero, List.getD_cons_succ, List.set_cons_zero, List.set_cons_succ, if_true]
def P4 (b0 b1 b2 b3 : List UInt8) (u : Bool) : PoS := ⟨120, 20, 4, 1, 0, [fd 0 b0 u, fd 1 b1 u, fd 2 b2 u, fd 3 b3 u], 0⟩
set_option maxRecDepth 100000 in
theorem spun_four (b0 b1 b2 b3 : List UInt8) : spun (P4 b0 b1 b2 b3 true) = P4 b0 b1 b2 b3 false := by
 have hu : usedN [fd 0 b0 true, fd 1 b1 true, fd 2 b2 true, fd 3 b3 true] = 4 := rfl
 unfold spun P4
 dsimp only
 rw [hu]
 simp only [spinF, fd, List.getD_cons_zero, List.getD_cons_succ, List.set_cons_zero, List.set_cons_succ, if_true]
section
variable {gj gb : Nat} {b0 b1 b2 b3 : List UInt8} {D : EnS} {st : List (Nat × List UInt8)}
def st4 (b0 b1 b2 b3 : List UInt8) : List (Nat × List UInt8) := [(0, b0), (1, b1), (2, b2), (3, b3)]
def l4 (b0 b1 b2 b3 : List UInt8) : List Ch := [(((0 : Nat) : Int), b0, []), (((1 : Nat) : Int), b1, []), (((2 : Nat) : Int), b2, []), (((3 : Nat) : Int), b3, [])]
set_option maxRecDepth 100000 in
theorem chg4 (hz : ZD D) (h0 : zP ≠ b0) (h1 : zP ≠ b1) (h2 : zP ≠ b2) (h3 : zP ≠ b3) : chgF [] (st4 b0 b1 b2 b3) D (newP 120 20 4 1 0) [] = (D, ⟨120, 20, 4, 1, 0, [fz 0, fz 1, fz 2, fz 3], 0⟩, 0, l4 b0 b1 b2 b3) := by
 unfold st4
 rw [show (newP 120 20 4 1 0) = (⟨120, 20, 4, 1, 0, [], 0⟩ : PoS) from rfl]
 rw [chgF_step (p := 0) (P := (⟨120, 20, 4, 1, 0, [], 0⟩ : PoS)) (P' := (⟨120, 20, 4, 1, 0, [fz 0], 0⟩ : PoS)) hz rfl rfl (by omega) rfl (holdR_room2 (show (0 : Nat) < 4 by omega) rfl) h0]
 rw [chgF_step (p := 1) (P := (⟨120, 20, 4, 1, 0, [fz 0], 0⟩ : PoS)) (P' := (⟨120, 20, 4, 1, 0, [fz 0, fz 1], 0⟩ : PoS)) hz rfl rfl (by omega) rfl (holdR_room2 (show (1 : Nat) < 4 by omega) rfl) h1]
 rw [chgF_step (p := 2) (P := (⟨120, 20, 4, 1, 0, [fz 0, fz 1], 0⟩ : PoS)) (P' := (⟨120, 20, 4, 1, 0, [fz 0, fz 1, fz 2], 0⟩ : PoS)) hz rfl rfl (by omega) rfl (holdR_room2 (show (2 : Nat) < 4 by omega) rfl) h2]
 rw [chgF_step (p := 3) (P := (⟨120, 20, 4, 1, 0, [fz 0, fz 1, fz 2], 0⟩ : PoS)) (P' := (⟨120, 20, 4, 1, 0, [fz 0, fz 1, fz 2, fz 3], 0⟩ : PoS)) hz rfl rfl (by omega) rfl (holdR_room2 (show (3 : Nat) < 4 by omega) rfl) h3]
 rfl
set_option maxRecDepth 100000 in
theorem put4 (h0 : b0.length = 4080) (h1 : b1.length = 4080) (h2 : b2.length = 4080) (h3 : b3.length = 4080) : putF (st4 b0 b1 b2 b3) 1 (l4 b0 b1 b2 b3) D ⟨120, 20, 4, 1, 0, [fz 0, fz 1, fz 2, fz 3], 0⟩ = (D, P4 b0 b1 b2 b3 true, 0) := by
 unfold l4
 rw [putF_step (p := 0) (m := b0) (P := (⟨120, 20, 4, 1, 0, [fz 0, fz 1, fz 2, fz 3], 0⟩ : PoS)) (P' := (⟨120, 20, 4, 1, 0, [fd 0 b0 true, fz 1, fz 2, fz 3], 0⟩ : PoS)) rfl (setR_some (i := 0) rfl (by omega) h0 (by omega) rfl)]
 rw [putF_step (p := 1) (m := b1) (P := (⟨120, 20, 4, 1, 0, [fd 0 b0 true, fz 1, fz 2, fz 3], 0⟩ : PoS)) (P' := (⟨120, 20, 4, 1, 0, [fd 0 b0 true, fd 1 b1 true, fz 2, fz 3], 0⟩ : PoS)) rfl (setR_some (i := 1) rfl (by omega) h1 (by omega) rfl)]
 rw [putF_step (p := 2) (m := b2) (P := (⟨120, 20, 4, 1, 0, [fd 0 b0 true, fd 1 b1 true, fz 2, fz 3], 0⟩ : PoS)) (P' := (⟨120, 20, 4, 1, 0, [fd 0 b0 true, fd 1 b1 true, fd 2 b2 true, fz 3], 0⟩ : PoS)) rfl (setR_some (i := 2) rfl (by omega) h2 (by omega) rfl)]
 rw [putF_step (p := 3) (m := b3) (P := (⟨120, 20, 4, 1, 0, [fd 0 b0 true, fd 1 b1 true, fd 2 b2 true, fz 3], 0⟩ : PoS)) (P' := (⟨120, 20, 4, 1, 0, [fd 0 b0 true, fd 1 b1 true, fd 2 b2 true, fd 3 b3 true], 0⟩ : PoS)) rfl (setR_some (i := 3) rfl (by omega) h3 (by omega) rfl)]
 rfl
set_option maxRecDepth 100000 in
theorem xok4 (h0 : b0.length = 4080) (h1 : b1.length = 4080) (h2 : b2.length = 4080) (h3 : b3.length = 4080) : XOk 20 (st4 b0 b1 b2 b3) := by
 refine ⟨by simp [SortS, st4], fun e he => ?_, by simp [st4]⟩
 have he : e = (0, b0) ∨ e = (1, b1) ∨ e = (2, b2) ∨ e = (3, b3) := by simpa [st4] using he
 rcases he with rfl | rfl | rfl | rfl
 ·exact ⟨by show 0 < 20; omega, h0⟩
 ·exact ⟨by show 1 < 20; omega, h1⟩
 ·exact ⟨by show 2 < 20; omega, h2⟩
 ·exact ⟨by show 3 < 20; omega, h3⟩
set_option maxRecDepth 100000 in
theorem zd10 : ZD (made10E gj gb) := ZD.of rfl rfl rfl
set_option maxRecDepth 100000 in
theorem app4 (z0 : zP ≠ b0) (z1 : zP ≠ b1) (z2 : zP ≠ b2) (z3 : zP ≠ b3) (h0 : b0.length = 4080) (h1 : b1.length = 4080) (h2 : b2.length = 4080) (h3 : b3.length = 4080) : appE (made10E gj gb).j ⟨1, 1, l4 b0 b1 b2 b3⟩ = 0 :=
 app_fits (D := made10E gj gb) (P := newP 120 20 4 1 0) (now := fun _ => zP) (CI.new (ring := 120) (n := 20) (by omega) (by omega) (by omega) (by omega) (by omega)) (xok4 h0 h1 h2 h3) (by show 5 ≤ 120; omega) (by omega) (by omega) (by simp [l4]) (chg4 zd10 z0 z1 z2 z3)
set_option maxRecDepth 100000 in
theorem done4 (z0 : zP ≠ b0) (z1 : zP ≠ b1) (z2 : zP ≠ b2) (z3 : zP ≠ b3) (h0 : b0.length = 4080) (h1 : b1.length = 4080) (h2 : b2.length = 4080) (h3 : b3.length = 4080) :
  doneR (made10E gj gb) (newP 120 20 4 1 0) newA ⟨st4 b0 b1 b2 b3, false⟩ 1 = ⟨(made10E gj gb).app ⟨1, 1, l4 b0 b1 b2 b3⟩, P4 b0 b1 b2 b3 true, ⟨markF (l4 b0 b1 b2 b3) [], false⟩, ⟨st4 b0 b1 b2 b3, true⟩, 1, 0⟩ := by
 have ha := app4 (gj := gj) (gb := gb) z0 z1 z2 z3 h0 h1 h2 h3
 rw [doneR_run (A := newA) (X := ⟨st4 b0 b1 b2 b3, false⟩) rfl (by omega) (by omega) (chg4 zd10 z0 z1 z2 z3)]
 unfold done2
 rw [if_neg (by simp [l4]), if_neg (fun e => e ha)]
 have hn : appN (made10E gj gb).j ⟨1, 1, l4 b0 b1 b2 b3⟩ = 1 := by
  unfold appN
  rw [if_pos ha]
  rfl
 dsimp only
 rw [hn]
 rw [show ((1 : Nat) : Int) = 1 from rfl, put4 h0 h1 h2 h3, if_neg (fun e => e rfl)]
 rfl
structure Dark (D : EnS) : Prop where
 z : ZD D
 l6 : ∀ n : Int, 1 ≤ n → logE D n = 6 ∧ (logD D n).d.pending = []
set_option maxRecDepth 100000 in
theorem Dark.of {r : Rec} (ha : appE (made10E gj gb).j r = 0) : Dark ⟨armD (newD 140) 0, appJ (newJ 0 120 1 0 1) r, gj, gb, true⟩ := by
 have hj : appJ (newJ 0 120 1 0 1) r = { newJ 0 120 1 0 1 with waits := [] ++ encR r, la := 0 + 1 } := by
  unfold appJ
  rw [if_pos (show appE (newJ 0 120 1 0 1) r = 0 from ha)]
  rfl
 have hw : encR r ≠ [] := fun e => by
  have := congrArg List.length e
  unfold encR at this
  rw [List.length_append, leB_length] at this
  simp at this
 obtain ⟨f1, f2⟩ := flu6 (d := armD (newD 140) 0) (J := appJ (newJ 0 120 1 0 1) r) (by show (List.replicate 140 zer).length = 140; exact List.length_replicate ..) rfl rfl (by rw [hj]; rfl) (by rw [hj]; exact hw) (by rw [hj]; rfl) (by rw [hj]; rfl)
 refine ⟨ZD.of rfl rfl rfl, fun n hn => ?_⟩
 have hc : ¬ ((⟨armD (newD 140) 0, appJ (newJ 0 120 1 0 1) r, gj, gb, true⟩ : EnS).k = true ∧ n ≤ ((⟨armD (newD 140) 0, appJ (newJ 0 120 1 0 1) r, gj, gb, true⟩ : EnS).j.sy : Int)) := fun e => by
  have := e.2
  rw [show (⟨armD (newD 140) 0, appJ (newJ 0 120 1 0 1) r, gj, gb, true⟩ : EnS).j.sy = 0 from by show (appJ (newJ 0 120 1 0 1) r).sy = 0; rw [hj]; rfl] at this
  omega
 unfold logE logD
 rw [if_neg hc, if_neg hc]
 exact ⟨f1, f2⟩
set_option maxRecDepth 100000 in
set_option maxRecDepth 100000 in
set_option maxRecDepth 100000 in
set_option maxRecDepth 100000 in
theorem done6 (hd : Dark D) {im : List (Nat × Unit)} {m : List UInt8} {r : List (Nat × List UInt8)} : doneR D (P4 b0 b1 b2 b3 true) ⟨im, false⟩ ⟨(4, m) :: r, false⟩ 2 = ⟨logD D 1, P4 b0 b1 b2 b3 false, ⟨im, false⟩, ⟨(4, m) :: r, false⟩, 0, 6⟩ := by
 have hg : getR D (P4 b0 b1 b2 b3 true) ((4 : Nat) : Int) = (logD D 1, P4 b0 b1 b2 b3 false, 6) :=
  (getR_none (P := P4 b0 b1 b2 b3 true) (p := 4) hd.z rfl rfl (by omega) rfl).1.trans (holdR_dirty2 (P := P4 b0 b1 b2 b3 true) (P2 := P4 b0 b1 b2 b3 false) (n := 1) (show ¬ (4 : Nat) < 4 by omega) (spun_four b0 b1 b2 b3) rfl rfl (hd.l6 1 (by omega)).1)
 exact doneR_stop (A := ⟨im, false⟩) (X := ⟨(4, m) :: r, false⟩) (by decide) rfl (by omega) (by omega) (chgF_stop (by decide) hg)
end
/-! Two frames. -/
section
variable {gj gb : Nat} {b5 b6 b7 : List UInt8} {D : EnS}
def stK (b5 b6 b7 : List UInt8) : List (Nat × List UInt8) := [(5, b5), (6, b6), (7, b7)]
def lK (b5 b6 b7 : List UInt8) : List Ch := [(((5 : Nat) : Int), b5, []), (((6 : Nat) : Int), b6, []), (((7 : Nat) : Int), b7, [])]
def Q3 : PoS := ⟨120, 20, 2, 1, 0, [fz 7, ⟨6, zP, 0, false, false⟩], 1⟩
set_option maxRecDepth 100000 in
theorem chg3 (hz : ZD D) (h5 : zP ≠ b5) (h6 : zP ≠ b6) (h7 : zP ≠ b7) : chgF [] (stK b5 b6 b7) D (newP 120 20 2 1 0) [] = (D, Q3, 0, lK b5 b6 b7) := by
 unfold stK
 rw [show (newP 120 20 2 1 0) = (⟨120, 20, 2, 1, 0, [], 0⟩ : PoS) from rfl]
 rw [chgF_step (p := 5) (P := (⟨120, 20, 2, 1, 0, [], 0⟩ : PoS)) (P' := (⟨120, 20, 2, 1, 0, [fz 5], 0⟩ : PoS)) hz rfl rfl (by omega) rfl (holdR_room2 (show (0 : Nat) < 2 by omega) rfl) h5]
 rw [chgF_step (p := 6) (P := (⟨120, 20, 2, 1, 0, [fz 5], 0⟩ : PoS)) (P' := (⟨120, 20, 2, 1, 0, [fz 5, fz 6], 0⟩ : PoS)) hz rfl rfl (by omega) rfl (holdR_room2 (show (1 : Nat) < 2 by omega) rfl) h6]
 rw [chgF_step (p := 7) (P := (⟨120, 20, 2, 1, 0, [fz 5, fz 6], 0⟩ : PoS)) (P' := Q3) hz rfl rfl (by omega) rfl (holdR_clean2 (P2 := (⟨120, 20, 2, 1, 0, [⟨5, zP, 0, false, false⟩, ⟨6, zP, 0, false, false⟩], 0⟩ : PoS)) (show ¬ (2 : Nat) < 2 by omega) rfl rfl rfl) h7]
 rfl
set_option maxRecDepth 100000 in
theorem put3 (hd : Dark D) (h5 : b5.length = 4080) (h6 : b6.length = 4080) (h7 : b7.length = 4080) : putF (stK b5 b6 b7) 1 (lK b5 b6 b7) D Q3 = (logD D 1, ⟨120, 20, 2, 1, 0, [fd 6 b6 true, fd 5 b5 false], 1⟩, 6) := by
 unfold lK
 rw [putF_step (p := 5) (m := b5) (P := Q3) (P' := (⟨120, 20, 2, 1, 0, [fz 7, fd 5 b5 true], 0⟩ : PoS)) rfl ((setR_none (P := Q3) rfl (by omega) h5 (by omega) rfl).trans (holdR_clean2 (P2 := Q3) (show ¬ (2 : Nat) < 2 by omega) rfl rfl rfl))]
 rw [putF_step (p := 6) (m := b6) (P := (⟨120, 20, 2, 1, 0, [fz 7, fd 5 b5 true], 0⟩ : PoS)) (P' := (⟨120, 20, 2, 1, 0, [fd 6 b6 true, fd 5 b5 false], 1⟩ : PoS)) rfl ((setR_none rfl (by omega) h6 (by omega) rfl).trans (holdR_clean2 (P2 := (⟨120, 20, 2, 1, 0, [⟨7, zP, 0, false, false⟩, fd 5 b5 false], 0⟩ : PoS)) (show ¬ (2 : Nat) < 2 by omega) (spun_two b5) rfl rfl))]
 exact putF_stop (p := 7) (m := b7) (P := (⟨120, 20, 2, 1, 0, [fd 6 b6 true, fd 5 b5 false], 1⟩ : PoS)) rfl ((setR_none rfl (by omega) h7 (by omega) rfl).trans (holdR_dirty2 (P2 := (⟨120, 20, 2, 1, 0, [fd 6 b6 true, fd 5 b5 false], 1⟩ : PoS)) (n := 1) (show ¬ (2 : Nat) < 2 by omega) rfl rfl rfl (hd.l6 1 (by omega)).1))
set_option maxRecDepth 100000 in
theorem xok3 (h5 : b5.length = 4080) (h6 : b6.length = 4080) (h7 : b7.length = 4080) : XOk 20 (stK b5 b6 b7) := by
 refine ⟨by simp [SortS, stK], fun e he => ?_, by simp [stK]⟩
 have he : e = (5, b5) ∨ e = (6, b6) ∨ e = (7, b7) := by simpa [stK] using he
 rcases he with rfl | rfl | rfl
 ·exact ⟨by show 5 < 20; omega, h5⟩
 ·exact ⟨by show 6 < 20; omega, h6⟩
 ·exact ⟨by show 7 < 20; omega, h7⟩
set_option maxRecDepth 100000 in
theorem app3 (z5 : zP ≠ b5) (z6 : zP ≠ b6) (z7 : zP ≠ b7) (h5 : b5.length = 4080) (h6 : b6.length = 4080) (h7 : b7.length = 4080) : appE (made10E gj gb).j ⟨1, 1, lK b5 b6 b7⟩ = 0 :=
 app_fits (D := made10E gj gb) (P := newP 120 20 2 1 0) (now := fun _ => zP) (CI.new (ring := 120) (n := 20) (by omega) (by omega) (by omega) (by omega) (by omega)) (xok3 h5 h6 h7) (by show 4 ≤ 120; omega) (by omega) (by omega) (by simp [lK]) (chg3 zd10 z5 z6 z7)
set_option maxRecDepth 100000 in
theorem done3 (z5 : zP ≠ b5) (z6 : zP ≠ b6) (z7 : zP ≠ b7) (h5 : b5.length = 4080) (h6 : b6.length = 4080) (h7 : b7.length = 4080) :
  ∃ E P, doneR { made10E gj gb with d := armD (newD 140) 0 } (newP 120 20 2 1 0) newA ⟨stK b5 b6 b7, false⟩ 1 = ⟨E, P, ⟨[], true⟩, ⟨stK b5 b6 b7, false⟩, 0, 6⟩ ∧ E.d.pending = [] ∧ P.count = 0 := by
 have ha := app3 (gj := gj) (gb := gb) z5 z6 z7 h5 h6 h7
 have hd := Dark.of (gj := gj) (gb := gb) ha
 refine ⟨_, _, ?_, (hd.l6 1 (by omega)).2, (show (⟨120, 20, 2, 1, 0, [fd 6 b6 true, fd 5 b5 false], 1⟩ : PoS).count = 0 from rfl)⟩
 rw [doneR_run (A := newA) (X := ⟨stK b5 b6 b7, false⟩) rfl (by omega) (by omega) (chg3 (ZD.of rfl rfl rfl) z5 z6 z7)]
 unfold done2
 rw [if_neg (by simp [lK]), if_neg (fun e => e ha)]
 have hn : appN ({ made10E gj gb with d := armD (newD 140) 0 } : EnS).j ⟨1, 1, lK b5 b6 b7⟩ = 1 := by
  unfold appN
  rw [if_pos ha]
  rfl
 dsimp only
 rw [hn]
 rw [show ((1 : Nat) : Int) = 1 from rfl, show ({ made10E gj gb with d := armD (newD 140) 0 } : EnS).app ⟨1, 1, lK b5 b6 b7⟩ = ⟨armD (newD 140) 0, appJ (newJ 0 120 1 0 1) ⟨1, 1, lK b5 b6 b7⟩, gj, gb, true⟩ from rfl, put3 hd h5 h6 h7, if_pos (show (6 : Int) ≠ 0 by decide)]
 rfl
end
end Go.Proofs.YtnkeclpgpiogoaaGreat

/-! BtR -/
namespace Go.Proofs.YtnkeclpgpiogoaaGreat
open Go Go.RowKit Go.Maps
set_option maxRecDepth 100000 in
theorem ANew_bad {p pj : Option Addr} {w : World} {a b n : Int} (hA : Calls Tryz.prog 98 #[.pointer pj] w fun e w' => e = .returned (.tuple #[.int .i64 a, .int .i64 b]) ∧ Below w.heap.size w w')
  (hP : ∀ W, Below w.heap.size w W → Calls Tryz.prog 95 #[.pointer p] W fun e w' => e = .returned (.int .i64 n) ∧ W = w') (hbad : n = 0 ∨ b = 0) :
  Calls Tryz.prog 52 #[.pointer p, .pointer pj] w fun e w' => e = .returned (.tuple #[.pointer none, .int .i64 1]) ∧ Below w.heap.size w w' := by
 have HA := Lib.hid hA
 have HP := Lib.hid hP
 clear hA hP
 go_enter Tryz.func52, Tryz.ntmps52
 go_wp2_with fail
 refine HA.out.mono ?_
 rintro e w1 ⟨rfl, hb1⟩
 have HB1 := Lib.hid hb1
 clear hb1
 go_wp2_with fail
 refine (HP.out w1 HB1.out).mono ?_
 rintro e w2 ⟨rfl, rfl⟩
 by_cases hn : n = 0
 ·have t1 : (n == 0) = true := beq_iff_eq.2 hn
  clear hn hbad
  go_wp2_with fail
  go_ret2
  exact ⟨rfl, HB1.out⟩
 ·have t1 : (n == 0) = false := beq_eq_false_iff_ne.2 hn
  have t2 : (b == 0) = true := beq_iff_eq.2 (hbad.resolve_left hn)
  clear hn hbad
  go_wp2_with fail
  go_ret2
  exact ⟨rfl, HB1.out⟩
structure NA (w0 w : World) (z : Wh) (D : EnS) (P : PoS) (A : AtS) (T : Nat → Prop) (g0 gj : Nat) : Prop where
 az : AZ w0 w z D P A T
 yk : YK w z gj g0 T
 gj : D.gj = gj
structure NX (w0 w : World) (z : Wh) (gx : Nat) (X : AxS) (T U : Nat → Prop) (g0 : Nat) : Prop where
 xz : XZ w w0.heap.size z.ga gx X T U
 ug : ¬ U g0
section
variable {w0 w w' : World} {z : Wh} {D : EnS} {P : PoS} {A : AtS} {X Y : AxS} {T T' U U2 : Nat → Prop} {g0 gj gx gy : Nat}
set_option maxRecDepth 100000 in
theorem NA.below (h : NA w0 w z D P A T g0 gj) (hb : Below w.heap.size w w') : NA w0 w' z D P A T g0 gj := ⟨h.az.below hb, h.yk.below hb, h.gj⟩
set_option maxRecDepth 100000 in
theorem NX.below (h : NX w0 w z gx X T U g0) (hb : Below w.heap.size w w') : NX w0 w' z gx X T U g0 := ⟨h.xz.below hb, h.ug⟩
set_option maxRecDepth 100000 in
set_option maxRecDepth 100000 in
set_option maxRecDepth 100000 in
set_option maxRecDepth 100000 in
theorem NX.other (h : NX w0 w z gx X T U g0) (hy : NX w0 w z gy Y T U2 g0) (hd : ∀ k, U k → ¬ U2 k) (ho : Off (TU T U2) w w') (hT : ∀ k, T' k → T k ∨ w.heap.size ≤ k) : NX w0 w' z gx X T' U g0 :=
 ⟨h.xz.off ho (fun _k e => e.elim .inl (fun e => .inr (hy.xz.lt e).2.2.2)) (fun k e e2 => e2.elim (h.xz.lt e).2.2.1 (hd k e)) hT, h.ug⟩
set_option maxRecDepth 100000 in
theorem NA.begin (h : NA w0 w z D P A T g0 gj) :
  Calls Tryz.prog 13 #[.pointer (some ⟨z.ga, 0, none⟩)] w fun e w' => ∃ gx U, e = .returned (.pointer (some ⟨gx, 0, none⟩)) ∧ NA w0 w' z D P A T g0 gj ∧ NX w0 w' z gx newX T U g0 ∧ Below w.heap.size w w' ∧ ∀ k, U k → w.heap.size ≤ k := by
 refine (Begin_az h.az).mono ?_
 rintro e w' ⟨gx, U, rfl, a1, a2, a3, _, a5⟩
 exact ⟨gx, U, rfl, ⟨a1, h.yk.below a3, h.gj⟩, ⟨a2, fun e => by have := a5 g0 e; have := h.yk.yb.lt; omega⟩, a3, a5⟩
set_option maxRecDepth 100000 in
theorem NA.set (h : NA w0 w z D P A T g0 gj) (hx : NX w0 w z gx X T U g0) (page : Int) (B : Option Addr) (n c : Nat) (l : List UInt8) (hb : BR w B n l) (p1 : -9223372036854775808 ≤ page) (p2 : page ≤ 9223372036854775807) (h16 : X.st.length ≤ 16) {r : Int} {X' : AxS} (hr : asetE P A X page l.length = r) (hX : asetX P A X page l = X') :
  Calls Tryz.prog 19 #[.pointer (some ⟨gx, 0, none⟩), .int .i64 page, .slice B n c] w fun e w' => e = .returned (.int .i64 r) ∧ NA w0 w' z D P A T g0 gj ∧ NX w0 w' z gx X' T U g0 ∧ Off (TU T U) w w' := by
 subst hr hX
 refine (Set_at h.az hx.xz page B n c l hb p1 p2 h16).mono ?_
 rintro e w' ⟨rfl, a1, a2, a3⟩
 exact ⟨rfl, ⟨a1, h.yk.off a3 hx.ug (fun _ e => .inl e), h.gj⟩, ⟨a2, hx.ug⟩, a3.mono (fun k _ e => .inr e)⟩
set_option maxRecDepth 100000 in
theorem NA.get (h : NA w0 w z D P A T g0 gj) (hx : NX w0 w z gx X T U g0) (page : Int) (p1 : -9223372036854775808 ≤ page) (p2 : page ≤ 9223372036854775807) (hpd : D.d.pending.length ≤ 900000) (hct : P.count ≤ 1152921504606846976) {D' : EnS} {P' : PoS} {r : Int} (hr : agetR D P A X page = (D', P', r)) (hj : D'.gj = D.gj) :
  Calls Tryz.prog 17 #[.pointer (some ⟨gx, 0, none⟩), .int .i64 page] w fun e w' => ∃ v T', e = .returned (.tuple #[v, .int .i64 r]) ∧ NA w0 w' z D' P' A T' g0 gj ∧ NX w0 w' z gx X T' U g0 ∧ Off (TU T U) w w' ∧ ∀ k, T' k → T k ∨ w.heap.size ≤ k := by
 refine (Get_at h.az hx.xz page p1 p2 hpd hct).mono ?_
 rw [hr]
 rintro e w' ⟨v, rfl, _, T', wn, a1, a2, a3, a4, _⟩
 exact ⟨v, T', rfl, ⟨a1.below a4, (h.yk.mv a3).below a4, hj.trans h.gj⟩, ⟨a2.below a4, hx.ug⟩, (a3.1.mono (fun k _ e => .inl e)).trans (Off.of_below a4), a3.2⟩
set_option maxRecDepth 100000 in
theorem NA.done (h : NA w0 w z D P A T g0 gj) (hx : NX w0 w z gx X T U g0) (tx : Int) (h16 : X.st.length ≤ 16) (hp : ∀ e ∈ X.st, (e.1 : Int) ≤ 9223372036854775807) (hpd : D.d.pending.length ≤ 898000) (hct : P.count ≤ 1152921504606845000) (hla : D.j.la + 1 ≤ 1152921504606846976) (him : A.im.length ≤ 4096) {r : DRes} (hr : doneR D P A X tx = r) (hj : r.D.gj = D.gj) :
  Calls Tryz.prog 15 #[.pointer (some ⟨gx, 0, none⟩), .int .i64 tx] w fun e w' => ∃ T', e = .returned (.tuple #[.int .i64 r.n, .int .i64 r.e]) ∧ NA w0 w' z r.D r.P r.A T' g0 gj ∧ NX w0 w' z gx r.X T' U g0 ∧ Off (TU T U) w w' ∧ ∀ k, T' k → T k ∨ w.heap.size ≤ k := by
 subst hr
 refine (Done_at h.az hx.xz tx h16 hp hpd hct hla him).mono ?_
 rintro e w' ⟨rfl, T', a1, a2, a3, a4⟩
 exact ⟨T', rfl, ⟨a1, h.yk.off a3 (fun e => e.elim h.yk.nt hx.ug) a4, hj.trans h.gj⟩, ⟨a2, hx.ug⟩, a3, a4⟩
set_option maxRecDepth 100000 in
theorem NA.arm (h : NA w0 w z D P A T g0 gj) (n : Int) (hn : n ≤ 9223372036854775807) (h0 : 0 ≤ n) :
  Calls Tryz.prog 53 #[.pointer (some ⟨z.gd, 0, none⟩), .int .i64 n] w fun e w' => ∃ T', e = .returned (.int .i64 0) ∧ NA w0 w' z { D with d := armD D.d n } P A T' g0 gj ∧ Mv T T' w w' := by
 have h' := h.az
 obtain ⟨F, tv, mb, q, im, h1, h2, h3, h4, h5, h6, h7, h8, h9⟩ := h'.ex
 obtain ⟨w1, e1, hj, hnx⟩ := h1.dk.next
 refine (Arm_js n hj hn).mono ?_
 rintro e w' ⟨rfl, F', j1, j2⟩
 have hbl : (armD D.d n).blocks.length = D.d.blocks.length := by
  unfold armD
  split <;> rfl
 have hx := h1.env (hnx _ _ _ _ j1 j2) j2 hbl
 obtain ⟨T', ha, hm, _⟩ := h'.step h2 h3 h4 h5 h6 h7 h9 (D' := { D with d := armD D.d n, j := D.j }) ⟨rfl, rfl, rfl, rfl, rfl, rfl⟩ hx (j2.1.mono (fun k _ e => .inl e)) (fun k e => by
  rcases e with e | e
  ·exact (j2.2 k e).imp .inl id
  ·exact .inl (.inr e))
 refine ⟨T', ?_, ⟨ha, h.yk.mv hm, h.gj⟩, hm⟩
 unfold armE
 rw [if_neg (by omega)]
set_option maxRecDepth 100000 in
theorem NA.broken (h : NA w0 w z D P A T g0 gj) : Calls Tryz.prog 46 #[.pointer (some ⟨z.ga, 0, none⟩)] w fun e w' => e = .returned (.bool A.br) ∧ w = w' := by
 obtain ⟨im, hab⟩ := h.az.ab
 exact ABroken_any hab
set_option maxRecDepth 100000 in
theorem NX.over (h : NX w0 w z gx X T U g0) : Calls Tryz.prog 49 #[.pointer (some ⟨gx, 0, none⟩)] w fun e w' => e = .returned (.bool X.ov) ∧ w = w' := by
 obtain ⟨mx, hxb⟩ := h.xz.xb
 exact Over_any hxb
set_option maxRecDepth 100000 in
theorem NA.at_ (h : NA w0 w z D P A T g0 gj) : Calls Tryz.prog 98 #[.pointer (some ⟨gj, 0, none⟩)] w fun e w' => e = .returned (.tuple #[.int .i64 (D.j.pl : Int), .int .i64 (D.j.ct : Int)]) ∧ Below w.heap.size w w' := by
 obtain ⟨F, tv, mb, q, im, h1, _⟩ := h.az.ex
 obtain ⟨w1, _, h4, _⟩ := h1.dk
 obtain ⟨wj, hjb⟩ := h4.jb
 rw [h.gj] at hjb
 exact At_any hjb
set_option maxRecDepth 100000 in
theorem NA.pages (h : NA w0 w z D P A T g0 gj) : Calls Tryz.prog 95 #[.pointer (some ⟨z.gp, 0, none⟩)] w fun e w' => e = .returned (.int .i64 (P.pages : Int)) ∧ w = w' := by
 obtain ⟨F, tv, mb, q, im, h1, _⟩ := h.az.ex
 exact Pages_any h1.pb
end
def stP (a : Nat) : Nat → List (Nat × List UInt8)
 | 0 => []
 | k + 1 => stP a k ++ [(a + k, payT ((a + k : Nat) : Int) [])]
set_option maxRecDepth 100000 in
theorem stP_len (a : Nat) : ∀ k, (stP a k).length = k
 | 0 => rfl
 | k + 1 => by
  unfold stP
  rw [List.length_append, stP_len a k]
  rfl
set_option maxRecDepth 100000 in
theorem stP_lt (a : Nat) : ∀ k, ∀ e ∈ stP a k, e.1 < a + k
 | 0, e, he => by cases he
 | k + 1, e, he => by
  unfold stP at he
  rcases List.mem_append.1 he with he | he
  ·have := stP_lt a k e he
   omega
  ·rw [List.mem_singleton.1 he]
   show a + k < a + (k + 1)
   omega
set_option maxRecDepth 100000 in
theorem insS_end {p : Nat} {m : List UInt8} : ∀ {st : List (Nat × List UInt8)}, (∀ e ∈ st, e.1 < p) → insS p m st = st ++ [(p, m)]
 | [], _ => rfl
 | (q, l) :: r, h => by
  have hq : q < p := h (q, l) (List.mem_cons_self ..)
  unfold insS
  first
   | rw [if_neg (by omega), if_neg (by omega), insS_end (fun e he => h e (List.mem_cons_of_mem _ he))]; rfl
   | rw [if_pos (by omega), insS_end (fun e he => h e (List.mem_cons_of_mem _ he))]; rfl
set_option maxRecDepth 100000 in
theorem stP_ins (a k : Nat) : insS (a + k) (payT ((a + k : Nat) : Int) []) (stP a k) = stP a (k + 1) := insS_end (stP_lt a k)
set_option maxRecDepth 100000 in
theorem payT_zP {s : Int} {i : Nat} (hi : i < 4080) (h : UInt8.ofNat (madeX s (i + 1) / 1099511627776 % 256).toNat ≠ 0) : zP ≠ payT s [] := fun e => by
 have : zP.getD i 0 = (payT s []).getD i 0 := congrArg (fun l : List UInt8 => l.getD i 0) e
 rw [show payT s [] = madeL s 4080 from rfl, made_at s 4080 i hi, show zP.getD i 0 = 0 from by unfold zP; rw [List.getD_eq_getElem?_getD, List.getElem?_replicate_of_lt hi]; rfl] at this
 exact h this.symm
set_option maxRecDepth 100000 in
theorem pz0 : zP ≠ payT ((0 : Nat) : Int) [] := payT_zP (i := 0) (by omega) (by decide)
set_option maxRecDepth 100000 in
theorem pz1 : zP ≠ payT ((1 : Nat) : Int) [] := payT_zP (i := 0) (by omega) (by decide)
set_option maxRecDepth 100000 in
theorem pz2 : zP ≠ payT ((2 : Nat) : Int) [] := payT_zP (i := 0) (by omega) (by decide)
set_option maxRecDepth 100000 in
theorem pz3 : zP ≠ payT ((3 : Nat) : Int) [] := payT_zP (i := 0) (by omega) (by decide)
set_option maxRecDepth 100000 in
theorem pz5 : zP ≠ payT ((5 : Nat) : Int) [] := payT_zP (i := 0) (by omega) (by decide)
set_option maxRecDepth 100000 in
theorem pz6 : zP ≠ payT ((6 : Nat) : Int) [] := payT_zP (i := 0) (by omega) (by decide)
set_option maxRecDepth 100000 in
theorem pz7 : zP ≠ payT ((7 : Nat) : Int) [] := payT_zP (i := 0) (by omega) (by decide)
end Go.Proofs.YtnkeclpgpiogoaaGreat

/-! BtS -/
namespace Go.Proofs.YtnkeclpgpiogoaaGreat
open Go Go.RowKit Go.Maps
section
variable {w0 w w' : World} {z : Wh} {D D' : EnS} {P P' : PoS} {A A' : AtS} {X X' : AxS} {T U : Nat → Prop} {g0 gj gx : Nat}
set_option maxRecDepth 100000 in
theorem NA.done2 (h : NA w0 w z D P A T g0 gj) (hx : NX w0 w z gx X T U g0) (tx n e : Int) (h16 : X.st.length ≤ 16) (hp : ∀ e ∈ X.st, (e.1 : Int) ≤ 9223372036854775807) (hpd : D.d.pending.length ≤ 898000) (hct : P.count ≤ 1152921504606845000) (hla : D.j.la + 1 ≤ 1152921504606846976) (him : A.im.length ≤ 4096) (hr : doneR D P A X tx = ⟨D', P', A', X', n, e⟩) (hj : D'.gj = D.gj) :
  Calls Tryz.prog 15 #[.pointer (some ⟨gx, 0, none⟩), .int .i64 tx] w fun e2 w' => ∃ T', e2 = .returned (.tuple #[.int .i64 n, .int .i64 e]) ∧ NA w0 w' z D' P' A' T' g0 gj ∧ NX w0 w' z gx X' T' U g0 ∧ Off (TU T U) w w' ∧ ∀ k, T' k → T k ∨ w.heap.size ≤ k :=
 h.done hx tx h16 hp hpd hct hla him hr hj
set_option maxRecDepth 100000 in
theorem aset_bad {page : Int} {l : List UInt8} {e : Int} (he : e ≠ 0) (h : asetE P A X page l.length = e) : asetX P A X page l = X := by
 unfold asetX
 rw [h, if_pos he]
set_option maxRecDepth 100000 in
theorem aset_two {page : Int} {n : Nat} (hs : stE A X = 0) (h : page < 0 ∨ (P.pages : Int) ≤ page ∨ n ≠ 4080) : asetE P A X page n = 2 := by
 unfold asetE
 rw [if_neg (fun e => e hs), if_pos h]
set_option maxRecDepth 100000 in
theorem aset_over {page : Int} {n : Nat} {e : Int} (he : e ≠ 0) (hs : stE A X = e) : asetE P A X page n = e := by
 unfold asetE
 rw [hs, if_pos he]
set_option maxRecDepth 100000 in
theorem aset_full {page : Int} (hs : stE A X = 0) (h1 : 0 ≤ page) (h2 : page < (P.pages : Int)) (hf : findS X.st page.toNat = none) (h16 : 16 ≤ X.st.length) : asetE P A X page 4080 = 3 := by
 unfold asetE
 rw [if_neg (fun e => e hs), if_neg (by omega), if_pos ⟨hf, h16⟩]
set_option maxRecDepth 100000 in
theorem aset_end (hs : A.br = false) (hp : P.pages = 20) {a k : Nat} (hk : k < 16) (ha : a + k < 20) : asetE P A ⟨stP a k, false⟩ ((a + k : Nat) : Int) (payT ((a + k : Nat) : Int) []).length = 0 ∧ asetX P A ⟨stP a k, false⟩ ((a + k : Nat) : Int) (payT ((a + k : Nat) : Int) []) = ⟨stP a (k + 1), false⟩ := by
 obtain ⟨e1, e2⟩ := aset_ok (P := P) (A := A) (X := ⟨stP a k, false⟩) rfl hs (p := a + k) (by omega) (payT_len _ _) (.inl (by show (stP a k).length < 16; rw [stP_len]; exact hk))
 refine ⟨by rw [payT_len]; exact e1, e2.trans ?_⟩
 rw [stP_ins]
set_option maxRecDepth 100000 in
theorem stP_none {a k p : Nat} (hp : a + k ≤ p) : findS (stP a k) p = none := by
 cases h : findS (stP a k) p with
 | none => rfl
 | some l =>
  have := stP_lt a k _ (find_mem h)
  dsimp only at this
  omega
end
def stX : List (Nat × List UInt8) := insS 15 (payT 9 []) (stP 0 16)
set_option maxRecDepth 100000 in
theorem stX_len : stX.length = 16 := rfl
set_option maxRecDepth 100000 in
theorem stX_le : ∀ e ∈ stX, (e.1 : Int) ≤ 9223372036854775807 := by
 have h : ∀ e ∈ stX.map Prod.fst, ((e : Nat) : Int) ≤ 9223372036854775807 := by
  rw [show stX.map Prod.fst = [0, 1, 2, 3, 4, 5, 6, 7, 8, 9, 10, 11, 12, 13, 14, 15] from rfl]
  intro e he
  simp only [List.mem_cons, List.not_mem_nil, or_false] at he
  omega
 exact fun e he => h _ (List.mem_map_of_mem he)
set_option maxRecDepth 100000 in
theorem aset_15 : asetE (newP 120 20 4 1 0) newA ⟨stP 0 16, false⟩ 15 (payT 9 []).length = 0 ∧ asetX (newP 120 20 4 1 0) newA ⟨stP 0 16, false⟩ 15 (payT 9 []) = ⟨stX, false⟩ := by
 obtain ⟨e1, e2⟩ := aset_ok (P := newP 120 20 4 1 0) (A := newA) (X := ⟨stP 0 16, false⟩) rfl rfl (p := 15) (by show 15 < 20; omega) (payT_len 9 []) (.inr (fun e => by
  rw [show findS (stP 0 16) 15 = some (payT ((0 + 15 : Nat) : Int) []) from rfl] at e
  cases e))
 exact ⟨by rw [payT_len]; exact e1, e2⟩
end Go.Proofs.YtnkeclpgpiogoaaGreat
