/-
  Texts of this claim, joined: BtB, BtC, BtD. No statement of the program is proved here.
-/
import Derived.Test.YtnkeclpgpiogoaaGreatPkB9
/-! BtB -/
namespace Go.Proofs.YtnkeclpgpiogoaaGreat
open Go Go.RowKit Go.Maps
def YB (w : World) (g : Nat) (u0 u1 u2 u3 : Value) : Prop := w.heap[g]? = some (.cells #[u0, u1, u2, u3] 53 (0, 0))
section
variable {w w' : World} {g : Nat} {u0 u1 u2 u3 : Value}
set_option maxRecDepth 100000 in
theorem YB.lt (h : YB w g u0 u1 u2 u3) : g < w.heap.size := (Array.getElem?_eq_some_iff.1 h).1
set_option maxRecDepth 100000 in
theorem YB.off {S : Nat → Prop} (h : YB w g u0 u1 u2 u3) (ho : Off S w w') (hs : ¬ S g) : YB w' g u0 u1 u2 u3 := (ho.block g h.lt hs).trans h
set_option maxRecDepth 100000 in
theorem YB.below (h : YB w g u0 u1 u2 u3) (hb : Below w.heap.size w w') : YB w' g u0 u1 u2 u3 := (hb.block g h.lt).trans h
set_option maxRecDepth 100000 in
theorem YB.frozen (h : YB w g u0 u1 u2 u3) (j : Nat) : w.frozen? ⟨g, j, none⟩ = false := by unfold YB at h; simp [World.frozen?, h]
set_option maxRecDepth 100000 in
theorem YB.c0 (h : YB w g u0 u1 u2 u3) : w.cell? ⟨g, 0, none⟩ = some u0 := by rw [cell_of_row w g 0 _ _ _ h]; rfl
set_option maxRecDepth 100000 in
theorem YB.c1 (h : YB w g u0 u1 u2 u3) : w.cell? ⟨g, 1, none⟩ = some u1 := by rw [cell_of_row w g 1 _ _ _ h]; rfl
set_option maxRecDepth 100000 in
theorem YB.c2 (h : YB w g u0 u1 u2 u3) : w.cell? ⟨g, 2, none⟩ = some u2 := by rw [cell_of_row w g 2 _ _ _ h]; rfl
set_option maxRecDepth 100000 in
theorem YB.c3 (h : YB w g u0 u1 u2 u3) : w.cell? ⟨g, 3, none⟩ = some u3 := by rw [cell_of_row w g 3 _ _ _ h]; rfl
set_option maxRecDepth 100000 in
theorem YB.nb (h : YB w g u0 u1 u2 u3) : NE w g := ⟨_, h, by decide, by decide, by decide, by decide, by decide, by decide⟩
set_option maxRecDepth 100000 in
theorem YB.put (h : YB w g u0 u1 u2 u3) (v0 v1 v2 v3 : Value) : YB ((((w.setCell ⟨g, 0, none⟩ v0).setCell ⟨g, 1, none⟩ v1).setCell ⟨g, 2, none⟩ v2).setCell ⟨g, 3, none⟩ v3) g v0 v1 v2 v3 := by
 unfold YB at h ⊢
 simp only [World.setCell, Array.getElem?_modify, if_pos, h]
 rfl
set_option maxRecDepth 100000 in
theorem YB.puto (v0 v1 v2 v3 : Value) : Off (· = g) w ((((w.setCell ⟨g, 0, none⟩ v0).setCell ⟨g, 1, none⟩ v1).setCell ⟨g, 2, none⟩ v2).setCell ⟨g, 3, none⟩ v3) :=
 ((((Off.refl (· = g) w).setCell _ rfl).setCell _ rfl).setCell _ rfl).setCell _ rfl
end
def made10E (gj gb : Nat) : EnS := ⟨newD 140, newJ 0 120 1 0 1, gj, gb, true⟩
def yV (z : Wh) (gj : Nat) : Value := .agg #[.pointer (some ⟨z.gd, 0, none⟩), .pointer (some ⟨gj, 0, none⟩), .pointer (some ⟨z.gp, 0, none⟩), .pointer (some ⟨z.ga, 0, none⟩)]
set_option maxRecDepth 100000 in
set_option maxHeartbeats 1000000 in
theorem made10_any (f : Nat) (w0 w : World) (hb0 : Below w0.heap.size w0 w) (hf1 : 2 ≤ f) (hf2 : f ≤ 256) :
  Calls Tryz.prog 26 #[.int .i64 (f : Int)] w fun e w' => ∃ z gj gb T, e = .returned (.tuple #[yV z gj, .bool true]) ∧ AZ w0 w' z (made10E gj gb) (newP 120 20 f 1 0) newA T ∧ Below w.heap.size w w' := by
 have hba := gr_alloc (gr_refl w) (.cells #[.pointer none, .pointer none, .pointer none, .pointer none] 53)
 have hyb : YB (w.alloc (.cells #[.pointer none, .pointer none, .pointer none, .pointer none] 53)) w.heap.size (.pointer none) (.pointer none) (.pointer none) (.pointer none) := heap_alloc_new _ _
 have hd : Calls Tryz.prog 58 #[.int .i64 140] (w.alloc (.cells #[.pointer none, .pointer none, .pointer none, .pointer none] 53)) fun e w' => ∃ gd S, e = .returned (.tuple #[.pointer (some ⟨gd, 0, none⟩), .int .i64 0]) ∧ DS w0 w' gd (newD 140) S ∧ Below (w.alloc (.cells #[.pointer none, .pointer none, .pointer none, .pointer none] 53)).heap.size (w.alloc (.cells #[.pointer none, .pointer none, .pointer none, .pointer none] 53)) w' ∧ ∀ k, S k → (w.alloc (.cells #[.pointer none, .pointer none, .pointer none, .pointer none] 53)).heap.size ≤ k := DNew_ds 140 w0 _ (by omega) (by omega) (gr_trans hb0 hba)
 have HD := Lib.hid hd
 have HYB := Lib.hid hyb
 have HBA := Lib.hid hba
 have HB0 := Lib.hid hb0
 have HSZ : Hid ((w.alloc (.cells #[.pointer none, .pointer none, .pointer none, .pointer none] 53)).heap.size = w.heap.size + 1) := Lib.hid (World.size_alloc ..)
 have hmf : ∀ (fn : Fn) (first cap : Array Value) (w : World), (Instr.makeFunc fn first cap).run Tryz.prog w = .ok (.func fn first cap) w := fun _ _ _ _ => rfl
 have HLN : Hid ((newD 140).blocks.length = 140) := Lib.hid (List.length_replicate ..)
 clear hd hyb hba hb0
 go_enter Tryz.func26, Tryz.ntmps26
 go_wp2_with fail
 generalize w.alloc (.cells #[.pointer none, .pointer none, .pointer none, .pointer none] 53) = wa at *
 refine HD.out.mono ?_
 rintro e w2 ⟨gd, S, rfl, hds, hb2, hS⟩
 have HJ : Hid (Calls Tryz.prog 59 #[.pointer (some ⟨gd, 0, none⟩), .int .i64 0, .int .i64 120, .int .i64 1, .int .i64 0, .int .i64 1] w2 fun e w' => ∃ gj S', e = .returned (.tuple #[.pointer (some ⟨gj, 0, none⟩), .int .i64 0]) ∧ JS w0 w' gd gj (newD 140) (newJ 0 120 1 0 1) S' ∧ Below w2.heap.size w2 w' ∧ Mv S S' w2 w') :=
  Lib.hid (JNew_js 0 120 1 0 1 hds (by rw [HLN.out]; exact mayB_new (ring := 120) (n := 20) (by omega) (by omega)))
 have HB2 := Lib.hid hb2
 have HS := Lib.hid hS
 clear hds hb2 hS
 go_wp2_with fail
 refine HJ.out.mono ?_
 rintro e w3 ⟨gj, S', rfl, hjs, hb3, hm3⟩
 have hb4 := gr_alloc (gr_refl w3) (.cells #[.pointer (some ⟨gj, 0, none⟩)] 50)
 have hbox := heap_alloc_new w3 (.cells #[.pointer (some ⟨gj, 0, none⟩)] 50)
 have hie : IsE (w3.alloc (.cells #[.pointer (some ⟨gj, 0, none⟩)] 50)) w0.heap.size gd S' (made10E gj w3.heap.size) := IsE.of (hjs.below hb4) hbox hjs.bel.size
 have HP : Hid (Calls Tryz.prog 60 #[.pointer (some ⟨gd, 0, none⟩), .int .i64 120, .int .i64 20, .int .i64 (f : Int), .int .i64 1, .int .i64 0, .func (.func 73) #[] #[.pointer (some ⟨w3.heap.size, 0, none⟩)]] (w3.alloc (.cells #[.pointer (some ⟨gj, 0, none⟩)] 50)) fun e w' => e = .returned (.tuple #[.pointer (some ⟨(w3.alloc (.cells #[.pointer (some ⟨gj, 0, none⟩)] 50)).heap.size + 1, 0, none⟩), .int .i64 0]) ∧ PX w' w0.heap.size ((w3.alloc (.cells #[.pointer (some ⟨gj, 0, none⟩)] 50)).heap.size + 1) gd (.func (.func 73) #[] #[.pointer (some ⟨w3.heap.size, 0, none⟩)]) (made10E gj w3.heap.size) (newP 120 20 f 1 0) S' (.slice none 0 0) (w3.alloc (.cells #[.pointer (some ⟨gj, 0, none⟩)] 50)).heap.size [] ∧ Below (w3.alloc (.cells #[.pointer (some ⟨gj, 0, none⟩)] 50)).heap.size (w3.alloc (.cells #[.pointer (some ⟨gj, 0, none⟩)] 50)) w') :=
  Lib.hid (PNew_any _ w0.heap.size gd S' (made10E gj w3.heap.size) 120 20 f 1 0 _ hie (.inr ⟨_, _, rfl⟩) (by
   show mayP ((newD 140).blocks.length) _ _ _ _ _ = true
   rw [HLN.out]
   exact mayP_new (ring := 120) (n := 20) (by omega) hf1 hf2))
 have HBOX := Lib.hid hbox
 have HB3 := Lib.hid (gr_trans (gr_trans HB2.out hb3) hb4)
 have HT3 : Hid (∀ k, S' k → wa.heap.size ≤ k) := Lib.hid (fun k e => (hm3.2 k e).elim (HS.out k) (fun e => Nat.le_trans HB2.out.size e))
 clear hjs hb3 hm3 hb4 hbox hie
 have HGP : Hid (wa.heap.size ≤ (w3.alloc (.cells #[.pointer (some ⟨gj, 0, none⟩)] 50)).heap.size) := Lib.hid HB3.out.size
 obtain ⟨mb, hmb⟩ : ∃ mb, mb = (w3.alloc (.cells #[.pointer (some ⟨gj, 0, none⟩)] 50)).heap.size := ⟨_, rfl⟩
 have HMB := Lib.hid hmb
 rw [← hmb] at HGP
 clear hmb
 go_wp2_with fail
 refine HP.out.mono ?_
 rintro e w5 ⟨rfl, hpx, hb5⟩
 rw [← HMB.out] at hpx hb5 ⊢
 have hcell : w5.cell? ⟨w3.heap.size, 0, none⟩ = some (.pointer (some ⟨gj, 0, none⟩)) := keep_of_below (by rw [← HMB.out]; exact hb5) (box_cell HBOX.out)
 have HA : Hid (Calls Tryz.prog 52 #[.pointer (some ⟨mb + 1, 0, none⟩), .pointer (some ⟨gj, 0, none⟩)] w5 fun e w' => ∃ ga T, e = .returned (.tuple #[.pointer (some ⟨ga, 0, none⟩), .int .i64 0]) ∧ AZ w0 w' ⟨gd, mb + 1, .func (.func 73) #[] #[.pointer (some ⟨w3.heap.size, 0, none⟩)], ga⟩ (made10E gj w3.heap.size) (newP 120 20 f 1 0) newA T ∧ Below w5.heap.size w5 w' ∧ ∀ k, T k → PS (mb + 1) S' (.slice none 0 0) mb [] k ∨ w5.heap.size ≤ k) :=
  Lib.hid (ANew_az (gr_trans (gr_trans (gr_trans HB0.out HBA.out) HB3.out) (by rw [← HMB.out]; exact hb5)) hpx (wal10 (D0 := made10E gj w3.heap.size) rfl) (by show (1 : Nat) ≤ 20; omega) (by show (1 : Nat) ≠ 0; omega))
 have HB5 := Lib.hid (gr_trans HB3.out (by rw [← HMB.out]; exact hb5))
 clear hpx hb5
 go_wp2_with fail
 refine HA.out.mono ?_
 rintro e w6 ⟨ga, T, rfl, haz, hb6, hT⟩
 have HB6 := Lib.hid (gr_trans HB5.out hb6)
 have hyb6 := HYB.out.below HB6.out
 have hc6 := keep_of_below hb6 hcell
 have HY6 := Lib.hid hyb6
 have HNT : Hid (¬ T w.heap.size) := Lib.hid (fun e => by
  have h1 := HSZ.out
  have h2 := HGP.out
  have h3 := HB5.out.size
  rcases hT _ e with e | e
  ·rcases e with e | e | e | e | ⟨x, hx, _⟩
   ·have := HT3.out _ e
    omega
   ·omega
   ·omega
   ·simp [Value.ownBlock] at e
   ·cases hx
  ·omega)
 have HAZ := Lib.hid haz
 have f0 := hyb6.frozen 0
 have f1 := hyb6.frozen 1
 have f2 := hyb6.frozen 2
 have f3 := hyb6.frozen 3
 have z0 := hyb6.c0
 have z1 := hyb6.c1
 have z2 := hyb6.c2
 have z3 := hyb6.c3
 clear haz hb6 hT hcell hyb6
 go_wp2_with fail
 have hyf := HY6.out.put (.pointer (some ⟨gd, 0, none⟩)) (.pointer (some ⟨gj, 0, none⟩)) (.pointer (some ⟨mb + 1, 0, none⟩)) (.pointer (some ⟨ga, 0, none⟩))
 have hof := YB.puto (w := w6) (g := w.heap.size) (.pointer (some ⟨gd, 0, none⟩)) (.pointer (some ⟨gj, 0, none⟩)) (.pointer (some ⟨mb + 1, 0, none⟩)) (.pointer (some ⟨ga, 0, none⟩))
 clear f0 f1 f2 f3 z0 z1 z2 z3
 generalize (((w6.setCell ⟨w.heap.size, 0, none⟩ (.pointer (some ⟨gd, 0, none⟩))).setCell ⟨w.heap.size, 1, none⟩ (.pointer (some ⟨gj, 0, none⟩))).setCell ⟨w.heap.size, 2, none⟩ (.pointer (some ⟨mb + 1, 0, none⟩))).setCell ⟨w.heap.size, 3, none⟩ (.pointer (some ⟨ga, 0, none⟩)) = w7 at hyf hof ⊢
 have z0 := hyf.c0
 have z1 := hyf.c1
 have z2 := hyf.c2
 have z3 := hyf.c3
 refine bodyPost_ret (v := .tuple #[yV ⟨gd, mb + 1, .func (.func 73) #[] #[.pointer (some ⟨w3.heap.size, 0, none⟩)], ga⟩ gj, .bool true]) (by simp [results, Tryz.results26, go_sem, z0, z1, z2, z3, yV]) rfl ⟨_, gj, w3.heap.size, T, rfl, HAZ.out.nb hof ?_, ?_⟩
 ·rintro k rfl
  exact ⟨HY6.out.nb, HNT.out, HB0.out.size⟩
 ·have h5 := HB6.out
  have h6 := HBA.out
  exact (gr_trans h6 h5).trans (hof.below (by rintro k rfl; exact Nat.le_refl _) (gr_trans h6 h5).size)
end Go.Proofs.YtnkeclpgpiogoaaGreat

/-! BtC -/
namespace Go.Proofs.YtnkeclpgpiogoaaGreat
open Go Go.RowKit Go.Maps
set_option maxRecDepth 100000 in
theorem CI.flush {E : EnS} {P : PoS} {now : Nat → List UInt8} {recs : List Rec} {U : Nat} (h : CI E P now recs U) : fluE E.d E.j = 0 ∧ CI { E with d := fluD E.d E.j, j := fluJ E.d E.j } P now recs U ∧ (fluJ E.d E.j).sy = recs.length := by
 obtain ⟨h1, h2, h3⟩ := h.lc.flush h.ti
 obtain ⟨g1, g2, _, _⟩ := fluJ_shape E.d E.j
 exact ⟨h1, ⟨h.ti.env (fluD_blocks _ _) g1 g2 (fun x hx hl => visL_flu hl (by have := h.ti.fb; omega) h.ti.b0), h2⟩, h3⟩
set_option maxRecDepth 100000 in
theorem CI.scan {E : EnS} {P : PoS} {now : Nat → List UInt8} {recs : List Rec} {U : Nat} (h : CI E P now recs U) (hs : E.j.sy = recs.length) : scanR E.d E.j.fi E.j.bl E.j.ep 0 1 = recs := by
 obtain ⟨fs, cur, h1, h2, h3, h4⟩ := h.lc.ex
 have hc : cur = [] := by
  have := congrArg List.length h2
  rw [List.length_append] at this
  exact List.length_eq_zero_iff.1 (by omega)
 have hfb := h.ti.fb
 have hb0 := h.ti.b0
 have hji := h1.ji.b2
 have hft := h1.fits
 have hC : ringC E.d E.j.fi E.j.bl 0 = fun k => E.d.blocks.getD (E.j.fi + (0 + k) % E.j.bl) [] := by
  funext k
  unfold ringC
  refine lastL_none (fun q hq => ?_)
  have := h.lc.po q hq
  have := Nat.mod_lt (0 + k) hb0
  omega
 refine (scan_log (by rw [hC]; exact h1.log) (by omega) (scan_stop (b := [0]) (m := 0) (by simp) (by simp [needL]) (fun j hj => by omega) (.inr ?_))).1.trans ?_
 ·rw [hC]
  simp only [Nat.add_zero]
  rw [← h1.ct]
  exact h1.old _ (Nat.mod_lt _ hb0) _ (Nat.le_refl _) (by have := h1.ct; omega)
 ·rw [← h2, hc, List.append_nil]
structure SJ (w0 w : World) (z : Wh) (n bl gj : Nat) (T : Nat → Prop) (now : Nat → List UInt8) (c : Nat) (recs : List Rec) (V : Nat) (im : List (Nat × Unit)) : Prop where
 ex : ∃ D P A, AZ w0 w z D P A T ∧ CI D P now recs V ∧ P.pages = n ∧ A.br = false ∧ A.im = im ∧ P.count ≤ c ∧ D.j.bl = bl ∧ D.j.fi = 0 ∧ D.j.ep = 1 ∧ D.gj = gj
structure SF (w0 w : World) (z : Wh) (n bl gj : Nat) (T : Nat → Prop) (now : Nat → List UInt8) (c : Nat) (recs : List Rec) (V : Nat) (im : List (Nat × Unit)) : Prop where
 ex : ∃ D P A, AZ w0 w z D P A T ∧ CI D P now recs V ∧ P.pages = n ∧ A.br = false ∧ A.im = im ∧ P.count ≤ c ∧ D.j.bl = bl ∧ D.j.fi = 0 ∧ D.j.ep = 1 ∧ D.gj = gj ∧ D.j.sy = recs.length
section
variable {w0 w w1 w' : World} {z : Wh} {n bl gj c V : Nat} {T T1 T' U : Nat → Prop} {now : Nat → List UInt8} {recs : List Rec} {im : List (Nat × Unit)} {gx : Nat} {st : List (Nat × List UInt8)}
set_option maxRecDepth 100000 in
theorem SJ.below (h : SJ w0 w z n bl gj T now c recs V im) (hb : Below w.heap.size w w') : SJ w0 w' z n bl gj T now c recs V im := by
 obtain ⟨D, P, A, h1, r⟩ := h.ex
 exact ⟨D, P, A, h1.below hb, r⟩
set_option maxRecDepth 100000 in
theorem SJ.lt (h : SJ w0 w z n bl gj T now c recs V im) {k : Nat} (hk : T k) : w0.heap.size ≤ k ∧ k < w.heap.size := by
 obtain ⟨D, P, A, h1, r⟩ := h.ex
 exact h1.lt hk
set_option maxRecDepth 100000 in
theorem SJ.bel (h : SJ w0 w z n bl gj T now c recs V im) : Below w0.heap.size w0 w := by
 obtain ⟨D, P, A, h1, r⟩ := h.ex
 exact h1.bel
set_option maxRecDepth 100000 in
theorem SF.sj (h : SF w0 w z n bl gj T now c recs V im) : SJ w0 w z n bl gj T now c recs V im := by
 obtain ⟨D, P, A, h1, h2, h3, h4, h5, h6, h7, h8, h9, h10, _⟩ := h.ex
 exact ⟨D, P, A, h1, h2, h3, h4, h5, h6, h7, h8, h9, h10⟩
set_option maxRecDepth 100000 in
theorem SF.below (h : SF w0 w z n bl gj T now c recs V im) (hb : Below w.heap.size w w') : SF w0 w' z n bl gj T now c recs V im := by
 obtain ⟨D, P, A, h1, r⟩ := h.ex
 exact ⟨D, P, A, h1.below hb, r⟩
set_option maxRecDepth 100000 in
theorem SJ.new10 {f gb : Nat} (h : AZ w0 w z (made10E gj gb) (newP 120 20 f 1 0) newA T) (hf1 : 2 ≤ f) (hf2 : f ≤ 256) : SJ w0 w z 20 120 gj T (fun _ => zP) 0 [] 0 [] :=
 ⟨_, _, _, h, (CI.new (by omega) (by omega) (by omega) (by omega) (by omega) : CI ⟨newD (120 + 20), newJ 0 120 1 0 1, gj, gb, true⟩ (newP 120 20 f 1 0) (fun _ => zP) [] 0), rfl, rfl, rfl, Nat.le_refl _, rfl, rfl, rfl, rfl⟩
set_option maxRecDepth 100000 in
theorem Begin_sj (h : SJ w0 w z n bl gj T now c recs V im) :
  Calls Tryz.prog 13 #[.pointer (some ⟨z.ga, 0, none⟩)] w fun e w' => ∃ gx U, e = .returned (.pointer (some ⟨gx, 0, none⟩)) ∧ SJ w0 w' z n bl gj T now c recs V im ∧ XG w0 w' z n gx [] T U ∧ Below w.heap.size w w' ∧ w.heap.size ≤ gx ∧ ∀ k, U k → w.heap.size ≤ k := by
 obtain ⟨D, P, A, h1, r⟩ := h.ex
 refine (Begin_az h1).mono ?_
 rintro e w' ⟨gx, U, rfl, a1, a2, a3, a4, a5⟩
 exact ⟨gx, U, rfl, ⟨D, P, A, a1, r⟩, ⟨a2, XOk.new n⟩, a3, a4, a5⟩
set_option maxRecDepth 100000 in
theorem Set_sj (h : SJ w0 w z n bl gj T now c recs V im) (hx : XG w0 w z n gx st T U) (p : Nat) (B : Option Addr) (k : Nat) (l : List UInt8) (hb : BR w B 4080 l) (hp : p < n) (h16 : st.length < 16 ∨ findS st p ≠ none) :
  Calls Tryz.prog 19 #[.pointer (some ⟨gx, 0, none⟩), .int .i64 (p : Int), .slice B 4080 k] w fun e w' => e = .returned (.int .i64 0) ∧ SJ w0 w' z n bl gj T now c recs V im ∧ XG w0 w' z n gx (insS p l st) T U ∧ Off U w w' := by
 obtain ⟨D, P, A, h1, h2, h3, h4, r⟩ := h.ex
 have hpp : P.pages ≤ 4096 := by have := h1.pi.fit; have := h1.pi.d2; omega
 have hl : l.length = 4080 := hb.len
 obtain ⟨e1, e2⟩ := aset_ok (P := P) (A := A) (X := ⟨st, false⟩) rfl h4 (p := p) (by omega) hl h16
 refine (Set_at h1 hx.xz (p : Int) B 4080 k l hb (by omega) (by omega) hx.ok.most).mono ?_
 rw [e1, e2]
 rintro e w' ⟨rfl, a1, a2, a3⟩
 exact ⟨rfl, ⟨D, P, A, a1, h2, h3, h4, r⟩, ⟨a2, hx.ok.ins hp hl h16⟩, a3⟩
set_option maxRecDepth 100000 in
theorem Done_sj (h : SJ w0 w z n bl gj T now c recs V im) (hx : XG w0 w z n gx st T U) (tx : Int) (t1 : 0 ≤ tx) (t2 : tx ≤ 4611686018427387904) (hV : V + (st.length + 1) ≤ bl) (hr : recs.length ≤ 1000000) (him : im.length ≤ 4096) (hc : c ≤ 800000) :
  Calls Tryz.prog 15 #[.pointer (some ⟨gx, 0, none⟩), .int .i64 tx] w fun e w' => e = .returned (.tuple #[.int .i64 ((recs ++ if chgL im now st = [] then [] else [(⟨1, tx, chgL im now st⟩ : Rec)]).length : Int), .int .i64 0]) ∧
   ∃ T', SJ w0 w' z n bl gj T' (nowD now st) (c + 32) (recs ++ if chgL im now st = [] then [] else [⟨1, tx, chgL im now st⟩]) (V + (st.length + 1)) (markF (chgL im now st) im) ∧ XZ w' w0.heap.size z.ga gx ⟨st, true⟩ T' U ∧ Off (TU T U) w w' ∧ ∀ k, T' k → T k ∨ w.heap.size ≤ k := by
 obtain ⟨D, P, A, h1, h2, h3, h4, h5, h6, h7, h8, h9, h10⟩ := h.ex
 subst h5
 have hpp := pool_pages h1
 have hpl := h2.lc.pl
 have hla := h2.lc.la
 have hmost := hx.ok.most
 obtain ⟨s1, s2, s3, s4, s5, s6⟩ := SameG.done D P A ⟨st, false⟩ tx
 obtain ⟨E', P', q1, q2, q3, q4⟩ := h2.done (A := A) (X := ⟨st, false⟩) (by rw [h3]; exact hx.ok) rfl h4 t1 t2 (by rw [h7]; exact hV) hr
 refine (Done_at h1 hx.xz tx hmost (fun e he => by have := (hx.ok.ok e he).1; omega) (by omega) (by omega) (by omega) him).mono ?_
 rintro e w' ⟨rfl, T', a1, a2, a3, a4⟩
 rw [q1] at a1 a2 s1 s4 s5 s6 ⊢
 dsimp only at a1 a2 s1 s4 s5 s6
 refine ⟨rfl, T', ⟨_, _, _, a1, q2, q3.trans h3, h4, rfl, ?_, s5.trans h7, s4.trans h8, s6.trans h9, s1.trans h10⟩, a2, a3, a4⟩
 have q4' : P'.count ≤ P.count + 2 * st.length := q4
 omega
set_option maxRecDepth 100000 in
theorem Flush_az {D : EnS} {P : PoS} {A : AtS} (h : AZ w0 w z D P A T) (hpd : D.d.pending.length ≤ 900000) :
  Calls Tryz.prog 41 #[.pointer (some ⟨D.gj, 0, none⟩)] w fun e w' => e = .returned (.int .i64 (fluE D.d D.j)) ∧ ∃ T', AZ w0 w' z { D with d := fluD D.d D.j, j := fluJ D.d D.j } P A T' ∧ Mv T T' w w' := by
 obtain ⟨F, tv, mb, q, im, h1, h2, h3, h4, h5, h6, h7, h8, h9⟩ := h.ex
 obtain ⟨w1, e1, hj, hnx⟩ := h1.dk.next
 obtain ⟨g1, g2, g3, _⟩ := fluJ_shape D.d D.j
 refine (JFlush_js hj hpd).mono ?_
 rintro e w' ⟨rfl, F', j1, j2⟩
 have hx := h1.env (hnx _ _ _ _ j1 j2) j2 (fluD_blocks _ _)
 obtain ⟨T', ha, hm, _⟩ := h.step h2 h3 h4 h5 h6 h7 h9 (D' := { D with d := fluD D.d D.j, j := fluJ D.d D.j }) ⟨rfl, rfl, rfl, g1, g2, g3⟩ hx (j2.1.mono (fun k _ e => .inl e)) (fun k e => by
  rcases e with e | e
  ·exact (j2.2 k e).imp .inl id
  ·exact .inl (.inr e))
 exact ⟨rfl, T', ha, hm⟩
set_option maxRecDepth 100000 in
theorem Flush_sj (h : SJ w0 w z n bl gj T now c recs V im) (hc : c ≤ 900000) :
  Calls Tryz.prog 41 #[.pointer (some ⟨gj, 0, none⟩)] w fun e w' => e = .returned (.int .i64 0) ∧ ∃ T', SF w0 w' z n bl gj T' now c recs V im ∧ Mv T T' w w' := by
 obtain ⟨D, P, A, h1, h2, h3, h4, h5, h6, h7, h8, h9, rfl⟩ := h.ex
 have hpl := h2.lc.pl
 obtain ⟨g1, g2, g3, _⟩ := fluJ_shape D.d D.j
 obtain ⟨q1, q2, q3⟩ := h2.flush
 refine (Flush_az h1 (by omega)).mono ?_
 rw [q1]
 rintro e w' ⟨rfl, T', a1, a2⟩
 exact ⟨rfl, T', ⟨_, _, A, a1, q2, h3, h4, h5, h6, g2.trans h7, g1.trans h8, g3.trans h9, rfl, q3⟩, a2⟩
set_option maxRecDepth 100000 in
theorem Scan_sf (h : SF w0 w z n bl gj T now c recs V im) (hc : c ≤ 900000) :
  Calls Tryz.prog 43 #[.pointer (some ⟨z.gd, 0, none⟩), .int .i64 0, .int .i64 (bl : Int), .int .i64 1, .int .i64 0, .int .i64 1] w fun e w' => ∃ v p1 p2, e = .returned (.tuple #[v, .int .i64 p1, .int .i64 p2, .int .i64 0]) ∧ ORW w' w.heap.size v recs ∧ Below w.heap.size w w' := by
 obtain ⟨D, P, A, h1, h2, h3, h4, h5, h6, rfl, h8, h9, h10, h11⟩ := h.ex
 obtain ⟨F, tv, mb, q, im, k1, _⟩ := h1.ex
 have hjs := k1.dk.js h1.bel
 obtain ⟨S', hds, _⟩ := hjs.ds
 have hji := hjs.ji
 have hpl := h2.lc.pl
 have hfb := h2.ti.fb
 have hnb := h2.ti.nb
 have hsc := h2.scan h11
 rw [h8, h9] at hsc
 have hm : mayB D.d.blocks.length (0 : Nat) (D.j.bl : Nat) (1 : Nat) (0 : Nat) (1 : Nat) = true := by
  have b1 := hji.b1
  have b2 := hji.b2
  unfold mayB
  simp only [Bool.and_eq_true, decide_eq_true_eq]
  refine ⟨?_, ?_, ?_, ?_, ?_, ?_, ?_, ?_, ?_, ?_⟩ <;> omega
 refine (Scan_js 0 D.j.bl 1 0 1 hds hm h2.lc.easy.1 (by omega)).mono ?_
 rintro e w' ⟨v, rfl, hv, hb⟩
 rw [hsc] at hv
 exact ⟨v, _, _, rfl, hv, hb⟩
end
end Go.Proofs.YtnkeclpgpiogoaaGreat

/-! BtD -/
namespace Go.Proofs.YtnkeclpgpiogoaaGreat
open Go Go.RowKit Go.Maps
set_option maxRecDepth 100000 in
theorem pay1_len : (payT 1 []).length = 4080 := payT_len 1 []
set_option maxRecDepth 100000 in
theorem made_at (seed : Int) (n i : Nat) (hi : i < n) : (madeL seed n).getD i 0 = UInt8.ofNat (madeX seed (i + 1) / 1099511627776 % 256).toNat := by
 unfold madeL
 rw [List.getD_eq_getElem?_getD, List.getElem?_map, List.getElem?_range hi]
 rfl
set_option maxRecDepth 100000 in
theorem pay1_0 : (payT 1 []).getD 0 0 ≠ 0 := by
 rw [show payT 1 [] = madeL 1 4080 from rfl, made_at 1 4080 0 (by omega)]
 decide
set_option maxRecDepth 100000 in
theorem pay1_7 : (payT 1 []).getD 7 0 ≠ 0 := by
 rw [show payT 1 [] = madeL 1 4080 from rfl, made_at 1 4080 7 (by omega)]
 decide
set_option maxRecDepth 100000 in
theorem pay1_zP : zP ≠ payT 1 [] := fun e => by
 have h := pay1_0
 rw [← e] at h
 exact h (by unfold zP; rw [List.getD_eq_getElem?_getD, List.getElem?_replicate_of_lt (by omega)]; rfl)
set_option maxRecDepth 100000 in
theorem pay17 : payT 1 [7] = (payT 1 []).set 7 0 := rfl
set_option maxRecDepth 100000 in
theorem pay17_ne : payT 1 [] ≠ payT 1 [7] := fun e => by
 have h := pay1_7
 rw [e, pay17] at h
 refine h ?_
 rw [List.getD_eq_getElem?_getD, List.getElem?_set_self (by rw [pay1_len]; omega)]
 rfl
set_option maxRecDepth 100000 in
theorem unl_one (a : List UInt8) (ha : a.length = 4080) (h7 : a.getD 7 0 ≠ 0) : unlTo a (a.set 7 0) 4080 = [7] := by
 have e : unlTo a (a.set 7 0) 4080 = (List.range 4080).filter (fun i => i == 7) := by
  unfold unlTo
  refine List.filter_congr fun i hi => ?_
  have hi := List.mem_range.1 hi
  by_cases h : i = 7
  ·subst h
   have h2 : (a.set 7 0).getD 7 0 = 0 := by
    rw [List.getD_eq_getElem?_getD, List.getElem?_set_self (by omega)]
    rfl
   rw [h2]
   simpa using h7
  ·have h2 : (a.set 7 0).getD i 0 = a.getD i 0 := by
    rw [List.getD_eq_getElem?_getD, List.getElem?_set_ne (fun e => h e.symm), ← List.getD_eq_getElem?_getD]
   rw [h2, bne_self_eq_false]
   exact (beq_false_of_ne h).symm
 rw [e]
 decide +kernel
set_option maxRecDepth 100000 in
theorem piece_one (a : List UInt8) (ha : a.length = 4080) (h7 : a.getD 7 0 ≠ 0) : (diffL a (a.set 7 0)).length = 1 := by
 unfold diffL dst
 rw [unl_one a ha h7]
 rfl
structure YK (w : World) (z : Wh) (gj g : Nat) (T : Nat → Prop) : Prop where
 yb : YB w g (.pointer (some ⟨z.gd, 0, none⟩)) (.pointer (some ⟨gj, 0, none⟩)) (.pointer (some ⟨z.gp, 0, none⟩)) (.pointer (some ⟨z.ga, 0, none⟩))
 nt : ¬ T g
section
variable {w w' : World} {z : Wh} {gj g : Nat} {T T' S : Nat → Prop}
set_option maxRecDepth 100000 in
theorem YK.below (h : YK w z gj g T) (hb : Below w.heap.size w w') : YK w' z gj g T := ⟨h.yb.below hb, h.nt⟩
set_option maxRecDepth 100000 in
theorem YK.off (h : YK w z gj g T) (ho : Off S w w') (hs : ¬ S g) (hT : ∀ k, T' k → T k ∨ w.heap.size ≤ k) : YK w' z gj g T' := ⟨h.yb.off ho hs, fun e => (hT g e).elim h.nt (fun e => by have := h.yb.lt; omega)⟩
set_option maxRecDepth 100000 in
theorem YK.mv (h : YK w z gj g T) (hm : Mv T T' w w') : YK w' z gj g T' := h.off hm.1 h.nt hm.2
end
set_option maxRecDepth 100000 in
set_option maxRecDepth 100000 in
set_option maxRecDepth 100000 in
set_option maxRecDepth 100000 in
set_option maxRecDepth 100000 in
set_option maxRecDepth 100000 in
set_option maxRecDepth 100000 in
theorem YK.new {w0 w : World} {z : Wh} {n bl gj c V : Nat} {T : Nat → Prop} {now : Nat → List UInt8} {recs : List Rec} {im : List (Nat × Unit)} (h : SJ w0 w z n bl gj T now c recs V im) :
  YK (w.alloc (.cells #[.pointer (some ⟨z.gd, 0, none⟩), .pointer (some ⟨gj, 0, none⟩), .pointer (some ⟨z.gp, 0, none⟩), .pointer (some ⟨z.ga, 0, none⟩)] 53)) z gj w.heap.size T :=
 ⟨heap_alloc_new _ _, fun e => by have := (h.lt e).2; omega⟩
set_option maxRecDepth 100000 in
theorem st3 (m : List UInt8) : (insS 3 m [] : List (Nat × List UInt8)) = [(3, m)] := rfl
set_option maxRecDepth 100000 in
theorem chg_img (im : List (Nat × Unit)) (now : Nat → List UInt8) (p : Nat) (m : List UInt8) (h : now p ≠ m) (hi : findS im p = none) : chgL im now [(p, m)] = [((p : Int), m, [])] := by
 unfold chgL
 rw [if_neg h]
 unfold chg1
 rw [hi]
 rfl
set_option maxRecDepth 100000 in
theorem chg_pcs (im : List (Nat × Unit)) (now : Nat → List UInt8) (p : Nat) (m : List UInt8) (h : now p ≠ m) (hi : findS im p ≠ none) : chgL im now [(p, m)] = [((p : Int), [], diffL (now p) m)] := by
 unfold chgL
 rw [if_neg h]
 unfold chg1
 rw [if_pos (Option.isSome_iff_ne_none.2 hi)]
 rfl
set_option maxRecDepth 100000 in
theorem mark_img (p : Nat) (m : List UInt8) (im : List (Nat × Unit)) (h : 0 < m.length) : markF [((p : Int), m, [])] im = insS p () im := by
 unfold markF
 rw [if_pos h]
 rfl
set_option maxRecDepth 100000 in
theorem mark_pcs (p : Nat) (ps : List Pc) (im : List (Nat × Unit)) : markF [((p : Int), [], ps)] im = im := rfl
set_option maxRecDepth 100000 in
theorem nowD_one (now : Nat → List UInt8) (p : Nat) (m : List UInt8) : nowD now [(p, m)] p = m := by
 unfold nowD
 have : findS [(p, m)] p = some m := by simp [findS]
 rw [this]
 rfl
set_option maxRecDepth 100000 in
theorem piece17 : (diffL (payT 1 []) (payT 1 [7])).length = 1 := by
 rw [pay17]
 exact piece_one _ pay1_len pay1_7
def recsA (m : List UInt8) (ps : List Pc) : List Rec := [⟨1, 1, [(3, m, [])]⟩, ⟨1, 1, [(3, [], ps)]⟩]
set_option maxRecDepth 100000 in
theorem recsA_rows {w : World} {base : Nat} {v : Value} {m : List UInt8} {ps : List Pc} (h : ORW w base v (recsA m ps)) (hm : m.length = 4080) (hp : ps.length = 1) :
  ∃ gr o cr g1 o1 d1 g2 o2 d2 B1 b1 Q2 q2, v = .slice (some ⟨gr, o, none⟩) 2 cr ∧ w.cell? ⟨gr, o + 0 * 3 + 2, none⟩ = some (.slice (some ⟨g1, o1, none⟩) 1 d1) ∧ w.cell? ⟨gr, o + 1 * 3 + 2, none⟩ = some (.slice (some ⟨g2, o2, none⟩) 1 d2) ∧
   w.cell? ⟨g1, o1 + 0 * 3 + 1, none⟩ = some (.slice B1 4080 b1) ∧ w.cell? ⟨g2, o2 + 0 * 3 + 1 + 1, none⟩ = some (.slice Q2 1 q2) := by
 obtain ⟨Ar, cr, rfl, hrw, _, _⟩ := h.rw
 obtain ⟨gr, o, D1, d1, rfl, _, _, c1, k1, _, _⟩ := hrw.at_ (i := 0) (by simp [recsA])
 obtain ⟨gr', o', D2, d2, er, _, _, c2, k2, _, _⟩ := hrw.at_ (i := 1) (by simp [recsA])
 injection er with er
 injection er with e1 e2 _
 subst e1 e2
 obtain ⟨g1, o1, B1, b1, Q1, q1, rfl, _, m1, n1, _⟩ := k1.at_ (i := 0) (by simp [recsA])
 obtain ⟨g2, o2, B2, b2, Q2, q2, rfl, _, m2, n2, _⟩ := k2.at_ (i := 0) (by simp [recsA])
 have e1 : (((recsA m ps).getD 0 rec0).cs.getD 0 ch0).2.1 = m := rfl
 have e2 : (((recsA m ps).getD 1 rec0).cs.getD 0 ch0).2.2 = ps := rfl
 rw [e1, hm] at m1
 rw [e2, hp] at n2
 exact ⟨gr, o, cr, g1, o1, d1, g2, o2, d2, B1, b1, Q2, q2, rfl, c1, c2, m1, n2⟩
set_option maxRecDepth 100000 in
set_option maxHeartbeats 2000000 in
theorem awake10_any (w : World) : Calls Tryz.prog 31 #[] w fun e w' => e = .returned (.bool true) ∧ Below w.heap.size w w' := by
 have HM := Lib.hid (made10_any 4 w w (gr_refl w) (by omega) (by omega))
 go_enter Tryz.func31, Tryz.ntmps31
 go_wp2_with fail
 refine HM.out.mono ?_
 rintro e w1 ⟨z, gj, gb, T, rfl, haz, hb1⟩
 have hs0 := SJ.new10 haz (by omega) (by omega)
 have hyk := YK.new hs0
 have hs1 := hs0.below (gr_alloc (gr_refl w1) (.cells #[.pointer (some ⟨z.gd, 0, none⟩), .pointer (some ⟨gj, 0, none⟩), .pointer (some ⟨z.gp, 0, none⟩), .pointer (some ⟨z.ga, 0, none⟩)] 53))
 have HB := Lib.hid (Begin_sj hs1)
 have HYK := Lib.hid hyk
 clear haz hb1 hs0 hs1 hyk
 unfold yV
 go_wp2_with fail
 generalize w1.alloc (.cells #[.pointer (some ⟨z.gd, 0, none⟩), .pointer (some ⟨gj, 0, none⟩), .pointer (some ⟨z.gp, 0, none⟩), .pointer (some ⟨z.ga, 0, none⟩)] 53) = wa at *
 generalize w1.heap.size = g at *
 refine HB.out.mono ?_
 rintro e w2 ⟨gx, U, rfl, hs2, hx2, hb2, hgx2, hU2⟩
 have HY2 := Lib.hid (HYK.out.below hb2)
 have HUG : Hid (¬ U g) := Lib.hid (fun e => by have := hU2 g e; have := HYK.out.yb.lt; omega)
 have HP := Lib.hid (payload10_any 1 none 0 0 [] w2 (IR.none_ _ _) (by omega))
 have HS2 := Lib.hid hs2
 have HX2 := Lib.hid hx2
 clear hs2 hx2 hb2 hgx2 hU2
 go_wp2_with fail
 refine HP.out.mono ?_
 rintro e w3 ⟨rfl, hob, hb3⟩
 have HSet := Lib.hid (Set_sj (HS2.out.below hb3) (HX2.out.below hb3) 3 _ 4080 _ (ob_br hob (payT_len _ _)) (by omega) (.inl (by simp)))
 have HY3 := Lib.hid (HY2.out.below hb3)
 clear hob hb3
 go_wp2_with fail
 refine HSet.out.mono ?_
 rintro e w4 ⟨rfl, hs4, hx4, ho4⟩
 rw [st3] at hx4
 have HY4 := Lib.hid (HY3.out.off ho4 HUG.out (fun _ e => .inl e))
 have HD := Lib.hid (Done_sj hs4 hx4 1 (by omega) (by omega) (by simp) (by simp) (by simp) (by omega))
 rw [chg_img [] (fun _ => zP) 3 (payT 1 []) pay1_zP rfl, mark_img _ _ _ (by rw [pay1_len]; omega), if_neg (by simp), List.nil_append, show (insS 3 () [] : List (Nat × Unit)) = [(3, ())] from rfl, show ((([⟨1, 1, [((3 : Nat), payT 1 [], [])]⟩] : List Rec).length : Nat) : Int) = 1 from rfl] at HD
 clear hs4 hx4 ho4
 go_wp2_with fail
 refine HD.out.mono ?_
 rintro e w5 ⟨rfl, T5, hs5, hx5, ho5, hT5⟩
 have HY5 := Lib.hid (HY4.out.off ho5 (fun e => e.elim HY4.out.nt HUG.out) hT5)
 obtain ⟨mx, hxb⟩ := hx5.xb
 have hgn : ¬ T5 gx := fun e => by
  obtain ⟨mx, q, x1, x2, x3, x4, x5, x6, x7, x8, x9, x10, x11⟩ := hx5.ex
  exact x8 e
 have HXB := Lib.hid hxb
 have HGN := Lib.hid hgn
 have HGL := Lib.hid hxb.lt
 have HB5 := Lib.hid (Begin_sj hs5)
 clear hs5 hx5 ho5 hT5 hxb hgn
 have y3 := HY5.out.yb.c3
 go_wp2_with fail
 refine HB5.out.mono ?_
 rintro e w6 ⟨gz, U2, rfl, hs6, hx6, hb6, hgz, hU6⟩
 have HY6 := Lib.hid (HY5.out.below hb6)
 have HX6 := Lib.hid (HXB.out.below hb6)
 have HUG2 : Hid (¬ U2 g ∧ ¬ U2 gx) := Lib.hid ⟨fun e => by have := hU6 g e; have := HY5.out.yb.lt; omega, fun e => by have := hU6 gx e; have := HGL.out; omega⟩
 have HP6 := Lib.hid (payload10_any 1 (some ⟨w6.heap.size, 0, none⟩) 1 1 [7] (w6.alloc (.cells #[.int .i64 7] 3)) (IR.litAt w6 3 [7] #[.int .i64 7] w6.heap.size 1 rfl rfl rfl) (by omega))
 have HS6 := Lib.hid (hs6.below (gr_alloc (gr_refl w6) (.cells #[.int .i64 7] 3)))
 have HXZ6 := Lib.hid (hx6.below (gr_alloc (gr_refl w6) (.cells #[.int .i64 7] 3)))
 have HYA := Lib.hid (HY6.out.below (gr_alloc (gr_refl w6) (.cells #[.int .i64 7] 3)))
 have HXA := Lib.hid (HX6.out.below (gr_alloc (gr_refl w6) (.cells #[.int .i64 7] 3)))
 clear hs6 hx6 hb6 hgz hU6 y3
 go_wp2_with fail
 generalize w6.alloc (.cells #[.int .i64 7] 3) = wb at *
 refine HP6.out.mono ?_
 rintro e w7 ⟨rfl, hob, hb7⟩
 have HSet7 := Lib.hid (Set_sj (HS6.out.below hb7) (HXZ6.out.below hb7) 3 _ 4080 _ (ob_br hob (payT_len _ _)) (by omega) (.inl (by simp)))
 have HY7 := Lib.hid (HYA.out.below hb7)
 have HX7 := Lib.hid (HXA.out.below hb7)
 clear hob hb7
 go_wp2_with fail
 refine HSet7.out.mono ?_
 rintro e w8 ⟨rfl, hs8, hx8, ho8⟩
 rw [st3] at hx8
 have HY8 := Lib.hid (HY7.out.off ho8 HUG2.out.1 (fun _ e => .inl e))
 have HX8 := Lib.hid (HX7.out.off ho8 HUG2.out.2)
 have HD8 := Lib.hid (Done_sj hs8 hx8 1 (by omega) (by omega) (by simp) (by simp) (by simp) (by omega))
 rw [chg_pcs [(3, ())] _ 3 (payT 1 [7]) (by rw [nowD_one]; exact pay17_ne) (by decide), mark_pcs, if_neg (by simp), nowD_one, show (([⟨1, 1, [(((3 : Nat) : Int), payT 1 [], [])]⟩] : List Rec) ++ [⟨1, 1, [(((3 : Nat) : Int), [], diffL (payT 1 []) (payT 1 [7]))]⟩]) = recsA (payT 1 []) (diffL (payT 1 []) (payT 1 [7])) from rfl, show (((recsA (payT 1 []) (diffL (payT 1 []) (payT 1 [7]))).length : Nat) : Int) = 2 from rfl] at HD8
 clear hs8 hx8 ho8
 go_wp2_with fail
 refine HD8.out.mono ?_
 rintro e w9 ⟨rfl, T9, hs9, hx9, ho9, hT9⟩
 have HY9 := Lib.hid (HY8.out.off ho9 (fun e => e.elim HY8.out.nt HUG2.out.1) hT9)
 have HX9 := Lib.hid (HX8.out.off ho9 (fun e => e.elim HGN.out HUG2.out.2))
 have HGN9 : Hid (¬ T9 gx) := Lib.hid (fun e => (hT9 gx e).elim HGN.out (fun e => by have := HX8.out.lt; omega))
 have HF := Lib.hid (Flush_sj hs9 (by omega))
 clear hs9 hx9 ho9 hT9
 have y1 := HY9.out.yb.c1
 go_wp2_with fail
 refine HF.out.mono ?_
 rintro e wf ⟨rfl, Tf, hsf, hmf⟩
 have HYF := Lib.hid (HY9.out.mv hmf)
 have HXF := Lib.hid (HX9.out.off hmf.1 HGN9.out)
 have HSF := Lib.hid hsf
 have HSC := Lib.hid (Scan_sf hsf (by omega))
 clear hsf hmf y1
 have y0 := HYF.out.yb.c0
 go_wp2_with fail
 refine HSC.out.mono ?_
 rintro e ws ⟨v, p1, p2, rfl, hv, hbs⟩
 have HYS := Lib.hid (HYF.out.below hbs)
 have hxs := HXF.out.below hbs
 have HSS := Lib.hid (HSF.out.below hbs)
 obtain ⟨gr, o, cr, g1, o1, d1, g2, o2, d2, B1, b1, Q2, q2, rfl, c1, c2, m1, n2⟩ := recsA_rows hv pay1_len piece17
 clear hv hbs
 have HOV := Lib.hid (Over_any hxs)
 clear hxs
 go_wp2_with fail
 refine HOV.out.mono ?_
 rintro e ws2 ⟨rfl, rfl⟩
 have y3 := HYS.out.yb.c3
 have HIM : Hid (Calls Tryz.prog 45 #[.pointer (some ⟨z.ga, 0, none⟩)] ws fun e w' => NewI ws w' e [3]) := Lib.hid (by
  obtain ⟨D, P, A, h1, h2, h3, h4, h5, _⟩ := HSS.out.ex
  have := Imaged_at h1 (by rw [h5]; decide)
  rw [h5] at this
  exact this)
 go_wp2_with fail
 refine HIM.out.mono ?_
 rintro e wi ⟨Bi, ci, rfl, hri, hbi⟩
 have HIR := Lib.hid (IR.of_own hri)
 have HBI := Lib.hid hbi
 clear hri hbi y3
 go_wp2_with fail
 refine (SameInts_any Bi (some ⟨wi.heap.size, 0, none⟩) 1 1 ci 1 [3] [3] _ (HIR.out.below (gr_alloc (gr_refl wi) _)) (IR.litAt wi 3 [3] #[.int .i64 3] wi.heap.size 1 rfl rfl rfl) (by omega) (by omega)).mono ?_
 rintro e we ⟨rfl, hbe⟩
 rw [show (([3] : List Int) == [3]) = true from rfl]
 have HFB := Lib.hid (gr_trans (HSS.out.sj.bel) (gr_trans HBI.out (gr_trans (gr_alloc (gr_refl wi) (.cells #[.int .i64 3] 3)) hbe)))
 clear hbe
 go_wp2_with fail
 go_ret
 exact ⟨rfl, HFB.out⟩
end Go.Proofs.YtnkeclpgpiogoaaGreat
