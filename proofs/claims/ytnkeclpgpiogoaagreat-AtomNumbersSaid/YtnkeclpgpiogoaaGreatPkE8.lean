/-
  Texts of this claim, joined: AtF, AtG, MvB, AtH, PlC, PlZ, PlD, DfF, DfG, PlainD, PlE, PlF, PlG, AtI, AtK, AtJ. No statement of the program is proved here.
-/
import Derived.Test.YtnkeclpgpiogoaaGreatPkE7
import Derived.Test.YtnkeclpgpiogoaaGreatPkE6
import Derived.Test.YtnkeclpgpiogoaaGreatSrk
import Derived.Shelf.SortM.SortNone
import Derived.Test.YtnkeclpgpiogoaaGreatPkE5
import Derived.Test.YtnkeclpgpiogoaaGreatPkE4
import Derived.BigQuiet
import Derived.IntWalk
/-! AtF -/
namespace Go.Proofs.YtnkeclpgpiogoaaGreat
open Go Go.RowKit Go.Maps
def XC (w : World) (gx ga mx : Nat) (u3 u4 u6 : Value) : Prop :=
 w.heap[gx]? = some (.cells #[.pointer (some ⟨gx, 0, none⟩), .pointer (some ⟨ga, 0, none⟩), .map (some mx), u3, u4, .int .u32 0, u6] 105 (0, 0))
section
variable {w w' : World} {gx ga mx : Nat} {u3 u4 u6 : Value}
set_option maxRecDepth 100000 in
theorem XC.s3 (h : XC w gx ga mx u3 u4 u6) (v : Value) : XC (w.setCell ⟨gx, 3, none⟩ v) gx ga mx v u4 u6 := by unfold XC at h ⊢; simp only [World.setCell, Array.getElem?_modify, if_pos, h]; rfl
set_option maxRecDepth 100000 in
theorem XC.s4 (h : XC w gx ga mx u3 u4 u6) (v : Value) : XC (w.setCell ⟨gx, 4, none⟩ v) gx ga mx u3 v u6 := by unfold XC at h ⊢; simp only [World.setCell, Array.getElem?_modify, if_pos, h]; rfl
set_option maxRecDepth 100000 in
theorem XC.s6 (h : XC w gx ga mx u3 u4 u6) (v : Value) : XC (w.setCell ⟨gx, 6, none⟩ v) gx ga mx u3 u4 v := by unfold XC at h ⊢; simp only [World.setCell, Array.getElem?_modify, if_pos, h]; rfl
set_option maxRecDepth 100000 in
theorem XC.drew (h : XC w gx ga mx u3 u4 u6) : XC w.drew gx ga mx u3 u4 u6 := h
end
set_option maxRecDepth 100000 in
set_option maxHeartbeats 1000000 in
theorem end_any {w : World} {gx ga mx : Nat} (hx : XB w gx ga mx false) :
  Calls Tryz.prog 66 #[.pointer (some ⟨gx, 0, none⟩)] w fun e w' => e = .returned (.tuple #[]) ∧ XB w' gx ga mx true ∧ Off (· = gx) w w' := by
 have hmf : ∀ (fn : Fn) (first cap : Array Value) (w : World), (Instr.makeFunc fn first cap).run Tryz.prog w = .ok (.func fn first cap) w := fun _ _ _ _ => rfl
 have hb1 : Below w.heap.size w (w.alloc (.cells #[.pointer (some ⟨gx, 0, none⟩)] 27)) := gr_alloc (gr_refl w) _
 have hlt := hx.lt
 have hx1 := hx.below hb1
 have p0 : (w.alloc (.cells #[.pointer (some ⟨gx, 0, none⟩)] 27)).cell? ⟨w.heap.size, 0, none⟩ = some (.pointer (some ⟨gx, 0, none⟩)) := by simp [go_sem]
 have HD := Lib.hid (do_first gx 3 ⟨w.heap.size, 0, none⟩ (by show ¬ gx = w.heap.size; omega) (.bool false) _ p0 hx1.c3 hx1.c4 hx1.c6 rfl (hx1.frozen 3) (hx1.frozen 4) (hx1.frozen 6))
 have HX := Lib.hid (show XC (w.alloc (.cells #[.pointer (some ⟨gx, 0, none⟩)] 27)) gx ga mx (.int .u32 0) (.int .i32 0) (.bool false) from hx1)
 clear hx hx1 hb1 hlt
 go_enter Tryz.func66, Tryz.ntmps66
 go_wp2_with fail
 refine HD.out.mono ?_
 rintro e w' ⟨rfl, rfl⟩
 have h1 := ((((HX.out.s4 (.int .i32 1)).s6 (.bool true)).drew.s3 (.int .u32 1)).s4 (.int .i32 0))
 have HX1 := Lib.hid h1
 have HO : Hid (Off (· = gx) w (((((w.alloc (.cells #[.pointer (some ⟨gx, 0, none⟩)] 27)).setCell ⟨gx, 3 + 1, none⟩ (.int .i32 1)).setCell ⟨gx, 6, none⟩ (.bool true)).drew.setCell ⟨gx, 3, none⟩ (.int .u32 1)).setCell ⟨gx, 3 + 1, none⟩ (.int .i32 0))) :=
  Lib.hid ((((((Off.refl (· = gx) w).alloc _).setCell _ rfl).setCell _ rfl).drew.setCell _ rfl).setCell _ rfl)
 clear h1
 go_wp2_with fail
 go_end0
 exact ⟨rfl, HX1.out, HO.out⟩
section
variable {w0 w w' : World} {z : Wh} {D : EnS} {P : PoS} {A : AtS} {X : AxS} {T U : Nat → Prop} {gx b0 ga : Nat}
set_option maxRecDepth 100000 in
theorem AZ.ab (h : AZ w0 w z D P A T) : ∃ im, AB w z.ga z.gp D.gj im A.br := by
 obtain ⟨F, tv, mb, q, im, h1, h2, _⟩ := h.ex
 exact ⟨im, h2⟩
set_option maxRecDepth 100000 in
theorem AZ.pb (h : AZ w0 w z D P A T) : ∃ tv mb, PB w z.gp z.gd z.wv false tv mb P := by
 obtain ⟨F, tv, mb, q, im, h1, h2, _⟩ := h.ex
 exact ⟨tv, mb, h1.pb⟩
set_option maxRecDepth 100000 in
theorem AZ.pi (h : AZ w0 w z D P A T) : PI D P := by
 obtain ⟨F, tv, mb, q, im, h1, h2, _⟩ := h.ex
 exact h1.pi
set_option maxRecDepth 100000 in
theorem XZ.xb (h : XZ w b0 ga gx X T U) : ∃ mx, XB w gx ga mx X.ov := by
 obtain ⟨mx, q, h1, _⟩ := h.ex
 exact ⟨mx, h1⟩
set_option maxRecDepth 100000 in
theorem Begin_az (h : AZ w0 w z D P A T) :
  Calls Tryz.prog 13 #[.pointer (some ⟨z.ga, 0, none⟩)] w fun e w' => ∃ gx U, e = .returned (.pointer (some ⟨gx, 0, none⟩)) ∧ AZ w0 w' z D P A T ∧ XZ w' w0.heap.size z.ga gx newX T U ∧ Below w.heap.size w w' ∧ w.heap.size ≤ gx ∧ ∀ k, U k → w.heap.size ≤ k := by
 obtain ⟨im, hab⟩ := h.ab
 refine (Begin_raw hab).mono ?_
 rintro e w' ⟨rfl, rfl⟩
 have hb1 := gr_alloc (gr_refl w) (.map #[] 0)
 have hm := MV.made w
 have hs1 : (w.alloc (.map #[] 0)).heap.size = w.heap.size + 1 := World.size_alloc ..
 generalize w.alloc (.map #[] 0) = w1 at *
 have hb2 := gr_alloc (gr_refl w1) (.cells #[.pointer (some ⟨w.heap.size + 1, 0, none⟩), .pointer (some ⟨z.ga, 0, none⟩), .map (some w.heap.size), .int .u32 0, .int .i32 0, .int .u32 0, .bool false] 105)
 have hn := heap_alloc_new w1 (.cells #[.pointer (some ⟨w.heap.size + 1, 0, none⟩), .pointer (some ⟨z.ga, 0, none⟩), .map (some w.heap.size), .int .u32 0, .int .i32 0, .int .u32 0, .bool false] 105)
 rw [hs1] at hn
 generalize w1.alloc (.cells #[.pointer (some ⟨w.heap.size + 1, 0, none⟩), .pointer (some ⟨z.ga, 0, none⟩), .map (some w.heap.size), .int .u32 0, .int .i32 0, .int .u32 0, .bool false] 105) = w2 at *
 have hb : Below w.heap.size w w2 := hb1.trans (hb2.mono hb1.size)
 have hbs := h.bel.size
 refine ⟨w.heap.size + 1, fun k => k = w.heap.size + 1 ∨ k = w.heap.size, rfl, h.below hb, ⟨w.heap.size, [], hn, (by show MV w2 w.heap.size 0 (mapF []); rw [mapF_nil]; exact hm.below hb2), rfl, fun e he => (by cases he), fun e he => (by cases he), by omega, hbs, fun e => by have := (h.lt e).2; omega, fun e => by have := (h.lt e).2; omega, List.Pairwise.nil, fun k => Iff.rfl⟩, hb, by omega, fun k e => by omega⟩
set_option maxRecDepth 100000 in
theorem ANew_az {gp gd mb : Nat} {wv tv : Value} {F : Nat → Prop} {q : List FV} (hb : Below w0.heap.size w0 w) (hx : PX w w0.heap.size gp gd wv D P F tv mb q) (hl : LogV wv w0.heap.size gd D) (hp : 1 ≤ P.pages) (hc : D.j.ct ≠ 0) :
  Calls Tryz.prog 52 #[.pointer (some ⟨gp, 0, none⟩), .pointer (some ⟨D.gj, 0, none⟩)] w fun e w' => ∃ ga T, e = .returned (.tuple #[.pointer (some ⟨ga, 0, none⟩), .int .i64 0]) ∧ AZ w0 w' ⟨gd, gp, wv, ga⟩ D P newA T ∧ Below w.heap.size w w' ∧ ∀ k, T k → PS gp F tv mb q k ∨ w.heap.size ≤ k := by
 refine (ANew_raw hx hp hc).mono ?_
 rintro e w' ⟨w1, hb1, rfl, rfl⟩
 have hx1 := hx.below hb1
 have hbA := gr_trans hb hb1
 have hb2 := gr_alloc (gr_refl w1) (.map #[] 0)
 have hm := MV.made w1
 have hs1 : (w1.alloc (.map #[] 0)).heap.size = w1.heap.size + 1 := World.size_alloc ..
 generalize w1.alloc (.map #[] 0) = w2 at *
 have hb3 := gr_alloc (gr_refl w2) (.cells #[.pointer (some ⟨w1.heap.size + 1, 0, none⟩), .pointer (some ⟨gp, 0, none⟩), .pointer (some ⟨D.gj, 0, none⟩), .map (some w1.heap.size), .bool false] 88)
 have hn := heap_alloc_new w2 (.cells #[.pointer (some ⟨w1.heap.size + 1, 0, none⟩), .pointer (some ⟨gp, 0, none⟩), .pointer (some ⟨D.gj, 0, none⟩), .map (some w1.heap.size), .bool false] 88)
 rw [hs1] at hn
 generalize w2.alloc (.cells #[.pointer (some ⟨w1.heap.size + 1, 0, none⟩), .pointer (some ⟨gp, 0, none⟩), .pointer (some ⟨D.gj, 0, none⟩), .map (some w1.heap.size), .bool false] 88) = w3 at *
 have hb13 : Below w1.heap.size w1 w3 := hb2.trans (hb3.mono hb2.size)
 have hbs := hbA.size
 have hlt := fun k (hk : PS gp F tv mb q k) => hx1.lt hk
 refine ⟨w1.heap.size + 1, fun k => PS gp F tv mb q k ∨ k = w1.heap.size + 1 ∨ k = w1.heap.size, rfl, ⟨gr_trans hbA hb13, hl, F, tv, mb, q, w1.heap.size, hx1.below hb13, hn, (by show MV w3 w1.heap.size 0 (mapF []); rw [mapF_nil]; exact hm.below hb3), by show w0.heap.size ≤ w1.heap.size + 1; omega, hbs, fun e => ?_, fun e => ?_, List.Pairwise.nil, fun k => Iff.rfl⟩, hb1.trans (hb13.mono hb1.size), fun k e => e.imp id (fun e => by have := hb1.size; omega)⟩
 ·have := hlt _ e
  dsimp only at this
  omega
 ·have := hlt _ e
  omega
set_option maxRecDepth 100000 in
theorem PGet_az (h : AZ w0 w z D P A T) (page : Int) (hpd : D.d.pending.length ≤ 900000) (hct : P.count ≤ 1152921504606846976) :
  Calls Tryz.prog 28 #[.pointer (some ⟨z.gp, 0, none⟩), .int .i64 page] w fun e w' => ∃ v, e = .returned (.tuple #[v, .int .i64 (getR D P page).2.2]) ∧ OB w' w.heap.size v (getL D P page) ∧ ∃ T' wn, AZ w0 wn z (getR D P page).1 (getR D P page).2.1 A T' ∧ Mv T T' w wn ∧ Below wn.heap.size wn w' ∧ ∀ k, v.ownBlock = some k → wn.heap.size ≤ k := by
 obtain ⟨F, tv, mb, q, im, h1, h2, h3, h4, h5, h6, h7, h8, h9⟩ := h.ex
 refine (Get_any h1 h.lv page hpd hct h.bel.size).mono ?_
 rintro e w' ⟨v, rfl, hv, F', tv', mb', q', hx, ho, hs, hn, wn, hle, hxn, hbn, hvn⟩
 have hon : Off (PS z.gp F tv mb q) w wn := ⟨hbn.os.symm.trans ho.os, hbn.tape.symm.trans ho.tape, hbn.output.symm.trans ho.output, hle, fun k hk hS => (hbn.block k (Nat.lt_of_lt_of_le hk hle)).symm.trans (ho.block k hk hS)⟩
 obtain ⟨T', ha, hm, _⟩ := h.step h2 h3 h4 h5 h6 h7 h9 (SameG.get D P page) hxn hon hs
 exact ⟨v, rfl, hv, T', wn, ha, hm, hbn, hvn⟩
set_option maxRecDepth 100000 in
theorem PSet_az (h : AZ w0 w z D P A T) (page lsn : Int) (B : Option Addr) (n c : Nat) (l : List UInt8) (hb : BR w B n l) (hls : lsn ≤ 9223372036854775807) (hpd : D.d.pending.length ≤ 900000) (hct : P.count ≤ 1152921504606846976) :
  Calls Tryz.prog 68 #[.pointer (some ⟨z.gp, 0, none⟩), .int .i64 page, .slice B n c, .int .i64 lsn] w fun e w' => e = .returned (.int .i64 (setR D P page l lsn).2.2) ∧ ∃ T', AZ w0 w' z (setR D P page l lsn).1 (setR D P page l lsn).2.1 A T' ∧ Mv T T' w w' := by
 obtain ⟨F, tv, mb, q, im, h1, h2, h3, h4, h5, h6, h7, h8, h9⟩ := h.ex
 refine (Set_any h1 h.lv page lsn B n c l hb hls hpd hct h.bel.size).mono ?_
 rintro e w' ⟨rfl, F', tv', mb', q', hx, ho, hs⟩
 obtain ⟨T', ha, hm, _⟩ := h.step h2 h3 h4 h5 h6 h7 h9 (SameG.st D P page l lsn) hx ho hs
 exact ⟨rfl, T', ha, hm⟩
end
end Go.Proofs.YtnkeclpgpiogoaaGreat

/-! AtG -/
namespace Go.Proofs.YtnkeclpgpiogoaaGreat
open Go Go.RowKit Go.Maps
set_option maxRecDepth 100000 in
theorem zeroBytes (w : World) : (zeroValue 35).run Tryz.prog w = .ok (.slice none 0 0) w := by kernel_rfl
def AGet (w0 w : World) (z : Wh) (gx : Nat) (A : AtS) (X : AxS) (T U : Nat → Prop) (r : ARes) (l : List UInt8) (e : Ending) (w' : World) : Prop :=
 ∃ v, e = .returned (.tuple #[v, .int .i64 r.2.2]) ∧ OB w' w.heap.size v l ∧ ∃ T' wn, AZ w0 wn z r.1 r.2.1 A T' ∧ XZ wn w0.heap.size z.ga gx X T' U ∧ Mv T T' w wn ∧ Below wn.heap.size wn w' ∧ ∀ k, v.ownBlock = some k → wn.heap.size ≤ k
section
variable {w0 w w' : World} {z : Wh} {D : EnS} {P : PoS} {A : AtS} {X : AxS} {T T' U : Nat → Prop} {gx : Nat}
set_option maxRecDepth 100000 in
theorem AGet.same (ha : AZ w0 w z D P A T) (hx : XZ w w0.heap.size z.ga gx X T U) (hb : Below w.heap.size w w') {v : Value} {l : List UInt8} (hv : OB w' w.heap.size v l) {r : Int} : AGet w0 w z gx A X T U (D, P, r) l (.returned (.tuple #[v, .int .i64 r])) w' :=
 ⟨v, rfl, hv, T, w, ha, hx, Mv.of_below (gr_refl w), hb, fun k e => (hv.lt k e).1⟩
set_option maxRecDepth 100000 in
theorem XZ.step (hx : XZ w w0.heap.size z.ga gx X T U) (hm : Mv T T' w w') : XZ w' w0.heap.size z.ga gx X T' U :=
 hx.off hm.1 (fun _ e => .inl e) (fun _ hk => (hx.lt hk).2.2.1) hm.2
set_option maxRecDepth 100000 in
set_option maxHeartbeats 1000000 in
theorem Get_at (ha : AZ w0 w z D P A T) (hx : XZ w w0.heap.size z.ga gx X T U) (page : Int) (p1 : -9223372036854775808 ≤ page) (p2 : page ≤ 9223372036854775807) (hpd : D.d.pending.length ≤ 900000) (hct : P.count ≤ 1152921504606846976) :
  Calls Tryz.prog 17 #[.pointer (some ⟨gx, 0, none⟩), .int .i64 page] w (AGet w0 w z gx A X T U (agetR D P A X page) (agetL D P A X page)) := by
 obtain ⟨im, hab⟩ := ha.ab
 obtain ⟨mx, q, x1, x2, x3, x4, x5, x6, x7, x8, x9, x10, x11⟩ := hx.ex
 have HST : Hid (Calls Tryz.prog 64 #[.pointer (some ⟨gx, 0, none⟩)] w fun e w' => e = .returned (.int .i64 (stE A X)) ∧ w = w') := Lib.hid (xstands_any hab x1)
 have HA := Lib.hid ha
 have HX := Lib.hid hx
 have HR : Hid (agetR D P A X page = if stE A X ≠ 0 then (D, P, stE A X) else if 0 ≤ page ∧ (findS X.st page.toNat).isSome then (D, P, 0) else getR D P page) := Lib.hid rfl
 have HL : Hid (agetL D P A X page = if stE A X ≠ 0 then [] else if 0 ≤ page ∧ (findS X.st page.toNat).isSome then (findS X.st page.toNat).getD [] else getL D P page) := Lib.hid rfl
 by_cases hst : stE A X = 0
 ·have hk := x2.look Tryz.underlying91 (zeroBytes w) p1 p2
  have c1 := x1.c1
  have c2 := x1.c2
  have d1 := hab.c1
  have hfs : findS X.st page.toNat = (findS q page.toNat).map Prod.fst := by rw [← x3, find_mapS]
  have hmf : mapF (mapS Prod.snd q) page = if page < 0 then none else (findS q page.toNat).map Prod.snd := by
   unfold mapF
   rw [find_mapS]
  by_cases hin : 0 ≤ page ∧ (findS q page.toNat).isSome
  ·obtain ⟨⟨l, v⟩, hq⟩ := Option.isSome_iff_exists.1 hin.2
   obtain ⟨ho, hlen⟩ := x4 _ (find_mem hq)
   dsimp only at ho hlen
   rw [hmf, if_neg (by omega), hq] at hk
   obtain ⟨B, c, rfl, hbr, hc1, hc2⟩ := ho.form
   have HCL := Lib.hid (Clone_any B l.length c l w hbr (by omega))
   have hr : agetR D P A X page = (D, P, 0) := by rw [HR.out, if_neg (by rw [hst]; decide), if_pos ⟨hin.1, by rw [hfs, hq]; rfl⟩]
   have hl : agetL D P A X page = l := by rw [HL.out, if_neg (by rw [hst]; decide), if_pos ⟨hin.1, by rw [hfs, hq]; rfl⟩, hfs, hq]; rfl
   rw [hr, hl]
   rw [hst] at HST
   have hk2 : (Instr.lookup 91 (.map (some mx)) (.int .i64 page) true).run Tryz.prog w = .ok (.tuple #[.slice B l.length c, .bool true]) w := hk
   clear ha hx hab x1 x2 x3 x4 x5 x6 x7 x8 x9 x10 x11 HR HL hst hfs hmf hin hq ho hk hbr hc1 hc2 hr hl hlen
   go_enter Tryz.func17, Tryz.ntmps17
   go_wp2_with fail
   refine HST.out.mono ?_
   rintro e w1 ⟨rfl, rfl⟩
   go_wp2_with fail
   refine HCL.out.mono ?_
   rintro e w2 ⟨v, rfl, hv, hb⟩
   have HP := Lib.hid (AGet.same (r := 0) HA.out HX.out hb hv)
   clear hv hb
   go_wp2_with fail
   go_ret2
   exact HP.out
  ·have hnf : ¬ (0 ≤ page ∧ (findS X.st page.toNat).isSome = true) := by
    rw [hfs]
    simpa using hin
   have hnone : (if page < 0 then none else (findS q page.toNat).map Prod.snd) = (none : Option Value) := by
    by_cases h0 : page < 0
    ·rw [if_pos h0]
    ·rw [if_neg h0]
     cases hq : findS q page.toNat with
     | none => rfl
     | some y => exact absurd ⟨by omega, by rw [hq]; rfl⟩ hin
   rw [hmf, hnone] at hk
   have hk2 : (Instr.lookup 91 (.map (some mx)) (.int .i64 page) true).run Tryz.prog w = .ok (.tuple #[.slice none 0 0, .bool false]) w := hk
   have hr : agetR D P A X page = getR D P page := by rw [HR.out, if_neg (by rw [hst]; decide), if_neg hnf]
   have hl : agetL D P A X page = getL D P page := by rw [HL.out, if_neg (by rw [hst]; decide), if_neg hnf]
   have HG := Lib.hid (PGet_az ha page hpd hct)
   rw [hr, hl]
   rw [hst] at HST
   clear ha hx hab x1 x2 x3 x4 x5 x6 x7 x8 x9 x10 x11 HR HL hst hfs hmf hin hk hr hl hnf hnone hpd hct
   go_enter Tryz.func17, Tryz.ntmps17
   go_wp2_with fail
   refine HST.out.mono ?_
   rintro e w1 ⟨rfl, rfl⟩
   go_wp2_with fail
   refine HG.out.mono ?_
   rintro e w2 ⟨v, rfl, hv, T', wn, hz, hm, hbn, hn⟩
   obtain ⟨B, c, hvv, _⟩ := hv.form
   subst hvv
   have HP := Lib.hid (show AGet w0 w z gx A X T U (getR D P page) (getL D P page) (.returned (.tuple #[.slice B (getL D P page).length c, .int .i64 (getR D P page).2.2])) w2 from ⟨_, rfl, hv, T', wn, hz, HX.out.step hm, hm, hbn, hn⟩)
   clear hv hz hm hbn hn
   go_wp2_with fail
   go_ret2
   exact HP.out
 ·have hx1 : (stE A X != 0) = true := by rw [bne_iff_ne]; exact hst
  have hr : agetR D P A X page = (D, P, stE A X) := by rw [HR.out, if_pos hst]
  have hl : agetL D P A X page = [] := by rw [HL.out, if_pos hst]
  rw [hr, hl]
  clear ha hx hab x1 x2 x3 x4 x5 x6 x7 x8 x9 x10 x11 HR HL hst hr hl hpd hct
  generalize stE A X = r at *
  go_enter Tryz.func17, Tryz.ntmps17
  go_wp2_with fail
  refine HST.out.mono ?_
  rintro e w1 ⟨rfl, rfl⟩
  go_wp2_with fail
  go_ret2
  exact AGet.same HA.out HX.out (gr_refl _) (OB.nil _ _)
def ASetG (w0 w : World) (z : Wh) (gx : Nat) (D : EnS) (P : PoS) (A : AtS) (X' : AxS) (T T2 U : Nat → Prop) (r : Int) (e : Ending) (w' : World) : Prop :=
 e = .returned (.int .i64 r) ∧ AZ w0 w' z D P A T ∧ XZ w' w0.heap.size z.ga gx X' T2 U ∧ Off U w w'
abbrev ASet (w0 w : World) (z : Wh) (gx : Nat) (D : EnS) (P : PoS) (A : AtS) (X' : AxS) (T U : Nat → Prop) (r : Int) (e : Ending) (w' : World) : Prop := ASetG w0 w z gx D P A X' T T U r e w'
variable {T2 : Nat → Prop}
set_option maxRecDepth 100000 in
set_option maxHeartbeats 1000000 in
theorem Set_not (ha : AZ w0 w z D P A T) (hx : XZ w w0.heap.size z.ga gx X T2 U) (page : Int) (B : Option Addr) (n c : Nat) (p1 : -9223372036854775808 ≤ page) (p2 : page ≤ 9223372036854775807) (hne : asetE P A X page n ≠ 0) :
  Calls Tryz.prog 19 #[.pointer (some ⟨gx, 0, none⟩), .int .i64 page, .slice B n c] w (ASetG w0 w z gx D P A X T T2 U (asetE P A X page n)) := by
 obtain ⟨im, hab⟩ := ha.ab
 obtain ⟨tv, mb, hpb⟩ := ha.pb
 obtain ⟨mx, q, x1, x2, x3, x4, x5, x6, x7, x8, x9, x10, x11⟩ := hx.ex
 have HST : Hid (Calls Tryz.prog 64 #[.pointer (some ⟨gx, 0, none⟩)] w fun e w' => e = .returned (.int .i64 (stE A X)) ∧ w = w') := Lib.hid (xstands_any hab x1)
 have HPG := Lib.hid (XPages_any hab x1 hpb)
 have HSM : Hid (∀ r, ASetG w0 w z gx D P A X T T2 U r (.returned (.int .i64 r)) w) := Lib.hid fun r => ⟨rfl, ha, hx, Off.refl _ _⟩
 have HE : Hid (asetE P A X page n = if stE A X ≠ 0 then stE A X else if page < 0 ∨ (P.pages : Int) ≤ page ∨ n ≠ 4080 then 2 else if findS X.st page.toNat = none ∧ 16 ≤ X.st.length then 3 else 0) := Lib.hid rfl
 have HNE := Lib.hid hne
 by_cases hst : stE A X = 0
 ·rw [hst] at HST
  by_cases h1 : page < 0
  ·have t1 : decide (page < 0) = true := decide_eq_true h1
   have hr : asetE P A X page n = 2 := by rw [HE.out, if_neg (by rw [hst]; decide), if_pos (.inl h1)]
   rw [hr]
   clear ha hx hab hpb x1 x2 x3 x4 x5 x6 x7 x8 x9 x10 x11 HE hst hr h1 hne
   go_enter Tryz.func19, Tryz.ntmps19
   go_wp2_with fail
   refine HST.out.mono ?_
   rintro e w1 ⟨rfl, rfl⟩
   go_wp2_with fail
   go_ret
   exact HSM.out 2
  ·have t1 : decide (page < 0) = false := decide_eq_false h1
   by_cases h2 : (P.pages : Int) ≤ page
   ·have t2 : decide ((P.pages : Int) ≤ page) = true := decide_eq_true h2
    have hr : asetE P A X page n = 2 := by rw [HE.out, if_neg (by rw [hst]; decide), if_pos (.inr (.inl h2))]
    rw [hr]
    clear ha hx hab hpb x1 x2 x3 x4 x5 x6 x7 x8 x9 x10 x11 HE hst hr h1 h2 hne
    go_enter Tryz.func19, Tryz.ntmps19
    go_wp2_with fail
    refine HST.out.mono ?_
    rintro e w1 ⟨rfl, rfl⟩
    go_wp2_with fail
    refine HPG.out.mono ?_
    rintro e w1 ⟨rfl, rfl⟩
    go_wp2_with fail
    go_ret
    exact HSM.out 2
   ·have t2 : decide ((P.pages : Int) ≤ page) = false := decide_eq_false h2
    by_cases h3 : n = 4080
    ·subst h3
     have hs3 : findS X.st page.toNat = none ∧ 16 ≤ X.st.length := Decidable.byContradiction fun hc => by
      refine HNE.out ?_
      rw [HE.out, if_neg (by rw [hst]; decide), if_neg (by omega), if_neg hc]
     have hr : asetE P A X page 4080 = 3 := by rw [HE.out, if_neg (by rw [hst]; decide), if_neg (by omega), if_pos hs3]
     have hk := x2.look Tryz.underlying91 (zeroBytes w) p1 p2
     have hln := x2.len Tryz.underlying91 3
     have hq : findS q page.toNat = none := by
      have h := hs3.1
      rw [← x3, find_mapS] at h
      cases hq : findS q page.toNat with
      | none => rfl
      | some y => rw [hq] at h; cases h
     have hmf : mapF (mapS Prod.snd q) page = none := by
      unfold mapF
      rw [find_mapS, hq]
      split <;> rfl
     rw [hmf] at hk
     have hk2 : (Instr.lookup 91 (.map (some mx)) (.int .i64 page) true).run Tryz.prog w = .ok (.tuple #[.slice none 0 0, .bool false]) w := hk
     have hl16 := hs3.2
     have t4 : decide ((16 : Int) ≤ (X.st.length : Int)) = true := decide_eq_true (by omega)
     have c2 := x1.c2
     rw [hr]
     clear ha hx hab hpb x1 x2 x3 x4 x5 x6 x7 x8 x9 x10 x11 HE hst hr h1 h2 hne hs3 hq hmf hk hl16
     generalize X.st.length = xl at *
     go_enter Tryz.func19, Tryz.ntmps19
     go_wp2_with fail
     refine HST.out.mono ?_
     rintro e w1 ⟨rfl, rfl⟩
     go_wp2_with fail
     refine HPG.out.mono ?_
     rintro e w1 ⟨rfl, rfl⟩
     go_wp2_with fail
     go_ret
     exact HSM.out 3
    ·have hr : asetE P A X page n = 2 := by rw [HE.out, if_neg (by rw [hst]; decide), if_pos (.inr (.inr h3))]
     have t3 : ((n : Int) != 4080) = true := by rw [bne_iff_ne]; omega
     rw [hr]
     clear ha hx hab hpb x1 x2 x3 x4 x5 x6 x7 x8 x9 x10 x11 HE hst hr h1 h2 hne h3
     go_enter Tryz.func19, Tryz.ntmps19
     go_wp2_with fail
     refine HST.out.mono ?_
     rintro e w1 ⟨rfl, rfl⟩
     go_wp2_with fail
     refine HPG.out.mono ?_
     rintro e w1 ⟨rfl, rfl⟩
     go_wp2_with fail
     go_ret
     exact HSM.out 2
 ·have hx1 : (stE A X != 0) = true := by rw [bne_iff_ne]; exact hst
  have hr : asetE P A X page n = stE A X := by rw [HE.out, if_pos hst]
  rw [hr]
  clear ha hx hab hpb x1 x2 x3 x4 x5 x6 x7 x8 x9 x10 x11 HE hst hr hne HNE
  generalize stE A X = r at *
  go_enter Tryz.func19, Tryz.ntmps19
  go_wp2_with fail
  refine HST.out.mono ?_
  rintro e w1 ⟨rfl, rfl⟩
  go_wp2_with fail
  go_ret
  exact HSM.out r
set_option maxRecDepth 100000 in
theorem mapF_ins (p : Nat) (v : Value) (l : List (Nat × Value)) : updV (mapF l) (p : Int) v = mapF (insS p v l) := by
 funext x
 unfold updV mapF
 by_cases h : x = (p : Int)
 ·subst h
  rw [if_pos rfl, if_neg (by omega), Int.toNat_natCast, find_insS, if_pos rfl]
 ·rw [if_neg h]
  by_cases h0 : x < 0
  ·rw [if_pos h0, if_pos h0]
  ·rw [if_neg h0, if_neg h0, find_insS, if_neg (by omega)]
set_option maxRecDepth 100000 in
theorem ASetG.put {mx pg : Nat} {q : List (Nat × (List UInt8 × Value))} {w2 w3 : World} {l : List UInt8} {v : Value} (ha : AZ w0 w z D P A T) (hT : ∀ k, T k → T2 k) (hT2 : ∀ k, T2 k → k < w.heap.size) (x1 : XB w gx z.ga mx X.ov) (x2 : MV w mx X.st.length (mapF (mapS Prod.snd q)))
  (hq : mapS Prod.fst q = X.st ∧ (∀ e ∈ q, OB w w0.heap.size e.2.2 e.2.1 ∧ e.2.1.length = 4080) ∧ (∀ e ∈ q, ∀ k, e.2.2.ownBlock = some k → ¬ T2 k) ∧ w0.heap.size ≤ gx ∧ w0.heap.size ≤ mx ∧ ¬ T2 gx ∧ ¬ T2 mx ∧ SortS X.st ∧ ∀ k, U k ↔ k = gx ∨ k = mx) (hb : Below w.heap.size w w2)
  (hmv : MV w3 mx (if (mapF (mapS Prod.snd q) (pg : Int)).isSome then X.st.length else X.st.length + 1) (updV (mapF (mapS Prod.snd q)) (pg : Int) v)) (hg : w2.grownBy w3 (some mx)) (hv : OB w2 w.heap.size v l) (hl : l.length = 4080) : ASetG w0 w z gx D P A { X with st := insS pg l X.st } T T2 U 0 (.returned (.int .i64 0)) w3 := by
 obtain ⟨x3, x4, x5, x6, x7, x8, x9, x10, x11⟩ := hq
 have ho : Off (· = mx) w2 w3 := Off.of_grown hg (fun k e => by injection e with e; exact e.symm)
 have hne : ¬ gx = mx := fun e => x2.notCells x1 e.symm
 have hm2 := x2.below hb
 have hby : ∀ {u : Value} {m : List UInt8} {a : Nat}, OB w2 a u m → OB w3 a u m := fun h => h.off ho (fun k e e2 => by
  subst e2
  obtain ⟨cur, hc⟩ := own_blk h e
  exact hm2.notCells hc rfl)
 refine ⟨rfl, (ha.below hb).nb ho (fun k e => by subst e; exact ⟨hm2.nb, fun e => x9 (hT _ e), x7⟩), ⟨mx, insS pg (l, v) q, (x1.below hb).off ho hne, ?_, ?_, fun e he => ?_, fun e he k hk => ?_, x6, x7, x8, x9, sort_insS _ _ x10, x11⟩, (Off.of_below hb).trans (ho.mono (fun k _ e => (x11 k).2 (.inr e)))⟩
 ·show MV w3 mx (insS pg l X.st).length (mapF (mapS Prod.snd (insS pg (l, v) q)))
  have e1 : (findS X.st pg).isSome = (mapF (mapS Prod.snd q) (pg : Int)).isSome := by
   rw [← x3, find_mapS, mapF_at, find_mapS]
   cases findS q pg <;> rfl
  rw [ins_mapS, ← mapF_ins, len_insS _ _ x10, e1]
  exact hmv
 ·show mapS Prod.fst (insS pg (l, v) q) = insS pg l X.st
  rw [ins_mapS, x3]
 ·rcases mem_insS2 he with rfl | he
  ·exact ⟨own_lower (hby hv) ha.bel.size, hl⟩
  ·exact ⟨hby ((x4 e he).1.below hb), (x4 e he).2⟩
 ·rcases mem_insS2 he with rfl | he
  ·intro hTk
   have h1 := (hv.lt k hk).1
   have h2 := hT2 k hTk
   omega
  ·exact x5 e he k hk
set_option maxRecDepth 100000 in
set_option maxHeartbeats 2000000 in
theorem Set_yes (ha : AZ w0 w z D P A T) (hT : ∀ k, T k → T2 k) (hT2 : ∀ k, T2 k → k < w.heap.size) (hx : XZ w w0.heap.size z.ga gx X T2 U) (pg : Nat) (B : Option Addr) (c : Nat) (l : List UInt8) (hb : BR w B 4080 l) (h0 : asetE P A X (pg : Int) 4080 = 0) (h16 : X.st.length ≤ 16) :
  Calls Tryz.prog 19 #[.pointer (some ⟨gx, 0, none⟩), .int .i64 (pg : Int), .slice B 4080 c] w (ASetG w0 w z gx D P A { X with st := insS pg l X.st } T T2 U 0) := by
 obtain ⟨im, hab⟩ := ha.ab
 obtain ⟨tv, mb, hpb⟩ := ha.pb
 have hpi := ha.pi
 have hpg0 : ¬ stE A X ≠ 0 ∧ ¬ ((pg : Int) < 0 ∨ (P.pages : Int) ≤ pg ∨ (4080 : Nat) ≠ 4080) ∧ ¬ (findS X.st pg = none ∧ 16 ≤ X.st.length) := by
  unfold asetE at h0
  split at h0
  ·rename_i h; exact absurd h0 h
  ·rename_i h
   split at h0
   ·cases h0
   ·rename_i h2
    split at h0
    ·cases h0
    ·rename_i h3
     rw [Int.toNat_natCast] at h3
     exact ⟨h, h2, h3⟩
 obtain ⟨q1, q2, q3⟩ := hpg0
 have hst : stE A X = 0 := Decidable.not_not.1 q1
 have hpl : pg ≤ 4096 := by have := hpi.fit; have := hpi.d2; omega
 obtain ⟨mx, q, x1, x2, x3, x4, x5, x6, x7, x8, x9, x10, x11⟩ := hx.ex
 have HST : Hid (Calls Tryz.prog 64 #[.pointer (some ⟨gx, 0, none⟩)] w fun e w' => e = .returned (.int .i64 0) ∧ w = w') := Lib.hid (by rw [← hst]; exact xstands_any hab x1)
 have HPG := Lib.hid (XPages_any hab x1 hpb)
 have hk := x2.look Tryz.underlying91 (zeroBytes w) (k := (pg : Int)) (by omega) (by omega)
 have hln := x2.len Tryz.underlying91 3
 have hmf : mapF (mapS Prod.snd q) (pg : Int) = (findS q pg).map Prod.snd := by rw [mapF_at, find_mapS]
 have hfs : findS X.st pg = (findS q pg).map Prod.fst := by rw [← x3, find_mapS]
 rw [hmf] at hk
 have t1 : decide ((pg : Int) < 0) = false := decide_eq_false (by omega)
 have t2 : decide ((P.pages : Int) ≤ (pg : Int)) = false := decide_eq_false (by omega)
 have t2' : decide (P.pages ≤ pg) = false := decide_eq_false (by omega)
 obtain ⟨ok, hok⟩ : ∃ ok, ok = (findS q pg).isSome := ⟨_, rfl⟩
 obtain ⟨v0, hv0⟩ : ∃ v0, v0 = ((findS q pg).map Prod.snd).getD (.slice none 0 0) := ⟨_, rfl⟩
 have hk2 : (Instr.lookup 91 (.map (some mx)) (.int .i64 (pg : Int)) true).run Tryz.prog w = .ok (.tuple #[v0, .bool ok]) w := by
  rw [hk, hv0, hok]
  cases findS q pg <;> rfl
 have hfit : ok = true ∨ (ok = false ∧ decide ((16 : Int) ≤ (X.st.length : Int)) = false ∧ decide (16 ≤ X.st.length) = false) := by
  rw [hok]
  cases hq : findS q pg with
  | some y => exact .inl rfl
  | none =>
   refine .inr ⟨rfl, decide_eq_false fun h => q3 ⟨by rw [hfs, hq]; rfl, by omega⟩, decide_eq_false fun h => q3 ⟨by rw [hfs, hq]; rfl, h⟩⟩
 have HA := Lib.hid ha
 have HT := Lib.hid (And.intro hT hT2)
 have HX1 := Lib.hid x1
 have HX2 := Lib.hid x2
 have HQ := Lib.hid (show mapS Prod.fst q = X.st ∧ (∀ e ∈ q, OB w w0.heap.size e.2.2 e.2.1 ∧ e.2.1.length = 4080) ∧ (∀ e ∈ q, ∀ k, e.2.2.ownBlock = some k → ¬ T2 k) ∧ w0.heap.size ≤ gx ∧ w0.heap.size ≤ mx ∧ ¬ T2 gx ∧ ¬ T2 mx ∧ SortS X.st ∧ ∀ k, U k ↔ k = gx ∨ k = mx from ⟨x3, x4, x5, x6, x7, x8, x9, x10, x11⟩)
 have HHK := Lib.hid (show mapF (mapS Prod.snd q) (pg : Int) = (findS q pg).map Prod.snd ∧ findS X.st pg = (findS q pg).map Prod.fst from ⟨hmf, hfs⟩)
 have hll : l.length = 4080 := hb.len
 have HCL : Hid (∀ W, Below w.heap.size w W → Calls Tryz.prog 70 #[.slice B 4080 c] W fun e w' => (∃ A c, e = .returned (.slice A 4080 c) ∧ OB w' w.heap.size (.slice A 4080 c) l) ∧ Below W.heap.size W w') := Lib.hid (fun W hW => (Clone_any B 4080 c l W (hb.below hW) (by omega)).mono (by
  rintro e w' ⟨v, rfl, h1, h2⟩
  obtain ⟨A, c, e, _⟩ := h1.form
  rw [hll] at e
  subst e
  exact ⟨⟨A, c, rfl, own_lower h1 hW.size⟩, h2⟩))
 have c2 := x1.c2
 have C2 := Lib.hid c2
 have HLL := Lib.hid hll
 have HXL := Lib.hid x2
 clear ha hx hab hpb hpi hT hT2 x1 x2 x3 x4 x5 x6 x7 x8 x9 x10 x11 hst q1 q2 q3 hk hmf hfs hok hv0 hb h0 hll
 generalize hxl : X.st.length = xl at *
 have HXE := Lib.hid hxl
 clear hxl
 have hmain : True := trivial
 rcases hfit with rfl | ⟨rfl, t4, t4'⟩
 ·go_enter Tryz.func19, Tryz.ntmps19
  go_wp2_with fail
  refine HST.out.mono ?_
  rintro e w1 ⟨rfl, rfl⟩
  go_wp2_with fail
  refine HPG.out.mono ?_
  rintro e w1 ⟨rfl, rfl⟩
  go_upto_region 9 with fail
  clear c2 hk2 hln
  refine wp_region_any (by kernel_rfl) ?_
  refine' wpAny_to_tail (l0 := #[false, false, false, false, false, false, false, false]) (by kernel_rfl) (by kernel_rfl) (by kernel_rfl) (by kernel_rfl) (by kernel_rfl)
   [MP.is (.pointer (some ⟨gx, 0, none⟩)), MP.is (.pointer (some ⟨gx, 0, none⟩)), MP.is (.pointer (some ⟨gx, 2, none⟩)), MP.is (.map (some mx)), MP.is (.int .i64 (pg : Int)), MP.is (.slice B 4080 c), MP.rs w.heap.size 4080 l, MP.any]
   (fun j => j == 7) #[true, true, true, true, true, true, true, false] rfl (by kernel_rfl) rfl (by kernel_rfl) (by kernel_rfl) (by kernel_rfl) (by kernel_rfl) (fun _ => undef) (by rfl) ?hR01 ?hAA1 ?hst1 ?hend1
  case hR01 =>
   intro j hj
   have hj2 : j ∈ [] := hj
   cases hj2
  case hAA1 =>
   intro f
   conv => lhs; simp only [putA, dstOf, List.size_toArray, List.length_cons, List.length_nil, Nat.zero_add, Nat.reduceAdd, List.getElem?_toArray, List.getElem?_cons_zero, List.getElem?_cons_succ, Option.bind_some, Act.put, List.setIfInBounds_toArray, List.set_cons_zero, List.set_cons_succ]
   first | done | exact rfl
  case hst1 =>
   refine Steps.of_list (l' := [0, 1, 2, 3, 4, 5, 6]) (by kernel_rfl) ?_
   refine Steps.cons rfl ?_ ?_
   ·intro f wz hB h K Q hK
    clear h
    try simp only [List.getElem_toArray, List.getElem_cons_zero]
    try rw [if_pos (by rfl)]
    go_simp
    exact hK _ _ (gr_refl _) rfl
   refine Steps.cons rfl ?_ ?_
   ·intro f wz hB h K Q hK
    have h0 : (MP.is (.pointer (some ⟨gx, 0, none⟩))).p (f 0) wz := h 0 (by kernel_rfl)
    have e0 : f 0 = (.pointer (some ⟨gx, 0, none⟩)) := h0
    simp only [e0] at hK ⊢
    clear e0
    clear h
    try rw [if_pos (by rfl)]
    go_simp
    exact hK _ _ (gr_refl _) rfl
   refine Steps.cons rfl ?_ ?_
   ·intro f wz hB h K Q hK
    have h1 : (MP.is (.pointer (some ⟨gx, 0, none⟩))).p (f 1) wz := h 1 (by kernel_rfl)
    have e1 : f 1 = (.pointer (some ⟨gx, 0, none⟩)) := h1
    simp only [e1] at hK ⊢
    clear e1
    clear h
    try rw [if_pos (by rfl)]
    go_simp
    exact hK _ _ (gr_refl _) rfl
   refine Steps.cons rfl ?_ ?_
   ·intro f wz hB h K Q hK
    have h2 : (MP.is (.pointer (some ⟨gx, 2, none⟩))).p (f 2) wz := h 2 (by kernel_rfl)
    have e2 : f 2 = (.pointer (some ⟨gx, 2, none⟩)) := h2
    simp only [e2] at hK ⊢
    clear e2
    clear h
    try rw [if_pos (by rfl)]
    have y0 := keep_of_below hB C2.out
    go_simp
    exact hK _ _ (gr_refl _) rfl
   refine Steps.cons rfl ?_ ?_
   ·intro f wz hB h K Q hK
    clear h
    try rw [if_pos (by rfl)]
    go_simp
    exact hK _ _ (gr_refl _) rfl
   refine Steps.cons rfl ?_ ?_
   ·intro f wz hB h K Q hK
    clear h
    try rw [if_pos (by rfl)]
    go_simp
    exact hK _ _ (gr_refl _) rfl
   refine Steps.cons rfl ?_ ?_
   ·intro f wz hB h K Q hK
    have h5 : (MP.is (.slice B 4080 c)).p (f 5) wz := h 5 (by kernel_rfl)
    have e5 : f 5 = (.slice B 4080 c) := h5
    simp only [e5] at hK ⊢
    clear e5
    clear h
    try rw [if_pos (by rfl)]
    go_simp
    refine (HCL.out _ (bel_drew hB)).mono ?_
    rintro e w5 ⟨⟨A, c, rfl, h5⟩, hb5⟩
    exact hK _ _ hb5 ⟨A, c, rfl, h5⟩
   exact Steps.nil
  intro f w2 hB2 hR
  conv => arg 7; simp only [putL, dstOf, List.size_toArray, List.length_cons, List.length_nil, Nat.zero_add, Nat.reduceAdd, List.getElem?_toArray, List.getElem?_cons_zero, List.getElem?_cons_succ, Option.bind_some, Act.put, List.setIfInBounds_toArray, List.set_cons_zero, List.set_cons_succ, Array.getD_eq_getD_getElem?, Option.getD_some, if_true, if_false, Bool.false_eq_true]
  have e0 : f 0 = (.pointer (some ⟨gx, 0, none⟩)) := hR 0 (by decide) rfl
  have e1 : f 1 = (.pointer (some ⟨gx, 0, none⟩)) := hR 1 (by decide) rfl
  have e2 : f 2 = (.pointer (some ⟨gx, 2, none⟩)) := hR 2 (by decide) rfl
  have e3 : f 3 = (.map (some mx)) := hR 3 (by decide) rfl
  have e4 : f 4 = (.int .i64 (pg : Int)) := hR 4 (by decide) rfl
  have e5 : f 5 = (.slice B 4080 c) := hR 5 (by decide) rfl
  obtain ⟨A62, c62, e6, q62⟩ := (show (MP.rs w.heap.size 4080 l).p (f 6) w2 from hR 6 (by decide) rfl)
  simp only [e0, e1, e2, e3, e4, e5, e6]
  clear e0 e1 e2 e3 e4 e5 e6 hR
  have HB2 : Hid (Below w.heap.size w w2) := Lib.hid (Below.trans (gr_drewN (gr_refl w) 1) hB2)
  obtain ⟨w3, hput, hmv3, hg3⟩ := (HX2.out.below HB2.out).put Tryz.underlying91 (k := (pg : Int)) (by omega) (by omega) (.slice A62 4080 c62) (by simp only [maxLen]; omega)
  have HMV := Lib.hid hmv3
  have HG3 := Lib.hid hg3
  have HV := Lib.hid q62
  clear hmv3 hg3 q62 hB2
  refine wpAny_of_held (S := fun _ => True) _ _ _ _ ?_
  refine wpAnyH_ready (rs := [7]) (by kernel_rfl) (by simp) ?_
  refine AllReadyH.cons rfl (fun KK hK => ?_) AllReadyH.nil
  rw [if_pos (by rfl)]
  go_simp
  refine hK.out _ _ trivial (fun _ => ?_)
  clear hK KK
  try simp only [List.setIfInBounds_toArray, List.set_cons_zero, List.set_cons_succ]
  refine wpAnyH_done (by kernel_rfl) ?_ _
  clear hput
  have hfin := ASetG.put HA.out HT.out.1 HT.out.2 HX1.out (by rw [HXE.out]; exact HX2.out) HQ.out HB2.out (by rw [HXE.out]; exact HMV.out) HG3.out HV.out HLL.out
  have HFIN := Lib.hid hfin
  clear hfin
  go_wp2_with fail
  go_ret
  exact HFIN.out
 ·go_enter Tryz.func19, Tryz.ntmps19
  go_wp2_with fail
  refine HST.out.mono ?_
  rintro e w1 ⟨rfl, rfl⟩
  go_wp2_with fail
  refine HPG.out.mono ?_
  rintro e w1 ⟨rfl, rfl⟩
  go_upto_region 9 with fail
  clear c2 hk2 hln
  refine wp_region_any (by kernel_rfl) ?_
  refine' wpAny_to_tail (l0 := #[false, false, false, false, false, false, false, false]) (by kernel_rfl) (by kernel_rfl) (by kernel_rfl) (by kernel_rfl) (by kernel_rfl)
   [MP.is (.pointer (some ⟨gx, 0, none⟩)), MP.is (.pointer (some ⟨gx, 0, none⟩)), MP.is (.pointer (some ⟨gx, 2, none⟩)), MP.is (.map (some mx)), MP.is (.int .i64 (pg : Int)), MP.is (.slice B 4080 c), MP.rs w.heap.size 4080 l, MP.any]
   (fun j => j == 7) #[true, true, true, true, true, true, true, false] rfl (by kernel_rfl) rfl (by kernel_rfl) (by kernel_rfl) (by kernel_rfl) (by kernel_rfl) (fun _ => undef) (by rfl) ?hR02 ?hAA2 ?hst2 ?hend2
  case hR02 =>
   intro j hj
   have hj2 : j ∈ [] := hj
   cases hj2
  case hAA2 =>
   intro f
   conv => lhs; simp only [putA, dstOf, List.size_toArray, List.length_cons, List.length_nil, Nat.zero_add, Nat.reduceAdd, List.getElem?_toArray, List.getElem?_cons_zero, List.getElem?_cons_succ, Option.bind_some, Act.put, List.setIfInBounds_toArray, List.set_cons_zero, List.set_cons_succ]
   first | done | exact rfl
  case hst2 =>
   refine Steps.of_list (l' := [0, 1, 2, 3, 4, 5, 6]) (by kernel_rfl) ?_
   refine Steps.cons rfl ?_ ?_
   ·intro f wz hB h K Q hK
    clear h
    try simp only [List.getElem_toArray, List.getElem_cons_zero]
    try rw [if_pos (by rfl)]
    go_simp
    exact hK _ _ (gr_refl _) rfl
   refine Steps.cons rfl ?_ ?_
   ·intro f wz hB h K Q hK
    have h0 : (MP.is (.pointer (some ⟨gx, 0, none⟩))).p (f 0) wz := h 0 (by kernel_rfl)
    have e0 : f 0 = (.pointer (some ⟨gx, 0, none⟩)) := h0
    simp only [e0] at hK ⊢
    clear e0
    clear h
    try rw [if_pos (by rfl)]
    go_simp
    exact hK _ _ (gr_refl _) rfl
   refine Steps.cons rfl ?_ ?_
   ·intro f wz hB h K Q hK
    have h1 : (MP.is (.pointer (some ⟨gx, 0, none⟩))).p (f 1) wz := h 1 (by kernel_rfl)
    have e1 : f 1 = (.pointer (some ⟨gx, 0, none⟩)) := h1
    simp only [e1] at hK ⊢
    clear e1
    clear h
    try rw [if_pos (by rfl)]
    go_simp
    exact hK _ _ (gr_refl _) rfl
   refine Steps.cons rfl ?_ ?_
   ·intro f wz hB h K Q hK
    have h2 : (MP.is (.pointer (some ⟨gx, 2, none⟩))).p (f 2) wz := h 2 (by kernel_rfl)
    have e2 : f 2 = (.pointer (some ⟨gx, 2, none⟩)) := h2
    simp only [e2] at hK ⊢
    clear e2
    clear h
    try rw [if_pos (by rfl)]
    have y0 := keep_of_below hB C2.out
    go_simp
    exact hK _ _ (gr_refl _) rfl
   refine Steps.cons rfl ?_ ?_
   ·intro f wz hB h K Q hK
    clear h
    try rw [if_pos (by rfl)]
    go_simp
    exact hK _ _ (gr_refl _) rfl
   refine Steps.cons rfl ?_ ?_
   ·intro f wz hB h K Q hK
    clear h
    try rw [if_pos (by rfl)]
    go_simp
    exact hK _ _ (gr_refl _) rfl
   refine Steps.cons rfl ?_ ?_
   ·intro f wz hB h K Q hK
    have h5 : (MP.is (.slice B 4080 c)).p (f 5) wz := h 5 (by kernel_rfl)
    have e5 : f 5 = (.slice B 4080 c) := h5
    simp only [e5] at hK ⊢
    clear e5
    clear h
    try rw [if_pos (by rfl)]
    go_simp
    refine (HCL.out _ (bel_drew hB)).mono ?_
    rintro e w5 ⟨⟨A, c, rfl, h5⟩, hb5⟩
    exact hK _ _ hb5 ⟨A, c, rfl, h5⟩
   exact Steps.nil
  intro f w2 hB2 hR
  conv => arg 7; simp only [putL, dstOf, List.size_toArray, List.length_cons, List.length_nil, Nat.zero_add, Nat.reduceAdd, List.getElem?_toArray, List.getElem?_cons_zero, List.getElem?_cons_succ, Option.bind_some, Act.put, List.setIfInBounds_toArray, List.set_cons_zero, List.set_cons_succ, Array.getD_eq_getD_getElem?, Option.getD_some, if_true, if_false, Bool.false_eq_true]
  have e0 : f 0 = (.pointer (some ⟨gx, 0, none⟩)) := hR 0 (by decide) rfl
  have e1 : f 1 = (.pointer (some ⟨gx, 0, none⟩)) := hR 1 (by decide) rfl
  have e2 : f 2 = (.pointer (some ⟨gx, 2, none⟩)) := hR 2 (by decide) rfl
  have e3 : f 3 = (.map (some mx)) := hR 3 (by decide) rfl
  have e4 : f 4 = (.int .i64 (pg : Int)) := hR 4 (by decide) rfl
  have e5 : f 5 = (.slice B 4080 c) := hR 5 (by decide) rfl
  obtain ⟨A62, c62, e6, q62⟩ := (show (MP.rs w.heap.size 4080 l).p (f 6) w2 from hR 6 (by decide) rfl)
  simp only [e0, e1, e2, e3, e4, e5, e6]
  clear e0 e1 e2 e3 e4 e5 e6 hR
  have HB2 : Hid (Below w.heap.size w w2) := Lib.hid (Below.trans (gr_drewN (gr_refl w) 1) hB2)
  obtain ⟨w3, hput, hmv3, hg3⟩ := (HX2.out.below HB2.out).put Tryz.underlying91 (k := (pg : Int)) (by omega) (by omega) (.slice A62 4080 c62) (by simp only [maxLen]; omega)
  have HMV := Lib.hid hmv3
  have HG3 := Lib.hid hg3
  have HV := Lib.hid q62
  clear hmv3 hg3 q62 hB2
  refine wpAny_of_held (S := fun _ => True) _ _ _ _ ?_
  refine wpAnyH_ready (rs := [7]) (by kernel_rfl) (by simp) ?_
  refine AllReadyH.cons rfl (fun KK hK => ?_) AllReadyH.nil
  rw [if_pos (by rfl)]
  go_simp
  refine hK.out _ _ trivial (fun _ => ?_)
  clear hK KK
  try simp only [List.setIfInBounds_toArray, List.set_cons_zero, List.set_cons_succ]
  refine wpAnyH_done (by kernel_rfl) ?_ _
  clear hput
  have hfin := ASetG.put HA.out HT.out.1 HT.out.2 HX1.out (by rw [HXE.out]; exact HX2.out) HQ.out HB2.out (by rw [HXE.out]; exact HMV.out) HG3.out HV.out HLL.out
  have HFIN := Lib.hid hfin
  clear hfin
  go_wp2_with fail
  go_ret
  exact HFIN.out
set_option maxRecDepth 100000 in
theorem Set_atG (ha : AZ w0 w z D P A T) (hT : ∀ k, T k → T2 k) (hT2 : ∀ k, T2 k → k < w.heap.size) (hx : XZ w w0.heap.size z.ga gx X T2 U) (page : Int) (B : Option Addr) (n c : Nat) (l : List UInt8) (hb : BR w B n l) (p1 : -9223372036854775808 ≤ page) (p2 : page ≤ 9223372036854775807) (h16 : X.st.length ≤ 16) :
  Calls Tryz.prog 19 #[.pointer (some ⟨gx, 0, none⟩), .int .i64 page, .slice B n c] w (ASetG w0 w z gx D P A (asetX P A X page l) T T2 U (asetE P A X page l.length)) := by
 have hl : l.length = n := hb.len
 by_cases h : asetE P A X page l.length = 0
 ·have hx2 : asetX P A X page l = { X with st := insS page.toNat l X.st } := by
   unfold asetX
   rw [if_neg (by rw [h]; exact fun h => h rfl)]
  have hc : ¬ (page < 0 ∨ (P.pages : Int) ≤ page ∨ l.length ≠ 4080) := by
   intro hc
   unfold asetE at h
   by_cases hs : stE A X = 0
   ·rw [if_neg (by rw [hs]; exact fun h => h rfl), if_pos hc] at h
    cases h
   ·rw [if_pos hs] at h
    exact hs h
  obtain ⟨pg, rfl⟩ := Int.eq_ofNat_of_zero_le (show 0 ≤ page by omega)
  have hn : n = 4080 := by omega
  subst hn
  rw [hx2, h, Int.toNat_natCast]
  exact Set_yes ha hT hT2 hx pg B c l hb (by rw [hl] at h; exact h) h16
 ·have hx2 : asetX P A X page l = X := by
   unfold asetX
   rw [if_pos h]
  rw [hx2]
  rw [hl] at h ⊢
  exact Set_not ha hx page B n c p1 p2 h
set_option maxRecDepth 100000 in
theorem Set_at (ha : AZ w0 w z D P A T) (hx : XZ w w0.heap.size z.ga gx X T U) (page : Int) (B : Option Addr) (n c : Nat) (l : List UInt8) (hb : BR w B n l) (p1 : -9223372036854775808 ≤ page) (p2 : page ≤ 9223372036854775807) (h16 : X.st.length ≤ 16) :
  Calls Tryz.prog 19 #[.pointer (some ⟨gx, 0, none⟩), .int .i64 page, .slice B n c] w (ASet w0 w z gx D P A (asetX P A X page l) T U (asetE P A X page l.length)) :=
 Set_atG ha (fun _ e => e) (fun _ e => (ha.lt e).2) hx page B n c l hb p1 p2 h16
end
end Go.Proofs.YtnkeclpgpiogoaaGreat

/-! MvB -/
namespace Go.Proofs.YtnkeclpgpiogoaaGreat
open Go Go.RowKit Go.Maps Go.Sort Go.Shelf
set_option maxRecDepth 100000 in
theorem sortsA (m : Nat) : AnyZI.SortsIn Tryz.prog Tryz.sortedA_ren Fence.wide m :=
 ⟨fun blk off cap ss W hH hblk hsz => callsIn_wide.2 (AnyM.slices_Sort_int Tryz.sortA blk off cap ss W hH hblk hsz), fun p cap W => callsIn_wide.2 (AnyM.slices_Sort_int_none Tryz.sortA p cap W)⟩
def intsL (l : List Nat) : List Int := l.map Int.ofNat
set_option maxRecDepth 100000 in
theorem sorted_is {α : Type} {l : List (Nat × α)} (hs : SortS l) {ss : List Int} (h : ss.Perm (intsL (l.map Prod.fst))) : ss.mergeSort leI = intsL (l.map Prod.fst) := by
 have tr : ∀ a b c : Int, leI a b = true → leI b c = true → leI a c = true := fun a b c h1 h2 => by simp only [leI, decide_eq_true_eq] at *; exact Int.le_trans h1 h2
 have tot : ∀ a b : Int, (leI a b || leI b a) = true := fun a b => by simp only [leI, Bool.or_eq_true, decide_eq_true_eq]; exact Int.le_total a b
 refine List.Perm.eq_of_pairwise (le := fun a b => leI a b = true) (fun a b _ _ h1 h2 => ?_) (List.pairwise_mergeSort tr tot ss) ?_ ?_
 ·simp only [leI, decide_eq_true_eq] at h1 h2
  exact Int.le_antisymm h1 h2
 ·unfold intsL
  refine List.pairwise_map.2 (List.Pairwise.imp (R := fun a b => a < b) (fun {a b} hab => ?_) hs)
  simp only [leI, decide_eq_true_eq]
  exact Int.ofNat_le.2 (Nat.le_of_lt hab)
 ·exact (List.mergeSort_perm ss leI).trans h
set_option maxRecDepth 100000 in
theorem mapF_keys {l : List (Nat × Value)} (x : Int) : x ∈ intsL (l.map Prod.fst) ↔ (mapF l x).isSome = true := by
 unfold intsL mapF
 rw [List.mem_map]
 constructor
 ·rintro ⟨p, hp, rfl⟩
  rw [if_neg (by show ¬ ((p : Int) < 0); omega)]
  show (findS l (Int.toNat (p : Int))).isSome = true
  rw [Int.toNat_natCast]
  cases hf : findS l p with
  | none => exact absurd hp (find_none.1 hf)
  | some v => rfl
 ·intro h
  split at h
  ·cases h
  ·rename_i h0
   refine ⟨x.toNat, ?_, by show ((x.toNat : Nat) : Int) = x; omega⟩
   cases hf : findS l x.toNat with
   | none => rw [hf] at h; cases h
   | some v => exact List.mem_map_of_mem (f := Prod.fst) (find_mem hf)
set_option maxRecDepth 100000 in
theorem KeysA_any (mb : Option Nat) (w : World) : Calls Tryz.prog 96 #[.map mb] w fun e w' => e = .returned (.func (.func 125) #[] #[.pointer (some ⟨w.heap.size, 0, none⟩)]) ∧ w' = w.alloc (.cells #[.map mb] 91) :=
 (callsIn_wide (n := 5)).1 (AnyZI.keys_in Tryz.keysA Fence.wide 5 trivial rfl mb w)
set_option maxHeartbeats 1000000 in
set_option maxRecDepth 100000 in
theorem SortedA_any (b : Nat) (l : List (Nat × Value)) (hs : SortS l) (w : World) (h : MV w b l.length (mapF l)) (hn : l.length ≤ 4096) :
  Calls Tryz.prog 92 #[.func (.func 125) #[] #[.pointer (some ⟨w.heap.size, 0, none⟩)]] (w.alloc (.cells #[.map (some b)] 91)) fun e w' => ∃ A c, e = .returned (.slice A l.length c) ∧ w'.ownsRow w.heap.size 3 1 (.slice A l.length c) l.length ((intsL (l.map Prod.fst)).map (Value.int .i64)) ∧ Below w.heap.size w w' := by
 obtain ⟨D0, hown, hz, hf⟩ := h
 have hbl := hown.lt
 have hmax : Maps.size D0 ≤ maxLen := by rw [hz]; simp only [maxLen]; omega
 have hbytes : Maps.size D0 * 8 ≤ 140737488355328 := by rw [hz]; omega
 have hseq : SeqGives Fence.wide 2 Tryz.prog 125 #[.pointer (some ⟨w.heap.size, 0, none⟩)] encZ (fun ss => ss.Perm (intKeys D0)) (Maps.size D0) (w.alloc (.cells #[.map (some b)] 91)) :=
  AnyZI.keys_gives (ρ := Tryz.keysA_ren) { Tryz.keysA with } Fence.wide _ trivial rfl (by omega) w.heap.size b _ D0 _ (by simp) (by simp) (by
   obtain ⟨es, clock, hb, Ft, hs, hD⟩ := hown
   exact ⟨es, clock, (Below.heap_alloc _ _ b hbl).trans hb, Ft, hs, hD⟩)
 have cS := AnyZI.sorted_in Tryz.sortedA Fence.wide 5 trivial trivial trivial trivial rfl (by omega) (sortsA _) (enters_of Tryz.func123 (by kernel_rfl) rfl) 125 #[.pointer (some ⟨w.heap.size, 0, none⟩)] trivial (enters_of Tryz.func125 (by kernel_rfl) rfl) _ _ hmax hbytes _ hseq
 refine ((callsIn_wide (n := 5)).1 cS).mono ?_
 rintro e w' ⟨v, ss, rfl, hS, hrow, hnil, hb⟩
 have hpk : (intKeys D0).Perm (intsL (l.map Prod.fst)) := by
  obtain ⟨es, rfl, hes⟩ := hown.keysOf
  refine (perm_intKeys ?_ ?_ (List.pairwise_map.2 (hs.imp fun h e => by have := Int.ofNat.inj e; omega)) fun x => ?_).symm
  ·obtain ⟨es', e2, ht⟩ := hown.tidy kInt
   cases e2
   exact ht
  ·intro p hp
   obtain ⟨key, hkey⟩ := hes p hp
   obtain ⟨x, _, hx, _⟩ := Maps.keyOf_i64 Tryz.underlying3 hkey
   exact ⟨x, hx⟩
  ·exact (mapF_keys x).trans (by rw [(hf x).1])
 have e1 := sorted_is hs (hS.trans hpk)
 have e2 : ss.length = l.length := by
  have := congrArg List.length e1
  rw [List.length_mergeSort] at this
  simpa [intsL] using this
 have ho := own_lower hrow (b := w.heap.size) (by simp)
 rw [e1, e2] at ho
 obtain ⟨A, c, rfl, _, _⟩ := own_form ho
 exact ⟨A, c, rfl, ho, ⟨hb.os, hb.tape, hb.output, Nat.le_trans (by simp) hb.size, fun k hk' => (hb.block k (by simp; omega)).trans (Below.heap_alloc _ _ k hk')⟩⟩
set_option maxRecDepth 100000 in
theorem KeysB_any (mb : Option Nat) (w : World) : Calls Tryz.prog 93 #[.map mb] w fun e w' => e = .returned (.func (.func 124) #[] #[.pointer (some ⟨w.heap.size, 0, none⟩)]) ∧ w' = w.alloc (.cells #[.map mb] 86) :=
 (callsIn_wide (n := 5)).1 (AnyZI.keys_in Tryz.keysB Fence.wide 5 trivial rfl mb w)
set_option maxHeartbeats 1000000 in
set_option maxRecDepth 100000 in
theorem SortedB_any (b : Nat) (l : List (Nat × Value)) (hs : SortS l) (w : World) (h : MV w b l.length (mapF l)) (hn : l.length ≤ 4096) :
  Calls Tryz.prog 92 #[.func (.func 124) #[] #[.pointer (some ⟨w.heap.size, 0, none⟩)]] (w.alloc (.cells #[.map (some b)] 86)) fun e w' => ∃ A c, e = .returned (.slice A l.length c) ∧ w'.ownsRow w.heap.size 3 1 (.slice A l.length c) l.length ((intsL (l.map Prod.fst)).map (Value.int .i64)) ∧ Below w.heap.size w w' := by
 obtain ⟨D0, hown, hz, hf⟩ := h
 have hbl := hown.lt
 have hmax : Maps.size D0 ≤ maxLen := by rw [hz]; simp only [maxLen]; omega
 have hbytes : Maps.size D0 * 8 ≤ 140737488355328 := by rw [hz]; omega
 have hseq : SeqGives Fence.wide 2 Tryz.prog 124 #[.pointer (some ⟨w.heap.size, 0, none⟩)] encZ (fun ss => ss.Perm (intKeys D0)) (Maps.size D0) (w.alloc (.cells #[.map (some b)] 86)) :=
  AnyZI.keys_gives (ρ := Tryz.keysB_ren) { Tryz.keysB with } Fence.wide _ trivial rfl (by omega) w.heap.size b _ D0 _ (by simp) (by simp) (by
   obtain ⟨es, clock, hb, Ft, hs, hD⟩ := hown
   exact ⟨es, clock, (Below.heap_alloc _ _ b hbl).trans hb, Ft, hs, hD⟩)
 have cS := AnyZI.sorted_in Tryz.sortedA Fence.wide 5 trivial trivial trivial trivial rfl (by omega) (sortsA _) (enters_of Tryz.func123 (by kernel_rfl) rfl) 124 #[.pointer (some ⟨w.heap.size, 0, none⟩)] trivial (enters_of Tryz.func124 (by kernel_rfl) rfl) _ _ hmax hbytes _ hseq
 refine ((callsIn_wide (n := 5)).1 cS).mono ?_
 rintro e w' ⟨v, ss, rfl, hS, hrow, hnil, hb⟩
 have hpk : (intKeys D0).Perm (intsL (l.map Prod.fst)) := by
  obtain ⟨es, rfl, hes⟩ := hown.keysOf
  refine (perm_intKeys ?_ ?_ (List.pairwise_map.2 (hs.imp fun h e => by have := Int.ofNat.inj e; omega)) fun x => ?_).symm
  ·obtain ⟨es', e2, ht⟩ := hown.tidy kInt
   cases e2
   exact ht
  ·intro p hp
   obtain ⟨key, hkey⟩ := hes p hp
   obtain ⟨x, _, hx, _⟩ := Maps.keyOf_i64 Tryz.underlying3 hkey
   exact ⟨x, hx⟩
  ·exact (mapF_keys x).trans (by rw [(hf x).1])
 have e1 := sorted_is hs (hS.trans hpk)
 have e2 : ss.length = l.length := by
  have := congrArg List.length e1
  rw [List.length_mergeSort] at this
  simpa [intsL] using this
 have ho := own_lower hrow (b := w.heap.size) (by simp)
 rw [e1, e2] at ho
 obtain ⟨A, c, rfl, _, _⟩ := own_form ho
 exact ⟨A, c, rfl, ho, ⟨hb.os, hb.tape, hb.output, Nat.le_trans (by simp) hb.size, fun k hk' => (hb.block k (by simp; omega)).trans (Below.heap_alloc _ _ k hk')⟩⟩
end Go.Proofs.YtnkeclpgpiogoaaGreat

/-! AtH -/
namespace Go.Proofs.YtnkeclpgpiogoaaGreat
open Go Go.RowKit Go.Maps
def NewI (w w' : World) (e : Ending) (l : List Nat) : Prop := ∃ A c, e = .returned (.slice A l.length c) ∧ w'.ownsRow w.heap.size 3 1 (.slice A l.length c) l.length ((intsL l).map (Value.int .i64)) ∧ Below w.heap.size w w'
section
variable {w0 w w' : World} {z : Wh} {D : EnS} {P : PoS} {A : AtS} {X : AxS} {T T' U : Nat → Prop} {gx ga b0 : Nat}
set_option maxRecDepth 100000 in
theorem Changed_at (hx : XZ w b0 ga gx X T U) (h16 : X.st.length ≤ 16) :
  Calls Tryz.prog 48 #[.pointer (some ⟨gx, 0, none⟩)] w fun e w' => NewI w w' e (X.st.map Prod.fst) := by
 obtain ⟨mx, q, x1, x2, x3, x4, x5, x6, x7, x8, x9, x10, x11⟩ := hx.ex
 have hl : (mapS Prod.snd q).length = X.st.length := by rw [mapS_len, ← x3, mapS_len]
 have hk : (mapS Prod.snd q).map Prod.fst = X.st.map Prod.fst := by rw [mapS_fst, ← x3, mapS_fst]
 have hs : SortS (mapS Prod.snd q) := by
  unfold SortS
  rw [hk]
  exact x10
 have HM := Lib.hid (Xmade_yes w gx x1.c0)
 have HK := Lib.hid (KeysA_any (some mx) w)
 have HS := Lib.hid (SortedA_any mx (mapS Prod.snd q) hs w (by rw [hl]; exact x2) (by omega))
 have c2 := x1.c2
 have HL := Lib.hid hl
 have HKK := Lib.hid hk
 clear hx x1 x2 x3 x4 x5 x6 x7 x8 x9 x10 x11 hl hk hs
 go_enter Tryz.func48, Tryz.ntmps48
 go_wp2_with fail
 refine HM.out.mono ?_
 rintro e w1 ⟨rfl, rfl⟩
 go_wp2_with fail
 refine HK.out.mono ?_
 rintro e w2 ⟨rfl, rfl⟩
 go_wp2_with fail
 refine HS.out.mono ?_
 rintro e w3 ⟨B, c, rfl, ho, hb⟩
 have HN : Hid (NewI w w3 (.returned (.slice B (mapS Prod.snd q).length c)) (X.st.map Prod.fst)) := Lib.hid (by
  rw [HKK.out] at ho
  have e1 : (mapS Prod.snd q).length = (X.st.map Prod.fst).length := by rw [HL.out, List.length_map]
  rw [e1] at ho ⊢
  exact ⟨B, c, rfl, ho, hb⟩)
 clear ho hb
 go_wp2_with fail
 go_ret
 exact HN.out
set_option maxRecDepth 100000 in
theorem Imaged_at (ha : AZ w0 w z D P A T) (h16 : A.im.length ≤ 4096) :
  Calls Tryz.prog 45 #[.pointer (some ⟨z.ga, 0, none⟩)] w fun e w' => NewI w w' e (A.im.map Prod.fst) := by
 obtain ⟨F, tv, mb, q, im, h1, h2, h3, h4, h5, h6, h7, h8, h9⟩ := ha.ex
 have hl : (mapS (fun _ => mkE) A.im).length = A.im.length := mapS_len ..
 have hk : (mapS (fun _ => mkE) A.im).map Prod.fst = A.im.map Prod.fst := mapS_fst ..
 have hs : SortS (mapS (fun _ => mkE) A.im) := by
  unfold SortS
  rw [hk]
  exact h8
 have HM := Lib.hid (Amade_yes w z.ga h2.c0)
 have HK := Lib.hid (KeysB_any (some im) w)
 have HS := Lib.hid (SortedB_any im (mapS (fun _ => mkE) A.im) hs w (by rw [hl]; exact h3) (by omega))
 have c3 := h2.c3
 have HL := Lib.hid hl
 have HKK := Lib.hid hk
 clear ha h1 h2 h3 h4 h5 h6 h7 h8 h9 hl hk hs
 go_enter Tryz.func45, Tryz.ntmps45
 go_wp2_with fail
 refine HM.out.mono ?_
 rintro e w1 ⟨rfl, rfl⟩
 go_wp2_with fail
 refine HK.out.mono ?_
 rintro e w2 ⟨rfl, rfl⟩
 go_wp2_with fail
 refine HS.out.mono ?_
 rintro e w3 ⟨B, c, rfl, ho, hb⟩
 have HN : Hid (NewI w w3 (.returned (.slice B (mapS (fun _ => mkE) A.im).length c)) (A.im.map Prod.fst)) := Lib.hid (by
  rw [HKK.out] at ho
  have e1 : (mapS (fun _ => mkE) A.im).length = (A.im.map Prod.fst).length := by rw [HL.out, List.length_map]
  rw [e1] at ho ⊢
  exact ⟨B, c, rfl, ho, hb⟩)
 clear ho hb
 go_wp2_with fail
 go_ret
 exact HN.out
end
end Go.Proofs.YtnkeclpgpiogoaaGreat

/-! PlC -/
namespace Go.Proofs.YtnkeclpgpiogoaaGreat
open Go.RowKit
/-! What a disk shows of a block, with the power there or not. -/
def visL (D : DiskS) (x : Nat) : List UInt8 := lastL D.blocks D.pending x
set_option maxRecDepth 100000 in
theorem lastL_snoc (bs : List (List UInt8)) (ps : List (Nat × List UInt8)) (b c : Nat) (m : List UInt8) : lastL bs (ps ++ [(c, m)]) b = if c = b then m else lastL bs ps b := by
 unfold lastL
 rw [List.foldl_append]
 rfl
def Easy (D : DiskS) : Prop := D.down = false ∧ D.power = -1 ∧ D.fault = -1
set_option maxRecDepth 100000 in
theorem Easy.opC {D : DiskS} (h : Easy D) : opC D = 0 := by
 unfold Go.Proofs.YtnkeclpgpiogoaaGreat.opC
 rw [h.1, h.2.1, h.2.2]
 rfl
set_option maxRecDepth 100000 in
theorem Easy.opS {D : DiskS} (h : Easy D) : opS D = D := by
 obtain ⟨a, b, c, d, e, f⟩ := D
 obtain ⟨h1, h2, h3⟩ := h
 dsimp only at h1 h2 h3
 subst h1 h2 h3
 rfl
set_option maxRecDepth 100000 in
theorem write_cases (D : DiskS) (b : Int) (m : List UInt8) (hm : m.length = 4096) : (writeE D b 4096 = 0 ∧ 0 ≤ b ∧ b < D.blocks.length ∧ writeD D b m = { opS D with pending := D.pending ++ [(b.toNat, m)] }) ∨ (writeE D b 4096 ≠ 0 ∧ (writeD D b m = D ∨ writeD D b m = opS D)) := by
 unfold writeE writeD
 by_cases h : askE D b = 0
 ·rw [if_neg (by rw [h]; decide), if_neg (by decide), if_neg (by rw [h, hm]; decide)]
  by_cases ho : opC D = 0
  ·rw [if_neg (by rw [ho]; decide)]
   have := ask_in h
   exact .inl ⟨ho, this.1, this.2, rfl⟩
  ·rw [if_pos ho]
   exact .inr ⟨ho, .inr rfl⟩
 ·rw [if_pos h, if_pos (.inl h)]
  exact .inr ⟨h, .inl rfl⟩
set_option maxRecDepth 100000 in
theorem visL_write {D : DiskS} {b : Int} {m : List UInt8} (hm : m.length = 4096) (x : Nat) : visL (writeD D b m) x = if writeE D b 4096 = 0 ∧ b.toNat = x then m else visL D x := by
 rcases write_cases D b m hm with ⟨h1, _, _, h4⟩ | ⟨h1, h2⟩
 ·rw [h4]
  show lastL D.blocks (D.pending ++ [(b.toNat, m)]) x = _
  rw [lastL_snoc]
  by_cases e : b.toNat = x
  ·rw [if_pos e, if_pos ⟨h1, e⟩]
  ·rw [if_neg e, if_neg (fun h => e h.2)]
   rfl
 ·rw [if_neg (fun h => h1 h.1)]
  rcases h2 with h2 | h2
  ·rw [h2]
  ·rw [h2]
   rfl
set_option maxRecDepth 100000 in
theorem visL_sync {D : DiskS} {x : Nat} (hx : x < D.blocks.length) : visL (syncD D) x = visL D x := by
 unfold syncD
 split
 ·rfl
 ·exact carry_at _ _ _ hx
set_option maxRecDepth 100000 in
theorem visL_putAll : ∀ (ws : List (Nat × List UInt8)) (D : DiskS) (x : Nat), (∀ p ∈ ws, p.1 ≠ x ∧ p.2.length = 4096) → visL (putAll D ws).1 x = visL D x
 | [], _, _, _ => rfl
 | p :: ws, D, x, h => by
  have hp := h p (List.mem_cons_self ..)
  have hv : visL (writeD D (p.1 : Int) p.2) x = visL D x := by
   rw [visL_write hp.2, if_neg (fun e => hp.1 (by have := e.2; rwa [Int.toNat_natCast] at this))]
  unfold putAll
  split
  ·exact hv
  ·rw [visL_putAll ws _ x (fun q hq => h q (List.mem_cons_of_mem _ hq)), hv]
set_option maxRecDepth 100000 in
theorem visL_flu {D : DiskS} {J : JnS} {x : Nat} (hx : x < D.blocks.length) (hJ : J.fi + J.bl ≤ x) (hb : 0 < J.bl) : visL (fluD D J) x = visL D x := by
 have hw : ∀ p ∈ wsJ J, p.1 ≠ x ∧ p.2.length = 4096 := fun p hp => by
  unfold wsJ wsL at hp
  obtain ⟨i, _, rfl⟩ := List.mem_map.1 hp
  have hm := Nat.mod_lt (J.pl + i) hb
  exact ⟨by show J.fi + (J.pl + i) % J.bl ≠ x; omega, sealL_len (payL_len _ _)⟩
 unfold fluD
 split
 ·rfl
 ·unfold flushD
  split
  ·exact visL_putAll _ _ _ hw
  ·rw [visL_sync (by rw [(putAll_pl _ _).2]; exact hx)]
   exact visL_putAll _ _ _ hw
def GoodV (D : DiskS) (x : Nat) (m : List UInt8) : Prop := openE (visL D x) = 0 ∧ openP (visL D x) = m
set_option maxRecDepth 100000 in
theorem open_blockP (v : Nat) (l : List UInt8) (h : l.length = 4080) : openE (blockP v l) = 0 ∧ openP (blockP v l) = l := by
 have := open_seal (leB v 8) l (leB_length _ _) h
 exact ⟨this.2.2, this.1⟩
structure TI (E : EnS) (P : PoS) (now : Nat → List UInt8) : Prop where
 pi : PI E P
 nb : E.d.blocks.length = P.base + P.pages
 fb : E.j.fi + E.j.bl ≤ P.base
 b0 : 0 < E.j.bl
 nl : ∀ p, p < P.pages → (now p).length = 4080
 held : ∀ i, i < P.fr.length → (P.fr.getD i fr0).pay = now (P.fr.getD i fr0).page
 disk : ∀ p, p < P.pages → (∀ i, i < P.fr.length → (P.fr.getD i fr0).page = p → (P.fr.getD i fr0).dirty = false) → GoodV E.d (P.base + p) (now p)
section
variable {E : EnS} {P : PoS} {now : Nat → List UInt8}
set_option maxRecDepth 100000 in
theorem TI.fpg (h : TI E P now) {i : Nat} (hi : i < P.fr.length) : (P.fr.getD i fr0).page < P.pages := (h.pi.ok _ (getD_mem (d := fr0) hi)).1
set_option maxRecDepth 100000 in
set_option maxRecDepth 100000 in
theorem TI.env (h : TI E P now) {E' : EnS} (hn : E'.d.blocks.length = E.d.blocks.length) (hf : E'.j.fi = E.j.fi) (hb : E'.j.bl = E.j.bl) (hv : ∀ x, P.base ≤ x → x < E.d.blocks.length → visL E'.d x = visL E.d x) : TI E' P now := by
 refine ⟨h.pi.disk hn, by rw [hn]; exact h.nb, by rw [hf, hb]; exact h.fb, by rw [hb]; exact h.b0, h.nl, h.held, fun p hp hc => ?_⟩
 have := h.disk p hp hc
 unfold GoodV at this ⊢
 rw [hv _ (Nat.le_add_right ..) (by rw [h.nb]; omega)]
 exact this
set_option maxRecDepth 100000 in
theorem TI.log (h : TI E P now) (n : Int) : TI (logD E n) P now := by
 unfold logD
 split
 ·exact h
 ·obtain ⟨h1, h2, _, _⟩ := fluJ_shape E.d E.j
  exact h.env (fluD_blocks _ _) h1 h2 (fun x hx hl => visL_flu hl (by have := h.fb; omega) h.b0)
set_option maxRecDepth 100000 in
theorem TI.app (h : TI E P now) (r : Rec) : TI (E.app r) P now := by
 have e : (appJ E.j r).fi = E.j.fi ∧ (appJ E.j r).bl = E.j.bl := by
  unfold appJ
  split <;> exact ⟨rfl, rfl⟩
 exact h.env rfl e.1 e.2 (fun _ _ _ => rfl)
set_option maxRecDepth 100000 in
theorem nd_at {l : List FrS} (hn : (l.map FrS.page).Nodup) {i j : Nat} (hi : i < l.length) (hj : j < l.length) (he : (l.getD i fr0).page = (l.getD j fr0).page) : i = j := by
 have e : ∀ k, k < l.length → (l.map FrS.page)[k]? = some (l.getD k fr0).page := fun k hk => by
  rw [List.getElem?_map, List.getD_eq_getElem?_getD, List.getElem?_eq_getElem hk]
  rfl
 have h1 := (idx_some hn).2 (e i hi)
 have h2 := (idx_some hn).2 (e j hj)
 rw [he] at h1
 rw [h1] at h2
 injection h2
set_option maxRecDepth 100000 in
theorem TI.blockP_ok (h : TI E P now) {n : Nat} (hn : n < P.fr.length) : (blockP (stampN P) (P.fr.getD n fr0).pay).length = 4096 := blockP_len (h.pi.ok _ (getD_mem (d := fr0) hn)).2.1
set_option maxRecDepth 100000 in
set_option maxRecDepth 100000 in
theorem TI.write (h : TI E P now) {n : Nat} (hn : n < P.fr.length) :
  TI (writeR E P n).1 (writeR E P n).2.1 now ∧ ((writeR E P n).2.2 = 0 → ((writeR E P n).2.1.fr.getD n fr0).dirty = false ∧ ∀ p, p ≠ (P.fr.getD n fr0).page → visL (writeR E P n).1.d (P.base + p) = visL (logD E (P.fr.getD n fr0).lsn).d (P.base + p)) ∧ ∀ p, p < P.pages → p ≠ (P.fr.getD n fr0).page → visL (writeR E P n).1.d (P.base + p) = visL E.d (P.base + p) := by
 have hl := h.log (P.fr.getD n fr0).lsn
 have hpg := h.fpg hn
 have hok := h.pi.ok _ (getD_mem (d := fr0) hn)
 have hbl := h.blockP_ok hn
 have hlv : ∀ p, p < P.pages → visL (logD E (P.fr.getD n fr0).lsn).d (P.base + p) = visL E.d (P.base + p) := fun p hp => by
  unfold logD
  split
  ·rfl
  ·exact visL_flu (by rw [h.nb]; omega) (by have := h.fb; omega) h.b0
 have hpi := h.pi.write hn
 unfold writeR at hpi ⊢
 dsimp only at hpi ⊢
 split
 ·rename_i he
  exact ⟨hl, fun e => absurd e he, fun p hp _ => hlv p hp⟩
 ·rename_i he
  rw [if_neg he] at hpi
  generalize logD E (P.fr.getD n fr0).lsn = L at *
  have hv : ∀ x, visL (L.wr ((P.base + (P.fr.getD n fr0).page : Nat) : Int) (blockP (stampN P) (P.fr.getD n fr0).pay)).d x = if writeE L.d ((P.base + (P.fr.getD n fr0).page : Nat) : Int) 4096 = 0 ∧ P.base + (P.fr.getD n fr0).page = x then blockP (stampN P) (P.fr.getD n fr0).pay else visL L.d x := fun x => by
   have := visL_write (D := L.d) (b := ((P.base + (P.fr.getD n fr0).page : Nat) : Int)) hbl x
   rw [Int.toNat_natCast] at this
   exact this
  split
  ·rename_i hw
   refine ⟨hl.env (wr_blocks ..) rfl rfl (fun x _ _ => ?_), fun e => absurd e hw, fun p hp _ => ?_⟩
   ·rw [hv, if_neg (fun e => hw e.1)]
   ·rw [hv, if_neg (fun e => hw e.1)]
    exact hlv p hp
  ·rename_i hw
   rw [if_neg hw] at hpi
   have hw0 : writeE L.d ((P.base + (P.fr.getD n fr0).page : Nat) : Int) 4096 = 0 := Decidable.not_not.1 hw
   have hg : ∀ j, (P.fr.set n { P.fr.getD n fr0 with dirty := false }).getD j fr0 = if n = j then { P.fr.getD n fr0 with dirty := false } else P.fr.getD j fr0 := fun j => by
    rw [getD_setQ]
    by_cases e : n = j
    ·rw [if_pos ⟨e, hn⟩, if_pos e]
    ·rw [if_neg (fun h => e h.1), if_neg e]
   refine ⟨⟨hpi, by rw [wr_blocks]; exact hl.nb, hl.fb, hl.b0, h.nl, fun i hi => ?_, fun p hp hc => ?_⟩, fun _ => ⟨?_, fun p hp => ?_⟩, fun p hp hne => ?_⟩
   ·have hi' : i < P.fr.length := by simpa using hi
    show ((P.fr.set n _).getD i fr0).pay = now ((P.fr.set n _).getD i fr0).page
    rw [hg]
    split
    ·rename_i e
     subst e
     exact h.held n hn
    ·exact h.held i hi'
   ·unfold GoodV
    rw [hv]
    by_cases e : (P.fr.getD n fr0).page = p
    ·rw [if_pos ⟨hw0, by rw [e]⟩]
     have := open_blockP (stampN P) (P.fr.getD n fr0).pay hok.2.1
     refine ⟨this.1, ?_⟩
     rw [this.2, h.held n hn, e]
    ·rw [if_neg (fun h => e (by have h2 : P.base + (P.fr.getD n fr0).page = P.base + p := h.2; omega))]
     refine hl.disk p hp fun i hi hip => ?_
     have hni : n ≠ i := fun e2 => e (by rw [e2]; exact hip)
     have := hc i (by show i < (P.fr.set n _).length; rw [List.length_set]; exact hi)
     have hg2 := hg i
     rw [if_neg hni] at hg2
     have h3 : ((P.fr.set n { P.fr.getD n fr0 with dirty := false }).getD i fr0).page = p → ((P.fr.set n { P.fr.getD n fr0 with dirty := false }).getD i fr0).dirty = false := this
     rw [hg2] at h3
     exact h3 hip
   ·show ((P.fr.set n { P.fr.getD n fr0 with dirty := false }).getD n fr0).dirty = false
    rw [hg, if_pos rfl]
   ·rw [hv, if_neg (fun h => hp (by have h2 : P.base + (P.fr.getD n fr0).page = P.base + p := h.2; omega))]
   ·rw [hv, if_neg (fun h => hne (by have h2 : P.base + (P.fr.getD n fr0).page = P.base + p := h.2; omega))]
    exact hlv p hp
set_option maxRecDepth 100000 in
set_option maxRecDepth 100000 in
theorem TI.alike (h : TI E P now) {fr : List FrS} (ha : Alike P.fr fr) {hd : Nat} (hh : hd < P.most) : TI E { P with fr := fr, hand := hd } now := by
 refine ⟨h.pi.alike ha hh, h.nb, h.fb, h.b0, h.nl, fun i hi => ?_, fun p hp hc => h.disk p hp fun i hi hip => ?_⟩
 ·have hi' : i < P.fr.length := by rw [ha.1]; exact hi
  obtain ⟨u, hu⟩ := ha.2 i hi'
  show (fr.getD i fr0).pay = now (fr.getD i fr0).page
  rw [hu]
  exact h.held i hi'
 ·obtain ⟨u, hu⟩ := ha.2 i hi
  have := hc i (by show i < fr.length; rw [← ha.1]; exact hi)
  have h3 : (fr.getD i fr0).page = p → (fr.getD i fr0).dirty = false := this
  rw [hu] at h3
  exact h3 hip
set_option maxRecDepth 100000 in
theorem TI.spn (h : TI E P now) : TI E (spun P) now := h.alike (spinF_alike _ _ _ _ (Alike.refl _)) (spinF_hand _ (by have := h.pi.m1; omega) _ _ _ h.pi.hd)
def updN (now : Nat → List UInt8) (p : Nat) (m : List UInt8) (x : Nat) : List UInt8 := if x = p then m else now x
set_option maxRecDepth 100000 in
theorem updN_len {k : Nat} (h : ∀ p, p < k → (now p).length = 4080) (p : Nat) {m : List UInt8} (hm : m.length = 4080) : ∀ x, x < k → (updN now p m x).length = 4080 := fun x hx => by
 unfold updN
 split
 ·exact hm
 ·exact h x hx
set_option maxRecDepth 100000 in
theorem updN_same {p : Nat} {m : List UInt8} (h : m = now p) : updN now p m = now := by
 funext x
 unfold updN
 split
 ·rename_i e
  rw [h, e]
 ·rfl
set_option maxRecDepth 100000 in
set_option maxRecDepth 100000 in
theorem TI.put (h : TI E P now) {f : FrS} (hfull : P.fr.length = P.most) (hc : (P.fr.getD P.hand fr0).dirty = false) (hp : f.page < P.pages) (hl : f.pay.length = 4080) (h1 : 0 ≤ f.lsn) (h2 : f.lsn ≤ 9223372036854775807) (hn : f.page ∉ P.fr.map FrS.page) (hd : f.dirty = false → GoodV E.d (P.base + f.page) f.pay) : TI E (putP P f) (updN now f.page f.pay) := by
 have hh : P.hand < P.fr.length := by rw [hfull]; exact h.pi.hd
 have hg : ∀ j, (P.fr.set P.hand f).getD j fr0 = if P.hand = j then f else P.fr.getD j fr0 := fun j => by
  rw [getD_setQ]
  by_cases e : P.hand = j
  ·rw [if_pos ⟨e, hh⟩, if_pos e]
  ·rw [if_neg (fun h => e h.1), if_neg e]
 have hne : ∀ i, i < P.fr.length → (P.fr.getD i fr0).page ≠ f.page := fun i hi e => hn (e ▸ List.mem_map_of_mem (getD_mem hi))
 refine ⟨h.pi.put hfull hp hl h1 h2 hn, h.nb, h.fb, h.b0, updN_len h.nl _ hl, fun i hi => ?_, fun p hp8 hcl => ?_⟩
 ·have hi' : i < P.fr.length := by simpa [putP] using hi
  show ((P.fr.set P.hand f).getD i fr0).pay = updN now f.page f.pay ((P.fr.set P.hand f).getD i fr0).page
  rw [hg]
  unfold updN
  split
  ·rw [if_pos rfl]
  ·rw [if_neg (hne i hi')]
   exact h.held i hi'
 ·have hcl2 : ∀ i, i < P.fr.length → (if P.hand = i then f else P.fr.getD i fr0).page = p → (if P.hand = i then f else P.fr.getD i fr0).dirty = false := fun i hi => by
   have := hcl i (by show i < (P.fr.set P.hand f).length; rw [List.length_set]; exact hi)
   have h3 : ((P.fr.set P.hand f).getD i fr0).page = p → ((P.fr.set P.hand f).getD i fr0).dirty = false := this
   rw [hg] at h3
   exact h3
  unfold updN
  by_cases e : p = f.page
  ·subst e
   rw [if_pos rfl]
   refine hd ?_
   have := hcl2 P.hand hh
   rw [if_pos rfl] at this
   exact this rfl
  ·rw [if_neg e]
   refine h.disk p hp8 fun i hi hip => ?_
   by_cases e2 : P.hand = i
   ·rw [← e2]; exact hc
   ·have := hcl2 i hi
    rw [if_neg e2] at this
    exact this hip
set_option maxRecDepth 100000 in
theorem TI.push (h : TI E P now) {f : FrS} (hroom : P.fr.length < P.most) (hp : f.page < P.pages) (hl : f.pay.length = 4080) (h1 : 0 ≤ f.lsn) (h2 : f.lsn ≤ 9223372036854775807) (hn : f.page ∉ P.fr.map FrS.page) (hd : f.dirty = false → GoodV E.d (P.base + f.page) f.pay) : TI E (pushP P f) (updN now f.page f.pay) := by
 have hg : ∀ j, j < P.fr.length → (P.fr ++ [f]).getD j fr0 = P.fr.getD j fr0 := fun j hj => by
  rw [List.getD_eq_getElem?_getD, List.getElem?_append_left hj, List.getD_eq_getElem?_getD]
 have hg2 : (P.fr ++ [f]).getD P.fr.length fr0 = f := by
  rw [List.getD_eq_getElem?_getD, List.getElem?_append_right (Nat.le_refl _), Nat.sub_self]
  rfl
 have hne : ∀ i, i < P.fr.length → (P.fr.getD i fr0).page ≠ f.page := fun i hi e => hn (e ▸ List.mem_map_of_mem (getD_mem hi))
 have hlen : (P.fr ++ [f]).length = P.fr.length + 1 := by rw [List.length_append]; rfl
 refine ⟨h.pi.push hroom hp hl h1 h2 hn, h.nb, h.fb, h.b0, updN_len h.nl _ hl, fun i hi => ?_, fun p hp8 hcl => ?_⟩
 ·have hi' : i < P.fr.length + 1 := by rw [← hlen]; exact hi
  show ((P.fr ++ [f]).getD i fr0).pay = updN now f.page f.pay ((P.fr ++ [f]).getD i fr0).page
  unfold updN
  by_cases e : i < P.fr.length
  ·rw [hg i e, if_neg (hne i e)]
   exact h.held i e
  ·obtain rfl : i = P.fr.length := by omega
   rw [hg2, if_pos rfl]
 ·have hcl2 : ∀ i, i < P.fr.length + 1 → ((P.fr ++ [f]).getD i fr0).page = p → ((P.fr ++ [f]).getD i fr0).dirty = false := fun i hi => hcl i (by show i < (P.fr ++ [f]).length; rw [hlen]; exact hi)
  unfold updN
  by_cases e : p = f.page
  ·subst e
   rw [if_pos rfl]
   refine hd ?_
   have := hcl2 P.fr.length (by omega)
   rw [hg2] at this
   exact this rfl
  ·rw [if_neg e]
   refine h.disk p hp8 fun i hi hip => ?_
   have := hcl2 i (by omega)
   rw [hg i hi] at this
   exact this hip
set_option maxRecDepth 100000 in
set_option maxRecDepth 100000 in
theorem TI.hold (h : TI E P now) {f : FrS} (hp : f.page < P.pages) (hl : f.pay.length = 4080) (h1 : 0 ≤ f.lsn) (h2 : f.lsn ≤ 9223372036854775807) (hn : f.page ∉ P.fr.map FrS.page) (hd : f.dirty = false → GoodV E.d (P.base + f.page) f.pay) :
  TI (holdR E P f).1 (holdR E P f).2.1 (if (holdR E P f).2.2 = 0 then updN now f.page f.pay else now) := by
 unfold holdR
 by_cases hr : P.fr.length < P.most
 ·rw [if_pos hr, if_pos rfl]
  exact h.push hr hp hl h1 h2 hn hd
 ·rw [if_neg hr]
  have hs := h.spn
  have hsl := spun_len P
  have hle := h.pi.len
  have hfull : (spun P).fr.length = (spun P).most := by
   have e : (spun P).most = P.most := rfl
   omega
  have hh : (spun P).hand < (spun P).fr.length := by rw [hfull]; exact hs.pi.hd
  have hns : f.page ∉ (spun P).fr.map FrS.page := by rw [spun_pages]; exact hn
  by_cases hdt : ((spun P).fr.getD (spun P).hand fr0).dirty = true
  ·rw [if_pos hdt]
   obtain ⟨ht, hw, hv⟩ := hs.write hh
   obtain ⟨s1, s2, s3, s4, s5⟩ := writeR_shape E (spun P) (spun P).hand
   have hlen := writeR_len E (spun P) (spun P).hand
   have hpgs := writeR_pages E (spun P) (spun P).hand
   generalize writeR E (spun P) (spun P).hand = z at *
   obtain ⟨E', P', e⟩ := z
   dsimp only at *
   by_cases he : e = 0
   ·subst he
    rw [if_neg (by decide), if_pos rfl]
    refine ht.put (by rw [hlen, s1]; exact hfull) (by rw [s2]; exact (hw rfl).1) (by rw [s3]; exact hp) hl h1 h2 (by rw [hpgs]; exact hns) (fun e => ?_)
    have hg := hd e
    have hne : f.page ≠ ((spun P).fr.getD (spun P).hand fr0).page := fun e3 => hns (by rw [e3]; exact List.mem_map_of_mem (getD_mem hh))
    unfold GoodV at hg ⊢
    have hb : P'.base = P.base := s4
    rw [hb]
    have := hv f.page hp hne
    rw [show (spun P).base = P.base from rfl] at this
    rw [this]
    exact hg
   ·rw [if_pos he, if_neg he]
    exact ht
  ·have hcl : ((spun P).fr.getD (spun P).hand fr0).dirty = false := by simpa using hdt
   rw [if_neg hdt, if_pos rfl]
   exact hs.put hfull hcl hp hl h1 h2 hns hd
set_option maxRecDepth 100000 in
theorem TI.use (h : TI E P now) {i : Nat} (_hi : i < P.fr.length) : TI E (useP P i) now := by
 have := h.alike (fr := P.fr.set i { P.fr.getD i fr0 with used := true }) ((Alike.refl P.fr).set i true) h.pi.hd
 exact this
set_option maxRecDepth 100000 in
theorem readE_in {D : DiskS} {x : Nat} (h : readE D (x : Int) = 0) : readL D (x : Int) = visL D x := by
 unfold readL
 rw [if_neg (by rw [h]; decide), Int.toNat_natCast]
 rfl
set_option maxRecDepth 100000 in
theorem TI.ask (_h : TI E P now) {p : Nat} (hp : p < P.pages) : askP P (p : Int) = 0 := by
 unfold askP
 rw [if_neg (by omega)]
set_option maxRecDepth 100000 in
set_option maxRecDepth 100000 in
theorem TI.get (h : TI E P now) {p : Nat} (hp : p < P.pages) : TI (getR E P (p : Int)).1 (getR E P (p : Int)).2.1 now ∧ ((getR E P (p : Int)).2.2 = 0 → getL E P (p : Int) = now p) := by
 have ha := h.ask hp
 cases hi : findP P p with
 | some i =>
  obtain ⟨hil, hip⟩ := findP_some hi
  have e : getR E P (p : Int) = (E, useP P i, 0) := by
   unfold getR
   rw [if_neg (by rw [ha]; decide), Int.toNat_natCast, hi]
  refine ⟨by rw [e]; exact h.use hil, fun _ => ?_⟩
  unfold getL
  rw [e, if_neg (show ¬ ((0 : Int) ≠ 0) from fun h => h rfl), Int.toNat_natCast, hi]
  show (P.fr.getD i fr0).pay = now p
  rw [h.held i hil, hip]
 | none =>
  have hno := (findP_none P p).1 hi
  have hgd := h.disk p hp (fun i hi2 hip => absurd (hip ▸ List.mem_map_of_mem (getD_mem hi2)) hno)
  have e : getR E P (p : Int) = if readE E.d ((P.base + p : Nat) : Int) ≠ 0 then (E, P, readE E.d ((P.base + p : Nat) : Int)) else if openE (readL E.d ((P.base + p : Nat) : Int)) ≠ 0 then (E, P, openE (readL E.d ((P.base + p : Nat) : Int))) else holdR E P ⟨p, openP (readL E.d ((P.base + p : Nat) : Int)), 0, false, true⟩ := by
   unfold getR
   rw [if_neg (by rw [ha]; decide), Int.toNat_natCast, hi]
  have e2 : (getR E P (p : Int)).2.2 = 0 → getL E P (p : Int) = openP (readL E.d ((P.base + p : Nat) : Int)) := fun h0 => by
   unfold getL
   rw [if_neg (by rw [h0]; decide), Int.toNat_natCast, hi]
  by_cases hr : readE E.d ((P.base + p : Nat) : Int) = 0
  ·have hrl := readE_in hr
   rw [if_neg (by rw [hr]; decide), hrl, hgd.1, if_neg (by decide), hgd.2] at e
   have hh := h.hold (f := ⟨p, now p, 0, false, true⟩) hp (h.nl p hp) (Int.le_refl _) (by show (0 : Int) ≤ _; omega) hno (fun _ => hgd)
   rw [show updN now p (now p) = now from updN_same rfl, ite_self] at hh
   refine ⟨by rw [e]; exact hh, fun h0 => ?_⟩
   rw [e2 h0, hrl]
   exact hgd.2
  ·rw [if_pos hr] at e
   rw [e]
   exact ⟨h, fun h0 => absurd h0 hr⟩
set_option maxRecDepth 100000 in
set_option maxRecDepth 100000 in
theorem TI.set_ (h : TI E P now) {p : Nat} (hp : p < P.pages) {l : List UInt8} (hl : l.length = 4080) {lsn : Int} (h1 : 0 ≤ lsn) (h2 : lsn ≤ 9223372036854775807) :
  TI (setR E P (p : Int) l lsn).1 (setR E P (p : Int) l lsn).2.1 (if (setR E P (p : Int) l lsn).2.2 = 0 then updN now p l else now) := by
 have ha := h.ask hp
 have hse : setE P (p : Int) l.length lsn = 0 := by
  unfold setE
  rw [ha, if_neg (by decide), if_neg (by omega)]
 cases hi : findP P p with
 | some i =>
  obtain ⟨hil, hip⟩ := findP_some hi
  have e : setR E P (p : Int) l lsn = (E, setP P i ⟨p, l, lsn, true, true⟩, 0) := by
   unfold setR
   rw [hse, if_neg (by decide), Int.toNat_natCast, hi]
  rw [e, if_pos rfl]
  have hg : ∀ j, (P.fr.set i ⟨p, l, lsn, true, true⟩).getD j fr0 = if i = j then ⟨p, l, lsn, true, true⟩ else P.fr.getD j fr0 := fun j => by
   rw [getD_setQ]
   by_cases e : i = j
   ·rw [if_pos ⟨e, hil⟩, if_pos e]
   ·rw [if_neg (fun h => e h.1), if_neg e]
  have hpi := h.pi.set (f := ⟨p, l, lsn, true, true⟩) hil hip.symm hl h1 h2
  refine ⟨hpi, h.nb, h.fb, h.b0, updN_len h.nl _ hl, fun j hj => ?_, fun x hx hc => ?_⟩
  ·have hj' : j < P.fr.length := by simpa [setP] using hj
   show ((P.fr.set i ⟨p, l, lsn, true, true⟩).getD j fr0).pay = updN now p l ((P.fr.set i ⟨p, l, lsn, true, true⟩).getD j fr0).page
   rw [hg]
   unfold updN
   split
   ·rw [if_pos rfl]
   ·rename_i hne
    rw [if_neg (fun e2 => hne (nd_at h.pi.nd hil hj' (by rw [hip, e2])))]
    exact h.held j hj'
  ·have hc2 : ∀ j, j < P.fr.length → (if i = j then (⟨p, l, lsn, true, true⟩ : FrS) else P.fr.getD j fr0).page = x → (if i = j then (⟨p, l, lsn, true, true⟩ : FrS) else P.fr.getD j fr0).dirty = false := fun j hj => by
    have := hc j (by show j < (P.fr.set i _).length; rw [List.length_set]; exact hj)
    have h3 : ((P.fr.set i ⟨p, l, lsn, true, true⟩).getD j fr0).page = x → ((P.fr.set i ⟨p, l, lsn, true, true⟩).getD j fr0).dirty = false := this
    rw [hg] at h3
    exact h3
   unfold updN
   by_cases e2 : x = p
   ·have := hc2 i hil
    rw [if_pos rfl] at this
    cases this e2.symm
   ·rw [if_neg e2]
    refine h.disk x hx fun j hj hjx => ?_
    have := hc2 j hj
    rw [if_neg (fun e3 => e2 (by rw [← hjx, ← e3, hip]))] at this
    exact this hjx
 | none =>
  have hno := (findP_none P p).1 hi
  have e : setR E P (p : Int) l lsn = holdR E P ⟨p, l, lsn, true, true⟩ := by
   unfold setR
   rw [hse, if_neg (by decide), Int.toNat_natCast, hi]
  rw [e]
  exact h.hold (f := ⟨p, l, lsn, true, true⟩) hp hl h1 h2 hno (fun e => by cases e)
end
end Go.Proofs.YtnkeclpgpiogoaaGreat

/-! PlZ -/
namespace Go.Proofs.YtnkeclpgpiogoaaGreat
open Go Go.RowKit
set_option maxRecDepth 100000 in
theorem Lg.new {n fi bl ep pl ct : Nat} (hn : n ≤ 4096) (hm : mayB n fi bl ep pl ct = true) : Lg (List.replicate n zer) (newJ fi bl ep pl ct) pl ct [] [] ∧ Blank (List.replicate n zer) (newJ fi bl ep pl ct) pl 0 := by
 have hj := newJ_ji hn hm
 unfold mayB at hm
 simp only [Bool.and_eq_true, decide_eq_true_eq] at hm
 obtain ⟨t0, t1, t2, t3, t4, t5, t6, t7, t8, t9⟩ := hm
 have hz : ∀ b, b < n → (List.replicate n zer).getD b [] = zer := fun b hb => by
  rw [List.getD_eq_getElem?_getD, List.getElem?_replicate, if_pos hb]
  rfl
 refine ⟨⟨hj, rfl, rfl, by simp, ?_, trivial, rfl, ?_, rfl, fun p hp c _ hc => ?_, ?_⟩, fun k _ hk => hz _ ?_⟩
 ·show fi + bl ≤ (List.replicate n zer).length
  rw [List.length_replicate]
  omega
 ·show pl = (pl + 0) % bl
  rw [Nat.add_zero, Nat.mod_eq_of_lt (by omega)]
 ·have hp2 : p < bl := hp
  show NoSt ((List.replicate n zer).getD (fi + p) []) (ofN ep c)
  rw [hz _ (by omega)]
  refine NoSt.zer_ ?_
  unfold ofN
  omega
 ·show ep < 4294967296
  omega
 ·show fi + (pl + k) % bl < n
  have := Nat.mod_lt (pl + k) (show 0 < bl by omega)
  omega
end Go.Proofs.YtnkeclpgpiogoaaGreat

/-! PlD -/
namespace Go.Proofs.YtnkeclpgpiogoaaGreat
open Go.RowKit
set_option maxRecDepth 100000 in
theorem carry_app (bs : List (List UInt8)) (ps qs : List (Nat × List UInt8)) : carry bs (ps ++ qs) = carry (carry bs ps) qs := by
 unfold carry
 exact List.foldl_append ..
set_option maxRecDepth 100000 in
theorem carry_out {bs : List (List UInt8)} {ps : List (Nat × List UInt8)} {x : Nat} (h : ∀ q ∈ ps, q.1 ≠ x) : (carry bs ps).getD x [] = bs.getD x [] := by
 unfold carry
 induction ps generalizing bs with
 | nil => rfl
 | cons p ps ih =>
  rw [List.foldl_cons, ih (fun q hq => h q (List.mem_cons_of_mem _ hq)), List.getD_eq_getElem?_getD, List.getElem?_set_ne (h p (List.mem_cons_self ..)), ← List.getD_eq_getElem?_getD]
set_option maxRecDepth 100000 in
theorem putAll_easy : ∀ (ws : List (Nat × List UInt8)) {D : DiskS}, Easy D → (∀ p ∈ ws, p.1 < D.blocks.length ∧ p.2.length = 4096) → putAll D ws = ({ D with pending := D.pending ++ ws }, 0)
 | [], D, _, _ => by simp [putAll]
 | p :: ws, D, h, hp => by
  obtain ⟨h1, h2⟩ := hp p (List.mem_cons_self ..)
  have ha : askE D (p.1 : Int) = 0 := by
   unfold askE
   rw [if_neg (by omega)]
  have hw : writeE D (p.1 : Int) p.2.length = 0 := by
   unfold writeE
   rw [ha, if_neg (by decide), if_neg (by omega)]
   exact h.opC
  have hd : writeD D (p.1 : Int) p.2 = { D with pending := D.pending ++ [(p.1, p.2)] } := by
   unfold writeD
   rw [if_neg (by rw [ha, h2]; decide), if_neg (by rw [h.opC]; decide), h.opS, Int.toNat_natCast]
  unfold putAll
  rw [if_neg (by rw [hw]; decide), hd, putAll_easy ws (D := { D with pending := D.pending ++ [(p.1, p.2)] }) h (fun q hq => hp q (List.mem_cons_of_mem _ hq))]
  simp
set_option maxRecDepth 100000 in
theorem flu_easy {D : DiskS} {J : JnS} (h : Easy D) (hbr : J.br = false) (hw : J.waits.length ≠ 0) (hb : 0 < J.bl) (hf : J.fi + J.bl ≤ D.blocks.length) :
  fluE D J = 0 ∧ fluJ D J = { J with pl := (J.pl + needL J.waits.length) % J.bl, ct := J.ct + needL J.waits.length, us := J.us + needL J.waits.length, waits := [], sy := J.la } ∧ fluD D J = { D with blocks := carry D.blocks (D.pending ++ wsJ J), pending := [] } := by
 have hp := putAll_easy (wsJ J) h (wsL_ok hb hf)
 have he : flushE D (wsJ J) = 0 := by
  unfold flushE
  rw [hp, if_neg (show ¬ ((0 : Int) ≠ 0) from fun h => h rfl)]
  exact h.opC
 refine ⟨?_, ?_, ?_⟩
 ·unfold fluE
  rw [hbr, if_neg (by decide), if_neg hw]
  exact he
 ·unfold fluJ
  rw [if_neg (by rw [hbr]; simp [hw]), if_neg (by rw [he]; decide)]
 ·unfold fluD
  rw [if_neg (by rw [hbr]; simp [hw])]
  unfold flushD
  rw [hp, if_neg (show ¬ ((0 : Int) ≠ 0) from fun h => h rfl)]
  unfold syncD
  have h2 : Easy { D with pending := D.pending ++ wsJ J } := h
  rw [if_neg (by rw [h2.opC]; decide), h2.opS]
set_option maxRecDepth 100000 in
theorem joinE_nil {rs : List Rec} (h : (joinE rs).length = 0) : rs = [] := by
 have := joinE_ge rs
 exact List.eq_nil_of_length_eq_zero (by omega)
set_option maxRecDepth 100000 in
set_option maxRecDepth 100000 in
theorem Lg.cong {B B' : List (List UInt8)} {J : JnS} {pl0 ct0 : Nat} {fs : List (List Rec)} {cur : List Rec} (h : Lg B J pl0 ct0 fs cur) (hl : J.fi + J.bl ≤ B'.length) (hB : ∀ x, x < J.bl → B'.getD (J.fi + x) [] = B.getD (J.fi + x) []) : Lg B' J pl0 ct0 fs cur :=
 ⟨h.ji, h.br, h.wl, h.wr, hl, h.log.cong (fun k _ _ => hB _ (Nat.mod_lt _ h.bpos)), h.us, h.pl, h.ct, fun p hp c h1 h2 => by rw [hB p hp]; exact h.old p hp c h1 h2, h.ep⟩
structure LC (E : EnS) (P : PoS) (recs : List Rec) (U : Nat) : Prop where
 easy : Easy E.d
 ex : ∃ fs cur, Lg E.d.blocks E.j 0 1 fs cur ∧ fs.flatten ++ cur = recs ∧ E.j.sy = fs.flatten.length ∧ totL fs + flN cur ≤ U
 la : E.j.la = recs.length
 po : ∀ q ∈ E.d.pending, P.base ≤ q.1
 pl : E.d.pending.length ≤ P.count
section
variable {E : EnS} {P : PoS} {now : Nat → List UInt8} {recs : List Rec} {U : Nat}
set_option maxRecDepth 100000 in
theorem LC.br (h : LC E P recs U) : E.j.br = false := by
 obtain ⟨fs, cur, h1, _⟩ := h.ex
 exact h1.br
set_option maxRecDepth 100000 in
theorem LC.to (h : LC E P recs U) {P' : PoS} (hb : P'.base = P.base) (hc : P.count ≤ P'.count) : LC E P' recs U := ⟨h.easy, h.ex, h.la, by rw [hb]; exact h.po, Nat.le_trans h.pl hc⟩
set_option maxRecDepth 100000 in
set_option maxRecDepth 100000 in
theorem LC.flush (h : LC E P recs U) (ht : TI E P now) : fluE E.d E.j = 0 ∧ LC { E with d := fluD E.d E.j, j := fluJ E.d E.j } P recs U ∧ (fluJ E.d E.j).sy = recs.length := by
 obtain ⟨fs, cur, h1, h2, h3, h4⟩ := h.ex
 have hfb := ht.fb
 have hnb := ht.nb
 by_cases hw : E.j.waits.length = 0
 ·have hc : cur = [] := joinE_nil (by rw [← h1.wl]; exact hw)
  have e1 : fluE E.d E.j = 0 := by
   unfold fluE
   rw [h1.br, if_neg (by decide), if_pos hw]
  have e2 : fluD E.d E.j = E.d := by
   unfold fluD
   rw [if_pos (.inr hw)]
  have e3 : fluJ E.d E.j = E.j := by
   unfold fluJ
   rw [if_pos (.inr hw)]
  rw [e1, e2, e3]
  refine ⟨rfl, h, ?_⟩
  rw [h3, ← h2, hc, List.append_nil]
 ·obtain ⟨e1, e2, e3⟩ := flu_easy h.easy h1.br hw ht.b0 (by rw [hnb]; omega)
  have hc : cur ≠ [] := fun e => hw (by rw [h1.wl, e]; rfl)
  have h5 := h1.cong (B' := carry E.d.blocks E.d.pending) (by rw [carry_len, hnb]; omega) (fun x hx => carry_out (fun q hq => by have := h.po q hq; omega))
  have h6 := h5.flushed hc
  rw [← carry_app] at h6
  refine ⟨e1, ?_, by rw [e2]; exact h.la⟩
  rw [e2, e3]
  refine ⟨h.easy, ⟨fs ++ [cur], [], h6, ?_, ?_, ?_⟩, h.la, fun q hq => (by cases hq), Nat.zero_le _⟩
  ·rw [List.flatten_append, List.append_nil]
   simpa using h2
  ·show E.j.la = (fs ++ [cur]).flatten.length
   rw [h.la, ← h2, List.flatten_append]
   simp
  ·rw [totL_snoc]
   show totL fs + flN cur + needL (joinE []).length ≤ U
   have e : needL (joinE []).length = 0 := rfl
   omega
set_option maxRecDepth 100000 in
theorem LC.log (h : LC E P recs U) (ht : TI E P now) (n : Int) : logE E n = 0 ∧ LC (logD E n) P recs U ∧ (n ≤ recs.length → n ≤ (logD E n).j.sy) := by
 unfold logE logD
 by_cases hk : E.k = true ∧ n ≤ (E.j.sy : Int)
 ·rw [if_pos hk, if_pos hk]
  exact ⟨rfl, h, fun _ => hk.2⟩
 ·rw [if_neg hk, if_neg hk]
  obtain ⟨h1, h2, h3⟩ := h.flush ht
  refine ⟨h1, h2, fun hn => ?_⟩
  show n ≤ ((fluJ E.d E.j).sy : Int)
  rw [h3]
  exact hn
set_option maxRecDepth 100000 in
theorem LC.wr (h : LC E P recs U) {x : Nat} {m : List UInt8} (hx : x < E.d.blocks.length) (hm : m.length = 4096) (hb : P.base ≤ x) : writeE E.d (x : Int) 4096 = 0 ∧ LC (E.wr (x : Int) m) { P with count := P.count + 1 } recs U := by
 have ha : askE E.d (x : Int) = 0 := by
  unfold askE
  rw [if_neg (by omega)]
 have hw : writeE E.d (x : Int) 4096 = 0 := by
  unfold writeE
  rw [ha, if_neg (by decide), if_neg (by omega)]
  exact h.easy.opC
 have hd : writeD E.d (x : Int) m = { E.d with pending := E.d.pending ++ [(x, m)] } := by
  unfold writeD
  rw [if_neg (by rw [ha, hm]; decide), if_neg (by rw [h.easy.opC]; decide), h.easy.opS, Int.toNat_natCast]
 refine ⟨hw, ?_⟩
 unfold EnS.wr
 rw [hd]
 refine ⟨h.easy, h.ex, h.la, fun q hq => ?_, ?_⟩
 ·rcases List.mem_append.1 hq with hq | hq
  ·exact h.po q hq
  ·rw [List.mem_singleton.1 hq]
   exact hb
 ·show (E.d.pending ++ [(x, m)]).length ≤ P.count + 1
  rw [List.length_append, List.length_singleton]
  have := h.pl
  omega
set_option maxRecDepth 100000 in
theorem LC.write (h : LC E P recs U) (ht : TI E P now) {n : Nat} (hn : n < P.fr.length) : (writeR E P n).2.2 = 0 ∧ LC (writeR E P n).1 (writeR E P n).2.1 recs U ∧ (writeR E P n).2.1.count = P.count + 1 := by
 obtain ⟨h1, h2, _⟩ := h.log ht (P.fr.getD n fr0).lsn
 have hb := ht.blockP_ok hn
 have hp := ht.fpg hn
 obtain ⟨h3, h4⟩ := h2.wr (x := P.base + (P.fr.getD n fr0).page) (by rw [logD_blocks, ht.nb]; omega) hb (by omega)
 unfold writeR
 dsimp only
 rw [h1, if_neg (by decide), h3, if_neg (by decide)]
 exact ⟨rfl, h4.to rfl (Nat.le_refl _), rfl⟩
set_option maxRecDepth 100000 in
theorem LC.hold (h : LC E P recs U) (ht : TI E P now) (f : FrS) : (holdR E P f).2.2 = 0 ∧ LC (holdR E P f).1 (holdR E P f).2.1 recs U ∧ (holdR E P f).2.1.count ≤ P.count + 1 := by
 unfold holdR
 by_cases hr : P.fr.length < P.most
 ·rw [if_pos hr]
  exact ⟨rfl, h.to rfl (Nat.le_refl _), Nat.le_succ _⟩
 ·rw [if_neg hr]
  have hs := ht.spn
  have hh : (spun P).hand < (spun P).fr.length := by
   have h1 := hs.pi.hd
   have h2 := spun_len P
   have h3 : (spun P).most = P.most := rfl
   omega
  by_cases hdt : ((spun P).fr.getD (spun P).hand fr0).dirty = true
  ·rw [if_pos hdt]
   obtain ⟨h1, h2, h3⟩ := (h.to (P' := spun P) rfl (Nat.le_refl _)).write hs hh
   generalize writeR E (spun P) (spun P).hand = z at *
   obtain ⟨E', P', e⟩ := z
   dsimp only at *
   subst h1
   rw [if_neg (by decide)]
   exact ⟨rfl, h2.to rfl (Nat.le_refl _), Nat.le_of_eq h3⟩
  ·rw [if_neg hdt]
   exact ⟨rfl, h.to rfl (Nat.le_refl _), Nat.le_succ _⟩
set_option maxRecDepth 100000 in
set_option maxRecDepth 100000 in
theorem LC.get (h : LC E P recs U) (ht : TI E P now) {p : Nat} (hp : p < P.pages) : (getR E P (p : Int)).2.2 = 0 ∧ LC (getR E P (p : Int)).1 (getR E P (p : Int)).2.1 recs U ∧ (getR E P (p : Int)).2.1.count ≤ P.count + 1 := by
 have ha := ht.ask hp
 cases hi : findP P p with
 | some i =>
  have e : getR E P (p : Int) = (E, useP P i, 0) := by
   unfold getR
   rw [if_neg (by rw [ha]; decide), Int.toNat_natCast, hi]
  rw [e]
  exact ⟨rfl, h.to rfl (Nat.le_refl _), Nat.le_succ _⟩
 | none =>
  have hno := (findP_none P p).1 hi
  have hgd := ht.disk p hp (fun i hi2 hip => absurd (hip ▸ List.mem_map_of_mem (getD_mem hi2)) hno)
  have hr : readE E.d ((P.base + p : Nat) : Int) = 0 := by
   unfold readE
   rw [h.easy.1]
   unfold askE
   rw [if_neg (by rw [ht.nb]; omega)]
   rfl
  have e : getR E P (p : Int) = holdR E P ⟨p, openP (readL E.d ((P.base + p : Nat) : Int)), 0, false, true⟩ := by
   unfold getR
   rw [if_neg (by rw [ha]; decide), Int.toNat_natCast, hi]
   show (if readE E.d ((P.base + p : Nat) : Int) ≠ 0 then _ else if openE (readL E.d ((P.base + p : Nat) : Int)) ≠ 0 then _ else holdR E P ⟨p, openP (readL E.d ((P.base + p : Nat) : Int)), 0, false, true⟩) = _
   rw [if_neg (by rw [hr]; decide), if_neg (by rw [readE_in hr, hgd.1]; decide)]
  rw [e]
  exact h.hold ht _
set_option maxRecDepth 100000 in
theorem LC.set_ (h : LC E P recs U) (ht : TI E P now) {p : Nat} (hp : p < P.pages) {l : List UInt8} (hl : l.length = 4080) {lsn : Int} (h1 : 0 ≤ lsn) : (setR E P (p : Int) l lsn).2.2 = 0 ∧ LC (setR E P (p : Int) l lsn).1 (setR E P (p : Int) l lsn).2.1 recs U ∧ (setR E P (p : Int) l lsn).2.1.count ≤ P.count + 1 := by
 have ha := ht.ask hp
 have hse : setE P (p : Int) l.length lsn = 0 := by
  unfold setE
  rw [ha, if_neg (by decide), if_neg (by omega)]
 cases hi : findP P p with
 | some i =>
  have e : setR E P (p : Int) l lsn = (E, setP P i ⟨p, l, lsn, true, true⟩, 0) := by
   unfold setR
   rw [hse, if_neg (by decide), Int.toNat_natCast, hi]
  rw [e]
  exact ⟨rfl, h.to rfl (Nat.le_refl _), Nat.le_succ _⟩
 | none =>
  have e : setR E P (p : Int) l lsn = holdR E P ⟨p, l, lsn, true, true⟩ := by
   unfold setR
   rw [hse, if_neg (by decide), Int.toNat_natCast, hi]
  rw [e]
  exact h.hold ht _
set_option maxRecDepth 100000 in
theorem needL_add (a b : Nat) : needL (a + b) ≤ needL a + needL b := by
 unfold needL
 omega
set_option maxRecDepth 100000 in
set_option maxRecDepth 100000 in
theorem LC.app (h : LC E P recs U) {r : Rec} (hr : r.right = true) {k : Nat} (hk : (encR r).length ≤ 4076 * k) (hU : U + k ≤ E.j.bl) (hl : recs.length ≤ 1000000) : appE E.j r = 0 ∧ appN E.j r = recs.length + 1 ∧ LC (E.app r) P (recs ++ [r]) (U + k) := by
 obtain ⟨fs, cur, h1, h2, h3, h4⟩ := h.ex
 have hn : needL (encR r).length ≤ k := by unfold needL; omega
 have hw := h1.need
 have hus := h1.us
 have hct := h1.ct
 have hb2 := h1.ji.b2
 have hadd := needL_add E.j.waits.length (encR r).length
 have he : appE E.j r = 0 := by
  unfold appE
  rw [h1.br, if_neg (by decide), hr, if_neg (by decide), if_neg (by omega)]
 have hj : appJ E.j r = { E.j with waits := E.j.waits ++ encR r, la := E.j.la + 1 } := by
  unfold appJ
  rw [if_pos he]
 refine ⟨he, ?_, h.easy, ⟨fs, cur ++ [r], h1.app he (by rw [h.la]; omega), ?_, ?_, ?_⟩, ?_, h.po, h.pl⟩
 ·unfold appN
  rw [if_pos he, h.la]
 ·rw [← List.append_assoc, h2]
 ·show (appJ E.j r).sy = _
  rw [hj]
  exact h3
 ·have : flN (cur ++ [r]) ≤ flN cur + needL (encR r).length := by
   unfold flN
   rw [joinE_snoc, List.length_append]
   exact needL_add _ _
  omega
 ·show (appJ E.j r).la = _
  rw [hj, List.length_append, List.length_singleton]
  show E.j.la + 1 = _
  rw [h.la]
end
end Go.Proofs.YtnkeclpgpiogoaaGreat

/-! DfF -/
namespace Go.Proofs.YtnkeclpgpiogoaaGreat
open Go.RowKit
end Go.Proofs.YtnkeclpgpiogoaaGreat

/-! DfG -/
namespace Go.Proofs.YtnkeclpgpiogoaaGreat
open Go.RowKit
def dfo (a b : List UInt8) (i : Nat) : List Pc × Nat × Nat := (unlTo a b i).foldl (dstep b) ([], 0, 0)
def dfoP (a b : List UInt8) (i : Nat) : List Pc := dput b (dfo a b i).1 (dfo a b i).2.1 (dfo a b i).2.2
set_option maxRecDepth 100000 in
theorem dfo_eq {a b : List UInt8} {i : Nat} (h : a.getD i 0 = b.getD i 0) : dfo a b (i + 1) = dfo a b i := by unfold dfo; rw [unlTo_succ_eq h]
set_option maxRecDepth 100000 in
theorem dfo_ne {a b : List UInt8} {i : Nat} (h : a.getD i 0 ≠ b.getD i 0) : dfo a b (i + 1) = dstep b (dfo a b i) i := by unfold dfo; rw [unlTo_succ_ne h, List.foldl_append]; rfl
set_option maxRecDepth 100000 in
theorem diffL_dfo (a b : List UInt8) : diffL a b = dfoP a b 4080 := by
 unfold diffL dfoP dst dfo
 rw [List.take_length]
end Go.Proofs.YtnkeclpgpiogoaaGreat

/-! PlainD -/
namespace Go.Proofs.YtnkeclpgpiogoaaGreat
set_option maxRecDepth 100000 in
theorem get_of_getD {a b : List UInt8} {i : Nat} (ha : i < a.length) (hb : i < b.length) (h : a.getD i 0 = b.getD i 0) : a[i]? = b[i]? := by
 rw [List.getElem?_eq_getElem ha, List.getElem?_eq_getElem hb]
 simpa [List.getD, List.getElem?_eq_getElem ha, List.getElem?_eq_getElem hb] using h
set_option maxRecDepth 100000 in
theorem sub_get (b : List UInt8) (f e j : Nat) : ((b.drop f).take (e - f))[j]? = if j < e - f then b[f + j]? else none := by
 rw [List.getElem?_take]
 split
 ·rw [List.getElem?_drop]
 ·rfl
set_option maxRecDepth 100000 in
theorem sub_len (b : List UInt8) (f e : Nat) (hb : b.length = 4080) (he : e ≤ 4080) : ((b.drop f).take (e - f)).length = e - f := by
 rw [List.length_take, List.length_drop]; omega
def Mid (a b m : List UInt8) (i f e : Nat) : Prop := m.length = 4080 ∧ ∀ x, ¬ (f ≤ x ∧ x < e) → m[x]? = if x < i then b[x]? else a[x]?
set_option maxRecDepth 100000 in
theorem put_mid {a b m : List UInt8} {ps : List Pc} {i f e : Nat} (hb : b.length = 4080) (hm : Mid a b m i f e) (hei : e ≤ i) (hi : i ≤ 4080) (hfe : 0 < e → f < e) (hp : applyL a ps = some m) :
  ∃ m', applyL a (dput b ps f e) = some m' ∧ m'.length = 4080 ∧ ∀ x, m'[x]? = if x < i then b[x]? else a[x]? := by
 unfold dput
 split
 ·rename_i h0
  exact ⟨m, hp, hm.1, fun x => hm.2 x (by omega)⟩
 ·rename_i h0
  have hl := sub_len b f e hb (by omega)
  have h1 := hfe (by omega)
  refine ⟨splice m f ((b.drop f).take (e - f)), ?_, ?_, fun x => ?_⟩
  ·rw [applyL_append, hp]
   show applyL m _ = _
   unfold applyL
   rw [if_pos ⟨by dsimp only; omega, by dsimp only; omega, by dsimp only; omega⟩]
   rfl
  ·rw [length_splice _ _ _ (by rw [hl, hm.1]; omega)]; exact hm.1
  ·rw [splice_get _ _ _ _ (by rw [hl, hm.1]; omega), hl]
   by_cases c1 : x < f
   ·rw [if_pos c1]; exact hm.2 x (by omega)
   ·rw [if_neg c1]
    by_cases c2 : x < f + (e - f)
    ·rw [if_pos c2, sub_get, if_pos (by omega), if_pos (by omega)]
     congr 1
     omega
    ·rw [if_neg c2]; exact hm.2 x (by omega)
set_option maxRecDepth 100000 in
theorem dfo_mid {a b : List UInt8} (ha : a.length = 4080) (hb : b.length = 4080) : ∀ i, i ≤ 4080 → (dfo a b i).2.2 ≤ i ∧ (0 < (dfo a b i).2.2 → (dfo a b i).2.1 < (dfo a b i).2.2) ∧ ∃ m, applyL a (dfo a b i).1 = some m ∧ Mid a b m i (dfo a b i).2.1 (dfo a b i).2.2
 | 0, _ => ⟨Nat.le_refl _, fun h => absurd h (Nat.lt_irrefl _), a, rfl, ha, fun x _ => by rw [if_neg (by omega)]⟩
 | i + 1, hi => by
  obtain ⟨h1, h2, m, hm, hmid⟩ := dfo_mid ha hb i (by omega)
  by_cases h : a.getD i 0 = b.getD i 0
  ·rw [dfo_eq h]
   refine ⟨by omega, h2, m, hm, hmid.1, fun x hx => ?_⟩
   rw [hmid.2 x hx]
   by_cases c : x = i
   ·subst c
    rw [if_neg (by omega), if_pos (by omega)]
    exact get_of_getD (by omega) (by omega) h
   ·by_cases c2 : x < i
    ·rw [if_pos c2, if_pos (by omega)]
    ·rw [if_neg c2, if_neg (by omega)]
  ·rw [dfo_ne h]
   unfold dstep
   split
   ·obtain ⟨m', hp', hl', hx'⟩ := put_mid hb hmid h1 (by omega) h2 hm
    refine ⟨Nat.le_refl _, fun _ => by dsimp only; omega, m', hp', hl', fun x hx => ?_⟩
    dsimp only at hx
    rw [hx' x]
    by_cases c2 : x < i
    ·rw [if_pos c2, if_pos (by omega)]
    ·rw [if_neg c2, if_neg (by omega)]
   ·rename_i hn
    refine ⟨Nat.le_refl _, fun _ => by dsimp only; omega, m, hm, hmid.1, fun x hx => ?_⟩
    dsimp only at hx
    rw [hmid.2 x (by omega)]
    by_cases c2 : x < i
    ·rw [if_pos c2, if_pos (by omega)]
    ·rw [if_neg c2, if_neg (by omega)]
def pEnd (p : Pc) : Int := p.1 + p.2.length - 1
def Good (a b : List UInt8) (ps : List Pc) : Prop := ∀ i, i < ps.length → pcOk (ps.getD i (0, [])) ∧ a.getD (ps.getD i (0, [])).1.toNat 0 ≠ b.getD (ps.getD i (0, [])).1.toNat 0 ∧
 a.getD (pEnd (ps.getD i (0, []))).toNat 0 ≠ b.getD (pEnd (ps.getD i (0, []))).toNat 0 ∧ (0 < i → 8 < (ps.getD i (0, [])).1 - pEnd (ps.getD (i - 1) (0, [])))
set_option maxRecDepth 100000 in
theorem Good.snoc {a b : List UInt8} {ps : List Pc} (h : Good a b ps) (p : Pc) (h1 : pcOk p) (h2 : a.getD p.1.toNat 0 ≠ b.getD p.1.toNat 0) (h3 : a.getD (pEnd p).toNat 0 ≠ b.getD (pEnd p).toNat 0)
  (h4 : 0 < ps.length → 8 < p.1 - pEnd (ps.getD (ps.length - 1) (0, []))) : Good a b (ps ++ [p]) := by
 intro i hi
 rw [List.length_append, List.length_singleton] at hi
 have old : ∀ j, j < ps.length → (ps ++ [p]).getD j (0, []) = ps.getD j (0, []) := fun j hj => by simp [List.getD, List.getElem?_append_left hj]
 rcases Nat.lt_or_ge i ps.length with c | c
 ·rw [old i c, old (i - 1) (by omega)]
  exact h i c
 ·obtain rfl : i = ps.length := by omega
  have new : (ps ++ [p]).getD ps.length (0, []) = p := by simp [List.getD]
  rw [new]
  refine ⟨h1, h2, h3, fun h0 => ?_⟩
  rw [old _ (by omega)]
  exact h4 h0
def Making (a b : List UInt8) (s : List Pc × Nat × Nat) : Prop := Good a b s.1 ∧ s.2.2 ≤ 4080 ∧ (s.2.2 = 0 → s.1 = []) ∧
 (0 < s.2.2 → s.2.1 < s.2.2 ∧ a.getD s.2.1 0 ≠ b.getD s.2.1 0 ∧ a.getD (s.2.2 - 1) 0 ≠ b.getD (s.2.2 - 1) 0 ∧ (0 < s.1.length → 8 < (s.2.1 : Int) - pEnd (s.1.getD (s.1.length - 1) (0, []))))
set_option maxRecDepth 100000 in
theorem Making.put {a b : List UInt8} {s : List Pc × Nat × Nat} (hb : b.length = 4080) (h : Making a b s) : Good a b (dput b s.1 s.2.1 s.2.2) ∧ (0 < s.2.2 → 0 < (dput b s.1 s.2.1 s.2.2).length ∧ pEnd ((dput b s.1 s.2.1 s.2.2).getD ((dput b s.1 s.2.1 s.2.2).length - 1) (0, [])) = (s.2.2 : Int) - 1) ∧ (s.2.2 = 0 → dput b s.1 s.2.1 s.2.2 = []) := by
 obtain ⟨ps, f, e⟩ := s
 obtain ⟨h1, h2, h3, h4⟩ := h
 dsimp only at *
 unfold dput
 split
 ·rename_i h0
  exact ⟨h1, fun h => by omega, fun _ => h3 h0⟩
 ·rename_i h0
  obtain ⟨g1, g2, g3, g4⟩ := h4 (by omega)
  have hl := sub_len b f e hb h2
  have hpe : pEnd ((f : Int), (b.drop f).take (e - f)) = (e : Int) - 1 := by unfold pEnd; dsimp only; rw [hl]; omega
  refine ⟨h1.snoc _ ⟨by dsimp only; omega, by dsimp only; omega, by dsimp only; omega⟩ g2 ?_ g4, fun _ => ⟨by simp, ?_⟩, fun h => absurd h h0⟩
  ·rw [hpe]
   have : ((e : Int) - 1).toNat = e - 1 := by omega
   rw [this]
   exact g3
  ·rw [List.length_append, List.length_singleton, Nat.add_sub_cancel]
   have new : (ps ++ [((f : Int), (b.drop f).take (e - f))]).getD ps.length (0, []) = ((f : Int), (b.drop f).take (e - f)) := by simp [List.getD]
   rw [new, hpe]
set_option maxRecDepth 100000 in
theorem making {a b : List UInt8} (hb : b.length = 4080) : ∀ i, i ≤ 4080 → Making a b (dfo a b i) ∧ (dfo a b i).2.2 ≤ i
 | 0, _ => ⟨⟨fun i hi => absurd hi (Nat.not_lt_zero _), Nat.zero_le _, fun _ => rfl, fun h => absurd h (Nat.lt_irrefl _)⟩, Nat.le_refl _⟩
 | i + 1, hi => by
  obtain ⟨ih, ihe⟩ := making (a := a) hb i (by omega)
  by_cases h : a.getD i 0 = b.getD i 0
  ·rw [dfo_eq h]
   exact ⟨ih, by omega⟩
  ·obtain ⟨p1, p2, p3⟩ := ih.put hb
   rw [dfo_ne h]
   unfold dstep
   split
   ·rename_i hc
    refine ⟨⟨p1, hi, fun h0 => absurd h0 (by dsimp only; omega), fun _ => ⟨by dsimp only; omega, h, h, fun hl => ?_⟩⟩, Nat.le_refl _⟩
    dsimp only
    rcases Nat.eq_zero_or_pos (dfo a b i).2.2 with h0 | h0
    ·rw [p3 h0] at hl
     exact absurd hl (Nat.lt_irrefl _)
    ·dsimp only at hl
     rw [(p2 h0).2]
     omega
   ·rename_i hc
    obtain ⟨q1, q2, q3, q4⟩ := ih
    obtain ⟨g1, g2, g3, g4⟩ := q4 (by omega)
    exact ⟨⟨q1, hi, fun h0 => absurd h0 (by dsimp only; omega), fun _ => ⟨by dsimp only; omega, g2, h, g4⟩⟩, Nat.le_refl _⟩
set_option maxRecDepth 100000 in
theorem good_diff {a b : List UInt8} (hb : b.length = 4080) : Good a b (diffL a b) := by
 rw [diffL_dfo]
 exact ((making hb 4080 (Nat.le_refl _)).1.put hb).1
end Go.Proofs.YtnkeclpgpiogoaaGreat

/-! PlE -/
namespace Go.Proofs.YtnkeclpgpiogoaaGreat
open Go.RowKit
set_option maxRecDepth 100000 in
theorem drop_cons {ps : List Pc} {i : Nat} (hi : i < ps.length) : ps.drop i = ps.getD i (0, []) :: ps.drop (i + 1) := by
 rw [List.getD_eq_getElem?_getD, List.getElem?_eq_getElem hi]
 exact List.drop_eq_getElem_cons hi
set_option maxRecDepth 100000 in
theorem good_list {a b : List UInt8} {ps : List Pc} (h : Good a b ps) : ∀ (k i : Nat), i + k = ps.length → (∀ e : Int, (i < ps.length → e ≤ (ps.getD i (0, [])).1) → rpFrom e (ps.drop i) = true) ∧ (i < ps.length → ((encPs (ps.drop i)).length : Int) + (ps.getD i (0, [])).1 ≤ 4084)
 | 0, i, hi => by
  rw [List.drop_of_length_le (by omega)]
  exact ⟨fun _ _ => rfl, fun h => by omega⟩
 | k + 1, i, hi => by
  have hil : i < ps.length := by omega
  obtain ⟨⟨q1, q2, q3⟩, _, _, _⟩ := h i hil
  obtain ⟨ih1, ih2⟩ := good_list h k (i + 1) (by omega)
  have hnext : i + 1 < ps.length → (ps.getD i (0, [])).1 + (ps.getD i (0, [])).2.length + 8 ≤ (ps.getD (i + 1) (0, [])).1 := fun hl => by
   have := (h (i + 1) hl).2.2.2 (by omega)
   rw [Nat.add_sub_cancel] at this
   unfold pEnd at this
   omega
  rw [drop_cons hil]
  refine ⟨fun e he => ?_, fun _ => ?_⟩
  ·unfold rpFrom
   rw [if_neg (by have := he hil; omega)]
   exact ih1 _ (fun hl => by have := hnext hl; omega)
  ·unfold encPs encP
   simp only [List.length_append, leB_length]
   by_cases hl : i + 1 < ps.length
   ·have := ih2 hl
    have := hnext hl
    omega
   ·rw [List.drop_of_length_le (by omega)]
    have : (encPs []).length = 0 := rfl
    omega
set_option maxRecDepth 100000 in
theorem diff_right {a b : List UInt8} (hb : b.length = 4080) : rpFrom 0 (diffL a b) = true ∧ (encPs (diffL a b)).length ≤ 4084 := by
 have hg := good_diff (a := a) hb
 have h0 : 0 < (diffL a b).length → 0 ≤ ((diffL a b).getD 0 (0, [])).1 := fun h => (hg 0 h).1.1
 obtain ⟨h1, h2⟩ := good_list hg (diffL a b).length 0 (by omega)
 rw [List.drop_zero] at h1 h2
 refine ⟨h1 0 h0, ?_⟩
 by_cases h : 0 < (diffL a b).length
 ·have := h2 h
  have := h0 h
  omega
 ·have e : diffL a b = [] := List.eq_nil_of_length_eq_zero (by omega)
  rw [e]
  exact Nat.zero_le _
def chgL (im : List (Nat × Unit)) (now : Nat → List UInt8) : List (Nat × List UInt8) → List Ch
 | [] => []
 | (p, m) :: r => if now p = m then chgL im now r else chg1 im p (now p) m :: chgL im now r
structure XOk (n : Nat) (st : List (Nat × List UInt8)) : Prop where
 srt : SortS st
 ok : ∀ e ∈ st, e.1 < n ∧ e.2.length = 4080
 most : st.length ≤ 16
section
variable {im : List (Nat × Unit)} {now : Nat → List UInt8} {n : Nat}
set_option maxRecDepth 100000 in
theorem chgL_len : ∀ st : List (Nat × List UInt8), (chgL im now st).length ≤ st.length
 | [] => Nat.le_refl _
 | (p, m) :: r => by
  unfold chgL
  have := chgL_len r
  split
  ·simp only [List.length_cons]; omega
  ·simp only [List.length_cons]; omega
set_option maxRecDepth 100000 in
theorem rcFrom_cons (last : Int) (c : Ch) (cs : List Ch) : rcFrom last (c :: cs) = if c.1 ≤ last ∨ 4096 ≤ c.1 then false else if 0 < c.2.1.length then (if c.2.1.length ≠ 4080 ∨ 0 < c.2.2.length then false else rcFrom c.1 cs) else (if rpFrom 0 c.2.2 = true then rcFrom c.1 cs else false) := rfl
set_option maxRecDepth 100000 in
theorem chg1_ok {p : Nat} {old m : List UInt8} (hp : p < 4096) (hm : m.length = 4080) (last : Int) (hl : last < p) (cs : List Ch) : rcFrom last (chg1 im p old m :: cs) = rcFrom p cs ∧ (encC (chg1 im p old m)).length ≤ 4091 := by
 unfold chg1
 obtain ⟨d1, d2⟩ := diff_right (a := old) hm
 split
 ·refine ⟨?_, ?_⟩
  ·rw [rcFrom_cons, if_neg (by dsimp only; omega)]
   dsimp only
   rw [if_neg (by decide), if_pos d1]
  ·unfold encC
   dsimp only
   rw [if_neg (by decide)]
   simp only [List.length_append, List.length_cons, leB_length]
   omega
 ·refine ⟨?_, ?_⟩
  ·rw [rcFrom_cons, if_neg (by dsimp only; omega)]
   dsimp only
   rw [if_pos (by omega), if_neg (by simp [hm])]
  ·unfold encC
   dsimp only
   rw [if_pos (by omega)]
   simp only [List.length_append, List.length_cons, leB_length, hm]
   omega
set_option maxRecDepth 100000 in
theorem chgL_right : ∀ (st : List (Nat × List UInt8)) (last : Int), SortS st → (∀ e ∈ st, last < (e.1 : Int) ∧ e.1 < 4096 ∧ e.2.length = 4080) → rcFrom last (chgL im now st) = true ∧ (encCs (chgL im now st)).length ≤ 4091 * (chgL im now st).length
 | [], _, _, _ => ⟨rfl, Nat.zero_le _⟩
 | (p, m) :: r, last, hs, ho => by
  have hs' := List.pairwise_cons.1 hs
  obtain ⟨o1, o2, o3⟩ := ho _ (List.mem_cons_self ..)
  dsimp only at o1 o2 o3
  have hr : ∀ e ∈ r, (p : Int) < (e.1 : Int) ∧ e.1 < 4096 ∧ e.2.length = 4080 := fun e he => by
   have h1 := hs'.1 e.1 (List.mem_map_of_mem he)
   have h2 := ho e (List.mem_cons_of_mem _ he)
   exact ⟨Int.ofNat_lt.2 h1, h2.2⟩
  unfold chgL
  split
  ·exact chgL_right r last hs'.2 (fun e he => ⟨by have := (hr e he).1; omega, (hr e he).2⟩)
  ·obtain ⟨c1, c2⟩ := chg1_ok (im := im) (old := now p) o2 o3 last o1 (chgL im now r)
   obtain ⟨i1, i2⟩ := chgL_right r p hs'.2 hr
   refine ⟨c1.trans i1, ?_⟩
   unfold encCs
   rw [List.length_append, List.length_cons]
   omega
set_option maxRecDepth 100000 in
set_option maxRecDepth 100000 in
theorem rec_right {st : List (Nat × List UInt8)} (h : XOk n st) (hn : n ≤ 4096) {tx : Int} (h1 : 0 ≤ tx) (h2 : tx ≤ 4611686018427387904) (hne : chgL im now st ≠ []) :
  (⟨1, tx, chgL im now st⟩ : Rec).right = true ∧ (encR ⟨1, tx, chgL im now st⟩).length ≤ 4076 * ((chgL im now st).length + 1) := by
 have hl := chgL_len (im := im) (now := now) st
 have hm := h.most
 obtain ⟨r1, r2⟩ := chgL_right (im := im) (now := now) st (-1) h.srt (fun e he => ⟨by omega, by have := (h.ok e he).1; omega, (h.ok e he).2⟩)
 have h0 : 1 ≤ (chgL im now st).length := List.length_pos_iff.2 hne
 refine ⟨?_, ?_⟩
 ·show rightR ((1 : Nat) : Int) tx (chgL im now st) = true
  unfold rightR
  rw [if_neg (by omega), if_neg (by omega), if_pos (show ((1 : Nat) : Int) = 1 from rfl), r1, decide_eq_true (by omega)]
  rfl
 ·rw [encR_len]
  unfold encB
  simp only [List.length_append, List.length_cons, leB_length]
  omega
end
def nowD (now : Nat → List UInt8) (st : List (Nat × List UInt8)) (p : Nat) : List UInt8 := (findS st p).getD (now p)
section
variable {E : EnS} {P : PoS} {now : Nat → List UInt8} {recs : List Rec} {U : Nat}
structure CI (E : EnS) (P : PoS) (now : Nat → List UInt8) (recs : List Rec) (U : Nat) : Prop where
 ti : TI E P now
 lc : LC E P recs U
set_option maxRecDepth 100000 in
theorem CI.get (h : CI E P now recs U) {p : Nat} (hp : p < P.pages) : (getR E P (p : Int)).2.2 = 0 ∧ getL E P (p : Int) = now p ∧ CI (getR E P (p : Int)).1 (getR E P (p : Int)).2.1 now recs U ∧ (getR E P (p : Int)).2.1.count ≤ P.count + 1 := by
 obtain ⟨h1, h2⟩ := h.ti.get hp
 obtain ⟨h3, h4, h5⟩ := h.lc.get h.ti hp
 exact ⟨h3, h2 h3, ⟨h1, h4⟩, h5⟩
set_option maxRecDepth 100000 in
theorem CI.set_ (h : CI E P now recs U) {p : Nat} (hp : p < P.pages) {l : List UInt8} (hl : l.length = 4080) {lsn : Int} (h1 : 0 ≤ lsn) (h2 : lsn ≤ 9223372036854775807) : (setR E P (p : Int) l lsn).2.2 = 0 ∧ CI (setR E P (p : Int) l lsn).1 (setR E P (p : Int) l lsn).2.1 (updN now p l) recs U ∧ (setR E P (p : Int) l lsn).2.1.count ≤ P.count + 1 := by
 have ht := h.ti.set_ hp hl h1 h2
 obtain ⟨h3, h4, h5⟩ := h.lc.set_ h.ti hp hl h1
 rw [if_pos h3] at ht
 exact ⟨h3, ⟨ht, h4⟩, h5⟩
set_option maxRecDepth 100000 in
theorem SameG.chg (im : List (Nat × Unit)) : ∀ (st : List (Nat × List UInt8)) (E : EnS) (P : PoS) (acc : List Ch), SameG E (chgF im st E P acc).1
 | [], E, _, _ => SameG.refl E
 | (p, m) :: r, E, P, acc => by
  have h := SameG.get E P (p : Int)
  unfold chgF
  split
  ·exact h
  ·split
   ·exact h.trans (SameG.chg im r ..)
   ·exact h.trans (SameG.chg im r ..)
set_option maxRecDepth 100000 in
theorem SameG.put (st : List (Nat × List UInt8)) (n : Int) : ∀ (l : List Ch) (E : EnS) (P : PoS), SameG E (putF st n l E P).1
 | [], E, _ => SameG.refl E
 | c :: r, E, P => by
  have h := SameG.st E P c.1 ((findS st c.1.toNat).getD []) n
  unfold putF
  dsimp only
  split
  ·exact h
  ·exact h.trans (SameG.put st n r ..)
set_option maxRecDepth 100000 in
theorem SameG.app (E : EnS) (r : Rec) : SameG E (E.app r) := by
 have e : (appJ E.j r).fi = E.j.fi ∧ (appJ E.j r).bl = E.j.bl ∧ (appJ E.j r).ep = E.j.ep := by
  unfold appJ
  split <;> exact ⟨rfl, rfl, rfl⟩
 exact ⟨rfl, rfl, rfl, e.1, e.2.1, e.2.2⟩
set_option maxRecDepth 100000 in
theorem chgF_calm (im : List (Nat × Unit)) : ∀ (st : List (Nat × List UInt8)) {E : EnS} {P : PoS} (acc : List Ch), CI E P now recs U → (∀ e ∈ st, e.1 < P.pages) →
  ∃ E' P', chgF im st E P acc = (E', P', 0, acc ++ chgL im now st) ∧ CI E' P' now recs U ∧ P'.pages = P.pages ∧ P'.count ≤ P.count + st.length
 | [], E, P, acc, h, _ => ⟨E, P, by simp [chgF, chgL], h, rfl, Nat.le_refl _⟩
 | (p, m) :: r, E, P, acc, h, hp => by
  obtain ⟨g1, g2, g3, g4⟩ := h.get (hp _ (List.mem_cons_self ..))
  have hpg := (getR_pages E P (p : Int)).1
  obtain ⟨E', P', i1, i2, i3, i4⟩ := chgF_calm im r (if now p = m then acc else acc ++ [chg1 im p (now p) m]) g3 (fun e he => by rw [hpg]; exact hp e (List.mem_cons_of_mem _ he))
  refine ⟨E', P', ?_, i2, i3.trans hpg, by simp only [List.length_cons]; omega⟩
  unfold chgF chgL
  rw [g1, if_neg (by decide), g2]
  by_cases e : now p = m
  ·rw [if_pos e] at i1
   rw [if_pos e, if_pos e]
   exact i1
  ·rw [if_neg e] at i1
   rw [if_neg e, if_neg e, i1, List.append_assoc, List.singleton_append]
set_option maxRecDepth 100000 in
theorem putF_calm (st : List (Nat × List UInt8)) {k : Int} (hk : 0 ≤ k) (hk2 : k ≤ 9223372036854775807) : ∀ (l : List Ch) {E : EnS} {P : PoS} {now : Nat → List UInt8}, CI E P now recs U → (∀ c ∈ l, ∃ (p : Nat) (m : List UInt8), c.1 = (p : Int) ∧ findS st p = some m ∧ m.length = 4080 ∧ p < P.pages) →
  ∃ E' P' now', putF st k l E P = (E', P', 0) ∧ CI E' P' now' recs U ∧ P'.pages = P.pages ∧ P'.count ≤ P.count + l.length ∧ ∀ x, now' x = if ∃ c ∈ l, c.1 = (x : Int) then nowD now st x else now x
 | [], E, P, now, h, _ => ⟨E, P, now, rfl, h, rfl, Nat.le_refl _, fun x => by rw [if_neg (by simp)]⟩
 | c :: r, E, P, now, h, hl => by
  obtain ⟨p, m, h1, h2, h3, h4⟩ := hl c (List.mem_cons_self ..)
  obtain ⟨s1, s2, s3⟩ := h.set_ h4 h3 hk hk2
  have hpg := (setR_pages E P (p : Int) m k).1
  obtain ⟨E', P', now', i1, i2, i3, i4, i5⟩ := putF_calm st hk hk2 r s2 (fun c' hc' => by
   obtain ⟨p', m', q1, q2, q3, q4⟩ := hl c' (List.mem_cons_of_mem _ hc')
   exact ⟨p', m', q1, q2, q3, by rw [hpg]; exact q4⟩)
  refine ⟨E', P', now', ?_, i2, i3.trans hpg, by simp only [List.length_cons]; omega, fun x => ?_⟩
  ·unfold putF
   dsimp only
   rw [h1, Int.toNat_natCast, h2, Option.getD_some, s1, if_neg (by decide)]
   exact i1
  ·rw [i5 x]
   by_cases e : ∃ c' ∈ r, c'.1 = (x : Int)
   ·obtain ⟨c', m1, m2⟩ := e
    rw [if_pos ⟨c', m1, m2⟩, if_pos ⟨c', List.mem_cons_of_mem _ m1, m2⟩]
    obtain ⟨p', m', q1, q2, _⟩ := hl c' (List.mem_cons_of_mem _ m1)
    have : p' = x := by omega
    subst this
    unfold nowD
    rw [q2]
    rfl
   ·rw [if_neg e]
    by_cases e2 : c.1 = (x : Int)
    ·rw [if_pos ⟨c, List.mem_cons_self .., e2⟩]
     have : p = x := by omega
     subst this
     unfold updN nowD
     rw [if_pos rfl, h2]
     rfl
    ·rw [if_neg (fun ⟨c', m1, m2⟩ => by
      rcases List.mem_cons.1 m1 with e3 | e3
      ·exact e2 (e3 ▸ m2)
      ·exact e ⟨c', e3, m2⟩)]
     unfold updN
     rw [if_neg (fun e3 => e2 (by rw [h1, e3]))]
set_option maxRecDepth 100000 in
theorem chg1_page (im : List (Nat × Unit)) (p : Nat) (old m : List UInt8) : (chg1 im p old m).1 = (p : Int) := by
 unfold chg1
 split <;> rfl
set_option maxRecDepth 100000 in
theorem chgL_mem {im : List (Nat × Unit)} {c : Ch} : ∀ {st : List (Nat × List UInt8)}, c ∈ chgL im now st → ∃ e ∈ st, c = chg1 im e.1 (now e.1) e.2 ∧ now e.1 ≠ e.2
 | (p, m) :: r, h => by
  unfold chgL at h
  split at h
  ·obtain ⟨e, h1, h2⟩ := chgL_mem h
   exact ⟨e, List.mem_cons_of_mem _ h1, h2⟩
  ·rename_i hne
   rcases List.mem_cons.1 h with h | h
   ·exact ⟨(p, m), List.mem_cons_self .., h, hne⟩
   ·obtain ⟨e, h1, h2⟩ := chgL_mem h
    exact ⟨e, List.mem_cons_of_mem _ h1, h2⟩
set_option maxRecDepth 100000 in
theorem chgL_in {im : List (Nat × Unit)} {p : Nat} {m : List UInt8} : ∀ {st : List (Nat × List UInt8)}, (p, m) ∈ st → now p ≠ m → ∃ c ∈ chgL im now st, c.1 = (p : Int)
 | (q, k) :: r, h, hne => by
  unfold chgL
  rcases List.mem_cons.1 h with h | h
  ·injection h with h1 h2
   subst h1 h2
   rw [if_neg hne]
   exact ⟨_, List.mem_cons_self .., chg1_page ..⟩
  ·obtain ⟨c, h1, h2⟩ := chgL_in (im := im) h hne
   split
   ·exact ⟨c, h1, h2⟩
   ·exact ⟨c, List.mem_cons_of_mem _ h1, h2⟩
set_option maxRecDepth 100000 in
theorem nowD_chg {im : List (Nat × Unit)} {st : List (Nat × List UInt8)} (x : Nat) : (if ∃ c ∈ chgL im now st, c.1 = (x : Int) then nowD now st x else now x) = nowD now st x := by
 split
 ·rfl
 ·rename_i h
  unfold nowD
  cases hf : findS st x with
  | none => rfl
  | some m =>
   refine Decidable.byContradiction fun hne => h ?_
   exact chgL_in (find_mem hf) (fun e => hne (by rw [e]; rfl))
set_option maxRecDepth 100000 in
set_option maxRecDepth 100000 in
theorem CI.done (h : CI E P now recs U) {A : AtS} {X : AxS} {tx : Int} (hx : XOk P.pages X.st) (ho : X.ov = false) (hb : A.br = false) (h1 : 0 ≤ tx) (h2 : tx ≤ 4611686018427387904) (hU : U + (X.st.length + 1) ≤ E.j.bl) (hr : recs.length ≤ 1000000) :
  ∃ E' P', doneR E P A X tx = ⟨E', P', { A with im := markF (chgL A.im now X.st) A.im }, { X with ov := true }, (recs ++ if chgL A.im now X.st = [] then [] else [(⟨1, tx, chgL A.im now X.st⟩ : Rec)]).length, 0⟩ ∧
   CI E' P' (nowD now X.st) (recs ++ if chgL A.im now X.st = [] then [] else [⟨1, tx, chgL A.im now X.st⟩]) (U + (X.st.length + 1)) ∧ P'.pages = P.pages ∧ P'.count ≤ P.count + 2 * X.st.length := by
 have hst : stE A X = 0 := by
  unfold stE
  rw [ho, hb]
  rfl
 have hpp : P.pages ≤ 4096 := by have := h.ti.pi.fit; have := h.ti.pi.d2; omega
 obtain ⟨E1, P1, c1, c2, c3, c4⟩ := chgF_calm A.im X.st [] h (fun e he => (hx.ok e he).1)
 rw [List.nil_append] at c1
 have hll := chgL_len (im := A.im) (now := now) X.st
 have hbl : E1.j.bl = E.j.bl := by
  have := SameG.chg A.im X.st E P []
  rw [c1] at this
  exact this.2.2.2.2.1
 unfold doneR
 rw [hst, if_neg (by decide), if_neg (by omega), c1]
 dsimp only
 rw [if_neg (by decide)]
 unfold done2
 by_cases hne : chgL A.im now X.st = []
 ·rw [if_pos (show (chgL A.im now X.st).length = 0 by rw [hne]; rfl), if_pos hne, List.append_nil]
  have hnow : nowD now X.st = now := funext fun x => by rw [← nowD_chg (im := A.im), if_neg (by rw [hne]; simp)]
  refine ⟨E1, P1, ?_, ?_, c3, by omega⟩
  ·rw [c2.lc.la, hne]
   rfl
  ·rw [hnow]
   obtain ⟨e1, ⟨fs, cur, x1, x2, x3, x4⟩, e3, e4, e5⟩ := c2.lc
   exact ⟨c2.ti, e1, ⟨fs, cur, x1, x2, x3, by omega⟩, e3, e4, e5⟩
 ·have hl0 : ¬ (chgL A.im now X.st).length = 0 := fun e => hne (List.eq_nil_of_length_eq_zero e)
  obtain ⟨r1, r2⟩ := rec_right hx hpp h1 h2 hne
  obtain ⟨a1, a2, a3⟩ := c2.lc.app (P := P1) r1 r2 (by rw [hbl]; omega) hr
  rw [if_neg hl0, if_neg hne, a1, if_neg (by decide), a2]
  obtain ⟨E2, P2, now2, p1, p2, p3, p4, p5⟩ := putF_calm (recs := recs ++ [⟨1, tx, chgL A.im now X.st⟩]) (U := U + ((chgL A.im now X.st).length + 1)) X.st (k := ((recs.length + 1 : Nat) : Int)) (by omega) (by omega) (chgL A.im now X.st) (E := E1.app ⟨1, tx, chgL A.im now X.st⟩) (P := P1) (now := now) ⟨c2.ti.app _, a3⟩ (fun c hc => by
   obtain ⟨e, m1, m2, _⟩ := chgL_mem hc
   have hok := hx.ok e m1
   obtain ⟨i, hi⟩ := List.getElem?_of_mem m1
   exact ⟨e.1, e.2, by rw [m2, chg1_page], find_at hx.srt hi, hok.2, by rw [c3]; exact hok.1⟩)
  have hnow : now2 = nowD now X.st := funext fun x => by rw [p5 x, nowD_chg]
  rw [hnow] at p2
  rw [p1]
  dsimp only
  rw [if_neg (by decide), List.length_append, List.length_singleton]
  refine ⟨E2, P2, rfl, ?_, p3.trans c3, by omega⟩
  obtain ⟨e1, ⟨fs, cur, x1, x2, x3, x4⟩, e3, e4, e5⟩ := p2.lc
  exact ⟨p2.ti, e1, ⟨fs, cur, x1, x2, x3, by omega⟩, e3, e4, e5⟩
end
end Go.Proofs.YtnkeclpgpiogoaaGreat

/-! PlF -/
namespace Go.Proofs.YtnkeclpgpiogoaaGreat
open Go.RowKit
def zP : List UInt8 := List.replicate 4080 0
def bitB (a : UInt8) (k : Nat) : Bool := a.toNat.testBit k
def hasB (m : List UInt8) (p : Nat) : Bool := bitB (m.getD (p / 8) 0) (p % 8)
def flipB (a : UInt8) (k : Nat) : UInt8 := a ^^^ UInt8.ofNat (2 ^ k)
def turnL (m : List UInt8) (p : Nat) : List UInt8 := m.set (p / 8) (flipB (m.getD (p / 8) 0) (p % 8))
set_option maxRecDepth 100000 in
theorem turnL_len (m : List UInt8) (p : Nat) : (turnL m p).length = m.length := List.length_set ..
structure MapI (m : List UInt8) (n : Nat) (tk : Nat → Bool) : Prop where
 len : m.length = 4080
 all : ∀ p, p < n → hasB m p = tk p
 out : ∀ p, n ≤ p → p < 32640 → hasB m p = false
 own : tk 0 = true
def updB (tk : Nat → Bool) (p : Nat) (b : Bool) (x : Nat) : Bool := if x = p then b else tk x
def isMap (m : List UInt8) (n : Nat) : Bool := hasB m 0 && (List.range 32640).all fun p => decide (p < n) || !hasB m p
set_option maxRecDepth 100000 in
theorem MapI.is {m : List UInt8} {n : Nat} {tk : Nat → Bool} (h : MapI m n tk) (hn : 1 ≤ n) : isMap m n = true := by
 unfold isMap
 rw [h.all 0 (by omega), h.own, Bool.true_and, List.all_eq_true]
 intro p hp
 by_cases e : p < n
 ·rw [decide_eq_true e]; rfl
 ·rw [h.out p (by omega) (List.mem_range.1 hp)]
  simp
def freeL (m : List UInt8) : Nat → Nat → Nat
 | 0, _ => 0
 | k + 1, p => if hasB m p = false then p else freeL m k (p + 1)
set_option maxRecDepth 100000 in
theorem freeL_is {m : List UInt8} {n : Nat} {tk : Nat → Bool} (h : MapI m n tk) : ∀ k p, p + k = n → (freeL m k p = 0 ∧ (p = 0 → n ≠ 0 → True) ∧ ∀ q, p ≤ q → q < n → tk q = true) ∨ (p ≤ freeL m k p ∧ freeL m k p < n ∧ tk (freeL m k p) = false)
 | 0, p, hp => .inl ⟨rfl, fun _ _ => trivial, fun q h1 h2 => by omega⟩
 | k + 1, p, hp => by
  unfold freeL
  by_cases e : hasB m p = false
  ·rw [if_pos e]
   refine .inr ⟨Nat.le_refl _, by omega, ?_⟩
   rw [← h.all p (by omega)]
   exact e
  ·rw [if_neg e]
   rcases freeL_is h k (p + 1) (by omega) with ⟨h1, _, h3⟩ | ⟨h1, h2, h3⟩
   ·refine .inl ⟨h1, fun _ _ => trivial, fun q hq1 hq2 => ?_⟩
    by_cases e2 : q = p
    ·subst e2
     rw [← h.all q hq2]
     simpa using e
    ·exact h3 q (by omega) hq2
   ·exact .inr ⟨by omega, h2, h3⟩
/-! The calls, upon what an atom sees. -/
structure SRes where
 D : EnS
 P : PoS
 X : AxS
 n : Int
 e : Int
def pmE (D : EnS) (P : PoS) (A : AtS) (X : AxS) : Int := if (agetR D P A X 0).2.2 ≠ 0 then (agetR D P A X 0).2.2 else if isMap (agetL D P A X 0) P.pages then 0 else 170
def takeR (D : EnS) (P : PoS) (A : AtS) (X : AxS) : SRes :=
 let g := agetR D P A X 0
 let m := agetL D P A X 0
 let f := freeL m P.pages 0
 if pmE D P A X ≠ 0 then ⟨g.1, g.2.1, X, 0, pmE D P A X⟩
 else if f = 0 then ⟨g.1, g.2.1, X, 0, 5⟩
 else if asetE g.2.1 A X (f : Int) 4080 ≠ 0 then ⟨g.1, g.2.1, X, 0, asetE g.2.1 A X (f : Int) 4080⟩
 else
  let X1 := asetX g.2.1 A X (f : Int) zP
  if asetE g.2.1 A X1 0 4080 ≠ 0 then ⟨g.1, g.2.1, X1, 0, asetE g.2.1 A X1 0 4080⟩
  else ⟨g.1, g.2.1, asetX g.2.1 A X1 0 (turnL m f), f, 0⟩
end Go.Proofs.YtnkeclpgpiogoaaGreat

/-! PlG -/
namespace Go.Proofs.YtnkeclpgpiogoaaGreat
open Go.RowKit
section
variable {E : EnS} {P : PoS} {now : Nat → List UInt8} {recs : List Rec} {U : Nat} {A : AtS} {X : AxS}
set_option maxRecDepth 100000 in
theorem stE_ok (ho : X.ov = false) (hb : A.br = false) : stE A X = 0 := by
 unfold stE
 rw [ho, hb]
 rfl
set_option maxRecDepth 100000 in
theorem CI.aget (h : CI E P now recs U) (ho : X.ov = false) (hb : A.br = false) {p : Nat} (hp : p < P.pages) :
  (agetR E P A X (p : Int)).2.2 = 0 ∧ agetL E P A X (p : Int) = nowD now X.st p ∧ CI (agetR E P A X (p : Int)).1 (agetR E P A X (p : Int)).2.1 now recs U ∧ (agetR E P A X (p : Int)).2.1.count ≤ P.count + 1 ∧ (agetR E P A X (p : Int)).2.1.pages = P.pages := by
 have hs := stE_ok ho hb
 unfold agetR agetL nowD
 rw [hs, if_neg (show ¬ ((0 : Int) ≠ 0) from fun h => h rfl), if_neg (show ¬ ((0 : Int) ≠ 0) from fun h => h rfl), Int.toNat_natCast]
 cases hf : findS X.st p with
 | some m =>
  rw [if_pos ⟨Int.natCast_nonneg _, rfl⟩, if_pos ⟨Int.natCast_nonneg _, rfl⟩]
  exact ⟨rfl, rfl, h, Nat.le_succ _, rfl⟩
 | none =>
  rw [if_neg (by simp), if_neg (by simp)]
  obtain ⟨h1, h2, h3, h4⟩ := h.get hp
  exact ⟨h1, h2, h3, h4, (getR_pages E P (p : Int)).1⟩
set_option maxRecDepth 100000 in
theorem nowD_ins {p : Nat} {m : List UInt8} {st : List (Nat × List UInt8)} : nowD now (insS p m st) = updN (nowD now st) p m := by
 funext x
 unfold nowD updN
 rw [find_insS]
 split <;> rfl
set_option maxRecDepth 100000 in
theorem XOk.new (n : Nat) : XOk n newX.st := ⟨List.Pairwise.nil, fun e he => (by cases he), Nat.zero_le _⟩
set_option maxRecDepth 100000 in
theorem XOk.ins {n p : Nat} {m : List UInt8} {st : List (Nat × List UInt8)} (h : XOk n st) (hp : p < n) (hm : m.length = 4080) (hl : st.length < 16 ∨ findS st p ≠ none) : XOk n (insS p m st) := by
 refine ⟨sort_insS p m h.srt, fun e he => ?_, ?_⟩
 ·rcases mem_insS2 he with rfl | he
  ·exact ⟨hp, hm⟩
  ·exact h.ok e he
 ·rw [len_insS p m h.srt]
  have := h.most
  split
  ·exact this
  ·rename_i hf
   rcases hl with hl | hl
   ·omega
   ·exact absurd (Option.isSome_iff_ne_none.2 hl) hf
set_option maxRecDepth 100000 in
theorem ins_len {n p : Nat} {m : List UInt8} {st : List (Nat × List UInt8)} (h : XOk n st) : (insS p m st).length ≤ st.length + 1 := by
 rw [len_insS p m h.srt]
 split <;> omega
set_option maxRecDepth 100000 in
theorem aset_ok (ho : X.ov = false) (hb : A.br = false) {p : Nat} (hp : p < P.pages) {l : List UInt8} (hl : l.length = 4080) (hm : X.st.length < 16 ∨ findS X.st p ≠ none) : asetE P A X (p : Int) l.length = 0 ∧ asetX P A X (p : Int) l = { X with st := insS p l X.st } := by
 have e : asetE P A X (p : Int) l.length = 0 := by
  unfold asetE
  rw [stE_ok ho hb, if_neg (by decide), if_neg (by omega), if_neg (by rw [Int.toNat_natCast]; rintro ⟨h1, h2⟩; rcases hm with hm | hm; omega; exact hm h1)]
 refine ⟨e, ?_⟩
 unfold asetX
 rw [if_neg (by rw [e]; decide), Int.toNat_natCast]
set_option maxRecDepth 100000 in
set_option maxRecDepth 100000 in
theorem CI.take (h : CI E P now recs U) (ho : X.ov = false) (hb : A.br = false) (hx : XOk P.pages X.st) (hl : X.st.length + 2 ≤ 16) {tk : Nat → Bool} (hM : MapI (nowD now X.st 0) P.pages tk) (hn : 1 ≤ P.pages) :
  ∃ E' P', CI E' P' now recs U ∧ P'.pages = P.pages ∧ P'.count ≤ P.count + 1 ∧
   (((∀ q, q < P.pages → tk q = true) ∧ takeR E P A X = ⟨E', P', X, 0, 5⟩) ∨
    ∃ f, 1 ≤ f ∧ f < P.pages ∧ tk f = false ∧ f = freeL (nowD now X.st 0) P.pages 0 ∧ takeR E P A X = ⟨E', P', { X with st := insS 0 (turnL (nowD now X.st 0) f) (insS f zP X.st) }, (f : Int), 0⟩) := by
 obtain ⟨g1, g2, g3, g4, g5⟩ := h.aget (X := X) ho hb (show 0 < P.pages by omega)
 have hpp : P.pages ≤ 4096 := by have := h.ti.pi.fit; have := h.ti.pi.d2; omega
 have e0 : ((0 : Nat) : Int) = 0 := rfl
 rw [e0] at g1 g2 g3 g4 g5
 have hpm : pmE E P A X = 0 := by
  unfold pmE
  rw [g1, if_neg (by decide), g2, hM.is hn, if_pos rfl]
 refine ⟨_, _, g3, g5, g4, ?_⟩
 unfold takeR
 dsimp only
 rw [hpm, if_neg (by decide), g2]
 have hzl : zP.length = 4080 := List.length_replicate ..
 rcases freeL_is hM P.pages 0 (by omega) with ⟨f1, _, f3⟩ | ⟨_, f2, f3⟩
 ·rw [f1, if_pos rfl]
  exact .inl ⟨fun q hq => f3 q (Nat.zero_le _) hq, rfl⟩
 ·have hf0 : freeL (nowD now X.st 0) P.pages 0 ≠ 0 := fun e => by
   rw [e, hM.own] at f3
   cases f3
  obtain ⟨f, hfe⟩ : ∃ f, f = freeL (nowD now X.st 0) P.pages 0 := ⟨_, rfl⟩
  simp only [← hfe] at *
  obtain ⟨s1, s2⟩ := aset_ok (P := (agetR E P A X 0).2.1) (A := A) (X := X) ho hb (p := f) (by rw [g5]; exact f2) hzl (.inl (by omega))
  rw [hzl] at s1
  have hx1 := hx.ins (m := zP) f2 hzl (.inl (by omega))
  have hl1 := ins_len (p := f) (m := zP) hx
  obtain ⟨t1, t2⟩ := aset_ok (P := (agetR E P A X 0).2.1) (A := A) (X := { X with st := insS f zP X.st }) ho hb (p := 0) (by rw [g5]; omega) (l := turnL (nowD now X.st 0) f) (by rw [turnL_len]; exact hM.len) (.inl (by show (insS f zP X.st).length < 16; omega))
  rw [turnL_len, hM.len] at t1
  rw [e0] at t1 t2
  rw [if_neg hf0, s1, if_neg (by decide), s2, t1, if_neg (by decide), t2]
  exact .inr ⟨f, by omega, f2, f3, rfl, rfl⟩
end
set_option maxRecDepth 100000 in
theorem mayB_new {ring n : Nat} (h1 : 1 ≤ ring) (h2 : ring ≤ 1024) : mayB ((ring + n : Nat) : Int) (0 : Nat) (ring : Nat) (1 : Nat) (0 : Nat) (1 : Nat) = true := by
 unfold mayB
 simp only [Bool.and_eq_true, decide_eq_true_eq]
 omega
set_option maxRecDepth 100000 in
theorem mayP_new {ring n frames : Nat} (h1 : 1 ≤ n) (h2 : 2 ≤ frames) (h3 : frames ≤ 256) : mayP (ring + n) (ring : Nat) (n : Nat) (frames : Nat) (1 : Nat) (0 : Nat) = true := by
 unfold mayP
 simp only [Bool.and_eq_true, decide_eq_true_eq]
 omega
set_option maxRecDepth 100000 in
theorem open_zer : openE zer = 0 ∧ openP zer = zP := by
 have h : zer = List.replicate 8 0 ++ zP ++ List.replicate 8 0 := by
  unfold zer zP
  rw [List.replicate_append_replicate, List.replicate_append_replicate]
 have := open_seal (List.replicate 8 0) zP (List.length_replicate ..) (List.length_replicate ..)
 rw [← h] at this
 exact ⟨this.2.2, this.1⟩
set_option maxRecDepth 100000 in
set_option maxRecDepth 100000 in
theorem CI.new {ring n frames gj gb : Nat} {k : Bool} (h1 : 1 ≤ ring) (h2 : ring ≤ 1024) (h4 : ring + n ≤ 4096) (h5 : 2 ≤ frames) (h6 : frames ≤ 256) : CI ⟨newD (ring + n), newJ 0 ring 1 0 1, gj, gb, k⟩ (newP ring n frames 1 0) (fun _ => zP) [] 0 := by
 have hl : (List.replicate (ring + n) zer).length = ring + n := List.length_replicate ..
 have hlg := (Lg.new (n := ring + n) h4 (mayB_new (n := n) h1 h2)).1
 refine ⟨⟨⟨?_, ?_, h5, h6, by show 1 ≤ 4294967295; omega, Nat.zero_le _, by show 0 < frames; omega, fun f hf => (by cases hf), List.nodup_nil⟩, hl, ?_, h1, fun p _ => List.length_replicate .., fun i hi => absurd hi (Nat.not_lt_zero _), fun p hp _ => ?_⟩, ⟨⟨rfl, rfl, rfl⟩, ⟨[], [], hlg, rfl, rfl, Nat.le_refl _⟩, rfl, fun q hq => (by cases hq), Nat.zero_le _⟩⟩
 ·show ring + n ≤ (List.replicate (ring + n) zer).length
  rw [hl]
  exact Nat.le_refl _
 ·show (List.replicate (ring + n) zer).length ≤ 4096
  rw [hl]
  exact h4
 ·show 0 + ring ≤ ring
  omega
 ·have hp' : p < n := hp
  have e : visL (newD (ring + n)) (ring + p) = zer := by
   show (List.replicate (ring + n) zer).getD (ring + p) [] = zer
   rw [List.getD_eq_getElem?_getD, List.getElem?_replicate, if_pos (by omega)]
   rfl
  have h : GoodV (newD (ring + n)) (ring + p) zP := by
   unfold GoodV
   rw [e]
   exact open_zer
  exact h
end Go.Proofs.YtnkeclpgpiogoaaGreat

/-! AtI -/
namespace Go.Proofs.YtnkeclpgpiogoaaGreat
open Go Go.RowKit Go.Maps
end Go.Proofs.YtnkeclpgpiogoaaGreat

/-! AtK -/
namespace Go.Proofs.YtnkeclpgpiogoaaGreat
open Go Go.RowKit Go.Maps
def Keep (w : World) (T : Nat → Prop) (P : World → Prop) : Prop := ∀ w' : World, (∀ k, k < w.heap.size → ¬ T k → w'.heap[k]? = w.heap[k]?) → P w'
section
variable {w w' : World} {T T' : Nat → Prop} {P Q : World → Prop} {base size n : Nat} {e : TypeId} {v : Value} {xs : List Value}
set_option maxRecDepth 100000 in
theorem Keep.now (h : Keep w T P) : P w := h w fun _ _ _ => rfl
set_option maxRecDepth 100000 in
theorem Keep.step (h : Keep w T P) (hm : Mv T T' w w') : Keep w' T' P := fun w'' hw => h w'' fun k hk hn =>
 (hw k (Nat.lt_of_lt_of_le hk hm.1.size) (fun e => by
  rcases hm.2 k e with e | e
  ·exact hn e
  ·omega)).trans (hm.1.block k hk hn)
set_option maxRecDepth 100000 in
theorem Keep.below (h : Keep w T P) (hb : Below w.heap.size w w') : Keep w' T P := h.step (Mv.of_below hb)
set_option maxRecDepth 100000 in
theorem Keep.mono (h : Keep w T P) (hq : ∀ W, P W → Q W) : Keep w T Q := fun W hW => hq W (h W hW)
set_option maxRecDepth 100000 in
theorem Keep.row (h : w.ownsRow base e size v n xs) (hT : ∀ k, v.ownBlock = some k → ¬ T k) : Keep w T (fun W => W.ownsRow base e size v n xs) := fun W hW => by
 refine ⟨h.1, ?_⟩
 rcases h.2 with h0 | ⟨g, cap, cur, rfl, hb, hg, r⟩
 ·exact .inl h0
 ·exact .inr ⟨g, cap, cur, rfl, hb, (hW g (Array.getElem?_eq_some_iff.1 hg).1 (hT g rfl)).trans hg, r⟩
set_option maxRecDepth 100000 in
theorem Keep.ob {l : List UInt8} (h : OB w base v l) (hT : ∀ k, v.ownBlock = some k → ¬ T k) : Keep w T (fun W => OB W base v l) := Keep.row h hT
set_option maxRecDepth 100000 in
theorem Keep.vb {l : List UInt8} (h : OB w base v l) (hT : ∀ k, v.ownBlock = some k → ¬ T k) : Keep w T (fun W => VB W v l) := (Keep.ob h hT).mono fun _ h => h.vb
set_option maxRecDepth 100000 in
theorem Keep.op {ps : List Pc} (h : OP w base v ps) (hT : ∀ k, T k → k < base) : Keep w T (fun W => OP W base v ps) := fun W hW => by
 obtain ⟨us, h1, h2, h3, h4⟩ := h
 have hrow : ∀ {e : TypeId} {size n : Nat} {v : Value} {xs : List Value}, w.ownsRow base e size v n xs → W.ownsRow base e size v n xs := fun h => Keep.row (T := T) h (fun k hk ht => by
  have := own_ge h hk
  have := hT k ht
  omega) W hW
 exact ⟨us, hrow h1, h2, fun i p q hp hq => ⟨(h3 i p q hp hq).1, hrow (h3 i p q hp hq).2⟩, h4⟩
end
def TR (T : Nat → Prop) (v : Value) (k : Nat) : Prop := T k ∨ v.ownBlock = some k
set_option maxRecDepth 100000 in
theorem TR.mv {w w' : World} {T T' : Nat → Prop} (v : Value) (hm : Mv T T' w w') : Mv (TR T v) (TR T' v) w w' :=
 ⟨hm.1.mono fun _ _ e => .inl e, fun k e => e.elim (fun e => (hm.2 k e).imp .inl id) (fun e => .inl (.inr e))⟩
def HL (w : World) (b : Nat) (T : Nat → Prop) (v : Value) (cs : List Ch) : Prop :=
 ∃ us : List (Int × Value × Value), w.ownsRow b 117 3 v cs.length (chs us) ∧ (∀ k, v.ownBlock = some k → ¬ T k) ∧ us.length = cs.length ∧
  ∀ (i : Nat) (p : Ch) (q : Int × Value × Value), cs[i]? = some p → us[i]? = some q → q.1 = p.1 ∧ Keep w (TR T v) (fun W => VB W q.2.1 p.2.1) ∧ Keep w (TR T v) (fun W => VP W q.2.2 p.2.2)
section
variable {w w1 w' : World} {b : Nat} {T T' : Nat → Prop} {v v' : Value} {cs : List Ch}
set_option maxRecDepth 100000 in
theorem HL.nil (w : World) (b : Nat) (T : Nat → Prop) : HL w b T (.slice none 0 0) [] := ⟨[], ⟨rfl, .inl ⟨rfl, rfl⟩⟩, fun k h => by simp [Value.ownBlock] at h, rfl, fun i p q h => by simp at h⟩
set_option maxRecDepth 100000 in
theorem HL.step (h : HL w b T v cs) (hm : Mv T T' w w') : HL w' b T' v cs := by
 obtain ⟨us, h1, h2, h3, h4⟩ := h
 have hm2 := TR.mv v hm
 refine ⟨us, ((Keep.row h1 h2).step hm).now, fun k hk e => ?_, h3, fun i p q hp hq => ⟨(h4 i p q hp hq).1, (h4 i p q hp hq).2.1.step hm2, (h4 i p q hp hq).2.2.step hm2⟩⟩
 obtain ⟨cur, hc⟩ := own_blk h1 hk
 have hlt := (Array.getElem?_eq_some_iff.1 hc).1
 rcases hm.2 k e with e | e
 ·exact h2 k hk e
 ·omega
set_option maxRecDepth 100000 in
theorem HL.below (h : HL w b T v cs) (hb : Below w.heap.size w w') : HL w' b T v cs := h.step (Mv.of_below hb)
set_option maxRecDepth 100000 in
theorem HL.form (h : HL w b T v cs) : ∃ A c, v = .slice A cs.length c ∧ cs.length ≤ c ∧ c ≤ maxLen := by
 obtain ⟨us, h1, _⟩ := h
 exact own_form h1
set_option maxRecDepth 100000 in
set_option maxRecDepth 100000 in
theorem HL.keep {A : Option Addr} {n c : Nat} (h : HL w b T (.slice A n c) cs) : Keep w T (fun W => CR W A n cs) := by
 obtain ⟨us, h1, h2, h3, h4⟩ := h
 have hn : n = cs.length := by
  obtain ⟨A', c', e, _⟩ := own_form h1
  injection e with _ e _
 subst hn
 intro W hW
 have hW2 : ∀ k, k < w.heap.size → ¬ TR T (.slice A cs.length c) k → W.heap[k]? = w.heap[k]? := fun k hk hn => hW k hk fun e => hn (.inl e)
 exact ⟨us, Rd.of_own (Keep.row h1 h2 W hW), h3, fun i p q hp hq => ⟨(h4 i p q hp hq).1, (h4 i p q hp hq).2.1 W hW2, (h4 i p q hp hq).2.2 W hW2⟩⟩
set_option maxRecDepth 100000 in
theorem HL.cr {A : Option Addr} {n c : Nat} (h : HL w b T (.slice A n c) cs) : CR w A n cs := h.keep.now
set_option maxRecDepth 100000 in
set_option maxRecDepth 100000 in
theorem HL.snoc {us : List (Int × Value × Value)} {a : Int} {u1 u2 : Value} {m : List UInt8} {ps : List Pc} (_h1 : w.ownsRow b 117 3 v cs.length (chs us)) (h2 : ∀ k, v.ownBlock = some k → ¬ T k) (h3 : us.length = cs.length)
  (h4 : ∀ (i : Nat) (p : Ch) (q : Int × Value × Value), cs[i]? = some p → us[i]? = some q → q.1 = p.1 ∧ Keep w (TR T v) (fun W => VB W q.2.1 p.2.1) ∧ Keep w (TR T v) (fun W => VP W q.2.2 p.2.2))
  (k1 : Keep w (TR T v) (fun W => VB W u1 m)) (k2 : Keep w (TR T v) (fun W => VP W u2 ps)) (hb : Below w.heap.size w w1) (ho : w'.ownsRow b 117 3 v' (cs.length + 1) (chs us ++ [.int .i64 a, u1, u2])) (hg : w1.grownBy w' v.ownBlock) (hv : v'.ownBlock = v.ownBlock ∨ (v'.ownBlock = some w1.heap.size ∧ w1.grownBy w' none)) (hT : ∀ k, T k → k < w.heap.size) :
  HL w' b T v' (cs ++ [(a, m, ps)]) ∧ Off (fun k => v.ownBlock = some k) w w' ∧ Mv (TR T v) (TR T v') w w' := by
 have ho1 : Off (fun k => v.ownBlock = some k) w w' := (Off.of_below hb).trans (Off.of_grown hg fun k e => e)
 have hm : Mv (TR T v) (TR T v') w w' := ⟨ho1.mono fun k _ e => .inr e, fun k e => by
  rcases e with e | e
  ·exact .inl (.inl e)
  ·rcases hv with h | ⟨h, _⟩
   ·exact .inl (.inr (h ▸ e))
   ·rw [h] at e
    injection e with e
    have := hb.size
    exact .inr (by omega)⟩
 refine ⟨⟨us ++ [(a, u1, u2)], ?_, fun k hk e => ?_, by rw [List.length_append, List.length_append, h3]; rfl, fun i p q hp hq => ?_⟩, ho1, hm⟩
 ·rw [List.length_append, chs_append]
  exact ho
 ·rcases hv with h | ⟨h, _⟩
  ·exact h2 k (h ▸ hk) e
  ·rw [h] at hk
   injection hk with hk
   have := hb.size
   have := hT k e
   omega
 ·rcases Nat.lt_or_ge i cs.length with hi | hi
  ·rw [List.getElem?_append_left hi] at hp
   rw [List.getElem?_append_left (by rw [h3]; exact hi)] at hq
   exact ⟨(h4 i p q hp hq).1, (h4 i p q hp hq).2.1.step hm, (h4 i p q hp hq).2.2.step hm⟩
  ·rw [List.getElem?_append_right hi] at hp
   rw [List.getElem?_append_right (by rw [h3]; exact hi), h3] at hq
   cases hj : i - cs.length with
   | zero =>
    rw [hj] at hp hq
    simp at hp hq
    subst hp hq
    exact ⟨rfl, k1.step hm, k2.step hm⟩
   | succ j =>
    rw [hj] at hp
    simp at hp
end
set_option maxRecDepth 100000 in
theorem writeR_pl {D : EnS} {P : PoS} {n : Nat} (h : (writeR D P n).2.2 = 0) : (writeR D P n).1.d.pending.length ≤ D.d.pending.length + 1 ∧ (writeR D P n).2.1.count ≤ P.count + 1 := by
 unfold writeR at h ⊢
 dsimp only at h ⊢
 split at h
 ·rename_i h1
  exact absurd h h1
 ·rename_i h1
  rw [if_neg h1]
  have hl := logD_pl (Decidable.not_not.1 h1)
  split at h
  ·rename_i h2
   exact absurd h h2
  ·rename_i h2
   rw [if_neg h2]
   refine ⟨?_, Nat.le_refl _⟩
   have := (writeD_pl (logD D (P.fr.getD n fr0).lsn).d ((P.base + (P.fr.getD n fr0).page : Nat) : Int) (blockP (stampN P) (P.fr.getD n fr0).pay)).1
   unfold EnS.wr
   dsimp only
   omega
set_option maxRecDepth 100000 in
theorem holdR_pl {D : EnS} {P : PoS} {f : FrS} (h : (holdR D P f).2.2 = 0) : (holdR D P f).1.d.pending.length ≤ D.d.pending.length + 1 ∧ (holdR D P f).2.1.count ≤ P.count + 1 := by
 unfold holdR at h ⊢
 split
 ·exact ⟨Nat.le_succ _, Nat.le_succ _⟩
 ·rename_i h1
  rw [if_neg h1] at h
  split
  ·rename_i h2
   rw [if_pos h2] at h
   by_cases h3 : (writeR D (spun P) (spun P).hand).2.2 = 0
   ·rw [if_neg (by rw [h3]; exact fun h => h rfl)]
    exact writeR_pl h3
   ·rw [if_pos h3] at h
    exact absurd h h3
  ·exact ⟨Nat.le_succ _, Nat.le_succ _⟩
set_option maxRecDepth 100000 in
theorem getR_pl {D : EnS} {P : PoS} {p : Int} (h : (getR D P p).2.2 = 0) : (getR D P p).1.d.pending.length ≤ D.d.pending.length + 1 ∧ (getR D P p).2.1.count ≤ P.count + 1 := by
 unfold getR at h ⊢
 split
 ·exact ⟨Nat.le_succ _, Nat.le_succ _⟩
 ·rename_i h1
  rw [if_neg h1] at h
  split
  ·exact ⟨Nat.le_succ _, Nat.le_succ _⟩
  ·rename_i h2
   rw [h2] at h
   dsimp only at h ⊢
   split
   ·exact ⟨Nat.le_succ _, Nat.le_succ _⟩
   ·rename_i h3
    rw [if_neg h3] at h
    split
    ·exact ⟨Nat.le_succ _, Nat.le_succ _⟩
    ·rename_i h4
     rw [if_neg h4] at h
     exact holdR_pl h
set_option maxRecDepth 100000 in
theorem setR_pl {D : EnS} {P : PoS} {p : Int} {l : List UInt8} {n : Int} (h : (setR D P p l n).2.2 = 0) : (setR D P p l n).1.d.pending.length ≤ D.d.pending.length + 1 ∧ (setR D P p l n).2.1.count ≤ P.count + 1 := by
 unfold setR at h ⊢
 split
 ·exact ⟨Nat.le_succ _, Nat.le_succ _⟩
 ·rename_i h1
  rw [if_neg h1] at h
  split
  ·exact ⟨Nat.le_succ _, Nat.le_succ _⟩
  ·rename_i h2
   rw [h2] at h
   exact holdR_pl h
set_option maxRecDepth 100000 in
theorem chgF_mem (im : List (Nat × Unit)) : ∀ (st : List (Nat × List UInt8)) (D : EnS) (P : PoS) (acc : List Ch) (c : Ch), c ∈ (chgF im st D P acc).2.2.2 → c ∈ acc ∨ ∃ e ∈ st, ∃ old, c = chg1 im e.1 old e.2
 | [], _, _, _, _, h => .inl h
 | (p, m) :: r, D, P, acc, c, h => by
  unfold chgF at h
  split at h
  ·cases h
  ·split at h
   ·rcases chgF_mem im r _ _ _ _ h with h | ⟨e, h1, h2⟩
    ·exact .inl h
    ·exact .inr ⟨e, List.mem_cons_of_mem _ h1, h2⟩
   ·rcases chgF_mem im r _ _ _ _ h with h | ⟨e, h1, h2⟩
    ·rcases List.mem_append.1 h with h | h
     ·exact .inl h
     ·exact .inr ⟨(p, m), List.mem_cons_self .., _, List.mem_singleton.1 h⟩
    ·exact .inr ⟨e, List.mem_cons_of_mem _ h1, h2⟩
set_option maxRecDepth 100000 in
theorem chgF_pl (im : List (Nat × Unit)) : ∀ (st : List (Nat × List UInt8)) (D : EnS) (P : PoS) (acc : List Ch), (chgF im st D P acc).2.2.1 = 0 →
  (chgF im st D P acc).1.d.pending.length ≤ D.d.pending.length + st.length ∧ (chgF im st D P acc).2.1.count ≤ P.count + st.length ∧ (chgF im st D P acc).2.2.2.length ≤ acc.length + st.length
 | [], _, _, _, _ => ⟨Nat.le_refl _, Nat.le_refl _, Nat.le_refl _⟩
 | (p, m) :: r, D, P, acc, h => by
  unfold chgF at h ⊢
  split
  ·rename_i h1
   rw [if_pos h1] at h
   exact absurd h h1
  ·rename_i h1
   rw [if_neg h1] at h
   obtain ⟨g1, g2⟩ := getR_pl (Decidable.not_not.1 h1)
   rw [List.length_cons]
   split
   ·rename_i h2
    rw [if_pos h2] at h
    obtain ⟨i1, i2, i3⟩ := chgF_pl im r _ _ _ h
    exact ⟨by omega, by omega, by omega⟩
   ·rename_i h2
    rw [if_neg h2] at h
    obtain ⟨i1, i2, i3⟩ := chgF_pl im r _ _ _ h
    rw [List.length_append, List.length_singleton] at i3
    exact ⟨by omega, by omega, by omega⟩
section
variable {w0 w w' : World} {z : Wh} {D D' : EnS} {P : PoS} {A : AtS} {X : AxS} {T T' U : Nat → Prop} {gx gp gd b0 mb : Nat} {wv tv : Value} {F F' : Nat → Prop} {q : List FV}
set_option maxRecDepth 100000 in
theorem JAppend_az (h : AZ w0 w z D P A T) (k : Nat) (tx : Int) (B : Option Addr) (n d : Nat) (cs : List Ch) (hc : CR w B n cs) (hn : n ≤ 9223372036854775807) (hpb : ∀ c ∈ cs, ∀ p ∈ c.2.2, p.1 ≤ 9223372036854775807) (hla : D.j.la + 1 ≤ 1152921504606846976) :
  Calls Tryz.prog 67 #[.pointer (some ⟨D.gj, 0, none⟩), .agg #[.int .u8 (k : Int), .int .i64 tx, .slice B n d]] w fun e w' => e = .returned (.tuple #[.int .i64 (appN D.j ⟨k, tx, cs⟩ : Int), .int .i64 (appE D.j ⟨k, tx, cs⟩)]) ∧ ∃ T', AZ w0 w' z (D.app ⟨k, tx, cs⟩) P A T' ∧ Mv T T' w w' := by
 obtain ⟨F, tv, mb, q, im, h1, h2, h3, h4, h5, h6, h7, h8, h9⟩ := h.ex
 obtain ⟨w1, e1, hj, hnx⟩ := h1.dk.next
 refine (JAppend_js hj k tx B n d cs hc hn hpb hla).mono ?_
 rintro e w' ⟨rfl, F', j1, j2⟩
 have hx := h1.env (hnx _ _ _ _ j1 j2) j2 rfl
 have hx2 : PX w' w0.heap.size z.gp z.gd z.wv (D.app ⟨k, tx, cs⟩) P F' tv mb q := hx
 obtain ⟨T', ha, hm, _⟩ := h.step h2 h3 h4 h5 h6 h7 h9 (SameG.app D ⟨k, tx, cs⟩) hx2 (j2.1.mono (fun k _ e => .inl e)) (fun k e => by
  rcases e with e | e
  ·exact (j2.2 k e).imp .inl id
  ·exact .inl (.inr e))
 exact ⟨rfl, T', ha, hm⟩
set_option maxRecDepth 100000 in
set_option maxRecDepth 100000 in
theorem AZ.mark (h : AZ w0 w z D P A T) : ∃ im, AB w z.ga z.gp D.gj im A.br ∧ MV w im A.im.length (mapF (mapS (fun _ => mkE) A.im)) ∧ ∀ (w' : World) (p : Nat),
  MV w' im (if (mapF (mapS (fun _ => mkE) A.im) (p : Int)).isSome then A.im.length else A.im.length + 1) (updV (mapF (mapS (fun _ => mkE) A.im)) (p : Int) mkE) → w.grownBy w' (some im) → AZ w0 w' z D P { A with im := insS p () A.im } T ∧ Off T w w' := by
 obtain ⟨F, tv, mb, q, im, h1, h2, h3, h4, h5, h6, h7, h8, h9⟩ := h.ex
 refine ⟨im, h2, h3, fun w' p hmv hg => ?_⟩
 have ho : Off (· = im) w w' := Off.of_grown hg (fun k e => by injection e with e; exact e.symm)
 have hne : ¬ z.ga = im := fun e => h3.notCells h2 e.symm
 have hps : ∀ k, PS z.gp F tv mb q k → ¬ k = im := fun k hk e => h7 (e ▸ hk)
 have hx : PX w' w0.heap.size z.gp z.gd z.wv D P F tv mb q := ⟨h1.dk.nb ho (fun k e => by rw [e]; exact h3.nb), h1.pb.off ho (hps _ (.inr (.inl rfl))), ownsRow_off h1.tk ho (fun k e => hps k (.inr (.inr (.inr (.inl e))))), h1.qf, fun x hx => (h1.pv x hx).off ho (fun k e => hps k (.inr (.inr (.inr (.inr ⟨x, hx, e⟩))))), h1.ap, h1.mp.off ho (hps _ (.inr (.inr (.inl rfl)))), h1.pi, h1.bp, h1.bm⟩
 refine ⟨⟨h.bel.trans (ho.below (fun k e => by rw [e]; exact h5) h.bel.size), h.lv, F, tv, mb, q, im, hx, h2.off ho hne, ?_, h4, h5, h6, h7, sort_insS _ _ h8, h9⟩, ho.mono fun k _ e => (h9 k).2 (.inr (.inr e))⟩
 show MV w' im (insS p () A.im).length (mapF (mapS (fun _ => mkE) (insS p () A.im)))
 have e1 : (findS A.im p).isSome = (mapF (mapS (fun _ => mkE) A.im) (p : Int)).isSome := by
  rw [mapF_at, find_mapS]
  cases findS A.im p <;> rfl
 rw [ins_mapS, ← mapF_ins, len_insS _ _ h8, e1]
 exact hmv
set_option maxRecDepth 100000 in
theorem AZ.ie (h : AZ w0 w z D P A T) : ∃ F, IsE w w0.heap.size z.gd F D := by
 obtain ⟨F, tv, mb, q, im, h1, _⟩ := h.ex
 exact ⟨F, h1.dk⟩
set_option maxRecDepth 100000 in
theorem AZ.get_len (h : AZ w0 w z D P A T) {p : Int} (h0 : (getR D P p).2.2 = 0) : (getL D P p).length = 4080 := by
 obtain ⟨F, hi⟩ := h.ie
 have hpi := h.pi
 unfold getL
 rw [if_neg (by rw [h0]; exact fun h => h rfl)]
 unfold getR at h0
 split at h0
 ·rename_i h1
  exact absurd h0 h1
 ·rename_i h1
  cases hf : findP P p.toNat with
  | some i => exact (hpi.ok _ (getD_mem (findP_some hf).1)).2.1
  | none =>
   rw [hf] at h0
   dsimp only at h0 ⊢
   split at h0
   ·rename_i h2
    exact absurd h0 h2
   ·rename_i h2
    split at h0
    ·rename_i h3
     exact absurd h0 h3
    ·rename_i h3
     have hp : p < (P.pages : Int) ∧ 0 ≤ p := by
      unfold askP at h1
      split at h1
      ·exact absurd (by decide) h1
      ·omega
     refine openP_len ?_ (Decidable.not_not.1 h3)
     rw [readE_in (Decidable.not_not.1 h2)]
     exact hi.blk_len (by have := hpi.fit; omega)
set_option maxRecDepth 100000 in
set_option maxRecDepth 100000 in
theorem XZ.pay (hx : XZ w b0 z.ga gx X T U) {p : Nat} {l : List UInt8} (h : findS X.st p = some l) (hp : (p : Int) ≤ 9223372036854775807) : ∃ mx B c, XB w gx z.ga mx X.ov ∧ (∀ W, Below w.heap.size w W → (Instr.lookup 91 (.map (some mx)) (.int .i64 p) false).run Tryz.prog W = .ok (.slice B 4080 c) W) ∧ OB w b0 (.slice B 4080 c) l ∧ l.length = 4080 ∧ ∀ k, (Value.slice B 4080 c).ownBlock = some k → ¬ T k := by
 obtain ⟨mx, q, x1, x2, x3, x4, x5, x6, x7, x8, x9, x10, x11⟩ := hx.ex
 have hk := fun W (hW : Below w.heap.size w W) => (x2.below hW).look1 Tryz.underlying91 (zeroBytes W) (k := (p : Int)) (by omega) hp
 have hfs : findS X.st p = (findS q p).map Prod.fst := by rw [← x3, find_mapS]
 rw [h] at hfs
 cases hq : findS q p with
 | none => rw [hq] at hfs; cases hfs
 | some y =>
  obtain ⟨l', v⟩ := y
  rw [hq] at hfs
  injection hfs with hfs
  dsimp only at hfs
  subst hfs
  simp only [mapF_at, find_mapS, hq] at hk
  obtain ⟨ho, hlen⟩ := x4 _ (find_mem hq)
  dsimp only at ho hlen
  obtain ⟨B, c, rfl, _⟩ := ho.formN hlen
  exact ⟨mx, B, c, x1, hk, ho, hlen, x5 _ (find_mem hq)⟩
end
end Go.Proofs.YtnkeclpgpiogoaaGreat

/-! AtJ -/
namespace Go.Proofs.YtnkeclpgpiogoaaGreat
open Go Go.RowKit Go.Maps
section
variable {w0 w w' : World} {z : Wh} {D : EnS} {P : PoS} {A : AtS} {X : AxS} {T T' U : Nat → Prop} {gx : Nat}
set_option maxRecDepth 100000 in
theorem ob_br {W : World} {b n c : Nat} {B : Option Addr} {l : List UInt8} (h : OB W b (.slice B n c) l) (hn : l.length = n) : BR W B n l := by
 obtain ⟨_, _, e1, hb, _, _⟩ := h.formN hn
 injection e1 with e1 _ _
 subst e1
 exact hb
set_option maxRecDepth 100000 in
theorem Pages_az (ha : AZ w0 w z D P A T) (hx : XZ w w0.heap.size z.ga gx X T U) :
  Calls Tryz.prog 47 #[.pointer (some ⟨gx, 0, none⟩)] w fun e w' => e = .returned (.int .i64 (P.pages : Int)) ∧ w = w' := by
 obtain ⟨im, hab⟩ := ha.ab
 obtain ⟨tv, mb, hpb⟩ := ha.pb
 obtain ⟨mx, q, x1, x2⟩ := hx.ex
 exact XPages_any hab x1 hpb
set_option maxRecDepth 100000 in
theorem ASet.old {w1 : World} {X' : AxS} {r : Int} {e : Ending} (h : ASet w0 w1 z gx D P A X' T U r e w') (hb : Below w.heap.size w w1) : ASet w0 w z gx D P A X' T U r e w' :=
 ⟨h.1, h.2.1, h.2.2.1, (Off.of_below hb).trans h.2.2.2⟩
end
end Go.Proofs.YtnkeclpgpiogoaaGreat
