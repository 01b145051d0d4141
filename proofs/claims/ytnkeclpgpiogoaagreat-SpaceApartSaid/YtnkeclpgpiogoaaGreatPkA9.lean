/-
  Texts of this claim, joined: AtL, AtM, AtQ, AtN, AtO, AtP, AtR, SmI, AtS, ApI, AtT, AtU. No statement of the program is proved here.
-/
import Derived.Test.YtnkeclpgpiogoaaGreatPkA8
import Derived.Test.YtnkeclpgpiogoaaGreatPkA4
import Derived.Test.YtnkeclpgpiogoaaGreatPkA5
import Derived.WalkMore
import Derived.Test.YtnkeclpgpiogoaaGreatPkA1
import Derived.BigQuiet
import Derived.Test.YtnkeclpgpiogoaaGreatPkA2
/-! AtL -/
namespace Go.Proofs.YtnkeclpgpiogoaaGreat
open Go Go.RowKit Go.Maps
def CB (w : World) (g : Nat) (u0 u1 u2 : Value) : Prop := w.heap[g]? = some (.cells #[u0, u1, u2] 117 (0, 0))
section
variable {w w' : World} {g : Nat} {u0 u1 u2 : Value}
set_option maxRecDepth 100000 in
theorem CB.lt (h : CB w g u0 u1 u2) : g < w.heap.size := (Array.getElem?_eq_some_iff.1 h).1
set_option maxRecDepth 100000 in
theorem CB.below (h : CB w g u0 u1 u2) (hb : Below w.heap.size w w') : CB w' g u0 u1 u2 := (hb.block g h.lt).trans h
set_option maxRecDepth 100000 in
theorem CB.frozen (h : CB w g u0 u1 u2) (j : Nat) : w.frozen? ⟨g, j, none⟩ = false := by unfold CB at h; simp [World.frozen?, h]
set_option maxRecDepth 100000 in
theorem CB.c0 (h : CB w g u0 u1 u2) : w.cell? ⟨g, 0, none⟩ = some u0 := by rw [cell_of_row w g 0 _ _ _ h]; rfl
set_option maxRecDepth 100000 in
theorem CB.c1 (h : CB w g u0 u1 u2) : w.cell? ⟨g, 1, none⟩ = some u1 := by rw [cell_of_row w g 1 _ _ _ h]; rfl
set_option maxRecDepth 100000 in
theorem CB.c2 (h : CB w g u0 u1 u2) : w.cell? ⟨g, 2, none⟩ = some u2 := by rw [cell_of_row w g 2 _ _ _ h]; rfl
set_option maxRecDepth 100000 in
theorem CB.s2 (h : CB w g u0 u1 u2) (v : Value) : CB (w.setCell ⟨g, 2, none⟩ v) g u0 u1 v := by unfold CB at h ⊢; simp only [World.setCell, Array.getElem?_modify, if_pos, h]; rfl
end
set_option maxRecDepth 100000 in
theorem chgF_cons (im : List (Nat × Unit)) (p : Nat) (m : List UInt8) (r : List (Nat × List UInt8)) (D : EnS) (P : PoS) (acc : List Ch) : chgF im ((p, m) :: r) D P acc =
  if (getR D P (p : Int)).2.2 ≠ 0 then ((getR D P (p : Int)).1, (getR D P (p : Int)).2.1, (getR D P (p : Int)).2.2, [])
  else if getL D P (p : Int) = m then chgF im r (getR D P (p : Int)).1 (getR D P (p : Int)).2.1 acc
  else chgF im r (getR D P (p : Int)).1 (getR D P (p : Int)).2.1 (acc ++ [chg1 im p (getL D P (p : Int)) m]) := rfl
def CE (im : List (Nat × Unit)) (st : List (Nat × List UInt8)) (D0 : EnS) (P0 : PoS) (k : Nat) (D : EnS) (P : PoS) (acc : List Ch) : Prop :=
 chgF im st D0 P0 [] = chgF im (st.drop k) D P acc ∧ D.d.pending.length ≤ D0.d.pending.length + k ∧ P.count ≤ P0.count + k ∧ acc.length ≤ k
section
variable {im : List (Nat × Unit)} {st : List (Nat × List UInt8)} {D0 D : EnS} {P0 P : PoS} {k p : Nat} {m : List UInt8} {acc : List Ch}
set_option maxRecDepth 100000 in
theorem CE.start : CE im st D0 P0 0 D0 P0 [] := ⟨rfl, Nat.le_refl _, Nat.le_refl _, Nat.le_refl _⟩
set_option maxRecDepth 100000 in
theorem CE.cons (h : CE im st D0 P0 k D P acc) (hk : st[k]? = some (p, m)) : chgF im st D0 P0 [] = chgF im ((p, m) :: st.drop (k + 1)) D P acc := by
 rw [h.1]
 obtain ⟨hl, he⟩ := List.getElem?_eq_some_iff.1 hk
 rw [List.drop_eq_getElem_cons hl, he]
set_option maxRecDepth 100000 in
theorem CE.bad (h : CE im st D0 P0 k D P acc) (hk : st[k]? = some (p, m)) (he : (getR D P (p : Int)).2.2 ≠ 0) : chgF im st D0 P0 [] = ((getR D P (p : Int)).1, (getR D P (p : Int)).2.1, (getR D P (p : Int)).2.2, []) := by
 rw [h.cons hk, chgF_cons, if_pos he]
set_option maxRecDepth 100000 in
theorem CE.same (h : CE im st D0 P0 k D P acc) (hk : st[k]? = some (p, m)) (he : (getR D P (p : Int)).2.2 = 0) (hm : getL D P (p : Int) = m) : CE im st D0 P0 (k + 1) (getR D P (p : Int)).1 (getR D P (p : Int)).2.1 acc := by
 obtain ⟨g1, g2⟩ := getR_pl he
 refine ⟨?_, by have := h.2.1; omega, by have := h.2.2.1; omega, by have := h.2.2.2; omega⟩
 rw [h.cons hk, chgF_cons, if_neg (by rw [he]; exact fun h => h rfl), if_pos hm]
set_option maxRecDepth 100000 in
theorem CE.more (h : CE im st D0 P0 k D P acc) (hk : st[k]? = some (p, m)) (he : (getR D P (p : Int)).2.2 = 0) (hm : getL D P (p : Int) ≠ m) : CE im st D0 P0 (k + 1) (getR D P (p : Int)).1 (getR D P (p : Int)).2.1 (acc ++ [chg1 im p (getL D P (p : Int)) m]) := by
 obtain ⟨g1, g2⟩ := getR_pl he
 refine ⟨?_, by have := h.2.1; omega, by have := h.2.2.1; omega, by rw [List.length_append]; have := h.2.2.2; show _ + 1 ≤ _; omega⟩
 rw [h.cons hk, chgF_cons, if_neg (by rw [he]; exact fun h => h rfl), if_neg hm]
set_option maxRecDepth 100000 in
theorem CE.all (h : CE im st D0 P0 k D P acc) (hk : st.length ≤ k) : chgF im st D0 P0 [] = (D, P, 0, acc) := by
 rw [h.1, List.drop_of_length_le hk]
 rfl
end
set_option maxRecDepth 100000 in
theorem mark_look {w : World} {im n : Nat} {l : List (Nat × Unit)} (h : MV w im n (mapF (mapS (fun _ => mkE) l))) {p : Nat} (hp : (p : Int) ≤ 9223372036854775807) : (Instr.lookup 86 (.map (some im)) (.int .i64 (p : Int)) true).run Tryz.prog w = .ok (.tuple #[.agg #[], .bool (findS l p).isSome]) w := by
 have hz : (zeroValue 92).run Tryz.prog w = .ok (.agg #[]) w := by kernel_rfl
 rw [h.look Tryz.underlying86 hz (k := (p : Int)) (by omega) hp, mapF_at, find_mapS]
 cases findS l p <;> rfl
def ACh (w0 w : World) (z : Wh) (gx : Nat) (A : AtS) (X : AxS) (T U : Nat → Prop) (r : EnS × PoS × Int × List Ch) (e : Ending) (w' : World) : Prop :=
 ∃ B c, e = .returned (.tuple #[.slice B r.2.2.2.length c, .int .i64 r.2.2.1]) ∧ ∃ T', AZ w0 w' z r.1 r.2.1 A T' ∧ XZ w' w0.heap.size z.ga gx X T' U ∧ Mv T T' w w' ∧ HL w' w.heap.size T' (.slice B r.2.2.2.length c) r.2.2.2
structure CInv (w0 w wr : World) (z : Wh) (gx : Nat) (D0 : EnS) (P0 : PoS) (A : AtS) (X : AxS) (T0 U : Nat → Prop) (Bp : Option Addr) (cp : Nat) (k : Nat) (D : EnS) (P : PoS) (T : Nat → Prop) (v : Value) (acc : List Ch) : Prop where
 az : AZ w0 wr z D P A T
 xz : XZ wr w0.heap.size z.ga gx X T U
 mv : Mv T0 T w wr
 hl : HL wr w.heap.size T v acc
 pg : Keep wr (TR T v) (fun W => W.ownsRow w.heap.size 3 1 (.slice Bp X.st.length cp) X.st.length ((intsL (X.st.map Prod.fst)).map (Value.int .i64)))
 ce : CE A.im X.st D0 P0 k D P acc
section
variable {w0 w wr w' : World} {z : Wh} {D0 D : EnS} {P0 P : PoS} {A : AtS} {X : AxS} {T0 T U : Nat → Prop} {gx cp k p : Nat} {Bp : Option Addr} {v : Value} {acc : List Ch} {m : List UInt8}
set_option maxRecDepth 100000 in
theorem intsL_at (l : List Nat) (k : Nat) {p : Nat} (h : l[k]? = some p) : (intsL l).getD k 0 = (p : Int) := by
 unfold intsL
 rw [List.getD_eq_getElem?_getD, List.getElem?_map, h]
 rfl
set_option maxRecDepth 100000 in
theorem CInv.page (h : CInv w0 w wr z gx D0 P0 A X T0 U Bp cp k D P T v acc) (hk : X.st[k]? = some (p, m)) : ∃ g o, Bp = some ⟨g, o, none⟩ ∧ wr.cell? ⟨g, o + k, none⟩ = some (.int .i64 (p : Int)) := by
 have hl := (List.getElem?_eq_some_iff.1 hk).1
 obtain ⟨g, o, e, hc⟩ := (IR.of_own h.pg.now).at_ (k := k) hl
 rw [intsL_at _ k (p := p) (by rw [List.getElem?_map, hk]; rfl)] at hc
 exact ⟨g, o, e, hc⟩
set_option maxRecDepth 100000 in
set_option maxRecDepth 100000 in
theorem CInv.got (h : CInv w0 w wr z gx D0 P0 A X T0 U Bp cp k D P T v acc) {T' : Nat → Prop} {D' : EnS} {P' : PoS} (ha : AZ w0 w' z D' P' A T') (hm : Mv T T' wr w') (hc : CE A.im X.st D0 P0 (k + 1) D' P' acc) : CInv w0 w w' z gx D0 P0 A X T0 U Bp cp (k + 1) D' P' T' v acc :=
 ⟨ha, h.xz.step hm, h.mv.trans hm, h.hl.step hm, h.pg.step (TR.mv v hm), hc⟩
set_option maxRecDepth 100000 in
set_option maxRecDepth 100000 in
theorem CInv.said (h : CInv w0 w wr z gx D0 P0 A X T0 U Bp cp k D P T v acc) {T' : Nat → Prop} {D' : EnS} {P' : PoS} {w1 w2 w3 w4 : World} (ha : AZ w0 w1 z D' P' A T') (hm : Mv T T' wr w1) (h2 : Below w1.heap.size w1 w2) {us : List (Int × Value × Value)} {a : Int} {u1 u2 v' : Value} {m : List UInt8} {ps : List Pc}
  (hr : w2.ownsRow w.heap.size 117 3 v acc.length (chs us)) (k1 : Keep w2 (TR T' v) (fun W => VB W u1 m)) (k2 : Keep w2 (TR T' v) (fun W => VP W u2 ps)) (hus : us.length = acc.length ∧ ∀ (i : Nat) (p : Ch) (q : Int × Value × Value), acc[i]? = some p → us[i]? = some q → q.1 = p.1 ∧ Keep w2 (TR T' v) (fun W => VB W q.2.1 p.2.1) ∧ Keep w2 (TR T' v) (fun W => VP W q.2.2 p.2.2)) (hnv : ∀ k, v.ownBlock = some k → ¬ T' k)
  (h3 : Below w2.heap.size w2 w3) (ho : w4.ownsRow w.heap.size 117 3 v' (acc.length + 1) (chs us ++ [.int .i64 a, u1, u2])) (hg : w3.grownBy w4 v.ownBlock) (hv : v'.ownBlock = v.ownBlock ∨ (v'.ownBlock = some w3.heap.size ∧ w3.grownBy w4 none)) (hw : w0.heap.size ≤ w.heap.size) (hU : ∀ k, U k → k < w.heap.size) (hc : CE A.im X.st D0 P0 (k + 1) D' P' (acc ++ [(a, m, ps)])) :
  CInv w0 w w4 z gx D0 P0 A X T0 U Bp cp (k + 1) D' P' T' v' (acc ++ [(a, m, ps)]) := by
 have hT : ∀ k, T' k → k < w2.heap.size := fun k e => Nat.lt_of_lt_of_le (ha.lt e).2 h2.size
 obtain ⟨s1, s2, s3⟩ := HL.snoc hr hnv hus.1 hus.2 k1 k2 h3 ho hg hv hT
 have hx := (h.xz.step hm).below h2
 have hp := (h.pg.step (TR.mv v hm)).below h2
 have hne : ∀ k, v.ownBlock = some k → NE w2 k ∧ w.heap.size ≤ k := fun k e => by
  obtain ⟨cur, hc⟩ := own_blk hr e
  exact ⟨⟨_, hc, by decide, by decide, by decide, by decide, by decide, by decide⟩, own_ge hr e⟩
 have hM := (h.mv.trans hm).trans (Mv.of_below h2)
 exact ⟨(ha.below h2).nb s2 (fun k e => ⟨(hne k e).1, hnv k e, Nat.le_trans hw (hne k e).2⟩), hx.off s2 (fun k e => .inr (hne k e).1) (fun k hk e => by have := hU k hk; have := (hne k e).2; omega) (fun k e => .inl e), ⟨hM.1.chain s2 (fun j e => .inr (hne j e).2), hM.2⟩, s1, hp.step s3, hc⟩
end
set_option maxRecDepth 100000 in
set_option maxHeartbeats 1000000 in
theorem changes_at {w0 w : World} {z : Wh} {D : EnS} {P : PoS} {A : AtS} {X : AxS} {T U : Nat → Prop} {gx : Nat} (ha : AZ w0 w z D P A T) (hx : XZ w w0.heap.size z.ga gx X T U) (h16 : X.st.length ≤ 16) (hp : ∀ e ∈ X.st, (e.1 : Int) ≤ 9223372036854775807) (hpd : D.d.pending.length ≤ 899000) (hct : P.count ≤ 1152921504606846000) :
  Calls Tryz.prog 65 #[.pointer (some ⟨gx, 0, none⟩)] w (ACh w0 w z gx A X T U (chgF A.im X.st D P [])) := by
 have HA := Lib.hid ha
 have HX := Lib.hid hx
 have HU : Hid (∀ k, U k → k < w.heap.size) := Lib.hid fun k e => (hx.lt e).2.1
 have HSO : Hid (SortS X.st) := Lib.hid (by obtain ⟨mx, q, x1, x2, x3, x4, x5, x6, x7, x8, x9, x10, x11⟩ := hx.ex; exact x10)
 have HP := Lib.hid hp
 have HPD := Lib.hid hpd
 have HCT := Lib.hid hct
 obtain ⟨ic, hic, hy0, hy1, hy2⟩ := info_parts info_change
 have HWS : Hid (w0.heap.size ≤ w.heap.size) := Lib.hid ha.bel.size
 have HCH := Lib.hid (Changed_at hx h16)
 obtain ⟨n, hn⟩ : ∃ n, n = X.st.length := ⟨_, rfl⟩
 have HN := Lib.hid hn
 have HTT : Hid (∀ k, T k → k < w.heap.size) := Lib.hid fun k e => (ha.lt e).2
 have hn16 : n ≤ 16 := by omega
 obtain ⟨RR, hRR⟩ : ∃ RR, RR = chgF A.im X.st D P [] := ⟨_, rfl⟩
 have HRR := Lib.hid hRR
 rw [← hRR]
 clear hRR ha hx hp hpd hct h16 hn
 go_enter Tryz.func65, Tryz.ntmps65
 go_wp2_with fail
 refine HCH.out.mono ?_
 rintro e w1 ⟨B, c, rfl, ho, hb1⟩
 rw [List.length_map] at ho
 rw [List.length_map, ← HN.out]
 have HC0 : Hid (CInv w0 w w1 z gx D P A X T U B c 0 D P T (.slice none 0 0) []) := Lib.hid
  ⟨HA.out.below hb1, HX.out.below hb1, Mv.of_below hb1, HL.nil _ _ _, Keep.row ho (fun k hk e => by
   have h1 := own_ge ho hk
   rcases e with e | e
   ·have := HTT.out k e
    omega
   ·simp [Value.ownBlock] at e), CE.start⟩
 clear ho hb1
 go_wp2_with fail
 go_loopw [4, 16] (fun l i wr => ∃ (k : Nat) (D1 : EnS) (P1 : PoS) (T1 : Nat → Prop) (acc : List Ch) (B1 : Option Addr) (c1 : Nat), k ≤ n ∧ i = .int .i64 (k : Int) ∧ l = .slice B1 acc.length c1 ∧ Hid (CInv w0 w wr z gx D P A X T U B c k D1 P1 T1 l acc)) (fun _ i _ => n - (Go.RowKit.intOf i).toNat)
 case atStart => exact ⟨0, D, P, T, [], none, 0, Nat.zero_le _, rfl, rfl, HC0⟩
 case round =>
  obtain ⟨k, D1, P1, T1, acc, B1, c1, hk, rfl, rfl, HC⟩ := hrel
  by_cases hlt : k < n
  ·have t1 : decide ((k : Int) < (n : Int)) = true := decide_eq_true (by omega)
   have t2 : decide (k < n) = true := decide_eq_true hlt
   have j0 : (0 : Int) ≤ (k : Int) := Int.natCast_nonneg _
   have j1 : (k : Int) < (n : Int) := by omega
   obtain ⟨⟨p, m⟩, hpm⟩ : ∃ e, X.st[k]? = some e := ⟨_, List.getElem?_eq_getElem (by rw [← HN.out]; exact hlt)⟩
   have HPM := Lib.hid hpm
   obtain ⟨g, o, rfl, hcell⟩ := HC.out.page hpm
   obtain ⟨mx, hxb⟩ := HC.out.xz.xb
   obtain ⟨im, hab⟩ := HC.out.az.ab
   have x1 := hxb.c1
   have a1 := hab.c1
   have HG := Lib.hid (PGet_az HC.out.az (p : Int) (by have := HC.out.ce.2.1; have := HPD.out; omega) (by have := HC.out.ce.2.2.1; have := HCT.out; omega))
   clear hxb hab hpm
   go_wp2_with fail
   refine HG.out.mono ?_
   rintro e w2 ⟨v, rfl, hv, T2, wn2, hzn2, hmn2, hbn2, hn2⟩
   have hz2 := hzn2.below hbn2
   have hm2 := hmn2.trans (Mv.of_below hbn2)
   clear hzn2 hmn2 hbn2
   by_cases he : (getR D1 P1 (p : Int)).2.2 = 0
   ·have hlen := HC.out.az.get_len he
    obtain ⟨Bv, cv, rfl, hbv, hcv, _⟩ := hv.formN hlen
    obtain ⟨mx2, B3, c3, hxb2, hlkA, hov, hml, hnT⟩ := (HC.out.xz.step hm2).pay (find_at HSO.out HPM.out) (HP.out _ (List.mem_of_getElem? HPM.out))
    have hlk := hlkA w2 (gr_refl w2)
    clear hlkA
    obtain ⟨_, _, e1, hbm, hc3, hc3m⟩ := hov.formN hml
    injection e1 with e1 _ e2
    subst e1 e2
    have HEQ := Lib.hid (Equal_any Bv B3 4080 4080 cv c3 (getL D1 P1 (p : Int)) m w2 hbv hbm)
    have x2 := hxb2.c2
    rw [he]
    by_cases hme : getL D1 P1 (p : Int) = m
    ·have HC2 := Lib.hid (HC.out.got hz2 hm2 (HC.out.ce.same HPM.out he hme))
     have hb : ((getL D1 P1 (p : Int)) == m) = true := by rw [hme]; exact beq_self_eq_true _
     rw [hb] at HEQ
     clear hv hz2 hm2 hn2 hcell a1 hlen hbv hcv hxb2 hov hml hnT hbm hc3 hc3m hme he hb
     go_wp2_with fail
     refine HEQ.out.mono ?_
     rintro e w3 ⟨rfl, rfl⟩
     go_wp2_with fail
     go_roundw
     all_goals have hlt := of_decide_eq_true t2
     case rel => exact ⟨k + 1, _, _, _, acc, B1, c1, by omega, by go_num, rfl, HC2⟩
     case measure => simp [Go.RowKit.intOf]; omega
    ·go_wp2_with fail
     refine HEQ.out.mono ?_
     rintro e w3 ⟨rfl, rfl⟩
     rw [show ((getL D1 P1 (p : Int)) == m) = false from by rw [beq_eq_false_iff_ne]; exact hme]
     obtain ⟨im2, hab2, hmv2, _⟩ := hz2.mark
     have hb3 := gr_alloc (gr_refl w2) (.cells #[.int .i64 (p : Int), .slice none 0 0, .slice none 0 0] 117)
     have x31 := (hxb2.below hb3).c1
     have a33 := (hab2.below hb3).c3
     have hk3 := mark_look (hmv2.below hb3) (p := p) (HP.out _ (List.mem_of_getElem? HPM.out))
     obtain ⟨mk, hmk⟩ : ∃ mk, mk = (findS A.im p).isSome := ⟨_, rfl⟩
     rw [← hmk] at hk3
     have HMK := Lib.hid hmk
     clear hmk
     cases mk with
     | false =>
      have hch : chg1 A.im p (getL D1 P1 (p : Int)) m = ((p : Int), m, []) := by
       unfold chg1
       rw [if_neg (by rw [← HMK.out]; decide)]
      have hce := HC.out.ce.more HPM.out he hme
      rw [hch] at hce
      have hb2 := gr_alloc (gr_alloc (gr_refl w2) (.cells #[.int .i64 (p : Int), .slice B3 4080 c3, .slice none 0 0] 117)) (.cells #[] 92)
      have hsz : ((w2.alloc (.cells #[.int .i64 (p : Int), .slice B3 4080 c3, .slice none 0 0] 117)).alloc (.cells #[] 92)).heap.size = w2.heap.size + 1 + 1 := by rw [World.size_alloc, World.size_alloc]
      have hrd := Rd.new ((w2.alloc (.cells #[.int .i64 (p : Int), .slice B3 4080 c3, .slice none 0 0] 117)).alloc (.cells #[] 92)) 117 #[.int .i64 (p : Int), .slice B3 4080 c3, .slice none 0 0] 1 3 rfl
      rw [hsz] at hrd
      have HRD := Lib.hid hrd
      obtain ⟨us, r1, r2, r3, r4⟩ := (HC.out.hl.step hm2).below hb2
      have hk1 := Keep.vb (T := TR T2 (.slice B1 acc.length c1)) (hov.below hb2) (fun k hk e => by
       rcases e with e | e
       ·exact hnT k hk e
       ·obtain ⟨cur1, q1⟩ := own_blk r1 e
        obtain ⟨cur2, q2⟩ := own_blk (hov.below hb2) hk
        rw [q1] at q2
        injection q2 with q2
        injection q2 with _ q2 _
        revert q2
        decide)
      have HNEXT : Hid (∀ v8 w8, w8.ownsRow w.heap.size 117 3 v8 (acc.length + 1) (chs us ++ [.int .i64 (p : Int), .slice B3 4080 c3, .slice none 0 0]) → (((w2.alloc (.cells #[.int .i64 (p : Int), .slice B3 4080 c3, .slice none 0 0] 117)).alloc (.cells #[] 92)).alloc (.cells #[.int .i64 (p : Int), .slice B3 4080 c3, .slice none 0 0] 117)).grownBy w8 (Value.slice B1 acc.length c1).ownBlock → (v8.ownBlock = (Value.slice B1 acc.length c1).ownBlock ∨ (v8.ownBlock = some (((w2.alloc (.cells #[.int .i64 (p : Int), .slice B3 4080 c3, .slice none 0 0] 117)).alloc (.cells #[] 92)).alloc (.cells #[.int .i64 (p : Int), .slice B3 4080 c3, .slice none 0 0] 117)).heap.size ∧ (((w2.alloc (.cells #[.int .i64 (p : Int), .slice B3 4080 c3, .slice none 0 0] 117)).alloc (.cells #[] 92)).alloc (.cells #[.int .i64 (p : Int), .slice B3 4080 c3, .slice none 0 0] 117)).grownBy w8 none)) →
        CInv w0 w w8 z gx D P A X T U (some ⟨g, o, none⟩) c (k + 1) (getR D1 P1 (p : Int)).1 (getR D1 P1 (p : Int)).2.1 T2 v8 (acc ++ [((p : Int), m, [])])) := Lib.hid fun v8 w8 ho8 hg8 hv8 =>
       HC.out.said hz2 hm2 hb2 r1 hk1 (fun W _ => ⟨none, 0, rfl, PR.none_ _ _, Nat.le_refl _, Nat.zero_le _⟩) ⟨r3, r4⟩ r2 (gr_alloc (gr_refl _) _) ho8 hg8 hv8 HWS.out HU.out hce
      have HROW := Lib.hid (r1.alloc (.cells #[.int .i64 (p : Int), .slice B3 4080 c3, .slice none 0 0] 117))
      have HLE : Hid (acc.length ≤ 16) := Lib.hid (by have := HC.out.ce.2.2.2; omega)
      have HSZ : Hid (w.heap.size ≤ (((w2.alloc (.cells #[.int .i64 (p : Int), .slice B3 4080 c3, .slice none 0 0] 117)).alloc (.cells #[] 92)).alloc (.cells #[.int .i64 (p : Int), .slice B3 4080 c3, .slice none 0 0] 117)).heap.size) := Lib.hid (by
       have q1 := HC.out.mv.1.size
       have q2 := hm2.1.size
       rw [World.size_alloc, hsz]
       omega)
      clear hce hb2 hsz hrd r1 r2 r3 r4 hk1 hv hz2 hm2 hn2 hcell a1 hlen hbv hcv hxb2 hov hml hnT hbm hc3 hc3m hme he hab2 hmv2 hb3 hch
      go_wp2_with (at_builtin; refine wpList_append_Rd _ rfl (.tmp 72) (.tmp 74) 112 rfl w.heap.size 117 ic _ 3 56 Tryz.underlying112 hic hy0 hy1 hy2 rfl (.slice B1 acc.length c1) acc.length (chs us) rfl HROW.out (some ⟨w2.heap.size + 1 + 1, 0, none⟩) 1 1 [.int .i64 (p : Int), .slice B3 4080 c3, .slice none 0 0] rfl HRD.out (by simp [Value.oneCell']) (by have := HLE.out; omega) (by have := HLE.out; simp only [maxLen]; omega) HSZ.out ?_; intro v8 w8 ho8 hg8 _ hv8; have HC8 := Lib.hid (HNEXT.out v8 w8 ho8 hg8 hv8); obtain ⟨A8, c8, rfl, _, _⟩ := own_form ho8; clear ho8 hg8 hv8)
      go_roundw
      all_goals have hlt := of_decide_eq_true t2
      case rel => exact ⟨k + 1, _, _, _, _, A8, c8, by omega, by go_num, by rw [List.length_append]; rfl, HC8⟩
      case measure => simp [Go.RowKit.intOf]; omega
     | true =>
      have hch : chg1 A.im p (getL D1 P1 (p : Int)) m = ((p : Int), [], diffL (getL D1 P1 (p : Int)) m) := by
       unfold chg1
       rw [if_pos (by rw [← HMK.out])]
      have hce := HC.out.ce.more HPM.out he hme
      rw [hch] at hce
      have HCE := Lib.hid hce
      have hb2 := gr_alloc hb3 (.cells #[] 92)
      have hcb : CB (w2.alloc (.cells #[.int .i64 (p : Int), .slice none 0 0, .slice none 0 0] 117)) w2.heap.size (.int .i64 (p : Int)) (.slice none 0 0) (.slice none 0 0) := heap_alloc_new _ _
      have hcb2 := hcb.below (gr_alloc (gr_refl _) (.cells #[] 92))
      have hs2 : w2.heap.size < ((w2.alloc (.cells #[.int .i64 (p : Int), .slice none 0 0, .slice none 0 0] 117)).alloc (.cells #[] 92)).heap.size := hcb2.lt
      have HDF := Lib.hid (Diff_any Bv B3 cv c3 (getL D1 P1 (p : Int)) m _ (hbv.below hb2) (hbm.below hb2) hc3)
      have HB2 := Lib.hid hb2
      have HCB := Lib.hid hcb2
      have HS2 := Lib.hid hs2
      have HZ2 := Lib.hid hz2
      have HM2 := Lib.hid hm2
      clear hcb hcb2 hs2 hb2 hce hv hz2 hm2 hn2 hcell a1 hlen hbv hcv hxb2 hov hml hnT hbm hc3 hc3m hme he hab2 hmv2 hb3 hch
      go_wp2_with fail
      refine HDF.out.mono ?_
      rintro e w4 ⟨v4, rfl, hop, hb4⟩
      obtain ⟨Ap, cp2, rfl, _, _, _⟩ := hop.form rfl
      generalize diffL (getL D1 P1 (p : Int)) m = dl at *
      have hcb4 := HCB.out.below hb4
      have fz := hcb4.frozen 2
      have hcb5 := hcb4.s2 (.slice Ap dl.length cp2)
      have y0 := hcb4.c0
      have y1 := hcb4.c1
      have y2 := hcb4.c2
      have ho5 : Off (· = w2.heap.size) w4 (w4.setCell ⟨w2.heap.size, 2, none⟩ (.slice Ap dl.length cp2)) := (Off.refl _ _).setCell _ rfl
      have hb24 : Below w2.heap.size w2 w4 := gr_trans HB2.out hb4
      have hb25 : Below w2.heap.size w2 (w4.setCell ⟨w2.heap.size, 2, none⟩ (.slice Ap dl.length cp2)) := hb24.trans (ho5.below (fun k e => Nat.le_of_eq e.symm) hb24.size)
      have hop5 := Keep.op (T := fun k => k < ((w2.alloc (.cells #[.int .i64 (p : Int), .slice none 0 0, .slice none 0 0] 117)).alloc (.cells #[] 92)).heap.size) hop (fun k e => e) _ (fun k hk hn => ho5.block k hk (fun e => hn (by
       have := HS2.out
       dsimp only
       omega)))
      have hsz : (w4.setCell ⟨w2.heap.size, 2, none⟩ (.slice Ap dl.length cp2)).heap.size = w4.heap.size := by simp [World.setCell]
      have hrd := Rd.new (w4.setCell ⟨w2.heap.size, 2, none⟩ (.slice Ap dl.length cp2)) 117 #[.int .i64 (p : Int), .slice none 0 0, .slice Ap dl.length cp2] 1 3 rfl
      rw [hsz] at hrd
      have HRD := Lib.hid hrd
      obtain ⟨us, r1, r2, r3, r4⟩ := (HC.out.hl.step HM2.out).below hb25
      have hk2 := (Keep.op (T := TR T2 (.slice B1 acc.length c1)) hop5 (fun k e => by
       have := HS2.out
       rcases e with e | e
       ·have := (HZ2.out.lt e).2
        omega
       ·obtain ⟨us', r1', _⟩ := HC.out.hl.step HM2.out
        obtain ⟨cur1, q1⟩ := own_blk r1' e
        have := (Array.getElem?_eq_some_iff.1 q1).1
        omega)).mono fun W h => h.vp
      have HNEXT : Hid (∀ v8 w8, w8.ownsRow w.heap.size 117 3 v8 (acc.length + 1) (chs us ++ [.int .i64 (p : Int), .slice none 0 0, .slice Ap dl.length cp2]) → ((w4.setCell ⟨w2.heap.size, 2, none⟩ (.slice Ap dl.length cp2)).alloc (.cells #[.int .i64 (p : Int), .slice none 0 0, .slice Ap dl.length cp2] 117)).grownBy w8 (Value.slice B1 acc.length c1).ownBlock → (v8.ownBlock = (Value.slice B1 acc.length c1).ownBlock ∨ (v8.ownBlock = some ((w4.setCell ⟨w2.heap.size, 2, none⟩ (.slice Ap dl.length cp2)).alloc (.cells #[.int .i64 (p : Int), .slice none 0 0, .slice Ap dl.length cp2] 117)).heap.size ∧ ((w4.setCell ⟨w2.heap.size, 2, none⟩ (.slice Ap dl.length cp2)).alloc (.cells #[.int .i64 (p : Int), .slice none 0 0, .slice Ap dl.length cp2] 117)).grownBy w8 none)) →
        CInv w0 w w8 z gx D P A X T U (some ⟨g, o, none⟩) c (k + 1) (getR D1 P1 (p : Int)).1 (getR D1 P1 (p : Int)).2.1 T2 v8 (acc ++ [((p : Int), [], dl)])) := Lib.hid fun v8 w8 ho8 hg8 hv8 =>
       HC.out.said HZ2.out HM2.out hb25 r1 (fun W _ => ⟨none, 0, rfl, BR.none_ _ _, Nat.le_refl _, Nat.zero_le _⟩) hk2 ⟨r3, r4⟩ r2 (gr_alloc (gr_refl _) _) ho8 hg8 hv8 HWS.out HU.out HCE.out
      have HROW := Lib.hid (r1.alloc (.cells #[.int .i64 (p : Int), .slice none 0 0, .slice Ap dl.length cp2] 117))
      have HLE : Hid (acc.length ≤ 16) := Lib.hid (by have := HC.out.ce.2.2.2; omega)
      have HSZ : Hid (w.heap.size ≤ ((w4.setCell ⟨w2.heap.size, 2, none⟩ (.slice Ap dl.length cp2)).alloc (.cells #[.int .i64 (p : Int), .slice none 0 0, .slice Ap dl.length cp2] 117)).heap.size) := Lib.hid (by
       have q1 := HC.out.mv.1.size
       have q2 := HM2.out.1.size
       have q3 := hb25.size
       rw [World.size_alloc]
       omega)
      clear hcb4 hcb5 ho5 hb24 hb25 hop5 hsz hrd r1 r2 r3 r4 hk2 hop hb4
      go_wp2_with (at_builtin; refine wpList_append_Rd _ rfl (.tmp 72) (.tmp 74) 112 rfl w.heap.size 117 ic _ 3 56 Tryz.underlying112 hic hy0 hy1 hy2 rfl (.slice B1 acc.length c1) acc.length (chs us) rfl HROW.out (some ⟨w4.heap.size, 0, none⟩) 1 1 [.int .i64 (p : Int), .slice none 0 0, .slice Ap dl.length cp2] rfl HRD.out (by simp [Value.oneCell']) (by have := HLE.out; omega) (by have := HLE.out; simp only [maxLen]; omega) HSZ.out ?_; intro v8 w8 ho8 hg8 _ hv8; have HC8 := Lib.hid (HNEXT.out v8 w8 ho8 hg8 hv8); obtain ⟨A8, c8, rfl, _, _⟩ := own_form ho8; clear ho8 hg8 hv8)
      go_roundw
      all_goals have hlt := of_decide_eq_true t2
      case rel => exact ⟨k + 1, _, _, _, _, A8, c8, by omega, by go_num, by rw [List.length_append]; rfl, HC8⟩
      case measure => simp [Go.RowKit.intOf]; omega
   ·obtain ⟨r, hr⟩ : ∃ r, r = (getR D1 P1 (p : Int)).2.2 := ⟨_, rfl⟩
    have hbad := HC.out.ce.bad HPM.out he
    rw [← hr] at he
    have t3 : (r != 0) = true := by rw [bne_iff_ne]; exact he
    have HF : Hid (ACh w0 w z gx A X T U RR (.returned (.tuple #[.slice none 0 0, .int .i64 r])) w2) := Lib.hid (by
     rw [HRR.out, hbad, ← hr]
     exact ⟨none, 0, rfl, T2, hz2, HC.out.xz.step hm2, HC.out.mv.trans hm2, HL.nil _ _ _⟩)
    obtain ⟨Bv, cv, rfl, _⟩ := hv.form
    rw [← hr]
    clear hbad he hr hv hz2 hm2 hn2 hcell x1 a1
    go_wp2_with fail
    go_ret2
    exact HF.out
  ·have t1 : decide ((k : Int) < (n : Int)) = false := decide_eq_false (by omega)
   have t2 : decide (k < n) = false := decide_eq_false hlt
   have HF : Hid (ACh w0 w z gx A X T U RR (.returned (.tuple #[.slice B1 acc.length c1, .int .i64 0])) wr) := Lib.hid (by
    rw [HRR.out, HC.out.ce.all (by rw [← HN.out]; omega)]
    exact ⟨B1, c1, rfl, T1, HC.out.az, HC.out.xz, HC.out.mv, HC.out.hl⟩)
   go_wp2_with fail
   go_ret2
   exact HF.out
end Go.Proofs.YtnkeclpgpiogoaaGreat

/-! AtM -/
namespace Go.Proofs.YtnkeclpgpiogoaaGreat
open Go Go.RowKit Go.Maps
set_option maxRecDepth 100000 in
theorem fluJ_la (D : DiskS) (J : JnS) : (fluJ D J).la = J.la := (fluJ_shape D J).2.2.2
set_option maxRecDepth 100000 in
theorem logD_la (D : EnS) (n : Int) : (logD D n).j.la = D.j.la := by
 unfold logD
 split
 ·rfl
 ·exact fluJ_la _ _
set_option maxRecDepth 100000 in
theorem writeR_la (D : EnS) (P : PoS) (n : Nat) : (writeR D P n).1.j.la = D.j.la := by
 unfold writeR
 dsimp only
 split
 ·exact logD_la _ _
 ·split
  ·exact logD_la _ _
  ·exact logD_la _ _
set_option maxRecDepth 100000 in
theorem holdR_la (D : EnS) (P : PoS) (f : FrS) : (holdR D P f).1.j.la = D.j.la := by
 unfold holdR
 split
 ·rfl
 ·split
  ·split
   ·exact writeR_la _ _ _
   ·exact writeR_la _ _ _
  ·rfl
set_option maxRecDepth 100000 in
theorem getR_la (D : EnS) (P : PoS) (p : Int) : (getR D P p).1.j.la = D.j.la := by
 unfold getR
 split
 ·rfl
 ·split
  ·rfl
  ·dsimp only
   split
   ·rfl
   ·split
    ·rfl
    ·exact holdR_la _ _ _
set_option maxRecDepth 100000 in
theorem chgF_la (im : List (Nat × Unit)) : ∀ (st : List (Nat × List UInt8)) (D : EnS) (P : PoS) (acc : List Ch), (chgF im st D P acc).1.j.la = D.j.la
 | [], _, _, _ => rfl
 | (p, m) :: r, D, P, acc => by
  rw [chgF_cons]
  split
  ·exact getR_la _ _ _
  ·split
   ·rw [chgF_la im r]
    exact getR_la _ _ _
   ·rw [chgF_la im r]
    exact getR_la _ _ _
def PE (st : List (Nat × List UInt8)) (n : Int) (l : List Ch) (D0 : EnS) (P0 : PoS) (k : Nat) (D : EnS) (P : PoS) : Prop :=
 putF st n l D0 P0 = putF st n (l.drop k) D P ∧ D.d.pending.length ≤ D0.d.pending.length + k ∧ P.count ≤ P0.count + k
section
variable {st : List (Nat × List UInt8)} {n : Int} {l : List Ch} {D0 D : EnS} {P0 P : PoS} {k : Nat}
set_option maxRecDepth 100000 in
theorem PE.start : PE st n l D0 P0 0 D0 P0 := ⟨rfl, Nat.le_refl _, Nat.le_refl _⟩
set_option maxRecDepth 100000 in
theorem PE.cons (h : PE st n l D0 P0 k D P) (hk : k < l.length) : putF st n l D0 P0 = putF st n (l.getD k ch0 :: l.drop (k + 1)) D P := by
 rw [h.1, ch_drop hk]
set_option maxRecDepth 100000 in
theorem PE.bad (h : PE st n l D0 P0 k D P) (hk : k < l.length) {p : Nat} {m : List UInt8} (hp : (l.getD k ch0).1 = (p : Int)) (hm : findS st p = some m) (he : (setR D P (p : Int) m n).2.2 ≠ 0) : putF st n l D0 P0 = setR D P (p : Int) m n := by
 rw [h.cons hk]
 unfold putF
 dsimp only
 rw [hp, Int.toNat_natCast, hm, Option.getD_some, if_pos he]
set_option maxRecDepth 100000 in
theorem PE.next (h : PE st n l D0 P0 k D P) (hk : k < l.length) {p : Nat} {m : List UInt8} (hp : (l.getD k ch0).1 = (p : Int)) (hm : findS st p = some m) (he : (setR D P (p : Int) m n).2.2 = 0) : PE st n l D0 P0 (k + 1) (setR D P (p : Int) m n).1 (setR D P (p : Int) m n).2.1 := by
 obtain ⟨g1, g2⟩ := setR_pl he
 refine ⟨?_, by have := h.2.1; omega, by have := h.2.2; omega⟩
 rw [h.cons hk]
 conv => lhs; unfold putF
 dsimp only
 rw [hp, Int.toNat_natCast, hm, Option.getD_some, if_neg (by rw [he]; exact fun h => h rfl)]
set_option maxRecDepth 100000 in
theorem PE.all (h : PE st n l D0 P0 k D P) (hk : l.length ≤ k) : putF st n l D0 P0 = (D, P, 0) := by
 rw [h.1, List.drop_of_length_le hk]
 rfl
set_option maxRecDepth 100000 in
theorem markF_at {im0 im : List (Nat × Unit)} (h : markF l im0 = markF (l.drop k) im) (hk : k < l.length) : markF l im0 = markF (l.drop (k + 1)) (if 0 < (l.getD k ch0).2.1.length then insS (l.getD k ch0).1.toNat () im else im) := by
 rw [h, ch_drop hk]
 rfl
end
section
variable {w0 w w' : World} {z : Wh} {D D' : EnS} {P : PoS} {A : AtS} {X : AxS} {T T' U : Nat → Prop} {gx : Nat}
set_option maxRecDepth 100000 in
theorem AZ.brk (h : AZ w0 w z D P A T) : AZ w0 (w.setCell ⟨z.ga, 4, none⟩ (.bool true)) z D P { A with br := true } T ∧ Off T w (w.setCell ⟨z.ga, 4, none⟩ (.bool true)) := by
 obtain ⟨F, tv, mb, q, im, h1, h2, h3, h4, h5, h6, h7, h8, h9⟩ := h.ex
 have ho : Off (· = z.ga) w (w.setCell ⟨z.ga, 4, none⟩ (.bool true)) := (Off.refl _ _).setCell _ rfl
 have hps : ∀ k, PS z.gp F tv mb q k → ¬ k = z.ga := fun k hk e => h6 (e ▸ hk)
 have hx : PX (w.setCell ⟨z.ga, 4, none⟩ (.bool true)) w0.heap.size z.gp z.gd z.wv D P F tv mb q := ⟨h1.dk.nb ho (fun k e => by rw [e]; exact h2.nb), h1.pb.off ho (hps _ (.inr (.inl rfl))), ownsRow_off h1.tk ho (fun k e => hps k (.inr (.inr (.inr (.inl e))))), h1.qf, fun x hx => (h1.pv x hx).off ho (fun k e => hps k (.inr (.inr (.inr (.inr ⟨x, hx, e⟩))))), h1.ap, h1.mp.off ho (hps _ (.inr (.inr (.inl rfl)))), h1.pi, h1.bp, h1.bm⟩
 exact ⟨⟨h.bel.trans (ho.below (fun k e => by rw [e]; exact h4) h.bel.size), h.lv, F, tv, mb, q, im, hx, h2.s4 true, h3.off ho (fun e => h3.notCells h2 e), h4, h5, h6, h7, h8, h9⟩, ho.mono fun k _ e => (h9 k).2 (.inr (.inl e))⟩
set_option maxRecDepth 100000 in
theorem end_az (ha : AZ w0 w z D P A T) (hx : XZ w w0.heap.size z.ga gx X T U) (ho : X.ov = false) :
  Calls Tryz.prog 66 #[.pointer (some ⟨gx, 0, none⟩)] w fun e w' => e = .returned (.tuple #[]) ∧ AZ w0 w' z D P A T ∧ XZ w' w0.heap.size z.ga gx { X with ov := true } T U ∧ Off U w w' := by
 obtain ⟨mx, q, h1, h2, h3, h4, h5, h6, h7, h8, h9, h10, h11⟩ := hx.ex
 rw [ho] at h1
 refine (end_any h1).mono ?_
 rintro e w' ⟨rfl, k1, k2⟩
 refine ⟨rfl, ha.nb k2 (fun k e => by subst e; exact ⟨h1.nb, h8, h6⟩), ⟨mx, q, k1, h2.off k2 (fun e => h2.notCells h1 e), h3, fun e he => ⟨(h4 e he).1.off k2 (fun k hk e2 => ?_), (h4 e he).2⟩, h5, h6, h7, h8, h9, h10, h11⟩, k2.mono fun k _ e => (h11 k).2 (.inl e)⟩
 subst e2
 obtain ⟨cur, hc⟩ := own_blk (h4 e he).1 hk
 rw [h1] at hc
 injection hc with hc
 injection hc with _ hc _
 revert hc
 decide
set_option maxRecDepth 100000 in
theorem Last_az (ha : AZ w0 w z D P A T) : Calls Tryz.prog 29 #[.pointer (some ⟨D.gj, 0, none⟩)] w fun e w' => e = .returned (.int .i64 (D.j.la : Int)) ∧ Below w.heap.size w w' := by
 obtain ⟨F, hi⟩ := ha.ie
 obtain ⟨wv, hj⟩ := jb_of hi
 exact Last_any hj
def TU (T U : Nat → Prop) (k : Nat) : Prop := T k ∨ U k
def ADone (w0 w : World) (z : Wh) (gx : Nat) (T U : Nat → Prop) (r : DRes) (e : Ending) (w' : World) : Prop :=
 e = .returned (.tuple #[.int .i64 r.n, .int .i64 r.e]) ∧ ∃ T', AZ w0 w' z r.D r.P r.A T' ∧ XZ w' w0.heap.size z.ga gx r.X T' U ∧ Off (TU T U) w w' ∧ ∀ k, T' k → T k ∨ w.heap.size ≤ k
set_option maxRecDepth 100000 in
theorem ADone.of {r : DRes} {e : Ending} (he : e = .returned (.tuple #[.int .i64 r.n, .int .i64 r.e])) (ha : AZ w0 w' z r.D r.P r.A T') (hx : XZ w' w0.heap.size z.ga gx r.X T' U) (hm : Mv T T' w w') : ADone w0 w z gx T U r e w' :=
 ⟨he, T', ha, hx, hm.1.mono fun _ _ e => .inl e, hm.2⟩
set_option maxRecDepth 100000 in
theorem AB.same {ga gp gj im im' : Nat} {br : Bool} (h : AB w ga gp gj im br) (h' : AB w ga gp gj im' br) : im = im' := by
 have := h.c3
 rw [h'.c3] at this
 injection this with this
 injection this with this
 injection this with this
 exact this.symm
set_option maxRecDepth 100000 in
theorem rp_le : ∀ (ps : List Pc) (e : Int), rpFrom e ps = true → ∀ q ∈ ps, q.1 ≤ 4080
 | [], _, _, q, hq => by cases hq
 | p :: ps, e, h, q, hq => by
  unfold rpFrom at h
  split at h
  ·cases h
  ·rcases List.mem_cons.1 hq with rfl | hq
   ·omega
   ·exact rp_le ps _ h q hq
set_option maxRecDepth 100000 in
theorem chg_mem {im : List (Nat × Unit)} {st : List (Nat × List UInt8)} {D : EnS} {P : PoS} (hs : SortS st) (hp : ∀ e ∈ st, (e.1 : Int) ≤ 9223372036854775807 ∧ e.2.length = 4080) {c : Ch} (h : c ∈ (chgF im st D P []).2.2.2) : ∃ (p : Nat) (m : List UInt8), c.1 = (p : Int) ∧ findS st p = some m ∧ (p : Int) ≤ 9223372036854775807 ∧ ∀ q ∈ c.2.2, q.1 ≤ 9223372036854775807 := by
 rcases chgF_mem im st D P [] c h with h | ⟨e, he, old, rfl⟩
 ·cases h
 ·obtain ⟨i, hi⟩ := List.getElem?_of_mem he
  obtain ⟨h1, h2⟩ := hp e he
  refine ⟨e.1, e.2, chg1_page .., find_at hs hi, h1, fun q hq => ?_⟩
  unfold chg1 at hq
  split at hq
  ·have := rp_le _ _ (diff_right (a := old) h2).1 q hq
   omega
  ·cases hq
structure DInv (w0 w wr : World) (z : Wh) (gx : Nat) (A : AtS) (X : AxS) (T0 U : Nat → Prop) (B : Option Addr) (cs : List Ch) (n : Int) (D0 : EnS) (P0 : PoS) (k : Nat) (D : EnS) (P : PoS) (T : Nat → Prop) : Prop where
 az : AZ w0 wr z D P A T
 xz : XZ wr w0.heap.size z.ga gx X T U
 mv : Mv T0 T w wr
 cr : Keep wr T (fun W => CR W B cs.length cs)
 pe : PE X.st n cs D0 P0 k D P
structure MInv (w0 w wr : World) (z : Wh) (gx : Nat) (A : AtS) (X : AxS) (T0 U : Nat → Prop) (B : Option Addr) (cs : List Ch) (D : EnS) (P : PoS) (T : Nat → Prop) (k : Nat) (im : List (Nat × Unit)) : Prop where
 az : AZ w0 wr z D P { A with im := im } T
 xz : XZ wr w0.heap.size z.ga gx X T U
 mv : Mv T0 T w wr
 cr : Keep wr T (fun W => CR W B cs.length cs)
 ma : markF cs A.im = markF (cs.drop k) im
 le : im.length ≤ A.im.length + k
end
set_option maxRecDepth 100000 in
set_option maxHeartbeats 2000000 in
theorem Done_at {w0 w : World} {z : Wh} {D : EnS} {P : PoS} {A : AtS} {X : AxS} {T U : Nat → Prop} {gx : Nat} (ha : AZ w0 w z D P A T) (hx : XZ w w0.heap.size z.ga gx X T U) (tx : Int) (h16 : X.st.length ≤ 16) (hp : ∀ e ∈ X.st, (e.1 : Int) ≤ 9223372036854775807) (hpd : D.d.pending.length ≤ 898000) (hct : P.count ≤ 1152921504606845000) (hla : D.j.la + 1 ≤ 1152921504606846976) (him : A.im.length ≤ 4096) :
  Calls Tryz.prog 15 #[.pointer (some ⟨gx, 0, none⟩), .int .i64 tx] w (ADone w0 w z gx T U (doneR D P A X tx)) := by
 obtain ⟨im0, hab⟩ := ha.ab
 obtain ⟨mx0, hxb⟩ := hx.xb
 have HST : Hid (Calls Tryz.prog 64 #[.pointer (some ⟨gx, 0, none⟩)] w fun e w' => e = .returned (.int .i64 (stE A X)) ∧ w = w') := Lib.hid (xstands_any hab hxb)
 have HA := Lib.hid ha
 have HX := Lib.hid hx
 obtain ⟨RR, hRR⟩ : ∃ RR, RR = doneR D P A X tx := ⟨_, rfl⟩
 have HRR := Lib.hid hRR
 rw [← hRR]
 by_cases hst : stE A X = 0
 ·by_cases htx : tx < 0 ∨ 4611686018427387904 < tx
  ·have HF : Hid (ADone w0 w z gx T U RR (.returned (.tuple #[.int .i64 0, .int .i64 2])) w) := Lib.hid (by
    rw [HRR.out]
    unfold doneR
    rw [if_neg (by rw [hst]; exact fun h => h rfl), if_pos htx]
    exact ADone.of rfl HA.out HX.out (Mv.of_below (gr_refl w)))
   rw [hst] at HST
   clear ha hx hab hxb hst hRR hpd hct hla him h16 hp
   by_cases h1 : tx < 0
   ·have t1 : decide (tx < 0) = true := decide_eq_true h1
    clear htx h1
    go_enter Tryz.func15, Tryz.ntmps15
    go_wp2_with fail
    refine HST.out.mono ?_
    rintro e w1 ⟨rfl, rfl⟩
    go_wp2_with fail
    go_ret2
    exact HF.out
   ·have t1 : decide (tx < 0) = false := decide_eq_false h1
    have t2 : decide (4611686018427387904 < tx) = true := decide_eq_true (by omega)
    clear htx h1
    go_enter Tryz.func15, Tryz.ntmps15
    go_wp2_with fail
    refine HST.out.mono ?_
    rintro e w1 ⟨rfl, rfl⟩
    go_wp2_with fail
    go_ret2
    exact HF.out
  ·have hov : X.ov = false := by
    cases h : X.ov with
    | false => rfl
    | true =>
     unfold stE at hst
     rw [h] at hst
     cases hst
   have hbr : A.br = false := by
    cases h : A.br with
    | false => rfl
    | true =>
     unfold stE at hst
     rw [hov, h] at hst
     cases hst
   obtain ⟨⟨D1, P1, e1, cs⟩, hz⟩ : ∃ r, r = chgF A.im X.st D P [] := ⟨_, rfl⟩
   have hRD : RR = if e1 ≠ 0 then ⟨D1, P1, A, X, 0, e1⟩ else done2 D1 P1 A X tx cs := by
    rw [hRR]
    unfold doneR
    rw [if_neg (by rw [hst]; exact fun h => h rfl), if_neg htx, ← hz]
   have HCH := Lib.hid (changes_at ha hx h16 hp (by omega) (by omega))
   rw [← hz] at HCH
   have HZB : Hid (e1 = 0 → D1.d.pending.length ≤ D.d.pending.length + 16 ∧ P1.count ≤ P.count + 16 ∧ cs.length ≤ 16) := Lib.hid (fun he => by
    have := chgF_pl A.im X.st D P [] (by rw [← hz]; exact he)
    rw [← hz] at this
    dsimp only [List.length_nil] at this
    omega)
   have HMEM : Hid (∀ c ∈ cs, ∃ (p : Nat) (m : List UInt8), c.1 = (p : Int) ∧ findS X.st p = some m ∧ (p : Int) ≤ 9223372036854775807 ∧ ∀ q ∈ c.2.2, q.1 ≤ 9223372036854775807) := Lib.hid (fun c hc => by
    refine chg_mem (im := A.im) (D := D) (P := P) ?_ (fun e he => ⟨hp e he, ?_⟩) (by rw [← hz]; exact hc)
    ·obtain ⟨mx, q, x1, x2, x3, x4, x5, x6, x7, x8, x9, x10, x11⟩ := hx.ex
     exact x10
    ·obtain ⟨mx, q, x1, x2, x3, x4, x5, x6, x7, x8, x9, x10, x11⟩ := hx.ex
     rw [← x3] at he
     obtain ⟨y, hy, rfl⟩ := List.mem_map.1 he
     exact (x4 y hy).2)
   obtain ⟨m, hm⟩ : ∃ m, m = cs.length := ⟨_, rfl⟩
   have HM := Lib.hid hm
   have HLA : Hid (D1.j.la = D.j.la) := Lib.hid (by
    have := chgF_la A.im X.st D P []
    rw [← hz] at this
    exact this)
   have HBD := Lib.hid (And.intro hpd (And.intro hct (And.intro hla him)))
   have HOV := Lib.hid hov
   have HBR := Lib.hid hbr
   have HRD := Lib.hid hRD
   have a1 := hxb.c1
   have t1 : decide (tx < 0) = false := decide_eq_false (by omega)
   have t2 : decide (4611686018427387904 < tx) = false := decide_eq_false (by omega)
   rw [hst] at HST
   clear ha hx hab hxb hst hRR hpd hct hla him h16 hp hov hbr hz hRD htx hm
   go_enter Tryz.func15, Tryz.ntmps15
   go_wp2_with fail
   refine HST.out.mono ?_
   rintro e w1 ⟨rfl, rfl⟩
   go_wp2_with fail
   refine HCH.out.mono ?_
   rintro e w1 ⟨B, c, rfl, T1, ha1, hx1, hm1, hl1⟩
   dsimp only at ha1 hx1 hm1 hl1 ⊢
   rw [← HM.out]
   have HA1 := Lib.hid ha1
   have HX1 := Lib.hid hx1
   have HM1 := Lib.hid hm1
   have HL1 := Lib.hid hl1
   clear ha1 hx1 hm1 hl1 a1
   by_cases he1 : e1 = 0
   ·subst he1
    have HB1 := Lib.hid (HZB.out rfl)
    have hm16 : m ≤ 16 := by rw [HM.out]; exact HB1.out.2.2
    by_cases hl0 : m = 0
    ·subst hl0
     have HE := Lib.hid (end_az HA1.out HX1.out HOV.out)
     go_wp2_with fail
     refine HE.out.mono ?_
     rintro e w2 ⟨rfl, ha2, hx2, ho2⟩
     obtain ⟨im2, hab2⟩ := ha2.ab
     have a2 := hab2.c2
     have HLS := Lib.hid (Last_az ha2)
     have HF : Hid (∀ w3, Below w2.heap.size w2 w3 → ADone w0 w z gx T U RR (.returned (.tuple #[.int .i64 (D1.j.la : Int), .int .i64 0])) w3) := Lib.hid (fun w3 hb3 => by
      rw [HRD.out, if_neg (by exact fun h => h rfl)]
      unfold done2
      rw [if_pos HM.out.symm]
      exact ⟨rfl, T1, ha2.below hb3, hx2.below hb3, ((HM1.out.1.mono fun _ _ e => .inl e).chain ho2 (fun k e => .inl (.inr e))).trans (Off.of_below hb3), HM1.out.2⟩)
     clear ha2 hx2 ho2 hab2
     go_wp2_with fail
     refine HLS.out.mono ?_
     rintro e w3 ⟨rfl, hb3⟩
     have HF3 := Lib.hid (HF.out w3 hb3)
     clear hb3
     go_wp2_with fail
     go_ret2
     exact HF3.out
    ·have t3 : ((m : Int) == 0) = false := beq_eq_false_iff_ne.2 (by omega)
     obtain ⟨im1, hab1⟩ := HA1.out.ab
     have a2 := hab1.c2
     have hap := JAppend_az HA1.out 1 tx B cs.length c cs HL1.out.cr (by have := HB1.out.2.2; omega) (fun x hx q hq => by obtain ⟨_, _, _, _, _, h⟩ := HMEM.out x hx; exact h q hq) (by rw [HLA.out]; exact HBD.out.2.2.1)
     obtain ⟨nn, hnn⟩ : ∃ nn, nn = appN D1.j ⟨1, tx, cs⟩ := ⟨_, rfl⟩
     obtain ⟨ae, hae⟩ : ∃ ae, ae = appE D1.j ⟨1, tx, cs⟩ := ⟨_, rfl⟩
     rw [← hnn, ← hae, ← HM.out] at hap
     have HAP : Hid (Calls Tryz.prog 67 #[.pointer (some ⟨D1.gj, 0, none⟩), .agg #[.int .u8 1, .int .i64 tx, .slice B m c]] w1 fun e w' => e = .returned (.tuple #[.int .i64 (nn : Int), .int .i64 ae]) ∧ ∃ T', AZ w0 w' z (D1.app ⟨1, tx, cs⟩) P1 A T' ∧ Mv T1 T' w1 w') := Lib.hid hap
     have HNN := Lib.hid hnn
     have HAE := Lib.hid hae
     clear hab1 hap hnn hae
     go_wp2_with fail
     refine HAP.out.mono ?_
     rintro e w2 ⟨rfl, T2, ha2, hm2⟩
     have HM0 := Lib.hid (HM1.out.trans hm2)
     have HX2 := Lib.hid (HX1.out.step hm2)
     have HK2 := Lib.hid (HL1.out.step hm2).keep
     have HA2 := Lib.hid ha2
     clear ha2 hm2 a2
     by_cases h0 : ae = 0
     ·subst h0
      have HR2 : Hid (RR = if (putF X.st (nn : Int) cs (D1.app ⟨1, tx, cs⟩) P1).2.2 ≠ 0 then ⟨(putF X.st (nn : Int) cs (D1.app ⟨1, tx, cs⟩) P1).1, (putF X.st (nn : Int) cs (D1.app ⟨1, tx, cs⟩) P1).2.1, { A with br := true }, X, 0, (putF X.st (nn : Int) cs (D1.app ⟨1, tx, cs⟩) P1).2.2⟩
        else ⟨(putF X.st (nn : Int) cs (D1.app ⟨1, tx, cs⟩) P1).1, (putF X.st (nn : Int) cs (D1.app ⟨1, tx, cs⟩) P1).2.1, { A with im := markF cs A.im }, { X with ov := true }, (nn : Int), 0⟩) := Lib.hid (by
       rw [HRD.out, if_neg (by exact fun h => h rfl)]
       unfold done2
       rw [if_neg (by rw [← HM.out]; exact hl0), if_neg (by rw [← HAE.out]; exact fun h => h rfl), ← HNN.out])
      have HPD2 : Hid ((D1.app ⟨1, tx, cs⟩).d.pending.length ≤ 899000 ∧ P1.count ≤ 1152921504606846000) := Lib.hid (by
       have q1 := HB1.out
       have q2 := HBD.out
       refine ⟨?_, by omega⟩
       show D1.d.pending.length ≤ 899000
       omega)
      generalize D1.app ⟨1, tx, cs⟩ = D2 at *
      have HI0 : Hid (DInv w0 w w2 z gx A X T U B cs (nn : Int) D2 P1 0 D2 P1 T2) := Lib.hid ⟨HA2.out, HX2.out, HM0.out, HK2.out, PE.start⟩
      have hnn0 : (nn : Int) ≤ 9223372036854775807 := by
       have q1 := HNN.out
       have q2 := HLA.out
       have q3 := HBD.out
       unfold appN at q1
       split at q1 <;> omega
      clear HA2 HX2 HM0 HK2
      go_wp2_with fail
      go_loopw [65] (fun i wr => ∃ (k : Nat) (D3 : EnS) (P3 : PoS) (T3 : Nat → Prop), k ≤ m ∧ i = .int .i64 (k : Int) ∧ Hid (DInv w0 w wr z gx A X T U B cs (nn : Int) D2 P1 k D3 P3 T3)) (fun i _ => m - (Go.RowKit.intOf i).toNat)
      case atStart => exact ⟨0, D2, P1, T2, Nat.zero_le _, rfl, HI0⟩
      case round =>
       obtain ⟨k, D3, P3, T3, hk, rfl, HI⟩ := hrel
       by_cases hlt : k < m
       ·have t4 : decide ((k : Int) < (m : Int)) = true := decide_eq_true (by omega)
        have t5 : decide (k < m) = true := decide_eq_true hlt
        have j0 : (0 : Int) ≤ (k : Int) := Int.natCast_nonneg _
        have j1 : (k : Int) < (m : Int) := by omega
        have HKL : Hid (k < cs.length) := Lib.hid (by rw [← HM.out]; exact hlt)
        obtain ⟨g, o, B', c', Dd, dd, rfl, q0, q1, q2, _, _, _, _, _, _⟩ := HI.out.cr.now.at_ HKL.out
        obtain ⟨p, mm, hp1, hp2, hp3, _⟩ := HMEM.out _ (ch_mem HKL.out)
        rw [hp1] at q0
        have HP1 := Lib.hid hp1
        have HP2 := Lib.hid hp2
        generalize (cs.getD k ch0).2.1.length = il at q1
        generalize (cs.getD k ch0).2.2.length = pl at q2
        obtain ⟨mx, B3, c3, hxb3, hlk, hov3, hml, hnT⟩ := HI.out.xz.pay hp2 hp3
        obtain ⟨_, _, e1, hbm, _, _⟩ := hov3.formN hml
        injection e1 with e1 _ e2
        subst e1 e2
        obtain ⟨im3, hab3⟩ := HI.out.az.ab
        have hbx := gr_alloc (gr_refl wr) (.cells #[.int .i64 (p : Int), .slice B' il c', .slice Dd pl dd] 117)
        have hcb : CB (wr.alloc (.cells #[.int .i64 (p : Int), .slice B' il c', .slice Dd pl dd] 117)) wr.heap.size (.int .i64 (p : Int)) (.slice B' il c') (.slice Dd pl dd) := heap_alloc_new _ _
        have K0 := Lib.hid (hab3.below hbx).c1
        have K1 := Lib.hid hcb.c0
        have K2 := Lib.hid (hxb3.below hbx).c2
        have HLK : Hid (∀ W, Below (wr.alloc (.cells #[.int .i64 (p : Int), .slice B' il c', .slice Dd pl dd] 117)).heap.size (wr.alloc (.cells #[.int .i64 (p : Int), .slice B' il c', .slice Dd pl dd] 117)) W → (Instr.lookup 91 (.map (some mx)) (.int .i64 p) false).run Tryz.prog W = .ok (.slice B3 4080 c3) W) := Lib.hid (fun W hW => hlk W (gr_trans hbx hW))
        have HSE : Hid (∀ W, Below (wr.alloc (.cells #[.int .i64 (p : Int), .slice B' il c', .slice Dd pl dd] 117)).heap.size (wr.alloc (.cells #[.int .i64 (p : Int), .slice B' il c', .slice Dd pl dd] 117)) W → Calls Tryz.prog 68 #[.pointer (some ⟨z.gp, 0, none⟩), .int .i64 (p : Int), .slice B3 4080 c3, .int .i64 (nn : Int)] W fun e w' => e = .returned (.int .i64 (setR D3 P3 (p : Int) mm (nn : Int)).2.2) ∧ ∃ T', AZ w0 w' z (setR D3 P3 (p : Int) mm (nn : Int)).1 (setR D3 P3 (p : Int) mm (nn : Int)).2.1 A T' ∧ Mv T3 T' wr w') := Lib.hid (fun W hW => by
         have hb := gr_trans hbx hW
         refine (PSet_az (HI.out.az.below hb) (p : Int) (nn : Int) B3 4080 c3 mm (hbm.below hb) hnn0 (by have := HI.out.pe.2.1; have := HPD2.out; omega) (by have := HI.out.pe.2.2; have := HPD2.out; omega)).mono ?_
         rintro e w' ⟨rfl, T', h1, h2⟩
         exact ⟨rfl, T', h1, (Mv.of_below hb).trans h2⟩)
        clear hp1 hp2 hp3 hxb3 hlk hov3 hml hnT hbm hab3 hbx hcb
        go_upto_region 19 with fail
        clear q0 q1 q2
        refine wp_region_any (by kernel_rfl) ?_
        refine' wpAny_to_tail (l0 := #[false, false, false, false, false, false, false, false, false, false, false, false, false, false, false, false]) (by kernel_rfl) (by kernel_rfl) (by kernel_rfl) (by kernel_rfl) (by kernel_rfl)
         [MP.is (.pointer (some ⟨z.ga, 0, none⟩)), MP.is (.pointer (some ⟨z.ga, 0, none⟩)), MP.is (.pointer (some ⟨z.ga, 1, none⟩)), MP.is (.pointer (some ⟨z.gp, 0, none⟩)), MP.is (.pointer (some ⟨wr.heap.size, 0, none⟩)), MP.is (.int .i64 (p : Int)), MP.is (.pointer (some ⟨gx, 0, none⟩)), MP.is (.pointer (some ⟨gx, 0, none⟩)), MP.is (.pointer (some ⟨gx, 2, none⟩)), MP.is (.map (some mx)), MP.is (.pointer (some ⟨wr.heap.size, 0, none⟩)), MP.is (.int .i64 (p : Int)), MP.is (.slice B3 4080 c3), MP.is (.int .i64 (nn : Int)), MP.any, MP.any]
         (fun j => j == 14 || j == 15) #[true, true, true, true, true, true, true, true, true, true, true, true, true, true, false, false] rfl (by kernel_rfl) rfl (by kernel_rfl) (by kernel_rfl) (by kernel_rfl) (by kernel_rfl) (fun _ => undef) (by rfl) ?hR01 ?hAA1 ?hst1 ?hend1
        case hR01 =>
         intro j hj
         have hj2 : j ∈ [] := hj
         cases hj2
        case hAA1 =>
         intro f
         conv => lhs; simp only [putA, dstOf, List.size_toArray, List.length_cons, List.length_nil, Nat.zero_add, Nat.reduceAdd, List.getElem?_toArray, List.getElem?_cons_zero, List.getElem?_cons_succ, Option.bind_some, Act.put, List.setIfInBounds_toArray, List.set_cons_zero, List.set_cons_succ]
         first | done | exact rfl
        case hst1 =>
         refine Steps.of_list (l' := [0, 1, 2, 3, 4, 5, 6, 7, 8, 9, 10, 11, 12, 13]) (by kernel_rfl) ?_
         refine Steps.cons rfl ?_ ?_
         ·intro f wz hB h K Q hK
          clear h
          try simp only [List.getElem_toArray, List.getElem_cons_zero]
          try rw [if_pos (by rfl)]
          go_simp
          exact hK _ _ (gr_refl _) rfl
         refine Steps.cons rfl ?_ ?_
         ·intro f wz hB h K Q hK
          have h0 : (MP.is (.pointer (some ⟨z.ga, 0, none⟩))).p (f 0) wz := h 0 (by kernel_rfl)
          have e0 : f 0 = (.pointer (some ⟨z.ga, 0, none⟩)) := h0
          simp only [e0] at hK ⊢
          clear e0
          clear h
          try rw [if_pos (by rfl)]
          go_simp
          exact hK _ _ (gr_refl _) rfl
         refine Steps.cons rfl ?_ ?_
         ·intro f wz hB h K Q hK
          have h1 : (MP.is (.pointer (some ⟨z.ga, 0, none⟩))).p (f 1) wz := h 1 (by kernel_rfl)
          have e1 : f 1 = (.pointer (some ⟨z.ga, 0, none⟩)) := h1
          simp only [e1] at hK ⊢
          clear e1
          clear h
          try rw [if_pos (by rfl)]
          go_simp
          exact hK _ _ (gr_refl _) rfl
         refine Steps.cons rfl ?_ ?_
         ·intro f wz hB h K Q hK
          have h2 : (MP.is (.pointer (some ⟨z.ga, 1, none⟩))).p (f 2) wz := h 2 (by kernel_rfl)
          have e2 : f 2 = (.pointer (some ⟨z.ga, 1, none⟩)) := h2
          simp only [e2] at hK ⊢
          clear e2
          clear h
          try rw [if_pos (by rfl)]
          have y0 := keep_of_below hB K0.out
          have y1 := keep_of_below hB K1.out
          have y2 := keep_of_below hB K2.out
          go_simp
          exact hK _ _ (gr_refl _) rfl
         refine Steps.cons rfl ?_ ?_
         ·intro f wz hB h K Q hK
          clear h
          try rw [if_pos (by rfl)]
          go_simp
          exact hK _ _ (gr_refl _) rfl
         refine Steps.cons rfl ?_ ?_
         ·intro f wz hB h K Q hK
          have h4 : (MP.is (.pointer (some ⟨wr.heap.size, 0, none⟩))).p (f 4) wz := h 4 (by kernel_rfl)
          have e4 : f 4 = (.pointer (some ⟨wr.heap.size, 0, none⟩)) := h4
          simp only [e4] at hK ⊢
          clear e4
          clear h
          try rw [if_pos (by rfl)]
          have y0 := keep_of_below hB K0.out
          have y1 := keep_of_below hB K1.out
          have y2 := keep_of_below hB K2.out
          go_simp
          exact hK _ _ (gr_refl _) rfl
         refine Steps.cons rfl ?_ ?_
         ·intro f wz hB h K Q hK
          clear h
          try rw [if_pos (by rfl)]
          go_simp
          exact hK _ _ (gr_refl _) rfl
         refine Steps.cons rfl ?_ ?_
         ·intro f wz hB h K Q hK
          have h6 : (MP.is (.pointer (some ⟨gx, 0, none⟩))).p (f 6) wz := h 6 (by kernel_rfl)
          have e6 : f 6 = (.pointer (some ⟨gx, 0, none⟩)) := h6
          simp only [e6] at hK ⊢
          clear e6
          clear h
          try rw [if_pos (by rfl)]
          go_simp
          exact hK _ _ (gr_refl _) rfl
         refine Steps.cons rfl ?_ ?_
         ·intro f wz hB h K Q hK
          have h7 : (MP.is (.pointer (some ⟨gx, 0, none⟩))).p (f 7) wz := h 7 (by kernel_rfl)
          have e7 : f 7 = (.pointer (some ⟨gx, 0, none⟩)) := h7
          simp only [e7] at hK ⊢
          clear e7
          clear h
          try rw [if_pos (by rfl)]
          go_simp
          exact hK _ _ (gr_refl _) rfl
         refine Steps.cons rfl ?_ ?_
         ·intro f wz hB h K Q hK
          have h8 : (MP.is (.pointer (some ⟨gx, 2, none⟩))).p (f 8) wz := h 8 (by kernel_rfl)
          have e8 : f 8 = (.pointer (some ⟨gx, 2, none⟩)) := h8
          simp only [e8] at hK ⊢
          clear e8
          clear h
          try rw [if_pos (by rfl)]
          have y0 := keep_of_below hB K0.out
          have y1 := keep_of_below hB K1.out
          have y2 := keep_of_below hB K2.out
          go_simp
          exact hK _ _ (gr_refl _) rfl
         refine Steps.cons rfl ?_ ?_
         ·intro f wz hB h K Q hK
          clear h
          try rw [if_pos (by rfl)]
          go_simp
          exact hK _ _ (gr_refl _) rfl
         refine Steps.cons rfl ?_ ?_
         ·intro f wz hB h K Q hK
          have h10 : (MP.is (.pointer (some ⟨wr.heap.size, 0, none⟩))).p (f 10) wz := h 10 (by kernel_rfl)
          have e10 : f 10 = (.pointer (some ⟨wr.heap.size, 0, none⟩)) := h10
          simp only [e10] at hK ⊢
          clear e10
          clear h
          try rw [if_pos (by rfl)]
          have y0 := keep_of_below hB K0.out
          have y1 := keep_of_below hB K1.out
          have y2 := keep_of_below hB K2.out
          go_simp
          exact hK _ _ (gr_refl _) rfl
         refine Steps.cons rfl ?_ ?_
         ·intro f wz hB h K Q hK
          have h9 : (MP.is (.map (some mx))).p (f 9) wz := h 9 (by kernel_rfl)
          have e9 : f 9 = (.map (some mx)) := h9
          have h11 : (MP.is (.int .i64 (p : Int))).p (f 11) wz := h 11 (by kernel_rfl)
          have e11 : f 11 = (.int .i64 (p : Int)) := h11
          simp only [e9, e11] at hK ⊢
          clear e9 e11
          clear h
          try rw [if_pos (by rfl)]
          have y9 := HLK.out _ (bel_drew hB)
          go_simp
          exact hK _ _ (gr_refl _) rfl
         refine Steps.cons rfl ?_ ?_
         ·intro f wz hB h K Q hK
          clear h
          try rw [if_pos (by rfl)]
          go_simp
          exact hK _ _ (gr_refl _) rfl
         exact Steps.nil
        intro f w2 hB2 hR
        conv => arg 7; simp only [putL, dstOf, List.size_toArray, List.length_cons, List.length_nil, Nat.zero_add, Nat.reduceAdd, List.getElem?_toArray, List.getElem?_cons_zero, List.getElem?_cons_succ, Option.bind_some, Act.put, List.setIfInBounds_toArray, List.set_cons_zero, List.set_cons_succ, Array.getD_eq_getD_getElem?, Option.getD_some, if_true, if_false, Bool.false_eq_true]
        have e0 : f 0 = (.pointer (some ⟨z.ga, 0, none⟩)) := hR 0 (by decide) rfl
        have e1 : f 1 = (.pointer (some ⟨z.ga, 0, none⟩)) := hR 1 (by decide) rfl
        have e2 : f 2 = (.pointer (some ⟨z.ga, 1, none⟩)) := hR 2 (by decide) rfl
        have e3 : f 3 = (.pointer (some ⟨z.gp, 0, none⟩)) := hR 3 (by decide) rfl
        have e4 : f 4 = (.pointer (some ⟨wr.heap.size, 0, none⟩)) := hR 4 (by decide) rfl
        have e5 : f 5 = (.int .i64 (p : Int)) := hR 5 (by decide) rfl
        have e6 : f 6 = (.pointer (some ⟨gx, 0, none⟩)) := hR 6 (by decide) rfl
        have e7 : f 7 = (.pointer (some ⟨gx, 0, none⟩)) := hR 7 (by decide) rfl
        have e8 : f 8 = (.pointer (some ⟨gx, 2, none⟩)) := hR 8 (by decide) rfl
        have e9 : f 9 = (.map (some mx)) := hR 9 (by decide) rfl
        have e10 : f 10 = (.pointer (some ⟨wr.heap.size, 0, none⟩)) := hR 10 (by decide) rfl
        have e11 : f 11 = (.int .i64 (p : Int)) := hR 11 (by decide) rfl
        have e12 : f 12 = (.slice B3 4080 c3) := hR 12 (by decide) rfl
        have e13 : f 13 = (.int .i64 (nn : Int)) := hR 13 (by decide) rfl
        simp only [e0, e1, e2, e3, e4, e5, e6, e7, e8, e9, e10, e11, e12, e13]
        clear e0 e1 e2 e3 e4 e5 e6 e7 e8 e9 e10 e11 e12 e13 hR
        have HB2 : Hid (Below (wr.alloc (.cells #[.int .i64 (p : Int), .slice B' il c', .slice Dd pl dd] 117)).heap.size (wr.alloc (.cells #[.int .i64 (p : Int), .slice B' il c', .slice Dd pl dd] 117)) w2) := Lib.hid (Below.trans (gr_drewN (gr_refl (wr.alloc (.cells #[.int .i64 (p : Int), .slice B' il c', .slice Dd pl dd] 117))) 1) hB2)
        clear hB2
        refine wpAny_of_held (S := fun _ => True) _ _ _ _ ?_
        refine wpAnyH_ready (rs := [14]) (by kernel_rfl) (by simp) ?_
        refine AllReadyH.cons rfl (fun KK hK => ?_) AllReadyH.nil
        rw [if_pos (by rfl)]
        go_simp
        refine (HSE.out _ HB2.out).mono ?_
        rintro e w5 ⟨rfl, T5, ha5, hm5⟩
        refine hK.out _ _ trivial (fun _ => ?_)
        clear hK KK
        try simp only [List.setIfInBounds_toArray, List.set_cons_zero, List.set_cons_succ]
        refine wpAnyH_ready (rs := [15]) (by kernel_rfl) (by simp) ?_
        refine AllReadyH.cons rfl (fun KK hK => ?_) AllReadyH.nil
        go_simp
        refine hK.out _ _ trivial (fun _ => ?_)
        clear hK KK
        try simp only [List.setIfInBounds_toArray, List.set_cons_zero, List.set_cons_succ]
        refine wpAnyH_done (by kernel_rfl) ?_ _
        have HA5 := Lib.hid ha5
        have HM5 := Lib.hid hm5
        clear ha5 hm5
        obtain ⟨se, hse⟩ : ∃ se, se = (setR D3 P3 (p : Int) mm (nn : Int)).2.2 := ⟨_, rfl⟩
        rw [← hse]
        by_cases h1 : se = 0
        ·have HI2 : Hid (DInv w0 w w5 z gx A X T U (some ⟨g, o, none⟩) cs (nn : Int) D2 P1 (k + 1) (setR D3 P3 (p : Int) mm (nn : Int)).1 (setR D3 P3 (p : Int) mm (nn : Int)).2.1 T5) := Lib.hid ⟨HA5.out, HI.out.xz.step HM5.out, HI.out.mv.trans HM5.out, HI.out.cr.step HM5.out, HI.out.pe.next HKL.out HP1.out HP2.out (by rw [← hse]; exact h1)⟩
         subst h1
         clear hse
         go_wp2_with fail
         go_roundw
         all_goals have hlt := of_decide_eq_true t5
         case rel => exact ⟨k + 1, _, _, _, by omega, by go_num, HI2⟩
         case measure => simp [Go.RowKit.intOf]; omega
        ·have t6 : (se != 0) = true := by rw [bne_iff_ne]; exact h1
         obtain ⟨im5, hab5⟩ := HA5.out.ab
         have fz := hab5.frozen 4
         have a4 := hab5.c4
         have HF : Hid (ADone w0 w z gx T U RR (.returned (.tuple #[.int .i64 0, .int .i64 se])) (w5.setCell ⟨z.ga, 4, none⟩ (.bool true))) := Lib.hid (by
          have hbad := HI.out.pe.bad HKL.out HP1.out HP2.out (by rw [← hse]; exact h1)
          obtain ⟨ha6, ho6⟩ := HA5.out.brk
          have hm6 : Mv T5 T5 w5 _ := ⟨ho6, fun k e => .inl e⟩
          rw [HR2.out, hbad, if_pos (by rw [← hse]; exact h1), hse]
          exact ADone.of rfl ha6 ((HI.out.xz.step HM5.out).step hm6) ((HI.out.mv.trans HM5.out).trans hm6))
         clear hse h1 hab5
         go_wp2_with fail
         go_ret2
         exact HF.out
       ·have t4 : decide ((k : Int) < (m : Int)) = false := decide_eq_false (by omega)
        have t5 : decide (k < m) = false := decide_eq_false hlt
        have HI3 : Hid (MInv w0 w wr z gx A X T U B cs D3 P3 T3 0 A.im) := Lib.hid ⟨HI.out.az, HI.out.xz, HI.out.mv, HI.out.cr, rfl, Nat.le_refl _⟩
        have HR3 : Hid (RR = ⟨D3, P3, { A with im := markF cs A.im }, { X with ov := true }, (nn : Int), 0⟩) := Lib.hid (by
         rw [HR2.out, HI.out.pe.all (by rw [← HM.out]; omega), if_neg (by exact fun h => h rfl)])
        clear HI HI0 HR2
        go_wp2_with fail
        go_loopw [93] (fun i wr => ∃ (k : Nat) (im2 : List (Nat × Unit)), k ≤ m ∧ i = .int .i64 (k : Int) ∧ Hid (MInv w0 w wr z gx A X T U B cs D3 P3 T3 k im2)) (fun i _ => m - (Go.RowKit.intOf i).toNat)
        case atStart => exact ⟨0, A.im, Nat.zero_le _, rfl, HI3⟩
        case round =>
         clear HI3
         obtain ⟨k2, im2, hk2, rfl, HI⟩ := hrel
         by_cases hlt2 : k2 < m
         ·have t6 : decide ((k2 : Int) < (m : Int)) = true := decide_eq_true (by omega)
          have t7 : decide (k2 < m) = true := decide_eq_true hlt2
          have j0 : (0 : Int) ≤ (k2 : Int) := Int.natCast_nonneg _
          have j1 : (k2 : Int) < (m : Int) := by omega
          have HKL : Hid (k2 < cs.length) := Lib.hid (by rw [← HM.out]; exact hlt2)
          obtain ⟨g, o, B', c', Dd, dd, rfl, q0, q1, q2, _, _, _, _, _, _⟩ := HI.out.cr.now.at_ HKL.out
          obtain ⟨p, mm, hp1, _, hp3, _⟩ := HMEM.out _ (ch_mem HKL.out)
          rw [hp1] at q0
          have HP1 := Lib.hid hp1
          have hma := markF_at HI.out.ma HKL.out
          rw [hp1, Int.toNat_natCast] at hma
          generalize (cs.getD k2 ch0).2.1.length = il at q1 hma
          generalize (cs.getD k2 ch0).2.2.length = pl at q2
          obtain ⟨im3, hab3⟩ := HI.out.az.ab
          have hbx := gr_alloc (gr_refl wr) (.cells #[.int .i64 (p : Int), .slice B' il c', .slice Dd pl dd] 117)
          have hcb : CB (wr.alloc (.cells #[.int .i64 (p : Int), .slice B' il c', .slice Dd pl dd] 117)) wr.heap.size (.int .i64 (p : Int)) (.slice B' il c') (.slice Dd pl dd) := heap_alloc_new _ _
          have c1 := hcb.c1
          by_cases hil : 0 < il
          ·have t8 : decide ((0 : Int) < (il : Int)) = true := decide_eq_true (by omega)
           have t9 : decide (0 < il) = true := decide_eq_true hil
           rw [if_pos hil] at hma
           have HMA := Lib.hid hma
           have K0 := Lib.hid (hab3.below hbx).c3
           have K1 := Lib.hid hcb.c0
           have HAB := Lib.hid (hab3.below hbx)
           have HBX := Lib.hid hbx
           have HP3 := Lib.hid hp3
           clear hma hab3 hbx hcb hp1 hp3 hil
           go_upto_region 28 with fail
           clear q0 q1 q2 c1
           refine wp_region_any (by kernel_rfl) ?_
           refine' wpAny_to_tail (l0 := #[false, false, false, false, false, false, false, false]) (by kernel_rfl) (by kernel_rfl) (by kernel_rfl) (by kernel_rfl) (by kernel_rfl)
            [MP.is (.pointer (some ⟨z.ga, 0, none⟩)), MP.is (.pointer (some ⟨z.ga, 0, none⟩)), MP.is (.pointer (some ⟨z.ga, 3, none⟩)), MP.is (.map (some im3)), MP.is (.pointer (some ⟨wr.heap.size, 0, none⟩)), MP.is (.int .i64 (p : Int)), MP.is (.agg #[]), MP.any]
            (fun j => j == 7) #[true, true, true, true, true, true, true, false] rfl (by kernel_rfl) rfl (by kernel_rfl) (by kernel_rfl) (by kernel_rfl) (by kernel_rfl) (fun _ => undef) (by rfl) ?hR02 ?hAA2 ?hst2 ?hend2
           case hR02 =>
            intro j hj
            have hj2 : j ∈ [] := hj
            cases hj2
           case hAA2 =>
            intro f
            conv => lhs; simp only [putA, dstOf, List.size_toArray, List.length_cons, List.length_nil, Nat.zero_add, Nat.reduceAdd, List.getElem?_toArray, List.getElem?_cons_zero, List.getElem?_cons_succ, Option.bind_some, Act.put, List.setIfInBounds_toArray, List.set_cons_zero, List.set_cons_succ]
            first | done | exact rfl
           case hst2 =>
            refine Steps.of_list (l' := [0, 1, 2, 3, 4, 5, 6]) (by kernel_rfl) ?_
            refine Steps.cons rfl ?_ ?_
            ·intro f wz hB h K Q hK
             clear h
             try simp only [List.getElem_toArray, List.getElem_cons_zero]
             try rw [if_pos (by rfl)]
             go_simp
             exact hK _ _ (gr_refl _) rfl
            refine Steps.cons rfl ?_ ?_
            ·intro f wz hB h K Q hK
             have h0 : (MP.is (.pointer (some ⟨z.ga, 0, none⟩))).p (f 0) wz := h 0 (by kernel_rfl)
             have e0 : f 0 = (.pointer (some ⟨z.ga, 0, none⟩)) := h0
             simp only [e0] at hK ⊢
             clear e0
             clear h
             try rw [if_pos (by rfl)]
             go_simp
             exact hK _ _ (gr_refl _) rfl
            refine Steps.cons rfl ?_ ?_
            ·intro f wz hB h K Q hK
             have h1 : (MP.is (.pointer (some ⟨z.ga, 0, none⟩))).p (f 1) wz := h 1 (by kernel_rfl)
             have e1 : f 1 = (.pointer (some ⟨z.ga, 0, none⟩)) := h1
             simp only [e1] at hK ⊢
             clear e1
             clear h
             try rw [if_pos (by rfl)]
             go_simp
             exact hK _ _ (gr_refl _) rfl
            refine Steps.cons rfl ?_ ?_
            ·intro f wz hB h K Q hK
             have h2 : (MP.is (.pointer (some ⟨z.ga, 3, none⟩))).p (f 2) wz := h 2 (by kernel_rfl)
             have e2 : f 2 = (.pointer (some ⟨z.ga, 3, none⟩)) := h2
             simp only [e2] at hK ⊢
             clear e2
             clear h
             try rw [if_pos (by rfl)]
             have y0 := keep_of_below hB K0.out
             have y1 := keep_of_below hB K1.out
             go_simp
             exact hK _ _ (gr_refl _) rfl
            refine Steps.cons rfl ?_ ?_
            ·intro f wz hB h K Q hK
             clear h
             try rw [if_pos (by rfl)]
             go_simp
             exact hK _ _ (gr_refl _) rfl
            refine Steps.cons rfl ?_ ?_
            ·intro f wz hB h K Q hK
             have h4 : (MP.is (.pointer (some ⟨wr.heap.size, 0, none⟩))).p (f 4) wz := h 4 (by kernel_rfl)
             have e4 : f 4 = (.pointer (some ⟨wr.heap.size, 0, none⟩)) := h4
             simp only [e4] at hK ⊢
             clear e4
             clear h
             try rw [if_pos (by rfl)]
             have y0 := keep_of_below hB K0.out
             have y1 := keep_of_below hB K1.out
             go_simp
             exact hK _ _ (gr_refl _) rfl
            refine Steps.cons rfl ?_ ?_
            ·intro f wz hB h K Q hK
             clear h
             try rw [if_pos (by rfl)]
             go_simp
             exact hK _ _ (gr_refl _) rfl
            exact Steps.nil
           intro f w2 hB2 hR
           conv => arg 7; simp only [putL, dstOf, List.size_toArray, List.length_cons, List.length_nil, Nat.zero_add, Nat.reduceAdd, List.getElem?_toArray, List.getElem?_cons_zero, List.getElem?_cons_succ, Option.bind_some, Act.put, List.setIfInBounds_toArray, List.set_cons_zero, List.set_cons_succ, Array.getD_eq_getD_getElem?, Option.getD_some, if_true, if_false, Bool.false_eq_true]
           have e0 : f 0 = (.pointer (some ⟨z.ga, 0, none⟩)) := hR 0 (by decide) rfl
           have e1 : f 1 = (.pointer (some ⟨z.ga, 0, none⟩)) := hR 1 (by decide) rfl
           have e2 : f 2 = (.pointer (some ⟨z.ga, 3, none⟩)) := hR 2 (by decide) rfl
           have e3 : f 3 = (.map (some im3)) := hR 3 (by decide) rfl
           have e4 : f 4 = (.pointer (some ⟨wr.heap.size, 0, none⟩)) := hR 4 (by decide) rfl
           have e5 : f 5 = (.int .i64 (p : Int)) := hR 5 (by decide) rfl
           have e6 : f 6 = (.agg #[]) := hR 6 (by decide) rfl
           simp only [e0, e1, e2, e3, e4, e5, e6]
           clear e0 e1 e2 e3 e4 e5 e6 hR
           have HB2 : Hid (Below wr.heap.size wr w2) := Lib.hid (gr_trans HBX.out (Below.trans (gr_drewN (gr_refl (wr.alloc (.cells #[.int .i64 (p : Int), .slice B' il c', .slice Dd pl dd] 117))) 1) hB2))
           have HAB2 := Lib.hid (HAB.out.below (Below.trans (gr_drewN (gr_refl (wr.alloc (.cells #[.int .i64 (p : Int), .slice B' il c', .slice Dd pl dd] 117))) 1) hB2))
           clear hB2
           obtain ⟨im5, hab5, hmv5, hmk5⟩ := (HI.out.az.below HB2.out).mark
           have he5 := HAB2.out.same hab5
           subst he5
           obtain ⟨w5, hput, hmv6, hg6⟩ := hmv5.put Tryz.underlying86 (k := (p : Int)) (by omega) (by have := HP3.out; omega) (.agg #[]) (by have := HI.out.le; have := HBD.out; dsimp only; simp only [maxLen]; omega)
           have HM5 := Lib.hid (hmk5 w5 p hmv6 hg6)
           clear hab5 hmv5 hmk5 hmv6 hg6
           refine wpAny_of_held (S := fun _ => True) _ _ _ _ ?_
           refine wpAnyH_ready (rs := [7]) (by kernel_rfl) (by simp) ?_
           refine AllReadyH.cons rfl (fun KK hK => ?_) AllReadyH.nil
           rw [if_pos (by rfl)]
           go_simp
           refine hK.out _ _ trivial (fun _ => ?_)
           clear hK KK
           try simp only [List.setIfInBounds_toArray, List.set_cons_zero, List.set_cons_succ]
           refine wpAnyH_done (by kernel_rfl) ?_ _
           clear hput
           have HI2 : Hid (MInv w0 w w5 z gx A X T U (some ⟨g, o, none⟩) cs D3 P3 T3 (k2 + 1) (insS p () im2)) := Lib.hid (by
            have hm6 : Mv T3 T3 w2 w5 := ⟨HM5.out.2, fun k e => .inl e⟩
            have hm7 := (Mv.of_below (S := T3) HB2.out).trans hm6
            have hsrt : (insS p () im2).length ≤ A.im.length + (k2 + 1) := by
             have := HI.out.le
             obtain ⟨F, tv, mb, q, im, h1, h2, h3, h4, h5, h6, h7, h8, h9⟩ := HI.out.az.ex
             rw [len_insS p () h8]
             dsimp only
             split <;> omega
            exact ⟨HM5.out.1, HI.out.xz.step hm7, HI.out.mv.trans hm7, HI.out.cr.step hm7, HMA.out, hsrt⟩)
           go_wp2_with fail
           go_roundw
           all_goals have hlt2 := of_decide_eq_true t7
           case rel => exact ⟨k2 + 1, _, by omega, by go_num, HI2⟩
           case measure => simp [Go.RowKit.intOf]; omega
          ·have t8 : decide ((0 : Int) < (il : Int)) = false := decide_eq_false (by omega)
           have t9 : decide (0 < il) = false := decide_eq_false hil
           rw [if_neg hil] at hma
           have HI2 : Hid (MInv w0 w (wr.alloc (.cells #[.int .i64 (p : Int), .slice B' il c', .slice Dd pl dd] 117)) z gx A X T U (some ⟨g, o, none⟩) cs D3 P3 T3 (k2 + 1) im2) := Lib.hid ⟨HI.out.az.below hbx, HI.out.xz.below hbx, HI.out.mv.trans (Mv.of_below hbx), HI.out.cr.below hbx, hma, by have := HI.out.le; omega⟩
           clear hma hab3 hbx hcb hp1 hp3 hil
           go_wp2_with fail
           go_roundw
           all_goals have hlt2 := of_decide_eq_true t7
           case rel => exact ⟨k2 + 1, _, by omega, by go_num, HI2⟩
           case measure => simp [Go.RowKit.intOf]; omega
         ·have t6 : decide ((k2 : Int) < (m : Int)) = false := decide_eq_false (by omega)
          have t7 : decide (k2 < m) = false := decide_eq_false hlt2
          have hme : markF cs A.im = im2 := by
           rw [HI.out.ma, List.drop_of_length_le (by rw [← HM.out]; omega)]
           rfl
          have HE := Lib.hid (end_az HI.out.az HI.out.xz HOV.out)
          have HF : Hid (∀ w', AZ w0 w' z D3 P3 { A with im := im2 } T3 → XZ w' w0.heap.size z.ga gx { X with ov := true } T3 U → Off U wr w' → ADone w0 w z gx T U RR (.returned (.tuple #[.int .i64 (nn : Int), .int .i64 0])) w') := Lib.hid (fun w' k1 k2 k3 => by
           rw [HR3.out, hme]
           exact ⟨rfl, T3, k1, k2, (HI.out.mv.1.mono fun _ _ e => .inl e).chain k3 (fun k e => .inl (.inr e)), HI.out.mv.2⟩)
          clear hme
          go_wp2_with fail
          refine HE.out.mono ?_
          rintro e w5 ⟨rfl, ha5, hx5, ho5⟩
          have HF5 := Lib.hid (HF.out w5 ha5 hx5 ho5)
          clear ha5 hx5 ho5
          go_wp2_with fail
          go_ret2
          exact HF5.out
     ·have t4 : (ae != 0) = true := by rw [bne_iff_ne]; exact h0
      have HF : Hid (ADone w0 w z gx T U RR (.returned (.tuple #[.int .i64 0, .int .i64 ae])) w2) := Lib.hid (by
       rw [HRD.out, if_neg (by exact fun h => h rfl)]
       unfold done2
       rw [if_neg (by rw [← HM.out]; exact hl0), if_pos (by rw [← HAE.out]; exact h0), HAE.out]
       exact ADone.of rfl HA2.out HX2.out HM0.out)
      clear h0
      go_wp2_with fail
      go_ret2
      exact HF.out
   ·have t3 : (e1 != 0) = true := by rw [bne_iff_ne]; exact he1
    have HF : Hid (ADone w0 w z gx T U RR (.returned (.tuple #[.int .i64 0, .int .i64 e1])) w1) := Lib.hid (by
     rw [HRD.out, if_pos he1]
     exact ADone.of rfl HA1.out HX1.out HM1.out)
    clear he1
    go_wp2_with fail
    go_ret2
    exact HF.out
 ·have hx1 : (stE A X != 0) = true := by rw [bne_iff_ne]; exact hst
  have HF : Hid (ADone w0 w z gx T U RR (.returned (.tuple #[.int .i64 0, .int .i64 (stE A X)])) w) := Lib.hid (by
   rw [HRR.out]
   unfold doneR
   rw [if_pos hst]
   exact ADone.of rfl HA.out HX.out (Mv.of_below (gr_refl w)))
  clear ha hx hab hxb hst hRR hpd hct hla him h16 hp
  generalize stE A X = r at *
  go_enter Tryz.func15, Tryz.ntmps15
  go_wp2_with fail
  refine HST.out.mono ?_
  rintro e w1 ⟨rfl, rfl⟩
  go_wp2_with fail
  go_ret2
  exact HF.out
end Go.Proofs.YtnkeclpgpiogoaaGreat

/-! AtQ -/
namespace Go.Proofs.YtnkeclpgpiogoaaGreat
open Go Go.RowKit Go.Maps
def made11E (n gj gb : Nat) : EnS := ⟨newD (400 + n), newJ 0 400 1 0 1, gj, gb, false⟩
def n11 (pages : Int) : Nat := 1 + (pages % 40).toNat
set_option maxRecDepth 100000 in
theorem n11_le (pages : Int) : 1 ≤ n11 pages ∧ n11 pages ≤ 40 := by
 unfold n11
 have := Int.emod_lt_of_pos pages (show (0 : Int) < 40 by omega)
 have := Int.emod_nonneg pages (show (40 : Int) ≠ 0 by omega)
 omega
set_option maxRecDepth 100000 in
set_option maxHeartbeats 1000000 in
theorem made11_any (pages : Int) (w0 w : World) (hb0 : Below w0.heap.size w0 w) :
  Calls Tryz.prog 12 #[.int .i64 pages] w fun e w' => ∃ z gj gb T, e = .returned (.tuple #[.pointer (some ⟨z.ga, 0, none⟩), .bool true]) ∧ AZ w0 w' z (made11E (n11 pages) gj gb) (newP 400 (n11 pages) 4 1 0) newA T ∧ Below w.heap.size w w' := by
 obtain ⟨n, hn⟩ : ∃ n, n = n11 pages := ⟨_, rfl⟩
 have hnn := n11_le pages
 rw [← hn] at hnn ⊢
 have HB0 := Lib.hid hb0
 have HPK := Lib.hid (Pick_any pages 40 w (by omega) (by omega))
 have hp1 : (1 : Int) + pages % 40 = (n : Int) := by
  rw [hn]
  unfold n11
  have := Int.emod_nonneg pages (show (40 : Int) ≠ 0 by omega)
  omega
 have hp2 : (0 : Int) ≤ pages % 40 ∧ pages % 40 < 40 := ⟨Int.emod_nonneg pages (by omega), Int.emod_lt_of_pos pages (by omega)⟩
 generalize pages % 40 = pk at *
 obtain ⟨hp2a, hp2b⟩ := hp2
 obtain ⟨hn1, hn2⟩ := hnn
 have wr1 : IntKind.i64.wrap (1 + pk) = (n : Int) := by rw [IntKind.wrap_i64]; omega
 have wr2 : IntKind.i64.wrap (400 + (n : Int)) = ((400 + n : Nat) : Int) := by rw [IntKind.wrap_i64]; omega
 have hd := DNew_ds (400 + n) w0 w (by omega) (by omega) hb0
 rw [show ((400 + n : Nat) : Int) = 400 + (n : Int) by omega] at hd
 have HD := Lib.hid hd
 clear hd
 have hmf : ∀ (fn : Fn) (first cap : Array Value) (w : World), (Instr.makeFunc fn first cap).run Tryz.prog w = .ok (.func fn first cap) w := fun _ _ _ _ => rfl
 have hln : (newD (400 + n)).blocks.length = 400 + n := List.length_replicate ..
 have HLN := Lib.hid hln
 clear hln
 clear hn hb0
 go_enter Tryz.func12, Tryz.ntmps12
 go_wp2_with fail
 refine HPK.out.mono ?_
 rintro e w1 ⟨rfl, rfl⟩
 go_wp2_with fail
 refine HD.out.mono ?_
 rintro e w2 ⟨gd, S, rfl, hds, hb2, hS⟩
 have HJ : Hid (Calls Tryz.prog 59 #[.pointer (some ⟨gd, 0, none⟩), .int .i64 0, .int .i64 400, .int .i64 1, .int .i64 0, .int .i64 1] w2 fun e w' => ∃ gj S', e = .returned (.tuple #[.pointer (some ⟨gj, 0, none⟩), .int .i64 0]) ∧ JS w0 w' gd gj (newD (400 + n)) (newJ 0 400 1 0 1) S' ∧ Below w2.heap.size w2 w' ∧ Mv S S' w2 w') :=
  Lib.hid (JNew_js 0 400 1 0 1 hds (by rw [HLN.out]; exact mayB_new (by omega) (by omega)))
 have HB2 := Lib.hid hb2
 clear hds hb2 hS
 go_wp2_with fail
 refine HJ.out.mono ?_
 rintro e w3 ⟨gj, S', rfl, hjs, hb3, hm3⟩
 have hb4 := gr_alloc (gr_refl w3) (.cells #[.pointer (some ⟨gj, 0, none⟩)] 50)
 have hbox := heap_alloc_new w3 (.cells #[.pointer (some ⟨gj, 0, none⟩)] 50)
 have hie : IsE (w3.alloc (.cells #[.pointer (some ⟨gj, 0, none⟩)] 50)) w0.heap.size gd S' (made11E n gj w3.heap.size) := IsE.of (hjs.below hb4) hbox hjs.bel.size
 have HP : Hid (Calls Tryz.prog 60 #[.pointer (some ⟨gd, 0, none⟩), .int .i64 400, .int .i64 (n : Int), .int .i64 4, .int .i64 1, .int .i64 0, .func (.func 61) #[] #[.pointer (some ⟨w3.heap.size, 0, none⟩)]] (w3.alloc (.cells #[.pointer (some ⟨gj, 0, none⟩)] 50)) fun e w' => e = .returned (.tuple #[.pointer (some ⟨(w3.alloc (.cells #[.pointer (some ⟨gj, 0, none⟩)] 50)).heap.size + 1, 0, none⟩), .int .i64 0]) ∧ PX w' w0.heap.size ((w3.alloc (.cells #[.pointer (some ⟨gj, 0, none⟩)] 50)).heap.size + 1) gd (.func (.func 61) #[] #[.pointer (some ⟨w3.heap.size, 0, none⟩)]) (made11E n gj w3.heap.size) (newP 400 n 4 1 0) S' (.slice none 0 0) (w3.alloc (.cells #[.pointer (some ⟨gj, 0, none⟩)] 50)).heap.size [] ∧ Below (w3.alloc (.cells #[.pointer (some ⟨gj, 0, none⟩)] 50)).heap.size (w3.alloc (.cells #[.pointer (some ⟨gj, 0, none⟩)] 50)) w') :=
  Lib.hid (PNew_any _ w0.heap.size gd S' (made11E n gj w3.heap.size) 400 n 4 1 0 _ hie (.inr ⟨_, _, rfl⟩) (by
   show mayP ((newD (400 + n)).blocks.length) _ _ _ _ _ = true
   rw [HLN.out]
   exact mayP_new hn1 (by omega) (by omega)))
 have HBOX := Lib.hid hbox
 have HB3 := Lib.hid (gr_trans (gr_trans HB2.out hb3) hb4)
 clear hjs hb3 hm3 hb4 hbox hie
 generalize (w3.alloc (.cells #[.pointer (some ⟨gj, 0, none⟩)] 50)).heap.size + 1 = gp at *
 go_wp2_with fail
 refine HP.out.mono ?_
 rintro e w5 ⟨rfl, hpx, hb5⟩
 have hcell : w5.cell? ⟨w3.heap.size, 0, none⟩ = some (.pointer (some ⟨gj, 0, none⟩)) := keep_of_below hb5 (box_cell HBOX.out)
 have HA : Hid (Calls Tryz.prog 52 #[.pointer (some ⟨gp, 0, none⟩), .pointer (some ⟨gj, 0, none⟩)] w5 fun e w' => ∃ ga T, e = .returned (.tuple #[.pointer (some ⟨ga, 0, none⟩), .int .i64 0]) ∧ AZ w0 w' ⟨gd, gp, .func (.func 61) #[] #[.pointer (some ⟨w3.heap.size, 0, none⟩)], ga⟩ (made11E n gj w3.heap.size) (newP 400 n 4 1 0) newA T ∧ Below w5.heap.size w5 w') :=
  Lib.hid (ANew_az (gr_trans (gr_trans HB0.out HB3.out) hb5) hpx (wal11 (D0 := made11E n gj w3.heap.size) rfl) hn1 (by show (1 : Nat) ≠ 0; omega))
 have HB5 := Lib.hid (gr_trans HB3.out hb5)
 clear hpx hb5
 go_wp2_with fail
 refine HA.out.mono ?_
 rintro e w6 ⟨ga, T, rfl, haz, hb6⟩
 have HF : Hid (∃ z gj gb T, Ending.returned (.tuple #[.pointer (some ⟨ga, 0, none⟩), .bool true]) = .returned (.tuple #[.pointer (some ⟨Wh.ga z, 0, none⟩), .bool true]) ∧ AZ w0 w6 z (made11E n gj gb) (newP 400 n 4 1 0) newA T ∧ Below w.heap.size w w6) := Lib.hid ⟨_, gj, w3.heap.size, T, rfl, haz, gr_trans HB5.out hb6⟩
 clear haz hb6 hcell
 go_wp2_with fail
 go_ret2
 exact HF.out
end Go.Proofs.YtnkeclpgpiogoaaGreat

/-! AtN -/
namespace Go.Proofs.YtnkeclpgpiogoaaGreat
open Go Go.RowKit Go.Maps
set_option maxRecDepth 100000 in
theorem info_intN : (Tryz.prog.info? 3).map (fun i => (i.zero, i.size, i.bytes)) = some (some (.int .i64 0), 1, 8) := by kernel_rfl
def SLeft (w0 w : World) (z : Wh) (gx : Nat) (A : AtS) (T U : Nat → Prop) (r : SRes) (w' : World) : Prop :=
 ∃ T', AZ w0 w' z r.D r.P A T' ∧ XZ w' w0.heap.size z.ga gx r.X T' U ∧ Off (TU T U) w w' ∧ ∀ k, T' k → T k ∨ w.heap.size ≤ k
section
variable {w0 w w1 w' : World} {z : Wh} {D D1 : EnS} {P P1 : PoS} {A : AtS} {X X1 : AxS} {T T1 T' U : Nat → Prop} {gx : Nat}
set_option maxRecDepth 100000 in
theorem asetX_16 (hs : SortS X.st) (h : X.st.length ≤ 16) (p : Int) (l : List UInt8) : (asetX P A X p l).st.length ≤ 16 := by
 unfold asetX
 split
 ·exact h
 ·rename_i he
  have he := Decidable.not_not.1 he
  dsimp only
  rw [len_insS _ _ hs]
  unfold asetE at he
  split at he
  ·rename_i h1
   exact absurd he h1
  ·split at he
   ·cases he
   ·split at he
    ·cases he
    ·rename_i h3
     split
     ·exact h
     ·rename_i h4
      have : findS X.st p.toNat = none := by
       cases hf : findS X.st p.toNat with
       | none => rfl
       | some y => rw [hf] at h4; exact absurd rfl h4
      have h5 : ¬ 16 ≤ X.st.length := fun e => h3 ⟨this, e⟩
      omega
set_option maxRecDepth 100000 in
theorem XZ.srt (hx : XZ w w0.heap.size z.ga gx X T U) : SortS X.st := by
 obtain ⟨mx, q, x1, x2, x3, x4, x5, x6, x7, x8, x9, x10, x11⟩ := hx.ex
 exact x10
set_option maxRecDepth 100000 in
theorem XZ.more {b0 ga g : Nat} (h : XZ w b0 ga gx X T U) (hg : w.heap.size ≤ g) (hb : Below w.heap.size w w') : XZ w' b0 ga gx X (fun k => T k ∨ k = g) U := by
 obtain ⟨mx, q, x1, x2, x3, x4, x5, x6, x7, x8, x9, x10, x11⟩ := h.ex
 have hn : ∀ {k}, k < w.heap.size → ¬ T k → ¬ (T k ∨ k = g) := fun h1 h2 e => e.elim h2 (fun e => by omega)
 exact ⟨mx, q, x1.below hb, x2.below hb, x3, fun e he => ⟨(x4 e he).1.below hb, (x4 e he).2⟩, fun e he k hk => hn ((x4 e he).1.lt k hk).2 (x5 e he k hk), x6, x7, hn x1.lt x8, hn x2.lt x9, x10, x11⟩
set_option maxRecDepth 100000 in
theorem XZ.sub {b0 ga : Nat} (h : XZ w b0 ga gx X T U) (hT : ∀ k, T' k → T k) : XZ w b0 ga gx X T' U := by
 obtain ⟨mx, q, x1, x2, x3, x4, x5, x6, x7, x8, x9, x10, x11⟩ := h.ex
 exact ⟨mx, q, x1, x2, x3, x4, fun e he k hk e2 => x5 e he k hk (hT k e2), x6, x7, fun e => x8 (hT _ e), fun e => x9 (hT _ e), x10, x11⟩
structure PM (w0 w w1 : World) (z : Wh) (gx : Nat) (D : EnS) (P : PoS) (A : AtS) (X : AxS) (T T1 U : Nat → Prop) (g c : Nat) (m : List UInt8) : Prop where
 ex : ∃ wn, AZ w0 wn z D P A T1 ∧ XZ wn w0.heap.size z.ga gx X T1 U ∧ Mv T T1 w wn ∧ Below wn.heap.size wn w1 ∧ wn.heap.size ≤ g
 ob : OB w1 w.heap.size (.slice (some ⟨g, 0, none⟩) 4080 c) m
 len : m.length = 4080
section
variable {w2 w3 : World} {g c : Nat} {m : List UInt8}
set_option maxRecDepth 100000 in
theorem AGet.pm {r : ARes} {v : Value} (hob : OB w1 w.heap.size v m) (hl : m.length = 4080) {wn : World} (h1 : AZ w0 wn z r.1 r.2.1 A T1) (h2 : XZ wn w0.heap.size z.ga gx X T1 U) (h3 : Mv T T1 w wn) (h4 : Below wn.heap.size wn w1) (h5 : ∀ k, v.ownBlock = some k → wn.heap.size ≤ k) : ∃ g c, v = .slice (some ⟨g, 0, none⟩) 4080 c ∧ PM w0 w w1 z gx r.1 r.2.1 A X T T1 U g c m := by
 rcases hob.2 with ⟨e0, e1⟩ | ⟨g, cap, cur, rfl, hb, hg, r⟩
 ·omega
 ·have hob2 := hob
  rw [hl] at hob2
  refine ⟨g, cap, by rw [hl], ⟨wn, h1, h2, h3, h4, h5 g rfl⟩, ?_, hl⟩
  rw [hl] at hob
  exact hob
set_option maxRecDepth 100000 in
theorem PM.below (h : PM w0 w w1 z gx D P A X T T1 U g c m) (hb : Below w1.heap.size w1 w2) : PM w0 w w2 z gx D P A X T T1 U g c m := by
 obtain ⟨wn, h1, h2, h3, h4, h5⟩ := h.ex
 exact ⟨⟨wn, h1, h2, h3, gr_trans h4 hb, h5⟩, h.ob.below hb, h.len⟩
set_option maxRecDepth 100000 in
theorem PM.az (h : PM w0 w w1 z gx D P A X T T1 U g c m) (ho : Off (fun k => U k ∨ k = g) w1 w2) : AZ w0 w2 z D P A T1 := by
 obtain ⟨wn, h1, h2, h3, h4, h5⟩ := h.ex
 have ho2 : Off U wn w2 := (Off.of_below h4).chain ho (fun j e => e.imp id (fun e => by omega))
 exact h1.nb ho2 (fun k e => ⟨(h2.lt e).2.2.2, (h2.lt e).2.2.1, (h2.lt e).1⟩)
set_option maxRecDepth 100000 in
theorem PM.tu (h : PM w0 w w1 z gx D P A X T T1 U g c m) (ho : Off (fun k => U k ∨ k = g) w1 w2) : Off (TU T U) w w2 := by
 obtain ⟨wn, h1, h2, h3, h4, h5⟩ := h.ex
 have := h3.1.size
 exact ((h3.1.mono fun _ _ e => .inl e).trans (Off.of_below h4)).chain ho (fun j e => e.elim (fun e => .inl (.inr e)) (fun e => .inr (by omega)))
set_option maxRecDepth 100000 in
theorem PM.xz (h : PM w0 w w1 z gx D P A X T T1 U g c m) : XZ w1 w0.heap.size z.ga gx X (fun k => T1 k ∨ k = g) U := by
 obtain ⟨wn, h1, h2, h3, h4, h5⟩ := h.ex
 exact h2.more h5 h4
set_option maxRecDepth 100000 in
theorem PM.glt (h : PM w0 w w1 z gx D P A X T T1 U g c m) : g < w1.heap.size := by
 exact (h.ob.lt g rfl).2
set_option maxRecDepth 100000 in
theorem PM.nu (h : PM w0 w w1 z gx D P A X T T1 U g c m) {k : Nat} (hk : U k) : k ≠ g := fun e => by
 obtain ⟨wn, h1, h2, h3, h4, h5⟩ := h.ex
 have := (h2.lt hk).2.1
 omega
set_option maxRecDepth 100000 in
theorem PM.t2 (h : PM w0 w w1 z gx D P A X T T1 U g c m) {k : Nat} (hk : T1 k ∨ k = g) : k < w1.heap.size := by
 obtain ⟨wn, h1, h2, h3, h4, h5⟩ := h.ex
 rcases hk with e | e
 ·exact Nat.lt_of_lt_of_le (h1.lt e).2 h4.size
 ·rw [e]
  exact h.glt
set_option maxRecDepth 100000 in
theorem PM.tn (h : PM w0 w w1 z gx D P A X T T1 U g c m) : ∀ k, T1 k → T k ∨ w.heap.size ≤ k := by
 obtain ⟨wn, h1, h2, h3, h4, h5⟩ := h.ex
 exact h3.2
set_option maxRecDepth 100000 in
set_option maxRecDepth 100000 in
theorem XZ.gturn (hx : XZ w1 w0.heap.size z.ga gx X (fun k => T1 k ∨ k = g) U) (ho : Off (fun k => k = g) w1 w2) (hU : ∀ k, U k → k ≠ g) : XZ w2 w0.heap.size z.ga gx X (fun k => T1 k ∨ k = g) U :=
 hx.off ho (fun _k e => .inl (.inr e)) (fun k hk e => hU k hk e) (fun _k e => .inl e)
end
def SGive (w0 w : World) (z : Wh) (gx : Nat) (A : AtS) (T U : Nat → Prop) (r : SRes) (e : Ending) (w' : World) : Prop := e = .returned (.int .i64 r.e) ∧ SLeft w0 w z gx A T U r w'
def STake (w0 w : World) (z : Wh) (gx : Nat) (A : AtS) (T U : Nat → Prop) (r : SRes) (e : Ending) (w' : World) : Prop := e = .returned (.tuple #[.int .i64 r.n, .int .i64 r.e]) ∧ SLeft w0 w z gx A T U r w'
set_option maxRecDepth 100000 in
theorem SLeft.pm {g c : Nat} {m : List UInt8} {w2 : World} {n e : Int} (h : PM w0 w w1 z gx D1 P1 A X T T1 U g c m) (ho : Off (fun k => U k ∨ k = g) w1 w2) (hx : XZ w2 w0.heap.size z.ga gx X1 (fun k => T1 k ∨ k = g) U) : SLeft w0 w z gx A T U ⟨D1, P1, X1, n, e⟩ w2 :=
 ⟨T1, h.az ho, hx.sub (fun _k e => .inl e), h.tu ho, h.tn⟩
set_option maxRecDepth 100000 in
theorem SLeft.get {wn : World} {n e : Int} (h1 : AZ w0 wn z D1 P1 A T1) (h2 : XZ wn w0.heap.size z.ga gx X T1 U) (h3 : Mv T T1 w wn) (h4 : Below wn.heap.size wn w1) : SLeft w0 w z gx A T U ⟨D1, P1, X, n, e⟩ w1 :=
 ⟨T1, h1.below h4, h2.below h4, (h3.1.mono fun _ _ e => .inl e).trans (Off.of_below h4), h3.2⟩
set_option maxRecDepth 100000 in
theorem pmE_get {D : EnS} {P : PoS} {A : AtS} {X : AxS} (h : pmE D P A X = 0) : (agetR D P A X 0).2.2 = 0 := by
 unfold pmE at h
 split at h
 ·rename_i h1
  exact absurd h h1
 ·rename_i h1
  exact Decidable.not_not.1 h1
set_option maxRecDepth 100000 in
set_option maxHeartbeats 1000000 in
theorem Give_at (ha : AZ w0 w z D P A T) (hx : XZ w w0.heap.size z.ga gx X T U) (page : Int) (h16 : X.st.length ≤ 16) (hpd : D.d.pending.length ≤ 900000) (hct : P.count ≤ 1152921504606846976) :
  Calls Tryz.prog 21 #[.pointer (some ⟨gx, 0, none⟩), .int .i64 page] w (SGive w0 w z gx A T U (giveR D P A X page)) := by
 have HG := Lib.hid (pageMap_at ha hx hpd hct)
 have hpp : P.pages ≤ 4096 := by have := ha.pi.fit; have := ha.pi.d2; omega
 have HLN : Hid (pmE D P A X = 0 → (agetL D P A X 0).length = 4080) := Lib.hid (fun h => ha.aget_len hx (pmE_get h))
 have hpg := agetR_pages D P A X 0
 have HSO := Lib.hid hx.srt
 have H16 := Lib.hid h16
 obtain ⟨RR, hRR⟩ : ∃ RR, RR = giveR D P A X page := ⟨_, rfl⟩
 have HRR : Hid (RR = if pmE D P A X ≠ 0 then ⟨(agetR D P A X 0).1, (agetR D P A X 0).2.1, X, 0, pmE D P A X⟩ else if page < 1 ∨ (P.pages : Int) ≤ page ∨ hasB (agetL D P A X 0) page.toNat = false then ⟨(agetR D P A X 0).1, (agetR D P A X 0).2.1, X, 0, 2⟩ else ⟨(agetR D P A X 0).1, (agetR D P A X 0).2.1, asetX (agetR D P A X 0).2.1 A X 0 (turnL (agetL D P A X 0) page.toNat), 0, asetE (agetR D P A X 0).2.1 A X 0 4080⟩) := Lib.hid hRR
 have HML : Hid (pmL D P A X = if pmE D P A X = 0 then agetL D P A X 0 else []) := Lib.hid rfl
 rw [← hRR]
 clear hRR ha hx hpd hct h16
 generalize pmL D P A X = ml at *
 generalize pmE D P A X = pe at *
 generalize agetL D P A X 0 = m at *
 generalize agetR D P A X 0 = R at *
 obtain ⟨D1, P1, e1⟩ := R
 dsimp only at *
 have HPG := Lib.hid hpg
 clear hpg
 by_cases hpe : pe = 0
 ·subst hpe
  have hm : ml = m := by rw [HML.out, if_pos rfl]
  subst hm
  have hlen := HLN.out rfl
  have HR2 : Hid (RR = if page < 1 ∨ (P.pages : Int) ≤ page ∨ hasB ml page.toNat = false then ⟨D1, P1, X, 0, 2⟩ else ⟨D1, P1, asetX P1 A X 0 (turnL ml page.toNat), 0, asetE P1 A X 0 4080⟩) := Lib.hid (by rw [HRR.out, if_neg (by exact fun h => h rfl)])
  clear HRR HML
  go_enter Tryz.func21, Tryz.ntmps21
  go_wp2_with fail
  refine HG.out.mono ?_
  rintro e w1 ⟨v, rfl, hv, T1, wn, han, hxn, hmn, hbn, hvn⟩
  dsimp only at han ⊢
  obtain ⟨g, c, rfl, hpm⟩ := AGet.pm (r := (D1, P1, 0)) hv hlen han hxn hmn hbn hvn
  have HM := Lib.hid hpm
  have HBAD : Hid (∀ n, page < 1 ∨ (P.pages : Int) ≤ page ∨ hasB ml page.toNat = false → SGive w0 w z gx A T U RR (.returned (.int .i64 2)) (w1.drewN n)) := Lib.hid (fun n h => by
   rw [HR2.out, if_pos h]
   exact ⟨rfl, SLeft.get han hxn hmn (gr_trans hbn (gr_drewN (gr_refl w1) n))⟩)
  have HPA : Hid (Calls Tryz.prog 47 #[.pointer (some ⟨gx, 0, none⟩)] w1 fun e w' => e = .returned (.int .i64 (P.pages : Int)) ∧ w1 = w') := Lib.hid (by
   rw [← HPG.out]
   exact Pages_az (han.below hbn) (hxn.below hbn))
  clear hv han hxn hmn hbn hvn hpm
  by_cases h1 : page < 1
  ·have t1 : decide (page < 1) = true := decide_eq_true h1
   have HF := Lib.hid (HBAD.out 0 (.inl h1))
   clear h1
   go_wp2_with fail
   go_ret
   exact HF.out
  ·have t1 : decide (page < 1) = false := decide_eq_false h1
   by_cases h2 : (P.pages : Int) ≤ page
   ·have t2 : decide ((P.pages : Int) ≤ page) = true := decide_eq_true h2
    have HF := Lib.hid (HBAD.out 0 (.inr (.inl h2)))
    clear h1 h2
    go_wp2_with fail
    refine HPA.out.mono ?_
    rintro e w2 ⟨rfl, rfl⟩
    go_wp2_with fail
    go_ret
    exact HF.out
   ·have t2 : decide ((P.pages : Int) ≤ page) = false := decide_eq_false h2
    obtain ⟨pg, rfl⟩ := Int.eq_ofNat_of_zero_le (show 0 ≤ page by omega)
    have t3 : decide (P.pages ≤ pg) = false := decide_eq_false (by omega)
    have HH := Lib.hid (has_any (some ⟨g, 0, none⟩) c ml pg w1 (ob_br HM.out.ob HM.out.len) (by omega))
    have hpl : pg < 32640 := by omega
    have hp1 : ¬ ((pg : Int) < 1 ∨ (P.pages : Int) ≤ (pg : Int)) := by omega
    obtain ⟨hk, hhk⟩ : ∃ hk, hk = hasB ml pg := ⟨_, rfl⟩
    have HK := Lib.hid hhk
    rw [← hhk] at HH
    have HP1 := Lib.hid hp1
    clear hhk h1 h2 hp1
    go_wp2_with fail
    refine HPA.out.mono ?_
    rintro e w2 ⟨rfl, rfl⟩
    go_wp2_with fail
    refine HH.out.mono ?_
    rintro e w2 ⟨rfl, n2, rfl⟩
    cases hk with
    | false =>
     have HF := Lib.hid (HBAD.out n2 (.inr (.inr (by rw [Int.toNat_natCast]; exact HK.out.symm))))
     go_wp2_with fail
     go_ret
     exact HF.out
    | true =>
     have hm2 := HM.out.below (gr_drewN (gr_refl w1) n2)
     have HM2 := Lib.hid hm2
     have HT := Lib.hid (turn_any g w.heap.size c ml pg (w1.drewN n2) hm2.ob hm2.len hpl)
     clear hm2
     go_wp2_with fail
     refine HT.out.mono ?_
     rintro e w3 ⟨rfl, ho3, hf3⟩
     have hx3 := HM2.out.xz.gturn hf3 (fun k hk => HM2.out.nu hk)
     have ha3 := HM2.out.az (hf3.mono fun _ _ e => .inr e)
     have HS := Lib.hid (Set_atG ha3 (fun k e => .inl e) (fun k e => Nat.lt_of_lt_of_le (HM2.out.t2 e) hf3.size) hx3 0 (some ⟨g, 0, none⟩) 4080 c (turnL ml pg) (ob_br ho3 (by rw [turnL_len]; exact HM2.out.len)) (by omega) (by omega) H16.out)
     have HF3 := Lib.hid hf3
     clear ho3 hf3 hx3 ha3
     go_wp2_with fail
     refine HS.out.mono ?_
     rintro e w4 ⟨rfl, ha4, hx4, ho4⟩
     have HF : Hid (SGive w0 w z gx A T U RR (.returned (.int .i64 (asetE P1 A X 0 (turnL ml pg).length))) w4) := Lib.hid (by
      rw [HR2.out, if_neg (by rw [Int.toNat_natCast, ← HK.out]; have := HP1.out; rintro (e | e | e); exact this (.inl e); exact this (.inr e); cases e)]
      rw [Int.toNat_natCast, turnL_len, HM2.out.len]
      exact ⟨rfl, SLeft.pm HM2.out ((HF3.out.mono fun _ _ e => .inr e).trans (ho4.mono fun _ _ e => .inl e)) hx4⟩)
     clear ha4 hx4 ho4
     go_wp2_with fail
     go_ret
     exact HF.out
 ·have t1 : (pe != 0) = true := by rw [bne_iff_ne]; exact hpe
  go_enter Tryz.func21, Tryz.ntmps21
  go_wp2_with fail
  refine HG.out.mono ?_
  rintro e w1 ⟨v, rfl, hv, T1, wn, han, hxn, hmn, hbn, hvn⟩
  dsimp only at han ⊢
  have HF : Hid (SGive w0 w z gx A T U RR (.returned (.int .i64 pe)) w1) := Lib.hid (by
   rw [HRR.out, if_pos hpe]
   exact ⟨rfl, SLeft.get han hxn hmn hbn⟩)
  obtain ⟨Bv, cv, rfl, _⟩ := hv.form
  clear hpe hv han hxn hmn hbn hvn
  go_wp2_with fail
  go_ret
  exact HF.out
end
end Go.Proofs.YtnkeclpgpiogoaaGreat

/-! AtO -/
namespace Go.Proofs.YtnkeclpgpiogoaaGreat
open Go Go.RowKit Go.Maps
set_option maxRecDepth 100000 in
theorem allL_succ (m : List UInt8) (k : Nat) : allL m (k + 1) = if hasB m k then allL m k ++ [k] else allL m k := by
 unfold allL
 rw [List.range_succ, List.filter_append]
 by_cases h : hasB m k = true
 ·rw [if_pos h, List.filter_cons_of_pos h]
  rfl
 ·rw [if_neg h, List.filter_cons_of_neg h, List.filter_nil, List.append_nil]
set_option maxRecDepth 100000 in
theorem intsL_snoc (l : List Nat) (k : Nat) : (intsL (l ++ [k])).map (Value.int .i64) = (intsL l).map (Value.int .i64) ++ [.int .i64 (k : Int)] := by
 unfold intsL
 rw [List.map_append, List.map_append]
 rfl
set_option maxRecDepth 100000 in
theorem allL_le (m : List UInt8) (k : Nat) : (allL m k).length ≤ k := by
 unfold allL
 have := List.length_filter_le (fun p => hasB m p) (List.range k)
 rw [List.length_range] at this
 exact this
section
variable {w0 w w1 w' : World} {z : Wh} {D D1 : EnS} {P P1 : PoS} {A : AtS} {X X1 : AxS} {T T1 T' U : Nat → Prop} {gx : Nat}
def SAll (w0 w : World) (z : Wh) (gx : Nat) (A : AtS) (X : AxS) (T U : Nat → Prop) (r : ARes) (l : List Nat) (e : Ending) (w' : World) : Prop :=
 ∃ B c, e = .returned (.tuple #[.slice B l.length c, .int .i64 r.2.2]) ∧ w'.ownsRow w.heap.size 3 1 (.slice B l.length c) l.length ((intsL l).map (Value.int .i64)) ∧ ∃ T', AZ w0 w' z r.1 r.2.1 A T' ∧ XZ w' w0.heap.size z.ga gx X T' U ∧ Mv T T' w w' ∧ ∀ k, (Value.slice B l.length c).ownBlock = some k → ¬ T' k
def sallL (D : EnS) (P : PoS) (A : AtS) (X : AxS) : List Nat := if pmE D P A X = 0 then allL (agetL D P A X 0) P.pages else []
set_option maxRecDepth 100000 in
set_option maxHeartbeats 1000000 in
theorem All_at (ha : AZ w0 w z D P A T) (hx : XZ w w0.heap.size z.ga gx X T U) (hpd : D.d.pending.length ≤ 900000) (hct : P.count ≤ 1152921504606846976) :
  Calls Tryz.prog 22 #[.pointer (some ⟨gx, 0, none⟩)] w (SAll w0 w z gx A X T U ((agetR D P A X 0).1, (agetR D P A X 0).2.1, pmE D P A X) (sallL D P A X)) := by
 have HG := Lib.hid (pageMap_at ha hx hpd hct)
 have hpp : P.pages ≤ 4096 := by have := ha.pi.fit; have := ha.pi.d2; omega
 have HLN : Hid (pmE D P A X = 0 → (agetL D P A X 0).length = 4080) := Lib.hid (fun h => ha.aget_len hx (pmE_get h))
 have hpg := agetR_pages D P A X 0
 have HML : Hid (pmL D P A X = if pmE D P A X = 0 then agetL D P A X 0 else []) := Lib.hid rfl
 have HAL : Hid (sallL D P A X = if pmE D P A X = 0 then allL (agetL D P A X 0) P.pages else []) := Lib.hid rfl
 have HSZ : Hid (w.heap.size ≤ w.heap.size) := Lib.hid (Nat.le_refl _)
 clear ha hx hpd hct
 generalize sallL D P A X = al at *
 generalize pmL D P A X = ml at *
 generalize pmE D P A X = pe at *
 generalize agetL D P A X 0 = m at *
 generalize agetR D P A X 0 = R at *
 obtain ⟨D1, P1, e1⟩ := R
 dsimp only at *
 have HPG := Lib.hid hpg
 clear hpg
 by_cases hpe : pe = 0
 ·subst hpe
  have hm : ml = m := by rw [HML.out, if_pos rfl]
  subst hm
  have hlen := HLN.out rfl
  have HA2 : Hid (al = allL ml P.pages) := Lib.hid (by rw [HAL.out, if_pos rfl])
  obtain ⟨ic, hic, hy0, hy1, hy2⟩ := info_parts info_intN
  obtain ⟨N, hN⟩ : ∃ N, N = P.pages := ⟨_, rfl⟩
  rw [← hN] at hpp HPG HA2
  clear hN HAL HML
  go_enter Tryz.func22, Tryz.ntmps22
  go_wp2_with fail
  refine HG.out.mono ?_
  rintro e w1 ⟨v, rfl, hv, T1, wn, han, hxn, hmn, hbn, hvn⟩
  dsimp only at han ⊢
  obtain ⟨g, c, rfl, hpm⟩ := AGet.pm (r := (D1, P1, 0)) hv hlen han hxn hmn hbn hvn
  have HBR := Lib.hid (ob_br hpm.ob hpm.len)
  have HPA : Hid (Calls Tryz.prog 47 #[.pointer (some ⟨gx, 0, none⟩)] w1 fun e w' => e = .returned (.int .i64 (N : Int)) ∧ w1 = w') := Lib.hid (by
   rw [← HPG.out]
   exact Pages_az (han.below hbn) (hxn.below hbn))
  have HEND : Hid (∀ w2 B c, Below w1.heap.size w1 w2 → w2.ownsRow w1.heap.size 3 1 (.slice B al.length c) al.length ((intsL al).map (Value.int .i64)) → SAll w0 w z gx A X T U (D1, P1, 0) al (.returned (.tuple #[.slice B al.length c, .int .i64 0])) w2) := Lib.hid (fun w2 B c hb ho => by
   have hb2 := gr_trans hbn hb
   have := hmn.1.size
   have := hbn.size
   exact ⟨B, c, rfl, own_lower ho (by omega), T1, han.below hb2, hxn.below hb2, hmn.trans (Mv.of_below hb2), fun k hk e => by
    have := own_ge ho hk
    have := (han.lt e).2
    omega⟩)
  clear hv han hxn hmn hbn hvn hpm
  go_wp2_with fail
  refine HPA.out.mono ?_
  rintro e w2 ⟨rfl, rfl⟩
  go_wp2_with fail
  go_loopw [6, 18] (fun l i wr => ∃ (k : Nat) (B1 : Option Addr) (n1 c1 : Nat), k ≤ N ∧ i = .int .i64 (k : Int) ∧ l = .slice B1 n1 c1 ∧ Hid (Below w1.heap.size w1 wr ∧ n1 = (allL ml k).length ∧ wr.ownsRow w1.heap.size 3 1 (.slice B1 n1 c1) n1 ((intsL (allL ml k)).map (Value.int .i64)))) (fun _ i _ => N - (Go.RowKit.intOf i).toNat)
  case atStart => exact ⟨0, none, 0, 0, Nat.zero_le _, rfl, rfl, Lib.hid ⟨gr_refl _, rfl, rfl, .inl ⟨rfl, rfl⟩⟩⟩
  case round =>
   obtain ⟨k, B1, n1, c1, hk, rfl, rfl, HI⟩ := hrel
   by_cases hlt : k < N
   ·have t1 : decide ((k : Int) < (N : Int)) = true := decide_eq_true (by omega)
    have t2 : decide (k < N) = true := decide_eq_true hlt
    have HH := Lib.hid (has_any (some ⟨g, 0, none⟩) c ml k wr (HBR.out.below HI.out.1) (by omega))
    obtain ⟨hk2, hhk⟩ : ∃ hk2, hk2 = hasB ml k := ⟨_, rfl⟩
    have HK := Lib.hid hhk
    rw [← hhk] at HH
    clear hhk
    go_wp2_with fail
    refine HH.out.mono ?_
    rintro e w2 ⟨rfl, n2, rfl⟩
    cases hk2 with
    | false =>
     have HI2 : Hid (Below w1.heap.size w1 (wr.drewN n2) ∧ n1 = (allL ml (k + 1)).length ∧ (wr.drewN n2).ownsRow w1.heap.size 3 1 (.slice B1 n1 c1) n1 ((intsL (allL ml (k + 1))).map (Value.int .i64))) := Lib.hid (by
      rw [allL_succ, if_neg (by rw [← HK.out]; exact Bool.false_ne_true)]
      exact ⟨gr_drewN HI.out.1 n2, HI.out.2.1, HI.out.2.2⟩)
     go_wp2_with fail
     go_roundw
     all_goals have hlt := of_decide_eq_true t2
     case rel => exact ⟨k + 1, _, _, _, by omega, by go_num, rfl, HI2⟩
     case measure => simp [Go.RowKit.intOf]; omega
    | true =>
     have HROW : Hid (((wr.drewN n2).alloc (.cells #[.int .i64 (k : Int)] 3)).ownsRow w1.heap.size 3 1 (.slice B1 n1 c1) n1 ((intsL (allL ml k)).map (Value.int .i64))) := Lib.hid ((show (wr.drewN n2).ownsRow w1.heap.size 3 1 (.slice B1 n1 c1) n1 ((intsL (allL ml k)).map (Value.int .i64)) from HI.out.2.2).alloc _)
     have HRD : Hid (Rd ((wr.drewN n2).alloc (.cells #[.int .i64 (k : Int)] 3)) 1 (some ⟨(wr.drewN n2).heap.size, 0, none⟩) 1 [.int .i64 (k : Int)]) := Lib.hid (Rd.new (wr.drewN n2) 3 #[.int .i64 (k : Int)] 1 1 rfl)
     have HLE : Hid (n1 ≤ 4096) := Lib.hid (by have := allL_le ml k; have := HI.out.2.1; omega)
     have HSZ2 : Hid (w1.heap.size ≤ ((wr.drewN n2).alloc (.cells #[.int .i64 (k : Int)] 3)).heap.size) := Lib.hid (gr_alloc (gr_drewN HI.out.1 n2) _).size
     have HNEXT : Hid (∀ v8 w8, w8.ownsRow w1.heap.size 3 1 v8 (n1 + 1) ((intsL (allL ml k)).map (Value.int .i64) ++ [.int .i64 (k : Int)]) → ((wr.drewN n2).alloc (.cells #[.int .i64 (k : Int)] 3)).grownBy w8 (Value.slice B1 n1 c1).ownBlock → Below w1.heap.size w1 w8 ∧ n1 + 1 = (allL ml (k + 1)).length ∧ w8.ownsRow w1.heap.size 3 1 v8 (n1 + 1) ((intsL (allL ml (k + 1))).map (Value.int .i64))) := Lib.hid (fun v8 w8 ho hg => by
      rw [allL_succ, if_pos HK.out.symm, intsL_snoc, List.length_append, ← HI.out.2.1]
      have hof : Off (fun j => (Value.slice B1 n1 c1).ownBlock = some j) ((wr.drewN n2).alloc (.cells #[.int .i64 (k : Int)] 3)) w8 := Off.of_grown hg (fun j e => e)
      exact ⟨(gr_alloc (gr_drewN HI.out.1 n2) _).trans (hof.below (fun j e => own_ge HI.out.2.2 e) (gr_alloc (gr_drewN HI.out.1 n2) _).size), rfl, ho⟩)
     go_wp2_with (at_builtin; refine wpList_append_Rd _ rfl (.tmp 24) (.tmp 26) 22 rfl w1.heap.size 3 ic _ 1 8 Tryz.underlying22 hic hy0 hy1 hy2 rfl (.slice B1 n1 c1) n1 ((intsL (allL ml k)).map (Value.int .i64)) rfl HROW.out (some ⟨wr.heap.size, 0, none⟩) 1 1 [.int .i64 (k : Int)] rfl HRD.out (by simp [Value.oneCell']) (by have := HLE.out; omega) (by have := HLE.out; simp only [maxLen]; omega) HSZ2.out ?_; intro v8 w8 ho8 hg8 _ _; have HC8 := Lib.hid (HNEXT.out v8 w8 ho8 hg8); obtain ⟨A8, c8, rfl, _, _⟩ := own_form ho8; clear ho8 hg8)
     go_roundw
     all_goals have hlt := of_decide_eq_true t2
     case rel => exact ⟨k + 1, A8, _, c8, by omega, by go_num, rfl, HC8⟩
     case measure => simp [Go.RowKit.intOf]; omega
   ·have t1 : decide ((k : Int) < (N : Int)) = false := decide_eq_false (by omega)
    have t2 : decide (k < N) = false := decide_eq_false hlt
    have hkn : k = N := by omega
    have HF : Hid (SAll w0 w z gx A X T U (D1, P1, 0) al (.returned (.tuple #[.slice B1 n1 c1, .int .i64 0])) wr) := Lib.hid (by
     have h := HI.out
     rw [hkn, ← HA2.out] at h
     obtain ⟨h1, h2, h3⟩ := h
     subst h2
     exact HEND.out wr B1 c1 h1 h3)
    clear hkn
    go_wp2_with fail
    go_ret2
    exact HF.out
 ·have t1 : (pe != 0) = true := by rw [bne_iff_ne]; exact hpe
  have hal : al = [] := by rw [HAL.out, if_neg hpe]
  subst hal
  go_enter Tryz.func22, Tryz.ntmps22
  go_wp2_with fail
  refine HG.out.mono ?_
  rintro e w1 ⟨v, rfl, hv, T1, wn, han, hxn, hmn, hbn, hvn⟩
  dsimp only at han ⊢
  have HF : Hid (SAll w0 w z gx A X T U (D1, P1, pe) [] (.returned (.tuple #[.slice none 0 0, .int .i64 pe])) w1) := Lib.hid
   ⟨none, 0, rfl, ⟨rfl, .inl ⟨rfl, rfl⟩⟩, T1, han.below hbn, hxn.below hbn, hmn.trans (Mv.of_below hbn), fun k e => by simp [Value.ownBlock] at e⟩
  obtain ⟨Bv, cv, rfl, _⟩ := hv.form
  clear hpe hv han hxn hmn hbn hvn
  go_wp2_with fail
  go_ret2
  exact HF.out
end
end Go.Proofs.YtnkeclpgpiogoaaGreat

/-! AtP -/
namespace Go.Proofs.YtnkeclpgpiogoaaGreat
open Go Go.RowKit Go.Maps
set_option maxRecDepth 100000 in
theorem and_zero (a : UInt8) {j : Nat} (hj : j < 8) : (bits BinOp.and IntKind.u8 (a.toNat : Int) ((2 : Int) ^ j % 256) == 0) = !a.toNat.testBit j := by
 have h := and_byte a j hj
 have e : ((2 : Int) ^ j % 256) = ((2 ^ j : Nat) : Int) := by
  rcases (by omega : j = 0 ∨ j = 1 ∨ j = 2 ∨ j = 3 ∨ j = 4 ∨ j = 5 ∨ j = 6 ∨ j = 7) with rfl | rfl | rfl | rfl | rfl | rfl | rfl | rfl <;> rfl
 rw [e, ← h]
 simp [bne]
set_option maxRecDepth 100000 in
theorem freeL_succ (m : List UInt8) (k p : Nat) : freeL m (k + 1) p = if hasB m p = false then p else freeL m k (p + 1) := rfl
section
variable {w0 w w1 w' : World} {z : Wh} {D D1 : EnS} {P P1 : PoS} {A : AtS} {X X1 : AxS} {T T1 T' U : Nat → Prop} {gx : Nat}
set_option maxRecDepth 100000 in
set_option maxHeartbeats 2000000 in
theorem Take_at (ha : AZ w0 w z D P A T) (hx : XZ w w0.heap.size z.ga gx X T U) (h16 : X.st.length ≤ 16) (hpd : D.d.pending.length ≤ 900000) (hct : P.count ≤ 1152921504606846976) :
  Calls Tryz.prog 16 #[.pointer (some ⟨gx, 0, none⟩)] w (STake w0 w z gx A T U (takeR D P A X)) := by
 have HG := Lib.hid (pageMap_at ha hx hpd hct)
 have hpp : P.pages ≤ 4096 := by have := ha.pi.fit; have := ha.pi.d2; omega
 have HLN : Hid (pmE D P A X = 0 → (agetL D P A X 0).length = 4080) := Lib.hid (fun h => ha.aget_len hx (pmE_get h))
 have hpg := agetR_pages D P A X 0
 have HSO := Lib.hid hx.srt
 have H16 := Lib.hid h16
 obtain ⟨RR, hRR⟩ : ∃ RR, RR = takeR D P A X := ⟨_, rfl⟩
 obtain ⟨fr, hfr⟩ : ∃ fr, fr = freeL (agetL D P A X 0) P.pages 0 := ⟨_, rfl⟩
 have HRR : Hid (RR = if pmE D P A X ≠ 0 then ⟨(agetR D P A X 0).1, (agetR D P A X 0).2.1, X, 0, pmE D P A X⟩ else if fr = 0 then ⟨(agetR D P A X 0).1, (agetR D P A X 0).2.1, X, 0, 5⟩ else if asetE (agetR D P A X 0).2.1 A X (fr : Int) 4080 ≠ 0 then ⟨(agetR D P A X 0).1, (agetR D P A X 0).2.1, X, 0, asetE (agetR D P A X 0).2.1 A X (fr : Int) 4080⟩ else if asetE (agetR D P A X 0).2.1 A (asetX (agetR D P A X 0).2.1 A X (fr : Int) zP) 0 4080 ≠ 0 then ⟨(agetR D P A X 0).1, (agetR D P A X 0).2.1, asetX (agetR D P A X 0).2.1 A X (fr : Int) zP, 0, asetE (agetR D P A X 0).2.1 A (asetX (agetR D P A X 0).2.1 A X (fr : Int) zP) 0 4080⟩ else ⟨(agetR D P A X 0).1, (agetR D P A X 0).2.1, asetX (agetR D P A X 0).2.1 A (asetX (agetR D P A X 0).2.1 A X (fr : Int) zP) 0 (turnL (agetL D P A X 0) fr), (fr : Int), 0⟩) := Lib.hid (by rw [hRR, hfr]; rfl)
 have HML : Hid (pmL D P A X = if pmE D P A X = 0 then agetL D P A X 0 else []) := Lib.hid rfl
 rw [← hRR]
 clear hRR ha hx hpd hct h16
 generalize pmL D P A X = ml at *
 generalize pmE D P A X = pe at *
 generalize agetL D P A X 0 = m at *
 generalize agetR D P A X 0 = R at *
 obtain ⟨D1, P1, e1⟩ := R
 dsimp only at *
 obtain ⟨N, hN⟩ : ∃ N, N = P.pages := ⟨_, rfl⟩
 rw [← hN] at hpp hpg hfr
 clear hN
 have HPG := Lib.hid hpg
 have HFR := Lib.hid hfr
 clear hpg hfr
 by_cases hpe : pe = 0
 ·subst hpe
  have hm : ml = m := by rw [HML.out, if_pos rfl]
  subst hm
  have hlen := HLN.out rfl
  have HR2 := Lib.hid (HRR.out.trans (if_neg (by exact fun h => h rfl)))
  clear HRR HML
  go_enter Tryz.func16, Tryz.ntmps16
  go_wp2_with fail
  refine wp_scope_straight ?_
  go_wp2_with fail
  refine HG.out.mono ?_
  rintro e w1 ⟨v, rfl, hv, T1, wn, han, hxn, hmn, hbn, hvn⟩
  dsimp only at han ⊢
  obtain ⟨g, c, rfl, hpm⟩ := AGet.pm (r := (D1, P1, 0)) hv hlen han hxn hmn hbn hvn
  have HM := Lib.hid hpm
  have HFULL : Hid (∀ n, fr = 0 → STake w0 w z gx A T U RR (.returned (.tuple #[.int .i64 0, .int .i64 5])) (w1.drewN n)) := Lib.hid (fun n h => by
   rw [HR2.out, if_pos h]
   exact ⟨rfl, SLeft.get han hxn hmn (gr_trans hbn (gr_drewN (gr_refl w1) n))⟩)
  have HPA : Hid (∀ n, Calls Tryz.prog 47 #[.pointer (some ⟨gx, 0, none⟩)] (w1.drewN n) fun e w' => e = .returned (.int .i64 (N : Int)) ∧ w1.drewN n = w') := Lib.hid (fun n => by
   rw [← HPG.out]
   have hb := gr_drewN (gr_refl w1) n
   exact Pages_az ((han.below hbn).below hb) ((hxn.below hbn).below hb))
  have HBR := Lib.hid (ob_br hpm.ob hpm.len)
  clear hv han hxn hmn hbn hvn hpm
  go_wp2_with fail
  go_step3
  go_wp2_with fail
  go_loopw [6, 23] (fun f i wr => ∃ k n2 : Nat, f = .int .i64 0 ∧ i = .int .i64 (k : Int) ∧ 8 * k ≤ N ∧ wr = w1.drewN n2 ∧ Hid (fr = freeL ml (N - 8 * k) (8 * k))) (fun _ i _ => 4080 - (Go.RowKit.intOf i).toNat)
  case atStart => exact ⟨0, 0, rfl, rfl, Nat.zero_le _, rfl, HFR⟩
  case round =>
   obtain ⟨k, n2, rfl, rfl, hk8, rfl, HF⟩ := hrel
   have t1 : decide ((k : Int) < 4080) = true := decide_eq_true (by omega)
   have t2 : decide (k < 4080) = true := decide_eq_true (by omega)
   have j0 : (0 : Int) ≤ (k : Int) := Int.natCast_nonneg _
   have j1 : (k : Int) < 4080 := by omega
   obtain ⟨a, ha⟩ : ∃ a, a = ml.getD k 0 := ⟨_, rfl⟩
   have hcell : (w1.drewN n2).cell? ⟨g, k, none⟩ = some (.int .u8 (a.toNat : Int)) := by
    rw [ha]
    exact OB.cell (HM.out.below (gr_drewN (gr_refl w1) n2)).ob HM.out.len (by omega)
   have HAA := Lib.hid ha
   clear ha
   go_wp2_with fail
   go_loopw [6, 28] (fun f i wr => ∃ j n3 : Nat, f = .int .i64 0 ∧ i = .int .i64 (j : Int) ∧ j ≤ 8 ∧ 8 * k + j ≤ N ∧ wr = w1.drewN n3 ∧ Hid (fr = freeL ml (N - (8 * k + j)) (8 * k + j))) (fun _ i _ => 8 - (Go.RowKit.intOf i).toNat)
   case atStart => exact ⟨0, n2, rfl, rfl, Nat.zero_le _, by omega, rfl, HF⟩
   case round =>
    clear HF
    obtain ⟨j, n3, rfl, rfl, hj8, hjN, rfl, HF⟩ := hrel
    by_cases hlt : j < 8
    ·have t3 : decide ((j : Int) < 8) = true := decide_eq_true (by omega)
     have t4 : decide (j < 8) = true := decide_eq_true hlt
     have HPJ := Lib.hid (HPA.out n3)
     go_wp2_with fail
     refine HPJ.out.mono ?_
     rintro e w4 ⟨rfl, rfl⟩
     by_cases hend : N ≤ 8 * k + j
     ·have t5 : decide ((N : Int) ≤ (k : Int) * 8 + (j : Int)) = true := decide_eq_true (by omega)
      have HFL := Lib.hid (HFULL.out n3 (by
       rw [HF.out, show N - (8 * k + j) = 0 by omega]
       rfl))
      go_wp2_with fail
      rw [Exit.noGoto_ret]
      go_ret2
      exact HFL.out
     ·obtain ⟨p, hp⟩ : ∃ p, p = 8 * k + j := ⟨_, rfl⟩
      have hpI : (k : Int) * 8 + (j : Int) = (p : Int) := by omega
      have t5 : decide ((N : Int) ≤ (p : Int)) = false := decide_eq_false (by omega)
      have t5' : decide (N ≤ p) = false := decide_eq_false (by omega)
      have hz := and_zero a hlt
      obtain ⟨tb, htb⟩ : ∃ tb, tb = a.toNat.testBit j := ⟨_, rfl⟩
      have hhb : hasB ml p = tb := by
       unfold hasB bitB
       rw [hp, show (8 * k + j) / 8 = k by omega, show (8 * k + j) % 8 = j by omega, ← HAA.out, htb]
      have hsucc : fr = if hasB ml p = false then p else freeL ml (N - (8 * k + (j + 1))) (8 * k + (j + 1)) := by
       rw [HF.out, show N - (8 * k + j) = (N - (8 * k + (j + 1))) + 1 by omega, freeL_succ, ← hp, show p + 1 = 8 * k + (j + 1) by omega]
      rw [← htb] at hz
      rw [hpI]
      have HHB := Lib.hid hhb
      have HSU := Lib.hid hsucc
      have hpN : p < N := by omega
      have hjn : 8 * k + (j + 1) ≤ N := by omega
      clear hhb hsucc hend hp hpI htb HF
      cases tb with
      | true =>
       have HF2 : Hid (fr = freeL ml (N - (8 * k + (j + 1))) (8 * k + (j + 1))) := Lib.hid (by rw [HSU.out, if_neg (by rw [HHB.out]; exact fun h => by cases h)])
       go_wp2_with fail
       go_roundw
       all_goals have hlt := of_decide_eq_true t4
       case rel => exact ⟨j + 1, n3, rfl, by go_num, by omega, hjn, rfl, HF2⟩
       case measure => simp [Go.RowKit.intOf]; omega
      | false =>
       have hfp : fr = p := by rw [HSU.out, if_pos HHB.out]
       subst hfp
       by_cases hp0 : fr = 0
       ·have t6 : ((fr : Int) == 0) = true := by rw [hp0]; rfl
        have HFL := Lib.hid (HFULL.out n3 hp0)
        clear hp0
        go_wp2_with fail
        rw [Exit.noGoto_ret]
        go_ret2
        exact HFL.out
       ·have t6 : ((fr : Int) == 0) = false := beq_eq_false_iff_ne.2 (by omega)
        have HR3 := Lib.hid (HR2.out.trans (if_neg hp0))
        have hmk := run_mk_bytes 4080 (by omega) 4080 rfl (w1.drewN n3)
        have hb1 := gr_alloc (gr_drewN (gr_refl w1) n3) (.cells (zeroB 4080) 5)
        have hm1 := HM.out.below hb1
        have HM1 := Lib.hid hm1
        have hoz : OB ((w1.drewN n3).alloc (.cells (zeroB 4080) 5)) (w1.drewN n3).heap.size (.slice (some ⟨(w1.drewN n3).heap.size, 0, none⟩) 4080 4080) zP := OB.zero _ 4080 (by decide)
        have hs1 := Set_atG (hm1.az (Off.refl _ _)) (fun k e => .inl e) (fun k e => hm1.t2 e) hm1.xz (fr : Int) _ 4080 4080 zP (ob_br hoz rfl) (by omega) (by omega) H16.out
        rw [show zP.length = 4080 from rfl] at hs1
        have HS1 : Hid (Calls Tryz.prog 19 #[.pointer (some ⟨gx, 0, none⟩), .int .i64 (fr : Int), .slice (some ⟨w1.heap.size, 0, none⟩) 4080 4080] ((w1.drewN n3).alloc (.cells (zeroB 4080) 5)) (ASetG w0 ((w1.drewN n3).alloc (.cells (zeroB 4080) 5)) z gx D1 P1 A (asetX P1 A X (fr : Int) zP) T1 (fun k => T1 k ∨ k = g) U (asetE P1 A X (fr : Int) 4080))) := Lib.hid hs1
        have HX1 : Hid (asetE P1 A X (fr : Int) 4080 ≠ 0 → asetX P1 A X (fr : Int) zP = X) := Lib.hid (fun h => by
         unfold asetX
         rw [if_pos (by rw [show zP.length = 4080 from rfl]; exact h)])
        have H162 : Hid ((asetX P1 A X (fr : Int) zP).st.length ≤ 16) := Lib.hid (asetX_16 HSO.out H16.out _ _)
        generalize asetE P1 A X (fr : Int) 4080 = r1 at *
        generalize asetX P1 A X (fr : Int) zP = X1 at *
        clear hm1 hoz hs1 hb1 hp0 HFULL HSU
        go_wp2_with fail
        refine HS1.out.mono ?_
        rintro e w5 ⟨rfl, ha5, hx5, ho5⟩
        by_cases hr1 : r1 = 0
        ·subst hr1
         have ho6 := HM1.out.ob.off ho5 (fun k e => by
          injection e with e
          exact fun hu => HM1.out.nu hu e.symm)
         have HT := Lib.hid (turn_any g w.heap.size c ml fr w5 ho6 HM1.out.len (by omega))
         have HR4 := Lib.hid (HR3.out.trans (if_neg (by exact fun h => h rfl)))
         have HA5 := Lib.hid ha5
         have HX5 := Lib.hid hx5
         have HO5 := Lib.hid ho5
         clear ha5 hx5 ho5 ho6
         go_wp2_with fail
         refine HT.out.mono ?_
         rintro e w6 ⟨rfl, ho6, hf6⟩
         have hx6 := HX5.out.gturn hf6 (fun k hk => HM1.out.nu hk)
         have hoo : Off (fun k => U k ∨ k = g) ((w1.drewN n3).alloc (.cells (zeroB 4080) 5)) w6 := (HO5.out.mono fun _ _ e => .inl e).trans (hf6.mono fun _ _ e => .inr e)
         have ha6 := HM1.out.az hoo
         have HOO := Lib.hid hoo
         have hs2 := Set_atG ha6 (fun k e => .inl e) (fun k e => Nat.lt_of_lt_of_le (HM1.out.t2 e) hoo.size) hx6 0 (some ⟨g, 0, none⟩) 4080 c (turnL ml fr) (ob_br ho6 (by rw [turnL_len]; exact HM1.out.len)) (by omega) (by omega) H162.out
         rw [turnL_len, HM1.out.len] at hs2
         have HS2 := Lib.hid hs2
         have HX2 : Hid (asetE P1 A X1 0 4080 ≠ 0 → asetX P1 A X1 0 (turnL ml fr) = X1) := Lib.hid (fun h => by
          unfold asetX
          rw [if_pos (by rw [turnL_len, HM1.out.len]; exact h)])
         generalize asetE P1 A X1 0 4080 = r2 at *
         generalize asetX P1 A X1 0 (turnL ml fr) = X2 at *
         clear ho6 hf6 hx6 hoo ha6 hs2
         go_wp2_with fail
         refine HS2.out.mono ?_
         rintro e w7 ⟨rfl, ha7, hx7, ho7⟩
         have hoo7 := HOO.out.trans (ho7.mono fun _ _ e => .inl e)
         by_cases hr2 : r2 = 0
         ·subst hr2
          have HFN : Hid (STake w0 w z gx A T U RR (.returned (.tuple #[.int .i64 (fr : Int), .int .i64 0])) w7) := Lib.hid (by
           rw [HR4.out, if_neg (by exact fun h => h rfl)]
           exact ⟨rfl, SLeft.pm HM1.out hoo7 hx7⟩)
          clear ha7 hx7 ho7 hoo7
          go_wp2_with fail
          rw [Exit.noGoto_ret]
          go_ret2
          exact HFN.out
         ·have t7 : (r2 != 0) = true := by rw [bne_iff_ne]; exact hr2
          have hxx := HX2.out hr2
          subst hxx
          have HFN : Hid (STake w0 w z gx A T U RR (.returned (.tuple #[.int .i64 0, .int .i64 r2])) w7) := Lib.hid (by
           rw [HR4.out, if_pos hr2]
           exact ⟨rfl, SLeft.pm HM1.out hoo7 hx7⟩)
          clear ha7 hx7 ho7 hoo7 hr2
          go_wp2_with fail
          rw [Exit.noGoto_ret]
          go_ret2
          exact HFN.out
        ·have t7 : (r1 != 0) = true := by rw [bne_iff_ne]; exact hr1
         have hxx := HX1.out hr1
         subst hxx
         have HFN : Hid (STake w0 w z gx A T U RR (.returned (.tuple #[.int .i64 0, .int .i64 r1])) w5) := Lib.hid (by
          rw [HR3.out, if_pos hr1]
          exact ⟨rfl, SLeft.pm HM1.out (ho5.mono fun _ _ e => .inl e) hx5⟩)
         clear ha5 hx5 ho5 hr1
         go_wp2_with fail
         rw [Exit.noGoto_ret]
         go_ret2
         exact HFN.out
    ·have t3 : decide ((j : Int) < 8) = false := decide_eq_false (by omega)
     have t4 : decide (j < 8) = false := decide_eq_false hlt
     have hj : j = 8 := by omega
     have HF2 : Hid (fr = freeL ml (N - 8 * (k + 1)) (8 * (k + 1))) := Lib.hid (by rw [HF.out, hj, show 8 * (k + 1) = 8 * k + 8 by omega])
     have h8 : 8 * (k + 1) ≤ N := by omega
     clear hj
     go_wp2_with fail
     go_roundw
     case rel => exact ⟨k + 1, n3, rfl, by go_num, h8, rfl, HF2⟩
     case measure => simp [Go.RowKit.intOf]; omega
 ·have t1 : (pe != 0) = true := by rw [bne_iff_ne]; exact hpe
  go_enter Tryz.func16, Tryz.ntmps16
  go_wp2_with fail
  refine wp_scope_straight ?_
  go_wp2_with fail
  refine HG.out.mono ?_
  rintro e w1 ⟨v, rfl, hv, T1, wn, han, hxn, hmn, hbn, hvn⟩
  dsimp only at han ⊢
  have HF : Hid (STake w0 w z gx A T U RR (.returned (.tuple #[.int .i64 0, .int .i64 pe])) w1) := Lib.hid (by
   rw [HRR.out, if_pos hpe]
   exact ⟨rfl, SLeft.get han hxn hmn hbn⟩)
  obtain ⟨Bv, cv, rfl, _⟩ := hv.form
  clear hpe hv han hxn hmn hbn hvn
  go_wp2_with fail
  go_ret2
  exact HF.out
end
end Go.Proofs.YtnkeclpgpiogoaaGreat

/-! AtR -/
namespace Go.Proofs.YtnkeclpgpiogoaaGreat
open Go Go.RowKit Go.Maps
set_option maxRecDepth 100000 in
theorem SameG.aget (D : EnS) (P : PoS) (A : AtS) (X : AxS) (p : Int) : SameG D (agetR D P A X p).1 := by
 unfold agetR
 split
 ·exact SameG.refl D
 ·split
  ·exact SameG.refl D
  ·exact SameG.get D P p
set_option maxRecDepth 100000 in
theorem SameG.done2 (D : EnS) (P : PoS) (A : AtS) (X : AxS) (tx : Int) (l : List Ch) : SameG D (done2 D P A X tx l).D := by
 unfold Go.Proofs.YtnkeclpgpiogoaaGreat.done2
 split
 ·exact SameG.refl D
 ·split
  ·exact SameG.app D _
  ·dsimp only
   split
   ·exact (SameG.app D _).trans (SameG.put ..)
   ·exact (SameG.app D _).trans (SameG.put ..)
set_option maxRecDepth 100000 in
theorem SameG.done (D : EnS) (P : PoS) (A : AtS) (X : AxS) (tx : Int) : SameG D (doneR D P A X tx).D := by
 unfold doneR
 split
 ·exact SameG.refl D
 ·split
  ·exact SameG.refl D
  ·dsimp only
   split
   ·exact SameG.chg ..
   ·exact (SameG.chg ..).trans (SameG.done2 ..)
set_option maxRecDepth 100000 in
theorem SameG.takeR (D : EnS) (P : PoS) (A : AtS) (X : AxS) : SameG D (takeR D P A X).D := by
 have h := SameG.aget D P A X 0
 unfold Go.Proofs.YtnkeclpgpiogoaaGreat.takeR
 dsimp only
 split
 ·exact h
 ·split
  ·exact h
  ·split
   ·exact h
   ·split <;> exact h
set_option maxRecDepth 100000 in
theorem SameG.giveR (D : EnS) (P : PoS) (A : AtS) (X : AxS) (p : Int) : SameG D (giveR D P A X p).D := by
 have h := SameG.aget D P A X 0
 unfold Go.Proofs.YtnkeclpgpiogoaaGreat.giveR
 dsimp only
 split
 ·exact h
 ·split <;> exact h
set_option maxRecDepth 100000 in
theorem markF_le : ∀ (l : List Ch) (im : List (Nat × Unit)), SortS im → (markF l im).length ≤ im.length + l.length ∧ SortS (markF l im)
 | [], im, h => ⟨Nat.le_refl _, h⟩
 | c :: r, im, h => by
  unfold markF
  by_cases hc : 0 < c.2.1.length
  ·rw [if_pos hc]
   obtain ⟨h1, h2⟩ := markF_le r (insS c.1.toNat () im) (sort_insS _ _ h)
   rw [len_insS _ _ h] at h1
   refine ⟨?_, h2⟩
   rw [List.length_cons]
   split at h1 <;> omega
  ·rw [if_neg hc]
   obtain ⟨h1, h2⟩ := markF_le r im h
   exact ⟨by rw [List.length_cons]; omega, h2⟩
structure SC (w0 w : World) (z : Wh) (n bl : Nat) (T : Nat → Prop) (now : Nat → List UInt8) (c : Nat) (recs : List Rec) (V : Nat) (im : List (Nat × Unit)) : Prop where
 ex : ∃ D P A, AZ w0 w z D P A T ∧ CI D P now recs V ∧ P.pages = n ∧ A.br = false ∧ A.im = im ∧ P.count ≤ c ∧ D.j.bl = bl ∧ D.j.fi = 0 ∧ D.j.ep = 1
structure XG (w0 w : World) (z : Wh) (n : Nat) (gx : Nat) (st : List (Nat × List UInt8)) (T U : Nat → Prop) : Prop where
 xz : XZ w w0.heap.size z.ga gx ⟨st, false⟩ T U
 ok : XOk n st
section
variable {w0 w w1 w' : World} {z : Wh} {n bl c V : Nat} {T T1 T' U : Nat → Prop} {now : Nat → List UInt8} {recs : List Rec} {im : List (Nat × Unit)} {gx : Nat} {st : List (Nat × List UInt8)}
set_option maxRecDepth 100000 in
theorem SC.below (h : SC w0 w z n bl T now c recs V im) (hb : Below w.heap.size w w') : SC w0 w' z n bl T now c recs V im := by
 obtain ⟨D, P, A, h1, r⟩ := h.ex
 exact ⟨D, P, A, h1.below hb, r⟩
set_option maxRecDepth 100000 in
theorem SC.lt (h : SC w0 w z n bl T now c recs V im) {k : Nat} (hk : T k) : w0.heap.size ≤ k ∧ k < w.heap.size := by
 obtain ⟨D, P, A, h1, r⟩ := h.ex
 exact h1.lt hk
set_option maxRecDepth 100000 in
theorem SC.more (h : SC w0 w z n bl T now c recs V im) {c' : Nat} (hc : c ≤ c') : SC w0 w z n bl T now c' recs V im := by
 obtain ⟨D, P, A, h1, h2, h3, h4, h5, h6, r⟩ := h.ex
 exact ⟨D, P, A, h1, h2, h3, h4, h5, Nat.le_trans h6 hc, r⟩
set_option maxRecDepth 100000 in
theorem XG.below (h : XG w0 w z n gx st T U) (hb : Below w.heap.size w w') : XG w0 w' z n gx st T U := ⟨h.xz.below hb, h.ok⟩
def CL (w0 w : World) (z : Wh) (n bl : Nat) (T U : Nat → Prop) (gx : Nat) (now : Nat → List UInt8) (c : Nat) (recs : List Rec) (V : Nat) (im : List (Nat × Unit)) (st' : List (Nat × List UInt8)) (w' : World) : Prop :=
 ∃ T', SC w0 w' z n bl T' now c recs V im ∧ XG w0 w' z n gx st' T' U ∧ Off (TU T U) w w' ∧ ∀ k, T' k → T k ∨ w.heap.size ≤ k
set_option maxRecDepth 100000 in
theorem Begin_sc (h : SC w0 w z n bl T now c recs V im) :
  Calls Tryz.prog 13 #[.pointer (some ⟨z.ga, 0, none⟩)] w fun e w' => ∃ gx U, e = .returned (.pointer (some ⟨gx, 0, none⟩)) ∧ SC w0 w' z n bl T now c recs V im ∧ XG w0 w' z n gx [] T U ∧ Below w.heap.size w w' ∧ w.heap.size ≤ gx ∧ ∀ k, U k → w.heap.size ≤ k := by
 obtain ⟨D, P, A, h1, r⟩ := h.ex
 refine (Begin_az h1).mono ?_
 rintro e w' ⟨gx, U, rfl, a1, a2, a3, a4, a5⟩
 exact ⟨gx, U, rfl, ⟨D, P, A, a1, r⟩, ⟨a2, XOk.new n⟩, a3, a4, a5⟩
set_option maxRecDepth 100000 in
theorem Set_sc (h : SC w0 w z n bl T now c recs V im) (hx : XG w0 w z n gx st T U) (p : Nat) (B : Option Addr) (k : Nat) (l : List UInt8) (hb : BR w B 4080 l) (hp : p < n) (h16 : st.length < 16 ∨ findS st p ≠ none) :
  Calls Tryz.prog 19 #[.pointer (some ⟨gx, 0, none⟩), .int .i64 (p : Int), .slice B 4080 k] w fun e w' => e = .returned (.int .i64 0) ∧ SC w0 w' z n bl T now c recs V im ∧ XG w0 w' z n gx (insS p l st) T U ∧ Off U w w' := by
 obtain ⟨D, P, A, h1, h2, h3, h4, r⟩ := h.ex
 have hpp : P.pages ≤ 4096 := by have := h1.pi.fit; have := h1.pi.d2; omega
 have hl : l.length = 4080 := hb.len
 obtain ⟨e1, e2⟩ := aset_ok (P := P) (A := A) (X := ⟨st, false⟩) rfl h4 (p := p) (by omega) hl h16
 refine (Set_at h1 hx.xz (p : Int) B 4080 k l hb (by omega) (by omega) hx.ok.most).mono ?_
 rw [e1, e2]
 rintro e w' ⟨rfl, a1, a2, a3⟩
 exact ⟨rfl, ⟨D, P, A, a1, h2, h3, h4, r⟩, ⟨a2, hx.ok.ins hp hl h16⟩, a3⟩
set_option maxRecDepth 100000 in
theorem Format_sc (h : SC w0 w z n bl T now c recs V im) (hx : XG w0 w z n gx st T U) (h0 : 0 < n) (h16 : st.length < 16) :
  Calls Tryz.prog 14 #[.pointer (some ⟨gx, 0, none⟩)] w fun e w' => e = .returned (.int .i64 0) ∧ SC w0 w' z n bl T now c recs V im ∧ XG w0 w' z n gx (insS 0 (turnL zP 0) st) T U ∧ Off U w w' := by
 obtain ⟨D, P, A, h1, h2, h3, h4, r⟩ := h.ex
 have hl : (turnL zP 0).length = 4080 := by rw [turnL_len]; rfl
 obtain ⟨e1, e2⟩ := aset_ok (P := P) (A := A) (X := ⟨st, false⟩) rfl h4 (p := 0) (by omega) hl (.inl h16)
 rw [show ((0 : Nat) : Int) = 0 from rfl, hl] at e1
 rw [show ((0 : Nat) : Int) = 0 from rfl] at e2
 refine (Format_at h1 hx.xz hx.ok.most).mono ?_
 rw [e1, e2]
 rintro e w' ⟨rfl, a1, a2, a3⟩
 exact ⟨rfl, ⟨D, P, A, a1, h2, h3, h4, r⟩, ⟨a2, hx.ok.ins h0 hl (.inl h16)⟩, a3⟩
set_option maxRecDepth 100000 in
theorem Get_sc (h : SC w0 w z n bl T now c recs V im) (hx : XG w0 w z n gx st T U) (p : Nat) (hp : p < n) (hc : c ≤ 900000) :
  Calls Tryz.prog 17 #[.pointer (some ⟨gx, 0, none⟩), .int .i64 (p : Int)] w fun e w' => ∃ v, e = .returned (.tuple #[v, .int .i64 0]) ∧ OB w' w.heap.size v (nowD now st p) ∧ ∃ T' wn, SC w0 wn z n bl T' now (c + 1) recs V im ∧ XG w0 wn z n gx st T' U ∧ Mv T T' w wn ∧ Below wn.heap.size wn w' ∧ ∀ k, v.ownBlock = some k → wn.heap.size ≤ k := by
 obtain ⟨D, P, A, h1, h2, h3, h4, h5, h6, h7, h8, h9⟩ := h.ex
 have hpp : P.pages ≤ 4096 := by have := h1.pi.fit; have := h1.pi.d2; omega
 obtain ⟨g1, g2, g3, g4, g5⟩ := h2.aget (A := A) (X := ⟨st, false⟩) rfl h4 (p := p) (by omega)
 have hpl := h2.lc.pl
 obtain ⟨s1, s2, s3, s4, s5, s6⟩ := SameG.aget D P A ⟨st, false⟩ (p : Int)
 refine (Get_at h1 hx.xz (p : Int) (by omega) (by omega) (by omega) (by omega)).mono ?_
 rintro e w' ⟨v, rfl, hv, T', wn, a1, a2, a3, a4, a5⟩
 rw [g2] at hv
 rw [g1]
 exact ⟨v, rfl, hv, T', wn, ⟨_, _, A, a1, g3, g5.trans h3, h4, h5, by omega, s5.trans h7, s4.trans h8, s6.trans h9⟩, ⟨a2, hx.ok⟩, a3, a4, a5⟩
set_option maxRecDepth 100000 in
theorem pool_pages {D : EnS} {P : PoS} {A : AtS} {T : Nat → Prop} (h : AZ w0 w z D P A T) : P.pages ≤ 4096 := by
 have := h.pi.fit
 have := h.pi.d2
 omega
set_option maxRecDepth 100000 in
def freeT (tk : Nat → Bool) : Nat → Nat → Nat
 | 0, _ => 0
 | k + 1, p => if tk p = false then p else freeT tk k (p + 1)
set_option maxRecDepth 100000 in
theorem freeL_t {m : List UInt8} {tk : Nat → Bool} (h : MapI m n tk) : ∀ k p, p + k = n → freeL m k p = freeT tk k p
 | 0, _, _ => rfl
 | k + 1, p, hp => by
  unfold freeL freeT
  rw [h.all p (by omega), freeL_t h k (p + 1) (by omega)]
set_option maxRecDepth 100000 in
theorem Take_sc (h : SC w0 w z n bl T now c recs V im) (hx : XG w0 w z n gx st T U) (h16 : st.length + 2 ≤ 16) {tk : Nat → Bool} (hM : MapI (nowD now st 0) n tk) (hn : 1 ≤ n) (hc : c ≤ 900000) :
  Calls Tryz.prog 16 #[.pointer (some ⟨gx, 0, none⟩)] w fun e w' => ((∀ q, q < n → tk q = true) ∧ e = .returned (.tuple #[.int .i64 0, .int .i64 5]) ∧ CL w0 w z n bl T U gx now (c + 1) recs V im st w') ∨
   ∃ f, 1 ≤ f ∧ f < n ∧ tk f = false ∧ f = freeT tk n 0 ∧ e = .returned (.tuple #[.int .i64 (f : Int), .int .i64 0]) ∧ CL w0 w z n bl T U gx now (c + 1) recs V im (insS 0 (turnL (nowD now st 0) f) (insS f zP st)) w' := by
 obtain ⟨D, P, A, h1, h2, h3, h4, h5, h6, h7, h8, h9⟩ := h.ex
 have hpp := pool_pages h1
 have hpl := h2.lc.pl
 obtain ⟨s1, s2, s3, s4, s5, s6⟩ := SameG.takeR D P A ⟨st, false⟩
 obtain ⟨E', P', t1, t2, t3, t4⟩ := h2.take (A := A) (X := ⟨st, false⟩) rfl h4 (by rw [h3]; exact hx.ok) h16 (by rw [h3]; exact hM) (by omega)
 refine (Take_at h1 hx.xz hx.ok.most (by omega) (by omega)).mono ?_
 rintro e w' ⟨rfl, T', a1, a2, a3, a4⟩
 rcases t4 with ⟨q1, q2⟩ | ⟨f, q1, q2, q3, q5, q4⟩
 ·rw [q2] at a1 a2 s4 s5 s6 ⊢
  dsimp only at a1 a2 s4 s5 s6
  exact .inl ⟨fun q hq => q1 q (by omega), rfl, T', ⟨_, _, A, a1, t1, t2.trans h3, h4, h5, by omega, s5.trans h7, s4.trans h8, s6.trans h9⟩, ⟨a2, hx.ok⟩, a3, a4⟩
 ·rw [q4] at a1 a2 s4 s5 s6 ⊢
  dsimp only at a1 a2 s4 s5 s6
  have hzl : zP.length = 4080 := rfl
  have hx1 := hx.ok.ins (m := zP) (p := f) (by omega) hzl (.inl (by omega))
  have hl1 := ins_len (p := f) (m := zP) hx.ok
  exact .inr ⟨f, q1, by omega, q3, by rw [q5, h3, freeL_t hM n 0 (by omega)], rfl, T', ⟨_, _, A, a1, t1, t2.trans h3, h4, h5, by omega, s5.trans h7, s4.trans h8, s6.trans h9⟩, ⟨a2, hx1.ins (by omega) (by rw [turnL_len]; exact hM.len) (.inl (by omega))⟩, a3, a4⟩
set_option maxRecDepth 100000 in
set_option maxRecDepth 100000 in
theorem Give_sc (h : SC w0 w z n bl T now c recs V im) (hx : XG w0 w z n gx st T U) (h16 : st.length + 1 ≤ 16) {tk : Nat → Bool} (hM : MapI (nowD now st 0) n tk) (hn : 1 ≤ n) (hc : c ≤ 900000) (page : Int) :
  Calls Tryz.prog 21 #[.pointer (some ⟨gx, 0, none⟩), .int .i64 page] w fun e w' => (¬ (1 ≤ page ∧ page < n ∧ tk page.toNat = true) ∧ e = .returned (.int .i64 2) ∧ CL w0 w z n bl T U gx now (c + 1) recs V im st w') ∨
   ∃ p : Nat, page = p ∧ 1 ≤ p ∧ p < n ∧ tk p = true ∧ e = .returned (.int .i64 0) ∧ CL w0 w z n bl T U gx now (c + 1) recs V im (insS 0 (turnL (nowD now st 0) p) st) w' := by
 obtain ⟨D, P, A, h1, h2, h3, h4, h5, h6, h7, h8, h9⟩ := h.ex
 have hpp := pool_pages h1
 have hpl := h2.lc.pl
 obtain ⟨s1, s2, s3, s4, s5, s6⟩ := SameG.giveR D P A ⟨st, false⟩ page
 obtain ⟨E', P', t1, t2, t3, t4⟩ := h2.give (A := A) (X := ⟨st, false⟩) rfl h4 h16 (by rw [h3]; exact hM) (by omega) page
 refine (Give_at h1 hx.xz page hx.ok.most (by omega) (by omega)).mono ?_
 rintro e w' ⟨rfl, T', a1, a2, a3, a4⟩
 rcases t4 with ⟨p, q1, q2, q3, q4, q5⟩ | ⟨q1, q2⟩
 ·rw [q5] at a1 a2 s4 s5 s6 ⊢
  dsimp only at a1 a2 s4 s5 s6
  exact .inr ⟨p, q1, q2, by omega, q4, rfl, T', ⟨_, _, A, a1, t1, t2.trans h3, h4, h5, by omega, s5.trans h7, s4.trans h8, s6.trans h9⟩, ⟨a2, hx.ok.ins (by omega) (by rw [turnL_len]; exact hM.len) (.inl (by show st.length < 16; omega))⟩, a3, a4⟩
 ·rw [q2] at a1 a2 s4 s5 s6 ⊢
  dsimp only at a1 a2 s4 s5 s6
  rw [h3] at q1
  exact .inl ⟨q1, rfl, T', ⟨_, _, A, a1, t1, t2.trans h3, h4, h5, by omega, s5.trans h7, s4.trans h8, s6.trans h9⟩, ⟨a2, hx.ok⟩, a3, a4⟩
def takenL (tk : Nat → Bool) (n : Nat) : List Nat := (List.range n).filter tk
set_option maxRecDepth 100000 in
theorem allL_is {m : List UInt8} {tk : Nat → Bool} (h : MapI m n tk) : allL m n = takenL tk n := by
 unfold allL takenL
 refine List.filter_congr fun p hp => ?_
 exact h.all p (List.mem_range.1 hp)
set_option maxRecDepth 100000 in
set_option maxRecDepth 100000 in
theorem All_sc (h : SC w0 w z n bl T now c recs V im) (hx : XG w0 w z n gx st T U) {tk : Nat → Bool} (hM : MapI (nowD now st 0) n tk) (hn : 1 ≤ n) (hc : c ≤ 900000) :
  Calls Tryz.prog 22 #[.pointer (some ⟨gx, 0, none⟩)] w fun e w' => ∃ B k, e = .returned (.tuple #[.slice B (takenL tk n).length k, .int .i64 0]) ∧ w'.ownsRow w.heap.size 3 1 (.slice B (takenL tk n).length k) (takenL tk n).length ((intsL (takenL tk n)).map (Value.int .i64)) ∧
   ∃ T', SC w0 w' z n bl T' now (c + 1) recs V im ∧ XG w0 w' z n gx st T' U ∧ Mv T T' w w' ∧ ∀ j, (Value.slice B (takenL tk n).length k).ownBlock = some j → ¬ T' j := by
 obtain ⟨D, P, A, h1, h2, h3, h4, h5, h6, h7, h8, h9⟩ := h.ex
 have hpp := pool_pages h1
 have hpl := h2.lc.pl
 obtain ⟨g1, g2, g3, g4, g5⟩ := h2.aget (A := A) (X := ⟨st, false⟩) rfl h4 (p := 0) (by omega)
 rw [show ((0 : Nat) : Int) = 0 from rfl] at g1 g2 g3 g4 g5
 obtain ⟨s1, s2, s3, s4, s5, s6⟩ := SameG.aget D P A ⟨st, false⟩ 0
 have hpm : pmE D P A ⟨st, false⟩ = 0 := by
  unfold pmE
  rw [g1, if_neg (by exact fun h => h rfl), g2, h3, hM.is hn, if_pos rfl]
 have hal : sallL D P A ⟨st, false⟩ = takenL tk n := by
  unfold sallL
  rw [if_pos hpm, g2, h3]
  exact allL_is hM
 refine (All_at h1 hx.xz (by omega) (by omega)).mono ?_
 rw [hal, hpm]
 rintro e w' ⟨B, k, rfl, hr, T', a1, a2, a3, a4⟩
 dsimp only at a1 a2
 exact ⟨B, k, rfl, hr, T', ⟨_, _, A, a1, g3, g5.trans h3, h4, h5, by omega, s5.trans h7, s4.trans h8, s6.trans h9⟩, ⟨a2, hx.ok⟩, a3, a4⟩
set_option maxRecDepth 100000 in
set_option maxRecDepth 100000 in
theorem Done_sc (h : SC w0 w z n bl T now c recs V im) (hx : XG w0 w z n gx st T U) (tx : Int) (t1 : 0 ≤ tx) (t2 : tx ≤ 4611686018427387904) (hV : V + (st.length + 1) ≤ bl) (hr : recs.length ≤ 1000000) (him : im.length ≤ 4096) (hc : c ≤ 800000) :
  Calls Tryz.prog 15 #[.pointer (some ⟨gx, 0, none⟩), .int .i64 tx] w fun e w' => e = .returned (.tuple #[.int .i64 ((recs ++ if chgL im now st = [] then [] else [(⟨1, tx, chgL im now st⟩ : Rec)]).length : Int), .int .i64 0]) ∧
   ∃ T', SC w0 w' z n bl T' (nowD now st) (c + 32) (recs ++ if chgL im now st = [] then [] else [⟨1, tx, chgL im now st⟩]) (V + (st.length + 1)) (markF (chgL im now st) im) ∧ XZ w' w0.heap.size z.ga gx ⟨st, true⟩ T' U ∧ Off (TU T U) w w' ∧ ∀ k, T' k → T k ∨ w.heap.size ≤ k := by
 obtain ⟨D, P, A, h1, h2, h3, h4, h5, h6, h7, h8, h9⟩ := h.ex
 subst h5
 have hpp := pool_pages h1
 have hpl := h2.lc.pl
 have hla := h2.lc.la
 have hmost := hx.ok.most
 obtain ⟨s1, s2, s3, s4, s5, s6⟩ := SameG.done D P A ⟨st, false⟩ tx
 obtain ⟨E', P', q1, q2, q3, q4⟩ := h2.done (A := A) (X := ⟨st, false⟩) (by rw [h3]; exact hx.ok) rfl h4 t1 t2 (by rw [h7]; exact hV) hr
 refine (Done_at h1 hx.xz tx hmost (fun e he => by have := (hx.ok.ok e he).1; omega) (by omega) (by omega) (by omega) him).mono ?_
 rintro e w' ⟨rfl, T', a1, a2, a3, a4⟩
 rw [q1] at a1 a2 s4 s5 s6 ⊢
 dsimp only at a1 a2 s4 s5 s6
 refine ⟨rfl, T', ⟨_, _, _, a1, q2, q3.trans h3, h4, rfl, ?_, s5.trans h7, s4.trans h8, s6.trans h9⟩, a2, a3, a4⟩
 have q4' : P'.count ≤ P.count + 2 * st.length := q4
 omega
end
end Go.Proofs.YtnkeclpgpiogoaaGreat

/-! SmI -/
namespace Go.Proofs.YtnkeclpgpiogoaaGreat
open Go Go.RowKit
set_option maxRecDepth 100000 in
set_option maxHeartbeats 1000000 in
theorem SameInts_any (A B : Option Addr) (n m c d : Nat) (a b : List Int) (w : World) (ha : IR w A n a) (hb : IR w B m b) (hn : n ≤ 1000000) (hm : m ≤ 1000000) :
  Calls Tryz.prog 24 #[.slice A n c, .slice B m d] w fun e w' => e = .returned (.bool (a == b)) ∧ Below w.heap.size w w' := by
 have la := ha.len
 have lb := hb.len
 by_cases hnm : n = m
 ·subst hnm
  have t0 : ((n : Int) != (n : Int)) = false := by simp
  have HEQ : Hid (∀ k : Nat, k < n → a.getD k 0 ≠ b.getD k 0 → (a == b) = false) := Lib.hid (fun k _ he => by
   rw [beq_eq_false_iff_ne]
   rintro rfl
   exact he rfl)
  have HEND : Hid ((∀ k : Nat, k < n → a.getD k 0 = b.getD k 0) → (a == b) = true) := Lib.hid (fun he => by
   rw [beq_iff_eq]
   refine List.ext_getElem (by omega) (fun i h1 h2 => ?_)
   have := he i (by omega)
   simpa [List.getD, List.getElem?_eq_getElem h1, List.getElem?_eq_getElem h2] using this)
  generalize (a == b) = r at *
  clear la lb
  go_enter Tryz.func24, Tryz.ntmps24
  go_wp2_with fail
  go_loopw [5] (fun i wr => ∃ k : Nat, k ≤ n ∧ i = .int .i64 k ∧ Hid (∀ j : Nat, j < k → a.getD j 0 = b.getD j 0) ∧ Below w.heap.size w wr) (fun i _ => n - (RowKit.intOf i).toNat)
  case atStart => exact ⟨0, by omega, rfl, Lib.hid (fun j hj => by omega), gr_refl w⟩
  case round =>
   obtain ⟨k, hk, rfl, HK, hw⟩ := hrel
   by_cases hlt : k < n
   ·have t1 : decide ((k : Int) < (n : Int)) = true := by simp; omega
    have t2 : decide (k < n) = true := by simp; omega
    have i0 : (0 : Int) ≤ (k : Int) := Int.natCast_nonneg _
    have i1 : (k : Int) < (n : Int) := by omega
    obtain ⟨g1, o1, rfl, h1⟩ := ha.at_ hlt
    obtain ⟨g2, o2, rfl, h2⟩ := hb.at_ hlt
    have c1 := keep_of_below hw h1
    have c2 := keep_of_below hw h2
    by_cases he : a.getD k 0 = b.getD k 0
    ·have HK' : Hid (∀ j : Nat, j < k + 1 → a.getD j 0 = b.getD j 0) := Lib.hid (fun j hj => by
      rcases Nat.lt_or_ge j k with h | h
      ·exact HK.out j h
      ·rw [show j = k by omega]; exact he)
     rw [← he] at c2
     clear h1 h2 he
     generalize a.getD k 0 = x at c1 c2
     have t3 : (x != x) = false := by simp
     go_wp2_with fail
     go_quiet (fail)
     go_wp2_with fail
     go_roundw
     case rel => exact ⟨k + 1, by omega, by go_num, HK', gr_drewN hw _⟩
     case measure => simp [RowKit.intOf]; omega
    ·obtain rfl := HEQ.out k hlt he
     clear h1 h2
     have t3 : (a.getD k 0 != b.getD k 0) = true := by simpa using he
     clear he HEQ HEND HK
     generalize a.getD k 0 = x at *
     generalize b.getD k 0 = y at *
     go_wp2_with fail
     go_quiet (fail)
     go_wp2_with fail
     go_ret
     exact ⟨rfl, gr_drewN hw _⟩
   ·have t1 : decide ((k : Int) < (n : Int)) = false := by simp; omega
    have t2 : decide (k < n) = false := by simp; omega
    obtain rfl := HEND.out (fun j hj => HK.out j (by omega))
    go_wp2_with fail
    go_ret
    exact ⟨rfl, hw⟩
 ·have t0 : ((n : Int) != (m : Int)) = true := by simp; omega
  have hr : (a == b) = false := by
   rw [beq_eq_false_iff_ne]
   rintro rfl
   omega
  rw [hr]
  clear hr
  go_enter Tryz.func24, Tryz.ntmps24
  go_wp2_with fail
  go_ret
  exact ⟨rfl, gr_refl w⟩
end Go.Proofs.YtnkeclpgpiogoaaGreat

/-! AtS -/
namespace Go.Proofs.YtnkeclpgpiogoaaGreat
open Go Go.RowKit Go.Maps
set_option maxRecDepth 100000 in
theorem sorted_len : ∀ (l : List Nat) (a n : Nat), l.Pairwise (· < ·) → (∀ x ∈ l, a ≤ x ∧ x < n) → l.length ≤ n - a
 | [], _, _, _, _ => Nat.zero_le _
 | x :: r, a, n, h, hx => by
  have h' := List.pairwise_cons.1 h
  have h1 := hx x (List.mem_cons_self ..)
  have := sorted_len r (x + 1) n h'.2 (fun y hy => ⟨h'.1 y hy, (hx y (List.mem_cons_of_mem _ hy)).2⟩)
  rw [List.length_cons]
  omega
set_option maxRecDepth 100000 in
theorem XOk.len_le {n : Nat} {st : List (Nat × List UInt8)} (h : XOk n st) : st.length ≤ n := by
 have := sorted_len (st.map Prod.fst) 0 n h.srt (fun x hx => by
  obtain ⟨e, he, rfl⟩ := List.mem_map.1 hx
  exact ⟨Nat.zero_le _, (h.ok e he).1⟩)
 rwa [List.length_map] at this
set_option maxRecDepth 100000 in
theorem nowD0 {now : Nat → List UInt8} {m : List UInt8} {st : List (Nat × List UInt8)} : nowD now (insS 0 m st) 0 = m := by
 rw [nowD_ins]
 unfold updN
 rw [if_pos rfl]
section
variable {w0 w w' : World} {z : Wh} {n bl : Nat} {T : Nat → Prop}
set_option maxRecDepth 100000 in
theorem SC.new11 {gj gb : Nat} (h : AZ w0 w z (made11E n gj gb) (newP 400 n 4 1 0) newA T) (hn : n ≤ 40) : SC w0 w z n 400 T (fun _ => zP) 0 [] 0 [] :=
 ⟨_, _, _, h, CI.new (by omega) (by omega) (by omega) (by omega) (by omega), rfl, rfl, rfl, Nat.le_refl _, rfl, rfl, rfl⟩
set_option maxRecDepth 100000 in
theorem MapI.fmt {now : Nat → List UInt8} {st : List (Nat × List UInt8)} (hn : 1 ≤ n) : MapI (nowD now (insS 0 (turnL zP 0) st) 0) n (fun p => decide (p = 0)) := by
 rw [nowD0]
 exact MapI.new hn
set_option maxRecDepth 100000 in
theorem MapI.tkn {now : Nat → List UInt8} {st st2 : List (Nat × List UInt8)} {tk : Nat → Bool} (h : MapI (nowD now st 0) n tk) {f : Nat} (h0 : f ≠ 0) (hf : f < n) (hn : n ≤ 4096) : MapI (nowD now (insS 0 (turnL (nowD now st 0) f) st2) 0) n (updB tk f (!tk f)) := by
 rw [nowD0]
 exact h.turn hf (by omega) h0
end
def tkA : Nat → Bool := fun p => decide (p = 0)
def tkB : Nat → Bool := updB tkA 1 (!tkA 1)
def tkC : Nat → Bool := updB tkB 2 (!tkB 2)
def tkD : Nat → Bool := updB tkC 1 (!tkC 1)
def tkE : Nat → Bool := updB tkD 1 (!tkD 1)
set_option maxRecDepth 100000 in
set_option maxHeartbeats 1000000 in
theorem awake11_any (w : World) : Calls Tryz.prog 23 #[] w fun e w' => e = .returned (.bool true) ∧ Below w.heap.size w w' := by
 have HM := Lib.hid (made11_any 7 w w (gr_refl w))
 go_enter Tryz.func23, Tryz.ntmps23
 go_wp2_with fail
 refine HM.out.mono ?_
 rintro e w1 ⟨z, gj, gb, T, rfl, haz, hb1⟩
 rw [show n11 7 = 8 from rfl] at haz
 have hs1 := SC.new11 haz (by omega)
 have HB := Lib.hid (Begin_sc hs1)
 clear haz hb1 hs1
 go_wp2_with fail
 refine HB.out.mono ?_
 rintro e w2 ⟨gx, U, rfl, hs2, hx2, _, _, _⟩
 have HF := Lib.hid (Format_sc hs2 hx2 (by omega) (by simp))
 clear hs2 hx2
 go_wp2_with fail
 refine HF.out.mono ?_
 rintro e w3 ⟨rfl, hs3, hx3, _⟩
 have hm3 : MapI (nowD (fun _ => zP) (insS 0 (turnL zP 0) []) 0) 8 tkA := MapI.fmt (by omega)
 have HT1 := Lib.hid (Take_sc hs3 hx3 (by have := hx3.ok.len_le; omega) hm3 (by omega) (by omega))
 generalize insS 0 (turnL zP 0) [] = st3 at *
 have HM3 := Lib.hid hm3
 clear hs3 hx3 hm3
 go_wp2_with fail
 refine HT1.out.mono ?_
 rintro e w4 (⟨q, _⟩ | ⟨f, _, _, _, hf, rfl, T4, hs4, hx4, _, _⟩)
 ·exact absurd (q 1 (by omega)) (by decide)
 obtain rfl : f = 1 := by rw [hf]; rfl
 have hm4 : MapI _ 8 tkB := HM3.out.tkn (st2 := insS 1 zP st3) (f := 1) (by omega) (by omega) (by omega)
 have HT2 := Lib.hid (Take_sc hs4 hx4 (by have := hx4.ok.len_le; omega) hm4 (by omega) (by omega))
 have HM4 := Lib.hid hm4
 generalize insS 0 (turnL (nowD (fun _ => zP) st3 0) 1) (insS 1 zP st3) = st4 at *
 clear hs4 hx4 hf hm4
 go_wp2_with fail
 refine HT2.out.mono ?_
 rintro e w5 (⟨q, _⟩ | ⟨f, _, _, _, hf, rfl, T5, hs5, hx5, _, _⟩)
 ·exact absurd (q 2 (by omega)) (by decide)
 obtain rfl : f = 2 := by rw [hf]; rfl
 have hm5 : MapI _ 8 tkC := HM4.out.tkn (st2 := insS 2 zP st4) (f := 2) (by omega) (by omega) (by omega)
 have HG := Lib.hid (Give_sc hs5 hx5 (by have := hx5.ok.len_le; omega) hm5 (by omega) (by omega) 1)
 have HM5 := Lib.hid hm5
 generalize insS 0 (turnL (nowD (fun _ => zP) st4 0) 2) (insS 2 zP st4) = st5 at *
 clear hs5 hx5 hf hm5
 go_wp2_with fail
 refine HG.out.mono ?_
 rintro e w6 (⟨q, _⟩ | ⟨f, hf, _, _, _, rfl, T6, hs6, hx6, _, _⟩)
 ·exact absurd ⟨by omega, by omega, by decide⟩ q
 obtain rfl : f = 1 := by omega
 have hm6 : MapI _ 8 tkD := HM5.out.tkn (st2 := st5) (f := 1) (by omega) (by omega) (by omega)
 have HT3 := Lib.hid (Take_sc hs6 hx6 (by have := hx6.ok.len_le; omega) hm6 (by omega) (by omega))
 have HM6 := Lib.hid hm6
 generalize insS 0 (turnL (nowD (fun _ => zP) st5 0) 1) st5 = st6 at *
 clear hs6 hx6 hf hm6
 go_wp2_with fail
 refine HT3.out.mono ?_
 rintro e w7 (⟨q, _⟩ | ⟨f, _, _, _, hf, rfl, T7, hs7, hx7, _, _⟩)
 ·exact absurd (q 1 (by omega)) (by decide)
 obtain rfl : f = 1 := by rw [hf]; rfl
 have hm7 : MapI _ 8 tkE := HM6.out.tkn (st2 := insS 1 zP st6) (f := 1) (by omega) (by omega) (by omega)
 have HA := Lib.hid (All_sc hs7 hx7 hm7 (by omega) (by omega))
 clear hs7 hx7 hf hm7
 rw [show takenL tkE 8 = [0, 1, 2] by decide] at HA
 go_wp2_with fail
 refine HA.out.mono ?_
 rintro e w8 ⟨B, k, rfl, hr, T8, hs8, hx8, _, _⟩
 have HBL : Hid (∀ w9, Below w8.heap.size w8 w9 → Below w.heap.size w w9) := Lib.hid (fun w9 hb => by
  obtain ⟨D, P, A, h1, _⟩ := hs8.ex
  exact gr_trans h1.bel hb)
 have HIR := Lib.hid (IR.of_own hr)
 clear hs8 hx8 hr
 go_wp2_with fail
 refine (SameInts_any B (some ⟨w8.heap.size, 0, none⟩) 3 3 k 3 [0, 1, 2] [0, 1, 2] _ (HIR.out.below (gr_alloc (gr_refl w8) _)) (IR.litAt w8 3 [0, 1, 2] #[.int .i64 0, .int .i64 1, .int .i64 2] w8.heap.size 3 rfl rfl rfl) (by omega) (by omega)).mono ?_
 rintro e w9 ⟨rfl, hb9⟩
 have HF := Lib.hid (HBL.out w9 (gr_trans (gr_alloc (gr_refl w8) _) hb9))
 clear hb9
 rw [show (([0, 1, 2] : List Int) == [0, 1, 2]) = true from rfl]
 go_wp2_with fail
 go_ret
 exact ⟨rfl, HF.out⟩
end Go.Proofs.YtnkeclpgpiogoaaGreat

/-! ApI -/
namespace Go.Proofs.YtnkeclpgpiogoaaGreat
open Go.RowKit
def OI (w : World) (base : Nat) (v : Value) (l : List Int) : Prop := w.ownsRow base 3 1 v l.length (l.map (Value.int .i64))
set_option maxRecDepth 100000 in
theorem info_int64 : (Tryz.prog.info? 3).map (fun i => (i.zero, i.size, i.bytes)) = some (some (.int .i64 0), 1, 8) := by kernel_rfl
section
variable {w w' : World} {base : Nat} {v : Value} {l : List Int}
set_option maxRecDepth 100000 in
theorem OI.form (h : OI w base v l) : ∃ A c, v = .slice A l.length c ∧ IR w A l.length l ∧ l.length ≤ c ∧ c ≤ maxLen := by
 rcases h.2 with ⟨rfl, h0⟩ | ⟨g, cap, cur, rfl, hb, hg, hn, hm, hc, ht⟩
 ·have : l = [] := List.eq_nil_of_length_eq_zero h0
  subst this
  exact ⟨none, 0, rfl, IR.none_ _ _, Nat.le_refl _, Nat.zero_le _⟩
 ·refine ⟨_, cap, rfl, ⟨by simp, fun _ => ⟨_, rfl, World.ownsRow.cells h (g := g) rfl⟩⟩, hn, hm⟩
set_option maxRecDepth 100000 in
theorem OI.formN (h : OI w base v l) {n : Nat} (hn : l.length = n) : ∃ A c, v = .slice A n c ∧ IR w A n l ∧ n ≤ c ∧ c ≤ maxLen := by
 subst hn
 exact h.form
set_option maxRecDepth 100000 in
theorem OI.below (h : OI w base v l) (hb : Below w.heap.size w w') : OI w' base v l :=
 World.ownsRow.kept h (row := none) ⟨hb.os, hb.tape, hb.output, hb.size, fun k hk _ => hb.block k hk⟩ (by cases v.ownBlock <;> simp)
set_option maxRecDepth 100000 in
theorem OI.of_own {n : Nat} {xs : List Value} (h : w.ownsRow base 3 1 v n xs) (e : xs = l.map (Value.int .i64)) : OI w base v l := by
 subst e
 have : n = l.length := by have := h.1; simp at this; exact this.symm
 subst this
 exact h
end
set_option maxRecDepth 100000 in
theorem IR.pre {w : World} {A : Option Addr} {n : Nat} {l : List Int} (h : IR w A n l) {j : Nat} (hj : j ≤ n) : IR w A j (l.take j) := by
 refine ⟨?_, fun hn => ?_⟩
 ·have := h.len; simp; omega
 ·obtain ⟨ad, e, hc⟩ := h.2 (by omega)
  refine ⟨ad, e, fun i u hu => hc i u ?_⟩
  rw [List.map_take, List.getElem?_take] at hu
  split at hu
  ·exact hu
  ·cases hu
def mkW (k i : Nat) : Int := wrap64 (wrap64 (1000003 * wrap64 ((k : Int) + 7)) + (i : Int))
set_option maxRecDepth 100000 in
set_option maxHeartbeats 400000 in
theorem mark_any (k i : Nat) (w : World) :
  Calls Tryz.prog 72 #[.int .i64 (k : Int), .int .i64 (i : Int)] w fun e w' => e = .returned (.int .i64 (mkW k i)) ∧ w = w' := by
 go_enter Tryz.func72, Tryz.ntmps72
 go_wp2_with fail
 go_ret
 unfold mkW
 exact ⟨rfl, rfl⟩
set_option maxRecDepth 100000 in
theorem mark_of (k i : Nat) (x : Int) (hx : x = i) (w : World) :
  Calls Tryz.prog 72 #[.int .i64 (k : Int), .int .i64 x] w fun e w' => e = .returned (.int .i64 (mkW k i)) ∧ w = w' := by
 subst hx
 exact mark_any k i w
def marksI (k n : Nat) : List Int := (List.range n).map (mkW k)
set_option maxRecDepth 100000 in
theorem marksI_len (k n : Nat) : (marksI k n).length = n := by simp [marksI]
set_option maxRecDepth 100000 in
theorem marksI_succ (k n : Nat) : marksI k (n + 1) = marksI k n ++ [mkW k n] := by simp [marksI, List.range_succ]
set_option maxRecDepth 100000 in
theorem marksI_get (k n i : Nat) (h : i < n) : (marksI k n).getD i 0 = mkW k i := by unfold marksI; rw [List.getD_eq_getElem?_getD, List.getElem?_map, List.getElem?_range h, Option.map_some, Option.getD_some]
set_option maxRecDepth 100000 in
theorem marksI_take (k n i : Nat) (h : i ≤ n) : (marksI k n).take i = marksI k i := by
 unfold marksI
 rw [← List.map_take, List.take_range, Nat.min_eq_left h]
set_option maxRecDepth 100000 in
theorem take_set_succI {l : List Int} {i k : Nat} (hi : i < l.length) (h : l.take i = marksI k i) : (l.set i (mkW k i)).take (i + 1) = marksI k (i + 1) := by
 rw [List.take_succ_eq_append_getElem (by rw [List.length_set]; exact hi), List.take_set, List.set_eq_of_length_le (by rw [List.length_take]; omega), h, marksI_succ]
 simp
section
variable {w w' : World} {base g n cap : Nat} {l : List Int} {A : Option Addr}
set_option maxRecDepth 100000 in
theorem IR.grown {row : Option Nat} (h : IR w A n l) (hg : w.grownBy w' row) (hne : ∀ ad, A = some ad → some ad.block ≠ row) : IR w' A n l :=
 ⟨h.1, fun h0 => by
  obtain ⟨ad, e, hc⟩ := h.2 h0
  refine ⟨ad, e, fun j u hu => ?_⟩
  have := hc j u hu
  rw [← this]
  refine World.cell?_of_block (hg.block _ ?_ ?_)
  ·exact World.block_lt_of_cell? w _ this
  ·rw [block_of_add]; exact hne ad e⟩
set_option maxRecDepth 100000 in
theorem oiA_some (h : OI w base (.slice A n cap) l) (hn : l.length = n) (h0 : 0 < n) : ∃ g, A = some ⟨g, 0, none⟩ ∧ n ≤ cap ∧ cap ≤ maxLen ∧ base ≤ g := by
 rcases h.2 with ⟨_, e⟩ | ⟨g', cap', cur, e, hb, hgb, h1, h2, _⟩
 ·omega
 ·injection e with e1 e2 e3
  subst e1 e3
  exact ⟨g', rfl, by omega, h2, hb⟩
set_option maxRecDepth 100000 in
theorem oiIR (h : OI w base (.slice A n cap) l) (hn : l.length = n) : IR w A n l := by
 obtain ⟨A', c', e, hr, _, _⟩ := h.formN hn
 injection e with e1 e2 e3
 subst e1
 exact hr
set_option maxRecDepth 100000 in
theorem oi_ne {v : Value} {G : Nat} {cs : Array Value} {t : TypeId} {fr : Nat × Nat} (h : OI w base v l) (hG : w.heap[G]? = some (.cells cs t fr)) (ht : t ≠ 3) : v.ownBlock ≠ some G := by
 rcases h.2 with ⟨rfl, _⟩ | ⟨g', cap', cur, rfl, hb, hgb, _⟩
 ·simp [Value.ownBlock]
 ·intro e
  simp [Value.ownBlock] at e
  subst e
  rw [hgb] at hG
  cases hG
  exact ht rfl
set_option maxRecDepth 100000 in
theorem oi_kept {v : Value} {row : Option Nat} (h : OI w base v l) (hg : w.grownBy w' row) (hne : v.ownBlock = none ∨ v.ownBlock ≠ row) : OI w' base v l := World.ownsRow.kept h hg hne
end
set_option maxRecDepth 100000 in
theorem oin_cur {w : World} {base g n cap : Nat} {l : List Int} (h : OI w base (.slice (some ⟨g, 0, none⟩) n cap) l) (hn : l.length = n) : ∃ cur : Array Value, w.heap[g]? = some (.cells cur 3 (0, 0)) ∧ base ≤ g ∧ n ≤ cap ∧ cap ≤ maxLen ∧ cur.size = cap ∧ cur.toList.take n = l.map (Value.int .i64) := by
 rcases h.2 with ⟨e, _⟩ | ⟨g', cap', cur, e, hb, hg, hnc, hm, hcu, ht⟩
 ·cases e
 ·injection e with e1 e2 e3
  injection e1 with e1
  injection e1 with e1
  subst e1 e3
  exact ⟨cur, hg, hb, by omega, hm, by simpa using hcu, by rw [← ht, hn]; simp⟩
set_option maxRecDepth 100000 in
theorem oin_cell {w : World} {base g n cap : Nat} {l : List Int} (h : OI w base (.slice (some ⟨g, 0, none⟩) n cap) l) (hn : l.length = n) {j : Nat} (hj : j < n) : w.cell? ⟨g, j, none⟩ = some (.int .i64 (l.getD j 0)) := by
 obtain ⟨cur, hg, _, _, _, hz, ht⟩ := oin_cur h hn
 rw [cell_of_row w g j _ _ _ hg]
 have : cur.toList[j]? = (l.map (Value.int .i64))[j]? := by rw [← ht, List.getElem?_take, if_pos hj]
 rw [Array.getElem?_toList] at this
 rw [this, List.getElem?_map, List.getElem?_eq_getElem (by omega)]
 simp [List.getD, List.getElem?_eq_getElem (show j < l.length by omega)]
set_option maxRecDepth 100000 in
theorem oin_frozen {w : World} {base g n cap : Nat} {l : List Int} (h : OI w base (.slice (some ⟨g, 0, none⟩) n cap) l) (hn : l.length = n) (j : Nat) : w.frozen? ⟨g, j, none⟩ = false := by
 obtain ⟨cur, hg, _, _, _, hz, ht⟩ := oin_cur h hn
 simp [World.frozen?, hg]
set_option maxRecDepth 100000 in
theorem oin_set {w : World} {base g n cap : Nat} {l : List Int} (h : OI w base (.slice (some ⟨g, 0, none⟩) n cap) l) (hn : l.length = n) (j : Nat) (x : Int) : OI (w.setCell ⟨g, j, none⟩ ((Value.int .i64) x)) base (.slice (some ⟨g, 0, none⟩) n cap) (l.set j x) := by
 obtain ⟨cur, hg, hb, hnc, hm, hz, ht⟩ := oin_cur h hn
 refine ⟨by simp, .inr ⟨g, cap, cur.setIfInBounds j ((Value.int .i64) x), ?_, hb, ?_, ?_, hm, ?_, ?_⟩⟩
 ·rw [List.length_set, hn]
 ·simp only [World.setCell, Array.getElem?_modify, if_pos, hg]
  simp
 ·rw [List.length_set]; omega
 ·simp [hz]
 ·rw [List.length_set, hn, Nat.mul_one, Array.toList_setIfInBounds, List.take_set, ht, List.map_set]
structure AQ1 (w : World) (base n : Nat) (A : Nat → Option Addr) (N C : Nat → Nat) (L : Nat → List Int) : Prop where
 ob : ∀ j, j < n → OI w base (apV A N C j) (L j)
 len : ∀ j, j < n → (L j).length = N j
set_option maxRecDepth 100000 in
theorem AQ1.set {w : World} {base n : Nat} {A : Nat → Option Addr} {N C : Nat → Nat} {L : Nat → List Int} (h : AQ1 w base n A N C L) (hd : ApD n A N C) {k i g : Nat} (hk : k < n) (hA : A k = some ⟨g, 0, none⟩) (x : Int) :
  AQ1 (w.setCell ⟨g, i, none⟩ ((Value.int .i64) x)) base n A N C (fun j => if j = k then (L k).set i x else L j) := by
 refine ⟨fun j hj => ?_, fun j hj => ?_⟩
 ·by_cases e : j = k
  ·subst e
   rw [if_pos rfl]
   have := h.ob j hj
   unfold apV at this ⊢
   rw [hA] at this ⊢
   exact oin_set this (h.len j hj) i x
  ·rw [if_neg e]
   refine oi_kept (h.ob j hj) (grown_set w g i _) ?_
   have := hd k j hk hj (Ne.symm e)
   unfold apV at this ⊢
   rw [hA] at this
   simpa [Value.ownBlock] using this
 ·by_cases e : j = k
  ·subst e
   rw [if_pos rfl, List.length_set]
   exact h.len j hj
  ·rw [if_neg e]
   exact h.len j hj
structure AQ3 (w : World) (base n : Nat) (A : Nat → Option Addr) (N C : Nat → Nat) (k : Nat) (Gv : Nat → Value) : Prop where
 old : ∀ j, k ≤ j → j < n → OI w base (apV A N C j) (marksI j (N j))
 own : ∀ j, j < k → OI w base (Gv j) (marksI j (N j + 40))
 rd : ∀ j, j < k → IR w (A j) (N j) (marksI j (N j))
 ap : ∀ j, j < k → ∀ i, k ≤ i → i < n → (Gv j).ownBlock = none ∨ (Gv j).ownBlock ≠ (apV A N C i).ownBlock
set_option maxRecDepth 100000 in
theorem AQ3.step {w w' : World} {base n : Nat} {A : Nat → Option Addr} {N C : Nat → Nat} {k : Nat} {Gv : Nat → Value} (h : AQ3 w base n A N C k Gv) (hd : ApD n A N C) (hk : k < n) (hg : w.grownBy w' (apV A N C k).ownBlock) {gv : Value}
  (ho : OI w' base gv (marksI k (N k + 40))) (hr : IR w' (A k) (N k) (marksI k (N k))) (hb : gv.ownBlock = (apV A N C k).ownBlock ∨ ∃ b, gv.ownBlock = some b ∧ w.heap.size ≤ b) : AQ3 w' base n A N C (k + 1) (fun j => if j = k then gv else Gv j) := by
 refine ⟨fun j h1 h2 => ?_, fun j hj => ?_, fun j hj => ?_, fun j hj i h1 h2 => ?_⟩
 ·exact oi_kept (h.old j (by omega) h2) hg (hd k j hk h2 (by omega))
 ·by_cases e : j = k
  ·subst e; rw [if_pos rfl]; exact ho
  ·rw [if_neg e]; exact oi_kept (h.own j (by omega)) hg (h.ap j (by omega) k (Nat.le_refl _) hk)
 ·by_cases e : j = k
  ·subst e; exact hr
  ·refine (h.rd j (by omega)).grown hg fun ad ea => ?_
   have := hd k j hk (by omega) (Ne.symm e)
   unfold apV at this ⊢
   rw [ea] at this
   simpa [Value.ownBlock] using this
 ·by_cases e : j = k
  ·subst e
   rw [if_pos rfl]
   rcases hb with hb | ⟨b, hb, hbb⟩
   ·rw [hb]
    rcases hd i j h2 hk (by omega) with h3 | h3
    ·exact .inl h3
    ·exact .inr h3
   ·refine .inr fun e' => ?_
    have := ((h.old i (by omega) h2).lt b (by rw [← e', hb])).2
    omega
  ·rw [if_neg e]; exact h.ap j (by omega) i (by omega) h2
set_option maxRecDepth 100000 in
theorem AQ3.other {w w' : World} {base n : Nat} {A : Nat → Option Addr} {N C : Nat → Nat} {k G : Nat} {Gv : Nat → Value} (h : AQ3 w base n A N C k Gv) (hk : k ≤ n) (hg : w.grownBy w' (some G)) {cs : Array Value} {t : TypeId} {fr : Nat × Nat} (hG : w.heap[G]? = some (.cells cs t fr)) (ht : t ≠ 3)
  (hA : ∀ j, j < n → ∀ ad, A j = some ad → ad.block ≠ G) : AQ3 w' base n A N C k Gv :=
 ⟨fun j h1 h2 => oi_kept (h.old j h1 h2) hg (.inr (oi_ne (h.old j h1 h2) hG ht)), fun j hj => oi_kept (h.own j hj) hg (.inr (oi_ne (h.own j hj) hG ht)),
  fun j hj => (h.rd j hj).grown hg fun ad ea e => hA j (by omega) ad ea (by injection e), h.ap⟩
set_option maxRecDepth 100000 in
theorem info_ints : (Tryz.prog.info? 22).map (fun i => (i.zero, i.size, i.bytes)) = some (some (.slice none 0 0), 1, 24) := by kernel_rfl
set_option maxRecDepth 100000 in
theorem run_mk_listsI (n : Nat) (hn : n ≤ 4398046511104) (x : Int) (hx : x = n) (u : World) :
  (Instr.makeSlice 48 (.int .i64 x) (.int .i64 x)).run Tryz.prog u = .ok (.slice (some ⟨u.heap.size, 0, none⟩) n n) (u.alloc (.cells (gsArr n 0 (fun _ => .slice none 0 0)) 22)) := by
 obtain ⟨i0, hi0, hz0, hz1, hz2⟩ := info_parts info_ints
 subst hx
 have h := run_make (P := Tryz.prog) u 48 22 i0 (.slice none 0 0) Tryz.underlying48 hi0 hz0 .i64 .i64 (n : Int) (n : Int) (by omega) (by omega) (by rw [hz2]; omega) (by omega)
 have e : madeCells #[.slice none 0 0] n = gsArr n 0 (fun _ => .slice none 0 0) := by
  apply Array.ext'
  rw [toList_madeCells_one]
  unfold gsArr
  simp only [Nat.not_lt_zero, if_false, List.map_const', List.length_range]
 simpa [hz1, Value.cells, e] using h
set_option maxRecDepth 100000 in
set_option maxHeartbeats 4000000 in
theorem ApartInts_off (gl cl n base : Nat) (lcur : Array Value) (fr : Nat × Nat) (A : Nat → Option Addr) (N C : Nat → Nat) (L : Nat → List Int) (w : World) (h1 : AQ1 w base n A N C L) (hd : ApD n A N C) (hls : w.heap[gl]? = some (.cells lcur 22 fr))
  (hlc : ∀ j, j < n → lcur[j]? = some (apV A N C j)) (hN : ∀ j, j < n → N j ≤ 1000000) (hbase : base ≤ w.heap.size) (hn : n ≤ 4398046511104) :
  Calls Tryz.prog 25 #[.slice (some ⟨gl, 0, none⟩) n cl] w fun e w' => e = .returned (.bool true) ∧ Off (apS n A N C) w w' := by
 obtain ⟨i0, hi0, hz0, hz1, hz2⟩ := info_parts info_int64
 have mk := run_mk_listsI n hn n rfl
 have HD := Lib.hid hd
 have HLC := Lib.hid hlc
 have HN := Lib.hid hN
 have HA : Hid (∀ j, j < n → ∀ ad, A j = some ad → ad.block < w.heap.size) := Lib.hid (fun j hj ad ea => by
  have := ((h1.ob j hj).lt ad.block (by unfold apV; rw [ea]; rfl)).2
  exact this)
 have hgl : gl < w.heap.size := (Array.getElem?_eq_some_iff.1 hls).1
 clear hd hlc hN
 have hlsC : ∀ (W : World), W.heap[gl]? = some (.cells lcur 22 fr) → ∀ j, j < n → W.cell? ⟨gl, j, none⟩ = some (apV A N C j) := fun W hW j hj => by
  rw [cell_of_row W gl j _ _ _ hW]; exact HLC.out j hj
 have HLS := Lib.hid hlsC
 clear hlsC
 go_enter Tryz.func25, Tryz.ntmps25
 go_wp2_with fail
 have hG0 : (w.alloc (.cells (gsArr n 0 (fun _ => .slice none 0 0)) 22)).heap[w.heap.size]? = some (.cells (gsArr n 0 (fun _ => .slice none 0 0)) 22 (0, 0)) := heap_alloc_new w _
 have hl0 : (w.alloc (.cells (gsArr n 0 (fun _ => .slice none 0 0)) 22)).heap[gl]? = some (.cells lcur 22 fr) := (Below.heap_alloc w _ gl hgl).trans hls
 have hA0 : AQ1 (w.alloc (.cells (gsArr n 0 (fun _ => .slice none 0 0)) 22)) base n A N C L := ⟨fun j hj => (h1.ob j hj).below (gr_alloc (gr_refl w) _), h1.len⟩
 have hb0 : Off (apS n A N C) w (w.alloc (.cells (gsArr n 0 (fun _ => .slice none 0 0)) 22)) := (Off.refl _ w).alloc _
 generalize w.alloc (.cells (gsArr n 0 (fun _ => .slice none 0 0)) 22) = w0 at *
 generalize hGe : w.heap.size = G at *
 have HGE := Lib.hid hGe
 clear h1 hls mk hGe
 go_loopw [4, 5] (fun p _q wr => ∃ (k : Nat) (L : Nat → List Int), k ≤ n ∧ p = .int .i64 k ∧ Hid (AQ1 wr base n A N C L) ∧ Hid (∀ j, j < k → L j = marksI j (N j)) ∧ Hid (wr.heap[gl]? = some (.cells lcur 22 fr)) ∧
  Hid (wr.heap[G]? = some (.cells (gsArr n 0 (fun _ => .slice none 0 0)) 22 (0, 0))) ∧ Off (apS n A N C) w wr) (fun p _ _ => n - (RowKit.intOf p).toNat)
 case atStart => exact ⟨0, L, Nat.zero_le _, rfl, Lib.hid hA0, Lib.hid (fun j hj => by omega), Lib.hid hl0, Lib.hid hG0, hb0⟩
 case round =>
  clear hA0 hl0 hG0 hb0
  obtain ⟨k, L, hk, rfl, HAP, HM, HL, HG, hb⟩ := hrel
  by_cases hlt : k < n
  ·have t1 : decide ((k : Int) < (n : Int)) = true := by simp; omega
   have t1' : decide (k < n) = true := by simp; omega
   go_wp2_with fail
   obtain ⟨wo, hwo⟩ : ∃ wo : World, wo = wr := ⟨_, rfl⟩
   subst hwo
   go_loopw [5] (fun q wr => ∃ (i : Nat) (L : Nat → List Int), i ≤ N k ∧ q = .int .i64 i ∧ Hid (AQ1 wr base n A N C L) ∧ Hid (∀ j, j < k → L j = marksI j (N j)) ∧ Hid ((L k).take i = marksI k i) ∧ Hid (wr.heap[gl]? = some (.cells lcur 22 fr)) ∧
    Hid (wr.heap[G]? = some (.cells (gsArr n 0 (fun _ => .slice none 0 0)) 22 (0, 0))) ∧ Off (apS n A N C) w wr) (fun q _ => N k - (RowKit.intOf q).toNat)
   case atStart => exact ⟨0, L, Nat.zero_le _, rfl, HAP, HM, Lib.hid rfl, HL, HG, hb⟩
   case round =>
    clear HAP HM HL HG hb L
    obtain ⟨i, L, hi, rfl, HAP, HM, HT, HL, HG, hb⟩ := hrel
    have hNk := HN.out k hlt
    have cV := HLS.out wr HL.out k hlt
    unfold apV at cV
    by_cases hlt2 : i < N k
    ·obtain ⟨g, eA, hc1, hc2, hbg⟩ := oiA_some (HAP.out.ob k hlt) (HAP.out.len k hlt) (by omega)
     have hob : OI wr base (.slice (some ⟨g, 0, none⟩) (N k) (C k)) (L k) := by have := HAP.out.ob k hlt; unfold apV at this; rw [eA] at this; exact this
     have c1 := oin_cell hob (HAP.out.len k hlt) (j := i) hlt2
     have z1 := oin_frozen hob (HAP.out.len k hlt) i
     rw [eA] at cV
     have hgG : g ≠ G := fun e => oi_ne hob HG.out (by decide) (by simp [Value.ownBlock, e])
     have hggl : g ≠ gl := fun e => oi_ne hob HL.out (by decide) (by simp [Value.ownBlock, e])
     have HAP' := Lib.hid (HAP.out.set HD.out (i := i) hlt eA (mkW k i))
     have HM' : Hid (∀ j, j < k → (if j = k then (L k).set i (mkW k i) else L j) = marksI j (N j)) := Lib.hid (fun j hj => by rw [if_neg (by omega)]; exact HM.out j hj)
     have HT' : Hid ((if k = k then (L k).set i (mkW k i) else L k).take (i + 1) = marksI k (i + 1)) := Lib.hid (by rw [if_pos rfl]; exact take_set_succI (by rw [HAP.out.len k hlt]; exact hlt2) HT.out)
     have HL' : Hid ((wr.setCell ⟨g, i, none⟩ ((Value.int .i64) (mkW k i))).heap[gl]? = some (.cells lcur 22 fr)) := Lib.hid ((Below.heap_setCell _ _ _ gl (Ne.symm hggl)).trans HL.out)
     have HG' : Hid ((wr.setCell ⟨g, i, none⟩ ((Value.int .i64) (mkW k i))).heap[G]? = some (.cells (gsArr n 0 (fun _ => .slice none 0 0)) 22 (0, 0))) := Lib.hid ((Below.heap_setCell _ _ _ G (Ne.symm hgG)).trans HG.out)
     have hb' : Off (apS n A N C) w (wr.setCell ⟨g, i, none⟩ ((Value.int .i64) (mkW k i))) := hb.setCell (g := g) (j := i) _ ⟨k, hlt, by unfold apV; rw [eA]; rfl⟩
     have hi0' : (0 : Int) ≤ (k : Int) := Int.natCast_nonneg _
     have hi1' : (k : Int) < (n : Int) := by omega
     generalize ((L k).getD i 0) = y0 at *
     clear HAP HM HT HL HG hb hob hgG hggl
     go_wp2_with fail
     go_region_with (go_at_call 72; refine (mark_any k i _).mono ?_; rintro e w' ⟨rfl, rfl⟩)
     all_goals
      go_wp2_with fail
      go_roundw
      case rel => exact ⟨i + 1, _, by omega, by go_num, Lib.hid ⟨fun j hj => HAP'.out.ob j hj, HAP'.out.len⟩, HM', Lib.hid (by simpa using HT'.out), Lib.hid HL'.out, Lib.hid HG'.out, hb'.drewN 1⟩
      case measure => simp [RowKit.intOf]; omega
    ·obtain rfl : i = N k := by omega
     have HM' : Hid (∀ j, j < k + 1 → L j = marksI j (N j)) := Lib.hid (fun j hj => by
      by_cases e : j = k
      ·subst e
       have := HT.out
       rwa [List.take_of_length_le (Nat.le_of_eq (HAP.out.len j hlt))] at this
      ·exact HM.out j (by omega))
     clear HM HT
     go_wp2_with fail
     go_roundw
     case rel => exact ⟨k + 1, L, by omega, by go_num, HAP, HM', HL, HG, hb⟩
     case measure => simp [RowKit.intOf]; omega
  ·obtain rfl : k = n := by omega
   have H3 : Hid (AQ3 wr base k A N C 0 (fun _ => .slice none 0 0)) := Lib.hid ⟨fun j _ hj => by have := HAP.out.ob j hj; rw [HM.out j hj] at this; exact this, fun j hj => by omega, fun j hj => by omega, fun j hj => by omega⟩
   clear HAP HM
   go_wp2_with fail
   obtain ⟨wo, hwo⟩ : ∃ wo : World, wo = wr := ⟨_, rfl⟩
   subst hwo
   go_loopw [6, 7, 8] (fun p _g _q wr => ∃ (m : Nat) (Gv : Nat → Value), m ≤ k ∧ p = .int .i64 m ∧ Hid (AQ3 wr base k A N C m Gv) ∧ Hid (wr.heap[gl]? = some (.cells lcur 22 fr)) ∧
    Hid (wr.heap[G]? = some (.cells (gsArr k m Gv) 22 (0, 0))) ∧ Off (apS k A N C) w wr) (fun p _ _ _ => k - (RowKit.intOf p).toNat)
   case atStart => exact ⟨0, _, Nat.zero_le _, rfl, H3, HL, HG, hb⟩
   case round =>
    clear H3 HL HG hb
    obtain ⟨m, Gv, hm, rfl, H3, HL, HG, hb⟩ := hrel
    by_cases hlt : m < k
    ·have t1 : decide ((m : Int) < (k : Int)) = true := by simp; omega
     have t1' : decide (m < k) = true := by simp; omega
     have hNm := HN.out m hlt
     have cV := HLS.out wr HL.out m hlt
     unfold apV at cV
     go_wp2_with fail
     obtain ⟨wk, hwk⟩ : ∃ wk : World, wk = wr := ⟨_, rfl⟩
     subst hwk
     have hobk := H3.out.old m (Nat.le_refl _) hlt
     have hbsz : base ≤ wk.heap.size := by have := HGE.out; have := hb.size; omega
     go_loopw [7, 8] (fun g q wr => ∃ (j : Nat), j ≤ 40 ∧ q = .int .i64 j ∧ Hid (OI wr base g (marksI m (N m + j))) ∧ Hid (IR wr (A m) (N m) (marksI m (N m))) ∧ Hid (wk.grownBy wr (apV A N C m).ownBlock) ∧
      Hid (g.ownBlock = (apV A N C m).ownBlock ∨ ∃ b, g.ownBlock = some b ∧ wk.heap.size ≤ b) ∧ Off (apS k A N C) w wr) (fun _ q _ => 40 - (RowKit.intOf q).toNat)
     case atStart => exact ⟨0, by omega, rfl, Lib.hid hobk, Lib.hid (oiIR hobk (marksI_len _ _)), Lib.hid (World.grownBy.refl wk _), Lib.hid (.inl rfl), hb⟩
     case round =>
      obtain ⟨j, hj, rfl, HO, HB, HGR, HBL, hbj⟩ := hrel
      have hl2 : Hid (wr.heap[gl]? = some (.cells lcur 22 fr)) := Lib.hid ((HGR.out.block gl (Array.getElem?_eq_some_iff.1 HL.out).1 (fun e => oi_ne hobk HL.out (by decide) e.symm)).trans HL.out)
      have cV := HLS.out wr hl2.out m hlt
      unfold apV at cV
      by_cases hlt2 : j < 40
      ·have t2 : decide ((j : Int) < 40) = true := by simp; omega
       have hw1 : IntKind.i64.wrap ((N m : Int) + (j : Int)) = ((N m + j : Nat) : Int) := by rw [IntKind.wrap_i64]; omega
       have hml := marksI_len m (N m + j)
       have ho2 := HO.out
       unfold OI at ho2
       rw [hml] at ho2
       have HO2 := Lib.hid ho2
       clear hml HO ho2
       obtain ⟨Ag, cg, rfl, _, _⟩ := own_form HO2.out
       have hmx : N m + j + 1 ≤ maxLen := by simp only [maxLen]; omega
       have hszj : base ≤ wr.heap.size + 1 := by have := HGR.out.size; omega
       have HR1 : ∀ W : World, Rd (W.alloc (.cells #[.int .i64 (mkW m (N m + j))] 3)) 1 (some ⟨W.heap.size, 0, none⟩) 1 [(Value.int .i64) (mkW m (N m + j))] := fun W => Rd.new W _ #[_] 1 1 rfl
       have HR := Lib.hid HR1
       have HFIN : Hid (∀ (v4 : Value) (w4 : World), w4.ownsRow base 3 1 v4 (N m + j + 1) ((marksI m (N m + j)).map (Value.int .i64) ++ [(Value.int .i64) (mkW m (N m + j))]) → (wr.alloc (.cells #[.int .i64 (mkW m (N m + j))] 3)).grownBy w4 (Value.slice Ag (N m + j) cg).ownBlock →
         (v4.ownBlock = (Value.slice Ag (N m + j) cg).ownBlock ∨ (v4.ownBlock = some (wr.heap.size + 1) ∧ (wr.alloc (.cells #[.int .i64 (mkW m (N m + j))] 3)).grownBy w4 none)) → OI w4 base v4 (marksI m (N m + (j + 1))) ∧ IR w4 (A m) (N m) (marksI m (N m)) ∧ wk.grownBy w4 (apV A N C m).ownBlock ∧
         (v4.ownBlock = (apV A N C m).ownBlock ∨ ∃ b, v4.ownBlock = some b ∧ wk.heap.size ≤ b) ∧ Off (apS k A N C) w w4) := Lib.hid (by
        intro v4 w4 hown4 hg4 hbl4
        have hnew : wk.heap.size ≤ wr.heap.size := HGR.out.size
        have hobk : OI wk base (apV A N C m) (marksI m (N m)) := H3.out.old m (Nat.le_refl _) hlt
        have hgr : wr.grownBy w4 (Value.slice Ag (N m + j) cg).ownBlock := ⟨hg4.os, hg4.tape, hg4.output, Nat.le_trans (by simp) hg4.size, fun b hb hne => (hg4.block b (by simp; omega) hne).trans (Below.heap_alloc wr _ b hb)⟩
        have hgr2 : wk.grownBy w4 (apV A N C m).ownBlock := by
         refine ⟨by rw [hgr.os, HGR.out.os], by rw [hgr.tape, HGR.out.tape], by rw [hgr.output, HGR.out.output], Nat.le_trans hnew hgr.size, fun b hb hne => ?_⟩
         rw [hgr.block b (by omega) ?_, HGR.out.block b hb hne]
         rcases HBL.out with e | ⟨b', e, hb'⟩
         ·rw [e]; exact hne
         ·rw [e]; intro e2; injection e2 with e2; omega
        have e40 : marksI m (N m + (j + 1)) = marksI m (N m + j) ++ [mkW m (N m + j)] := by rw [← marksI_succ]; rfl
        have ho4 : OI w4 base v4 (marksI m (N m + (j + 1))) := OI.of_own hown4 (by rw [e40, List.map_append]; rfl)
        refine ⟨ho4, ?_, hgr2, ?_, ?_⟩
        ·rcases Nat.eq_zero_or_pos (N m) with h0 | h0
         ·rw [h0]; exact IR.none_ _ _
         ·obtain ⟨ga, eA, hc1, hc2, hbg⟩ := oiA_some hobk (marksI_len _ _) h0
          rcases hbl4 with e4 | e4
          ·rcases HBL.out with e | ⟨b', e, hb'⟩
           ·obtain ⟨A4, c4, rfl, hr4, _, _⟩ := ho4.formN (n := N m + (j + 1)) (marksI_len _ _)
            have : (Value.slice A4 (N m + (j + 1)) c4).ownBlock = some ga := by rw [e4, e]; unfold apV; rw [eA]; rfl
            have hA4 : A4 = some ⟨ga, 0, none⟩ := by
             rcases ho4.2 with ⟨e5, _⟩ | ⟨g5, cap5, cur5, e5, _⟩
             ·cases e5
             ·injection e5 with e6
              subst e6
              have h6 : g5 = ga := by simpa [Value.ownBlock] using this
              rw [h6]
            rw [eA, ← hA4]
            have := hr4.pre (j := N m) (by omega)
            rwa [marksI_take _ _ _ (by omega)] at this
           ·refine HB.out.grown hgr fun ad ea e2 => ?_
            rw [e] at e2
            rw [eA] at ea
            cases ea
            injection e2 with e2
            have := (hobk.lt ga (by unfold apV; rw [eA]; rfl)).2
            dsimp only at e2
            omega
          ·exact (HB.out.below (gr_alloc (gr_refl wr) _)).grown e4.2 (fun _ _ => by simp)
        ·rcases hbl4 with e4 | e4
         ·rw [e4]; exact HBL.out
         ·exact .inr ⟨_, e4.1, by omega⟩
        ·exact hb.trans (Off.of_grown hgr2 (fun b e => ⟨m, hlt, e⟩)))
       clear HB HBL
       go_wp2_with fail
       refine (mark_of m (N m + j) _ (by simp) _).mono ?_
       rintro e w' ⟨rfl, rfl⟩
       go_wp2_with (at_builtin; refine wpList_append_Rd _ rfl (.tmp 52) (.tmp 62) _ rfl base 3 i0 _ 1 8 Tryz.underlying22 hi0 hz0 hz1 hz2 rfl (.slice Ag (N m + j) cg) (N m + j) _ rfl (HO2.out.alloc _) (some ⟨wr.heap.size, 0, none⟩) 1 1 [(Value.int .i64) (mkW m (N m + j))] rfl (HR.out _) (by simp [Value.oneCell']) (by omega) hmx (by rw [World.size_alloc]; exact hszj) ?_; intro v4 w4 hown4 hg4 _ hbl4; obtain ⟨k1, k2, k3, k4, k5⟩ := HFIN.out v4 w4 hown4 hg4 (by rw [World.size_alloc] at hbl4; exact hbl4))
       go_roundw
       case rel => exact ⟨j + 1, by omega, by go_num, Lib.hid k1, Lib.hid k2, Lib.hid k3, Lib.hid k4, k5⟩
       case measure => simp [RowKit.intOf]; omega
      ·obtain rfl : j = 40 := by omega
       have t2 : decide (((40 : Nat) : Int) < 40) = false := by simp
       have HGb : Hid (wr.heap[G]? = some (.cells (gsArr k m Gv) 22 (0, 0))) := Lib.hid ((HGR.out.block G (Array.getElem?_eq_some_iff.1 HG.out).1 (fun e => oi_ne hobk HG.out (by decide) e.symm)).trans HG.out)
       obtain ⟨Ag, cg, eg, _, _⟩ := own_form HO.out
       rw [marksI_len] at eg
       subst eg
       have H4 := Lib.hid (H3.out.step HD.out hlt HGR.out HO.out HB.out HBL.out)
       have hcG : wr.cell? ⟨G, m, none⟩ = some (.slice none 0 0) := by
        rw [cell_of_row wr G m _ _ _ HGb.out, gs_get k m Gv m hlt, if_neg (by omega)]
       have hfG : wr.frozen? ⟨G, m, none⟩ = false := by simp [World.frozen?, HGb.out]
       have hGw : w.heap.size = G := HGE.out
       have HA5 : Hid (∀ j, j < k → ∀ ad, A j = some ad → ad.block ≠ G) := Lib.hid (fun j hj ad ea => by have := HA.out j hj ad ea; omega)
       have H5 := Lib.hid (H4.out.other (w' := wr.setCell ⟨G, m, none⟩ (.slice Ag (N m + 40) cg)) (by omega) (grown_set wr G m _) HGb.out (by decide) HA5.out)
       have HG5 : Hid ((wr.setCell ⟨G, m, none⟩ (.slice Ag (N m + 40) cg)).heap[G]? = some (.cells (gsArr k (m + 1) (fun j => if j = m then .slice Ag (N m + 40) cg else Gv j)) 22 (0, 0))) := Lib.hid (by
        rw [← gs_set k m Gv _ hlt]
        simp only [World.setCell, Array.getElem?_modify, if_pos, HGb.out]
        simp)
       have HL5 : Hid ((wr.setCell ⟨G, m, none⟩ (.slice Ag (N m + 40) cg)).heap[gl]? = some (.cells lcur 22 fr)) := Lib.hid ((Below.heap_setCell _ _ _ gl (by dsimp only; omega)).trans hl2.out)
       have hb5 : Off (apS k A N C) w (wr.setCell ⟨G, m, none⟩ (.slice Ag (N m + 40) cg)) := hbj.setNewB _ (Nat.le_of_eq hGw)
       clear H3 H4 HO HB HGR HBL HG HGb hGw hobk HL hl2
       go_wp2_with fail
       go_roundw
       case rel => exact ⟨m + 1, _, by omega, by go_num, H5, HL5, HG5, hb5⟩
       case measure => simp [RowKit.intOf]; omega
    ·obtain rfl : m = k := by omega
     have t1 : decide ((m : Int) < (m : Int)) = false := by simp
     go_wp2_with fail
     obtain ⟨wz, hwz⟩ : ∃ wz : World, wz = wr := ⟨_, rfl⟩
     subst hwz
     go_loopw [9, 10] (fun p _q wr => ∃ (r q : Nat), r ≤ m ∧ p = .int .i64 r ∧ Hid (wr = wz.drewN q)) (fun p _ _ => m - (RowKit.intOf p).toNat)
     case atStart => exact ⟨0, 0, Nat.zero_le _, rfl, Lib.hid rfl⟩
     case round =>
      obtain ⟨r, q, hr, rfl, HW⟩ := hrel
      by_cases hlt : r < m
      ·have t1 : decide ((r : Int) < (m : Int)) = true := by simp; omega
       have t1' : decide (r < m) = true := by simp; omega
       have hNm := HN.out r hlt
       obtain ⟨Ag, cg, eg, hrg, hcg1, hcg2⟩ := (H3.out.own r hlt).formN (marksI_len _ _)
       have hrv := H3.out.rd r hlt
       have cV0 : wz.cell? ⟨gl, r, none⟩ = some (.slice (A r) (N r) (C r)) := HLS.out wz HL.out r hlt
       have cG0 : wz.cell? ⟨G, r, none⟩ = some (.slice Ag (N r + 40) cg) := by
        rw [cell_of_row wz G r _ _ _ HG.out, gs_get m m Gv r hlt, if_pos hlt, eg]
       have HCV := Lib.hid cV0
       have HCG := Lib.hid cG0
       have HRG := Lib.hid hrg
       have HRV := Lib.hid hrv
       clear eg hrg hrv cV0 cG0
       go_wp2_with fail
       obtain ⟨wy, hwy⟩ : ∃ wy : World, wy = wr := ⟨_, rfl⟩
       subst hwy
       go_loopw [10] (fun p wr => ∃ (i q : Nat), i ≤ N r + 40 ∧ p = .int .i64 i ∧ Hid (wr = wz.drewN q)) (fun p _ => N r + 40 - (RowKit.intOf p).toNat)
       case atStart => exact ⟨0, q, Nat.zero_le _, rfl, HW⟩
       case round =>
        clear HW
        obtain ⟨i, q, hi, rfl, HW⟩ := hrel
        have cV : wr.cell? ⟨gl, r, none⟩ = some (.slice (A r) (N r) (C r)) := by rw [HW.out]; exact HCV.out
        have cG : wr.cell? ⟨G, r, none⟩ = some (.slice Ag (N r + 40) cg) := by rw [HW.out]; exact HCG.out
        by_cases hlt2 : i < N r + 40
        ·have t2 : decide ((i : Int) < (N r : Int) + 40) = true := by simp; omega
         have rg : IR wr Ag (N r + 40) (marksI r (N r + 40)) := by rw [HW.out]; exact HRG.out
         obtain ⟨ga, oa, rfl, cb⟩ := rg.at_ (k := i) hlt2
         rw [marksI_get _ _ _ hlt2] at cb
         have HMK := Lib.hid (mark_any r i)
         by_cases hlt3 : i < N r
         ·have t3 : decide ((i : Int) < (N r : Int)) = true := by simp; omega
          have t3' : decide (i < N r) = true := by simp; omega
          have rv : IR wr (A r) (N r) (marksI r (N r)) := by rw [HW.out]; exact HRV.out
          obtain ⟨gv, ov, eA, cc⟩ := rv.at_ (k := i) hlt3
          rw [marksI_get _ _ _ hlt3] at cc
          rw [eA] at cV
          generalize (mkW r i) = y at *
          clear rv rg eA
          go_wp2_with fail
          go_quiet ((go_at_call 72; exact Calls.quiet_of_same ((HMK.out _).mono (fun _ _ h => ⟨h.1, h.2.symm⟩))))
          go_wp2_with fail
          go_roundw
          case rel => exact ⟨i + 1, q + nq, by omega, by go_num, Lib.hid (by rw [HW.out, World.drewN_drewN])⟩
          case measure => simp [RowKit.intOf]; omega
         ·have t3 : decide ((i : Int) < (N r : Int)) = false := by simp; omega
          have t3' : decide (i < N r) = false := by simp; omega
          generalize (mkW r i) = y at *
          clear rg
          go_wp2_with fail
          go_quiet ((go_at_call 72; exact Calls.quiet_of_same ((HMK.out _).mono (fun _ _ h => ⟨h.1, h.2.symm⟩))))
          go_wp2_with fail
          go_roundw
          case rel => exact ⟨i + 1, q + nq, by omega, by go_num, Lib.hid (by rw [HW.out, World.drewN_drewN])⟩
          case measure => simp [RowKit.intOf]; omega
        ·obtain rfl : i = N r + 40 := by omega
         go_wp2_with fail
         go_roundw
         case rel => exact ⟨r + 1, q, by omega, by go_num, HW⟩
         case measure => simp [RowKit.intOf]; omega
      ·obtain rfl : r = m := by omega
       go_wp2_with fail
       go_ret
       exact ⟨rfl, by rw [HW.out]; exact hb.drewN q⟩
end Go.Proofs.YtnkeclpgpiogoaaGreat

/-! AtT -/
namespace Go.Proofs.YtnkeclpgpiogoaaGreat
open Go Go.RowKit Go.Maps
structure YI (w0 w : World) (z : Wh) (n gx : Nat) (st : List (Nat × List UInt8)) (T U : Nat → Prop) (now : Nat → List UInt8) (k : Nat) : Prop where
 xg : XG w0 w z n gx st T U
 mp : ∃ tk, MapI (nowD now st 0) n tk
 len : st.length ≤ k + 1
 own : findS st 0 ≠ none ∨ st = []
section
variable {w0 w w1 w' : World} {z : Wh} {n bl c V gx : Nat} {T T1 T' U : Nat → Prop} {now : Nat → List UInt8} {recs : List Rec} {im : List (Nat × Unit)} {st : List (Nat × List UInt8)} {k : Nat}
set_option maxRecDepth 100000 in
theorem find_ins0 (m : List UInt8) (st : List (Nat × List UInt8)) : findS (insS 0 m st) 0 ≠ none := by
 rw [find_insS, if_pos rfl]
 exact fun h => by cases h
set_option maxRecDepth 100000 in
theorem len_take {f : Nat} {m1 m2 : List UInt8} (hs : SortS st) (hf : f ≠ 0) : (insS 0 m1 (insS f m2 st)).length ≤ st.length + (if findS st 0 = none then 2 else 1) := by
 have h1 : (insS f m2 st).length ≤ st.length + 1 := by
  rw [len_insS f m2 hs]
  split <;> omega
 have h2 : findS (insS f m2 st) 0 = findS st 0 := by rw [find_insS, if_neg (show ¬ 0 = f from fun e => hf e.symm)]
 rw [len_insS 0 m1 (sort_insS f m2 hs), h2]
 cases findS st 0 with
 | none =>
  rw [if_pos rfl]
  simp only [Option.isSome_none]
  split <;> omega
 | some y =>
  have h3 : ¬ some y = none := fun h => by cases h
  rw [if_neg h3, if_pos (show (some y).isSome = true from rfl)]
  exact h1
def CY (w0 w : World) (z : Wh) (n bl : Nat) (T U : Nat → Prop) (gx : Nat) (now : Nat → List UInt8) (c : Nat) (recs : List Rec) (V : Nat) (im : List (Nat × Unit)) (k : Nat) (w' : World) : Prop :=
 ∃ T' st', SC w0 w' z n bl T' now c recs V im ∧ YI w0 w' z n gx st' T' U now k ∧ Off (TU T U) w w' ∧ ∀ k, T' k → T k ∨ w.heap.size ≤ k
set_option maxRecDepth 100000 in
theorem Take_w (h : SC w0 w z n bl T now c recs V im) (hy : YI w0 w z n gx st T U now k) (hk : k ≤ 12) (hn : 1 ≤ n) (hn2 : n ≤ 4096) (hc : c ≤ 900000) :
  Calls Tryz.prog 16 #[.pointer (some ⟨gx, 0, none⟩)] w fun e w' => ∃ p r, e = .returned (.tuple #[.int .i64 p, .int .i64 r]) ∧ CY w0 w z n bl T U gx now (c + 1) recs V im (k + 1) w' := by
 obtain ⟨tk, hM⟩ := hy.mp
 have hl := hy.len
 refine (Take_sc h hy.xg (by omega) hM hn hc).mono ?_
 rintro e w' (⟨_, rfl, T', a1, a2, a3, a4⟩ | ⟨f, h1, h2, h3, _, rfl, T', a1, a2, a3, a4⟩)
 ·exact ⟨_, _, rfl, T', st, a1, ⟨a2, ⟨tk, hM⟩, by omega, hy.own⟩, a3, a4⟩
 ·refine ⟨_, _, rfl, T', _, a1, ⟨a2, ⟨_, hM.tkn (st2 := insS f zP st) (f := f) (by omega) h2 hn2⟩, ?_, .inl (find_ins0 _ _)⟩, a3, a4⟩
  have := len_take (m1 := turnL (nowD now st 0) f) (m2 := zP) hy.xg.ok.srt (f := f) (by omega)
  rcases hy.own with e | e
  ·rw [if_neg e] at this
   omega
  ·have hs0 : st.length = 0 := by rw [e]; rfl
   split at this <;> omega
set_option maxRecDepth 100000 in
theorem Give_w (h : SC w0 w z n bl T now c recs V im) (hy : YI w0 w z n gx st T U now k) (hk : k ≤ 12) (hn : 1 ≤ n) (hn2 : n ≤ 4096) (hc : c ≤ 900000) (page : Int) :
  Calls Tryz.prog 21 #[.pointer (some ⟨gx, 0, none⟩), .int .i64 page] w fun e w' => ∃ r, e = .returned (.int .i64 r) ∧ CY w0 w z n bl T U gx now (c + 1) recs V im (k + 1) w' := by
 obtain ⟨tk, hM⟩ := hy.mp
 have hl := hy.len
 refine (Give_sc h hy.xg (by omega) hM hn hc page).mono ?_
 rintro e w' (⟨_, rfl, T', a1, a2, a3, a4⟩ | ⟨p, h0, h1, h2, h3, rfl, T', a1, a2, a3, a4⟩)
 ·exact ⟨_, rfl, T', st, a1, ⟨a2, ⟨tk, hM⟩, by omega, hy.own⟩, a3, a4⟩
 ·refine ⟨_, rfl, T', _, a1, ⟨a2, ⟨_, hM.tkn (st2 := st) (f := p) (by omega) h2 hn2⟩, ?_, .inl (find_ins0 _ _)⟩, a3, a4⟩
  rw [len_insS 0 _ hy.xg.ok.srt]
  rcases hy.own with e | e
  ·rw [if_pos (Option.isSome_iff_ne_none.2 e)]
   omega
  ·have hs0 : st.length = 0 := by rw [e]; rfl
   split <;> omega
set_option maxRecDepth 100000 in
theorem YI.begin (hx : XG w0 w z n gx [] T U) {tk : Nat → Bool} (hM : MapI (now 0) n tk) : YI w0 w z n gx [] T U now 0 := ⟨hx, ⟨tk, hM⟩, Nat.zero_le _, .inr rfl⟩
set_option maxRecDepth 100000 in
theorem YI.fmt (hx : XG w0 w z n gx (insS 0 (turnL zP 0) []) T U) (hn : 1 ≤ n) : YI w0 w z n gx (insS 0 (turnL zP 0) []) T U now 0 := ⟨hx, ⟨_, MapI.fmt hn⟩, Nat.le_refl _, .inl (find_ins0 _ _)⟩
end
def pick2 {α : Type} (a b : α) (j : Nat) : α := if j = 0 then a else b
set_option maxRecDepth 100000 in
theorem OI.at0 {w : World} {base : Nat} {v : Value} {l : List Int} {n : Nat} (h : OI w base v l) (hl : l.length = n) (h0 : 0 < n) : ∃ q c, v = .slice (some ⟨q, 0, none⟩) n c ∧ base ≤ q ∧ q < w.heap.size := by
 subst hl
 rcases h.2 with ⟨e2, e0⟩ | ⟨g', cap', cur, e2, hb, hg, h1, h2, _⟩
 ·omega
 ·exact ⟨g', cap', e2, hb, (Array.getElem?_eq_some_iff.1 hg).1⟩
set_option maxRecDepth 100000 in
theorem OI.lower {w : World} {base b : Nat} {v : Value} {l : List Int} (h : OI w base v l) (hb : b ≤ base) : OI w b v l := own_lower h hb
set_option maxRecDepth 100000 in
theorem two_apartI {w : World} {base q0 q1 c0 c1 n0 n1 : Nat} {l0 l1 : List Int} (h0 : OI w base (.slice (some ⟨q0, 0, none⟩) n0 c0) l0) (h1 : OI w base (.slice (some ⟨q1, 0, none⟩) n1 c1) l1)
  (e0 : l0.length = n0) (e1 : l1.length = n1) (n01 : q0 ≠ q1) :
  AQ1 w base 2 (pick2 (some ⟨q0, 0, none⟩) (some ⟨q1, 0, none⟩)) (pick2 n0 n1) (pick2 c0 c1) (pick2 l0 l1) ∧
  ApD 2 (pick2 (some ⟨q0, 0, none⟩) (some ⟨q1, 0, none⟩)) (pick2 n0 n1) (pick2 c0 c1) ∧
  (∀ k, apS 2 (pick2 (some ⟨q0, 0, none⟩) (some ⟨q1, 0, none⟩)) (pick2 n0 n1) (pick2 c0 c1) k → k = q0 ∨ k = q1) ∧
  (∀ j, j < 2 → (#[.slice (some ⟨q0, 0, none⟩) n0 c0, .slice (some ⟨q1, 0, none⟩) n1 c1] : Array Value)[j]? = some (apV (pick2 (some ⟨q0, 0, none⟩) (some ⟨q1, 0, none⟩)) (pick2 n0 n1) (pick2 c0 c1) j)) := by
 have two : ∀ j : Nat, j < 2 → j = 0 ∨ j = 1 := fun j hj => by omega
 refine ⟨⟨fun j hj => ?_, fun j hj => ?_⟩, fun i j hi hj hne => ?_, fun k ⟨j, hj, e⟩ => ?_, fun j hj => ?_⟩
 ·rcases two j hj with rfl | rfl
  ·exact h0
  ·exact h1
 ·rcases two j hj with rfl | rfl
  ·exact e0
  ·exact e1
 ·refine .inr ?_
  have hb : ∀ i, i < 2 → (apV (pick2 (some ⟨q0, 0, none⟩) (some ⟨q1, 0, none⟩)) (pick2 n0 n1) (pick2 c0 c1) i).ownBlock = some (pick2 q0 q1 i) := fun i hi => by
   rcases two i hi with rfl | rfl <;> rfl
  rw [hb i hi, hb j hj]
  intro e
  injection e with e
  unfold pick2 at e
  rcases two i hi with rfl | rfl <;> rcases two j hj with rfl | rfl <;> simp at e <;> omega
 ·rcases two j hj with rfl | rfl
  ·exact .inl (Option.some.inj e).symm
  ·exact .inr (Option.some.inj e).symm
 ·rcases two j hj with rfl | rfl <;> rfl
end Go.Proofs.YtnkeclpgpiogoaaGreat

/-! AtU -/
namespace Go.Proofs.YtnkeclpgpiogoaaGreat
open Go Go.RowKit Go.Maps
set_option maxRecDepth 100000 in
theorem info_boolU : (Tryz.prog.info? 4).map (fun i => (i.zero, i.size, i.bytes)) = some (some (.bool false), 1, 1) := by kernel_rfl
def boolsA (tk : Nat → Bool) (n : Nat) : Array Value := ((List.range n).map fun p => Value.bool (tk p)).toArray
def TB (w : World) (g : Nat) (tk : Nat → Bool) (n : Nat) : Prop := w.heap[g]? = some (.cells (boolsA tk n) 4 (0, 0))
set_option maxRecDepth 100000 in
theorem run_mk_boolsU (n : Nat) (hn : n ≤ 4398046511104) (x : Int) (hx : x = n) (u : World) :
  (Instr.makeSlice 33 (.int .i64 x) (.int .i64 x)).run Tryz.prog u = .ok (.slice (some ⟨u.heap.size, 0, none⟩) n n) (u.alloc (.cells (boolsA (fun _ => false) n) 4)) := by
 obtain ⟨i0, hi0, hz0, hz1, hz2⟩ := info_parts info_boolU
 subst hx
 have h := run_make (P := Tryz.prog) u 33 4 i0 (.bool false) Tryz.underlying33 hi0 hz0 .i64 .i64 (n : Int) (n : Int) (by omega) (by omega) (by rw [hz2]; omega) (by omega)
 have e : madeCells #[.bool false] n = boolsA (fun _ => false) n := by
  apply Array.ext'
  rw [toList_madeCells_one]
  unfold boolsA
  simp only [List.map_const', List.length_range]
 simpa [hz1, Value.cells, e] using h
section
variable {w w' : World} {g n p : Nat} {tk : Nat → Bool}
set_option maxRecDepth 100000 in
theorem TB.lt (h : TB w g tk n) : g < w.heap.size := (Array.getElem?_eq_some_iff.1 h).1
set_option maxRecDepth 100000 in
theorem TB.off {S : Nat → Prop} (h : TB w g tk n) (ho : Off S w w') (hs : ¬ S g) : TB w' g tk n := (ho.block g h.lt hs).trans h
set_option maxRecDepth 100000 in
theorem TB.below (h : TB w g tk n) (hb : Below w.heap.size w w') : TB w' g tk n := (hb.block g h.lt).trans h
set_option maxRecDepth 100000 in
theorem TB.cell (h : TB w g tk n) (hp : p < n) : w.cell? ⟨g, p, none⟩ = some (.bool (tk p)) := by
 rw [cell_of_row w g p _ _ _ h]
 simp [boolsA, hp]
set_option maxRecDepth 100000 in
theorem TB.frozen (h : TB w g tk n) (j : Nat) : w.frozen? ⟨g, j, none⟩ = false := by unfold TB at h; simp [World.frozen?, h]
set_option maxRecDepth 100000 in
theorem TB.nb (h : TB w g tk n) : NE w g := ⟨_, h, by decide, by decide, by decide, by decide, by decide, by decide⟩
set_option maxRecDepth 100000 in
theorem boolsA_set (hp : p < n) (b : Bool) : (boolsA tk n).setIfInBounds p (.bool b) = boolsA (updB tk p b) n := by
 apply Array.ext'
 apply List.ext_getElem?
 intro i
 simp only [boolsA, Array.toList_setIfInBounds, List.getElem?_set, List.length_map, List.length_range, List.getElem?_map]
 by_cases hi : i < n
 ·rw [List.getElem?_range hi]
  unfold updB
  by_cases e : p = i
  ·rw [if_pos e, if_pos (by omega), Option.map_some, if_pos e.symm]
  ·rw [if_neg e, Option.map_some, Option.map_some, if_neg (fun h => e h.symm)]
 ·rw [List.getElem?_eq_none (by rw [List.length_range]; omega)]
  by_cases e : p = i
  ·omega
  ·rw [if_neg e]
   rfl
set_option maxRecDepth 100000 in
theorem TB.set (h : TB w g tk n) (hp : p < n) (b : Bool) : TB (w.setCell ⟨g, p, none⟩ (.bool b)) g (updB tk p b) n := by
 unfold TB at h ⊢
 simp only [World.setCell, Array.getElem?_modify, if_pos, h]
 simp only [Option.map_some]
 congr 2
 simp only [Option.isSome_none, Bool.false_eq_true, if_false]
 exact boolsA_set hp b
end
section
variable {n f : Nat} {tk : Nat → Bool}
set_option maxRecDepth 100000 in
theorem countP_upd : ∀ (k : Nat), ((List.range k).filter (updB tk f (!tk f))).length + (if f < k ∧ tk f = true then 1 else 0) = ((List.range k).filter tk).length + (if f < k ∧ tk f = false then 1 else 0)
 | 0 => by simp
 | k + 1 => by
  have ih := countP_upd k
  rw [List.range_succ, List.filter_append, List.filter_append, List.length_append, List.length_append]
  have h1 : ∀ t : Nat → Bool, ([k].filter t).length = if t k = true then 1 else 0 := fun t => by
   by_cases h : t k = true
   ·rw [List.filter_cons_of_pos h, if_pos h]; rfl
   ·rw [List.filter_cons_of_neg h, if_neg h]; rfl
  rw [h1, h1]
  unfold updB at ih ⊢
  by_cases e : k = f
  ·subst e
   rw [if_pos rfl]
   rw [if_neg (show ¬ (k < k ∧ tk k = true) from fun h => by omega), if_neg (show ¬ (k < k ∧ tk k = false) from fun h => by omega)] at ih
   cases htk : tk k <;> rw [htk] at ih <;> simp at ih ⊢ <;> omega
  ·rw [if_neg e]
   by_cases hfk : f < k
   ·have hfk1 : f < k + 1 := by omega
    simp only [hfk, hfk1, true_and] at ih ⊢
    omega
   ·have hfk1 : ¬ f < k + 1 := by omega
    simp only [hfk, hfk1, false_and, if_false] at ih ⊢
    omega
set_option maxRecDepth 100000 in
theorem taken_take (hf : f < n) (h : tk f = false) : (takenL (updB tk f (!tk f)) n).length = (takenL tk n).length + 1 := by
 have := countP_upd (tk := tk) (f := f) n
 rw [if_neg (show ¬ (f < n ∧ tk f = true) from fun e => by rw [h] at e; cases e.2), if_pos ⟨hf, h⟩] at this
 exact this
set_option maxRecDepth 100000 in
theorem taken_give (hf : f < n) (h : tk f = true) : (takenL (updB tk f (!tk f)) n).length + 1 = (takenL tk n).length := by
 have := countP_upd (tk := tk) (f := f) n
 rw [if_pos ⟨hf, h⟩, if_neg (show ¬ (f < n ∧ tk f = false) from fun e => by rw [h] at e; cases e.2)] at this
 exact this
set_option maxRecDepth 100000 in
theorem taken_le : (takenL tk n).length ≤ n := by
 unfold takenL
 have := List.length_filter_le tk (List.range n)
 rwa [List.length_range] at this
set_option maxRecDepth 100000 in
theorem taken_full (h : ∀ q, q < n → tk q = true) : (takenL tk n).length = n := by
 unfold takenL
 rw [List.filter_eq_self.2 (fun q hq => h q (List.mem_range.1 hq)), List.length_range]
set_option maxRecDepth 100000 in
theorem taken_new (hn : 1 ≤ n) : (takenL (fun p => decide (p = 0)) n).length = 1 := by
 obtain ⟨k, rfl⟩ : ∃ k, n = k + 1 := ⟨n - 1, by omega⟩
 unfold takenL
 rw [List.range_succ_eq_map, List.filter_cons_of_pos (by rfl), List.length_cons]
 have : (List.filter (fun p => decide (p = 0)) (List.map Nat.succ (List.range k))) = [] := by
  rw [List.filter_eq_nil_iff]
  intro a ha
  obtain ⟨b, _, rfl⟩ := List.mem_map.1 ha
  simp
 rw [this]
 rfl
end
section
variable {w0 w w' : World} {z : Wh} {n bl c V gx g : Nat} {T U : Nat → Prop} {now : Nat → List UInt8} {recs : List Rec} {im : List (Nat × Unit)} {st : List (Nat × List UInt8)}
set_option maxRecDepth 100000 in
theorem SC.nb (h : SC w0 w z n bl T now c recs V im) {S : Nat → Prop} (ho : Off S w w') (hS : ∀ k, S k → NE w k ∧ ¬ T k ∧ w0.heap.size ≤ k) : SC w0 w' z n bl T now c recs V im := by
 obtain ⟨D, P, A, h1, r⟩ := h.ex
 exact ⟨D, P, A, h1.nb ho hS, r⟩
set_option maxRecDepth 100000 in
theorem XG.nb (h : XG w0 w z n gx st T U) {S : Nat → Prop} (ho : Off S w w') (hS : ∀ k, S k → NE w k) (hU : ∀ k, U k → ¬ S k) : XG w0 w' z n gx st T U :=
 ⟨h.xz.off ho (fun k e => .inr (hS k e)) hU (fun _ e => .inl e), h.ok⟩
set_option maxRecDepth 100000 in
theorem SC.srt (h : SC w0 w z n bl T now c recs V im) : SortS im := by
 obtain ⟨D, P, A, h1, h2, h3, h4, h5, r⟩ := h.ex
 obtain ⟨F, tv, mb, q, i, _, _, _, _, _, _, _, h8, _⟩ := h1.ex
 rw [← h5]
 exact h8
set_option maxRecDepth 100000 in
theorem SC.bel (h : SC w0 w z n bl T now c recs V im) : Below w0.heap.size w0 w := by
 obtain ⟨D, P, A, h1, r⟩ := h.ex
 exact h1.bel
set_option maxRecDepth 100000 in
theorem Done_ap (h : SC w0 w z n bl T now c recs V im) (hx : XG w0 w z n gx st T U) (h3 : st.length ≤ 3) (tx : Int) (t1 : 0 ≤ tx) (t2 : tx ≤ 4611686018427387904) (hV : V + 4 ≤ bl) (hr : recs.length ≤ 1000000) (him : im.length ≤ 4096) (hc : c ≤ 800000) :
  Calls Tryz.prog 15 #[.pointer (some ⟨gx, 0, none⟩), .int .i64 tx] w fun e w' => ∃ r : Int, e = .returned (.tuple #[.int .i64 r, .int .i64 0]) ∧
   ∃ T' recs' V' im', SC w0 w' z n bl T' (nowD now st) (c + 32) recs' V' im' ∧ V' ≤ V + 4 ∧ recs'.length ≤ recs.length + 1 ∧ im'.length ≤ im.length + 3 ∧ Off (TU T U) w w' ∧ ∀ k, T' k → T k ∨ w.heap.size ≤ k := by
 have hs := h.srt
 refine (Done_sc h hx tx t1 t2 (by omega) hr him hc).mono ?_
 rintro e w' ⟨rfl, T', a1, _, a3, a4⟩
 refine ⟨_, rfl, T', _, _, _, a1, by omega, ?_, ?_, a3, a4⟩
 ·rw [List.length_append]
  split
  ·exact Nat.le_succ _
  ·exact Nat.le_refl _
 ·have h1 := (markF_le (chgL im now st) im hs).1
  have h2 := chgL_len (im := im) (now := now) st
  omega
end
set_option maxRecDepth 100000 in
theorem bb_br {w : World} {g : Nat} {l : List UInt8} {n : Nat} (h : BB w g l) (hl : l.length = n) : BR w (some ⟨g, 0, none⟩) n l := by
 subst hl
 exact h.readsAll
end Go.Proofs.YtnkeclpgpiogoaaGreat
