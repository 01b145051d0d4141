/-
  Texts of this claim, joined: AtL, AtM, AtN, AtO, AtP, AtR, AtQ, SmI, AtS, ApI, AtT, AtU, BtA. No statement of the program is proved here.
-/
import Derived.Test.YtnkeclpgpiogoaaGreatPkE8
import Derived.Test.YtnkeclpgpiogoaaGreatPkE4
import Derived.Test.YtnkeclpgpiogoaaGreatPkE5
import Derived.WalkMore
import Derived.Test.YtnkeclpgpiogoaaGreatPkE1
import Derived.BigQuiet
import Derived.Test.YtnkeclpgpiogoaaGreatPkE2
/-! AtL -/
namespace Go.Proofs.YtnkeclpgpiogoaaGreat
open Go Go.RowKit Go.Maps
def CB (w : World) (g : Nat) (u0 u1 u2 : Value) : Prop := w.heap[g]? = some (.cells #[u0, u1, u2] 117 (0, 0))
section
variable {w w' : World} {g : Nat} {u0 u1 u2 : Value}
set_option maxRecDepth 100000 in
theorem CB.lt (h : CB w g u0 u1 u2) : g < w.heap.size := (Array.getElem?_eq_some_iff.1 h).1
set_option maxRecDepth 100000 in
theorem CB.below (h : CB w g u0 u1 u2) (hb : Below w.heap.size w w') : CB w' g u0 u1 u2 := (hb.block g h.lt).trans h
set_option maxRecDepth 100000 in
theorem CB.frozen (h : CB w g u0 u1 u2) (j : Nat) : w.frozen? ⟨g, j, none⟩ = false := by unfold CB at h; simp [World.frozen?, h]
set_option maxRecDepth 100000 in
theorem CB.c0 (h : CB w g u0 u1 u2) : w.cell? ⟨g, 0, none⟩ = some u0 := by rw [cell_of_row w g 0 _ _ _ h]; rfl
set_option maxRecDepth 100000 in
theorem CB.c1 (h : CB w g u0 u1 u2) : w.cell? ⟨g, 1, none⟩ = some u1 := by rw [cell_of_row w g 1 _ _ _ h]; rfl
set_option maxRecDepth 100000 in
theorem CB.c2 (h : CB w g u0 u1 u2) : w.cell? ⟨g, 2, none⟩ = some u2 := by rw [cell_of_row w g 2 _ _ _ h]; rfl
set_option maxRecDepth 100000 in
theorem CB.s2 (h : CB w g u0 u1 u2) (v : Value) : CB (w.setCell ⟨g, 2, none⟩ v) g u0 u1 v := by unfold CB at h ⊢; simp only [World.setCell, Array.getElem?_modify, if_pos, h]; rfl
end
set_option maxRecDepth 100000 in
theorem chgF_cons (im : List (Nat × Unit)) (p : Nat) (m : List UInt8) (r : List (Nat × List UInt8)) (D : EnS) (P : PoS) (acc : List Ch) : chgF im ((p, m) :: r) D P acc =
  if (getR D P (p : Int)).2.2 ≠ 0 then ((getR D P (p : Int)).1, (getR D P (p : Int)).2.1, (getR D P (p : Int)).2.2, [])
  else if getL D P (p : Int) = m then chgF im r (getR D P (p : Int)).1 (getR D P (p : Int)).2.1 acc
  else chgF im r (getR D P (p : Int)).1 (getR D P (p : Int)).2.1 (acc ++ [chg1 im p (getL D P (p : Int)) m]) := rfl
def CE (im : List (Nat × Unit)) (st : List (Nat × List UInt8)) (D0 : EnS) (P0 : PoS) (k : Nat) (D : EnS) (P : PoS) (acc : List Ch) : Prop :=
 chgF im st D0 P0 [] = chgF im (st.drop k) D P acc ∧ D.d.pending.length ≤ D0.d.pending.length + k ∧ P.count ≤ P0.count + k ∧ acc.length ≤ k
section
variable {im : List (Nat × Unit)} {st : List (Nat × List UInt8)} {D0 D : EnS} {P0 P : PoS} {k p : Nat} {m : List UInt8} {acc : List Ch}
set_option maxRecDepth 100000 in
theorem CE.start : CE im st D0 P0 0 D0 P0 [] := ⟨rfl, Nat.le_refl _, Nat.le_refl _, Nat.le_refl _⟩
set_option maxRecDepth 100000 in
theorem CE.cons (h : CE im st D0 P0 k D P acc) (hk : st[k]? = some (p, m)) : chgF im st D0 P0 [] = chgF im ((p, m) :: st.drop (k + 1)) D P acc := by
 rw [h.1]
 obtain ⟨hl, he⟩ := List.getElem?_eq_some_iff.1 hk
 rw [List.drop_eq_getElem_cons hl, he]
set_option maxRecDepth 100000 in
theorem CE.bad (h : CE im st D0 P0 k D P acc) (hk : st[k]? = some (p, m)) (he : (getR D P (p : Int)).2.2 ≠ 0) : chgF im st D0 P0 [] = ((getR D P (p : Int)).1, (getR D P (p : Int)).2.1, (getR D P (p : Int)).2.2, []) := by
 rw [h.cons hk, chgF_cons, if_pos he]
set_option maxRecDepth 100000 in
theorem CE.same (h : CE im st D0 P0 k D P acc) (hk : st[k]? = some (p, m)) (he : (getR D P (p : Int)).2.2 = 0) (hm : getL D P (p : Int) = m) : CE im st D0 P0 (k + 1) (getR D P (p : Int)).1 (getR D P (p : Int)).2.1 acc := by
 obtain ⟨g1, g2⟩ := getR_pl he
 refine ⟨?_, by have := h.2.1; omega, by have := h.2.2.1; omega, by have := h.2.2.2; omega⟩
 rw [h.cons hk, chgF_cons, if_neg (by rw [he]; exact fun h => h rfl), if_pos hm]
set_option maxRecDepth 100000 in
theorem CE.more (h : CE im st D0 P0 k D P acc) (hk : st[k]? = some (p, m)) (he : (getR D P (p : Int)).2.2 = 0) (hm : getL D P (p : Int) ≠ m) : CE im st D0 P0 (k + 1) (getR D P (p : Int)).1 (getR D P (p : Int)).2.1 (acc ++ [chg1 im p (getL D P (p : Int)) m]) := by
 obtain ⟨g1, g2⟩ := getR_pl he
 refine ⟨?_, by have := h.2.1; omega, by have := h.2.2.1; omega, by rw [List.length_append]; have := h.2.2.2; show _ + 1 ≤ _; omega⟩
 rw [h.cons hk, chgF_cons, if_neg (by rw [he]; exact fun h => h rfl), if_neg hm]
set_option maxRecDepth 100000 in
theorem CE.all (h : CE im st D0 P0 k D P acc) (hk : st.length ≤ k) : chgF im st D0 P0 [] = (D, P, 0, acc) := by
 rw [h.1, List.drop_of_length_le hk]
 rfl
end
set_option maxRecDepth 100000 in
theorem mark_look {w : World} {im n : Nat} {l : List (Nat × Unit)} (h : MV w im n (mapF (mapS (fun _ => mkE) l))) {p : Nat} (hp : (p : Int) ≤ 9223372036854775807) : (Instr.lookup 86 (.map (some im)) (.int .i64 (p : Int)) true).run Tryz.prog w = .ok (.tuple #[.agg #[], .bool (findS l p).isSome]) w := by
 have hz : (zeroValue 92).run Tryz.prog w = .ok (.agg #[]) w := by kernel_rfl
 rw [h.look Tryz.underlying86 hz (k := (p : Int)) (by omega) hp, mapF_at, find_mapS]
 cases findS l p <;> rfl
def ACh (w0 w : World) (z : Wh) (gx : Nat) (A : AtS) (X : AxS) (T U : Nat → Prop) (r : EnS × PoS × Int × List Ch) (e : Ending) (w' : World) : Prop :=
 ∃ B c, e = .returned (.tuple #[.slice B r.2.2.2.length c, .int .i64 r.2.2.1]) ∧ ∃ T', AZ w0 w' z r.1 r.2.1 A T' ∧ XZ w' w0.heap.size z.ga gx X T' U ∧ Mv T T' w w' ∧ HL w' w.heap.size T' (.slice B r.2.2.2.length c) r.2.2.2
structure CInv (w0 w wr : World) (z : Wh) (gx : Nat) (D0 : EnS) (P0 : PoS) (A : AtS) (X : AxS) (T0 U : Nat → Prop) (Bp : Option Addr) (cp : Nat) (k : Nat) (D : EnS) (P : PoS) (T : Nat → Prop) (v : Value) (acc : List Ch) : Prop where
 az : AZ w0 wr z D P A T
 xz : XZ wr w0.heap.size z.ga gx X T U
 mv : Mv T0 T w wr
 hl : HL wr w.heap.size T v acc
 pg : Keep wr (TR T v) (fun W => W.ownsRow w.heap.size 3 1 (.slice Bp X.st.length cp) X.st.length ((intsL (X.st.map Prod.fst)).map (Value.int .i64)))
 ce : CE A.im X.st D0 P0 k D P acc
section
variable {w0 w wr w' : World} {z : Wh} {D0 D : EnS} {P0 P : PoS} {A : AtS} {X : AxS} {T0 T U : Nat → Prop} {gx cp k p : Nat} {Bp : Option Addr} {v : Value} {acc : List Ch} {m : List UInt8}
set_option maxRecDepth 100000 in
theorem intsL_at (l : List Nat) (k : Nat) {p : Nat} (h : l[k]? = some p) : (intsL l).getD k 0 = (p : Int) := by
 unfold intsL
 rw [List.getD_eq_getElem?_getD, List.getElem?_map, h]
 rfl
set_option maxRecDepth 100000 in
theorem CInv.page (h : CInv w0 w wr z gx D0 P0 A X T0 U Bp cp k D P T v acc) (hk : X.st[k]? = some (p, m)) : ∃ g o, Bp = some ⟨g, o, none⟩ ∧ wr.cell? ⟨g, o + k, none⟩ = some (.int .i64 (p : Int)) := by
 have hl := (List.getElem?_eq_some_iff.1 hk).1
 obtain ⟨g, o, e, hc⟩ := (IR.of_own h.pg.now).at_ (k := k) hl
 rw [intsL_at _ k (p := p) (by rw [List.getElem?_map, hk]; rfl)] at hc
 exact ⟨g, o, e, hc⟩
set_option maxRecDepth 100000 in
set_option maxRecDepth 100000 in
theorem CInv.got (h : CInv w0 w wr z gx D0 P0 A X T0 U Bp cp k D P T v acc) {T' : Nat → Prop} {D' : EnS} {P' : PoS} (ha : AZ w0 w' z D' P' A T') (hm : Mv T T' wr w') (hc : CE A.im X.st D0 P0 (k + 1) D' P' acc) : CInv w0 w w' z gx D0 P0 A X T0 U Bp cp (k + 1) D' P' T' v acc :=
 ⟨ha, h.xz.step hm, h.mv.trans hm, h.hl.step hm, h.pg.step (TR.mv v hm), hc⟩
set_option maxRecDepth 100000 in
set_option maxRecDepth 100000 in
theorem CInv.said (h : CInv w0 w wr z gx D0 P0 A X T0 U Bp cp k D P T v acc) {T' : Nat → Prop} {D' : EnS} {P' : PoS} {w1 w2 w3 w4 : World} (ha : AZ w0 w1 z D' P' A T') (hm : Mv T T' wr w1) (h2 : Below w1.heap.size w1 w2) {us : List (Int × Value × Value)} {a : Int} {u1 u2 v' : Value} {m : List UInt8} {ps : List Pc}
  (hr : w2.ownsRow w.heap.size 117 3 v acc.length (chs us)) (k1 : Keep w2 (TR T' v) (fun W => VB W u1 m)) (k2 : Keep w2 (TR T' v) (fun W => VP W u2 ps)) (hus : us.length = acc.length ∧ ∀ (i : Nat) (p : Ch) (q : Int × Value × Value), acc[i]? = some p → us[i]? = some q → q.1 = p.1 ∧ Keep w2 (TR T' v) (fun W => VB W q.2.1 p.2.1) ∧ Keep w2 (TR T' v) (fun W => VP W q.2.2 p.2.2)) (hnv : ∀ k, v.ownBlock = some k → ¬ T' k)
  (h3 : Below w2.heap.size w2 w3) (ho : w4.ownsRow w.heap.size 117 3 v' (acc.length + 1) (chs us ++ [.int .i64 a, u1, u2])) (hg : w3.grownBy w4 v.ownBlock) (hv : v'.ownBlock = v.ownBlock ∨ (v'.ownBlock = some w3.heap.size ∧ w3.grownBy w4 none)) (hw : w0.heap.size ≤ w.heap.size) (hU : ∀ k, U k → k < w.heap.size) (hc : CE A.im X.st D0 P0 (k + 1) D' P' (acc ++ [(a, m, ps)])) :
  CInv w0 w w4 z gx D0 P0 A X T0 U Bp cp (k + 1) D' P' T' v' (acc ++ [(a, m, ps)]) := by
 have hT : ∀ k, T' k → k < w2.heap.size := fun k e => Nat.lt_of_lt_of_le (ha.lt e).2 h2.size
 obtain ⟨s1, s2, s3⟩ := HL.snoc hr hnv hus.1 hus.2 k1 k2 h3 ho hg hv hT
 have hx := (h.xz.step hm).below h2
 have hp := (h.pg.step (TR.mv v hm)).below h2
 have hne : ∀ k, v.ownBlock = some k → NE w2 k ∧ w.heap.size ≤ k := fun k e => by
  obtain ⟨cur, hc⟩ := own_blk hr e
  exact ⟨⟨_, hc, by decide, by decide, by decide, by decide, by decide, by decide⟩, own_ge hr e⟩
 have hM := (h.mv.trans hm).trans (Mv.of_below h2)
 exact ⟨(ha.below h2).nb s2 (fun k e => ⟨(hne k e).1, hnv k e, Nat.le_trans hw (hne k e).2⟩), hx.off s2 (fun k e => .inr (hne k e).1) (fun k hk e => by have := hU k hk; have := (hne k e).2; omega) (fun k e => .inl e), ⟨hM.1.chain s2 (fun j e => .inr (hne j e).2), hM.2⟩, s1, hp.step s3, hc⟩
end
set_option maxRecDepth 100000 in
set_option maxHeartbeats 1000000 in
theorem changes_at {w0 w : World} {z : Wh} {D : EnS} {P : PoS} {A : AtS} {X : AxS} {T U : Nat → Prop} {gx : Nat} (ha : AZ w0 w z D P A T) (hx : XZ w w0.heap.size z.ga gx X T U) (h16 : X.st.length ≤ 16) (hp : ∀ e ∈ X.st, (e.1 : Int) ≤ 9223372036854775807) (hpd : D.d.pending.length ≤ 899000) (hct : P.count ≤ 1152921504606846000) :
  Calls Tryz.prog 65 #[.pointer (some ⟨gx, 0, none⟩)] w (ACh w0 w z gx A X T U (chgF A.im X.st D P [])) := by
 have HA := Lib.hid ha
 have HX := Lib.hid hx
 have HU : Hid (∀ k, U k → k < w.heap.size) := Lib.hid fun k e => (hx.lt e).2.1
 have HSO : Hid (SortS X.st) := Lib.hid (by obtain ⟨mx, q, x1, x2, x3, x4, x5, x6, x7, x8, x9, x10, x11⟩ := hx.ex; exact x10)
 have HP := Lib.hid hp
 have HPD := Lib.hid hpd
 have HCT := Lib.hid hct
 obtain ⟨ic, hic, hy0, hy1, hy2⟩ := info_parts info_change
 have HWS : Hid (w0.heap.size ≤ w.heap.size) := Lib.hid ha.bel.size
 have HCH := Lib.hid (Changed_at hx h16)
 obtain ⟨n, hn⟩ : ∃ n, n = X.st.length := ⟨_, rfl⟩
 have HN := Lib.hid hn
 have HTT : Hid (∀ k, T k → k < w.heap.size) := Lib.hid fun k e => (ha.lt e).2
 have hn16 : n ≤ 16 := by omega
 obtain ⟨RR, hRR⟩ : ∃ RR, RR = chgF A.im X.st D P [] := ⟨_, rfl⟩
 have HRR := Lib.hid hRR
 rw [← hRR]
 clear hRR ha hx hp hpd hct h16 hn
 go_enter Tryz.func65, Tryz.ntmps65
 go_wp2_with fail
 refine HCH.out.mono ?_
 rintro e w1 ⟨B, c, rfl, ho, hb1⟩
 rw [List.length_map] at ho
 rw [List.length_map, ← HN.out]
 have HC0 : Hid (CInv w0 w w1 z gx D P A X T U B c 0 D P T (.slice none 0 0) []) := Lib.hid
  ⟨HA.out.below hb1, HX.out.below hb1, Mv.of_below hb1, HL.nil _ _ _, Keep.row ho (fun k hk e => by
   have h1 := own_ge ho hk
   rcases e with e | e
   ·have := HTT.out k e
    omega
   ·simp [Value.ownBlock] at e), CE.start⟩
 clear ho hb1
 go_wp2_with fail
 go_loopw [4, 16] (fun l i wr => ∃ (k : Nat) (D1 : EnS) (P1 : PoS) (T1 : Nat → Prop) (acc : List Ch) (B1 : Option Addr) (c1 : Nat), k ≤ n ∧ i = .int .i64 (k : Int) ∧ l = .slice B1 acc.length c1 ∧ Hid (CInv w0 w wr z gx D P A X T U B c k D1 P1 T1 l acc)) (fun _ i _ => n - (Go.RowKit.intOf i).toNat)
 case atStart => exact ⟨0, D, P, T, [], none, 0, Nat.zero_le _, rfl, rfl, HC0⟩
 case round =>
  obtain ⟨k, D1, P1, T1, acc, B1, c1, hk, rfl, rfl, HC⟩ := hrel
  by_cases hlt : k < n
  ·have t1 : decide ((k : Int) < (n : Int)) = true := decide_eq_true (by omega)
   have t2 : decide (k < n) = true := decide_eq_true hlt
   have j0 : (0 : Int) ≤ (k : Int) := Int.natCast_nonneg _
   have j1 : (k : Int) < (n : Int) := by omega
   obtain ⟨⟨p, m⟩, hpm⟩ : ∃ e, X.st[k]? = some e := ⟨_, List.getElem?_eq_getElem (by rw [← HN.out]; exact hlt)⟩
   have HPM := Lib.hid hpm
   obtain ⟨g, o, rfl, hcell⟩ := HC.out.page hpm
   obtain ⟨mx, hxb⟩ := HC.out.xz.xb
   obtain ⟨im, hab⟩ := HC.out.az.ab
   have x1 := hxb.c1
   have a1 := hab.c1
   have HG := Lib.hid (PGet_az HC.out.az (p : Int) (by have := HC.out.ce.2.1; have := HPD.out; omega) (by have := HC.out.ce.2.2.1; have := HCT.out; omega))
   clear hxb hab hpm
   go_wp2_with fail
   refine HG.out.mono ?_
   rintro e w2 ⟨v, rfl, hv, T2, wn2, hzn2, hmn2, hbn2, hn2⟩
   have hz2 := hzn2.below hbn2
   have hm2 := hmn2.trans (Mv.of_below hbn2)
   clear hzn2 hmn2 hbn2
   by_cases he : (getR D1 P1 (p : Int)).2.2 = 0
   ·have hlen := HC.out.az.get_len he
    obtain ⟨Bv, cv, rfl, hbv, hcv, _⟩ := hv.formN hlen
    obtain ⟨mx2, B3, c3, hxb2, hlkA, hov, hml, hnT⟩ := (HC.out.xz.step hm2).pay (find_at HSO.out HPM.out) (HP.out _ (List.mem_of_getElem? HPM.out))
    have hlk := hlkA w2 (gr_refl w2)
    clear hlkA
    obtain ⟨_, _, e1, hbm, hc3, hc3m⟩ := hov.formN hml
    injection e1 with e1 _ e2
    subst e1 e2
    have HEQ := Lib.hid (Equal_any Bv B3 4080 4080 cv c3 (getL D1 P1 (p : Int)) m w2 hbv hbm)
    have x2 := hxb2.c2
    rw [he]
    by_cases hme : getL D1 P1 (p : Int) = m
    ·have HC2 := Lib.hid (HC.out.got hz2 hm2 (HC.out.ce.same HPM.out he hme))
     have hb : ((getL D1 P1 (p : Int)) == m) = true := by rw [hme]; exact beq_self_eq_true _
     rw [hb] at HEQ
     clear hv hz2 hm2 hn2 hcell a1 hlen hbv hcv hxb2 hov hml hnT hbm hc3 hc3m hme he hb
     go_wp2_with fail
     refine HEQ.out.mono ?_
     rintro e w3 ⟨rfl, rfl⟩
     go_wp2_with fail
     go_roundw
     all_goals have hlt := of_decide_eq_true t2
     case rel => exact ⟨k + 1, _, _, _, acc, B1, c1, by omega, by go_num, rfl, HC2⟩
     case measure => simp [Go.RowKit.intOf]; omega
    ·go_wp2_with fail
     refine HEQ.out.mono ?_
     rintro e w3 ⟨rfl, rfl⟩
     rw [show ((getL D1 P1 (p : Int)) == m) = false from by rw [beq_eq_false_iff_ne]; exact hme]
     obtain ⟨im2, hab2, hmv2, _⟩ := hz2.mark
     have hb3 := gr_alloc (gr_refl w2) (.cells #[.int .i64 (p : Int), .slice none 0 0, .slice none 0 0] 117)
     have x31 := (hxb2.below hb3).c1
     have a33 := (hab2.below hb3).c3
     have hk3 := mark_look (hmv2.below hb3) (p := p) (HP.out _ (List.mem_of_getElem? HPM.out))
     obtain ⟨mk, hmk⟩ : ∃ mk, mk = (findS A.im p).isSome := ⟨_, rfl⟩
     rw [← hmk] at hk3
     have HMK := Lib.hid hmk
     clear hmk
     cases mk with
     | false =>
      have hch : chg1 A.im p (getL D1 P1 (p : Int)) m = ((p : Int), m, []) := by
       unfold chg1
       rw [if_neg (by rw [← HMK.out]; decide)]
      have hce := HC.out.ce.more HPM.out he hme
      rw [hch] at hce
      have hb2 := gr_alloc (gr_alloc (gr_refl w2) (.cells #[.int .i64 (p : Int), .slice B3 4080 c3, .slice none 0 0] 117)) (.cells #[] 92)
      have hsz : ((w2.alloc (.cells #[.int .i64 (p : Int), .slice B3 4080 c3, .slice none 0 0] 117)).alloc (.cells #[] 92)).heap.size = w2.heap.size + 1 + 1 := by rw [World.size_alloc, World.size_alloc]
      have hrd := Rd.new ((w2.alloc (.cells #[.int .i64 (p : Int), .slice B3 4080 c3, .slice none 0 0] 117)).alloc (.cells #[] 92)) 117 #[.int .i64 (p : Int), .slice B3 4080 c3, .slice none 0 0] 1 3 rfl
      rw [hsz] at hrd
      have HRD := Lib.hid hrd
      obtain ⟨us, r1, r2, r3, r4⟩ := (HC.out.hl.step hm2).below hb2
      have hk1 := Keep.vb (T := TR T2 (.slice B1 acc.length c1)) (hov.below hb2) (fun k hk e => by
       rcases e with e | e
       ·exact hnT k hk e
       ·obtain ⟨cur1, q1⟩ := own_blk r1 e
        obtain ⟨cur2, q2⟩ := own_blk (hov.below hb2) hk
        rw [q1] at q2
        injection q2 with q2
        injection q2 with _ q2 _
        revert q2
        decide)
      have HNEXT : Hid (∀ v8 w8, w8.ownsRow w.heap.size 117 3 v8 (acc.length + 1) (chs us ++ [.int .i64 (p : Int), .slice B3 4080 c3, .slice none 0 0]) → (((w2.alloc (.cells #[.int .i64 (p : Int), .slice B3 4080 c3, .slice none 0 0] 117)).alloc (.cells #[] 92)).alloc (.cells #[.int .i64 (p : Int), .slice B3 4080 c3, .slice none 0 0] 117)).grownBy w8 (Value.slice B1 acc.length c1).ownBlock → (v8.ownBlock = (Value.slice B1 acc.length c1).ownBlock ∨ (v8.ownBlock = some (((w2.alloc (.cells #[.int .i64 (p : Int), .slice B3 4080 c3, .slice none 0 0] 117)).alloc (.cells #[] 92)).alloc (.cells #[.int .i64 (p : Int), .slice B3 4080 c3, .slice none 0 0] 117)).heap.size ∧ (((w2.alloc (.cells #[.int .i64 (p : Int), .slice B3 4080 c3, .slice none 0 0] 117)).alloc (.cells #[] 92)).alloc (.cells #[.int .i64 (p : Int), .slice B3 4080 c3, .slice none 0 0] 117)).grownBy w8 none)) →
        CInv w0 w w8 z gx D P A X T U (some ⟨g, o, none⟩) c (k + 1) (getR D1 P1 (p : Int)).1 (getR D1 P1 (p : Int)).2.1 T2 v8 (acc ++ [((p : Int), m, [])])) := Lib.hid fun v8 w8 ho8 hg8 hv8 =>
       HC.out.said hz2 hm2 hb2 r1 hk1 (fun W _ => ⟨none, 0, rfl, PR.none_ _ _, Nat.le_refl _, Nat.zero_le _⟩) ⟨r3, r4⟩ r2 (gr_alloc (gr_refl _) _) ho8 hg8 hv8 HWS.out HU.out hce
      have HROW := Lib.hid (r1.alloc (.cells #[.int .i64 (p : Int), .slice B3 4080 c3, .slice none 0 0] 117))
      have HLE : Hid (acc.length ≤ 16) := Lib.hid (by have := HC.out.ce.2.2.2; omega)
      have HSZ : Hid (w.heap.size ≤ (((w2.alloc (.cells #[.int .i64 (p : Int), .slice B3 4080 c3, .slice none 0 0] 117)).alloc (.cells #[] 92)).alloc (.cells #[.int .i64 (p : Int), .slice B3 4080 c3, .slice none 0 0] 117)).heap.size) := Lib.hid (by
       have q1 := HC.out.mv.1.size
       have q2 := hm2.1.size
       rw [World.size_alloc, hsz]
       omega)
      clear hce hb2 hsz hrd r1 r2 r3 r4 hk1 hv hz2 hm2 hn2 hcell a1 hlen hbv hcv hxb2 hov hml hnT hbm hc3 hc3m hme he hab2 hmv2 hb3 hch
      go_wp2_with (at_builtin; refine wpList_append_Rd _ rfl (.tmp 72) (.tmp 74) 112 rfl w.heap.size 117 ic _ 3 56 Tryz.underlying112 hic hy0 hy1 hy2 rfl (.slice B1 acc.length c1) acc.length (chs us) rfl HROW.out (some ⟨w2.heap.size + 1 + 1, 0, none⟩) 1 1 [.int .i64 (p : Int), .slice B3 4080 c3, .slice none 0 0] rfl HRD.out (by simp [Value.oneCell']) (by have := HLE.out; omega) (by have := HLE.out; simp only [maxLen]; omega) HSZ.out ?_; intro v8 w8 ho8 hg8 _ hv8; have HC8 := Lib.hid (HNEXT.out v8 w8 ho8 hg8 hv8); obtain ⟨A8, c8, rfl, _, _⟩ := own_form ho8; clear ho8 hg8 hv8)
      go_roundw
      all_goals have hlt := of_decide_eq_true t2
      case rel => exact ⟨k + 1, _, _, _, _, A8, c8, by omega, by go_num, by rw [List.length_append]; rfl, HC8⟩
      case measure => simp [Go.RowKit.intOf]; omega
     | true =>
      have hch : chg1 A.im p (getL D1 P1 (p : Int)) m = ((p : Int), [], diffL (getL D1 P1 (p : Int)) m) := by
       unfold chg1
       rw [if_pos (by rw [← HMK.out])]
      have hce := HC.out.ce.more HPM.out he hme
      rw [hch] at hce
      have HCE := Lib.hid hce
      have hb2 := gr_alloc hb3 (.cells #[] 92)
      have hcb : CB (w2.alloc (.cells #[.int .i64 (p : Int), .slice none 0 0, .slice none 0 0] 117)) w2.heap.size (.int .i64 (p : Int)) (.slice none 0 0) (.slice none 0 0) := heap_alloc_new _ _
      have hcb2 := hcb.below (gr_alloc (gr_refl _) (.cells #[] 92))
      have hs2 : w2.heap.size < ((w2.alloc (.cells #[.int .i64 (p : Int), .slice none 0 0, .slice none 0 0] 117)).alloc (.cells #[] 92)).heap.size := hcb2.lt
      have HDF := Lib.hid (Diff_any Bv B3 cv c3 (getL D1 P1 (p : Int)) m _ (hbv.below hb2) (hbm.below hb2) hc3)
      have HB2 := Lib.hid hb2
      have HCB := Lib.hid hcb2
      have HS2 := Lib.hid hs2
      have HZ2 := Lib.hid hz2
      have HM2 := Lib.hid hm2
      clear hcb hcb2 hs2 hb2 hce hv hz2 hm2 hn2 hcell a1 hlen hbv hcv hxb2 hov hml hnT hbm hc3 hc3m hme he hab2 hmv2 hb3 hch
      go_wp2_with fail
      refine HDF.out.mono ?_
      rintro e w4 ⟨v4, rfl, hop, hb4⟩
      obtain ⟨Ap, cp2, rfl, _, _, _⟩ := hop.form rfl
      generalize diffL (getL D1 P1 (p : Int)) m = dl at *
      have hcb4 := HCB.out.below hb4
      have fz := hcb4.frozen 2
      have hcb5 := hcb4.s2 (.slice Ap dl.length cp2)
      have y0 := hcb4.c0
      have y1 := hcb4.c1
      have y2 := hcb4.c2
      have ho5 : Off (· = w2.heap.size) w4 (w4.setCell ⟨w2.heap.size, 2, none⟩ (.slice Ap dl.length cp2)) := (Off.refl _ _).setCell _ rfl
      have hb24 : Below w2.heap.size w2 w4 := gr_trans HB2.out hb4
      have hb25 : Below w2.heap.size w2 (w4.setCell ⟨w2.heap.size, 2, none⟩ (.slice Ap dl.length cp2)) := hb24.trans (ho5.below (fun k e => Nat.le_of_eq e.symm) hb24.size)
      have hop5 := Keep.op (T := fun k => k < ((w2.alloc (.cells #[.int .i64 (p : Int), .slice none 0 0, .slice none 0 0] 117)).alloc (.cells #[] 92)).heap.size) hop (fun k e => e) _ (fun k hk hn => ho5.block k hk (fun e => hn (by
       have := HS2.out
       dsimp only
       omega)))
      have hsz : (w4.setCell ⟨w2.heap.size, 2, none⟩ (.slice Ap dl.length cp2)).heap.size = w4.heap.size := by simp [World.setCell]
      have hrd := Rd.new (w4.setCell ⟨w2.heap.size, 2, none⟩ (.slice Ap dl.length cp2)) 117 #[.int .i64 (p : Int), .slice none 0 0, .slice Ap dl.length cp2] 1 3 rfl
      rw [hsz] at hrd
      have HRD := Lib.hid hrd
      obtain ⟨us, r1, r2, r3, r4⟩ := (HC.out.hl.step HM2.out).below hb25
      have hk2 := (Keep.op (T := TR T2 (.slice B1 acc.length c1)) hop5 (fun k e => by
       have := HS2.out
       rcases e with e | e
       ·have := (HZ2.out.lt e).2
        omega
       ·obtain ⟨us', r1', _⟩ := HC.out.hl.step HM2.out
        obtain ⟨cur1, q1⟩ := own_blk r1' e
        have := (Array.getElem?_eq_some_iff.1 q1).1
        omega)).mono fun W h => h.vp
      have HNEXT : Hid (∀ v8 w8, w8.ownsRow w.heap.size 117 3 v8 (acc.length + 1) (chs us ++ [.int .i64 (p : Int), .slice none 0 0, .slice Ap dl.length cp2]) → ((w4.setCell ⟨w2.heap.size, 2, none⟩ (.slice Ap dl.length cp2)).alloc (.cells #[.int .i64 (p : Int), .slice none 0 0, .slice Ap dl.length cp2] 117)).grownBy w8 (Value.slice B1 acc.length c1).ownBlock → (v8.ownBlock = (Value.slice B1 acc.length c1).ownBlock ∨ (v8.ownBlock = some ((w4.setCell ⟨w2.heap.size, 2, none⟩ (.slice Ap dl.length cp2)).alloc (.cells #[.int .i64 (p : Int), .slice none 0 0, .slice Ap dl.length cp2] 117)).heap.size ∧ ((w4.setCell ⟨w2.heap.size, 2, none⟩ (.slice Ap dl.length cp2)).alloc (.cells #[.int .i64 (p : Int), .slice none 0 0, .slice Ap dl.length cp2] 117)).grownBy w8 none)) →
        CInv w0 w w8 z gx D P A X T U (some ⟨g, o, none⟩) c (k + 1) (getR D1 P1 (p : Int)).1 (getR D1 P1 (p : Int)).2.1 T2 v8 (acc ++ [((p : Int), [], dl)])) := Lib.hid fun v8 w8 ho8 hg8 hv8 =>
       HC.out.said HZ2.out HM2.out hb25 r1 (fun W _ => ⟨none, 0, rfl, BR.none_ _ _, Nat.le_refl _, Nat.zero_le _⟩) hk2 ⟨r3, r4⟩ r2 (gr_alloc (gr_refl _) _) ho8 hg8 hv8 HWS.out HU.out HCE.out
      have HROW := Lib.hid (r1.alloc (.cells #[.int .i64 (p : Int), .slice none 0 0, .slice Ap dl.length cp2] 117))
      have HLE : Hid (acc.length ≤ 16) := Lib.hid (by have := HC.out.ce.2.2.2; omega)
      have HSZ : Hid (w.heap.size ≤ ((w4.setCell ⟨w2.heap.size, 2, none⟩ (.slice Ap dl.length cp2)).alloc (.cells #[.int .i64 (p : Int), .slice none 0 0, .slice Ap dl.length cp2] 117)).heap.size) := Lib.hid (by
       have q1 := HC.out.mv.1.size
       have q2 := HM2.out.1.size
       have q3 := hb25.size
       rw [World.size_alloc]
       omega)
      clear hcb4 hcb5 ho5 hb24 hb25 hop5 hsz hrd r1 r2 r3 r4 hk2 hop hb4
      go_wp2_with (at_builtin; refine wpList_append_Rd _ rfl (.tmp 72) (.tmp 74) 112 rfl w.heap.size 117 ic _ 3 56 Tryz.underlying112 hic hy0 hy1 hy2 rfl (.slice B1 acc.length c1) acc.length (chs us) rfl HROW.out (some ⟨w4.heap.size, 0, none⟩) 1 1 [.int .i64 (p : Int), .slice none 0 0, .slice Ap dl.length cp2] rfl HRD.out (by simp [Value.oneCell']) (by have := HLE.out; omega) (by have := HLE.out; simp only [maxLen]; omega) HSZ.out ?_; intro v8 w8 ho8 hg8 _ hv8; have HC8 := Lib.hid (HNEXT.out v8 w8 ho8 hg8 hv8); obtain ⟨A8, c8, rfl, _, _⟩ := own_form ho8; clear ho8 hg8 hv8)
      go_roundw
      all_goals have hlt := of_decide_eq_true t2
      case rel => exact ⟨k + 1, _, _, _, _, A8, c8, by omega, by go_num, by rw [List.length_append]; rfl, HC8⟩
      case measure => simp [Go.RowKit.intOf]; omega
   ·obtain ⟨r, hr⟩ : ∃ r, r = (getR D1 P1 (p : Int)).2.2 := ⟨_, rfl⟩
    have hbad := HC.out.ce.bad HPM.out he
    rw [← hr] at he
    have t3 : (r != 0) = true := by rw [bne_iff_ne]; exact he
    have HF : Hid (ACh w0 w z gx A X T U RR (.returned (.tuple #[.slice none 0 0, .int .i64 r])) w2) := Lib.hid (by
     rw [HRR.out, hbad, ← hr]
     exact ⟨none, 0, rfl, T2, hz2, HC.out.xz.step hm2, HC.out.mv.trans hm2, HL.nil _ _ _⟩)
    obtain ⟨Bv, cv, rfl, _⟩ := hv.form
    rw [← hr]
    clear hbad he hr hv hz2 hm2 hn2 hcell x1 a1
    go_wp2_with fail
    go_ret2
    exact HF.out
  ·have t1 : decide ((k : Int) < (n : Int)) = false := decide_eq_false (by omega)
   have t2 : decide (k < n) = false := decide_eq_false hlt
   have HF : Hid (ACh w0 w z gx A X T U RR (.returned (.tuple #[.slice B1 acc.length c1, .int .i64 0])) wr) := Lib.hid (by
    rw [HRR.out, HC.out.ce.all (by rw [← HN.out]; omega)]
    exact ⟨B1, c1, rfl, T1, HC.out.az, HC.out.xz, HC.out.mv, HC.out.hl⟩)
   go_wp2_with fail
   go_ret2
   exact HF.out
end Go.Proofs.YtnkeclpgpiogoaaGreat

/-! AtM -/
namespace Go.Proofs.YtnkeclpgpiogoaaGreat
open Go Go.RowKit Go.Maps
set_option maxRecDepth 100000 in
theorem fluJ_la (D : DiskS) (J : JnS) : (fluJ D J).la = J.la := (fluJ_shape D J).2.2.2
set_option maxRecDepth 100000 in
theorem logD_la (D : EnS) (n : Int) : (logD D n).j.la = D.j.la := by
 unfold logD
 split
 ·rfl
 ·exact fluJ_la _ _
set_option maxRecDepth 100000 in
theorem writeR_la (D : EnS) (P : PoS) (n : Nat) : (writeR D P n).1.j.la = D.j.la := by
 unfold writeR
 dsimp only
 split
 ·exact logD_la _ _
 ·split
  ·exact logD_la _ _
  ·exact logD_la _ _
set_option maxRecDepth 100000 in
theorem holdR_la (D : EnS) (P : PoS) (f : FrS) : (holdR D P f).1.j.la = D.j.la := by
 unfold holdR
 split
 ·rfl
 ·split
  ·split
   ·exact writeR_la _ _ _
   ·exact writeR_la _ _ _
  ·rfl
set_option maxRecDepth 100000 in
theorem getR_la (D : EnS) (P : PoS) (p : Int) : (getR D P p).1.j.la = D.j.la := by
 unfold getR
 split
 ·rfl
 ·split
  ·rfl
  ·dsimp only
   split
   ·rfl
   ·split
    ·rfl
    ·exact holdR_la _ _ _
set_option maxRecDepth 100000 in
theorem chgF_la (im : List (Nat × Unit)) : ∀ (st : List (Nat × List UInt8)) (D : EnS) (P : PoS) (acc : List Ch), (chgF im st D P acc).1.j.la = D.j.la
 | [], _, _, _ => rfl
 | (p, m) :: r, D, P, acc => by
  rw [chgF_cons]
  split
  ·exact getR_la _ _ _
  ·split
   ·rw [chgF_la im r]
    exact getR_la _ _ _
   ·rw [chgF_la im r]
    exact getR_la _ _ _
def PE (st : List (Nat × List UInt8)) (n : Int) (l : List Ch) (D0 : EnS) (P0 : PoS) (k : Nat) (D : EnS) (P : PoS) : Prop :=
 putF st n l D0 P0 = putF st n (l.drop k) D P ∧ D.d.pending.length ≤ D0.d.pending.length + k ∧ P.count ≤ P0.count + k
section
variable {st : List (Nat × List UInt8)} {n : Int} {l : List Ch} {D0 D : EnS} {P0 P : PoS} {k : Nat}
set_option maxRecDepth 100000 in
theorem PE.start : PE st n l D0 P0 0 D0 P0 := ⟨rfl, Nat.le_refl _, Nat.le_refl _⟩
set_option maxRecDepth 100000 in
theorem PE.cons (h : PE st n l D0 P0 k D P) (hk : k < l.length) : putF st n l D0 P0 = putF st n (l.getD k ch0 :: l.drop (k + 1)) D P := by
 rw [h.1, ch_drop hk]
set_option maxRecDepth 100000 in
theorem PE.bad (h : PE st n l D0 P0 k D P) (hk : k < l.length) {p : Nat} {m : List UInt8} (hp : (l.getD k ch0).1 = (p : Int)) (hm : findS st p = some m) (he : (setR D P (p : Int) m n).2.2 ≠ 0) : putF st n l D0 P0 = setR D P (p : Int) m n := by
 rw [h.cons hk]
 unfold putF
 dsimp only
 rw [hp, Int.toNat_natCast, hm, Option.getD_some, if_pos he]
set_option maxRecDepth 100000 in
theorem PE.next (h : PE st n l D0 P0 k D P) (hk : k < l.length) {p : Nat} {m : List UInt8} (hp : (l.getD k ch0).1 = (p : Int)) (hm : findS st p = some m) (he : (setR D P (p : Int) m n).2.2 = 0) : PE st n l D0 P0 (k + 1) (setR D P (p : Int) m n).1 (setR D P (p : Int) m n).2.1 := by
 obtain ⟨g1, g2⟩ := setR_pl he
 refine ⟨?_, by have := h.2.1; omega, by have := h.2.2; omega⟩
 rw [h.cons hk]
 conv => lhs; unfold putF
 dsimp only
 rw [hp, Int.toNat_natCast, hm, Option.getD_some, if_neg (by rw [he]; exact fun h => h rfl)]
set_option maxRecDepth 100000 in
theorem PE.all (h : PE st n l D0 P0 k D P) (hk : l.length ≤ k) : putF st n l D0 P0 = (D, P, 0) := by
 rw [h.1, List.drop_of_length_le hk]
 rfl
set_option maxRecDepth 100000 in
theorem markF_at {im0 im : List (Nat × Unit)} (h : markF l im0 = markF (l.drop k) im) (hk : k < l.length) : markF l im0 = markF (l.drop (k + 1)) (if 0 < (l.getD k ch0).2.1.length then insS (l.getD k ch0).1.toNat () im else im) := by
 rw [h, ch_drop hk]
 rfl
end
section
variable {w0 w w' : World} {z : Wh} {D D' : EnS} {P : PoS} {A : AtS} {X : AxS} {T T' U : Nat → Prop} {gx : Nat}
set_option maxRecDepth 100000 in
theorem AZ.brk (h : AZ w0 w z D P A T) : AZ w0 (w.setCell ⟨z.ga, 4, none⟩ (.bool true)) z D P { A with br := true } T ∧ Off T w (w.setCell ⟨z.ga, 4, none⟩ (.bool true)) := by
 obtain ⟨F, tv, mb, q, im, h1, h2, h3, h4, h5, h6, h7, h8, h9⟩ := h.ex
 have ho : Off (· = z.ga) w (w.setCell ⟨z.ga, 4, none⟩ (.bool true)) := (Off.refl _ _).setCell _ rfl
 have hps : ∀ k, PS z.gp F tv mb q k → ¬ k = z.ga := fun k hk e => h6 (e ▸ hk)
 have hx : PX (w.setCell ⟨z.ga, 4, none⟩ (.bool true)) w0.heap.size z.gp z.gd z.wv D P F tv mb q := ⟨h1.dk.nb ho (fun k e => by rw [e]; exact h2.nb), h1.pb.off ho (hps _ (.inr (.inl rfl))), ownsRow_off h1.tk ho (fun k e => hps k (.inr (.inr (.inr (.inl e))))), h1.qf, fun x hx => (h1.pv x hx).off ho (fun k e => hps k (.inr (.inr (.inr (.inr ⟨x, hx, e⟩))))), h1.ap, h1.mp.off ho (hps _ (.inr (.inr (.inl rfl)))), h1.pi, h1.bp, h1.bm⟩
 exact ⟨⟨h.bel.trans (ho.below (fun k e => by rw [e]; exact h4) h.bel.size), h.lv, F, tv, mb, q, im, hx, h2.s4 true, h3.off ho (fun e => h3.notCells h2 e), h4, h5, h6, h7, h8, h9⟩, ho.mono fun k _ e => (h9 k).2 (.inr (.inl e))⟩
set_option maxRecDepth 100000 in
theorem end_az (ha : AZ w0 w z D P A T) (hx : XZ w w0.heap.size z.ga gx X T U) (ho : X.ov = false) :
  Calls Tryz.prog 66 #[.pointer (some ⟨gx, 0, none⟩)] w fun e w' => e = .returned (.tuple #[]) ∧ AZ w0 w' z D P A T ∧ XZ w' w0.heap.size z.ga gx { X with ov := true } T U ∧ Off U w w' := by
 obtain ⟨mx, q, h1, h2, h3, h4, h5, h6, h7, h8, h9, h10, h11⟩ := hx.ex
 rw [ho] at h1
 refine (end_any h1).mono ?_
 rintro e w' ⟨rfl, k1, k2⟩
 refine ⟨rfl, ha.nb k2 (fun k e => by subst e; exact ⟨h1.nb, h8, h6⟩), ⟨mx, q, k1, h2.off k2 (fun e => h2.notCells h1 e), h3, fun e he => ⟨(h4 e he).1.off k2 (fun k hk e2 => ?_), (h4 e he).2⟩, h5, h6, h7, h8, h9, h10, h11⟩, k2.mono fun k _ e => (h11 k).2 (.inl e)⟩
 subst e2
 obtain ⟨cur, hc⟩ := own_blk (h4 e he).1 hk
 rw [h1] at hc
 injection hc with hc
 injection hc with _ hc _
 revert hc
 decide
set_option maxRecDepth 100000 in
theorem Last_az (ha : AZ w0 w z D P A T) : Calls Tryz.prog 29 #[.pointer (some ⟨D.gj, 0, none⟩)] w fun e w' => e = .returned (.int .i64 (D.j.la : Int)) ∧ Below w.heap.size w w' := by
 obtain ⟨F, hi⟩ := ha.ie
 obtain ⟨wv, hj⟩ := jb_of hi
 exact Last_any hj
def TU (T U : Nat → Prop) (k : Nat) : Prop := T k ∨ U k
def ADone (w0 w : World) (z : Wh) (gx : Nat) (T U : Nat → Prop) (r : DRes) (e : Ending) (w' : World) : Prop :=
 e = .returned (.tuple #[.int .i64 r.n, .int .i64 r.e]) ∧ ∃ T', AZ w0 w' z r.D r.P r.A T' ∧ XZ w' w0.heap.size z.ga gx r.X T' U ∧ Off (TU T U) w w' ∧ ∀ k, T' k → T k ∨ w.heap.size ≤ k
set_option maxRecDepth 100000 in
theorem ADone.of {r : DRes} {e : Ending} (he : e = .returned (.tuple #[.int .i64 r.n, .int .i64 r.e])) (ha : AZ w0 w' z r.D r.P r.A T') (hx : XZ w' w0.heap.size z.ga gx r.X T' U) (hm : Mv T T' w w') : ADone w0 w z gx T U r e w' :=
 ⟨he, T', ha, hx, hm.1.mono fun _ _ e => .inl e, hm.2⟩
set_option maxRecDepth 100000 in
theorem AB.same {ga gp gj im im' : Nat} {br : Bool} (h : AB w ga gp gj im br) (h' : AB w ga gp gj im' br) : im = im' := by
 have := h.c3
 rw [h'.c3] at this
 injection this with this
 injection this with this
 injection this with this
 exact this.symm
set_option maxRecDepth 100000 in
theorem rp_le : ∀ (ps : List Pc) (e : Int), rpFrom e ps = true → ∀ q ∈ ps, q.1 ≤ 4080
 | [], _, _, q, hq => by cases hq
 | p :: ps, e, h, q, hq => by
  unfold rpFrom at h
  split at h
  ·cases h
  ·rcases List.mem_cons.1 hq with rfl | hq
   ·omega
   ·exact rp_le ps _ h q hq
set_option maxRecDepth 100000 in
theorem chg_mem {im : List (Nat × Unit)} {st : List (Nat × List UInt8)} {D : EnS} {P : PoS} (hs : SortS st) (hp : ∀ e ∈ st, (e.1 : Int) ≤ 9223372036854775807 ∧ e.2.length = 4080) {c : Ch} (h : c ∈ (chgF im st D P []).2.2.2) : ∃ (p : Nat) (m : List UInt8), c.1 = (p : Int) ∧ findS st p = some m ∧ (p : Int) ≤ 9223372036854775807 ∧ ∀ q ∈ c.2.2, q.1 ≤ 9223372036854775807 := by
 rcases chgF_mem im st D P [] c h with h | ⟨e, he, old, rfl⟩
 ·cases h
 ·obtain ⟨i, hi⟩ := List.getElem?_of_mem he
  obtain ⟨h1, h2⟩ := hp e he
  refine ⟨e.1, e.2, chg1_page .., find_at hs hi, h1, fun q hq => ?_⟩
  unfold chg1 at hq
  split at hq
  ·have := rp_le _ _ (diff_right (a := old) h2).1 q hq
   omega
  ·cases hq
structure DInv (w0 w wr : World) (z : Wh) (gx : Nat) (A : AtS) (X : AxS) (T0 U : Nat → Prop) (B : Option Addr) (cs : List Ch) (n : Int) (D0 : EnS) (P0 : PoS) (k : Nat) (D : EnS) (P : PoS) (T : Nat → Prop) : Prop where
 az : AZ w0 wr z D P A T
 xz : XZ wr w0.heap.size z.ga gx X T U
 mv : Mv T0 T w wr
 cr : Keep wr T (fun W => CR W B cs.length cs)
 pe : PE X.st n cs D0 P0 k D P
structure MInv (w0 w wr : World) (z : Wh) (gx : Nat) (A : AtS) (X : AxS) (T0 U : Nat → Prop) (B : Option Addr) (cs : List Ch) (D : EnS) (P : PoS) (T : Nat → Prop) (k : Nat) (im : List (Nat × Unit)) : Prop where
 az : AZ w0 wr z D P { A with im := im } T
 xz : XZ wr w0.heap.size z.ga gx X T U
 mv : Mv T0 T w wr
 cr : Keep wr T (fun W => CR W B cs.length cs)
 ma : markF cs A.im = markF (cs.drop k) im
 le : im.length ≤ A.im.length + k
end
set_option maxRecDepth 100000 in
set_option maxHeartbeats 2000000 in
theorem Done_at {w0 w : World} {z : Wh} {D : EnS} {P : PoS} {A : AtS} {X : AxS} {T U : Nat → Prop} {gx : Nat} (ha : AZ w0 w z D P A T) (hx : XZ w w0.heap.size z.ga gx X T U) (tx : Int) (h16 : X.st.length ≤ 16) (hp : ∀ e ∈ X.st, (e.1 : Int) ≤ 9223372036854775807) (hpd : D.d.pending.length ≤ 898000) (hct : P.count ≤ 1152921504606845000) (hla : D.j.la + 1 ≤ 1152921504606846976) (him : A.im.length ≤ 4096) :
  Calls Tryz.prog 15 #[.pointer (some ⟨gx, 0, none⟩), .int .i64 tx] w (ADone w0 w z gx T U (doneR D P A X tx)) := by
 obtain ⟨im0, hab⟩ := ha.ab
 obtain ⟨mx0, hxb⟩ := hx.xb
 have HST : Hid (Calls Tryz.prog 64 #[.pointer (some ⟨gx, 0, none⟩)] w fun e w' => e = .returned (.int .i64 (stE A X)) ∧ w = w') := Lib.hid (xstands_any hab hxb)
 have HA := Lib.hid ha
 have HX := Lib.hid hx
 obtain ⟨RR, hRR⟩ : ∃ RR, RR = doneR D P A X tx := ⟨_, rfl⟩
 have HRR := Lib.hid hRR
 rw [← hRR]
 by_cases hst : stE A X = 0
 ·by_cases htx : tx < 0 ∨ 4611686018427387904 < tx
  ·have HF : Hid (ADone w0 w z gx T U RR (.returned (.tuple #[.int .i64 0, .int .i64 2])) w) := Lib.hid (by
    rw [HRR.out]
    unfold doneR
    rw [if_neg (by rw [hst]; exact fun h => h rfl), if_pos htx]
    exact ADone.of rfl HA.out HX.out (Mv.of_below (gr_refl w)))
   rw [hst] at HST
   clear ha hx hab hxb hst hRR hpd hct hla him h16 hp
   by_cases h1 : tx < 0
   ·have t1 : decide (tx < 0) = true := decide_eq_true h1
    clear htx h1
    go_enter Tryz.func15, Tryz.ntmps15
    go_wp2_with fail
    refine HST.out.mono ?_
    rintro e w1 ⟨rfl, rfl⟩
    go_wp2_with fail
    go_ret2
    exact HF.out
   ·have t1 : decide (tx < 0) = false := decide_eq_false h1
    have t2 : decide (4611686018427387904 < tx) = true := decide_eq_true (by omega)
    clear htx h1
    go_enter Tryz.func15, Tryz.ntmps15
    go_wp2_with fail
    refine HST.out.mono ?_
    rintro e w1 ⟨rfl, rfl⟩
    go_wp2_with fail
    go_ret2
    exact HF.out
  ·have hov : X.ov = false := by
    cases h : X.ov with
    | false => rfl
    | true =>
     unfold stE at hst
     rw [h] at hst
     cases hst
   have hbr : A.br = false := by
    cases h : A.br with
    | false => rfl
    | true =>
     unfold stE at hst
     rw [hov, h] at hst
     cases hst
   obtain ⟨⟨D1, P1, e1, cs⟩, hz⟩ : ∃ r, r = chgF A.im X.st D P [] := ⟨_, rfl⟩
   have hRD : RR = if e1 ≠ 0 then ⟨D1, P1, A, X, 0, e1⟩ else done2 D1 P1 A X tx cs := by
    rw [hRR]
    unfold doneR
    rw [if_neg (by rw [hst]; exact fun h => h rfl), if_neg htx, ← hz]
   have HCH := Lib.hid (changes_at ha hx h16 hp (by omega) (by omega))
   rw [← hz] at HCH
   have HZB : Hid (e1 = 0 → D1.d.pending.length ≤ D.d.pending.length + 16 ∧ P1.count ≤ P.count + 16 ∧ cs.length ≤ 16) := Lib.hid (fun he => by
    have := chgF_pl A.im X.st D P [] (by rw [← hz]; exact he)
    rw [← hz] at this
    dsimp only [List.length_nil] at this
    omega)
   have HMEM : Hid (∀ c ∈ cs, ∃ (p : Nat) (m : List UInt8), c.1 = (p : Int) ∧ findS X.st p = some m ∧ (p : Int) ≤ 9223372036854775807 ∧ ∀ q ∈ c.2.2, q.1 ≤ 9223372036854775807) := Lib.hid (fun c hc => by
    refine chg_mem (im := A.im) (D := D) (P := P) ?_ (fun e he => ⟨hp e he, ?_⟩) (by rw [← hz]; exact hc)
    ·obtain ⟨mx, q, x1, x2, x3, x4, x5, x6, x7, x8, x9, x10, x11⟩ := hx.ex
     exact x10
    ·obtain ⟨mx, q, x1, x2, x3, x4, x5, x6, x7, x8, x9, x10, x11⟩ := hx.ex
     rw [← x3] at he
     obtain ⟨y, hy, rfl⟩ := List.mem_map.1 he
     exact (x4 y hy).2)
   obtain ⟨m, hm⟩ : ∃ m, m = cs.length := ⟨_, rfl⟩
   have HM := Lib.hid hm
   have HLA : Hid (D1.j.la = D.j.la) := Lib.hid (by
    have := chgF_la A.im X.st D P []
    rw [← hz] at this
    exact this)
   have HBD := Lib.hid (And.intro hpd (And.intro hct (And.intro hla him)))
   have HOV := Lib.hid hov
   have HBR := Lib.hid hbr
   have HRD := Lib.hid hRD
   have a1 := hxb.c1
   have t1 : decide (tx < 0) = false := decide_eq_false (by omega)
   have t2 : decide (4611686018427387904 < tx) = false := decide_eq_false (by omega)
   rw [hst] at HST
   clear ha hx hab hxb hst hRR hpd hct hla him h16 hp hov hbr hz hRD htx hm
   go_enter Tryz.func15, Tryz.ntmps15
   go_wp2_with fail
   refine HST.out.mono ?_
   rintro e w1 ⟨rfl, rfl⟩
   go_wp2_with fail
   refine HCH.out.mono ?_
   rintro e w1 ⟨B, c, rfl, T1, ha1, hx1, hm1, hl1⟩
   dsimp only at ha1 hx1 hm1 hl1 ⊢
   rw [← HM.out]
   have HA1 := Lib.hid ha1
   have HX1 := Lib.hid hx1
   have HM1 := Lib.hid hm1
   have HL1 := Lib.hid hl1
   clear ha1 hx1 hm1 hl1 a1
   by_cases he1 : e1 = 0
   ·subst he1
    have HB1 := Lib.hid (HZB.out rfl)
    have hm16 : m ≤ 16 := by rw [HM.out]; exact HB1.out.2.2
    by_cases hl0 : m = 0
    ·subst hl0
     have HE := Lib.hid (end_az HA1.out HX1.out HOV.out)
     go_wp2_with fail
     refine HE.out.mono ?_
     rintro e w2 ⟨rfl, ha2, hx2, ho2⟩
     obtain ⟨im2, hab2⟩ := ha2.ab
     have a2 := hab2.c2
     have HLS := Lib.hid (Last_az ha2)
     have HF : Hid (∀ w3, Below w2.heap.size w2 w3 → ADone w0 w z gx T U RR (.returned (.tuple #[.int .i64 (D1.j.la : Int), .int .i64 0])) w3) := Lib.hid (fun w3 hb3 => by
      rw [HRD.out, if_neg (by exact fun h => h rfl)]
      unfold done2
      rw [if_pos HM.out.symm]
      exact ⟨rfl, T1, ha2.below hb3, hx2.below hb3, ((HM1.out.1.mono fun _ _ e => .inl e).chain ho2 (fun k e => .inl (.inr e))).trans (Off.of_below hb3), HM1.out.2⟩)
     clear ha2 hx2 ho2 hab2
     go_wp2_with fail
     refine HLS.out.mono ?_
     rintro e w3 ⟨rfl, hb3⟩
     have HF3 := Lib.hid (HF.out w3 hb3)
     clear hb3
     go_wp2_with fail
     go_ret2
     exact HF3.out
    ·have t3 : ((m : Int) == 0) = false := beq_eq_false_iff_ne.2 (by omega)
     obtain ⟨im1, hab1⟩ := HA1.out.ab
     have a2 := hab1.c2
     have hap := JAppend_az HA1.out 1 tx B cs.length c cs HL1.out.cr (by have := HB1.out.2.2; omega) (fun x hx q hq => by obtain ⟨_, _, _, _, _, h⟩ := HMEM.out x hx; exact h q hq) (by rw [HLA.out]; exact HBD.out.2.2.1)
     obtain ⟨nn, hnn⟩ : ∃ nn, nn = appN D1.j ⟨1, tx, cs⟩ := ⟨_, rfl⟩
     obtain ⟨ae, hae⟩ : ∃ ae, ae = appE D1.j ⟨1, tx, cs⟩ := ⟨_, rfl⟩
     rw [← hnn, ← hae, ← HM.out] at hap
     have HAP : Hid (Calls Tryz.prog 67 #[.pointer (some ⟨D1.gj, 0, none⟩), .agg #[.int .u8 1, .int .i64 tx, .slice B m c]] w1 fun e w' => e = .returned (.tuple #[.int .i64 (nn : Int), .int .i64 ae]) ∧ ∃ T', AZ w0 w' z (D1.app ⟨1, tx, cs⟩) P1 A T' ∧ Mv T1 T' w1 w') := Lib.hid hap
     have HNN := Lib.hid hnn
     have HAE := Lib.hid hae
     clear hab1 hap hnn hae
     go_wp2_with fail
     refine HAP.out.mono ?_
     rintro e w2 ⟨rfl, T2, ha2, hm2⟩
     have HM0 := Lib.hid (HM1.out.trans hm2)
     have HX2 := Lib.hid (HX1.out.step hm2)
     have HK2 := Lib.hid (HL1.out.step hm2).keep
     have HA2 := Lib.hid ha2
     clear ha2 hm2 a2
     by_cases h0 : ae = 0
     ·subst h0
      have HR2 : Hid (RR = if (putF X.st (nn : Int) cs (D1.app ⟨1, tx, cs⟩) P1).2.2 ≠ 0 then ⟨(putF X.st (nn : Int) cs (D1.app ⟨1, tx, cs⟩) P1).1, (putF X.st (nn : Int) cs (D1.app ⟨1, tx, cs⟩) P1).2.1, { A with br := true }, X, 0, (putF X.st (nn : Int) cs (D1.app ⟨1, tx, cs⟩) P1).2.2⟩
        else ⟨(putF X.st (nn : Int) cs (D1.app ⟨1, tx, cs⟩) P1).1, (putF X.st (nn : Int) cs (D1.app ⟨1, tx, cs⟩) P1).2.1, { A with im := markF cs A.im }, { X with ov := true }, (nn : Int), 0⟩) := Lib.hid (by
       rw [HRD.out, if_neg (by exact fun h => h rfl)]
       unfold done2
       rw [if_neg (by rw [← HM.out]; exact hl0), if_neg (by rw [← HAE.out]; exact fun h => h rfl), ← HNN.out])
      have HPD2 : Hid ((D1.app ⟨1, tx, cs⟩).d.pending.length ≤ 899000 ∧ P1.count ≤ 1152921504606846000) := Lib.hid (by
       have q1 := HB1.out
       have q2 := HBD.out
       refine ⟨?_, by omega⟩
       show D1.d.pending.length ≤ 899000
       omega)
      generalize D1.app ⟨1, tx, cs⟩ = D2 at *
      have HI0 : Hid (DInv w0 w w2 z gx A X T U B cs (nn : Int) D2 P1 0 D2 P1 T2) := Lib.hid ⟨HA2.out, HX2.out, HM0.out, HK2.out, PE.start⟩
      have hnn0 : (nn : Int) ≤ 9223372036854775807 := by
       have q1 := HNN.out
       have q2 := HLA.out
       have q3 := HBD.out
       unfold appN at q1
       split at q1 <;> omega
      clear HA2 HX2 HM0 HK2
      go_wp2_with fail
      go_loopw [65] (fun i wr => ∃ (k : Nat) (D3 : EnS) (P3 : PoS) (T3 : Nat → Prop), k ≤ m ∧ i = .int .i64 (k : Int) ∧ Hid (DInv w0 w wr z gx A X T U B cs (nn : Int) D2 P1 k D3 P3 T3)) (fun i _ => m - (Go.RowKit.intOf i).toNat)
      case atStart => exact ⟨0, D2, P1, T2, Nat.zero_le _, rfl, HI0⟩
      case round =>
       obtain ⟨k, D3, P3, T3, hk, rfl, HI⟩ := hrel
       by_cases hlt : k < m
       ·have t4 : decide ((k : Int) < (m : Int)) = true := decide_eq_true (by omega)
        have t5 : decide (k < m) = true := decide_eq_true hlt
        have j0 : (0 : Int) ≤ (k : Int) := Int.natCast_nonneg _
        have j1 : (k : Int) < (m : Int) := by omega
        have HKL : Hid (k < cs.length) := Lib.hid (by rw [← HM.out]; exact hlt)
        obtain ⟨g, o, B', c', Dd, dd, rfl, q0, q1, q2, _, _, _, _, _, _⟩ := HI.out.cr.now.at_ HKL.out
        obtain ⟨p, mm, hp1, hp2, hp3, _⟩ := HMEM.out _ (ch_mem HKL.out)
        rw [hp1] at q0
        have HP1 := Lib.hid hp1
        have HP2 := Lib.hid hp2
        generalize (cs.getD k ch0).2.1.length = il at q1
        generalize (cs.getD k ch0).2.2.length = pl at q2
        obtain ⟨mx, B3, c3, hxb3, hlk, hov3, hml, hnT⟩ := HI.out.xz.pay hp2 hp3
        obtain ⟨_, _, e1, hbm, _, _⟩ := hov3.formN hml
        injection e1 with e1 _ e2
        subst e1 e2
        obtain ⟨im3, hab3⟩ := HI.out.az.ab
        have hbx := gr_alloc (gr_refl wr) (.cells #[.int .i64 (p : Int), .slice B' il c', .slice Dd pl dd] 117)
        have hcb : CB (wr.alloc (.cells #[.int .i64 (p : Int), .slice B' il c', .slice Dd pl dd] 117)) wr.heap.size (.int .i64 (p : Int)) (.slice B' il c') (.slice Dd pl dd) := heap_alloc_new _ _
        have K0 := Lib.hid (hab3.below hbx).c1
        have K1 := Lib.hid hcb.c0
        have K2 := Lib.hid (hxb3.below hbx).c2
        have HLK : Hid (∀ W, Below (wr.alloc (.cells #[.int .i64 (p : Int), .slice B' il c', .slice Dd pl dd] 117)).heap.size (wr.alloc (.cells #[.int .i64 (p : Int), .slice B' il c', .slice Dd pl dd] 117)) W → (Instr.lookup 91 (.map (some mx)) (.int .i64 p) false).run Tryz.prog W = .ok (.slice B3 4080 c3) W) := Lib.hid (fun W hW => hlk W (gr_trans hbx hW))
        have HSE : Hid (∀ W, Below (wr.alloc (.cells #[.int .i64 (p : Int), .slice B' il c', .slice Dd pl dd] 117)).heap.size (wr.alloc (.cells #[.int .i64 (p : Int), .slice B' il c', .slice Dd pl dd] 117)) W → Calls Tryz.prog 68 #[.pointer (some ⟨z.gp, 0, none⟩), .int .i64 (p : Int), .slice B3 4080 c3, .int .i64 (nn : Int)] W fun e w' => e = .returned (.int .i64 (setR D3 P3 (p : Int) mm (nn : Int)).2.2) ∧ ∃ T', AZ w0 w' z (setR D3 P3 (p : Int) mm (nn : Int)).1 (setR D3 P3 (p : Int) mm (nn : Int)).2.1 A T' ∧ Mv T3 T' wr w') := Lib.hid (fun W hW => by
         have hb := gr_trans hbx hW
         refine (PSet_az (HI.out.az.below hb) (p : Int) (nn : Int) B3 4080 c3 mm (hbm.below hb) hnn0 (by have := HI.out.pe.2.1; have := HPD2.out; omega) (by have := HI.out.pe.2.2; have := HPD2.out; omega)).mono ?_
         rintro e w' ⟨rfl, T', h1, h2⟩
         exact ⟨rfl, T', h1, (Mv.of_below hb).trans h2⟩)
        clear hp1 hp2 hp3 hxb3 hlk hov3 hml hnT hbm hab3 hbx hcb
        go_upto_region 19 with fail
        clear q0 q1 q2
        refine wp_region_any (by kernel_rfl) ?_
        refine' wpAny_to_tail (l0 := #[false, false, false, false, false, false, false, false, false, false, false, false, false, false, false, false]) (by kernel_rfl) (by kernel_rfl) (by kernel_rfl) (by kernel_rfl) (by kernel_rfl)
         [MP.is (.pointer (some ⟨z.ga, 0, none⟩)), MP.is (.pointer (some ⟨z.ga, 0, none⟩)), MP.is (.pointer (some ⟨z.ga, 1, none⟩)), MP.is (.pointer (some ⟨z.gp, 0, none⟩)), MP.is (.pointer (some ⟨wr.heap.size, 0, none⟩)), MP.is (.int .i64 (p : Int)), MP.is (.pointer (some ⟨gx, 0, none⟩)), MP.is (.pointer (some ⟨gx, 0, none⟩)), MP.is (.pointer (some ⟨gx, 2, none⟩)), MP.is (.map (some mx)), MP.is (.pointer (some ⟨wr.heap.size, 0, none⟩)), MP.is (.int .i64 (p : Int)), MP.is (.slice B3 4080 c3), MP.is (.int .i64 (nn : Int)), MP.any, MP.any]
         (fun j => j == 14 || j == 15) #[true, true, true, true, true, true, true, true, true, true, true, true, true, true, false, false] rfl (by kernel_rfl) rfl (by kernel_rfl) (by kernel_rfl) (by kernel_rfl) (by kernel_rfl) (fun _ => undef) (by rfl) ?hR01 ?hAA1 ?hst1 ?hend1
        case hR01 =>
         intro j hj
         have hj2 : j ∈ [] := hj
         cases hj2
        case hAA1 =>
         intro f
         conv => lhs; simp only [putA, dstOf, List.size_toArray, List.length_cons, List.length_nil, Nat.zero_add, Nat.reduceAdd, List.getElem?_toArray, List.getElem?_cons_zero, List.getElem?_cons_succ, Option.bind_some, Act.put, List.setIfInBounds_toArray, List.set_cons_zero, List.set_cons_succ]
         first | done | exact rfl
        case hst1 =>
         refine Steps.of_list (l' := [0, 1, 2, 3, 4, 5, 6, 7, 8, 9, 10, 11, 12, 13]) (by kernel_rfl) ?_
         refine Steps.cons rfl ?_ ?_
         ·intro f wz hB h K Q hK
          clear h
          try simp only [List.getElem_toArray, List.getElem_cons_zero]
          try rw [if_pos (by rfl)]
          go_simp
          exact hK _ _ (gr_refl _) rfl
         refine Steps.cons rfl ?_ ?_
         ·intro f wz hB h K Q hK
          have h0 : (MP.is (.pointer (some ⟨z.ga, 0, none⟩))).p (f 0) wz := h 0 (by kernel_rfl)
          have e0 : f 0 = (.pointer (some ⟨z.ga, 0, none⟩)) := h0
          simp only [e0] at hK ⊢
          clear e0
          clear h
          try rw [if_pos (by rfl)]
          go_simp
          exact hK _ _ (gr_refl _) rfl
         refine Steps.cons rfl ?_ ?_
         ·intro f wz hB h K Q hK
          have h1 : (MP.is (.pointer (some ⟨z.ga, 0, none⟩))).p (f 1) wz := h 1 (by kernel_rfl)
          have e1 : f 1 = (.pointer (some ⟨z.ga, 0, none⟩)) := h1
          simp only [e1] at hK ⊢
          clear e1
          clear h
          try rw [if_pos (by rfl)]
          go_simp
          exact hK _ _ (gr_refl _) rfl
         refine Steps.cons rfl ?_ ?_
         ·intro f wz hB h K Q hK
          have h2 : (MP.is (.pointer (some ⟨z.ga, 1, none⟩))).p (f 2) wz := h 2 (by kernel_rfl)
          have e2 : f 2 = (.pointer (some ⟨z.ga, 1, none⟩)) := h2
          simp only [e2] at hK ⊢
          clear e2
          clear h
          try rw [if_pos (by rfl)]
          have y0 := keep_of_below hB K0.out
          have y1 := keep_of_below hB K1.out
          have y2 := keep_of_below hB K2.out
          go_simp
          exact hK _ _ (gr_refl _) rfl
         refine Steps.cons rfl ?_ ?_
         ·intro f wz hB h K Q hK
          clear h
          try rw [if_pos (by rfl)]
          go_simp
          exact hK _ _ (gr_refl _) rfl
         refine Steps.cons rfl ?_ ?_
         ·intro f wz hB h K Q hK
          have h4 : (MP.is (.pointer (some ⟨wr.heap.size, 0, none⟩))).p (f 4) wz := h 4 (by kernel_rfl)
          have e4 : f 4 = (.pointer (some ⟨wr.heap.size, 0, none⟩)) := h4
          simp only [e4] at hK ⊢
          clear e4
          clear h
          try rw [if_pos (by rfl)]
          have y0 := keep_of_below hB K0.out
          have y1 := keep_of_below hB K1.out
          have y2 := keep_of_below hB K2.out
          go_simp
          exact hK _ _ (gr_refl _) rfl
         refine Steps.cons rfl ?_ ?_
         ·intro f wz hB h K Q hK
          clear h
          try rw [if_pos (by rfl)]
          go_simp
          exact hK _ _ (gr_refl _) rfl
         refine Steps.cons rfl ?_ ?_
         ·intro f wz hB h K Q hK
          have h6 : (MP.is (.pointer (some ⟨gx, 0, none⟩))).p (f 6) wz := h 6 (by kernel_rfl)
          have e6 : f 6 = (.pointer (some ⟨gx, 0, none⟩)) := h6
          simp only [e6] at hK ⊢
          clear e6
          clear h
          try rw [if_pos (by rfl)]
          go_simp
          exact hK _ _ (gr_refl _) rfl
         refine Steps.cons rfl ?_ ?_
         ·intro f wz hB h K Q hK
          have h7 : (MP.is (.pointer (some ⟨gx, 0, none⟩))).p (f 7) wz := h 7 (by kernel_rfl)
          have e7 : f 7 = (.pointer (some ⟨gx, 0, none⟩)) := h7
          simp only [e7] at hK ⊢
          clear e7
          clear h
          try rw [if_pos (by rfl)]
          go_simp
          exact hK _ _ (gr_refl _) rfl
         refine Steps.cons rfl ?_ ?_
         ·intro f wz hB h K Q hK
          have h8 : (MP.is (.pointer (some ⟨gx, 2, none⟩))).p (f 8) wz := h 8 (by kernel_rfl)
          have e8 : f 8 = (.pointer (some ⟨gx, 2, none⟩)) := h8
          simp only [e8] at hK ⊢
          clear e8
          clear h
          try rw [if_pos (by rfl)]
          have y0 := keep_of_below hB K0.out
          have y1 := keep_of_below hB K1.out
          have y2 := keep_of_below hB K2.out
          go_simp
          exact hK _ _ (gr_refl _) rfl
         refine Steps.cons rfl ?_ ?_
         ·intro f wz hB h K Q hK
          clear h
          try rw [if_pos (by rfl)]
          go_simp
          exact hK _ _ (gr_refl _) rfl
         refine Steps.cons rfl ?_ ?_
         ·intro f wz hB h K Q hK
          have h10 : (MP.is (.pointer (some ⟨wr.heap.size, 0, none⟩))).p (f 10) wz := h 10 (by kernel_rfl)
          have e10 : f 10 = (.pointer (some ⟨wr.heap.size, 0, none⟩)) := h10
          simp only [e10] at hK ⊢
          clear e10
          clear h
          try rw [if_pos (by rfl)]
          have y0 := keep_of_below hB K0.out
          have y1 := keep_of_below hB K1.out
          have y2 := keep_of_below hB K2.out
          go_simp
          exact hK _ _ (gr_refl _) rfl
         refine Steps.cons rfl ?_ ?_
         ·intro f wz hB h K Q hK
          have h9 : (MP.is (.map (some mx))).p (f 9) wz := h 9 (by kernel_rfl)
          have e9 : f 9 = (.map (some mx)) := h9
          have h11 : (MP.is (.int .i64 (p : Int))).p (f 11) wz := h 11 (by kernel_rfl)
          have e11 : f 11 = (.int .i64 (p : Int)) := h11
          simp only [e9, e11] at hK ⊢
          clear e9 e11
          clear h
          try rw [if_pos (by rfl)]
          have y9 := HLK.out _ (bel_drew hB)
          go_simp
          exact hK _ _ (gr_refl _) rfl
         refine Steps.cons rfl ?_ ?_
         ·intro f wz hB h K Q hK
          clear h
          try rw [if_pos (by rfl)]
          go_simp
          exact hK _ _ (gr_refl _) rfl
         exact Steps.nil
        intro f w2 hB2 hR
        conv => arg 7; simp only [putL, dstOf, List.size_toArray, List.length_cons, List.length_nil, Nat.zero_add, Nat.reduceAdd, List.getElem?_toArray, List.getElem?_cons_zero, List.getElem?_cons_succ, Option.bind_some, Act.put, List.setIfInBounds_toArray, List.set_cons_zero, List.set_cons_succ, Array.getD_eq_getD_getElem?, Option.getD_some, if_true, if_false, Bool.false_eq_true]
        have e0 : f 0 = (.pointer (some ⟨z.ga, 0, none⟩)) := hR 0 (by decide) rfl
        have e1 : f 1 = (.pointer (some ⟨z.ga, 0, none⟩)) := hR 1 (by decide) rfl
        have e2 : f 2 = (.pointer (some ⟨z.ga, 1, none⟩)) := hR 2 (by decide) rfl
        have e3 : f 3 = (.pointer (some ⟨z.gp, 0, none⟩)) := hR 3 (by decide) rfl
        have e4 : f 4 = (.pointer (some ⟨wr.heap.size, 0, none⟩)) := hR 4 (by decide) rfl
        have e5 : f 5 = (.int .i64 (p : Int)) := hR 5 (by decide) rfl
        have e6 : f 6 = (.pointer (some ⟨gx, 0, none⟩)) := hR 6 (by decide) rfl
        have e7 : f 7 = (.pointer (some ⟨gx, 0, none⟩)) := hR 7 (by decide) rfl
        have e8 : f 8 = (.pointer (some ⟨gx, 2, none⟩)) := hR 8 (by decide) rfl
        have e9 : f 9 = (.map (some mx)) := hR 9 (by decide) rfl
        have e10 : f 10 = (.pointer (some ⟨wr.heap.size, 0, none⟩)) := hR 10 (by decide) rfl
        have e11 : f 11 = (.int .i64 (p : Int)) := hR 11 (by decide) rfl
        have e12 : f 12 = (.slice B3 4080 c3) := hR 12 (by decide) rfl
        have e13 : f 13 = (.int .i64 (nn : Int)) := hR 13 (by decide) rfl
        simp only [e0, e1, e2, e3, e4, e5, e6, e7, e8, e9, e10, e11, e12, e13]
        clear e0 e1 e2 e3 e4 e5 e6 e7 e8 e9 e10 e11 e12 e13 hR
        have HB2 : Hid (Below (wr.alloc (.cells #[.int .i64 (p : Int), .slice B' il c', .slice Dd pl dd] 117)).heap.size (wr.alloc (.cells #[.int .i64 (p : Int), .slice B' il c', .slice Dd pl dd] 117)) w2) := Lib.hid (Below.trans (gr_drewN (gr_refl (wr.alloc (.cells #[.int .i64 (p : Int), .slice B' il c', .slice Dd pl dd] 117))) 1) hB2)
        clear hB2
        refine wpAny_of_held (S := fun _ => True) _ _ _ _ ?_
        refine wpAnyH_ready (rs := [14]) (by kernel_rfl) (by simp) ?_
        refine AllReadyH.cons rfl (fun KK hK => ?_) AllReadyH.nil
        rw [if_pos (by rfl)]
        go_simp
        refine (HSE.out _ HB2.out).mono ?_
        rintro e w5 ⟨rfl, T5, ha5, hm5⟩
        refine hK.out _ _ trivial (fun _ => ?_)
        clear hK KK
        try simp only [List.setIfInBounds_toArray, List.set_cons_zero, List.set_cons_succ]
        refine wpAnyH_ready (rs := [15]) (by kernel_rfl) (by simp) ?_
        refine AllReadyH.cons rfl (fun KK hK => ?_) AllReadyH.nil
        go_simp
        refine hK.out _ _ trivial (fun _ => ?_)
        clear hK KK
        try simp only [List.setIfInBounds_toArray, List.set_cons_zero, List.set_cons_succ]
        refine wpAnyH_done (by kernel_rfl) ?_ _
        have HA5 := Lib.hid ha5
        have HM5 := Lib.hid hm5
        clear ha5 hm5
        obtain ⟨se, hse⟩ : ∃ se, se = (setR D3 P3 (p : Int) mm (nn : Int)).2.2 := ⟨_, rfl⟩
        rw [← hse]
        by_cases h1 : se = 0
        ·have HI2 : Hid (DInv w0 w w5 z gx A X T U (some ⟨g, o, none⟩) cs (nn : Int) D2 P1 (k + 1) (setR D3 P3 (p : Int) mm (nn : Int)).1 (setR D3 P3 (p : Int) mm (nn : Int)).2.1 T5) := Lib.hid ⟨HA5.out, HI.out.xz.step HM5.out, HI.out.mv.trans HM5.out, HI.out.cr.step HM5.out, HI.out.pe.next HKL.out HP1.out HP2.out (by rw [← hse]; exact h1)⟩
         subst h1
         clear hse
         go_wp2_with fail
         go_roundw
         all_goals have hlt := of_decide_eq_true t5
         case rel => exact ⟨k + 1, _, _, _, by omega, by go_num, HI2⟩
         case measure => simp [Go.RowKit.intOf]; omega
        ·have t6 : (se != 0) = true := by rw [bne_iff_ne]; exact h1
         obtain ⟨im5, hab5⟩ := HA5.out.ab
         have fz := hab5.frozen 4
         have a4 := hab5.c4
         have HF : Hid (ADone w0 w z gx T U RR (.returned (.tuple #[.int .i64 0, .int .i64 se])) (w5.setCell ⟨z.ga, 4, none⟩ (.bool true))) := Lib.hid (by
          have hbad := HI.out.pe.bad HKL.out HP1.out HP2.out (by rw [← hse]; exact h1)
          obtain ⟨ha6, ho6⟩ := HA5.out.brk
          have hm6 : Mv T5 T5 w5 _ := ⟨ho6, fun k e => .inl e⟩
          rw [HR2.out, hbad, if_pos (by rw [← hse]; exact h1), hse]
          exact ADone.of rfl ha6 ((HI.out.xz.step HM5.out).step hm6) ((HI.out.mv.trans HM5.out).trans hm6))
         clear hse h1 hab5
         go_wp2_with fail
         go_ret2
         exact HF.out
       ·have t4 : decide ((k : Int) < (m : Int)) = false := decide_eq_false (by omega)
        have t5 : decide (k < m) = false := decide_eq_false hlt
        have HI3 : Hid (MInv w0 w wr z gx A X T U B cs D3 P3 T3 0 A.im) := Lib.hid ⟨HI.out.az, HI.out.xz, HI.out.mv, HI.out.cr, rfl, Nat.le_refl _⟩
        have HR3 : Hid (RR = ⟨D3, P3, { A with im := markF cs A.im }, { X with ov := true }, (nn : Int), 0⟩) := Lib.hid (by
         rw [HR2.out, HI.out.pe.all (by rw [← HM.out]; omega), if_neg (by exact fun h => h rfl)])
        clear HI HI0 HR2
        go_wp2_with fail
        go_loopw [93] (fun i wr => ∃ (k : Nat) (im2 : List (Nat × Unit)), k ≤ m ∧ i = .int .i64 (k : Int) ∧ Hid (MInv w0 w wr z gx A X T U B cs D3 P3 T3 k im2)) (fun i _ => m - (Go.RowKit.intOf i).toNat)
        case atStart => exact ⟨0, A.im, Nat.zero_le _, rfl, HI3⟩
        case round =>
         clear HI3
         obtain ⟨k2, im2, hk2, rfl, HI⟩ := hrel
         by_cases hlt2 : k2 < m
         ·have t6 : decide ((k2 : Int) < (m : Int)) = true := decide_eq_true (by omega)
          have t7 : decide (k2 < m) = true := decide_eq_true hlt2
          have j0 : (0 : Int) ≤ (k2 : Int) := Int.natCast_nonneg _
          have j1 : (k2 : Int) < (m : Int) := by omega
          have HKL : Hid (k2 < cs.length) := Lib.hid (by rw [← HM.out]; exact hlt2)
          obtain ⟨g, o, B', c', Dd, dd, rfl, q0, q1, q2, _, _, _, _, _, _⟩ := HI.out.cr.now.at_ HKL.out
          obtain ⟨p, mm, hp1, _, hp3, _⟩ := HMEM.out _ (ch_mem HKL.out)
          rw [hp1] at q0
          have HP1 := Lib.hid hp1
          have hma := markF_at HI.out.ma HKL.out
          rw [hp1, Int.toNat_natCast] at hma
          generalize (cs.getD k2 ch0).2.1.length = il at q1 hma
          generalize (cs.getD k2 ch0).2.2.length = pl at q2
          obtain ⟨im3, hab3⟩ := HI.out.az.ab
          have hbx := gr_alloc (gr_refl wr) (.cells #[.int .i64 (p : Int), .slice B' il c', .slice Dd pl dd] 117)
          have hcb : CB (wr.alloc (.cells #[.int .i64 (p : Int), .slice B' il c', .slice Dd pl dd] 117)) wr.heap.size (.int .i64 (p : Int)) (.slice B' il c') (.slice Dd pl dd) := heap_alloc_new _ _
          have c1 := hcb.c1
          by_cases hil : 0 < il
          ·have t8 : decide ((0 : Int) < (il : Int)) = true := decide_eq_true (by omega)
           have t9 : decide (0 < il) = true := decide_eq_true hil
           rw [if_pos hil] at hma
           have HMA := Lib.hid hma
           have K0 := Lib.hid (hab3.below hbx).c3
           have K1 := Lib.hid hcb.c0
           have HAB := Lib.hid (hab3.below hbx)
           have HBX := Lib.hid hbx
           have HP3 := Lib.hid hp3
           clear hma hab3 hbx hcb hp1 hp3 hil
           go_upto_region 28 with fail
           clear q0 q1 q2 c1
           refine wp_region_any (by kernel_rfl) ?_
           refine' wpAny_to_tail (l0 := #[false, false, false, false, false, false, false, false]) (by kernel_rfl) (by kernel_rfl) (by kernel_rfl) (by kernel_rfl) (by kernel_rfl)
            [MP.is (.pointer (some ⟨z.ga, 0, none⟩)), MP.is (.pointer (some ⟨z.ga, 0, none⟩)), MP.is (.pointer (some ⟨z.ga, 3, none⟩)), MP.is (.map (some im3)), MP.is (.pointer (some ⟨wr.heap.size, 0, none⟩)), MP.is (.int .i64 (p : Int)), MP.is (.agg #[]), MP.any]
            (fun j => j == 7) #[true, true, true, true, true, true, true, false] rfl (by kernel_rfl) rfl (by kernel_rfl) (by kernel_rfl) (by kernel_rfl) (by kernel_rfl) (fun _ => undef) (by rfl) ?hR02 ?hAA2 ?hst2 ?hend2
           case hR02 =>
            intro j hj
            have hj2 : j ∈ [] := hj
            cases hj2
           case hAA2 =>
            intro f
            conv => lhs; simp only [putA, dstOf, List.size_toArray, List.length_cons, List.length_nil, Nat.zero_add, Nat.reduceAdd, List.getElem?_toArray, List.getElem?_cons_zero, List.getElem?_cons_succ, Option.bind_some, Act.put, List.setIfInBounds_toArray, List.set_cons_zero, List.set_cons_succ]
            first | done | exact rfl
           case hst2 =>
            refine Steps.of_list (l' := [0, 1, 2, 3, 4, 5, 6]) (by kernel_rfl) ?_
            refine Steps.cons rfl ?_ ?_
            ·intro f wz hB h K Q hK
             clear h
             try simp only [List.getElem_toArray, List.getElem_cons_zero]
             try rw [if_pos (by rfl)]
             go_simp
             exact hK _ _ (gr_refl _) rfl
            refine Steps.cons rfl ?_ ?_
            ·intro f wz hB h K Q hK
             have h0 : (MP.is (.pointer (some ⟨z.ga, 0, none⟩))).p (f 0) wz := h 0 (by kernel_rfl)
             have e0 : f 0 = (.pointer (some ⟨z.ga, 0, none⟩)) := h0
             simp only [e0] at hK ⊢
             clear e0
             clear h
             try rw [if_pos (by rfl)]
             go_simp
             exact hK _ _ (gr_refl _) rfl
            refine Steps.cons rfl ?_ ?_
            ·intro f wz hB h K Q hK
             have h1 : (MP.is (.pointer (some ⟨z.ga, 0, none⟩))).p (f 1) wz := h 1 (by kernel_rfl)
             have e1 : f 1 = (.pointer (some ⟨z.ga, 0, none⟩)) := h1
             simp only [e1] at hK ⊢
             clear e1
             clear h
             try rw [if_pos (by rfl)]
             go_simp
             exact hK _ _ (gr_refl _) rfl
            refine Steps.cons rfl ?_ ?_
            ·intro f wz hB h K Q hK
             have h2 : (MP.is (.pointer (some ⟨z.ga, 3, none⟩))).p (f 2) wz := h 2 (by kernel_rfl)
             have e2 : f 2 = (.pointer (some ⟨z.ga, 3, none⟩)) := h2
             simp only [e2] at hK ⊢
             clear e2
             clear h
             try rw [if_pos (by rfl)]
             have y0 := keep_of_below hB K0.out
             have y1 := keep_of_below hB K1.out
             go_simp
             exact hK _ _ (gr_refl _) rfl
            refine Steps.cons rfl ?_ ?_
            ·intro f wz hB h K Q hK
             clear h
             try rw [if_pos (by rfl)]
             go_simp
             exact hK _ _ (gr_refl _) rfl
            refine Steps.cons rfl ?_ ?_
            ·intro f wz hB h K Q hK
             have h4 : (MP.is (.pointer (some ⟨wr.heap.size, 0, none⟩))).p (f 4) wz := h 4 (by kernel_rfl)
             have e4 : f 4 = (.pointer (some ⟨wr.heap.size, 0, none⟩)) := h4
             simp only [e4] at hK ⊢
             clear e4
             clear h
             try rw [if_pos (by rfl)]
             have y0 := keep_of_below hB K0.out
             have y1 := keep_of_below hB K1.out
             go_simp
             exact hK _ _ (gr_refl _) rfl
            refine Steps.cons rfl ?_ ?_
            ·intro f wz hB h K Q hK
             clear h
             try rw [if_pos (by rfl)]
             go_simp
             exact hK _ _ (gr_refl _) rfl
            exact Steps.nil
           intro f w2 hB2 hR
           conv => arg 7; simp only [putL, dstOf, List.size_toArray, List.length_cons, List.length_nil, Nat.zero_add, Nat.reduceAdd, List.getElem?_toArray, List.getElem?_cons_zero, List.getElem?_cons_succ, Option.bind_some, Act.put, List.setIfInBounds_toArray, List.set_cons_zero, List.set_cons_succ, Array.getD_eq_getD_getElem?, Option.getD_some, if_true, if_false, Bool.false_eq_true]
           have e0 : f 0 = (.pointer (some ⟨z.ga, 0, none⟩)) := hR 0 (by decide) rfl
           have e1 : f 1 = (.pointer (some ⟨z.ga, 0, none⟩)) := hR 1 (by decide) rfl
           have e2 : f 2 = (.pointer (some ⟨z.ga, 3, none⟩)) := hR 2 (by decide) rfl
           have e3 : f 3 = (.map (some im3)) := hR 3 (by decide) rfl
           have e4 : f 4 = (.pointer (some ⟨wr.heap.size, 0, none⟩)) := hR 4 (by decide) rfl
           have e5 : f 5 = (.int .i64 (p : Int)) := hR 5 (by decide) rfl
           have e6 : f 6 = (.agg #[]) := hR 6 (by decide) rfl
           simp only [e0, e1, e2, e3, e4, e5, e6]
           clear e0 e1 e2 e3 e4 e5 e6 hR
           have HB2 : Hid (Below wr.heap.size wr w2) := Lib.hid (gr_trans HBX.out (Below.trans (gr_drewN (gr_refl (wr.alloc (.cells #[.int .i64 (p : Int), .slice B' il c', .slice Dd pl dd] 117))) 1) hB2))
           have HAB2 := Lib.hid (HAB.out.below (Below.trans (gr_drewN (gr_refl (wr.alloc (.cells #[.int .i64 (p : Int), .slice B' il c', .slice Dd pl dd] 117))) 1) hB2))
           clear hB2
           obtain ⟨im5, hab5, hmv5, hmk5⟩ := (HI.out.az.below HB2.out).mark
           have he5 := HAB2.out.same hab5
           subst he5
           obtain ⟨w5, hput, hmv6, hg6⟩ := hmv5.put Tryz.underlying86 (k := (p : Int)) (by omega) (by have := HP3.out; omega) (.agg #[]) (by have := HI.out.le; have := HBD.out; dsimp only; simp only [maxLen]; omega)
           have HM5 := Lib.hid (hmk5 w5 p hmv6 hg6)
           clear hab5 hmv5 hmk5 hmv6 hg6
           refine wpAny_of_held (S := fun _ => True) _ _ _ _ ?_
           refine wpAnyH_ready (rs := [7]) (by kernel_rfl) (by simp) ?_
           refine AllReadyH.cons rfl (fun KK hK => ?_) AllReadyH.nil
           rw [if_pos (by rfl)]
           go_simp
           refine hK.out _ _ trivial (fun _ => ?_)
           clear hK KK
           try simp only [List.setIfInBounds_toArray, List.set_cons_zero, List.set_cons_succ]
           refine wpAnyH_done (by kernel_rfl) ?_ _
           clear hput
           have HI2 : Hid (MInv w0 w w5 z gx A X T U (some ⟨g, o, none⟩) cs D3 P3 T3 (k2 + 1) (insS p () im2)) := Lib.hid (by
            have hm6 : Mv T3 T3 w2 w5 := ⟨HM5.out.2, fun k e => .inl e⟩
            have hm7 := (Mv.of_below (S := T3) HB2.out).trans hm6
            have hsrt : (insS p () im2).length ≤ A.im.length + (k2 + 1) := by
             have := HI.out.le
             obtain ⟨F, tv, mb, q, im, h1, h2, h3, h4, h5, h6, h7, h8, h9⟩ := HI.out.az.ex
             rw [len_insS p () h8]
             dsimp only
             split <;> omega
            exact ⟨HM5.out.1, HI.out.xz.step hm7, HI.out.mv.trans hm7, HI.out.cr.step hm7, HMA.out, hsrt⟩)
           go_wp2_with fail
           go_roundw
           all_goals have hlt2 := of_decide_eq_true t7
           case rel => exact ⟨k2 + 1, _, by omega, by go_num, HI2⟩
           case measure => simp [Go.RowKit.intOf]; omega
          ·have t8 : decide ((0 : Int) < (il : Int)) = false := decide_eq_false (by omega)
           have t9 : decide (0 < il) = false := decide_eq_false hil
           rw [if_neg hil] at hma
           have HI2 : Hid (MInv w0 w (wr.alloc (.cells #[.int .i64 (p : Int), .slice B' il c', .slice Dd pl dd] 117)) z gx A X T U (some ⟨g, o, none⟩) cs D3 P3 T3 (k2 + 1) im2) := Lib.hid ⟨HI.out.az.below hbx, HI.out.xz.below hbx, HI.out.mv.trans (Mv.of_below hbx), HI.out.cr.below hbx, hma, by have := HI.out.le; omega⟩
           clear hma hab3 hbx hcb hp1 hp3 hil
           go_wp2_with fail
           go_roundw
           all_goals have hlt2 := of_decide_eq_true t7
           case rel => exact ⟨k2 + 1, _, by omega, by go_num, HI2⟩
           case measure => simp [Go.RowKit.intOf]; omega
         ·have t6 : decide ((k2 : Int) < (m : Int)) = false := decide_eq_false (by omega)
          have t7 : decide (k2 < m) = false := decide_eq_false hlt2
          have hme : markF cs A.im = im2 := by
           rw [HI.out.ma, List.drop_of_length_le (by rw [← HM.out]; omega)]
           rfl
          have HE := Lib.hid (end_az HI.out.az HI.out.xz HOV.out)
          have HF : Hid (∀ w', AZ w0 w' z D3 P3 { A with im := im2 } T3 → XZ w' w0.heap.size z.ga gx { X with ov := true } T3 U → Off U wr w' → ADone w0 w z gx T U RR (.returned (.tuple #[.int .i64 (nn : Int), .int .i64 0])) w') := Lib.hid (fun w' k1 k2 k3 => by
           rw [HR3.out, hme]
           exact ⟨rfl, T3, k1, k2, (HI.out.mv.1.mono fun _ _ e => .inl e).chain k3 (fun k e => .inl (.inr e)), HI.out.mv.2⟩)
          clear hme
          go_wp2_with fail
          refine HE.out.mono ?_
          rintro e w5 ⟨rfl, ha5, hx5, ho5⟩
          have HF5 := Lib.hid (HF.out w5 ha5 hx5 ho5)
          clear ha5 hx5 ho5
          go_wp2_with fail
          go_ret2
          exact HF5.out
     ·have t4 : (ae != 0) = true := by rw [bne_iff_ne]; exact h0
      have HF : Hid (ADone w0 w z gx T U RR (.returned (.tuple #[.int .i64 0, .int .i64 ae])) w2) := Lib.hid (by
       rw [HRD.out, if_neg (by exact fun h => h rfl)]
       unfold done2
       rw [if_neg (by rw [← HM.out]; exact hl0), if_pos (by rw [← HAE.out]; exact h0), HAE.out]
       exact ADone.of rfl HA2.out HX2.out HM0.out)
      clear h0
      go_wp2_with fail
      go_ret2
      exact HF.out
   ·have t3 : (e1 != 0) = true := by rw [bne_iff_ne]; exact he1
    have HF : Hid (ADone w0 w z gx T U RR (.returned (.tuple #[.int .i64 0, .int .i64 e1])) w1) := Lib.hid (by
     rw [HRD.out, if_pos he1]
     exact ADone.of rfl HA1.out HX1.out HM1.out)
    clear he1
    go_wp2_with fail
    go_ret2
    exact HF.out
 ·have hx1 : (stE A X != 0) = true := by rw [bne_iff_ne]; exact hst
  have HF : Hid (ADone w0 w z gx T U RR (.returned (.tuple #[.int .i64 0, .int .i64 (stE A X)])) w) := Lib.hid (by
   rw [HRR.out]
   unfold doneR
   rw [if_pos hst]
   exact ADone.of rfl HA.out HX.out (Mv.of_below (gr_refl w)))
  clear ha hx hab hxb hst hRR hpd hct hla him h16 hp
  generalize stE A X = r at *
  go_enter Tryz.func15, Tryz.ntmps15
  go_wp2_with fail
  refine HST.out.mono ?_
  rintro e w1 ⟨rfl, rfl⟩
  go_wp2_with fail
  go_ret2
  exact HF.out
end Go.Proofs.YtnkeclpgpiogoaaGreat

/-! AtN -/
namespace Go.Proofs.YtnkeclpgpiogoaaGreat
open Go Go.RowKit Go.Maps
def SLeft (w0 w : World) (z : Wh) (gx : Nat) (A : AtS) (T U : Nat → Prop) (r : SRes) (w' : World) : Prop :=
 ∃ T', AZ w0 w' z r.D r.P A T' ∧ XZ w' w0.heap.size z.ga gx r.X T' U ∧ Off (TU T U) w w' ∧ ∀ k, T' k → T k ∨ w.heap.size ≤ k
section
variable {w0 w w1 w' : World} {z : Wh} {D D1 : EnS} {P P1 : PoS} {A : AtS} {X X1 : AxS} {T T1 T' U : Nat → Prop} {gx : Nat}
set_option maxRecDepth 100000 in
theorem XZ.srt (hx : XZ w w0.heap.size z.ga gx X T U) : SortS X.st := by
 obtain ⟨mx, q, x1, x2, x3, x4, x5, x6, x7, x8, x9, x10, x11⟩ := hx.ex
 exact x10
set_option maxRecDepth 100000 in
theorem XZ.more {b0 ga g : Nat} (h : XZ w b0 ga gx X T U) (hg : w.heap.size ≤ g) (hb : Below w.heap.size w w') : XZ w' b0 ga gx X (fun k => T k ∨ k = g) U := by
 obtain ⟨mx, q, x1, x2, x3, x4, x5, x6, x7, x8, x9, x10, x11⟩ := h.ex
 have hn : ∀ {k}, k < w.heap.size → ¬ T k → ¬ (T k ∨ k = g) := fun h1 h2 e => e.elim h2 (fun e => by omega)
 exact ⟨mx, q, x1.below hb, x2.below hb, x3, fun e he => ⟨(x4 e he).1.below hb, (x4 e he).2⟩, fun e he k hk => hn ((x4 e he).1.lt k hk).2 (x5 e he k hk), x6, x7, hn x1.lt x8, hn x2.lt x9, x10, x11⟩
structure PM (w0 w w1 : World) (z : Wh) (gx : Nat) (D : EnS) (P : PoS) (A : AtS) (X : AxS) (T T1 U : Nat → Prop) (g c : Nat) (m : List UInt8) : Prop where
 ex : ∃ wn, AZ w0 wn z D P A T1 ∧ XZ wn w0.heap.size z.ga gx X T1 U ∧ Mv T T1 w wn ∧ Below wn.heap.size wn w1 ∧ wn.heap.size ≤ g
 ob : OB w1 w.heap.size (.slice (some ⟨g, 0, none⟩) 4080 c) m
 len : m.length = 4080
section
variable {w2 w3 : World} {g c : Nat} {m : List UInt8}
set_option maxRecDepth 100000 in
theorem PM.below (h : PM w0 w w1 z gx D P A X T T1 U g c m) (hb : Below w1.heap.size w1 w2) : PM w0 w w2 z gx D P A X T T1 U g c m := by
 obtain ⟨wn, h1, h2, h3, h4, h5⟩ := h.ex
 exact ⟨⟨wn, h1, h2, h3, gr_trans h4 hb, h5⟩, h.ob.below hb, h.len⟩
set_option maxRecDepth 100000 in
theorem PM.xz (h : PM w0 w w1 z gx D P A X T T1 U g c m) : XZ w1 w0.heap.size z.ga gx X (fun k => T1 k ∨ k = g) U := by
 obtain ⟨wn, h1, h2, h3, h4, h5⟩ := h.ex
 exact h2.more h5 h4
set_option maxRecDepth 100000 in
set_option maxRecDepth 100000 in
theorem XZ.gturn (hx : XZ w1 w0.heap.size z.ga gx X (fun k => T1 k ∨ k = g) U) (ho : Off (fun k => k = g) w1 w2) (hU : ∀ k, U k → k ≠ g) : XZ w2 w0.heap.size z.ga gx X (fun k => T1 k ∨ k = g) U :=
 hx.off ho (fun _k e => .inl (.inr e)) (fun k hk e => hU k hk e) (fun _k e => .inl e)
end
set_option maxRecDepth 100000 in
theorem SLeft.get {wn : World} {n e : Int} (h1 : AZ w0 wn z D1 P1 A T1) (h2 : XZ wn w0.heap.size z.ga gx X T1 U) (h3 : Mv T T1 w wn) (h4 : Below wn.heap.size wn w1) : SLeft w0 w z gx A T U ⟨D1, P1, X, n, e⟩ w1 :=
 ⟨T1, h1.below h4, h2.below h4, (h3.1.mono fun _ _ e => .inl e).trans (Off.of_below h4), h3.2⟩
end
end Go.Proofs.YtnkeclpgpiogoaaGreat

/-! AtO -/
namespace Go.Proofs.YtnkeclpgpiogoaaGreat
open Go Go.RowKit Go.Maps
section
variable {w0 w w1 w' : World} {z : Wh} {D D1 : EnS} {P P1 : PoS} {A : AtS} {X X1 : AxS} {T T1 T' U : Nat → Prop} {gx : Nat}
end
end Go.Proofs.YtnkeclpgpiogoaaGreat

/-! AtP -/
namespace Go.Proofs.YtnkeclpgpiogoaaGreat
open Go Go.RowKit Go.Maps
section
variable {w0 w w1 w' : World} {z : Wh} {D D1 : EnS} {P P1 : PoS} {A : AtS} {X X1 : AxS} {T T1 T' U : Nat → Prop} {gx : Nat}
end
end Go.Proofs.YtnkeclpgpiogoaaGreat

/-! AtR -/
namespace Go.Proofs.YtnkeclpgpiogoaaGreat
open Go Go.RowKit Go.Maps
set_option maxRecDepth 100000 in
theorem SameG.aget (D : EnS) (P : PoS) (A : AtS) (X : AxS) (p : Int) : SameG D (agetR D P A X p).1 := by
 unfold agetR
 split
 ·exact SameG.refl D
 ·split
  ·exact SameG.refl D
  ·exact SameG.get D P p
set_option maxRecDepth 100000 in
theorem SameG.done2 (D : EnS) (P : PoS) (A : AtS) (X : AxS) (tx : Int) (l : List Ch) : SameG D (done2 D P A X tx l).D := by
 unfold Go.Proofs.YtnkeclpgpiogoaaGreat.done2
 split
 ·exact SameG.refl D
 ·split
  ·exact SameG.app D _
  ·dsimp only
   split
   ·exact (SameG.app D _).trans (SameG.put ..)
   ·exact (SameG.app D _).trans (SameG.put ..)
set_option maxRecDepth 100000 in
theorem SameG.done (D : EnS) (P : PoS) (A : AtS) (X : AxS) (tx : Int) : SameG D (doneR D P A X tx).D := by
 unfold doneR
 split
 ·exact SameG.refl D
 ·split
  ·exact SameG.refl D
  ·dsimp only
   split
   ·exact SameG.chg ..
   ·exact (SameG.chg ..).trans (SameG.done2 ..)
set_option maxRecDepth 100000 in
theorem markF_le : ∀ (l : List Ch) (im : List (Nat × Unit)), SortS im → (markF l im).length ≤ im.length + l.length ∧ SortS (markF l im)
 | [], im, h => ⟨Nat.le_refl _, h⟩
 | c :: r, im, h => by
  unfold markF
  by_cases hc : 0 < c.2.1.length
  ·rw [if_pos hc]
   obtain ⟨h1, h2⟩ := markF_le r (insS c.1.toNat () im) (sort_insS _ _ h)
   rw [len_insS _ _ h] at h1
   refine ⟨?_, h2⟩
   rw [List.length_cons]
   split at h1 <;> omega
  ·rw [if_neg hc]
   obtain ⟨h1, h2⟩ := markF_le r im h
   exact ⟨by rw [List.length_cons]; omega, h2⟩
structure SC (w0 w : World) (z : Wh) (n bl : Nat) (T : Nat → Prop) (now : Nat → List UInt8) (c : Nat) (recs : List Rec) (V : Nat) (im : List (Nat × Unit)) : Prop where
 ex : ∃ D P A, AZ w0 w z D P A T ∧ CI D P now recs V ∧ P.pages = n ∧ A.br = false ∧ A.im = im ∧ P.count ≤ c ∧ D.j.bl = bl ∧ D.j.fi = 0 ∧ D.j.ep = 1
structure XG (w0 w : World) (z : Wh) (n : Nat) (gx : Nat) (st : List (Nat × List UInt8)) (T U : Nat → Prop) : Prop where
 xz : XZ w w0.heap.size z.ga gx ⟨st, false⟩ T U
 ok : XOk n st
section
variable {w0 w w1 w' : World} {z : Wh} {n bl c V : Nat} {T T1 T' U : Nat → Prop} {now : Nat → List UInt8} {recs : List Rec} {im : List (Nat × Unit)} {gx : Nat} {st : List (Nat × List UInt8)}
set_option maxRecDepth 100000 in
theorem SC.below (h : SC w0 w z n bl T now c recs V im) (hb : Below w.heap.size w w') : SC w0 w' z n bl T now c recs V im := by
 obtain ⟨D, P, A, h1, r⟩ := h.ex
 exact ⟨D, P, A, h1.below hb, r⟩
set_option maxRecDepth 100000 in
theorem SC.lt (h : SC w0 w z n bl T now c recs V im) {k : Nat} (hk : T k) : w0.heap.size ≤ k ∧ k < w.heap.size := by
 obtain ⟨D, P, A, h1, r⟩ := h.ex
 exact h1.lt hk
set_option maxRecDepth 100000 in
theorem SC.more (h : SC w0 w z n bl T now c recs V im) {c' : Nat} (hc : c ≤ c') : SC w0 w z n bl T now c' recs V im := by
 obtain ⟨D, P, A, h1, h2, h3, h4, h5, h6, r⟩ := h.ex
 exact ⟨D, P, A, h1, h2, h3, h4, h5, Nat.le_trans h6 hc, r⟩
set_option maxRecDepth 100000 in
theorem XG.below (h : XG w0 w z n gx st T U) (hb : Below w.heap.size w w') : XG w0 w' z n gx st T U := ⟨h.xz.below hb, h.ok⟩
def CL (w0 w : World) (z : Wh) (n bl : Nat) (T U : Nat → Prop) (gx : Nat) (now : Nat → List UInt8) (c : Nat) (recs : List Rec) (V : Nat) (im : List (Nat × Unit)) (st' : List (Nat × List UInt8)) (w' : World) : Prop :=
 ∃ T', SC w0 w' z n bl T' now c recs V im ∧ XG w0 w' z n gx st' T' U ∧ Off (TU T U) w w' ∧ ∀ k, T' k → T k ∨ w.heap.size ≤ k
set_option maxRecDepth 100000 in
theorem pool_pages {D : EnS} {P : PoS} {A : AtS} {T : Nat → Prop} (h : AZ w0 w z D P A T) : P.pages ≤ 4096 := by
 have := h.pi.fit
 have := h.pi.d2
 omega
end
end Go.Proofs.YtnkeclpgpiogoaaGreat

/-! AtQ -/
namespace Go.Proofs.YtnkeclpgpiogoaaGreat
open Go Go.RowKit Go.Maps
end Go.Proofs.YtnkeclpgpiogoaaGreat

/-! SmI -/
namespace Go.Proofs.YtnkeclpgpiogoaaGreat
open Go Go.RowKit
set_option maxRecDepth 100000 in
set_option maxHeartbeats 1000000 in
theorem SameInts_any (A B : Option Addr) (n m c d : Nat) (a b : List Int) (w : World) (ha : IR w A n a) (hb : IR w B m b) (hn : n ≤ 1000000) (hm : m ≤ 1000000) :
  Calls Tryz.prog 24 #[.slice A n c, .slice B m d] w fun e w' => e = .returned (.bool (a == b)) ∧ Below w.heap.size w w' := by
 have la := ha.len
 have lb := hb.len
 by_cases hnm : n = m
 ·subst hnm
  have t0 : ((n : Int) != (n : Int)) = false := by simp
  have HEQ : Hid (∀ k : Nat, k < n → a.getD k 0 ≠ b.getD k 0 → (a == b) = false) := Lib.hid (fun k _ he => by
   rw [beq_eq_false_iff_ne]
   rintro rfl
   exact he rfl)
  have HEND : Hid ((∀ k : Nat, k < n → a.getD k 0 = b.getD k 0) → (a == b) = true) := Lib.hid (fun he => by
   rw [beq_iff_eq]
   refine List.ext_getElem (by omega) (fun i h1 h2 => ?_)
   have := he i (by omega)
   simpa [List.getD, List.getElem?_eq_getElem h1, List.getElem?_eq_getElem h2] using this)
  generalize (a == b) = r at *
  clear la lb
  go_enter Tryz.func24, Tryz.ntmps24
  go_wp2_with fail
  go_loopw [5] (fun i wr => ∃ k : Nat, k ≤ n ∧ i = .int .i64 k ∧ Hid (∀ j : Nat, j < k → a.getD j 0 = b.getD j 0) ∧ Below w.heap.size w wr) (fun i _ => n - (RowKit.intOf i).toNat)
  case atStart => exact ⟨0, by omega, rfl, Lib.hid (fun j hj => by omega), gr_refl w⟩
  case round =>
   obtain ⟨k, hk, rfl, HK, hw⟩ := hrel
   by_cases hlt : k < n
   ·have t1 : decide ((k : Int) < (n : Int)) = true := by simp; omega
    have t2 : decide (k < n) = true := by simp; omega
    have i0 : (0 : Int) ≤ (k : Int) := Int.natCast_nonneg _
    have i1 : (k : Int) < (n : Int) := by omega
    obtain ⟨g1, o1, rfl, h1⟩ := ha.at_ hlt
    obtain ⟨g2, o2, rfl, h2⟩ := hb.at_ hlt
    have c1 := keep_of_below hw h1
    have c2 := keep_of_below hw h2
    by_cases he : a.getD k 0 = b.getD k 0
    ·have HK' : Hid (∀ j : Nat, j < k + 1 → a.getD j 0 = b.getD j 0) := Lib.hid (fun j hj => by
      rcases Nat.lt_or_ge j k with h | h
      ·exact HK.out j h
      ·rw [show j = k by omega]; exact he)
     rw [← he] at c2
     clear h1 h2 he
     generalize a.getD k 0 = x at c1 c2
     have t3 : (x != x) = false := by simp
     go_wp2_with fail
     go_quiet (fail)
     go_wp2_with fail
     go_roundw
     case rel => exact ⟨k + 1, by omega, by go_num, HK', gr_drewN hw _⟩
     case measure => simp [RowKit.intOf]; omega
    ·obtain rfl := HEQ.out k hlt he
     clear h1 h2
     have t3 : (a.getD k 0 != b.getD k 0) = true := by simpa using he
     clear he HEQ HEND HK
     generalize a.getD k 0 = x at *
     generalize b.getD k 0 = y at *
     go_wp2_with fail
     go_quiet (fail)
     go_wp2_with fail
     go_ret
     exact ⟨rfl, gr_drewN hw _⟩
   ·have t1 : decide ((k : Int) < (n : Int)) = false := by simp; omega
    have t2 : decide (k < n) = false := by simp; omega
    obtain rfl := HEND.out (fun j hj => HK.out j (by omega))
    go_wp2_with fail
    go_ret
    exact ⟨rfl, hw⟩
 ·have t0 : ((n : Int) != (m : Int)) = true := by simp; omega
  have hr : (a == b) = false := by
   rw [beq_eq_false_iff_ne]
   rintro rfl
   omega
  rw [hr]
  clear hr
  go_enter Tryz.func24, Tryz.ntmps24
  go_wp2_with fail
  go_ret
  exact ⟨rfl, gr_refl w⟩
end Go.Proofs.YtnkeclpgpiogoaaGreat

/-! AtS -/
namespace Go.Proofs.YtnkeclpgpiogoaaGreat
open Go Go.RowKit Go.Maps
section
variable {w0 w w' : World} {z : Wh} {n bl : Nat} {T : Nat → Prop}
end
end Go.Proofs.YtnkeclpgpiogoaaGreat

/-! ApI -/
namespace Go.Proofs.YtnkeclpgpiogoaaGreat
open Go.RowKit
def OI (w : World) (base : Nat) (v : Value) (l : List Int) : Prop := w.ownsRow base 3 1 v l.length (l.map (Value.int .i64))
section
variable {w w' : World} {base : Nat} {v : Value} {l : List Int}
set_option maxRecDepth 100000 in
theorem OI.form (h : OI w base v l) : ∃ A c, v = .slice A l.length c ∧ IR w A l.length l ∧ l.length ≤ c ∧ c ≤ maxLen := by
 rcases h.2 with ⟨rfl, h0⟩ | ⟨g, cap, cur, rfl, hb, hg, hn, hm, hc, ht⟩
 ·have : l = [] := List.eq_nil_of_length_eq_zero h0
  subst this
  exact ⟨none, 0, rfl, IR.none_ _ _, Nat.le_refl _, Nat.zero_le _⟩
 ·refine ⟨_, cap, rfl, ⟨by simp, fun _ => ⟨_, rfl, World.ownsRow.cells h (g := g) rfl⟩⟩, hn, hm⟩
set_option maxRecDepth 100000 in
theorem OI.below (h : OI w base v l) (hb : Below w.heap.size w w') : OI w' base v l :=
 World.ownsRow.kept h (row := none) ⟨hb.os, hb.tape, hb.output, hb.size, fun k hk _ => hb.block k hk⟩ (by cases v.ownBlock <;> simp)
set_option maxRecDepth 100000 in
theorem OI.of_own {n : Nat} {xs : List Value} (h : w.ownsRow base 3 1 v n xs) (e : xs = l.map (Value.int .i64)) : OI w base v l := by
 subst e
 have : n = l.length := by have := h.1; simp at this; exact this.symm
 subst this
 exact h
end
section
variable {w w' : World} {base g n cap : Nat} {l : List Int} {A : Option Addr}
set_option maxRecDepth 100000 in
theorem oi_kept {v : Value} {row : Option Nat} (h : OI w base v l) (hg : w.grownBy w' row) (hne : v.ownBlock = none ∨ v.ownBlock ≠ row) : OI w' base v l := World.ownsRow.kept h hg hne
end
set_option maxRecDepth 100000 in
theorem oin_cur {w : World} {base g n cap : Nat} {l : List Int} (h : OI w base (.slice (some ⟨g, 0, none⟩) n cap) l) (hn : l.length = n) : ∃ cur : Array Value, w.heap[g]? = some (.cells cur 3 (0, 0)) ∧ base ≤ g ∧ n ≤ cap ∧ cap ≤ maxLen ∧ cur.size = cap ∧ cur.toList.take n = l.map (Value.int .i64) := by
 rcases h.2 with ⟨e, _⟩ | ⟨g', cap', cur, e, hb, hg, hnc, hm, hcu, ht⟩
 ·cases e
 ·injection e with e1 e2 e3
  injection e1 with e1
  injection e1 with e1
  subst e1 e3
  exact ⟨cur, hg, hb, by omega, hm, by simpa using hcu, by rw [← ht, hn]; simp⟩
set_option maxRecDepth 100000 in
theorem oin_set {w : World} {base g n cap : Nat} {l : List Int} (h : OI w base (.slice (some ⟨g, 0, none⟩) n cap) l) (hn : l.length = n) (j : Nat) (x : Int) : OI (w.setCell ⟨g, j, none⟩ ((Value.int .i64) x)) base (.slice (some ⟨g, 0, none⟩) n cap) (l.set j x) := by
 obtain ⟨cur, hg, hb, hnc, hm, hz, ht⟩ := oin_cur h hn
 refine ⟨by simp, .inr ⟨g, cap, cur.setIfInBounds j ((Value.int .i64) x), ?_, hb, ?_, ?_, hm, ?_, ?_⟩⟩
 ·rw [List.length_set, hn]
 ·simp only [World.setCell, Array.getElem?_modify, if_pos, hg]
  simp
 ·rw [List.length_set]; omega
 ·simp [hz]
 ·rw [List.length_set, hn, Nat.mul_one, Array.toList_setIfInBounds, List.take_set, ht, List.map_set]
structure AQ1 (w : World) (base n : Nat) (A : Nat → Option Addr) (N C : Nat → Nat) (L : Nat → List Int) : Prop where
 ob : ∀ j, j < n → OI w base (apV A N C j) (L j)
 len : ∀ j, j < n → (L j).length = N j
set_option maxRecDepth 100000 in
theorem AQ1.set {w : World} {base n : Nat} {A : Nat → Option Addr} {N C : Nat → Nat} {L : Nat → List Int} (h : AQ1 w base n A N C L) (hd : ApD n A N C) {k i g : Nat} (hk : k < n) (hA : A k = some ⟨g, 0, none⟩) (x : Int) :
  AQ1 (w.setCell ⟨g, i, none⟩ ((Value.int .i64) x)) base n A N C (fun j => if j = k then (L k).set i x else L j) := by
 refine ⟨fun j hj => ?_, fun j hj => ?_⟩
 ·by_cases e : j = k
  ·subst e
   rw [if_pos rfl]
   have := h.ob j hj
   unfold apV at this ⊢
   rw [hA] at this ⊢
   exact oin_set this (h.len j hj) i x
  ·rw [if_neg e]
   refine oi_kept (h.ob j hj) (grown_set w g i _) ?_
   have := hd k j hk hj (Ne.symm e)
   unfold apV at this ⊢
   rw [hA] at this
   simpa [Value.ownBlock] using this
 ·by_cases e : j = k
  ·subst e
   rw [if_pos rfl, List.length_set]
   exact h.len j hj
  ·rw [if_neg e]
   exact h.len j hj
end Go.Proofs.YtnkeclpgpiogoaaGreat

/-! AtT -/
namespace Go.Proofs.YtnkeclpgpiogoaaGreat
open Go Go.RowKit Go.Maps
section
variable {w0 w w1 w' : World} {z : Wh} {n bl c V gx : Nat} {T T1 T' U : Nat → Prop} {now : Nat → List UInt8} {recs : List Rec} {im : List (Nat × Unit)} {st : List (Nat × List UInt8)} {k : Nat}
end
end Go.Proofs.YtnkeclpgpiogoaaGreat

/-! AtU -/
namespace Go.Proofs.YtnkeclpgpiogoaaGreat
open Go Go.RowKit Go.Maps
def boolsA (tk : Nat → Bool) (n : Nat) : Array Value := ((List.range n).map fun p => Value.bool (tk p)).toArray
def TB (w : World) (g : Nat) (tk : Nat → Bool) (n : Nat) : Prop := w.heap[g]? = some (.cells (boolsA tk n) 4 (0, 0))
section
variable {w w' : World} {g n p : Nat} {tk : Nat → Bool}
set_option maxRecDepth 100000 in
theorem TB.lt (h : TB w g tk n) : g < w.heap.size := (Array.getElem?_eq_some_iff.1 h).1
set_option maxRecDepth 100000 in
theorem TB.off {S : Nat → Prop} (h : TB w g tk n) (ho : Off S w w') (hs : ¬ S g) : TB w' g tk n := (ho.block g h.lt hs).trans h
set_option maxRecDepth 100000 in
theorem TB.below (h : TB w g tk n) (hb : Below w.heap.size w w') : TB w' g tk n := (hb.block g h.lt).trans h
set_option maxRecDepth 100000 in
theorem TB.nb (h : TB w g tk n) : NE w g := ⟨_, h, by decide, by decide, by decide, by decide, by decide, by decide⟩
set_option maxRecDepth 100000 in
theorem boolsA_set (hp : p < n) (b : Bool) : (boolsA tk n).setIfInBounds p (.bool b) = boolsA (updB tk p b) n := by
 apply Array.ext'
 apply List.ext_getElem?
 intro i
 simp only [boolsA, Array.toList_setIfInBounds, List.getElem?_set, List.length_map, List.length_range, List.getElem?_map]
 by_cases hi : i < n
 ·rw [List.getElem?_range hi]
  unfold updB
  by_cases e : p = i
  ·rw [if_pos e, if_pos (by omega), Option.map_some, if_pos e.symm]
  ·rw [if_neg e, Option.map_some, Option.map_some, if_neg (fun h => e h.symm)]
 ·rw [List.getElem?_eq_none (by rw [List.length_range]; omega)]
  by_cases e : p = i
  ·omega
  ·rw [if_neg e]
   rfl
set_option maxRecDepth 100000 in
theorem TB.set (h : TB w g tk n) (hp : p < n) (b : Bool) : TB (w.setCell ⟨g, p, none⟩ (.bool b)) g (updB tk p b) n := by
 unfold TB at h ⊢
 simp only [World.setCell, Array.getElem?_modify, if_pos, h]
 simp only [Option.map_some]
 congr 2
 simp only [Option.isSome_none, Bool.false_eq_true, if_false]
 exact boolsA_set hp b
end
section
variable {n f : Nat} {tk : Nat → Bool}
end
section
variable {w0 w w' : World} {z : Wh} {n bl c V gx g : Nat} {T U : Nat → Prop} {now : Nat → List UInt8} {recs : List Rec} {im : List (Nat × Unit)} {st : List (Nat × List UInt8)}
set_option maxRecDepth 100000 in
theorem SC.nb (h : SC w0 w z n bl T now c recs V im) {S : Nat → Prop} (ho : Off S w w') (hS : ∀ k, S k → NE w k ∧ ¬ T k ∧ w0.heap.size ≤ k) : SC w0 w' z n bl T now c recs V im := by
 obtain ⟨D, P, A, h1, r⟩ := h.ex
 exact ⟨D, P, A, h1.nb ho hS, r⟩
set_option maxRecDepth 100000 in
theorem XG.nb (h : XG w0 w z n gx st T U) {S : Nat → Prop} (ho : Off S w w') (hS : ∀ k, S k → NE w k) (hU : ∀ k, U k → ¬ S k) : XG w0 w' z n gx st T U :=
 ⟨h.xz.off ho (fun k e => .inr (hS k e)) hU (fun _ e => .inl e), h.ok⟩
set_option maxRecDepth 100000 in
theorem SC.srt (h : SC w0 w z n bl T now c recs V im) : SortS im := by
 obtain ⟨D, P, A, h1, h2, h3, h4, h5, r⟩ := h.ex
 obtain ⟨F, tv, mb, q, i, _, _, _, _, _, _, _, h8, _⟩ := h1.ex
 rw [← h5]
 exact h8
set_option maxRecDepth 100000 in
theorem SC.bel (h : SC w0 w z n bl T now c recs V im) : Below w0.heap.size w0 w := by
 obtain ⟨D, P, A, h1, r⟩ := h.ex
 exact h1.bel
end
end Go.Proofs.YtnkeclpgpiogoaaGreat

/-! BtA -/
namespace Go.Proofs.YtnkeclpgpiogoaaGreat
open Go Go.RowKit Go.Maps
set_option maxRecDepth 100000 in
theorem ob_bb {w : World} {g base n : Nat} {l : List UInt8} (h : BB w g l) (hl : l.length = n) (hb : base ≤ g) (hn : n ≤ 140737488355328) : OB w base (.slice (some ⟨g, 0, none⟩) n n) l := by
 subst hl
 refine ⟨by simp, .inr ⟨g, l.length, _, rfl, hb, h, Nat.le_refl _, by simp only [maxLen]; omega, by simp, by rw [Nat.mul_one]; exact List.take_of_length_le (by simp)⟩⟩
def turnT (b : List UInt8) (x : Int) : List UInt8 := b.set ((x % 1000003).toNat % 4080) (UInt8.ofNat ((x % 1000003).toNat / 4080))
def payT (seed : Int) (l : List Int) : List UInt8 := (l.take 20).foldl turnT (madeL seed 4080)
set_option maxRecDepth 100000 in
theorem turnT_len (b : List UInt8) (x : Int) : (turnT b x).length = b.length := List.length_set ..
set_option maxRecDepth 100000 in
theorem foldT_len : ∀ (l : List Int) (b : List UInt8), (l.foldl turnT b).length = b.length
 | [], _ => rfl
 | x :: l, b => by rw [List.foldl_cons, foldT_len l, turnT_len]
set_option maxRecDepth 100000 in
theorem payT_len (seed : Int) (l : List Int) : (payT seed l).length = 4080 := by
 unfold payT
 rw [foldT_len, madeL_len]
set_option maxRecDepth 100000 in
set_option maxHeartbeats 1000000 in
theorem payload10_any (seed : Int) (A : Option Addr) (nn c : Nat) (l : List Int) (w : World) (ha : IR w A nn l) (hnn : nn ≤ 4611686018427387904) :
  Calls Tryz.prog 27 #[.int .i64 seed, .slice A nn c] w fun e w' => e = .returned (.slice (some ⟨w.heap.size, 0, none⟩) 4080 4080) ∧ OB w' w.heap.size (.slice (some ⟨w.heap.size, 0, none⟩) 4080 4080) (payT seed l) ∧ Below w.heap.size w w' := by
 have HM := Lib.hid (Made_any seed 4080 w (by omega))
 have HA := Lib.hid ha
 obtain ⟨g, hg⟩ : ∃ g, g = w.heap.size := ⟨_, rfl⟩
 rw [← hg] at HM
 rw [← hg]
 have HG := Lib.hid hg
 have HGL : Hid (g ≤ w.heap.size) := Lib.hid (Nat.le_of_eq hg)
 clear ha hg
 go_enter Tryz.func27, Tryz.ntmps27
 go_wp2_with fail
 refine HM.out.mono ?_
 rintro e w1 ⟨rfl, hbb, hb1⟩
 have HI0 : Hid (OB w1 g (.slice (some ⟨g, 0, none⟩) 4080 4080) ((l.take 0).foldl turnT (madeL seed 4080)) ∧ Below g w w1) := Lib.hid ⟨ob_bb hbb (madeL_len _ _) (Nat.le_refl _) (by omega), hb1⟩
 clear hbb hb1
 go_wp2_with fail
 go_loopw [6] (fun i wr => ∃ k : Nat, k ≤ nn ∧ k ≤ 20 ∧ i = .int .i64 (k : Int) ∧ Hid (OB wr g (.slice (some ⟨g, 0, none⟩) 4080 4080) ((l.take k).foldl turnT (madeL seed 4080)) ∧ Below g w wr)) (fun i _ => 20 - (Go.RowKit.intOf i).toNat)
 case atStart => exact ⟨0, Nat.zero_le _, by omega, rfl, HI0⟩
 case round =>
  clear HI0
  obtain ⟨k, hk1, hk2, rfl, HI⟩ := hrel
  by_cases hlt : k < nn ∧ k < 20
  ·obtain ⟨ha1, ha2⟩ := hlt
   have t1 : decide ((k : Int) < (nn : Int)) = true := decide_eq_true (by omega)
   have t2 : decide (k < nn) = true := decide_eq_true ha1
   have t3 : decide ((k : Int) < 20) = true := decide_eq_true (by omega)
   have t4 : decide (k < 20) = true := decide_eq_true ha2
   have j0 : (0 : Int) ≤ (k : Int) := Int.natCast_nonneg _
   have j1 : (k : Int) < (nn : Int) := by omega
   have hl := HA.out.len
   obtain ⟨ga, o, rfl, hcell⟩ := (HA.out.below (by rw [← HG.out]; exact HI.out.2)).at_ ha1
   have hx : l[k]? = some (l.getD k 0) := by rw [List.getD_eq_getElem?_getD, List.getElem?_eq_getElem (by omega)]; rfl
   have HPK := Lib.hid (Pick_any (l.getD k 0) 1000003 wr (by omega) (by omega))
   have HTK : Hid ((l.take (k + 1)).foldl turnT (madeL seed 4080) = turnT ((l.take k).foldl turnT (madeL seed 4080)) (l.getD k 0)) := Lib.hid (by rw [take_snoc hx, List.foldl_append]; rfl)
   have hlen : ((l.take k).foldl turnT (madeL seed 4080)).length = 4080 := by rw [foldT_len, madeL_len]
   have hob := HI.out.1
   generalize (l.take k).foldl turnT (madeL seed 4080) = b at *
   generalize l.getD k 0 = x at *
   obtain ⟨m, hm⟩ := Int.eq_ofNat_of_zero_le (Int.emod_nonneg x (show (1000003 : Int) ≠ 0 by omega))
   have hml : m < 1000003 := by
    have := Int.emod_lt_of_pos x (show (0 : Int) < 1000003 by omega)
    omega
   have HT2 : Hid ((l.take (k + 1)).foldl turnT (madeL seed 4080) = b.set (m % 4080) (UInt8.ofNat (m / 4080))) := Lib.hid (by
    rw [HTK.out]
    unfold turnT
    rw [hm, Int.toNat_natCast])
   rw [hm] at HPK
   clear hx hm HTK
   have hst := hob.setInt hlen (m % 4080) (UInt8.ofNat (m / 4080)) (Nat.mod_lt _ (by omega)) ((m : Int) / 4080) (by
    rw [UInt8.toNat_ofNat', Nat.mod_eq_of_lt (by omega)]
    omega)
   have fz := hob.frozen hlen (m % 4080)
   have hc2 := OB.cell hob hlen (j := m % 4080) (Nat.mod_lt _ (by omega))
   have HST := Lib.hid hst
   clear hob hst hlen
   go_wp2_with fail
   refine HPK.out.mono ?_
   rintro e w10 ⟨rfl, rfl⟩
   go_wp2_with fail
   have HI2 : Hid (OB (wr.setCell ⟨g, m % 4080, none⟩ (.int .u8 ((m : Int) / 4080))) g (.slice (some ⟨g, 0, none⟩) 4080 4080) ((l.take (k + 1)).foldl turnT (madeL seed 4080)) ∧ Below g w (wr.setCell ⟨g, m % 4080, none⟩ (.int .u8 ((m : Int) / 4080)))) := Lib.hid (by
    rw [HT2.out]
    exact ⟨HST.out, HI.out.2.trans (((Off.refl (fun k => k = g) wr).setCell (S := fun k => k = g) _ rfl).below (fun k e => Nat.le_of_eq e.symm) (Nat.le_trans HGL.out HI.out.2.size))⟩)
   go_roundw
   all_goals have ha1 := of_decide_eq_true t2
   all_goals have ha2 := of_decide_eq_true t4
   case rel => exact ⟨k + 1, by omega, by omega, by go_num, HI2⟩
   case measure => simp [Go.RowKit.intOf]; omega
  ·have hend : ∀ Q : Prop, (decide ((k : Int) < (nn : Int)) = false → decide (k < nn) = false → Q) → (decide ((k : Int) < (nn : Int)) = true → decide (k < nn) = true → decide ((k : Int) < 20) = false → decide (k < 20) = false → Q) → Q := fun Q h1 h2 => by
    by_cases h : k < nn
    ·exact h2 (decide_eq_true (by omega)) (decide_eq_true h) (decide_eq_false (by omega)) (decide_eq_false (by omega))
    ·exact h1 (decide_eq_false (by omega)) (decide_eq_false h)
   have HF : Hid (OB wr g (.slice (some ⟨g, 0, none⟩) 4080 4080) (payT seed l)) := Lib.hid (by
    have h := HI.out.1
    have hl := HA.out.len
    have e : l.take k = l.take 20 := by
     by_cases h20 : k = 20
     ·rw [h20]
     ·rw [List.take_of_length_le (by omega), List.take_of_length_le (by omega)]
    rw [e] at h
    exact h)
   refine hend _ (fun t1 t2 => ?_) (fun t1 t2 t3 t4 => ?_)
   all_goals
    clear hend hlt
    go_wp2_with fail
    go_ret
    exact ⟨rfl, HF.out, HI.out.2⟩
end Go.Proofs.YtnkeclpgpiogoaaGreat
