/-
  Texts of this claim, joined: AtG, MvB, AtH, PlC, PlZ, PlD, DfF, DfG, PlainD, PlE, PlF, PlG, AtI, AtK, AtJ, AtL, AtM, AtQ, AtN, AtO. No statement of the program is proved here.
-/
import Derived.Test.YtnkeclpgpiogoaaPkA6
import Derived.Test.YtnkeclpgpiogoaaPkA5
import Derived.Test.YtnkeclpgpiogoaaPkA4
import Derived.Test.YtnkeclpgpiogoaaPkA3
import Derived.BigQuiet
import Derived.IntWalk
/-! AtG -/
namespace Go.Proofs.Ytnkeclpgpiogoaa
open Go Go.RowKit Go.Maps
set_option maxRecDepth 100000 in
theorem zeroBytes (w : World) : (zeroValue 37).run Try.prog w = .ok (.slice none 0 0) w := by kernel_rfl
def AGet (w0 w : World) (z : Wh) (gx : Nat) (A : AtS) (X : AxS) (T U : Nat → Prop) (r : ARes) (l : List UInt8) (e : Ending) (w' : World) : Prop :=
 ∃ v, e = .returned (.tuple #[v, .int .i64 r.2.2]) ∧ OB w' w.heap.size v l ∧ ∃ T' wn, AZ w0 wn z r.1 r.2.1 A T' ∧ XZ wn w0.heap.size z.ga gx X T' U ∧ Mv T T' w wn ∧ Below wn.heap.size wn w' ∧ ∀ k, v.ownBlock = some k → wn.heap.size ≤ k
section
variable {w0 w w' : World} {z : Wh} {D : EnS} {P : PoS} {A : AtS} {X : AxS} {T T' U : Nat → Prop} {gx : Nat}
set_option maxRecDepth 100000 in
theorem AGet.same (ha : AZ w0 w z D P A T) (hx : XZ w w0.heap.size z.ga gx X T U) (hb : Below w.heap.size w w') {v : Value} {l : List UInt8} (hv : OB w' w.heap.size v l) {r : Int} : AGet w0 w z gx A X T U (D, P, r) l (.returned (.tuple #[v, .int .i64 r])) w' :=
 ⟨v, rfl, hv, T, w, ha, hx, Mv.of_below (gr_refl w), hb, fun k e => (hv.lt k e).1⟩
set_option maxRecDepth 100000 in
theorem XZ.step (hx : XZ w w0.heap.size z.ga gx X T U) (hm : Mv T T' w w') : XZ w' w0.heap.size z.ga gx X T' U :=
 hx.off hm.1 (fun _ e => .inl e) (fun _ hk => (hx.lt hk).2.2.1) hm.2
set_option maxRecDepth 100000 in
set_option maxHeartbeats 1000000 in
theorem Get_at (ha : AZ w0 w z D P A T) (hx : XZ w w0.heap.size z.ga gx X T U) (page : Int) (p1 : -9223372036854775808 ≤ page) (p2 : page ≤ 9223372036854775807) (hpd : D.d.pending.length ≤ 900000) (hct : P.count ≤ 1152921504606846976) :
  Calls Try.prog 11 #[.pointer (some ⟨gx, 0, none⟩), .int .i64 page] w (AGet w0 w z gx A X T U (agetR D P A X page) (agetL D P A X page)) := by
 obtain ⟨im, hab⟩ := ha.ab
 obtain ⟨mx, q, x1, x2, x3, x4, x5, x6, x7, x8, x9, x10, x11⟩ := hx.ex
 have HST : Hid (Calls Try.prog 26 #[.pointer (some ⟨gx, 0, none⟩)] w fun e w' => e = .returned (.int .i64 (stE A X)) ∧ w = w') := Lib.hid (xstands_any hab x1)
 have HA := Lib.hid ha
 have HX := Lib.hid hx
 have HR : Hid (agetR D P A X page = if stE A X ≠ 0 then (D, P, stE A X) else if 0 ≤ page ∧ (findS X.st page.toNat).isSome then (D, P, 0) else getR D P page) := Lib.hid rfl
 have HL : Hid (agetL D P A X page = if stE A X ≠ 0 then [] else if 0 ≤ page ∧ (findS X.st page.toNat).isSome then (findS X.st page.toNat).getD [] else getL D P page) := Lib.hid rfl
 by_cases hst : stE A X = 0
 ·have hk := x2.look Try.underlying56 (zeroBytes w) p1 p2
  have c1 := x1.c1
  have c2 := x1.c2
  have d1 := hab.c1
  have hfs : findS X.st page.toNat = (findS q page.toNat).map Prod.fst := by rw [← x3, find_mapS]
  have hmf : mapF (mapS Prod.snd q) page = if page < 0 then none else (findS q page.toNat).map Prod.snd := by
   unfold mapF
   rw [find_mapS]
  by_cases hin : 0 ≤ page ∧ (findS q page.toNat).isSome
  ·obtain ⟨⟨l, v⟩, hq⟩ := Option.isSome_iff_exists.1 hin.2
   obtain ⟨ho, hlen⟩ := x4 _ (find_mem hq)
   dsimp only at ho hlen
   rw [hmf, if_neg (by omega), hq] at hk
   obtain ⟨B, c, rfl, hbr, hc1, hc2⟩ := ho.form
   have HCL := Lib.hid (Clone_any B l.length c l w hbr (by omega))
   have hr : agetR D P A X page = (D, P, 0) := by rw [HR.out, if_neg (by rw [hst]; decide), if_pos ⟨hin.1, by rw [hfs, hq]; rfl⟩]
   have hl : agetL D P A X page = l := by rw [HL.out, if_neg (by rw [hst]; decide), if_pos ⟨hin.1, by rw [hfs, hq]; rfl⟩, hfs, hq]; rfl
   rw [hr, hl]
   rw [hst] at HST
   have hk2 : (Instr.lookup 56 (.map (some mx)) (.int .i64 page) true).run Try.prog w = .ok (.tuple #[.slice B l.length c, .bool true]) w := hk
   clear ha hx hab x1 x2 x3 x4 x5 x6 x7 x8 x9 x10 x11 HR HL hst hfs hmf hin hq ho hk hbr hc1 hc2 hr hl hlen
   go_enter Try.func11, Try.ntmps11
   go_wp2_with fail
   refine HST.out.mono ?_
   rintro e w1 ⟨rfl, rfl⟩
   go_wp2_with fail
   refine HCL.out.mono ?_
   rintro e w2 ⟨v, rfl, hv, hb⟩
   have HP := Lib.hid (AGet.same (r := 0) HA.out HX.out hb hv)
   clear hv hb
   go_wp2_with fail
   go_ret2
   exact HP.out
  ·have hnf : ¬ (0 ≤ page ∧ (findS X.st page.toNat).isSome = true) := by
    rw [hfs]
    simpa using hin
   have hnone : (if page < 0 then none else (findS q page.toNat).map Prod.snd) = (none : Option Value) := by
    by_cases h0 : page < 0
    ·rw [if_pos h0]
    ·rw [if_neg h0]
     cases hq : findS q page.toNat with
     | none => rfl
     | some y => exact absurd ⟨by omega, by rw [hq]; rfl⟩ hin
   rw [hmf, hnone] at hk
   have hk2 : (Instr.lookup 56 (.map (some mx)) (.int .i64 page) true).run Try.prog w = .ok (.tuple #[.slice none 0 0, .bool false]) w := hk
   have hr : agetR D P A X page = getR D P page := by rw [HR.out, if_neg (by rw [hst]; decide), if_neg hnf]
   have hl : agetL D P A X page = getL D P page := by rw [HL.out, if_neg (by rw [hst]; decide), if_neg hnf]
   have HG := Lib.hid (PGet_az ha page hpd hct)
   rw [hr, hl]
   rw [hst] at HST
   clear ha hx hab x1 x2 x3 x4 x5 x6 x7 x8 x9 x10 x11 HR HL hst hfs hmf hin hk hr hl hnf hnone hpd hct
   go_enter Try.func11, Try.ntmps11
   go_wp2_with fail
   refine HST.out.mono ?_
   rintro e w1 ⟨rfl, rfl⟩
   go_wp2_with fail
   refine HG.out.mono ?_
   rintro e w2 ⟨v, rfl, hv, T', wn, hz, hm, hbn, hn⟩
   obtain ⟨B, c, hvv, _⟩ := hv.form
   subst hvv
   have HP := Lib.hid (show AGet w0 w z gx A X T U (getR D P page) (getL D P page) (.returned (.tuple #[.slice B (getL D P page).length c, .int .i64 (getR D P page).2.2])) w2 from ⟨_, rfl, hv, T', wn, hz, HX.out.step hm, hm, hbn, hn⟩)
   clear hv hz hm hbn hn
   go_wp2_with fail
   go_ret2
   exact HP.out
 ·have hx1 : (stE A X != 0) = true := by rw [bne_iff_ne]; exact hst
  have hr : agetR D P A X page = (D, P, stE A X) := by rw [HR.out, if_pos hst]
  have hl : agetL D P A X page = [] := by rw [HL.out, if_pos hst]
  rw [hr, hl]
  clear ha hx hab x1 x2 x3 x4 x5 x6 x7 x8 x9 x10 x11 HR HL hst hr hl hpd hct
  generalize stE A X = r at *
  go_enter Try.func11, Try.ntmps11
  go_wp2_with fail
  refine HST.out.mono ?_
  rintro e w1 ⟨rfl, rfl⟩
  go_wp2_with fail
  go_ret2
  exact AGet.same HA.out HX.out (gr_refl _) (OB.nil _ _)
def ASetG (w0 w : World) (z : Wh) (gx : Nat) (D : EnS) (P : PoS) (A : AtS) (X' : AxS) (T T2 U : Nat → Prop) (r : Int) (e : Ending) (w' : World) : Prop :=
 e = .returned (.int .i64 r) ∧ AZ w0 w' z D P A T ∧ XZ w' w0.heap.size z.ga gx X' T2 U ∧ Off U w w'
abbrev ASet (w0 w : World) (z : Wh) (gx : Nat) (D : EnS) (P : PoS) (A : AtS) (X' : AxS) (T U : Nat → Prop) (r : Int) (e : Ending) (w' : World) : Prop := ASetG w0 w z gx D P A X' T T U r e w'
variable {T2 : Nat → Prop}
set_option maxRecDepth 100000 in
set_option maxHeartbeats 1000000 in
theorem Set_not (ha : AZ w0 w z D P A T) (hx : XZ w w0.heap.size z.ga gx X T2 U) (page : Int) (B : Option Addr) (n c : Nat) (p1 : -9223372036854775808 ≤ page) (p2 : page ≤ 9223372036854775807) (hne : asetE P A X page n ≠ 0) :
  Calls Try.prog 12 #[.pointer (some ⟨gx, 0, none⟩), .int .i64 page, .slice B n c] w (ASetG w0 w z gx D P A X T T2 U (asetE P A X page n)) := by
 obtain ⟨im, hab⟩ := ha.ab
 obtain ⟨tv, mb, hpb⟩ := ha.pb
 obtain ⟨mx, q, x1, x2, x3, x4, x5, x6, x7, x8, x9, x10, x11⟩ := hx.ex
 have HST : Hid (Calls Try.prog 26 #[.pointer (some ⟨gx, 0, none⟩)] w fun e w' => e = .returned (.int .i64 (stE A X)) ∧ w = w') := Lib.hid (xstands_any hab x1)
 have HPG := Lib.hid (XPages_any hab x1 hpb)
 have HSM : Hid (∀ r, ASetG w0 w z gx D P A X T T2 U r (.returned (.int .i64 r)) w) := Lib.hid fun r => ⟨rfl, ha, hx, Off.refl _ _⟩
 have HE : Hid (asetE P A X page n = if stE A X ≠ 0 then stE A X else if page < 0 ∨ (P.pages : Int) ≤ page ∨ n ≠ 4080 then 2 else if findS X.st page.toNat = none ∧ 16 ≤ X.st.length then 3 else 0) := Lib.hid rfl
 have HNE := Lib.hid hne
 by_cases hst : stE A X = 0
 ·rw [hst] at HST
  by_cases h1 : page < 0
  ·have t1 : decide (page < 0) = true := decide_eq_true h1
   have hr : asetE P A X page n = 2 := by rw [HE.out, if_neg (by rw [hst]; decide), if_pos (.inl h1)]
   rw [hr]
   clear ha hx hab hpb x1 x2 x3 x4 x5 x6 x7 x8 x9 x10 x11 HE hst hr h1 hne
   go_enter Try.func12, Try.ntmps12
   go_wp2_with fail
   refine HST.out.mono ?_
   rintro e w1 ⟨rfl, rfl⟩
   go_wp2_with fail
   go_ret
   exact HSM.out 2
  ·have t1 : decide (page < 0) = false := decide_eq_false h1
   by_cases h2 : (P.pages : Int) ≤ page
   ·have t2 : decide ((P.pages : Int) ≤ page) = true := decide_eq_true h2
    have hr : asetE P A X page n = 2 := by rw [HE.out, if_neg (by rw [hst]; decide), if_pos (.inr (.inl h2))]
    rw [hr]
    clear ha hx hab hpb x1 x2 x3 x4 x5 x6 x7 x8 x9 x10 x11 HE hst hr h1 h2 hne
    go_enter Try.func12, Try.ntmps12
    go_wp2_with fail
    refine HST.out.mono ?_
    rintro e w1 ⟨rfl, rfl⟩
    go_wp2_with fail
    refine HPG.out.mono ?_
    rintro e w1 ⟨rfl, rfl⟩
    go_wp2_with fail
    go_ret
    exact HSM.out 2
   ·have t2 : decide ((P.pages : Int) ≤ page) = false := decide_eq_false h2
    by_cases h3 : n = 4080
    ·subst h3
     have hs3 : findS X.st page.toNat = none ∧ 16 ≤ X.st.length := Decidable.byContradiction fun hc => by
      refine HNE.out ?_
      rw [HE.out, if_neg (by rw [hst]; decide), if_neg (by omega), if_neg hc]
     have hr : asetE P A X page 4080 = 3 := by rw [HE.out, if_neg (by rw [hst]; decide), if_neg (by omega), if_pos hs3]
     have hk := x2.look Try.underlying56 (zeroBytes w) p1 p2
     have hln := x2.len Try.underlying56 3
     have hq : findS q page.toNat = none := by
      have h := hs3.1
      rw [← x3, find_mapS] at h
      cases hq : findS q page.toNat with
      | none => rfl
      | some y => rw [hq] at h; cases h
     have hmf : mapF (mapS Prod.snd q) page = none := by
      unfold mapF
      rw [find_mapS, hq]
      split <;> rfl
     rw [hmf] at hk
     have hk2 : (Instr.lookup 56 (.map (some mx)) (.int .i64 page) true).run Try.prog w = .ok (.tuple #[.slice none 0 0, .bool false]) w := hk
     have hl16 := hs3.2
     have t4 : decide ((16 : Int) ≤ (X.st.length : Int)) = true := decide_eq_true (by omega)
     have c2 := x1.c2
     rw [hr]
     clear ha hx hab hpb x1 x2 x3 x4 x5 x6 x7 x8 x9 x10 x11 HE hst hr h1 h2 hne hs3 hq hmf hk hl16
     generalize X.st.length = xl at *
     go_enter Try.func12, Try.ntmps12
     go_wp2_with fail
     refine HST.out.mono ?_
     rintro e w1 ⟨rfl, rfl⟩
     go_wp2_with fail
     refine HPG.out.mono ?_
     rintro e w1 ⟨rfl, rfl⟩
     go_wp2_with fail
     go_ret
     exact HSM.out 3
    ·have hr : asetE P A X page n = 2 := by rw [HE.out, if_neg (by rw [hst]; decide), if_pos (.inr (.inr h3))]
     have t3 : ((n : Int) != 4080) = true := by rw [bne_iff_ne]; omega
     rw [hr]
     clear ha hx hab hpb x1 x2 x3 x4 x5 x6 x7 x8 x9 x10 x11 HE hst hr h1 h2 hne h3
     go_enter Try.func12, Try.ntmps12
     go_wp2_with fail
     refine HST.out.mono ?_
     rintro e w1 ⟨rfl, rfl⟩
     go_wp2_with fail
     refine HPG.out.mono ?_
     rintro e w1 ⟨rfl, rfl⟩
     go_wp2_with fail
     go_ret
     exact HSM.out 2
 ·have hx1 : (stE A X != 0) = true := by rw [bne_iff_ne]; exact hst
  have hr : asetE P A X page n = stE A X := by rw [HE.out, if_pos hst]
  rw [hr]
  clear ha hx hab hpb x1 x2 x3 x4 x5 x6 x7 x8 x9 x10 x11 HE hst hr hne HNE
  generalize stE A X = r at *
  go_enter Try.func12, Try.ntmps12
  go_wp2_with fail
  refine HST.out.mono ?_
  rintro e w1 ⟨rfl, rfl⟩
  go_wp2_with fail
  go_ret
  exact HSM.out r
set_option maxRecDepth 100000 in
theorem mapF_ins (p : Nat) (v : Value) (l : List (Nat × Value)) : updV (mapF l) (p : Int) v = mapF (insS p v l) := by
 funext x
 unfold updV mapF
 by_cases h : x = (p : Int)
 ·subst h
  rw [if_pos rfl, if_neg (by omega), Int.toNat_natCast, find_insS, if_pos rfl]
 ·rw [if_neg h]
  by_cases h0 : x < 0
  ·rw [if_pos h0, if_pos h0]
  ·rw [if_neg h0, if_neg h0, find_insS, if_neg (by omega)]
set_option maxRecDepth 100000 in
theorem ASetG.put {mx pg : Nat} {q : List (Nat × (List UInt8 × Value))} {w2 w3 : World} {l : List UInt8} {v : Value} (ha : AZ w0 w z D P A T) (hT : ∀ k, T k → T2 k) (hT2 : ∀ k, T2 k → k < w.heap.size) (x1 : XB w gx z.ga mx X.ov) (x2 : MV w mx X.st.length (mapF (mapS Prod.snd q)))
  (hq : mapS Prod.fst q = X.st ∧ (∀ e ∈ q, OB w w0.heap.size e.2.2 e.2.1 ∧ e.2.1.length = 4080) ∧ (∀ e ∈ q, ∀ k, e.2.2.ownBlock = some k → ¬ T2 k) ∧ w0.heap.size ≤ gx ∧ w0.heap.size ≤ mx ∧ ¬ T2 gx ∧ ¬ T2 mx ∧ SortS X.st ∧ ∀ k, U k ↔ k = gx ∨ k = mx) (hb : Below w.heap.size w w2)
  (hmv : MV w3 mx (if (mapF (mapS Prod.snd q) (pg : Int)).isSome then X.st.length else X.st.length + 1) (updV (mapF (mapS Prod.snd q)) (pg : Int) v)) (hg : w2.grownBy w3 (some mx)) (hv : OB w2 w.heap.size v l) (hl : l.length = 4080) : ASetG w0 w z gx D P A { X with st := insS pg l X.st } T T2 U 0 (.returned (.int .i64 0)) w3 := by
 obtain ⟨x3, x4, x5, x6, x7, x8, x9, x10, x11⟩ := hq
 have ho : Off (· = mx) w2 w3 := Off.of_grown hg (fun k e => by injection e with e; exact e.symm)
 have hne : ¬ gx = mx := fun e => x2.notCells x1 e.symm
 have hm2 := x2.below hb
 have hby : ∀ {u : Value} {m : List UInt8} {a : Nat}, OB w2 a u m → OB w3 a u m := fun h => h.off ho (fun k e e2 => by
  subst e2
  obtain ⟨cur, hc⟩ := own_blk h e
  exact hm2.notCells hc rfl)
 refine ⟨rfl, (ha.below hb).nb ho (fun k e => by subst e; exact ⟨hm2.nb, fun e => x9 (hT _ e), x7⟩), ⟨mx, insS pg (l, v) q, (x1.below hb).off ho hne, ?_, ?_, fun e he => ?_, fun e he k hk => ?_, x6, x7, x8, x9, sort_insS _ _ x10, x11⟩, (Off.of_below hb).trans (ho.mono (fun k _ e => (x11 k).2 (.inr e)))⟩
 ·show MV w3 mx (insS pg l X.st).length (mapF (mapS Prod.snd (insS pg (l, v) q)))
  have e1 : (findS X.st pg).isSome = (mapF (mapS Prod.snd q) (pg : Int)).isSome := by
   rw [← x3, find_mapS, mapF_at, find_mapS]
   cases findS q pg <;> rfl
  rw [ins_mapS, ← mapF_ins, len_insS _ _ x10, e1]
  exact hmv
 ·show mapS Prod.fst (insS pg (l, v) q) = insS pg l X.st
  rw [ins_mapS, x3]
 ·rcases mem_insS2 he with rfl | he
  ·exact ⟨own_lower (hby hv) ha.bel.size, hl⟩
  ·exact ⟨hby ((x4 e he).1.below hb), (x4 e he).2⟩
 ·rcases mem_insS2 he with rfl | he
  ·intro hTk
   have h1 := (hv.lt k hk).1
   have h2 := hT2 k hTk
   omega
  ·exact x5 e he k hk
set_option maxRecDepth 100000 in
set_option maxHeartbeats 2000000 in
theorem Set_yes (ha : AZ w0 w z D P A T) (hT : ∀ k, T k → T2 k) (hT2 : ∀ k, T2 k → k < w.heap.size) (hx : XZ w w0.heap.size z.ga gx X T2 U) (pg : Nat) (B : Option Addr) (c : Nat) (l : List UInt8) (hb : BR w B 4080 l) (h0 : asetE P A X (pg : Int) 4080 = 0) (h16 : X.st.length ≤ 16) :
  Calls Try.prog 12 #[.pointer (some ⟨gx, 0, none⟩), .int .i64 (pg : Int), .slice B 4080 c] w (ASetG w0 w z gx D P A { X with st := insS pg l X.st } T T2 U 0) := by
 obtain ⟨im, hab⟩ := ha.ab
 obtain ⟨tv, mb, hpb⟩ := ha.pb
 have hpi := ha.pi
 have hpg0 : ¬ stE A X ≠ 0 ∧ ¬ ((pg : Int) < 0 ∨ (P.pages : Int) ≤ pg ∨ (4080 : Nat) ≠ 4080) ∧ ¬ (findS X.st pg = none ∧ 16 ≤ X.st.length) := by
  unfold asetE at h0
  split at h0
  ·rename_i h; exact absurd h0 h
  ·rename_i h
   split at h0
   ·cases h0
   ·rename_i h2
    split at h0
    ·cases h0
    ·rename_i h3
     rw [Int.toNat_natCast] at h3
     exact ⟨h, h2, h3⟩
 obtain ⟨q1, q2, q3⟩ := hpg0
 have hst : stE A X = 0 := Decidable.not_not.1 q1
 have hpl : pg ≤ 4096 := by have := hpi.fit; have := hpi.d2; omega
 obtain ⟨mx, q, x1, x2, x3, x4, x5, x6, x7, x8, x9, x10, x11⟩ := hx.ex
 have HST : Hid (Calls Try.prog 26 #[.pointer (some ⟨gx, 0, none⟩)] w fun e w' => e = .returned (.int .i64 0) ∧ w = w') := Lib.hid (by rw [← hst]; exact xstands_any hab x1)
 have HPG := Lib.hid (XPages_any hab x1 hpb)
 have hk := x2.look Try.underlying56 (zeroBytes w) (k := (pg : Int)) (by omega) (by omega)
 have hln := x2.len Try.underlying56 3
 have hmf : mapF (mapS Prod.snd q) (pg : Int) = (findS q pg).map Prod.snd := by rw [mapF_at, find_mapS]
 have hfs : findS X.st pg = (findS q pg).map Prod.fst := by rw [← x3, find_mapS]
 rw [hmf] at hk
 have t1 : decide ((pg : Int) < 0) = false := decide_eq_false (by omega)
 have t2 : decide ((P.pages : Int) ≤ (pg : Int)) = false := decide_eq_false (by omega)
 have t2' : decide (P.pages ≤ pg) = false := decide_eq_false (by omega)
 obtain ⟨ok, hok⟩ : ∃ ok, ok = (findS q pg).isSome := ⟨_, rfl⟩
 obtain ⟨v0, hv0⟩ : ∃ v0, v0 = ((findS q pg).map Prod.snd).getD (.slice none 0 0) := ⟨_, rfl⟩
 have hk2 : (Instr.lookup 56 (.map (some mx)) (.int .i64 (pg : Int)) true).run Try.prog w = .ok (.tuple #[v0, .bool ok]) w := by
  rw [hk, hv0, hok]
  cases findS q pg <;> rfl
 have hfit : ok = true ∨ (ok = false ∧ decide ((16 : Int) ≤ (X.st.length : Int)) = false ∧ decide (16 ≤ X.st.length) = false) := by
  rw [hok]
  cases hq : findS q pg with
  | some y => exact .inl rfl
  | none =>
   refine .inr ⟨rfl, decide_eq_false fun h => q3 ⟨by rw [hfs, hq]; rfl, by omega⟩, decide_eq_false fun h => q3 ⟨by rw [hfs, hq]; rfl, h⟩⟩
 have HA := Lib.hid ha
 have HT := Lib.hid (And.intro hT hT2)
 have HX1 := Lib.hid x1
 have HX2 := Lib.hid x2
 have HQ := Lib.hid (show mapS Prod.fst q = X.st ∧ (∀ e ∈ q, OB w w0.heap.size e.2.2 e.2.1 ∧ e.2.1.length = 4080) ∧ (∀ e ∈ q, ∀ k, e.2.2.ownBlock = some k → ¬ T2 k) ∧ w0.heap.size ≤ gx ∧ w0.heap.size ≤ mx ∧ ¬ T2 gx ∧ ¬ T2 mx ∧ SortS X.st ∧ ∀ k, U k ↔ k = gx ∨ k = mx from ⟨x3, x4, x5, x6, x7, x8, x9, x10, x11⟩)
 have HHK := Lib.hid (show mapF (mapS Prod.snd q) (pg : Int) = (findS q pg).map Prod.snd ∧ findS X.st pg = (findS q pg).map Prod.fst from ⟨hmf, hfs⟩)
 have hll : l.length = 4080 := hb.len
 have HCL : Hid (∀ W, Below w.heap.size w W → Calls Try.prog 27 #[.slice B 4080 c] W fun e w' => (∃ A c, e = .returned (.slice A 4080 c) ∧ OB w' w.heap.size (.slice A 4080 c) l) ∧ Below W.heap.size W w') := Lib.hid (fun W hW => (Clone_any B 4080 c l W (hb.below hW) (by omega)).mono (by
  rintro e w' ⟨v, rfl, h1, h2⟩
  obtain ⟨A, c, e, _⟩ := h1.form
  rw [hll] at e
  subst e
  exact ⟨⟨A, c, rfl, own_lower h1 hW.size⟩, h2⟩))
 have c2 := x1.c2
 have C2 := Lib.hid c2
 have HLL := Lib.hid hll
 have HXL := Lib.hid x2
 clear ha hx hab hpb hpi hT hT2 x1 x2 x3 x4 x5 x6 x7 x8 x9 x10 x11 hst q1 q2 q3 hk hmf hfs hok hv0 hb h0 hll
 generalize hxl : X.st.length = xl at *
 have HXE := Lib.hid hxl
 clear hxl
 have hmain : True := trivial
 rcases hfit with rfl | ⟨rfl, t4, t4'⟩
 ·go_enter Try.func12, Try.ntmps12
  go_wp2_with fail
  refine HST.out.mono ?_
  rintro e w1 ⟨rfl, rfl⟩
  go_wp2_with fail
  refine HPG.out.mono ?_
  rintro e w1 ⟨rfl, rfl⟩
  go_upto_region 9 with fail
  clear c2 hk2 hln
  refine wp_region_any (by kernel_rfl) ?_
  refine' wpAny_to_tail (l0 := #[false, false, false, false, false, false, false, false]) (by kernel_rfl) (by kernel_rfl) (by kernel_rfl) (by kernel_rfl) (by kernel_rfl)
   [MP.is (.pointer (some ⟨gx, 0, none⟩)), MP.is (.pointer (some ⟨gx, 0, none⟩)), MP.is (.pointer (some ⟨gx, 2, none⟩)), MP.is (.map (some mx)), MP.is (.int .i64 (pg : Int)), MP.is (.slice B 4080 c), MP.rs w.heap.size 4080 l, MP.any]
   (fun j => j == 7) #[true, true, true, true, true, true, true, false] rfl (by kernel_rfl) rfl (by kernel_rfl) (by kernel_rfl) (by kernel_rfl) (by kernel_rfl) (fun _ => undef) (by rfl) ?hR01 ?hAA1 ?hst1 ?hend1
  case hR01 =>
   intro j hj
   have hj2 : j ∈ [] := hj
   cases hj2
  case hAA1 =>
   intro f
   conv => lhs; simp only [putA, dstOf, List.size_toArray, List.length_cons, List.length_nil, Nat.zero_add, Nat.reduceAdd, List.getElem?_toArray, List.getElem?_cons_zero, List.getElem?_cons_succ, Option.bind_some, Act.put, List.setIfInBounds_toArray, List.set_cons_zero, List.set_cons_succ]
   first | done | exact rfl
  case hst1 =>
   refine Steps.of_list (l' := [0, 1, 2, 3, 4, 5, 6]) (by kernel_rfl) ?_
   refine Steps.cons rfl ?_ ?_
   ·intro f wz hB h K Q hK
    clear h
    try simp only [List.getElem_toArray, List.getElem_cons_zero]
    try rw [if_pos (by rfl)]
    go_simp
    exact hK _ _ (gr_refl _) rfl
   refine Steps.cons rfl ?_ ?_
   ·intro f wz hB h K Q hK
    have h0 : (MP.is (.pointer (some ⟨gx, 0, none⟩))).p (f 0) wz := h 0 (by kernel_rfl)
    have e0 : f 0 = (.pointer (some ⟨gx, 0, none⟩)) := h0
    simp only [e0] at hK ⊢
    clear e0
    clear h
    try rw [if_pos (by rfl)]
    go_simp
    exact hK _ _ (gr_refl _) rfl
   refine Steps.cons rfl ?_ ?_
   ·intro f wz hB h K Q hK
    have h1 : (MP.is (.pointer (some ⟨gx, 0, none⟩))).p (f 1) wz := h 1 (by kernel_rfl)
    have e1 : f 1 = (.pointer (some ⟨gx, 0, none⟩)) := h1
    simp only [e1] at hK ⊢
    clear e1
    clear h
    try rw [if_pos (by rfl)]
    go_simp
    exact hK _ _ (gr_refl _) rfl
   refine Steps.cons rfl ?_ ?_
   ·intro f wz hB h K Q hK
    have h2 : (MP.is (.pointer (some ⟨gx, 2, none⟩))).p (f 2) wz := h 2 (by kernel_rfl)
    have e2 : f 2 = (.pointer (some ⟨gx, 2, none⟩)) := h2
    simp only [e2] at hK ⊢
    clear e2
    clear h
    try rw [if_pos (by rfl)]
    have y0 := keep_of_below hB C2.out
    go_simp
    exact hK _ _ (gr_refl _) rfl
   refine Steps.cons rfl ?_ ?_
   ·intro f wz hB h K Q hK
    clear h
    try rw [if_pos (by rfl)]
    go_simp
    exact hK _ _ (gr_refl _) rfl
   refine Steps.cons rfl ?_ ?_
   ·intro f wz hB h K Q hK
    clear h
    try rw [if_pos (by rfl)]
    go_simp
    exact hK _ _ (gr_refl _) rfl
   refine Steps.cons rfl ?_ ?_
   ·intro f wz hB h K Q hK
    have h5 : (MP.is (.slice B 4080 c)).p (f 5) wz := h 5 (by kernel_rfl)
    have e5 : f 5 = (.slice B 4080 c) := h5
    simp only [e5] at hK ⊢
    clear e5
    clear h
    try rw [if_pos (by rfl)]
    go_simp
    refine (HCL.out _ (bel_drew hB)).mono ?_
    rintro e w5 ⟨⟨A, c, rfl, h5⟩, hb5⟩
    exact hK _ _ hb5 ⟨A, c, rfl, h5⟩
   exact Steps.nil
  intro f w2 hB2 hR
  conv => arg 7; simp only [putL, dstOf, List.size_toArray, List.length_cons, List.length_nil, Nat.zero_add, Nat.reduceAdd, List.getElem?_toArray, List.getElem?_cons_zero, List.getElem?_cons_succ, Option.bind_some, Act.put, List.setIfInBounds_toArray, List.set_cons_zero, List.set_cons_succ, Array.getD_eq_getD_getElem?, Option.getD_some, if_true, if_false, Bool.false_eq_true]
  have e0 : f 0 = (.pointer (some ⟨gx, 0, none⟩)) := hR 0 (by decide) rfl
  have e1 : f 1 = (.pointer (some ⟨gx, 0, none⟩)) := hR 1 (by decide) rfl
  have e2 : f 2 = (.pointer (some ⟨gx, 2, none⟩)) := hR 2 (by decide) rfl
  have e3 : f 3 = (.map (some mx)) := hR 3 (by decide) rfl
  have e4 : f 4 = (.int .i64 (pg : Int)) := hR 4 (by decide) rfl
  have e5 : f 5 = (.slice B 4080 c) := hR 5 (by decide) rfl
  obtain ⟨A62, c62, e6, q62⟩ := (show (MP.rs w.heap.size 4080 l).p (f 6) w2 from hR 6 (by decide) rfl)
  simp only [e0, e1, e2, e3, e4, e5, e6]
  clear e0 e1 e2 e3 e4 e5 e6 hR
  have HB2 : Hid (Below w.heap.size w w2) := Lib.hid (Below.trans (gr_drewN (gr_refl w) 1) hB2)
  obtain ⟨w3, hput, hmv3, hg3⟩ := (HX2.out.below HB2.out).put Try.underlying56 (k := (pg : Int)) (by omega) (by omega) (.slice A62 4080 c62) (by simp only [maxLen]; omega)
  have HMV := Lib.hid hmv3
  have HG3 := Lib.hid hg3
  have HV := Lib.hid q62
  clear hmv3 hg3 q62 hB2
  refine wpAny_of_held (S := fun _ => True) _ _ _ _ ?_
  refine wpAnyH_ready (rs := [7]) (by kernel_rfl) (by simp) ?_
  refine AllReadyH.cons rfl (fun KK hK => ?_) AllReadyH.nil
  rw [if_pos (by rfl)]
  go_simp
  refine hK.out _ _ trivial (fun _ => ?_)
  clear hK KK
  try simp only [List.setIfInBounds_toArray, List.set_cons_zero, List.set_cons_succ]
  refine wpAnyH_done (by kernel_rfl) ?_ _
  clear hput
  have hfin := ASetG.put HA.out HT.out.1 HT.out.2 HX1.out (by rw [HXE.out]; exact HX2.out) HQ.out HB2.out (by rw [HXE.out]; exact HMV.out) HG3.out HV.out HLL.out
  have HFIN := Lib.hid hfin
  clear hfin
  go_wp2_with fail
  go_ret
  exact HFIN.out
 ·go_enter Try.func12, Try.ntmps12
  go_wp2_with fail
  refine HST.out.mono ?_
  rintro e w1 ⟨rfl, rfl⟩
  go_wp2_with fail
  refine HPG.out.mono ?_
  rintro e w1 ⟨rfl, rfl⟩
  go_upto_region 9 with fail
  clear c2 hk2 hln
  refine wp_region_any (by kernel_rfl) ?_
  refine' wpAny_to_tail (l0 := #[false, false, false, false, false, false, false, false]) (by kernel_rfl) (by kernel_rfl) (by kernel_rfl) (by kernel_rfl) (by kernel_rfl)
   [MP.is (.pointer (some ⟨gx, 0, none⟩)), MP.is (.pointer (some ⟨gx, 0, none⟩)), MP.is (.pointer (some ⟨gx, 2, none⟩)), MP.is (.map (some mx)), MP.is (.int .i64 (pg : Int)), MP.is (.slice B 4080 c), MP.rs w.heap.size 4080 l, MP.any]
   (fun j => j == 7) #[true, true, true, true, true, true, true, false] rfl (by kernel_rfl) rfl (by kernel_rfl) (by kernel_rfl) (by kernel_rfl) (by kernel_rfl) (fun _ => undef) (by rfl) ?hR02 ?hAA2 ?hst2 ?hend2
  case hR02 =>
   intro j hj
   have hj2 : j ∈ [] := hj
   cases hj2
  case hAA2 =>
   intro f
   conv => lhs; simp only [putA, dstOf, List.size_toArray, List.length_cons, List.length_nil, Nat.zero_add, Nat.reduceAdd, List.getElem?_toArray, List.getElem?_cons_zero, List.getElem?_cons_succ, Option.bind_some, Act.put, List.setIfInBounds_toArray, List.set_cons_zero, List.set_cons_succ]
   first | done | exact rfl
  case hst2 =>
   refine Steps.of_list (l' := [0, 1, 2, 3, 4, 5, 6]) (by kernel_rfl) ?_
   refine Steps.cons rfl ?_ ?_
   ·intro f wz hB h K Q hK
    clear h
    try simp only [List.getElem_toArray, List.getElem_cons_zero]
    try rw [if_pos (by rfl)]
    go_simp
    exact hK _ _ (gr_refl _) rfl
   refine Steps.cons rfl ?_ ?_
   ·intro f wz hB h K Q hK
    have h0 : (MP.is (.pointer (some ⟨gx, 0, none⟩))).p (f 0) wz := h 0 (by kernel_rfl)
    have e0 : f 0 = (.pointer (some ⟨gx, 0, none⟩)) := h0
    simp only [e0] at hK ⊢
    clear e0
    clear h
    try rw [if_pos (by rfl)]
    go_simp
    exact hK _ _ (gr_refl _) rfl
   refine Steps.cons rfl ?_ ?_
   ·intro f wz hB h K Q hK
    have h1 : (MP.is (.pointer (some ⟨gx, 0, none⟩))).p (f 1) wz := h 1 (by kernel_rfl)
    have e1 : f 1 = (.pointer (some ⟨gx, 0, none⟩)) := h1
    simp only [e1] at hK ⊢
    clear e1
    clear h
    try rw [if_pos (by rfl)]
    go_simp
    exact hK _ _ (gr_refl _) rfl
   refine Steps.cons rfl ?_ ?_
   ·intro f wz hB h K Q hK
    have h2 : (MP.is (.pointer (some ⟨gx, 2, none⟩))).p (f 2) wz := h 2 (by kernel_rfl)
    have e2 : f 2 = (.pointer (some ⟨gx, 2, none⟩)) := h2
    simp only [e2] at hK ⊢
    clear e2
    clear h
    try rw [if_pos (by rfl)]
    have y0 := keep_of_below hB C2.out
    go_simp
    exact hK _ _ (gr_refl _) rfl
   refine Steps.cons rfl ?_ ?_
   ·intro f wz hB h K Q hK
    clear h
    try rw [if_pos (by rfl)]
    go_simp
    exact hK _ _ (gr_refl _) rfl
   refine Steps.cons rfl ?_ ?_
   ·intro f wz hB h K Q hK
    clear h
    try rw [if_pos (by rfl)]
    go_simp
    exact hK _ _ (gr_refl _) rfl
   refine Steps.cons rfl ?_ ?_
   ·intro f wz hB h K Q hK
    have h5 : (MP.is (.slice B 4080 c)).p (f 5) wz := h 5 (by kernel_rfl)
    have e5 : f 5 = (.slice B 4080 c) := h5
    simp only [e5] at hK ⊢
    clear e5
    clear h
    try rw [if_pos (by rfl)]
    go_simp
    refine (HCL.out _ (bel_drew hB)).mono ?_
    rintro e w5 ⟨⟨A, c, rfl, h5⟩, hb5⟩
    exact hK _ _ hb5 ⟨A, c, rfl, h5⟩
   exact Steps.nil
  intro f w2 hB2 hR
  conv => arg 7; simp only [putL, dstOf, List.size_toArray, List.length_cons, List.length_nil, Nat.zero_add, Nat.reduceAdd, List.getElem?_toArray, List.getElem?_cons_zero, List.getElem?_cons_succ, Option.bind_some, Act.put, List.setIfInBounds_toArray, List.set_cons_zero, List.set_cons_succ, Array.getD_eq_getD_getElem?, Option.getD_some, if_true, if_false, Bool.false_eq_true]
  have e0 : f 0 = (.pointer (some ⟨gx, 0, none⟩)) := hR 0 (by decide) rfl
  have e1 : f 1 = (.pointer (some ⟨gx, 0, none⟩)) := hR 1 (by decide) rfl
  have e2 : f 2 = (.pointer (some ⟨gx, 2, none⟩)) := hR 2 (by decide) rfl
  have e3 : f 3 = (.map (some mx)) := hR 3 (by decide) rfl
  have e4 : f 4 = (.int .i64 (pg : Int)) := hR 4 (by decide) rfl
  have e5 : f 5 = (.slice B 4080 c) := hR 5 (by decide) rfl
  obtain ⟨A62, c62, e6, q62⟩ := (show (MP.rs w.heap.size 4080 l).p (f 6) w2 from hR 6 (by decide) rfl)
  simp only [e0, e1, e2, e3, e4, e5, e6]
  clear e0 e1 e2 e3 e4 e5 e6 hR
  have HB2 : Hid (Below w.heap.size w w2) := Lib.hid (Below.trans (gr_drewN (gr_refl w) 1) hB2)
  obtain ⟨w3, hput, hmv3, hg3⟩ := (HX2.out.below HB2.out).put Try.underlying56 (k := (pg : Int)) (by omega) (by omega) (.slice A62 4080 c62) (by simp only [maxLen]; omega)
  have HMV := Lib.hid hmv3
  have HG3 := Lib.hid hg3
  have HV := Lib.hid q62
  clear hmv3 hg3 q62 hB2
  refine wpAny_of_held (S := fun _ => True) _ _ _ _ ?_
  refine wpAnyH_ready (rs := [7]) (by kernel_rfl) (by simp) ?_
  refine AllReadyH.cons rfl (fun KK hK => ?_) AllReadyH.nil
  rw [if_pos (by rfl)]
  go_simp
  refine hK.out _ _ trivial (fun _ => ?_)
  clear hK KK
  try simp only [List.setIfInBounds_toArray, List.set_cons_zero, List.set_cons_succ]
  refine wpAnyH_done (by kernel_rfl) ?_ _
  clear hput
  have hfin := ASetG.put HA.out HT.out.1 HT.out.2 HX1.out (by rw [HXE.out]; exact HX2.out) HQ.out HB2.out (by rw [HXE.out]; exact HMV.out) HG3.out HV.out HLL.out
  have HFIN := Lib.hid hfin
  clear hfin
  go_wp2_with fail
  go_ret
  exact HFIN.out
set_option maxRecDepth 100000 in
theorem Set_atG (ha : AZ w0 w z D P A T) (hT : ∀ k, T k → T2 k) (hT2 : ∀ k, T2 k → k < w.heap.size) (hx : XZ w w0.heap.size z.ga gx X T2 U) (page : Int) (B : Option Addr) (n c : Nat) (l : List UInt8) (hb : BR w B n l) (p1 : -9223372036854775808 ≤ page) (p2 : page ≤ 9223372036854775807) (h16 : X.st.length ≤ 16) :
  Calls Try.prog 12 #[.pointer (some ⟨gx, 0, none⟩), .int .i64 page, .slice B n c] w (ASetG w0 w z gx D P A (asetX P A X page l) T T2 U (asetE P A X page l.length)) := by
 have hl : l.length = n := hb.len
 by_cases h : asetE P A X page l.length = 0
 ·have hx2 : asetX P A X page l = { X with st := insS page.toNat l X.st } := by
   unfold asetX
   rw [if_neg (by rw [h]; exact fun h => h rfl)]
  have hc : ¬ (page < 0 ∨ (P.pages : Int) ≤ page ∨ l.length ≠ 4080) := by
   intro hc
   unfold asetE at h
   by_cases hs : stE A X = 0
   ·rw [if_neg (by rw [hs]; exact fun h => h rfl), if_pos hc] at h
    cases h
   ·rw [if_pos hs] at h
    exact hs h
  obtain ⟨pg, rfl⟩ := Int.eq_ofNat_of_zero_le (show 0 ≤ page by omega)
  have hn : n = 4080 := by omega
  subst hn
  rw [hx2, h, Int.toNat_natCast]
  exact Set_yes ha hT hT2 hx pg B c l hb (by rw [hl] at h; exact h) h16
 ·have hx2 : asetX P A X page l = X := by
   unfold asetX
   rw [if_pos h]
  rw [hx2]
  rw [hl] at h ⊢
  exact Set_not ha hx page B n c p1 p2 h
set_option maxRecDepth 100000 in
theorem Set_at (ha : AZ w0 w z D P A T) (hx : XZ w w0.heap.size z.ga gx X T U) (page : Int) (B : Option Addr) (n c : Nat) (l : List UInt8) (hb : BR w B n l) (p1 : -9223372036854775808 ≤ page) (p2 : page ≤ 9223372036854775807) (h16 : X.st.length ≤ 16) :
  Calls Try.prog 12 #[.pointer (some ⟨gx, 0, none⟩), .int .i64 page, .slice B n c] w (ASet w0 w z gx D P A (asetX P A X page l) T U (asetE P A X page l.length)) :=
 Set_atG ha (fun _ e => e) (fun _ e => (ha.lt e).2) hx page B n c l hb p1 p2 h16
end
end Go.Proofs.Ytnkeclpgpiogoaa

/-! MvB -/
namespace Go.Proofs.Ytnkeclpgpiogoaa
open Go Go.RowKit
def intsL (l : List Nat) : List Int := l.map Int.ofNat
end Go.Proofs.Ytnkeclpgpiogoaa

/-! AtH -/
namespace Go.Proofs.Ytnkeclpgpiogoaa
open Go Go.RowKit Go.Maps
section
variable {w0 w w' : World} {z : Wh} {D : EnS} {P : PoS} {A : AtS} {X : AxS} {T T' U : Nat → Prop} {gx ga b0 : Nat}
end
end Go.Proofs.Ytnkeclpgpiogoaa

/-! PlC -/
namespace Go.Proofs.Ytnkeclpgpiogoaa
open Go.RowKit
/-! What a disk shows of a block, with the power there or not. -/
def visL (D : DiskS) (x : Nat) : List UInt8 := lastL D.blocks D.pending x
set_option maxRecDepth 100000 in
theorem lastL_snoc (bs : List (List UInt8)) (ps : List (Nat × List UInt8)) (b c : Nat) (m : List UInt8) : lastL bs (ps ++ [(c, m)]) b = if c = b then m else lastL bs ps b := by
 unfold lastL
 rw [List.foldl_append]
 rfl
def Easy (D : DiskS) : Prop := D.down = false ∧ D.power = -1 ∧ D.fault = -1
set_option maxRecDepth 100000 in
theorem Easy.opC {D : DiskS} (h : Easy D) : opC D = 0 := by
 unfold Go.Proofs.Ytnkeclpgpiogoaa.opC
 rw [h.1, h.2.1, h.2.2]
 rfl
set_option maxRecDepth 100000 in
theorem Easy.opS {D : DiskS} (h : Easy D) : opS D = D := by
 obtain ⟨a, b, c, d, e, f⟩ := D
 obtain ⟨h1, h2, h3⟩ := h
 dsimp only at h1 h2 h3
 subst h1 h2 h3
 rfl
set_option maxRecDepth 100000 in
theorem write_cases (D : DiskS) (b : Int) (m : List UInt8) (hm : m.length = 4096) : (writeE D b 4096 = 0 ∧ 0 ≤ b ∧ b < D.blocks.length ∧ writeD D b m = { opS D with pending := D.pending ++ [(b.toNat, m)] }) ∨ (writeE D b 4096 ≠ 0 ∧ (writeD D b m = D ∨ writeD D b m = opS D)) := by
 unfold writeE writeD
 by_cases h : askE D b = 0
 ·rw [if_neg (by rw [h]; decide), if_neg (by decide), if_neg (by rw [h, hm]; decide)]
  by_cases ho : opC D = 0
  ·rw [if_neg (by rw [ho]; decide)]
   have := ask_in h
   exact .inl ⟨ho, this.1, this.2, rfl⟩
  ·rw [if_pos ho]
   exact .inr ⟨ho, .inr rfl⟩
 ·rw [if_pos h, if_pos (.inl h)]
  exact .inr ⟨h, .inl rfl⟩
set_option maxRecDepth 100000 in
theorem visL_write {D : DiskS} {b : Int} {m : List UInt8} (hm : m.length = 4096) (x : Nat) : visL (writeD D b m) x = if writeE D b 4096 = 0 ∧ b.toNat = x then m else visL D x := by
 rcases write_cases D b m hm with ⟨h1, _, _, h4⟩ | ⟨h1, h2⟩
 ·rw [h4]
  show lastL D.blocks (D.pending ++ [(b.toNat, m)]) x = _
  rw [lastL_snoc]
  by_cases e : b.toNat = x
  ·rw [if_pos e, if_pos ⟨h1, e⟩]
  ·rw [if_neg e, if_neg (fun h => e h.2)]
   rfl
 ·rw [if_neg (fun h => h1 h.1)]
  rcases h2 with h2 | h2
  ·rw [h2]
  ·rw [h2]
   rfl
set_option maxRecDepth 100000 in
theorem visL_sync {D : DiskS} {x : Nat} (hx : x < D.blocks.length) : visL (syncD D) x = visL D x := by
 unfold syncD
 split
 ·rfl
 ·exact carry_at _ _ _ hx
set_option maxRecDepth 100000 in
theorem visL_putAll : ∀ (ws : List (Nat × List UInt8)) (D : DiskS) (x : Nat), (∀ p ∈ ws, p.1 ≠ x ∧ p.2.length = 4096) → visL (putAll D ws).1 x = visL D x
 | [], _, _, _ => rfl
 | p :: ws, D, x, h => by
  have hp := h p (List.mem_cons_self ..)
  have hv : visL (writeD D (p.1 : Int) p.2) x = visL D x := by
   rw [visL_write hp.2, if_neg (fun e => hp.1 (by have := e.2; rwa [Int.toNat_natCast] at this))]
  unfold putAll
  split
  ·exact hv
  ·rw [visL_putAll ws _ x (fun q hq => h q (List.mem_cons_of_mem _ hq)), hv]
set_option maxRecDepth 100000 in
theorem visL_flu {D : DiskS} {J : JnS} {x : Nat} (hx : x < D.blocks.length) (hJ : J.fi + J.bl ≤ x) (hb : 0 < J.bl) : visL (fluD D J) x = visL D x := by
 have hw : ∀ p ∈ wsJ J, p.1 ≠ x ∧ p.2.length = 4096 := fun p hp => by
  unfold wsJ wsL at hp
  obtain ⟨i, _, rfl⟩ := List.mem_map.1 hp
  have hm := Nat.mod_lt (J.pl + i) hb
  exact ⟨by show J.fi + (J.pl + i) % J.bl ≠ x; omega, sealL_len (payL_len _ _)⟩
 unfold fluD
 split
 ·rfl
 ·unfold flushD
  split
  ·exact visL_putAll _ _ _ hw
  ·rw [visL_sync (by rw [(putAll_pl _ _).2]; exact hx)]
   exact visL_putAll _ _ _ hw
def GoodV (D : DiskS) (x : Nat) (m : List UInt8) : Prop := openE (visL D x) = 0 ∧ openP (visL D x) = m
set_option maxRecDepth 100000 in
theorem open_blockP (v : Nat) (l : List UInt8) (h : l.length = 4080) : openE (blockP v l) = 0 ∧ openP (blockP v l) = l := by
 have := open_seal (leB v 8) l (leB_length _ _) h
 exact ⟨this.2.2, this.1⟩
structure TI (E : EnS) (P : PoS) (now : Nat → List UInt8) : Prop where
 pi : PI E P
 nb : E.d.blocks.length = P.base + P.pages
 fb : E.j.fi + E.j.bl ≤ P.base
 b0 : 0 < E.j.bl
 nl : ∀ p, p < P.pages → (now p).length = 4080
 held : ∀ i, i < P.fr.length → (P.fr.getD i fr0).pay = now (P.fr.getD i fr0).page
 disk : ∀ p, p < P.pages → (∀ i, i < P.fr.length → (P.fr.getD i fr0).page = p → (P.fr.getD i fr0).dirty = false) → GoodV E.d (P.base + p) (now p)
section
variable {E : EnS} {P : PoS} {now : Nat → List UInt8}
set_option maxRecDepth 100000 in
theorem TI.fpg (h : TI E P now) {i : Nat} (hi : i < P.fr.length) : (P.fr.getD i fr0).page < P.pages := (h.pi.ok _ (getD_mem (d := fr0) hi)).1
set_option maxRecDepth 100000 in
set_option maxRecDepth 100000 in
theorem TI.env (h : TI E P now) {E' : EnS} (hn : E'.d.blocks.length = E.d.blocks.length) (hf : E'.j.fi = E.j.fi) (hb : E'.j.bl = E.j.bl) (hv : ∀ x, P.base ≤ x → x < E.d.blocks.length → visL E'.d x = visL E.d x) : TI E' P now := by
 refine ⟨h.pi.disk hn, by rw [hn]; exact h.nb, by rw [hf, hb]; exact h.fb, by rw [hb]; exact h.b0, h.nl, h.held, fun p hp hc => ?_⟩
 have := h.disk p hp hc
 unfold GoodV at this ⊢
 rw [hv _ (Nat.le_add_right ..) (by rw [h.nb]; omega)]
 exact this
set_option maxRecDepth 100000 in
theorem TI.log (h : TI E P now) (n : Int) : TI (logD E n) P now := by
 unfold logD
 split
 ·exact h
 ·obtain ⟨h1, h2, _, _⟩ := fluJ_shape E.d E.j
  exact h.env (fluD_blocks _ _) h1 h2 (fun x hx hl => visL_flu hl (by have := h.fb; omega) h.b0)
set_option maxRecDepth 100000 in
theorem TI.blockP_ok (h : TI E P now) {n : Nat} (hn : n < P.fr.length) : (blockP (stampN P) (P.fr.getD n fr0).pay).length = 4096 := blockP_len (h.pi.ok _ (getD_mem (d := fr0) hn)).2.1
set_option maxRecDepth 100000 in
set_option maxRecDepth 100000 in
theorem TI.write (h : TI E P now) {n : Nat} (hn : n < P.fr.length) :
  TI (writeR E P n).1 (writeR E P n).2.1 now ∧ ((writeR E P n).2.2 = 0 → ((writeR E P n).2.1.fr.getD n fr0).dirty = false ∧ ∀ p, p ≠ (P.fr.getD n fr0).page → visL (writeR E P n).1.d (P.base + p) = visL (logD E (P.fr.getD n fr0).lsn).d (P.base + p)) ∧ ∀ p, p < P.pages → p ≠ (P.fr.getD n fr0).page → visL (writeR E P n).1.d (P.base + p) = visL E.d (P.base + p) := by
 have hl := h.log (P.fr.getD n fr0).lsn
 have hpg := h.fpg hn
 have hok := h.pi.ok _ (getD_mem (d := fr0) hn)
 have hbl := h.blockP_ok hn
 have hlv : ∀ p, p < P.pages → visL (logD E (P.fr.getD n fr0).lsn).d (P.base + p) = visL E.d (P.base + p) := fun p hp => by
  unfold logD
  split
  ·rfl
  ·exact visL_flu (by rw [h.nb]; omega) (by have := h.fb; omega) h.b0
 have hpi := h.pi.write hn
 unfold writeR at hpi ⊢
 dsimp only at hpi ⊢
 split
 ·rename_i he
  exact ⟨hl, fun e => absurd e he, fun p hp _ => hlv p hp⟩
 ·rename_i he
  rw [if_neg he] at hpi
  generalize logD E (P.fr.getD n fr0).lsn = L at *
  have hv : ∀ x, visL (L.wr ((P.base + (P.fr.getD n fr0).page : Nat) : Int) (blockP (stampN P) (P.fr.getD n fr0).pay)).d x = if writeE L.d ((P.base + (P.fr.getD n fr0).page : Nat) : Int) 4096 = 0 ∧ P.base + (P.fr.getD n fr0).page = x then blockP (stampN P) (P.fr.getD n fr0).pay else visL L.d x := fun x => by
   have := visL_write (D := L.d) (b := ((P.base + (P.fr.getD n fr0).page : Nat) : Int)) hbl x
   rw [Int.toNat_natCast] at this
   exact this
  split
  ·rename_i hw
   refine ⟨hl.env (wr_blocks ..) rfl rfl (fun x _ _ => ?_), fun e => absurd e hw, fun p hp _ => ?_⟩
   ·rw [hv, if_neg (fun e => hw e.1)]
   ·rw [hv, if_neg (fun e => hw e.1)]
    exact hlv p hp
  ·rename_i hw
   rw [if_neg hw] at hpi
   have hw0 : writeE L.d ((P.base + (P.fr.getD n fr0).page : Nat) : Int) 4096 = 0 := Decidable.not_not.1 hw
   have hg : ∀ j, (P.fr.set n { P.fr.getD n fr0 with dirty := false }).getD j fr0 = if n = j then { P.fr.getD n fr0 with dirty := false } else P.fr.getD j fr0 := fun j => by
    rw [getD_setQ]
    by_cases e : n = j
    ·rw [if_pos ⟨e, hn⟩, if_pos e]
    ·rw [if_neg (fun h => e h.1), if_neg e]
   refine ⟨⟨hpi, by rw [wr_blocks]; exact hl.nb, hl.fb, hl.b0, h.nl, fun i hi => ?_, fun p hp hc => ?_⟩, fun _ => ⟨?_, fun p hp => ?_⟩, fun p hp hne => ?_⟩
   ·have hi' : i < P.fr.length := by simpa using hi
    show ((P.fr.set n _).getD i fr0).pay = now ((P.fr.set n _).getD i fr0).page
    rw [hg]
    split
    ·rename_i e
     subst e
     exact h.held n hn
    ·exact h.held i hi'
   ·unfold GoodV
    rw [hv]
    by_cases e : (P.fr.getD n fr0).page = p
    ·rw [if_pos ⟨hw0, by rw [e]⟩]
     have := open_blockP (stampN P) (P.fr.getD n fr0).pay hok.2.1
     refine ⟨this.1, ?_⟩
     rw [this.2, h.held n hn, e]
    ·rw [if_neg (fun h => e (by have h2 : P.base + (P.fr.getD n fr0).page = P.base + p := h.2; omega))]
     refine hl.disk p hp fun i hi hip => ?_
     have hni : n ≠ i := fun e2 => e (by rw [e2]; exact hip)
     have := hc i (by show i < (P.fr.set n _).length; rw [List.length_set]; exact hi)
     have hg2 := hg i
     rw [if_neg hni] at hg2
     have h3 : ((P.fr.set n { P.fr.getD n fr0 with dirty := false }).getD i fr0).page = p → ((P.fr.set n { P.fr.getD n fr0 with dirty := false }).getD i fr0).dirty = false := this
     rw [hg2] at h3
     exact h3 hip
   ·show ((P.fr.set n { P.fr.getD n fr0 with dirty := false }).getD n fr0).dirty = false
    rw [hg, if_pos rfl]
   ·rw [hv, if_neg (fun h => hp (by have h2 : P.base + (P.fr.getD n fr0).page = P.base + p := h.2; omega))]
   ·rw [hv, if_neg (fun h => hne (by have h2 : P.base + (P.fr.getD n fr0).page = P.base + p := h.2; omega))]
    exact hlv p hp
set_option maxRecDepth 100000 in
set_option maxRecDepth 100000 in
theorem TI.alike (h : TI E P now) {fr : List FrS} (ha : Alike P.fr fr) {hd : Nat} (hh : hd < P.most) : TI E { P with fr := fr, hand := hd } now := by
 refine ⟨h.pi.alike ha hh, h.nb, h.fb, h.b0, h.nl, fun i hi => ?_, fun p hp hc => h.disk p hp fun i hi hip => ?_⟩
 ·have hi' : i < P.fr.length := by rw [ha.1]; exact hi
  obtain ⟨u, hu⟩ := ha.2 i hi'
  show (fr.getD i fr0).pay = now (fr.getD i fr0).page
  rw [hu]
  exact h.held i hi'
 ·obtain ⟨u, hu⟩ := ha.2 i hi
  have := hc i (by show i < fr.length; rw [← ha.1]; exact hi)
  have h3 : (fr.getD i fr0).page = p → (fr.getD i fr0).dirty = false := this
  rw [hu] at h3
  exact h3 hip
set_option maxRecDepth 100000 in
theorem TI.spn (h : TI E P now) : TI E (spun P) now := h.alike (spinF_alike _ _ _ _ (Alike.refl _)) (spinF_hand _ (by have := h.pi.m1; omega) _ _ _ h.pi.hd)
def updN (now : Nat → List UInt8) (p : Nat) (m : List UInt8) (x : Nat) : List UInt8 := if x = p then m else now x
set_option maxRecDepth 100000 in
theorem updN_len {k : Nat} (h : ∀ p, p < k → (now p).length = 4080) (p : Nat) {m : List UInt8} (hm : m.length = 4080) : ∀ x, x < k → (updN now p m x).length = 4080 := fun x hx => by
 unfold updN
 split
 ·exact hm
 ·exact h x hx
set_option maxRecDepth 100000 in
theorem updN_same {p : Nat} {m : List UInt8} (h : m = now p) : updN now p m = now := by
 funext x
 unfold updN
 split
 ·rename_i e
  rw [h, e]
 ·rfl
set_option maxRecDepth 100000 in
set_option maxRecDepth 100000 in
theorem TI.put (h : TI E P now) {f : FrS} (hfull : P.fr.length = P.most) (hc : (P.fr.getD P.hand fr0).dirty = false) (hp : f.page < P.pages) (hl : f.pay.length = 4080) (h1 : 0 ≤ f.lsn) (h2 : f.lsn ≤ 9223372036854775807) (hn : f.page ∉ P.fr.map FrS.page) (hd : f.dirty = false → GoodV E.d (P.base + f.page) f.pay) : TI E (putP P f) (updN now f.page f.pay) := by
 have hh : P.hand < P.fr.length := by rw [hfull]; exact h.pi.hd
 have hg : ∀ j, (P.fr.set P.hand f).getD j fr0 = if P.hand = j then f else P.fr.getD j fr0 := fun j => by
  rw [getD_setQ]
  by_cases e : P.hand = j
  ·rw [if_pos ⟨e, hh⟩, if_pos e]
  ·rw [if_neg (fun h => e h.1), if_neg e]
 have hne : ∀ i, i < P.fr.length → (P.fr.getD i fr0).page ≠ f.page := fun i hi e => hn (e ▸ List.mem_map_of_mem (getD_mem hi))
 refine ⟨h.pi.put hfull hp hl h1 h2 hn, h.nb, h.fb, h.b0, updN_len h.nl _ hl, fun i hi => ?_, fun p hp8 hcl => ?_⟩
 ·have hi' : i < P.fr.length := by simpa [putP] using hi
  show ((P.fr.set P.hand f).getD i fr0).pay = updN now f.page f.pay ((P.fr.set P.hand f).getD i fr0).page
  rw [hg]
  unfold updN
  split
  ·rw [if_pos rfl]
  ·rw [if_neg (hne i hi')]
   exact h.held i hi'
 ·have hcl2 : ∀ i, i < P.fr.length → (if P.hand = i then f else P.fr.getD i fr0).page = p → (if P.hand = i then f else P.fr.getD i fr0).dirty = false := fun i hi => by
   have := hcl i (by show i < (P.fr.set P.hand f).length; rw [List.length_set]; exact hi)
   have h3 : ((P.fr.set P.hand f).getD i fr0).page = p → ((P.fr.set P.hand f).getD i fr0).dirty = false := this
   rw [hg] at h3
   exact h3
  unfold updN
  by_cases e : p = f.page
  ·subst e
   rw [if_pos rfl]
   refine hd ?_
   have := hcl2 P.hand hh
   rw [if_pos rfl] at this
   exact this rfl
  ·rw [if_neg e]
   refine h.disk p hp8 fun i hi hip => ?_
   by_cases e2 : P.hand = i
   ·rw [← e2]; exact hc
   ·have := hcl2 i hi
    rw [if_neg e2] at this
    exact this hip
set_option maxRecDepth 100000 in
theorem TI.push (h : TI E P now) {f : FrS} (hroom : P.fr.length < P.most) (hp : f.page < P.pages) (hl : f.pay.length = 4080) (h1 : 0 ≤ f.lsn) (h2 : f.lsn ≤ 9223372036854775807) (hn : f.page ∉ P.fr.map FrS.page) (hd : f.dirty = false → GoodV E.d (P.base + f.page) f.pay) : TI E (pushP P f) (updN now f.page f.pay) := by
 have hg : ∀ j, j < P.fr.length → (P.fr ++ [f]).getD j fr0 = P.fr.getD j fr0 := fun j hj => by
  rw [List.getD_eq_getElem?_getD, List.getElem?_append_left hj, List.getD_eq_getElem?_getD]
 have hg2 : (P.fr ++ [f]).getD P.fr.length fr0 = f := by
  rw [List.getD_eq_getElem?_getD, List.getElem?_append_right (Nat.le_refl _), Nat.sub_self]
  rfl
 have hne : ∀ i, i < P.fr.length → (P.fr.getD i fr0).page ≠ f.page := fun i hi e => hn (e ▸ List.mem_map_of_mem (getD_mem hi))
 have hlen : (P.fr ++ [f]).length = P.fr.length + 1 := by rw [List.length_append]; rfl
 refine ⟨h.pi.push hroom hp hl h1 h2 hn, h.nb, h.fb, h.b0, updN_len h.nl _ hl, fun i hi => ?_, fun p hp8 hcl => ?_⟩
 ·have hi' : i < P.fr.length + 1 := by rw [← hlen]; exact hi
  show ((P.fr ++ [f]).getD i fr0).pay = updN now f.page f.pay ((P.fr ++ [f]).getD i fr0).page
  unfold updN
  by_cases e : i < P.fr.length
  ·rw [hg i e, if_neg (hne i e)]
   exact h.held i e
  ·obtain rfl : i = P.fr.length := by omega
   rw [hg2, if_pos rfl]
 ·have hcl2 : ∀ i, i < P.fr.length + 1 → ((P.fr ++ [f]).getD i fr0).page = p → ((P.fr ++ [f]).getD i fr0).dirty = false := fun i hi => hcl i (by show i < (P.fr ++ [f]).length; rw [hlen]; exact hi)
  unfold updN
  by_cases e : p = f.page
  ·subst e
   rw [if_pos rfl]
   refine hd ?_
   have := hcl2 P.fr.length (by omega)
   rw [hg2] at this
   exact this rfl
  ·rw [if_neg e]
   refine h.disk p hp8 fun i hi hip => ?_
   have := hcl2 i (by omega)
   rw [hg i hi] at this
   exact this hip
set_option maxRecDepth 100000 in
set_option maxRecDepth 100000 in
theorem TI.hold (h : TI E P now) {f : FrS} (hp : f.page < P.pages) (hl : f.pay.length = 4080) (h1 : 0 ≤ f.lsn) (h2 : f.lsn ≤ 9223372036854775807) (hn : f.page ∉ P.fr.map FrS.page) (hd : f.dirty = false → GoodV E.d (P.base + f.page) f.pay) :
  TI (holdR E P f).1 (holdR E P f).2.1 (if (holdR E P f).2.2 = 0 then updN now f.page f.pay else now) := by
 unfold holdR
 by_cases hr : P.fr.length < P.most
 ·rw [if_pos hr, if_pos rfl]
  exact h.push hr hp hl h1 h2 hn hd
 ·rw [if_neg hr]
  have hs := h.spn
  have hsl := spun_len P
  have hle := h.pi.len
  have hfull : (spun P).fr.length = (spun P).most := by
   have e : (spun P).most = P.most := rfl
   omega
  have hh : (spun P).hand < (spun P).fr.length := by rw [hfull]; exact hs.pi.hd
  have hns : f.page ∉ (spun P).fr.map FrS.page := by rw [spun_pages]; exact hn
  by_cases hdt : ((spun P).fr.getD (spun P).hand fr0).dirty = true
  ·rw [if_pos hdt]
   obtain ⟨ht, hw, hv⟩ := hs.write hh
   obtain ⟨s1, s2, s3, s4, s5⟩ := writeR_shape E (spun P) (spun P).hand
   have hlen := writeR_len E (spun P) (spun P).hand
   have hpgs := writeR_pages E (spun P) (spun P).hand
   generalize writeR E (spun P) (spun P).hand = z at *
   obtain ⟨E', P', e⟩ := z
   dsimp only at *
   by_cases he : e = 0
   ·subst he
    rw [if_neg (by decide), if_pos rfl]
    refine ht.put (by rw [hlen, s1]; exact hfull) (by rw [s2]; exact (hw rfl).1) (by rw [s3]; exact hp) hl h1 h2 (by rw [hpgs]; exact hns) (fun e => ?_)
    have hg := hd e
    have hne : f.page ≠ ((spun P).fr.getD (spun P).hand fr0).page := fun e3 => hns (by rw [e3]; exact List.mem_map_of_mem (getD_mem hh))
    unfold GoodV at hg ⊢
    have hb : P'.base = P.base := s4
    rw [hb]
    have := hv f.page hp hne
    rw [show (spun P).base = P.base from rfl] at this
    rw [this]
    exact hg
   ·rw [if_pos he, if_neg he]
    exact ht
  ·have hcl : ((spun P).fr.getD (spun P).hand fr0).dirty = false := by simpa using hdt
   rw [if_neg hdt, if_pos rfl]
   exact hs.put hfull hcl hp hl h1 h2 hns hd
set_option maxRecDepth 100000 in
theorem TI.use (h : TI E P now) {i : Nat} (_hi : i < P.fr.length) : TI E (useP P i) now := by
 have := h.alike (fr := P.fr.set i { P.fr.getD i fr0 with used := true }) ((Alike.refl P.fr).set i true) h.pi.hd
 exact this
set_option maxRecDepth 100000 in
theorem readE_in {D : DiskS} {x : Nat} (h : readE D (x : Int) = 0) : readL D (x : Int) = visL D x := by
 unfold readL
 rw [if_neg (by rw [h]; decide), Int.toNat_natCast]
 rfl
set_option maxRecDepth 100000 in
theorem TI.ask (_h : TI E P now) {p : Nat} (hp : p < P.pages) : askP P (p : Int) = 0 := by
 unfold askP
 rw [if_neg (by omega)]
set_option maxRecDepth 100000 in
set_option maxRecDepth 100000 in
theorem TI.get (h : TI E P now) {p : Nat} (hp : p < P.pages) : TI (getR E P (p : Int)).1 (getR E P (p : Int)).2.1 now ∧ ((getR E P (p : Int)).2.2 = 0 → getL E P (p : Int) = now p) := by
 have ha := h.ask hp
 cases hi : findP P p with
 | some i =>
  obtain ⟨hil, hip⟩ := findP_some hi
  have e : getR E P (p : Int) = (E, useP P i, 0) := by
   unfold getR
   rw [if_neg (by rw [ha]; decide), Int.toNat_natCast, hi]
  refine ⟨by rw [e]; exact h.use hil, fun _ => ?_⟩
  unfold getL
  rw [e, if_neg (show ¬ ((0 : Int) ≠ 0) from fun h => h rfl), Int.toNat_natCast, hi]
  show (P.fr.getD i fr0).pay = now p
  rw [h.held i hil, hip]
 | none =>
  have hno := (findP_none P p).1 hi
  have hgd := h.disk p hp (fun i hi2 hip => absurd (hip ▸ List.mem_map_of_mem (getD_mem hi2)) hno)
  have e : getR E P (p : Int) = if readE E.d ((P.base + p : Nat) : Int) ≠ 0 then (E, P, readE E.d ((P.base + p : Nat) : Int)) else if openE (readL E.d ((P.base + p : Nat) : Int)) ≠ 0 then (E, P, openE (readL E.d ((P.base + p : Nat) : Int))) else holdR E P ⟨p, openP (readL E.d ((P.base + p : Nat) : Int)), 0, false, true⟩ := by
   unfold getR
   rw [if_neg (by rw [ha]; decide), Int.toNat_natCast, hi]
  have e2 : (getR E P (p : Int)).2.2 = 0 → getL E P (p : Int) = openP (readL E.d ((P.base + p : Nat) : Int)) := fun h0 => by
   unfold getL
   rw [if_neg (by rw [h0]; decide), Int.toNat_natCast, hi]
  by_cases hr : readE E.d ((P.base + p : Nat) : Int) = 0
  ·have hrl := readE_in hr
   rw [if_neg (by rw [hr]; decide), hrl, hgd.1, if_neg (by decide), hgd.2] at e
   have hh := h.hold (f := ⟨p, now p, 0, false, true⟩) hp (h.nl p hp) (Int.le_refl _) (by show (0 : Int) ≤ _; omega) hno (fun _ => hgd)
   rw [show updN now p (now p) = now from updN_same rfl, ite_self] at hh
   refine ⟨by rw [e]; exact hh, fun h0 => ?_⟩
   rw [e2 h0, hrl]
   exact hgd.2
  ·rw [if_pos hr] at e
   rw [e]
   exact ⟨h, fun h0 => absurd h0 hr⟩
end
end Go.Proofs.Ytnkeclpgpiogoaa

/-! PlZ -/
namespace Go.Proofs.Ytnkeclpgpiogoaa
open Go Go.RowKit
set_option maxRecDepth 100000 in
theorem Lg.new {n fi bl ep pl ct : Nat} (hn : n ≤ 4096) (hm : mayB n fi bl ep pl ct = true) : Lg (List.replicate n zer) (newJ fi bl ep pl ct) pl ct [] [] ∧ Blank (List.replicate n zer) (newJ fi bl ep pl ct) pl 0 := by
 have hj := newJ_ji hn hm
 unfold mayB at hm
 simp only [Bool.and_eq_true, decide_eq_true_eq] at hm
 obtain ⟨t0, t1, t2, t3, t4, t5, t6, t7, t8, t9⟩ := hm
 have hz : ∀ b, b < n → (List.replicate n zer).getD b [] = zer := fun b hb => by
  rw [List.getD_eq_getElem?_getD, List.getElem?_replicate, if_pos hb]
  rfl
 refine ⟨⟨hj, rfl, rfl, by simp, ?_, trivial, rfl, ?_, rfl, fun p hp c _ hc => ?_, ?_⟩, fun k _ hk => hz _ ?_⟩
 ·show fi + bl ≤ (List.replicate n zer).length
  rw [List.length_replicate]
  omega
 ·show pl = (pl + 0) % bl
  rw [Nat.add_zero, Nat.mod_eq_of_lt (by omega)]
 ·have hp2 : p < bl := hp
  show NoSt ((List.replicate n zer).getD (fi + p) []) (ofN ep c)
  rw [hz _ (by omega)]
  refine NoSt.zer_ ?_
  unfold ofN
  omega
 ·show ep < 4294967296
  omega
 ·show fi + (pl + k) % bl < n
  have := Nat.mod_lt (pl + k) (show 0 < bl by omega)
  omega
end Go.Proofs.Ytnkeclpgpiogoaa

/-! PlD -/
namespace Go.Proofs.Ytnkeclpgpiogoaa
open Go.RowKit
set_option maxRecDepth 100000 in
theorem carry_app (bs : List (List UInt8)) (ps qs : List (Nat × List UInt8)) : carry bs (ps ++ qs) = carry (carry bs ps) qs := by
 unfold carry
 exact List.foldl_append ..
set_option maxRecDepth 100000 in
theorem carry_out {bs : List (List UInt8)} {ps : List (Nat × List UInt8)} {x : Nat} (h : ∀ q ∈ ps, q.1 ≠ x) : (carry bs ps).getD x [] = bs.getD x [] := by
 unfold carry
 induction ps generalizing bs with
 | nil => rfl
 | cons p ps ih =>
  rw [List.foldl_cons, ih (fun q hq => h q (List.mem_cons_of_mem _ hq)), List.getD_eq_getElem?_getD, List.getElem?_set_ne (h p (List.mem_cons_self ..)), ← List.getD_eq_getElem?_getD]
set_option maxRecDepth 100000 in
theorem putAll_easy : ∀ (ws : List (Nat × List UInt8)) {D : DiskS}, Easy D → (∀ p ∈ ws, p.1 < D.blocks.length ∧ p.2.length = 4096) → putAll D ws = ({ D with pending := D.pending ++ ws }, 0)
 | [], D, _, _ => by simp [putAll]
 | p :: ws, D, h, hp => by
  obtain ⟨h1, h2⟩ := hp p (List.mem_cons_self ..)
  have ha : askE D (p.1 : Int) = 0 := by
   unfold askE
   rw [if_neg (by omega)]
  have hw : writeE D (p.1 : Int) p.2.length = 0 := by
   unfold writeE
   rw [ha, if_neg (by decide), if_neg (by omega)]
   exact h.opC
  have hd : writeD D (p.1 : Int) p.2 = { D with pending := D.pending ++ [(p.1, p.2)] } := by
   unfold writeD
   rw [if_neg (by rw [ha, h2]; decide), if_neg (by rw [h.opC]; decide), h.opS, Int.toNat_natCast]
  unfold putAll
  rw [if_neg (by rw [hw]; decide), hd, putAll_easy ws (D := { D with pending := D.pending ++ [(p.1, p.2)] }) h (fun q hq => hp q (List.mem_cons_of_mem _ hq))]
  simp
set_option maxRecDepth 100000 in
theorem flu_easy {D : DiskS} {J : JnS} (h : Easy D) (hbr : J.br = false) (hw : J.waits.length ≠ 0) (hb : 0 < J.bl) (hf : J.fi + J.bl ≤ D.blocks.length) :
  fluE D J = 0 ∧ fluJ D J = { J with pl := (J.pl + needL J.waits.length) % J.bl, ct := J.ct + needL J.waits.length, us := J.us + needL J.waits.length, waits := [], sy := J.la } ∧ fluD D J = { D with blocks := carry D.blocks (D.pending ++ wsJ J), pending := [] } := by
 have hp := putAll_easy (wsJ J) h (wsL_ok hb hf)
 have he : flushE D (wsJ J) = 0 := by
  unfold flushE
  rw [hp, if_neg (show ¬ ((0 : Int) ≠ 0) from fun h => h rfl)]
  exact h.opC
 refine ⟨?_, ?_, ?_⟩
 ·unfold fluE
  rw [hbr, if_neg (by decide), if_neg hw]
  exact he
 ·unfold fluJ
  rw [if_neg (by rw [hbr]; simp [hw]), if_neg (by rw [he]; decide)]
 ·unfold fluD
  rw [if_neg (by rw [hbr]; simp [hw])]
  unfold flushD
  rw [hp, if_neg (show ¬ ((0 : Int) ≠ 0) from fun h => h rfl)]
  unfold syncD
  have h2 : Easy { D with pending := D.pending ++ wsJ J } := h
  rw [if_neg (by rw [h2.opC]; decide), h2.opS]
set_option maxRecDepth 100000 in
theorem joinE_nil {rs : List Rec} (h : (joinE rs).length = 0) : rs = [] := by
 have := joinE_ge rs
 exact List.eq_nil_of_length_eq_zero (by omega)
set_option maxRecDepth 100000 in
set_option maxRecDepth 100000 in
theorem Lg.cong {B B' : List (List UInt8)} {J : JnS} {pl0 ct0 : Nat} {fs : List (List Rec)} {cur : List Rec} (h : Lg B J pl0 ct0 fs cur) (hl : J.fi + J.bl ≤ B'.length) (hB : ∀ x, x < J.bl → B'.getD (J.fi + x) [] = B.getD (J.fi + x) []) : Lg B' J pl0 ct0 fs cur :=
 ⟨h.ji, h.br, h.wl, h.wr, hl, h.log.cong (fun k _ _ => hB _ (Nat.mod_lt _ h.bpos)), h.us, h.pl, h.ct, fun p hp c h1 h2 => by rw [hB p hp]; exact h.old p hp c h1 h2, h.ep⟩
structure LC (E : EnS) (P : PoS) (recs : List Rec) (U : Nat) : Prop where
 easy : Easy E.d
 ex : ∃ fs cur, Lg E.d.blocks E.j 0 1 fs cur ∧ fs.flatten ++ cur = recs ∧ E.j.sy = fs.flatten.length ∧ totL fs + flN cur ≤ U
 la : E.j.la = recs.length
 po : ∀ q ∈ E.d.pending, P.base ≤ q.1
 pl : E.d.pending.length ≤ P.count
section
variable {E : EnS} {P : PoS} {now : Nat → List UInt8} {recs : List Rec} {U : Nat}
set_option maxRecDepth 100000 in
theorem LC.br (h : LC E P recs U) : E.j.br = false := by
 obtain ⟨fs, cur, h1, _⟩ := h.ex
 exact h1.br
set_option maxRecDepth 100000 in
theorem LC.to (h : LC E P recs U) {P' : PoS} (hb : P'.base = P.base) (hc : P.count ≤ P'.count) : LC E P' recs U := ⟨h.easy, h.ex, h.la, by rw [hb]; exact h.po, Nat.le_trans h.pl hc⟩
set_option maxRecDepth 100000 in
set_option maxRecDepth 100000 in
theorem LC.flush (h : LC E P recs U) (ht : TI E P now) : fluE E.d E.j = 0 ∧ LC { E with d := fluD E.d E.j, j := fluJ E.d E.j } P recs U ∧ (fluJ E.d E.j).sy = recs.length := by
 obtain ⟨fs, cur, h1, h2, h3, h4⟩ := h.ex
 have hfb := ht.fb
 have hnb := ht.nb
 by_cases hw : E.j.waits.length = 0
 ·have hc : cur = [] := joinE_nil (by rw [← h1.wl]; exact hw)
  have e1 : fluE E.d E.j = 0 := by
   unfold fluE
   rw [h1.br, if_neg (by decide), if_pos hw]
  have e2 : fluD E.d E.j = E.d := by
   unfold fluD
   rw [if_pos (.inr hw)]
  have e3 : fluJ E.d E.j = E.j := by
   unfold fluJ
   rw [if_pos (.inr hw)]
  rw [e1, e2, e3]
  refine ⟨rfl, h, ?_⟩
  rw [h3, ← h2, hc, List.append_nil]
 ·obtain ⟨e1, e2, e3⟩ := flu_easy h.easy h1.br hw ht.b0 (by rw [hnb]; omega)
  have hc : cur ≠ [] := fun e => hw (by rw [h1.wl, e]; rfl)
  have h5 := h1.cong (B' := carry E.d.blocks E.d.pending) (by rw [carry_len, hnb]; omega) (fun x hx => carry_out (fun q hq => by have := h.po q hq; omega))
  have h6 := h5.flushed hc
  rw [← carry_app] at h6
  refine ⟨e1, ?_, by rw [e2]; exact h.la⟩
  rw [e2, e3]
  refine ⟨h.easy, ⟨fs ++ [cur], [], h6, ?_, ?_, ?_⟩, h.la, fun q hq => (by cases hq), Nat.zero_le _⟩
  ·rw [List.flatten_append, List.append_nil]
   simpa using h2
  ·show E.j.la = (fs ++ [cur]).flatten.length
   rw [h.la, ← h2, List.flatten_append]
   simp
  ·rw [totL_snoc]
   show totL fs + flN cur + needL (joinE []).length ≤ U
   have e : needL (joinE []).length = 0 := rfl
   omega
set_option maxRecDepth 100000 in
theorem LC.log (h : LC E P recs U) (ht : TI E P now) (n : Int) : logE E n = 0 ∧ LC (logD E n) P recs U ∧ (n ≤ recs.length → n ≤ (logD E n).j.sy) := by
 unfold logE logD
 by_cases hk : E.k = true ∧ n ≤ (E.j.sy : Int)
 ·rw [if_pos hk, if_pos hk]
  exact ⟨rfl, h, fun _ => hk.2⟩
 ·rw [if_neg hk, if_neg hk]
  obtain ⟨h1, h2, h3⟩ := h.flush ht
  refine ⟨h1, h2, fun hn => ?_⟩
  show n ≤ ((fluJ E.d E.j).sy : Int)
  rw [h3]
  exact hn
set_option maxRecDepth 100000 in
theorem LC.wr (h : LC E P recs U) {x : Nat} {m : List UInt8} (hx : x < E.d.blocks.length) (hm : m.length = 4096) (hb : P.base ≤ x) : writeE E.d (x : Int) 4096 = 0 ∧ LC (E.wr (x : Int) m) { P with count := P.count + 1 } recs U := by
 have ha : askE E.d (x : Int) = 0 := by
  unfold askE
  rw [if_neg (by omega)]
 have hw : writeE E.d (x : Int) 4096 = 0 := by
  unfold writeE
  rw [ha, if_neg (by decide), if_neg (by omega)]
  exact h.easy.opC
 have hd : writeD E.d (x : Int) m = { E.d with pending := E.d.pending ++ [(x, m)] } := by
  unfold writeD
  rw [if_neg (by rw [ha, hm]; decide), if_neg (by rw [h.easy.opC]; decide), h.easy.opS, Int.toNat_natCast]
 refine ⟨hw, ?_⟩
 unfold EnS.wr
 rw [hd]
 refine ⟨h.easy, h.ex, h.la, fun q hq => ?_, ?_⟩
 ·rcases List.mem_append.1 hq with hq | hq
  ·exact h.po q hq
  ·rw [List.mem_singleton.1 hq]
   exact hb
 ·show (E.d.pending ++ [(x, m)]).length ≤ P.count + 1
  rw [List.length_append, List.length_singleton]
  have := h.pl
  omega
set_option maxRecDepth 100000 in
theorem LC.write (h : LC E P recs U) (ht : TI E P now) {n : Nat} (hn : n < P.fr.length) : (writeR E P n).2.2 = 0 ∧ LC (writeR E P n).1 (writeR E P n).2.1 recs U ∧ (writeR E P n).2.1.count = P.count + 1 := by
 obtain ⟨h1, h2, _⟩ := h.log ht (P.fr.getD n fr0).lsn
 have hb := ht.blockP_ok hn
 have hp := ht.fpg hn
 obtain ⟨h3, h4⟩ := h2.wr (x := P.base + (P.fr.getD n fr0).page) (by rw [logD_blocks, ht.nb]; omega) hb (by omega)
 unfold writeR
 dsimp only
 rw [h1, if_neg (by decide), h3, if_neg (by decide)]
 exact ⟨rfl, h4.to rfl (Nat.le_refl _), rfl⟩
set_option maxRecDepth 100000 in
theorem LC.hold (h : LC E P recs U) (ht : TI E P now) (f : FrS) : (holdR E P f).2.2 = 0 ∧ LC (holdR E P f).1 (holdR E P f).2.1 recs U ∧ (holdR E P f).2.1.count ≤ P.count + 1 := by
 unfold holdR
 by_cases hr : P.fr.length < P.most
 ·rw [if_pos hr]
  exact ⟨rfl, h.to rfl (Nat.le_refl _), Nat.le_succ _⟩
 ·rw [if_neg hr]
  have hs := ht.spn
  have hh : (spun P).hand < (spun P).fr.length := by
   have h1 := hs.pi.hd
   have h2 := spun_len P
   have h3 : (spun P).most = P.most := rfl
   omega
  by_cases hdt : ((spun P).fr.getD (spun P).hand fr0).dirty = true
  ·rw [if_pos hdt]
   obtain ⟨h1, h2, h3⟩ := (h.to (P' := spun P) rfl (Nat.le_refl _)).write hs hh
   generalize writeR E (spun P) (spun P).hand = z at *
   obtain ⟨E', P', e⟩ := z
   dsimp only at *
   subst h1
   rw [if_neg (by decide)]
   exact ⟨rfl, h2.to rfl (Nat.le_refl _), Nat.le_of_eq h3⟩
  ·rw [if_neg hdt]
   exact ⟨rfl, h.to rfl (Nat.le_refl _), Nat.le_succ _⟩
set_option maxRecDepth 100000 in
set_option maxRecDepth 100000 in
theorem LC.get (h : LC E P recs U) (ht : TI E P now) {p : Nat} (hp : p < P.pages) : (getR E P (p : Int)).2.2 = 0 ∧ LC (getR E P (p : Int)).1 (getR E P (p : Int)).2.1 recs U ∧ (getR E P (p : Int)).2.1.count ≤ P.count + 1 := by
 have ha := ht.ask hp
 cases hi : findP P p with
 | some i =>
  have e : getR E P (p : Int) = (E, useP P i, 0) := by
   unfold getR
   rw [if_neg (by rw [ha]; decide), Int.toNat_natCast, hi]
  rw [e]
  exact ⟨rfl, h.to rfl (Nat.le_refl _), Nat.le_succ _⟩
 | none =>
  have hno := (findP_none P p).1 hi
  have hgd := ht.disk p hp (fun i hi2 hip => absurd (hip ▸ List.mem_map_of_mem (getD_mem hi2)) hno)
  have hr : readE E.d ((P.base + p : Nat) : Int) = 0 := by
   unfold readE
   rw [h.easy.1]
   unfold askE
   rw [if_neg (by rw [ht.nb]; omega)]
   rfl
  have e : getR E P (p : Int) = holdR E P ⟨p, openP (readL E.d ((P.base + p : Nat) : Int)), 0, false, true⟩ := by
   unfold getR
   rw [if_neg (by rw [ha]; decide), Int.toNat_natCast, hi]
   show (if readE E.d ((P.base + p : Nat) : Int) ≠ 0 then _ else if openE (readL E.d ((P.base + p : Nat) : Int)) ≠ 0 then _ else holdR E P ⟨p, openP (readL E.d ((P.base + p : Nat) : Int)), 0, false, true⟩) = _
   rw [if_neg (by rw [hr]; decide), if_neg (by rw [readE_in hr, hgd.1]; decide)]
  rw [e]
  exact h.hold ht _
end
end Go.Proofs.Ytnkeclpgpiogoaa

/-! DfF -/
namespace Go.Proofs.Ytnkeclpgpiogoaa
open Go.RowKit
end Go.Proofs.Ytnkeclpgpiogoaa

/-! DfG -/
namespace Go.Proofs.Ytnkeclpgpiogoaa
open Go.RowKit
end Go.Proofs.Ytnkeclpgpiogoaa

/-! PlainD -/
namespace Go.Proofs.Ytnkeclpgpiogoaa
end Go.Proofs.Ytnkeclpgpiogoaa

/-! PlE -/
namespace Go.Proofs.Ytnkeclpgpiogoaa
open Go.RowKit
structure XOk (n : Nat) (st : List (Nat × List UInt8)) : Prop where
 srt : SortS st
 ok : ∀ e ∈ st, e.1 < n ∧ e.2.length = 4080
 most : st.length ≤ 16
section
variable {im : List (Nat × Unit)} {now : Nat → List UInt8} {n : Nat}
end
def nowD (now : Nat → List UInt8) (st : List (Nat × List UInt8)) (p : Nat) : List UInt8 := (findS st p).getD (now p)
section
variable {E : EnS} {P : PoS} {now : Nat → List UInt8} {recs : List Rec} {U : Nat}
structure CI (E : EnS) (P : PoS) (now : Nat → List UInt8) (recs : List Rec) (U : Nat) : Prop where
 ti : TI E P now
 lc : LC E P recs U
set_option maxRecDepth 100000 in
theorem CI.get (h : CI E P now recs U) {p : Nat} (hp : p < P.pages) : (getR E P (p : Int)).2.2 = 0 ∧ getL E P (p : Int) = now p ∧ CI (getR E P (p : Int)).1 (getR E P (p : Int)).2.1 now recs U ∧ (getR E P (p : Int)).2.1.count ≤ P.count + 1 := by
 obtain ⟨h1, h2⟩ := h.ti.get hp
 obtain ⟨h3, h4, h5⟩ := h.lc.get h.ti hp
 exact ⟨h3, h2 h3, ⟨h1, h4⟩, h5⟩
end
end Go.Proofs.Ytnkeclpgpiogoaa

/-! PlF -/
namespace Go.Proofs.Ytnkeclpgpiogoaa
open Go.RowKit
def zP : List UInt8 := List.replicate 4080 0
def bitB (a : UInt8) (k : Nat) : Bool := a.toNat.testBit k
def hasB (m : List UInt8) (p : Nat) : Bool := bitB (m.getD (p / 8) 0) (p % 8)
def flipB (a : UInt8) (k : Nat) : UInt8 := a ^^^ UInt8.ofNat (2 ^ k)
def turnL (m : List UInt8) (p : Nat) : List UInt8 := m.set (p / 8) (flipB (m.getD (p / 8) 0) (p % 8))
set_option maxRecDepth 100000 in
theorem flip_bit (a : UInt8) {k j : Nat} (hk : k < 8) (_hj : j < 8) : bitB (flipB a k) j = if j = k then !bitB a k else bitB a j := by
 unfold bitB flipB
 have h : (UInt8.ofNat (2 ^ k)).toNat = 2 ^ k := by
  rw [UInt8.toNat_ofNat']
  exact Nat.mod_eq_of_lt (Nat.pow_lt_pow_right (by omega) hk)
 rw [UInt8.toNat_xor, Nat.testBit_xor, h, Nat.testBit_two_pow]
 by_cases e : j = k
 ·subst e
  simp
 ·rw [if_neg e, decide_eq_false (fun h => e h.symm)]
  simp
set_option maxRecDepth 100000 in
theorem turnL_len (m : List UInt8) (p : Nat) : (turnL m p).length = m.length := List.length_set ..
set_option maxRecDepth 100000 in
theorem has_turn {m : List UInt8} (hm : m.length = 4080) {p q : Nat} (hp : p < 32640) (_hq : q < 32640) : hasB (turnL m p) q = if q = p then !hasB m p else hasB m q := by
 unfold hasB turnL
 rw [getD_setQ]
 by_cases h : p / 8 = q / 8
 ·rw [if_pos ⟨h, by omega⟩, flip_bit _ (Nat.mod_lt _ (by omega)) (Nat.mod_lt _ (by omega)), ← h]
  by_cases e : q = p
  ·subst e
   rw [if_pos rfl, if_pos rfl]
  ·rw [if_neg e, if_neg (by omega)]
 ·rw [if_neg (fun e => h e.1), if_neg (fun e => h (by rw [e]))]
set_option maxRecDepth 100000 in
theorem has_zero {p : Nat} : hasB zP p = false := by
 have h : ∀ i : Nat, zP.getD i 0 = 0 := fun i => by
  unfold zP
  rw [List.getD_eq_getElem?_getD, List.getElem?_replicate]
  split <;> rfl
 unfold hasB bitB
 rw [h]
 show (0 : Nat).testBit _ = false
 exact Nat.zero_testBit _
structure MapI (m : List UInt8) (n : Nat) (tk : Nat → Bool) : Prop where
 len : m.length = 4080
 all : ∀ p, p < n → hasB m p = tk p
 out : ∀ p, n ≤ p → p < 32640 → hasB m p = false
 own : tk 0 = true
def updB (tk : Nat → Bool) (p : Nat) (b : Bool) (x : Nat) : Bool := if x = p then b else tk x
set_option maxRecDepth 100000 in
theorem MapI.turn {m : List UInt8} {n : Nat} {tk : Nat → Bool} (h : MapI m n tk) {p : Nat} (hp : p < n) (hn : n ≤ 32640) (h0 : p ≠ 0) : MapI (turnL m p) n (updB tk p (!tk p)) := by
 refine ⟨by rw [turnL_len]; exact h.len, fun q hq => ?_, fun q hq1 hq2 => ?_, ?_⟩
 ·rw [has_turn h.len (by omega) (by omega)]
  unfold updB
  split
  ·rw [h.all p hp]
  ·exact h.all q hq
 ·rw [has_turn h.len (by omega) hq2, if_neg (by omega)]
  exact h.out q hq1 hq2
 ·unfold updB
  rw [if_neg (fun e => h0 e.symm)]
  exact h.own
set_option maxRecDepth 100000 in
theorem MapI.new {n : Nat} (hn : 1 ≤ n) : MapI (turnL zP 0) n (fun p => decide (p = 0)) := by
 have hl : zP.length = 4080 := List.length_replicate ..
 refine ⟨by rw [turnL_len]; exact hl, fun p hp => ?_, fun p h1 h2 => ?_, rfl⟩
 ·by_cases h : p < 32640
  ·rw [has_turn hl (by omega) h, has_zero, has_zero]
   by_cases e : p = 0
   ·rw [if_pos e, e]; rfl
   ·rw [if_neg e, decide_eq_false e]
  ·have : (turnL zP 0).getD (p / 8) 0 = 0 := by
    rw [List.getD_eq_getElem?_getD, List.getElem?_eq_none (by rw [turnL_len, hl]; omega)]
    rfl
   unfold hasB
   rw [this, decide_eq_false (by omega)]
   exact Nat.zero_testBit _
 ·rw [has_turn hl (by omega) h2, has_zero, if_neg (by omega), has_zero]
def isMap (m : List UInt8) (n : Nat) : Bool := hasB m 0 && (List.range 32640).all fun p => decide (p < n) || !hasB m p
set_option maxRecDepth 100000 in
theorem MapI.is {m : List UInt8} {n : Nat} {tk : Nat → Bool} (h : MapI m n tk) (hn : 1 ≤ n) : isMap m n = true := by
 unfold isMap
 rw [h.all 0 (by omega), h.own, Bool.true_and, List.all_eq_true]
 intro p hp
 by_cases e : p < n
 ·rw [decide_eq_true e]; rfl
 ·rw [h.out p (by omega) (List.mem_range.1 hp)]
  simp
def freeL (m : List UInt8) : Nat → Nat → Nat
 | 0, _ => 0
 | k + 1, p => if hasB m p = false then p else freeL m k (p + 1)
set_option maxRecDepth 100000 in
theorem freeL_is {m : List UInt8} {n : Nat} {tk : Nat → Bool} (h : MapI m n tk) : ∀ k p, p + k = n → (freeL m k p = 0 ∧ (p = 0 → n ≠ 0 → True) ∧ ∀ q, p ≤ q → q < n → tk q = true) ∨ (p ≤ freeL m k p ∧ freeL m k p < n ∧ tk (freeL m k p) = false)
 | 0, p, hp => .inl ⟨rfl, fun _ _ => trivial, fun q h1 h2 => by omega⟩
 | k + 1, p, hp => by
  unfold freeL
  by_cases e : hasB m p = false
  ·rw [if_pos e]
   refine .inr ⟨Nat.le_refl _, by omega, ?_⟩
   rw [← h.all p (by omega)]
   exact e
  ·rw [if_neg e]
   rcases freeL_is h k (p + 1) (by omega) with ⟨h1, _, h3⟩ | ⟨h1, h2, h3⟩
   ·refine .inl ⟨h1, fun _ _ => trivial, fun q hq1 hq2 => ?_⟩
    by_cases e2 : q = p
    ·subst e2
     rw [← h.all q hq2]
     simpa using e
    ·exact h3 q (by omega) hq2
   ·exact .inr ⟨by omega, h2, h3⟩
/-! The calls, upon what an atom sees. -/
structure SRes where
 D : EnS
 P : PoS
 X : AxS
 n : Int
 e : Int
def pmE (D : EnS) (P : PoS) (A : AtS) (X : AxS) : Int := if (agetR D P A X 0).2.2 ≠ 0 then (agetR D P A X 0).2.2 else if isMap (agetL D P A X 0) P.pages then 0 else 170
def takeR (D : EnS) (P : PoS) (A : AtS) (X : AxS) : SRes :=
 let g := agetR D P A X 0
 let m := agetL D P A X 0
 let f := freeL m P.pages 0
 if pmE D P A X ≠ 0 then ⟨g.1, g.2.1, X, 0, pmE D P A X⟩
 else if f = 0 then ⟨g.1, g.2.1, X, 0, 5⟩
 else if asetE g.2.1 A X (f : Int) 4080 ≠ 0 then ⟨g.1, g.2.1, X, 0, asetE g.2.1 A X (f : Int) 4080⟩
 else
  let X1 := asetX g.2.1 A X (f : Int) zP
  if asetE g.2.1 A X1 0 4080 ≠ 0 then ⟨g.1, g.2.1, X1, 0, asetE g.2.1 A X1 0 4080⟩
  else ⟨g.1, g.2.1, asetX g.2.1 A X1 0 (turnL m f), f, 0⟩
def giveR (D : EnS) (P : PoS) (A : AtS) (X : AxS) (page : Int) : SRes :=
 let g := agetR D P A X 0
 let m := agetL D P A X 0
 if pmE D P A X ≠ 0 then ⟨g.1, g.2.1, X, 0, pmE D P A X⟩
 else if page < 1 ∨ (P.pages : Int) ≤ page ∨ hasB m page.toNat = false then ⟨g.1, g.2.1, X, 0, 2⟩
 else ⟨g.1, g.2.1, asetX g.2.1 A X 0 (turnL m page.toNat), 0, asetE g.2.1 A X 0 4080⟩
def allL (m : List UInt8) (n : Nat) : List Nat := (List.range n).filter fun p => hasB m p
end Go.Proofs.Ytnkeclpgpiogoaa

/-! PlG -/
namespace Go.Proofs.Ytnkeclpgpiogoaa
open Go.RowKit
section
variable {E : EnS} {P : PoS} {now : Nat → List UInt8} {recs : List Rec} {U : Nat} {A : AtS} {X : AxS}
set_option maxRecDepth 100000 in
theorem stE_ok (ho : X.ov = false) (hb : A.br = false) : stE A X = 0 := by
 unfold stE
 rw [ho, hb]
 rfl
set_option maxRecDepth 100000 in
theorem CI.aget (h : CI E P now recs U) (ho : X.ov = false) (hb : A.br = false) {p : Nat} (hp : p < P.pages) :
  (agetR E P A X (p : Int)).2.2 = 0 ∧ agetL E P A X (p : Int) = nowD now X.st p ∧ CI (agetR E P A X (p : Int)).1 (agetR E P A X (p : Int)).2.1 now recs U ∧ (agetR E P A X (p : Int)).2.1.count ≤ P.count + 1 ∧ (agetR E P A X (p : Int)).2.1.pages = P.pages := by
 have hs := stE_ok ho hb
 unfold agetR agetL nowD
 rw [hs, if_neg (show ¬ ((0 : Int) ≠ 0) from fun h => h rfl), if_neg (show ¬ ((0 : Int) ≠ 0) from fun h => h rfl), Int.toNat_natCast]
 cases hf : findS X.st p with
 | some m =>
  rw [if_pos ⟨Int.natCast_nonneg _, rfl⟩, if_pos ⟨Int.natCast_nonneg _, rfl⟩]
  exact ⟨rfl, rfl, h, Nat.le_succ _, rfl⟩
 | none =>
  rw [if_neg (by simp), if_neg (by simp)]
  obtain ⟨h1, h2, h3, h4⟩ := h.get hp
  exact ⟨h1, h2, h3, h4, (getR_pages E P (p : Int)).1⟩
set_option maxRecDepth 100000 in
theorem nowD_ins {p : Nat} {m : List UInt8} {st : List (Nat × List UInt8)} : nowD now (insS p m st) = updN (nowD now st) p m := by
 funext x
 unfold nowD updN
 rw [find_insS]
 split <;> rfl
set_option maxRecDepth 100000 in
theorem XOk.new (n : Nat) : XOk n newX.st := ⟨List.Pairwise.nil, fun e he => (by cases he), Nat.zero_le _⟩
set_option maxRecDepth 100000 in
theorem XOk.ins {n p : Nat} {m : List UInt8} {st : List (Nat × List UInt8)} (h : XOk n st) (hp : p < n) (hm : m.length = 4080) (hl : st.length < 16 ∨ findS st p ≠ none) : XOk n (insS p m st) := by
 refine ⟨sort_insS p m h.srt, fun e he => ?_, ?_⟩
 ·rcases mem_insS2 he with rfl | he
  ·exact ⟨hp, hm⟩
  ·exact h.ok e he
 ·rw [len_insS p m h.srt]
  have := h.most
  split
  ·exact this
  ·rename_i hf
   rcases hl with hl | hl
   ·omega
   ·exact absurd (Option.isSome_iff_ne_none.2 hl) hf
set_option maxRecDepth 100000 in
theorem ins_len {n p : Nat} {m : List UInt8} {st : List (Nat × List UInt8)} (h : XOk n st) : (insS p m st).length ≤ st.length + 1 := by
 rw [len_insS p m h.srt]
 split <;> omega
set_option maxRecDepth 100000 in
theorem aset_ok (ho : X.ov = false) (hb : A.br = false) {p : Nat} (hp : p < P.pages) {l : List UInt8} (hl : l.length = 4080) (hm : X.st.length < 16 ∨ findS X.st p ≠ none) : asetE P A X (p : Int) l.length = 0 ∧ asetX P A X (p : Int) l = { X with st := insS p l X.st } := by
 have e : asetE P A X (p : Int) l.length = 0 := by
  unfold asetE
  rw [stE_ok ho hb, if_neg (by decide), if_neg (by omega), if_neg (by rw [Int.toNat_natCast]; rintro ⟨h1, h2⟩; rcases hm with hm | hm; omega; exact hm h1)]
 refine ⟨e, ?_⟩
 unfold asetX
 rw [if_neg (by rw [e]; decide), Int.toNat_natCast]
set_option maxRecDepth 100000 in
set_option maxRecDepth 100000 in
theorem CI.take (h : CI E P now recs U) (ho : X.ov = false) (hb : A.br = false) (hx : XOk P.pages X.st) (hl : X.st.length + 2 ≤ 16) {tk : Nat → Bool} (hM : MapI (nowD now X.st 0) P.pages tk) (hn : 1 ≤ P.pages) :
  ∃ E' P', CI E' P' now recs U ∧ P'.pages = P.pages ∧ P'.count ≤ P.count + 1 ∧
   (((∀ q, q < P.pages → tk q = true) ∧ takeR E P A X = ⟨E', P', X, 0, 5⟩) ∨
    ∃ f, 1 ≤ f ∧ f < P.pages ∧ tk f = false ∧ f = freeL (nowD now X.st 0) P.pages 0 ∧ takeR E P A X = ⟨E', P', { X with st := insS 0 (turnL (nowD now X.st 0) f) (insS f zP X.st) }, (f : Int), 0⟩) := by
 obtain ⟨g1, g2, g3, g4, g5⟩ := h.aget (X := X) ho hb (show 0 < P.pages by omega)
 have hpp : P.pages ≤ 4096 := by have := h.ti.pi.fit; have := h.ti.pi.d2; omega
 have e0 : ((0 : Nat) : Int) = 0 := rfl
 rw [e0] at g1 g2 g3 g4 g5
 have hpm : pmE E P A X = 0 := by
  unfold pmE
  rw [g1, if_neg (by decide), g2, hM.is hn, if_pos rfl]
 refine ⟨_, _, g3, g5, g4, ?_⟩
 unfold takeR
 dsimp only
 rw [hpm, if_neg (by decide), g2]
 have hzl : zP.length = 4080 := List.length_replicate ..
 rcases freeL_is hM P.pages 0 (by omega) with ⟨f1, _, f3⟩ | ⟨_, f2, f3⟩
 ·rw [f1, if_pos rfl]
  exact .inl ⟨fun q hq => f3 q (Nat.zero_le _) hq, rfl⟩
 ·have hf0 : freeL (nowD now X.st 0) P.pages 0 ≠ 0 := fun e => by
   rw [e, hM.own] at f3
   cases f3
  obtain ⟨f, hfe⟩ : ∃ f, f = freeL (nowD now X.st 0) P.pages 0 := ⟨_, rfl⟩
  simp only [← hfe] at *
  obtain ⟨s1, s2⟩ := aset_ok (P := (agetR E P A X 0).2.1) (A := A) (X := X) ho hb (p := f) (by rw [g5]; exact f2) hzl (.inl (by omega))
  rw [hzl] at s1
  have hx1 := hx.ins (m := zP) f2 hzl (.inl (by omega))
  have hl1 := ins_len (p := f) (m := zP) hx
  obtain ⟨t1, t2⟩ := aset_ok (P := (agetR E P A X 0).2.1) (A := A) (X := { X with st := insS f zP X.st }) ho hb (p := 0) (by rw [g5]; omega) (l := turnL (nowD now X.st 0) f) (by rw [turnL_len]; exact hM.len) (.inl (by show (insS f zP X.st).length < 16; omega))
  rw [turnL_len, hM.len] at t1
  rw [e0] at t1 t2
  rw [if_neg hf0, s1, if_neg (by decide), s2, t1, if_neg (by decide), t2]
  exact .inr ⟨f, by omega, f2, f3, rfl, rfl⟩
set_option maxRecDepth 100000 in
theorem CI.give (h : CI E P now recs U) (ho : X.ov = false) (hb : A.br = false) (hl : X.st.length + 1 ≤ 16) {tk : Nat → Bool} (hM : MapI (nowD now X.st 0) P.pages tk) (hn : 1 ≤ P.pages) (page : Int) :
  ∃ E' P', CI E' P' now recs U ∧ P'.pages = P.pages ∧ P'.count ≤ P.count + 1 ∧
   ((∃ p : Nat, page = p ∧ 1 ≤ p ∧ p < P.pages ∧ tk p = true ∧ giveR E P A X page = ⟨E', P', { X with st := insS 0 (turnL (nowD now X.st 0) p) X.st }, 0, 0⟩) ∨
    (¬ (1 ≤ page ∧ page < P.pages ∧ tk page.toNat = true) ∧ giveR E P A X page = ⟨E', P', X, 0, 2⟩)) := by
 obtain ⟨g1, g2, g3, g4, g5⟩ := h.aget (X := X) ho hb (show 0 < P.pages by omega)
 have hpp : P.pages ≤ 4096 := by have := h.ti.pi.fit; have := h.ti.pi.d2; omega
 have e0 : ((0 : Nat) : Int) = 0 := rfl
 rw [e0] at g1 g2 g3 g4 g5
 have hpm : pmE E P A X = 0 := by
  unfold pmE
  rw [g1, if_neg (by decide), g2, hM.is hn, if_pos rfl]
 refine ⟨_, _, g3, g5, g4, ?_⟩
 unfold giveR
 dsimp only
 rw [hpm, if_neg (by decide), g2]
 by_cases hc : page < 1 ∨ (P.pages : Int) ≤ page ∨ hasB (nowD now X.st 0) page.toNat = false
 ·rw [if_pos hc]
  refine .inr ⟨fun ⟨c1, c2, c3⟩ => ?_, rfl⟩
  rcases hc with hc | hc | hc
  ·omega
  ·omega
  ·rw [hM.all _ (by omega), c3] at hc
   cases hc
 ·rw [if_neg hc]
  obtain ⟨p, rfl⟩ := Int.eq_ofNat_of_zero_le (show 0 ≤ page by omega)
  rw [Int.toNat_natCast] at hc ⊢
  have hp1 : 1 ≤ p := by omega
  have hp2 : p < P.pages := by omega
  have hp3 : tk p = true := by
   rw [← hM.all p hp2]
   have := (not_or.1 (not_or.1 hc).2).2
   simpa using this
  obtain ⟨t1, t2⟩ := aset_ok (P := (agetR E P A X 0).2.1) (A := A) (X := X) ho hb (p := 0) (by rw [g5]; omega) (l := turnL (nowD now X.st 0) p) (by rw [turnL_len]; exact hM.len) (.inl (by omega))
  rw [turnL_len, hM.len, e0] at t1
  rw [e0] at t2
  rw [t1, t2]
  exact .inl ⟨p, rfl, hp1, hp2, hp3, rfl⟩
end
set_option maxRecDepth 100000 in
theorem mayB_new {ring n : Nat} (h1 : 1 ≤ ring) (h2 : ring ≤ 1024) : mayB ((ring + n : Nat) : Int) (0 : Nat) (ring : Nat) (1 : Nat) (0 : Nat) (1 : Nat) = true := by
 unfold mayB
 simp only [Bool.and_eq_true, decide_eq_true_eq]
 omega
set_option maxRecDepth 100000 in
theorem mayP_new {ring n frames : Nat} (h1 : 1 ≤ n) (h2 : 2 ≤ frames) (h3 : frames ≤ 256) : mayP (ring + n) (ring : Nat) (n : Nat) (frames : Nat) (1 : Nat) (0 : Nat) = true := by
 unfold mayP
 simp only [Bool.and_eq_true, decide_eq_true_eq]
 omega
set_option maxRecDepth 100000 in
theorem open_zer : openE zer = 0 ∧ openP zer = zP := by
 have h : zer = List.replicate 8 0 ++ zP ++ List.replicate 8 0 := by
  unfold zer zP
  rw [List.replicate_append_replicate, List.replicate_append_replicate]
 have := open_seal (List.replicate 8 0) zP (List.length_replicate ..) (List.length_replicate ..)
 rw [← h] at this
 exact ⟨this.2.2, this.1⟩
set_option maxRecDepth 100000 in
set_option maxRecDepth 100000 in
theorem CI.new {ring n frames gj gb : Nat} {k : Bool} (h1 : 1 ≤ ring) (h2 : ring ≤ 1024) (h4 : ring + n ≤ 4096) (h5 : 2 ≤ frames) (h6 : frames ≤ 256) : CI ⟨newD (ring + n), newJ 0 ring 1 0 1, gj, gb, k⟩ (newP ring n frames 1 0) (fun _ => zP) [] 0 := by
 have hl : (List.replicate (ring + n) zer).length = ring + n := List.length_replicate ..
 have hlg := (Lg.new (n := ring + n) h4 (mayB_new (n := n) h1 h2)).1
 refine ⟨⟨⟨?_, ?_, h5, h6, by show 1 ≤ 4294967295; omega, Nat.zero_le _, by show 0 < frames; omega, fun f hf => (by cases hf), List.nodup_nil⟩, hl, ?_, h1, fun p _ => List.length_replicate .., fun i hi => absurd hi (Nat.not_lt_zero _), fun p hp _ => ?_⟩, ⟨⟨rfl, rfl, rfl⟩, ⟨[], [], hlg, rfl, rfl, Nat.le_refl _⟩, rfl, fun q hq => (by cases hq), Nat.zero_le _⟩⟩
 ·show ring + n ≤ (List.replicate (ring + n) zer).length
  rw [hl]
  exact Nat.le_refl _
 ·show (List.replicate (ring + n) zer).length ≤ 4096
  rw [hl]
  exact h4
 ·show 0 + ring ≤ ring
  omega
 ·have hp' : p < n := hp
  have e : visL (newD (ring + n)) (ring + p) = zer := by
   show (List.replicate (ring + n) zer).getD (ring + p) [] = zer
   rw [List.getD_eq_getElem?_getD, List.getElem?_replicate, if_pos (by omega)]
   rfl
  have h : GoodV (newD (ring + n)) (ring + p) zP := by
   unfold GoodV
   rw [e]
   exact open_zer
  exact h
end Go.Proofs.Ytnkeclpgpiogoaa

/-! AtI -/
namespace Go.Proofs.Ytnkeclpgpiogoaa
open Go Go.RowKit Go.Maps
set_option maxRecDepth 100000 in
theorem and_bits : ∀ (n : Fin 256) (k : Fin 8), (bits BinOp.and IntKind.u8 (n.val : Int) ((2 ^ k.val : Nat) : Int) != 0) = n.val.testBit k.val := by decide +kernel
set_option maxRecDepth 100000 in
theorem xor_bits : ∀ (n : Fin 256) (k : Fin 8), bits BinOp.xor IntKind.u8 (n.val : Int) ((2 ^ k.val : Nat) : Int) = ((UInt8.ofNat n.val ^^^ UInt8.ofNat (2 ^ k.val)).toNat : Int) := by decide +kernel
set_option maxRecDepth 100000 in
theorem and_byte (a : UInt8) (k : Nat) (hk : k < 8) : (bits BinOp.and IntKind.u8 (a.toNat : Int) ((2 ^ k : Nat) : Int) != 0) = a.toNat.testBit k := and_bits ⟨a.toNat, a.toNat_lt⟩ ⟨k, hk⟩
set_option maxRecDepth 100000 in
theorem xor_byte (a : UInt8) (k : Nat) (hk : k < 8) : bits BinOp.xor IntKind.u8 (a.toNat : Int) ((2 ^ k : Nat) : Int) = ((flipB a k).toNat : Int) := by
 have h := xor_bits ⟨a.toNat, a.toNat_lt⟩ ⟨k, hk⟩
 dsimp only at h
 rw [UInt8.ofNat_toNat] at h
 exact h
set_option maxRecDepth 100000 in
set_option maxHeartbeats 1000000 in
theorem has_any (B : Option Addr) (c : Nat) (m : List UInt8) (p : Nat) (w : World) (hb : BR w B 4080 m) (hp : p < 32640) :
  Calls Try.prog 25 #[.slice B 4080 c, .int .i64 (p : Int)] w fun e w' => e = .returned (.bool (hasB m p)) ∧ ∃ n, w' = w.drewN n := by
 obtain ⟨ad, rfl, hc⟩ := hb.2 (by omega)
 obtain ⟨g, o, f⟩ := ad
 have hl : m.length = 4080 := by have := hb.1; simpa using this
 obtain ⟨j, hj⟩ : ∃ j, j = p / 8 := ⟨_, rfl⟩
 obtain ⟨r, hr⟩ : ∃ r, r = p % 8 := ⟨_, rfl⟩
 have h1 : j < 4080 := by omega
 obtain ⟨a, ha⟩ : ∃ a, a = m.getD j 0 := ⟨_, rfl⟩
 have hcell : w.cell? (({ block := g, off := o, spot := f } : Addr).add j) = some (.int .u8 (a.toNat : Int)) := hc j (bv a) (by
  rw [ha, List.getElem?_map, List.getElem?_eq_getElem (by omega), List.getD_eq_getElem?_getD, List.getElem?_eq_getElem (by omega)]; rfl)
 have q0 : (0 : Int) ≤ (p : Int) := Int.natCast_nonneg _
 have q1 : IntKind.i64.wrap ((p : Int) / 8) = (j : Int) := by
  rw [IntWalk.i64_in _ (by omega)]; omega
 have q3 : (p : Int).tmod 8 = (r : Int) := by
  rw [Int.tmod_eq_emod_of_nonneg q0]; omega
 have i0 : (0 : Int) ≤ (j : Int) := Int.natCast_nonneg _
 have i1 : (j : Int) < 4080 := by omega
 have i2 : (j : Int).toNat = j := Int.toNat_natCast _
 have hgoal : hasB m p = a.toNat.testBit r := by unfold hasB bitB; rw [← hj, ← hr, ← ha]
 have r1 : r < 8 := by omega
 rw [hgoal]
 clear hgoal ha hp hr hj h1 hl hc
 rcases (by omega : r = 0 ∨ r = 1 ∨ r = 2 ∨ r = 3 ∨ r = 4 ∨ r = 5 ∨ r = 6 ∨ r = 7) with rfl | rfl | rfl | rfl | rfl | rfl | rfl | rfl
 ·have q4 : (p : Int).tmod 8 = 0 := q3
  clear q3
  go_enter Try.func25, Try.ntmps25
  go_wp2_with fail
  go_quiet (fail)
  go_wp2_with fail
  have e : (bits BinOp.and IntKind.u8 (a.toNat : Int) 1 != 0) = a.toNat.testBit 0 := and_byte a 0 r1
  go_ret
  exact ⟨by rw [e]; rfl, nq, rfl⟩
 ·have q4 : (p : Int).tmod 8 = 1 := q3
  clear q3
  go_enter Try.func25, Try.ntmps25
  go_wp2_with fail
  go_quiet (fail)
  go_wp2_with fail
  have e : (bits BinOp.and IntKind.u8 (a.toNat : Int) 2 != 0) = a.toNat.testBit 1 := and_byte a 1 r1
  go_ret
  exact ⟨by rw [e]; rfl, nq, rfl⟩
 ·have q4 : (p : Int).tmod 8 = 2 := q3
  clear q3
  go_enter Try.func25, Try.ntmps25
  go_wp2_with fail
  go_quiet (fail)
  go_wp2_with fail
  have e : (bits BinOp.and IntKind.u8 (a.toNat : Int) 4 != 0) = a.toNat.testBit 2 := and_byte a 2 r1
  go_ret
  exact ⟨by rw [e]; rfl, nq, rfl⟩
 ·have q4 : (p : Int).tmod 8 = 3 := q3
  clear q3
  go_enter Try.func25, Try.ntmps25
  go_wp2_with fail
  go_quiet (fail)
  go_wp2_with fail
  have e : (bits BinOp.and IntKind.u8 (a.toNat : Int) 8 != 0) = a.toNat.testBit 3 := and_byte a 3 r1
  go_ret
  exact ⟨by rw [e]; rfl, nq, rfl⟩
 ·have q4 : (p : Int).tmod 8 = 4 := q3
  clear q3
  go_enter Try.func25, Try.ntmps25
  go_wp2_with fail
  go_quiet (fail)
  go_wp2_with fail
  have e : (bits BinOp.and IntKind.u8 (a.toNat : Int) 16 != 0) = a.toNat.testBit 4 := and_byte a 4 r1
  go_ret
  exact ⟨by rw [e]; rfl, nq, rfl⟩
 ·have q4 : (p : Int).tmod 8 = 5 := q3
  clear q3
  go_enter Try.func25, Try.ntmps25
  go_wp2_with fail
  go_quiet (fail)
  go_wp2_with fail
  have e : (bits BinOp.and IntKind.u8 (a.toNat : Int) 32 != 0) = a.toNat.testBit 5 := and_byte a 5 r1
  go_ret
  exact ⟨by rw [e]; rfl, nq, rfl⟩
 ·have q4 : (p : Int).tmod 8 = 6 := q3
  clear q3
  go_enter Try.func25, Try.ntmps25
  go_wp2_with fail
  go_quiet (fail)
  go_wp2_with fail
  have e : (bits BinOp.and IntKind.u8 (a.toNat : Int) 64 != 0) = a.toNat.testBit 6 := and_byte a 6 r1
  go_ret
  exact ⟨by rw [e]; rfl, nq, rfl⟩
 ·have q4 : (p : Int).tmod 8 = 7 := q3
  clear q3
  go_enter Try.func25, Try.ntmps25
  go_wp2_with fail
  go_quiet (fail)
  go_wp2_with fail
  have e : (bits BinOp.and IntKind.u8 (a.toNat : Int) 128 != 0) = a.toNat.testBit 7 := and_byte a 7 r1
  go_ret
  exact ⟨by rw [e]; rfl, nq, rfl⟩
set_option maxRecDepth 100000 in
set_option maxHeartbeats 1000000 in
theorem turn_any (g base c : Nat) (m : List UInt8) (p : Nat) (w : World) (ho : OB w base (.slice (some ⟨g, 0, none⟩) 4080 c) m) (hl : m.length = 4080) (hp : p < 32640) :
  Calls Try.prog 24 #[.slice (some ⟨g, 0, none⟩) 4080 c, .int .i64 (p : Int)] w fun e w' => e = .returned (.tuple #[]) ∧ OB w' base (.slice (some ⟨g, 0, none⟩) 4080 c) (turnL m p) ∧ Off (fun k => k = g) w w' := by
 obtain ⟨j, hj⟩ : ∃ j, j = p / 8 := ⟨_, rfl⟩
 obtain ⟨r, hr⟩ : ∃ r, r = p % 8 := ⟨_, rfl⟩
 have h1 : j < 4080 := by omega
 obtain ⟨a, ha⟩ : ∃ a, a = m.getD j 0 := ⟨_, rfl⟩
 have hcell : w.cell? ⟨g, j, none⟩ = some (.int .u8 (a.toNat : Int)) := by rw [ha]; exact OB.cell ho hl h1
 have q0 : (0 : Int) ≤ (p : Int) := Int.natCast_nonneg _
 have q1 : IntKind.i64.wrap ((p : Int) / 8) = (j : Int) := by
  rw [IntWalk.i64_in _ (by omega)]; omega
 have q3 : (p : Int).tmod 8 = (r : Int) := by
  rw [Int.tmod_eq_emod_of_nonneg q0]; omega
 have i0 : (0 : Int) ≤ (j : Int) := Int.natCast_nonneg _
 have i1 : (j : Int) < 4080 := by omega
 have i2 : (j : Int).toNat = j := Int.toNat_natCast _
 have r1 : r < 8 := by omega
 have e1 : turnL m p = m.set j (flipB a r) := by unfold turnL; rw [← hj, ← hr, ← ha]
 rw [e1]
 clear e1 ha hp hr hj
 have HO := Lib.hid (fun v hv => OB.setInt ho hl j (flipB a r) h1 v hv)
 have hfz := OB.frozen ho hl j
 clear ho hl h1
 rcases (by omega : r = 0 ∨ r = 1 ∨ r = 2 ∨ r = 3 ∨ r = 4 ∨ r = 5 ∨ r = 6 ∨ r = 7) with rfl | rfl | rfl | rfl | rfl | rfl | rfl | rfl
 ·have q4 : (p : Int).tmod 8 = 0 := q3
  clear q3
  have e : bits BinOp.xor IntKind.u8 (a.toNat : Int) 1 = ((flipB a 0).toNat : Int) := xor_byte a 0 r1
  go_enter Try.func24, Try.ntmps24
  go_wp2_with fail
  go_region
  go_end0
  exact ⟨rfl, HO.out _ rfl, ((Off.refl (fun k => k = g) w).setCell (S := fun k => k = g) _ rfl).drew⟩
 ·have q4 : (p : Int).tmod 8 = 1 := q3
  clear q3
  have e : bits BinOp.xor IntKind.u8 (a.toNat : Int) 2 = ((flipB a 1).toNat : Int) := xor_byte a 1 r1
  go_enter Try.func24, Try.ntmps24
  go_wp2_with fail
  go_region
  go_end0
  exact ⟨rfl, HO.out _ rfl, ((Off.refl (fun k => k = g) w).setCell (S := fun k => k = g) _ rfl).drew⟩
 ·have q4 : (p : Int).tmod 8 = 2 := q3
  clear q3
  have e : bits BinOp.xor IntKind.u8 (a.toNat : Int) 4 = ((flipB a 2).toNat : Int) := xor_byte a 2 r1
  go_enter Try.func24, Try.ntmps24
  go_wp2_with fail
  go_region
  go_end0
  exact ⟨rfl, HO.out _ rfl, ((Off.refl (fun k => k = g) w).setCell (S := fun k => k = g) _ rfl).drew⟩
 ·have q4 : (p : Int).tmod 8 = 3 := q3
  clear q3
  have e : bits BinOp.xor IntKind.u8 (a.toNat : Int) 8 = ((flipB a 3).toNat : Int) := xor_byte a 3 r1
  go_enter Try.func24, Try.ntmps24
  go_wp2_with fail
  go_region
  go_end0
  exact ⟨rfl, HO.out _ rfl, ((Off.refl (fun k => k = g) w).setCell (S := fun k => k = g) _ rfl).drew⟩
 ·have q4 : (p : Int).tmod 8 = 4 := q3
  clear q3
  have e : bits BinOp.xor IntKind.u8 (a.toNat : Int) 16 = ((flipB a 4).toNat : Int) := xor_byte a 4 r1
  go_enter Try.func24, Try.ntmps24
  go_wp2_with fail
  go_region
  go_end0
  exact ⟨rfl, HO.out _ rfl, ((Off.refl (fun k => k = g) w).setCell (S := fun k => k = g) _ rfl).drew⟩
 ·have q4 : (p : Int).tmod 8 = 5 := q3
  clear q3
  have e : bits BinOp.xor IntKind.u8 (a.toNat : Int) 32 = ((flipB a 5).toNat : Int) := xor_byte a 5 r1
  go_enter Try.func24, Try.ntmps24
  go_wp2_with fail
  go_region
  go_end0
  exact ⟨rfl, HO.out _ rfl, ((Off.refl (fun k => k = g) w).setCell (S := fun k => k = g) _ rfl).drew⟩
 ·have q4 : (p : Int).tmod 8 = 6 := q3
  clear q3
  have e : bits BinOp.xor IntKind.u8 (a.toNat : Int) 64 = ((flipB a 6).toNat : Int) := xor_byte a 6 r1
  go_enter Try.func24, Try.ntmps24
  go_wp2_with fail
  go_region
  go_end0
  exact ⟨rfl, HO.out _ rfl, ((Off.refl (fun k => k = g) w).setCell (S := fun k => k = g) _ rfl).drew⟩
 ·have q4 : (p : Int).tmod 8 = 7 := q3
  clear q3
  have e : bits BinOp.xor IntKind.u8 (a.toNat : Int) 128 = ((flipB a 7).toNat : Int) := xor_byte a 7 r1
  go_enter Try.func24, Try.ntmps24
  go_wp2_with fail
  go_region
  go_end0
  exact ⟨rfl, HO.out _ rfl, ((Off.refl (fun k => k = g) w).setCell (S := fun k => k = g) _ rfl).drew⟩
end Go.Proofs.Ytnkeclpgpiogoaa

/-! AtK -/
namespace Go.Proofs.Ytnkeclpgpiogoaa
open Go Go.RowKit Go.Maps
def Keep (w : World) (T : Nat → Prop) (P : World → Prop) : Prop := ∀ w' : World, (∀ k, k < w.heap.size → ¬ T k → w'.heap[k]? = w.heap[k]?) → P w'
section
variable {w w' : World} {T T' : Nat → Prop} {P Q : World → Prop} {base size n : Nat} {e : TypeId} {v : Value} {xs : List Value}
set_option maxRecDepth 100000 in
theorem Keep.step (h : Keep w T P) (hm : Mv T T' w w') : Keep w' T' P := fun w'' hw => h w'' fun k hk hn =>
 (hw k (Nat.lt_of_lt_of_le hk hm.1.size) (fun e => by
  rcases hm.2 k e with e | e
  ·exact hn e
  ·omega)).trans (hm.1.block k hk hn)
set_option maxRecDepth 100000 in
theorem Keep.below (h : Keep w T P) (hb : Below w.heap.size w w') : Keep w' T P := h.step (Mv.of_below hb)
set_option maxRecDepth 100000 in
theorem Keep.mono (h : Keep w T P) (hq : ∀ W, P W → Q W) : Keep w T Q := fun W hW => hq W (h W hW)
set_option maxRecDepth 100000 in
theorem Keep.row (h : w.ownsRow base e size v n xs) (hT : ∀ k, v.ownBlock = some k → ¬ T k) : Keep w T (fun W => W.ownsRow base e size v n xs) := fun W hW => by
 refine ⟨h.1, ?_⟩
 rcases h.2 with h0 | ⟨g, cap, cur, rfl, hb, hg, r⟩
 ·exact .inl h0
 ·exact .inr ⟨g, cap, cur, rfl, hb, (hW g (Array.getElem?_eq_some_iff.1 hg).1 (hT g rfl)).trans hg, r⟩
set_option maxRecDepth 100000 in
theorem Keep.ob {l : List UInt8} (h : OB w base v l) (hT : ∀ k, v.ownBlock = some k → ¬ T k) : Keep w T (fun W => OB W base v l) := Keep.row h hT
end
section
variable {w w1 w' : World} {b : Nat} {T T' : Nat → Prop} {v v' : Value} {cs : List Ch}
end
section
variable {w0 w w' : World} {z : Wh} {D D' : EnS} {P : PoS} {A : AtS} {X : AxS} {T T' U : Nat → Prop} {gx gp gd b0 mb : Nat} {wv tv : Value} {F F' : Nat → Prop} {q : List FV}
set_option maxRecDepth 100000 in
theorem AZ.ie (h : AZ w0 w z D P A T) : ∃ F, IsE w w0.heap.size z.gd F D := by
 obtain ⟨F, tv, mb, q, im, h1, _⟩ := h.ex
 exact ⟨F, h1.dk⟩
set_option maxRecDepth 100000 in
theorem AZ.get_len (h : AZ w0 w z D P A T) {p : Int} (h0 : (getR D P p).2.2 = 0) : (getL D P p).length = 4080 := by
 obtain ⟨F, hi⟩ := h.ie
 have hpi := h.pi
 unfold getL
 rw [if_neg (by rw [h0]; exact fun h => h rfl)]
 unfold getR at h0
 split at h0
 ·rename_i h1
  exact absurd h0 h1
 ·rename_i h1
  cases hf : findP P p.toNat with
  | some i => exact (hpi.ok _ (getD_mem (findP_some hf).1)).2.1
  | none =>
   rw [hf] at h0
   dsimp only at h0 ⊢
   split at h0
   ·rename_i h2
    exact absurd h0 h2
   ·rename_i h2
    split at h0
    ·rename_i h3
     exact absurd h0 h3
    ·rename_i h3
     have hp : p < (P.pages : Int) ∧ 0 ≤ p := by
      unfold askP at h1
      split at h1
      ·exact absurd (by decide) h1
      ·omega
     refine openP_len ?_ (Decidable.not_not.1 h3)
     rw [readE_in (Decidable.not_not.1 h2)]
     exact hi.blk_len (by have := hpi.fit; omega)
end
end Go.Proofs.Ytnkeclpgpiogoaa

/-! AtJ -/
namespace Go.Proofs.Ytnkeclpgpiogoaa
open Go Go.RowKit Go.Maps
section
variable {w0 w w' : World} {z : Wh} {D : EnS} {P : PoS} {A : AtS} {X : AxS} {T T' U : Nat → Prop} {gx : Nat}
set_option maxRecDepth 100000 in
theorem ob_br {W : World} {b n c : Nat} {B : Option Addr} {l : List UInt8} (h : OB W b (.slice B n c) l) (hn : l.length = n) : BR W B n l := by
 obtain ⟨_, _, e1, hb, _, _⟩ := h.formN hn
 injection e1 with e1 _ _
 subst e1
 exact hb
set_option maxRecDepth 100000 in
theorem Pages_az (ha : AZ w0 w z D P A T) (hx : XZ w w0.heap.size z.ga gx X T U) :
  Calls Try.prog 23 #[.pointer (some ⟨gx, 0, none⟩)] w fun e w' => e = .returned (.int .i64 (P.pages : Int)) ∧ w = w' := by
 obtain ⟨im, hab⟩ := ha.ab
 obtain ⟨tv, mb, hpb⟩ := ha.pb
 obtain ⟨mx, q, x1, x2⟩ := hx.ex
 exact XPages_any hab x1 hpb
set_option maxRecDepth 100000 in
theorem ASet.old {w1 : World} {X' : AxS} {r : Int} {e : Ending} (h : ASet w0 w1 z gx D P A X' T U r e w') (hb : Below w.heap.size w w1) : ASet w0 w z gx D P A X' T U r e w' :=
 ⟨h.1, h.2.1, h.2.2.1, (Off.of_below hb).trans h.2.2.2⟩
set_option maxRecDepth 100000 in
set_option maxHeartbeats 1000000 in
theorem Format_at (ha : AZ w0 w z D P A T) (hx : XZ w w0.heap.size z.ga gx X T U) (h16 : X.st.length ≤ 16) :
  Calls Try.prog 10 #[.pointer (some ⟨gx, 0, none⟩)] w (ASet w0 w z gx D P A (asetX P A X 0 (turnL zP 0)) T U (asetE P A X 0 4080)) := by
 have HA := Lib.hid ha
 have HX := Lib.hid hx
 have H16 := Lib.hid h16
 have hmk := run_mk_bytes 4080 (by omega) 4080 rfl w
 have HO : Hid (OB (w.alloc (.cells (zeroB 4080) 5)) w.heap.size (.slice (some ⟨w.heap.size, 0, none⟩) 4080 4080) zP) := Lib.hid (OB.zero w 4080 (by decide))
 clear ha hx h16
 go_enter Try.func10, Try.ntmps10
 go_wp2_with fail
 refine (turn_any w.heap.size w.heap.size 4080 zP 0 _ HO.out (by decide +kernel) (by omega)).mono ?_
 rintro e w1 ⟨rfl, ho1, hf1⟩
 have hb1 : Below w.heap.size w w1 := (gr_alloc (gr_refl w) _).trans (hf1.below (fun k e => Nat.le_of_eq e.symm) (by rw [World.size_alloc]; omega))
 have HS : Hid (Calls Try.prog 12 #[.pointer (some ⟨gx, 0, none⟩), .int .i64 (0 : Int), .slice (some ⟨w.heap.size, 0, none⟩) 4080 4080] w1 (ASet w0 w z gx D P A (asetX P A X 0 (turnL zP 0)) T U (asetE P A X 0 4080))) := Lib.hid ((Set_at (HA.out.below hb1) (HX.out.below hb1) 0 (some ⟨w.heap.size, 0, none⟩) 4080 4080 (turnL zP 0) (ob_br ho1 (by rw [turnL_len]; rfl)) (by omega) (by omega) H16.out).mono fun e w' h => by
  have hl : (turnL zP 0).length = 4080 := by rw [turnL_len]; rfl
  rw [hl] at h
  exact h.old hb1)
 clear ho1 hf1 hb1
 go_wp2_with fail
 refine HS.out.mono ?_
 rintro e w2 h
 have he := h.1
 subst he
 have HF := Lib.hid h
 clear h
 go_wp2_with fail
 go_ret
 exact HF.out
set_option maxRecDepth 100000 in
theorem agetR_pages (D : EnS) (P : PoS) (A : AtS) (X : AxS) (p : Int) : (agetR D P A X p).2.1.pages = P.pages := by
 unfold agetR
 split
 ·rfl
 ·split
  ·rfl
  ·exact (getR_pages D P p).1
set_option maxRecDepth 100000 in
theorem AZ.aget_len (ha : AZ w0 w z D P A T) (hx : XZ w w0.heap.size z.ga gx X T U) {p : Int} (h0 : (agetR D P A X p).2.2 = 0) : (agetL D P A X p).length = 4080 := by
 unfold agetR at h0
 unfold agetL
 split at h0
 ·rename_i h1
  exact absurd h0 h1
 ·rename_i h1
  rw [if_neg h1]
  split at h0
  ·rename_i h2
   rw [if_pos h2]
   obtain ⟨l, hl⟩ := Option.isSome_iff_exists.1 h2.2
   rw [hl]
   obtain ⟨mx, q, x1, x2, x3, x4, x5, x6, x7, x8, x9, x10, x11⟩ := hx.ex
   rw [← x3, find_mapS] at hl
   cases hq : findS q p.toNat with
   | none => rw [hq] at hl; cases hl
   | some y =>
    rw [hq] at hl
    injection hl with hl
    subst hl
    exact (x4 _ (find_mem hq)).2
  ·rename_i h2
   rw [if_neg h2]
   exact ha.get_len h0
def pmL (D : EnS) (P : PoS) (A : AtS) (X : AxS) : List UInt8 := if pmE D P A X = 0 then agetL D P A X 0 else []
set_option maxRecDepth 100000 in
set_option maxHeartbeats 1000000 in
theorem pageMap_at (ha : AZ w0 w z D P A T) (hx : XZ w w0.heap.size z.ga gx X T U) (hpd : D.d.pending.length ≤ 900000) (hct : P.count ≤ 1152921504606846976) :
  Calls Try.prog 22 #[.pointer (some ⟨gx, 0, none⟩)] w (AGet w0 w z gx A X T U ((agetR D P A X 0).1, (agetR D P A X 0).2.1, pmE D P A X) (pmL D P A X)) := by
 have HG := Lib.hid (Get_at ha hx 0 (by omega) (by omega) hpd hct)
 have hpp : P.pages ≤ 4096 := by have := ha.pi.fit; have := ha.pi.d2; omega
 have HLN : Hid ((agetR D P A X 0).2.2 = 0 → (agetL D P A X 0).length = 4080) := Lib.hid (ha.aget_len hx)
 have hpg := agetR_pages D P A X 0
 obtain ⟨pe, hpe⟩ : ∃ pe, pe = pmE D P A X := ⟨_, rfl⟩
 obtain ⟨ml, hml⟩ : ∃ ml, ml = pmL D P A X := ⟨_, rfl⟩
 have HPE : Hid (pe = if (agetR D P A X 0).2.2 ≠ 0 then (agetR D P A X 0).2.2 else if isMap (agetL D P A X 0) P.pages then 0 else 170) := Lib.hid hpe
 have HML : Hid (ml = if pe = 0 then agetL D P A X 0 else []) := Lib.hid (by rw [hml, hpe]; rfl)
 rw [← hpe, ← hml]
 clear hpe hml ha hx hpd hct
 generalize agetL D P A X 0 = m at *
 generalize agetR D P A X 0 = R at *
 obtain ⟨D1, P1, e1⟩ := R
 dsimp only at *
 have HPG := Lib.hid hpg
 clear hpg
 go_enter Try.func22, Try.ntmps22
 go_wp2_with fail
 refine HG.out.mono ?_
 rintro e w1 ⟨v, rfl, hv, T1, wn, han, hxn, hmn, hbn, hn1⟩
 dsimp only at han ⊢
 have ha1 := han.below hbn
 have hx1 := hxn.below hbn
 by_cases he : e1 = 0
 ·subst he
  have hlen := HLN.out rfl
  obtain ⟨B, c, rfl, hbr, _, _⟩ := hv.formN hlen
  have HBR := Lib.hid hbr
  have HH0 := Lib.hid (has_any B c m 0 w1 hbr (by omega))
  have HA1 := Lib.hid ha1
  have HX1 := Lib.hid hx1
  have HEND : Hid (∀ n, pe = 0 → AGet w0 w z gx A X T U (D1, P1, pe) ml (.returned (.tuple #[.slice B 4080 c, .int .i64 0])) (w1.drewN n)) := Lib.hid (fun n hp => by
   have hb := gr_drewN (gr_refl w1) n
   rw [HML.out, if_pos hp, hp]
   exact ⟨_, rfl, hv.below hb, T1, wn, han, hxn, hmn, gr_trans hbn hb, hn1⟩)
  have HBAD : Hid (∀ n, pe = 170 → AGet w0 w z gx A X T U (D1, P1, pe) ml (.returned (.tuple #[.slice none 0 0, .int .i64 170])) (w1.drewN n)) := Lib.hid (fun n hp => by
   have hb := gr_drewN (gr_refl w1) n
   rw [HML.out, if_neg (by rw [hp]; decide), hp]
   exact ⟨_, rfl, OB.nil _ _, T1, wn, han, hxn, hmn, gr_trans hbn hb, fun k e => by simp [Value.ownBlock] at e⟩)
  clear hv ha1 hx1 han hxn hmn hbn hn1 hbr hlen
  go_wp2_with fail
  refine HH0.out.mono ?_
  rintro e w2 ⟨rfl, n0, rfl⟩
  obtain ⟨h0, hh0⟩ : ∃ h0, h0 = hasB m 0 := ⟨_, rfl⟩
  have HH := Lib.hid hh0
  rw [← hh0]
  clear hh0
  cases h0 with
  | false =>
   have hp : pe = 170 := by
    rw [HPE.out, if_neg (by exact fun h => h rfl), if_neg (by unfold isMap; rw [← HH.out, Bool.false_and]; exact Bool.false_ne_true)]
   go_wp2_with fail
   go_ret2
   exact HBAD.out n0 hp
  | true =>
   have HPA : Hid (Calls Try.prog 23 #[.pointer (some ⟨gx, 0, none⟩)] (w1.drewN n0) fun e w' => e = .returned (.int .i64 (P.pages : Int)) ∧ w1.drewN n0 = w') := Lib.hid (by
    rw [← HPG.out]
    have hb := gr_drewN (gr_refl w1) n0
    exact Pages_az (HA1.out.below hb) (HX1.out.below hb))
   go_wp2_with fail
   refine HPA.out.mono ?_
   rintro e w3 ⟨rfl, rfl⟩
   go_wp2_with fail
   go_loopw [6] (fun pg wr => ∃ k n2 : Nat, P.pages ≤ k ∧ k ≤ 32640 ∧ pg = .int .i64 (k : Int) ∧ wr = w1.drewN n2 ∧ Hid (∀ q, P.pages ≤ q → q < k → hasB m q = false)) (fun pg _ => 32640 - (Go.RowKit.intOf pg).toNat)
   case atStart => exact ⟨P.pages, n0, Nat.le_refl _, by omega, rfl, rfl, Lib.hid (fun q h1 h2 => by omega)⟩
   case round =>
    obtain ⟨k, n2, hk1, hk2, rfl, rfl, HNO⟩ := hrel
    by_cases hlt : k < 32640
    ·have t1 : decide ((k : Int) < 32640) = true := decide_eq_true (by omega)
     have t2 : decide (k < 32640) = true := decide_eq_true hlt
     have HHK := Lib.hid (has_any B c m k (w1.drewN n2) (HBR.out.drewN n2) hlt)
     go_wp2_with fail
     refine HHK.out.mono ?_
     rintro e w4 ⟨rfl, n3, rfl⟩
     obtain ⟨hk, hhk⟩ : ∃ hk, hk = hasB m k := ⟨_, rfl⟩
     have HK := Lib.hid hhk
     rw [← hhk]
     clear hhk
     have hdr : (w1.drewN n2).drewN n3 = w1.drewN (n2 + n3) := by simp [World.drewN, Nat.add_assoc]
     rw [hdr]
     clear hdr
     cases hk with
     | true =>
      have hp : pe = 170 := by
       rw [HPE.out, if_neg (by exact fun h => h rfl), if_neg]
       unfold isMap
       intro h
       rw [Bool.and_eq_true, List.all_eq_true] at h
       have := h.2 k (List.mem_range.2 hlt)
       rw [← HK.out, decide_eq_false (by omega)] at this
       cases this
      go_wp2_with fail
      go_ret2
      exact HBAD.out _ hp
     | false =>
      have HNO2 : Hid (∀ q, P.pages ≤ q → q < k + 1 → hasB m q = false) := Lib.hid (fun q h1 h2 => by
       by_cases e : q = k
       ·rw [e]
        exact HK.out.symm
       ·exact HNO.out q h1 (by omega))
      go_wp2_with fail
      go_roundw
      all_goals have hlt := of_decide_eq_true t2
      case rel => exact ⟨k + 1, _, by omega, by omega, by go_num, rfl, HNO2⟩
      case measure => simp [Go.RowKit.intOf]; omega
    ·have t1 : decide ((k : Int) < 32640) = false := decide_eq_false (by omega)
     have t2 : decide (k < 32640) = false := decide_eq_false hlt
     have hp : pe = 0 := by
      rw [HPE.out, if_neg (by exact fun h => h rfl), if_pos]
      unfold isMap
      rw [← HH.out, Bool.true_and, List.all_eq_true]
      intro q hq
      by_cases e : q < P.pages
      ·rw [decide_eq_true e]; rfl
      ·rw [HNO.out q (by omega) (by have := List.mem_range.1 hq; omega)]
       simp
     go_wp2_with fail
     go_ret2
     exact HEND.out _ hp
 ·have t1 : (e1 != 0) = true := by rw [bne_iff_ne]; exact he
  have HF : Hid (AGet w0 w z gx A X T U (D1, P1, pe) ml (.returned (.tuple #[.slice none 0 0, .int .i64 e1])) w1) := Lib.hid (by
   have hp : pe = e1 := by rw [HPE.out, if_pos he]
   rw [HML.out, if_neg (by rw [hp]; exact he), hp]
   exact ⟨_, rfl, OB.nil _ _, T1, wn, han, hxn, hmn, hbn, fun k e => by simp [Value.ownBlock] at e⟩)
  obtain ⟨Bv, cv, rfl, _⟩ := hv.form
  clear he hv ha1 hx1 han hxn hmn hbn hn1
  go_wp2_with fail
  go_ret2
  exact HF.out
end
end Go.Proofs.Ytnkeclpgpiogoaa

/-! AtL -/
namespace Go.Proofs.Ytnkeclpgpiogoaa
open Go Go.RowKit Go.Maps
section
variable {w w' : World} {g : Nat} {u0 u1 u2 : Value}
end
def CE (im : List (Nat × Unit)) (st : List (Nat × List UInt8)) (D0 : EnS) (P0 : PoS) (k : Nat) (D : EnS) (P : PoS) (acc : List Ch) : Prop :=
 chgF im st D0 P0 [] = chgF im (st.drop k) D P acc ∧ D.d.pending.length ≤ D0.d.pending.length + k ∧ P.count ≤ P0.count + k ∧ acc.length ≤ k
section
variable {im : List (Nat × Unit)} {st : List (Nat × List UInt8)} {D0 D : EnS} {P0 P : PoS} {k p : Nat} {m : List UInt8} {acc : List Ch}
set_option maxRecDepth 100000 in
theorem CE.all (h : CE im st D0 P0 k D P acc) (hk : st.length ≤ k) : chgF im st D0 P0 [] = (D, P, 0, acc) := by
 rw [h.1, List.drop_of_length_le hk]
 rfl
end
section
variable {w0 w wr w' : World} {z : Wh} {D0 D : EnS} {P0 P : PoS} {A : AtS} {X : AxS} {T0 T U : Nat → Prop} {gx cp k p : Nat} {Bp : Option Addr} {v : Value} {acc : List Ch} {m : List UInt8}
end
end Go.Proofs.Ytnkeclpgpiogoaa

/-! AtM -/
namespace Go.Proofs.Ytnkeclpgpiogoaa
open Go Go.RowKit Go.Maps
def PE (st : List (Nat × List UInt8)) (n : Int) (l : List Ch) (D0 : EnS) (P0 : PoS) (k : Nat) (D : EnS) (P : PoS) : Prop :=
 putF st n l D0 P0 = putF st n (l.drop k) D P ∧ D.d.pending.length ≤ D0.d.pending.length + k ∧ P.count ≤ P0.count + k
section
variable {st : List (Nat × List UInt8)} {n : Int} {l : List Ch} {D0 D : EnS} {P0 P : PoS} {k : Nat}
set_option maxRecDepth 100000 in
theorem PE.all (h : PE st n l D0 P0 k D P) (hk : l.length ≤ k) : putF st n l D0 P0 = (D, P, 0) := by
 rw [h.1, List.drop_of_length_le hk]
 rfl
end
section
variable {w0 w w' : World} {z : Wh} {D D' : EnS} {P : PoS} {A : AtS} {X : AxS} {T T' U : Nat → Prop} {gx : Nat}
def TU (T U : Nat → Prop) (k : Nat) : Prop := T k ∨ U k
end
end Go.Proofs.Ytnkeclpgpiogoaa

/-! AtQ -/
namespace Go.Proofs.Ytnkeclpgpiogoaa
open Go Go.RowKit Go.Maps
def made11E (n gj gb : Nat) : EnS := ⟨newD (400 + n), newJ 0 400 1 0 1, gj, gb, false⟩
def n11 (pages : Int) : Nat := 1 + (pages % 40).toNat
set_option maxRecDepth 100000 in
theorem n11_le (pages : Int) : 1 ≤ n11 pages ∧ n11 pages ≤ 40 := by
 unfold n11
 have := Int.emod_lt_of_pos pages (show (0 : Int) < 40 by omega)
 have := Int.emod_nonneg pages (show (40 : Int) ≠ 0 by omega)
 omega
set_option maxRecDepth 100000 in
set_option maxHeartbeats 1000000 in
theorem made11_any (pages : Int) (w0 w : World) (hb0 : Below w0.heap.size w0 w) :
  Calls Try.prog 4 #[.int .i64 pages] w fun e w' => ∃ z gj gb T, e = .returned (.tuple #[.pointer (some ⟨z.ga, 0, none⟩), .bool true]) ∧ AZ w0 w' z (made11E (n11 pages) gj gb) (newP 400 (n11 pages) 4 1 0) newA T ∧ Below w.heap.size w w' := by
 obtain ⟨n, hn⟩ : ∃ n, n = n11 pages := ⟨_, rfl⟩
 have hnn := n11_le pages
 rw [← hn] at hnn ⊢
 have HB0 := Lib.hid hb0
 have HPK := Lib.hid (Pick_any pages 40 w (by omega) (by omega))
 have hp1 : (1 : Int) + pages % 40 = (n : Int) := by
  rw [hn]
  unfold n11
  have := Int.emod_nonneg pages (show (40 : Int) ≠ 0 by omega)
  omega
 have hp2 : (0 : Int) ≤ pages % 40 ∧ pages % 40 < 40 := ⟨Int.emod_nonneg pages (by omega), Int.emod_lt_of_pos pages (by omega)⟩
 generalize pages % 40 = pk at *
 obtain ⟨hp2a, hp2b⟩ := hp2
 obtain ⟨hn1, hn2⟩ := hnn
 have wr1 : IntKind.i64.wrap (1 + pk) = (n : Int) := by rw [IntKind.wrap_i64]; omega
 have wr2 : IntKind.i64.wrap (400 + (n : Int)) = ((400 + n : Nat) : Int) := by rw [IntKind.wrap_i64]; omega
 have hd := DNew_ds (400 + n) w0 w (by omega) (by omega) hb0
 rw [show ((400 + n : Nat) : Int) = 400 + (n : Int) by omega] at hd
 have HD := Lib.hid hd
 clear hd
 have hmf : ∀ (fn : Fn) (first cap : Array Value) (w : World), (Instr.makeFunc fn first cap).run Try.prog w = .ok (.func fn first cap) w := fun _ _ _ _ => rfl
 have hln : (newD (400 + n)).blocks.length = 400 + n := List.length_replicate ..
 have HLN := Lib.hid hln
 clear hln
 clear hn hb0
 go_enter Try.func4, Try.ntmps4
 go_wp2_with fail
 refine HPK.out.mono ?_
 rintro e w1 ⟨rfl, rfl⟩
 go_wp2_with fail
 refine HD.out.mono ?_
 rintro e w2 ⟨gd, S, rfl, hds, hb2, hS⟩
 have HJ : Hid (Calls Try.prog 16 #[.pointer (some ⟨gd, 0, none⟩), .int .i64 0, .int .i64 400, .int .i64 1, .int .i64 0, .int .i64 1] w2 fun e w' => ∃ gj S', e = .returned (.tuple #[.pointer (some ⟨gj, 0, none⟩), .int .i64 0]) ∧ JS w0 w' gd gj (newD (400 + n)) (newJ 0 400 1 0 1) S' ∧ Below w2.heap.size w2 w' ∧ Mv S S' w2 w') :=
  Lib.hid (JNew_js 0 400 1 0 1 hds (by rw [HLN.out]; exact mayB_new (by omega) (by omega)))
 have HB2 := Lib.hid hb2
 clear hds hb2 hS
 go_wp2_with fail
 refine HJ.out.mono ?_
 rintro e w3 ⟨gj, S', rfl, hjs, hb3, hm3⟩
 have hb4 := gr_alloc (gr_refl w3) (.cells #[.pointer (some ⟨gj, 0, none⟩)] 46)
 have hbox := heap_alloc_new w3 (.cells #[.pointer (some ⟨gj, 0, none⟩)] 46)
 have hie : IsE (w3.alloc (.cells #[.pointer (some ⟨gj, 0, none⟩)] 46)) w0.heap.size gd S' (made11E n gj w3.heap.size) := IsE.of (hjs.below hb4) hbox hjs.bel.size
 have HP : Hid (Calls Try.prog 17 #[.pointer (some ⟨gd, 0, none⟩), .int .i64 400, .int .i64 (n : Int), .int .i64 4, .int .i64 1, .int .i64 0, .func (.func 18) #[] #[.pointer (some ⟨w3.heap.size, 0, none⟩)]] (w3.alloc (.cells #[.pointer (some ⟨gj, 0, none⟩)] 46)) fun e w' => e = .returned (.tuple #[.pointer (some ⟨(w3.alloc (.cells #[.pointer (some ⟨gj, 0, none⟩)] 46)).heap.size + 1, 0, none⟩), .int .i64 0]) ∧ PX w' w0.heap.size ((w3.alloc (.cells #[.pointer (some ⟨gj, 0, none⟩)] 46)).heap.size + 1) gd (.func (.func 18) #[] #[.pointer (some ⟨w3.heap.size, 0, none⟩)]) (made11E n gj w3.heap.size) (newP 400 n 4 1 0) S' (.slice none 0 0) (w3.alloc (.cells #[.pointer (some ⟨gj, 0, none⟩)] 46)).heap.size [] ∧ Below (w3.alloc (.cells #[.pointer (some ⟨gj, 0, none⟩)] 46)).heap.size (w3.alloc (.cells #[.pointer (some ⟨gj, 0, none⟩)] 46)) w') :=
  Lib.hid (PNew_any _ w0.heap.size gd S' (made11E n gj w3.heap.size) 400 n 4 1 0 _ hie (.inr ⟨_, _, rfl⟩) (by
   show mayP ((newD (400 + n)).blocks.length) _ _ _ _ _ = true
   rw [HLN.out]
   exact mayP_new hn1 (by omega) (by omega)))
 have HBOX := Lib.hid hbox
 have HB3 := Lib.hid (gr_trans (gr_trans HB2.out hb3) hb4)
 clear hjs hb3 hm3 hb4 hbox hie
 generalize (w3.alloc (.cells #[.pointer (some ⟨gj, 0, none⟩)] 46)).heap.size + 1 = gp at *
 go_wp2_with fail
 refine HP.out.mono ?_
 rintro e w5 ⟨rfl, hpx, hb5⟩
 have hcell : w5.cell? ⟨w3.heap.size, 0, none⟩ = some (.pointer (some ⟨gj, 0, none⟩)) := keep_of_below hb5 (box_cell HBOX.out)
 have HA : Hid (Calls Try.prog 20 #[.pointer (some ⟨gp, 0, none⟩), .pointer (some ⟨gj, 0, none⟩)] w5 fun e w' => ∃ ga T, e = .returned (.tuple #[.pointer (some ⟨ga, 0, none⟩), .int .i64 0]) ∧ AZ w0 w' ⟨gd, gp, .func (.func 18) #[] #[.pointer (some ⟨w3.heap.size, 0, none⟩)], ga⟩ (made11E n gj w3.heap.size) (newP 400 n 4 1 0) newA T ∧ Below w5.heap.size w5 w') :=
  Lib.hid ((ANew_az (gr_trans (gr_trans HB0.out HB3.out) hb5) hpx (wal11 (D0 := made11E n gj w3.heap.size) rfl) hn1 (by show (1 : Nat) ≠ 0; omega)).mono fun e w' ⟨ga, T, h1, h2, h3, _⟩ => ⟨ga, T, h1, h2, h3⟩)
 have HB5 := Lib.hid (gr_trans HB3.out hb5)
 clear hpx hb5
 go_wp2_with fail
 refine HA.out.mono ?_
 rintro e w6 ⟨ga, T, rfl, haz, hb6⟩
 have HF : Hid (∃ z gj gb T, Ending.returned (.tuple #[.pointer (some ⟨ga, 0, none⟩), .bool true]) = .returned (.tuple #[.pointer (some ⟨Wh.ga z, 0, none⟩), .bool true]) ∧ AZ w0 w6 z (made11E n gj gb) (newP 400 n 4 1 0) newA T ∧ Below w.heap.size w w6) := Lib.hid ⟨_, gj, w3.heap.size, T, rfl, haz, gr_trans HB5.out hb6⟩
 clear haz hb6 hcell
 go_wp2_with fail
 go_ret2
 exact HF.out
end Go.Proofs.Ytnkeclpgpiogoaa

/-! AtN -/
namespace Go.Proofs.Ytnkeclpgpiogoaa
open Go Go.RowKit Go.Maps
set_option maxRecDepth 100000 in
theorem info_intN : (Try.prog.info? 3).map (fun i => (i.zero, i.size, i.bytes)) = some (some (.int .i64 0), 1, 8) := by kernel_rfl
def SLeft (w0 w : World) (z : Wh) (gx : Nat) (A : AtS) (T U : Nat → Prop) (r : SRes) (w' : World) : Prop :=
 ∃ T', AZ w0 w' z r.D r.P A T' ∧ XZ w' w0.heap.size z.ga gx r.X T' U ∧ Off (TU T U) w w' ∧ ∀ k, T' k → T k ∨ w.heap.size ≤ k
section
variable {w0 w w1 w' : World} {z : Wh} {D D1 : EnS} {P P1 : PoS} {A : AtS} {X X1 : AxS} {T T1 T' U : Nat → Prop} {gx : Nat}
set_option maxRecDepth 100000 in
theorem asetX_16 (hs : SortS X.st) (h : X.st.length ≤ 16) (p : Int) (l : List UInt8) : (asetX P A X p l).st.length ≤ 16 := by
 unfold asetX
 split
 ·exact h
 ·rename_i he
  have he := Decidable.not_not.1 he
  dsimp only
  rw [len_insS _ _ hs]
  unfold asetE at he
  split at he
  ·rename_i h1
   exact absurd he h1
  ·split at he
   ·cases he
   ·split at he
    ·cases he
    ·rename_i h3
     split
     ·exact h
     ·rename_i h4
      have : findS X.st p.toNat = none := by
       cases hf : findS X.st p.toNat with
       | none => rfl
       | some y => rw [hf] at h4; exact absurd rfl h4
      have h5 : ¬ 16 ≤ X.st.length := fun e => h3 ⟨this, e⟩
      omega
set_option maxRecDepth 100000 in
theorem XZ.srt (hx : XZ w w0.heap.size z.ga gx X T U) : SortS X.st := by
 obtain ⟨mx, q, x1, x2, x3, x4, x5, x6, x7, x8, x9, x10, x11⟩ := hx.ex
 exact x10
set_option maxRecDepth 100000 in
theorem XZ.more {b0 ga g : Nat} (h : XZ w b0 ga gx X T U) (hg : w.heap.size ≤ g) (hb : Below w.heap.size w w') : XZ w' b0 ga gx X (fun k => T k ∨ k = g) U := by
 obtain ⟨mx, q, x1, x2, x3, x4, x5, x6, x7, x8, x9, x10, x11⟩ := h.ex
 have hn : ∀ {k}, k < w.heap.size → ¬ T k → ¬ (T k ∨ k = g) := fun h1 h2 e => e.elim h2 (fun e => by omega)
 exact ⟨mx, q, x1.below hb, x2.below hb, x3, fun e he => ⟨(x4 e he).1.below hb, (x4 e he).2⟩, fun e he k hk => hn ((x4 e he).1.lt k hk).2 (x5 e he k hk), x6, x7, hn x1.lt x8, hn x2.lt x9, x10, x11⟩
set_option maxRecDepth 100000 in
theorem XZ.sub {b0 ga : Nat} (h : XZ w b0 ga gx X T U) (hT : ∀ k, T' k → T k) : XZ w b0 ga gx X T' U := by
 obtain ⟨mx, q, x1, x2, x3, x4, x5, x6, x7, x8, x9, x10, x11⟩ := h.ex
 exact ⟨mx, q, x1, x2, x3, x4, fun e he k hk e2 => x5 e he k hk (hT k e2), x6, x7, fun e => x8 (hT _ e), fun e => x9 (hT _ e), x10, x11⟩
structure PM (w0 w w1 : World) (z : Wh) (gx : Nat) (D : EnS) (P : PoS) (A : AtS) (X : AxS) (T T1 U : Nat → Prop) (g c : Nat) (m : List UInt8) : Prop where
 ex : ∃ wn, AZ w0 wn z D P A T1 ∧ XZ wn w0.heap.size z.ga gx X T1 U ∧ Mv T T1 w wn ∧ Below wn.heap.size wn w1 ∧ wn.heap.size ≤ g
 ob : OB w1 w.heap.size (.slice (some ⟨g, 0, none⟩) 4080 c) m
 len : m.length = 4080
section
variable {w2 w3 : World} {g c : Nat} {m : List UInt8}
set_option maxRecDepth 100000 in
theorem AGet.pm {r : ARes} {v : Value} (hob : OB w1 w.heap.size v m) (hl : m.length = 4080) {wn : World} (h1 : AZ w0 wn z r.1 r.2.1 A T1) (h2 : XZ wn w0.heap.size z.ga gx X T1 U) (h3 : Mv T T1 w wn) (h4 : Below wn.heap.size wn w1) (h5 : ∀ k, v.ownBlock = some k → wn.heap.size ≤ k) : ∃ g c, v = .slice (some ⟨g, 0, none⟩) 4080 c ∧ PM w0 w w1 z gx r.1 r.2.1 A X T T1 U g c m := by
 rcases hob.2 with ⟨e0, e1⟩ | ⟨g, cap, cur, rfl, hb, hg, r⟩
 ·omega
 ·have hob2 := hob
  rw [hl] at hob2
  refine ⟨g, cap, by rw [hl], ⟨wn, h1, h2, h3, h4, h5 g rfl⟩, ?_, hl⟩
  rw [hl] at hob
  exact hob
set_option maxRecDepth 100000 in
theorem PM.below (h : PM w0 w w1 z gx D P A X T T1 U g c m) (hb : Below w1.heap.size w1 w2) : PM w0 w w2 z gx D P A X T T1 U g c m := by
 obtain ⟨wn, h1, h2, h3, h4, h5⟩ := h.ex
 exact ⟨⟨wn, h1, h2, h3, gr_trans h4 hb, h5⟩, h.ob.below hb, h.len⟩
set_option maxRecDepth 100000 in
theorem PM.az (h : PM w0 w w1 z gx D P A X T T1 U g c m) (ho : Off (fun k => U k ∨ k = g) w1 w2) : AZ w0 w2 z D P A T1 := by
 obtain ⟨wn, h1, h2, h3, h4, h5⟩ := h.ex
 have ho2 : Off U wn w2 := (Off.of_below h4).chain ho (fun j e => e.imp id (fun e => by omega))
 exact h1.nb ho2 (fun k e => ⟨(h2.lt e).2.2.2, (h2.lt e).2.2.1, (h2.lt e).1⟩)
set_option maxRecDepth 100000 in
theorem PM.tu (h : PM w0 w w1 z gx D P A X T T1 U g c m) (ho : Off (fun k => U k ∨ k = g) w1 w2) : Off (TU T U) w w2 := by
 obtain ⟨wn, h1, h2, h3, h4, h5⟩ := h.ex
 have := h3.1.size
 exact ((h3.1.mono fun _ _ e => .inl e).trans (Off.of_below h4)).chain ho (fun j e => e.elim (fun e => .inl (.inr e)) (fun e => .inr (by omega)))
set_option maxRecDepth 100000 in
theorem PM.xz (h : PM w0 w w1 z gx D P A X T T1 U g c m) : XZ w1 w0.heap.size z.ga gx X (fun k => T1 k ∨ k = g) U := by
 obtain ⟨wn, h1, h2, h3, h4, h5⟩ := h.ex
 exact h2.more h5 h4
set_option maxRecDepth 100000 in
theorem PM.glt (h : PM w0 w w1 z gx D P A X T T1 U g c m) : g < w1.heap.size := by
 exact (h.ob.lt g rfl).2
set_option maxRecDepth 100000 in
theorem PM.nu (h : PM w0 w w1 z gx D P A X T T1 U g c m) {k : Nat} (hk : U k) : k ≠ g := fun e => by
 obtain ⟨wn, h1, h2, h3, h4, h5⟩ := h.ex
 have := (h2.lt hk).2.1
 omega
set_option maxRecDepth 100000 in
theorem PM.t2 (h : PM w0 w w1 z gx D P A X T T1 U g c m) {k : Nat} (hk : T1 k ∨ k = g) : k < w1.heap.size := by
 obtain ⟨wn, h1, h2, h3, h4, h5⟩ := h.ex
 rcases hk with e | e
 ·exact Nat.lt_of_lt_of_le (h1.lt e).2 h4.size
 ·rw [e]
  exact h.glt
set_option maxRecDepth 100000 in
theorem PM.tn (h : PM w0 w w1 z gx D P A X T T1 U g c m) : ∀ k, T1 k → T k ∨ w.heap.size ≤ k := by
 obtain ⟨wn, h1, h2, h3, h4, h5⟩ := h.ex
 exact h3.2
set_option maxRecDepth 100000 in
set_option maxRecDepth 100000 in
theorem XZ.gturn (hx : XZ w1 w0.heap.size z.ga gx X (fun k => T1 k ∨ k = g) U) (ho : Off (fun k => k = g) w1 w2) (hU : ∀ k, U k → k ≠ g) : XZ w2 w0.heap.size z.ga gx X (fun k => T1 k ∨ k = g) U :=
 hx.off ho (fun _k e => .inl (.inr e)) (fun k hk e => hU k hk e) (fun _k e => .inl e)
end
def SGive (w0 w : World) (z : Wh) (gx : Nat) (A : AtS) (T U : Nat → Prop) (r : SRes) (e : Ending) (w' : World) : Prop := e = .returned (.int .i64 r.e) ∧ SLeft w0 w z gx A T U r w'
def STake (w0 w : World) (z : Wh) (gx : Nat) (A : AtS) (T U : Nat → Prop) (r : SRes) (e : Ending) (w' : World) : Prop := e = .returned (.tuple #[.int .i64 r.n, .int .i64 r.e]) ∧ SLeft w0 w z gx A T U r w'
set_option maxRecDepth 100000 in
theorem SLeft.pm {g c : Nat} {m : List UInt8} {w2 : World} {n e : Int} (h : PM w0 w w1 z gx D1 P1 A X T T1 U g c m) (ho : Off (fun k => U k ∨ k = g) w1 w2) (hx : XZ w2 w0.heap.size z.ga gx X1 (fun k => T1 k ∨ k = g) U) : SLeft w0 w z gx A T U ⟨D1, P1, X1, n, e⟩ w2 :=
 ⟨T1, h.az ho, hx.sub (fun _k e => .inl e), h.tu ho, h.tn⟩
set_option maxRecDepth 100000 in
theorem SLeft.get {wn : World} {n e : Int} (h1 : AZ w0 wn z D1 P1 A T1) (h2 : XZ wn w0.heap.size z.ga gx X T1 U) (h3 : Mv T T1 w wn) (h4 : Below wn.heap.size wn w1) : SLeft w0 w z gx A T U ⟨D1, P1, X, n, e⟩ w1 :=
 ⟨T1, h1.below h4, h2.below h4, (h3.1.mono fun _ _ e => .inl e).trans (Off.of_below h4), h3.2⟩
set_option maxRecDepth 100000 in
theorem pmE_get {D : EnS} {P : PoS} {A : AtS} {X : AxS} (h : pmE D P A X = 0) : (agetR D P A X 0).2.2 = 0 := by
 unfold pmE at h
 split at h
 ·rename_i h1
  exact absurd h h1
 ·rename_i h1
  exact Decidable.not_not.1 h1
set_option maxRecDepth 100000 in
set_option maxHeartbeats 1000000 in
theorem Give_at (ha : AZ w0 w z D P A T) (hx : XZ w w0.heap.size z.ga gx X T U) (page : Int) (h16 : X.st.length ≤ 16) (hpd : D.d.pending.length ≤ 900000) (hct : P.count ≤ 1152921504606846976) :
  Calls Try.prog 8 #[.pointer (some ⟨gx, 0, none⟩), .int .i64 page] w (SGive w0 w z gx A T U (giveR D P A X page)) := by
 have HG := Lib.hid (pageMap_at ha hx hpd hct)
 have hpp : P.pages ≤ 4096 := by have := ha.pi.fit; have := ha.pi.d2; omega
 have HLN : Hid (pmE D P A X = 0 → (agetL D P A X 0).length = 4080) := Lib.hid (fun h => ha.aget_len hx (pmE_get h))
 have hpg := agetR_pages D P A X 0
 have HSO := Lib.hid hx.srt
 have H16 := Lib.hid h16
 obtain ⟨RR, hRR⟩ : ∃ RR, RR = giveR D P A X page := ⟨_, rfl⟩
 have HRR : Hid (RR = if pmE D P A X ≠ 0 then ⟨(agetR D P A X 0).1, (agetR D P A X 0).2.1, X, 0, pmE D P A X⟩ else if page < 1 ∨ (P.pages : Int) ≤ page ∨ hasB (agetL D P A X 0) page.toNat = false then ⟨(agetR D P A X 0).1, (agetR D P A X 0).2.1, X, 0, 2⟩ else ⟨(agetR D P A X 0).1, (agetR D P A X 0).2.1, asetX (agetR D P A X 0).2.1 A X 0 (turnL (agetL D P A X 0) page.toNat), 0, asetE (agetR D P A X 0).2.1 A X 0 4080⟩) := Lib.hid hRR
 have HML : Hid (pmL D P A X = if pmE D P A X = 0 then agetL D P A X 0 else []) := Lib.hid rfl
 rw [← hRR]
 clear hRR ha hx hpd hct h16
 generalize pmL D P A X = ml at *
 generalize pmE D P A X = pe at *
 generalize agetL D P A X 0 = m at *
 generalize agetR D P A X 0 = R at *
 obtain ⟨D1, P1, e1⟩ := R
 dsimp only at *
 have HPG := Lib.hid hpg
 clear hpg
 by_cases hpe : pe = 0
 ·subst hpe
  have hm : ml = m := by rw [HML.out, if_pos rfl]
  subst hm
  have hlen := HLN.out rfl
  have HR2 : Hid (RR = if page < 1 ∨ (P.pages : Int) ≤ page ∨ hasB ml page.toNat = false then ⟨D1, P1, X, 0, 2⟩ else ⟨D1, P1, asetX P1 A X 0 (turnL ml page.toNat), 0, asetE P1 A X 0 4080⟩) := Lib.hid (by rw [HRR.out, if_neg (by exact fun h => h rfl)])
  clear HRR HML
  go_enter Try.func8, Try.ntmps8
  go_wp2_with fail
  refine HG.out.mono ?_
  rintro e w1 ⟨v, rfl, hv, T1, wn, han, hxn, hmn, hbn, hvn⟩
  dsimp only at han ⊢
  obtain ⟨g, c, rfl, hpm⟩ := AGet.pm (r := (D1, P1, 0)) hv hlen han hxn hmn hbn hvn
  have HM := Lib.hid hpm
  have HBAD : Hid (∀ n, page < 1 ∨ (P.pages : Int) ≤ page ∨ hasB ml page.toNat = false → SGive w0 w z gx A T U RR (.returned (.int .i64 2)) (w1.drewN n)) := Lib.hid (fun n h => by
   rw [HR2.out, if_pos h]
   exact ⟨rfl, SLeft.get han hxn hmn (gr_trans hbn (gr_drewN (gr_refl w1) n))⟩)
  have HPA : Hid (Calls Try.prog 23 #[.pointer (some ⟨gx, 0, none⟩)] w1 fun e w' => e = .returned (.int .i64 (P.pages : Int)) ∧ w1 = w') := Lib.hid (by
   rw [← HPG.out]
   exact Pages_az (han.below hbn) (hxn.below hbn))
  clear hv han hxn hmn hbn hvn hpm
  by_cases h1 : page < 1
  ·have t1 : decide (page < 1) = true := decide_eq_true h1
   have HF := Lib.hid (HBAD.out 0 (.inl h1))
   clear h1
   go_wp2_with fail
   go_ret
   exact HF.out
  ·have t1 : decide (page < 1) = false := decide_eq_false h1
   by_cases h2 : (P.pages : Int) ≤ page
   ·have t2 : decide ((P.pages : Int) ≤ page) = true := decide_eq_true h2
    have HF := Lib.hid (HBAD.out 0 (.inr (.inl h2)))
    clear h1 h2
    go_wp2_with fail
    refine HPA.out.mono ?_
    rintro e w2 ⟨rfl, rfl⟩
    go_wp2_with fail
    go_ret
    exact HF.out
   ·have t2 : decide ((P.pages : Int) ≤ page) = false := decide_eq_false h2
    obtain ⟨pg, rfl⟩ := Int.eq_ofNat_of_zero_le (show 0 ≤ page by omega)
    have t3 : decide (P.pages ≤ pg) = false := decide_eq_false (by omega)
    have HH := Lib.hid (has_any (some ⟨g, 0, none⟩) c ml pg w1 (ob_br HM.out.ob HM.out.len) (by omega))
    have hpl : pg < 32640 := by omega
    have hp1 : ¬ ((pg : Int) < 1 ∨ (P.pages : Int) ≤ (pg : Int)) := by omega
    obtain ⟨hk, hhk⟩ : ∃ hk, hk = hasB ml pg := ⟨_, rfl⟩
    have HK := Lib.hid hhk
    rw [← hhk] at HH
    have HP1 := Lib.hid hp1
    clear hhk h1 h2 hp1
    go_wp2_with fail
    refine HPA.out.mono ?_
    rintro e w2 ⟨rfl, rfl⟩
    go_wp2_with fail
    refine HH.out.mono ?_
    rintro e w2 ⟨rfl, n2, rfl⟩
    cases hk with
    | false =>
     have HF := Lib.hid (HBAD.out n2 (.inr (.inr (by rw [Int.toNat_natCast]; exact HK.out.symm))))
     go_wp2_with fail
     go_ret
     exact HF.out
    | true =>
     have hm2 := HM.out.below (gr_drewN (gr_refl w1) n2)
     have HM2 := Lib.hid hm2
     have HT := Lib.hid (turn_any g w.heap.size c ml pg (w1.drewN n2) hm2.ob hm2.len hpl)
     clear hm2
     go_wp2_with fail
     refine HT.out.mono ?_
     rintro e w3 ⟨rfl, ho3, hf3⟩
     have hx3 := HM2.out.xz.gturn hf3 (fun k hk => HM2.out.nu hk)
     have ha3 := HM2.out.az (hf3.mono fun _ _ e => .inr e)
     have HS := Lib.hid (Set_atG ha3 (fun k e => .inl e) (fun k e => Nat.lt_of_lt_of_le (HM2.out.t2 e) hf3.size) hx3 0 (some ⟨g, 0, none⟩) 4080 c (turnL ml pg) (ob_br ho3 (by rw [turnL_len]; exact HM2.out.len)) (by omega) (by omega) H16.out)
     have HF3 := Lib.hid hf3
     clear ho3 hf3 hx3 ha3
     go_wp2_with fail
     refine HS.out.mono ?_
     rintro e w4 ⟨rfl, ha4, hx4, ho4⟩
     have HF : Hid (SGive w0 w z gx A T U RR (.returned (.int .i64 (asetE P1 A X 0 (turnL ml pg).length))) w4) := Lib.hid (by
      rw [HR2.out, if_neg (by rw [Int.toNat_natCast, ← HK.out]; have := HP1.out; rintro (e | e | e); exact this (.inl e); exact this (.inr e); cases e)]
      rw [Int.toNat_natCast, turnL_len, HM2.out.len]
      exact ⟨rfl, SLeft.pm HM2.out ((HF3.out.mono fun _ _ e => .inr e).trans (ho4.mono fun _ _ e => .inl e)) hx4⟩)
     clear ha4 hx4 ho4
     go_wp2_with fail
     go_ret
     exact HF.out
 ·have t1 : (pe != 0) = true := by rw [bne_iff_ne]; exact hpe
  go_enter Try.func8, Try.ntmps8
  go_wp2_with fail
  refine HG.out.mono ?_
  rintro e w1 ⟨v, rfl, hv, T1, wn, han, hxn, hmn, hbn, hvn⟩
  dsimp only at han ⊢
  have HF : Hid (SGive w0 w z gx A T U RR (.returned (.int .i64 pe)) w1) := Lib.hid (by
   rw [HRR.out, if_pos hpe]
   exact ⟨rfl, SLeft.get han hxn hmn hbn⟩)
  obtain ⟨Bv, cv, rfl, _⟩ := hv.form
  clear hpe hv han hxn hmn hbn hvn
  go_wp2_with fail
  go_ret
  exact HF.out
end
end Go.Proofs.Ytnkeclpgpiogoaa

/-! AtO -/
namespace Go.Proofs.Ytnkeclpgpiogoaa
open Go Go.RowKit Go.Maps
set_option maxRecDepth 100000 in
theorem allL_succ (m : List UInt8) (k : Nat) : allL m (k + 1) = if hasB m k then allL m k ++ [k] else allL m k := by
 unfold allL
 rw [List.range_succ, List.filter_append]
 by_cases h : hasB m k = true
 ·rw [if_pos h, List.filter_cons_of_pos h]
  rfl
 ·rw [if_neg h, List.filter_cons_of_neg h, List.filter_nil, List.append_nil]
set_option maxRecDepth 100000 in
theorem intsL_snoc (l : List Nat) (k : Nat) : (intsL (l ++ [k])).map (Value.int .i64) = (intsL l).map (Value.int .i64) ++ [.int .i64 (k : Int)] := by
 unfold intsL
 rw [List.map_append, List.map_append]
 rfl
set_option maxRecDepth 100000 in
theorem allL_le (m : List UInt8) (k : Nat) : (allL m k).length ≤ k := by
 unfold allL
 have := List.length_filter_le (fun p => hasB m p) (List.range k)
 rw [List.length_range] at this
 exact this
section
variable {w0 w w1 w' : World} {z : Wh} {D D1 : EnS} {P P1 : PoS} {A : AtS} {X X1 : AxS} {T T1 T' U : Nat → Prop} {gx : Nat}
def SAll (w0 w : World) (z : Wh) (gx : Nat) (A : AtS) (X : AxS) (T U : Nat → Prop) (r : ARes) (l : List Nat) (e : Ending) (w' : World) : Prop :=
 ∃ B c, e = .returned (.tuple #[.slice B l.length c, .int .i64 r.2.2]) ∧ w'.ownsRow w.heap.size 3 1 (.slice B l.length c) l.length ((intsL l).map (Value.int .i64)) ∧ ∃ T', AZ w0 w' z r.1 r.2.1 A T' ∧ XZ w' w0.heap.size z.ga gx X T' U ∧ Mv T T' w w' ∧ ∀ k, (Value.slice B l.length c).ownBlock = some k → ¬ T' k
def sallL (D : EnS) (P : PoS) (A : AtS) (X : AxS) : List Nat := if pmE D P A X = 0 then allL (agetL D P A X 0) P.pages else []
set_option maxRecDepth 100000 in
set_option maxHeartbeats 1000000 in
theorem All_at (ha : AZ w0 w z D P A T) (hx : XZ w w0.heap.size z.ga gx X T U) (hpd : D.d.pending.length ≤ 900000) (hct : P.count ≤ 1152921504606846976) :
  Calls Try.prog 7 #[.pointer (some ⟨gx, 0, none⟩)] w (SAll w0 w z gx A X T U ((agetR D P A X 0).1, (agetR D P A X 0).2.1, pmE D P A X) (sallL D P A X)) := by
 have HG := Lib.hid (pageMap_at ha hx hpd hct)
 have hpp : P.pages ≤ 4096 := by have := ha.pi.fit; have := ha.pi.d2; omega
 have HLN : Hid (pmE D P A X = 0 → (agetL D P A X 0).length = 4080) := Lib.hid (fun h => ha.aget_len hx (pmE_get h))
 have hpg := agetR_pages D P A X 0
 have HML : Hid (pmL D P A X = if pmE D P A X = 0 then agetL D P A X 0 else []) := Lib.hid rfl
 have HAL : Hid (sallL D P A X = if pmE D P A X = 0 then allL (agetL D P A X 0) P.pages else []) := Lib.hid rfl
 have HSZ : Hid (w.heap.size ≤ w.heap.size) := Lib.hid (Nat.le_refl _)
 clear ha hx hpd hct
 generalize sallL D P A X = al at *
 generalize pmL D P A X = ml at *
 generalize pmE D P A X = pe at *
 generalize agetL D P A X 0 = m at *
 generalize agetR D P A X 0 = R at *
 obtain ⟨D1, P1, e1⟩ := R
 dsimp only at *
 have HPG := Lib.hid hpg
 clear hpg
 by_cases hpe : pe = 0
 ·subst hpe
  have hm : ml = m := by rw [HML.out, if_pos rfl]
  subst hm
  have hlen := HLN.out rfl
  have HA2 : Hid (al = allL ml P.pages) := Lib.hid (by rw [HAL.out, if_pos rfl])
  obtain ⟨ic, hic, hy0, hy1, hy2⟩ := info_parts info_intN
  obtain ⟨N, hN⟩ : ∃ N, N = P.pages := ⟨_, rfl⟩
  rw [← hN] at hpp HPG HA2
  clear hN HAL HML
  go_enter Try.func7, Try.ntmps7
  go_wp2_with fail
  refine HG.out.mono ?_
  rintro e w1 ⟨v, rfl, hv, T1, wn, han, hxn, hmn, hbn, hvn⟩
  dsimp only at han ⊢
  obtain ⟨g, c, rfl, hpm⟩ := AGet.pm (r := (D1, P1, 0)) hv hlen han hxn hmn hbn hvn
  have HBR := Lib.hid (ob_br hpm.ob hpm.len)
  have HPA : Hid (Calls Try.prog 23 #[.pointer (some ⟨gx, 0, none⟩)] w1 fun e w' => e = .returned (.int .i64 (N : Int)) ∧ w1 = w') := Lib.hid (by
   rw [← HPG.out]
   exact Pages_az (han.below hbn) (hxn.below hbn))
  have HEND : Hid (∀ w2 B c, Below w1.heap.size w1 w2 → w2.ownsRow w1.heap.size 3 1 (.slice B al.length c) al.length ((intsL al).map (Value.int .i64)) → SAll w0 w z gx A X T U (D1, P1, 0) al (.returned (.tuple #[.slice B al.length c, .int .i64 0])) w2) := Lib.hid (fun w2 B c hb ho => by
   have hb2 := gr_trans hbn hb
   have := hmn.1.size
   have := hbn.size
   exact ⟨B, c, rfl, own_lower ho (by omega), T1, han.below hb2, hxn.below hb2, hmn.trans (Mv.of_below hb2), fun k hk e => by
    have := own_ge ho hk
    have := (han.lt e).2
    omega⟩)
  clear hv han hxn hmn hbn hvn hpm
  go_wp2_with fail
  refine HPA.out.mono ?_
  rintro e w2 ⟨rfl, rfl⟩
  go_wp2_with fail
  go_loopw [6, 18] (fun l i wr => ∃ (k : Nat) (B1 : Option Addr) (n1 c1 : Nat), k ≤ N ∧ i = .int .i64 (k : Int) ∧ l = .slice B1 n1 c1 ∧ Hid (Below w1.heap.size w1 wr ∧ n1 = (allL ml k).length ∧ wr.ownsRow w1.heap.size 3 1 (.slice B1 n1 c1) n1 ((intsL (allL ml k)).map (Value.int .i64)))) (fun _ i _ => N - (Go.RowKit.intOf i).toNat)
  case atStart => exact ⟨0, none, 0, 0, Nat.zero_le _, rfl, rfl, Lib.hid ⟨gr_refl _, rfl, rfl, .inl ⟨rfl, rfl⟩⟩⟩
  case round =>
   obtain ⟨k, B1, n1, c1, hk, rfl, rfl, HI⟩ := hrel
   by_cases hlt : k < N
   ·have t1 : decide ((k : Int) < (N : Int)) = true := decide_eq_true (by omega)
    have t2 : decide (k < N) = true := decide_eq_true hlt
    have HH := Lib.hid (has_any (some ⟨g, 0, none⟩) c ml k wr (HBR.out.below HI.out.1) (by omega))
    obtain ⟨hk2, hhk⟩ : ∃ hk2, hk2 = hasB ml k := ⟨_, rfl⟩
    have HK := Lib.hid hhk
    rw [← hhk] at HH
    clear hhk
    go_wp2_with fail
    refine HH.out.mono ?_
    rintro e w2 ⟨rfl, n2, rfl⟩
    cases hk2 with
    | false =>
     have HI2 : Hid (Below w1.heap.size w1 (wr.drewN n2) ∧ n1 = (allL ml (k + 1)).length ∧ (wr.drewN n2).ownsRow w1.heap.size 3 1 (.slice B1 n1 c1) n1 ((intsL (allL ml (k + 1))).map (Value.int .i64))) := Lib.hid (by
      rw [allL_succ, if_neg (by rw [← HK.out]; exact Bool.false_ne_true)]
      exact ⟨gr_drewN HI.out.1 n2, HI.out.2.1, HI.out.2.2⟩)
     go_wp2_with fail
     go_roundw
     all_goals have hlt := of_decide_eq_true t2
     case rel => exact ⟨k + 1, _, _, _, by omega, by go_num, rfl, HI2⟩
     case measure => simp [Go.RowKit.intOf]; omega
    | true =>
     have HROW : Hid (((wr.drewN n2).alloc (.cells #[.int .i64 (k : Int)] 3)).ownsRow w1.heap.size 3 1 (.slice B1 n1 c1) n1 ((intsL (allL ml k)).map (Value.int .i64))) := Lib.hid ((show (wr.drewN n2).ownsRow w1.heap.size 3 1 (.slice B1 n1 c1) n1 ((intsL (allL ml k)).map (Value.int .i64)) from HI.out.2.2).alloc _)
     have HRD : Hid (Rd ((wr.drewN n2).alloc (.cells #[.int .i64 (k : Int)] 3)) 1 (some ⟨(wr.drewN n2).heap.size, 0, none⟩) 1 [.int .i64 (k : Int)]) := Lib.hid (Rd.new (wr.drewN n2) 3 #[.int .i64 (k : Int)] 1 1 rfl)
     have HLE : Hid (n1 ≤ 4096) := Lib.hid (by have := allL_le ml k; have := HI.out.2.1; omega)
     have HSZ2 : Hid (w1.heap.size ≤ ((wr.drewN n2).alloc (.cells #[.int .i64 (k : Int)] 3)).heap.size) := Lib.hid (gr_alloc (gr_drewN HI.out.1 n2) _).size
     have HNEXT : Hid (∀ v8 w8, w8.ownsRow w1.heap.size 3 1 v8 (n1 + 1) ((intsL (allL ml k)).map (Value.int .i64) ++ [.int .i64 (k : Int)]) → ((wr.drewN n2).alloc (.cells #[.int .i64 (k : Int)] 3)).grownBy w8 (Value.slice B1 n1 c1).ownBlock → Below w1.heap.size w1 w8 ∧ n1 + 1 = (allL ml (k + 1)).length ∧ w8.ownsRow w1.heap.size 3 1 v8 (n1 + 1) ((intsL (allL ml (k + 1))).map (Value.int .i64))) := Lib.hid (fun v8 w8 ho hg => by
      rw [allL_succ, if_pos HK.out.symm, intsL_snoc, List.length_append, ← HI.out.2.1]
      have hof : Off (fun j => (Value.slice B1 n1 c1).ownBlock = some j) ((wr.drewN n2).alloc (.cells #[.int .i64 (k : Int)] 3)) w8 := Off.of_grown hg (fun j e => e)
      exact ⟨(gr_alloc (gr_drewN HI.out.1 n2) _).trans (hof.below (fun j e => own_ge HI.out.2.2 e) (gr_alloc (gr_drewN HI.out.1 n2) _).size), rfl, ho⟩)
     go_wp2_with (at_builtin; refine wpList_append_Rd _ rfl (.tmp 24) (.tmp 26) 30 rfl w1.heap.size 3 ic _ 1 8 Try.underlying30 hic hy0 hy1 hy2 rfl (.slice B1 n1 c1) n1 ((intsL (allL ml k)).map (Value.int .i64)) rfl HROW.out (some ⟨wr.heap.size, 0, none⟩) 1 1 [.int .i64 (k : Int)] rfl HRD.out (by simp [Value.oneCell']) (by have := HLE.out; omega) (by have := HLE.out; simp only [maxLen]; omega) HSZ2.out ?_; intro v8 w8 ho8 hg8 _ _; have HC8 := Lib.hid (HNEXT.out v8 w8 ho8 hg8); obtain ⟨A8, c8, rfl, _, _⟩ := own_form ho8; clear ho8 hg8)
     go_roundw
     all_goals have hlt := of_decide_eq_true t2
     case rel => exact ⟨k + 1, A8, _, c8, by omega, by go_num, rfl, HC8⟩
     case measure => simp [Go.RowKit.intOf]; omega
   ·have t1 : decide ((k : Int) < (N : Int)) = false := decide_eq_false (by omega)
    have t2 : decide (k < N) = false := decide_eq_false hlt
    have hkn : k = N := by omega
    have HF : Hid (SAll w0 w z gx A X T U (D1, P1, 0) al (.returned (.tuple #[.slice B1 n1 c1, .int .i64 0])) wr) := Lib.hid (by
     have h := HI.out
     rw [hkn, ← HA2.out] at h
     obtain ⟨h1, h2, h3⟩ := h
     subst h2
     exact HEND.out wr B1 c1 h1 h3)
    clear hkn
    go_wp2_with fail
    go_ret2
    exact HF.out
 ·have t1 : (pe != 0) = true := by rw [bne_iff_ne]; exact hpe
  have hal : al = [] := by rw [HAL.out, if_neg hpe]
  subst hal
  go_enter Try.func7, Try.ntmps7
  go_wp2_with fail
  refine HG.out.mono ?_
  rintro e w1 ⟨v, rfl, hv, T1, wn, han, hxn, hmn, hbn, hvn⟩
  dsimp only at han ⊢
  have HF : Hid (SAll w0 w z gx A X T U (D1, P1, pe) [] (.returned (.tuple #[.slice none 0 0, .int .i64 pe])) w1) := Lib.hid
   ⟨none, 0, rfl, ⟨rfl, .inl ⟨rfl, rfl⟩⟩, T1, han.below hbn, hxn.below hbn, hmn.trans (Mv.of_below hbn), fun k e => by simp [Value.ownBlock] at e⟩
  obtain ⟨Bv, cv, rfl, _⟩ := hv.form
  clear hpe hv han hxn hmn hbn hvn
  go_wp2_with fail
  go_ret2
  exact HF.out
end
end Go.Proofs.Ytnkeclpgpiogoaa
