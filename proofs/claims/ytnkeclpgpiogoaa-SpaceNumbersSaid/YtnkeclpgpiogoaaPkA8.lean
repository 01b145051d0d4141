/-
  Texts of this claim, joined: AtP, AtR, SmI, AtS, AtV, AtW. No statement of the program is proved here.
-/
import Derived.Test.YtnkeclpgpiogoaaPkA7
import Derived.WalkMore
import Derived.Test.YtnkeclpgpiogoaaPkA1
import Derived.BigQuiet
/-! AtP -/
namespace Go.Proofs.Ytnkeclpgpiogoaa
open Go Go.RowKit Go.Maps
set_option maxRecDepth 100000 in
theorem and_zero (a : UInt8) {j : Nat} (hj : j < 8) : (bits BinOp.and IntKind.u8 (a.toNat : Int) ((2 : Int) ^ j % 256) == 0) = !a.toNat.testBit j := by
 have h := and_byte a j hj
 have e : ((2 : Int) ^ j % 256) = ((2 ^ j : Nat) : Int) := by
  rcases (by omega : j = 0 ∨ j = 1 ∨ j = 2 ∨ j = 3 ∨ j = 4 ∨ j = 5 ∨ j = 6 ∨ j = 7) with rfl | rfl | rfl | rfl | rfl | rfl | rfl | rfl <;> rfl
 rw [e, ← h]
 simp [bne]
set_option maxRecDepth 100000 in
theorem freeL_succ (m : List UInt8) (k p : Nat) : freeL m (k + 1) p = if hasB m p = false then p else freeL m k (p + 1) := rfl
section
variable {w0 w w1 w' : World} {z : Wh} {D D1 : EnS} {P P1 : PoS} {A : AtS} {X X1 : AxS} {T T1 T' U : Nat → Prop} {gx : Nat}
set_option maxRecDepth 100000 in
set_option maxHeartbeats 2000000 in
theorem Take_at (ha : AZ w0 w z D P A T) (hx : XZ w w0.heap.size z.ga gx X T U) (h16 : X.st.length ≤ 16) (hpd : D.d.pending.length ≤ 900000) (hct : P.count ≤ 1152921504606846976) :
  Calls Try.prog 6 #[.pointer (some ⟨gx, 0, none⟩)] w (STake w0 w z gx A T U (takeR D P A X)) := by
 have HG := Lib.hid (pageMap_at ha hx hpd hct)
 have hpp : P.pages ≤ 4096 := by have := ha.pi.fit; have := ha.pi.d2; omega
 have HLN : Hid (pmE D P A X = 0 → (agetL D P A X 0).length = 4080) := Lib.hid (fun h => ha.aget_len hx (pmE_get h))
 have hpg := agetR_pages D P A X 0
 have HSO := Lib.hid hx.srt
 have H16 := Lib.hid h16
 obtain ⟨RR, hRR⟩ : ∃ RR, RR = takeR D P A X := ⟨_, rfl⟩
 obtain ⟨fr, hfr⟩ : ∃ fr, fr = freeL (agetL D P A X 0) P.pages 0 := ⟨_, rfl⟩
 have HRR : Hid (RR = if pmE D P A X ≠ 0 then ⟨(agetR D P A X 0).1, (agetR D P A X 0).2.1, X, 0, pmE D P A X⟩ else if fr = 0 then ⟨(agetR D P A X 0).1, (agetR D P A X 0).2.1, X, 0, 5⟩ else if asetE (agetR D P A X 0).2.1 A X (fr : Int) 4080 ≠ 0 then ⟨(agetR D P A X 0).1, (agetR D P A X 0).2.1, X, 0, asetE (agetR D P A X 0).2.1 A X (fr : Int) 4080⟩ else if asetE (agetR D P A X 0).2.1 A (asetX (agetR D P A X 0).2.1 A X (fr : Int) zP) 0 4080 ≠ 0 then ⟨(agetR D P A X 0).1, (agetR D P A X 0).2.1, asetX (agetR D P A X 0).2.1 A X (fr : Int) zP, 0, asetE (agetR D P A X 0).2.1 A (asetX (agetR D P A X 0).2.1 A X (fr : Int) zP) 0 4080⟩ else ⟨(agetR D P A X 0).1, (agetR D P A X 0).2.1, asetX (agetR D P A X 0).2.1 A (asetX (agetR D P A X 0).2.1 A X (fr : Int) zP) 0 (turnL (agetL D P A X 0) fr), (fr : Int), 0⟩) := Lib.hid (by rw [hRR, hfr]; rfl)
 have HML : Hid (pmL D P A X = if pmE D P A X = 0 then agetL D P A X 0 else []) := Lib.hid rfl
 rw [← hRR]
 clear hRR ha hx hpd hct h16
 generalize pmL D P A X = ml at *
 generalize pmE D P A X = pe at *
 generalize agetL D P A X 0 = m at *
 generalize agetR D P A X 0 = R at *
 obtain ⟨D1, P1, e1⟩ := R
 dsimp only at *
 obtain ⟨N, hN⟩ : ∃ N, N = P.pages := ⟨_, rfl⟩
 rw [← hN] at hpp hpg hfr
 clear hN
 have HPG := Lib.hid hpg
 have HFR := Lib.hid hfr
 clear hpg hfr
 by_cases hpe : pe = 0
 ·subst hpe
  have hm : ml = m := by rw [HML.out, if_pos rfl]
  subst hm
  have hlen := HLN.out rfl
  have HR2 := Lib.hid (HRR.out.trans (if_neg (by exact fun h => h rfl)))
  clear HRR HML
  go_enter Try.func6, Try.ntmps6
  go_wp2_with fail
  refine wp_scope_straight ?_
  go_wp2_with fail
  refine HG.out.mono ?_
  rintro e w1 ⟨v, rfl, hv, T1, wn, han, hxn, hmn, hbn, hvn⟩
  dsimp only at han ⊢
  obtain ⟨g, c, rfl, hpm⟩ := AGet.pm (r := (D1, P1, 0)) hv hlen han hxn hmn hbn hvn
  have HM := Lib.hid hpm
  have HFULL : Hid (∀ n, fr = 0 → STake w0 w z gx A T U RR (.returned (.tuple #[.int .i64 0, .int .i64 5])) (w1.drewN n)) := Lib.hid (fun n h => by
   rw [HR2.out, if_pos h]
   exact ⟨rfl, SLeft.get han hxn hmn (gr_trans hbn (gr_drewN (gr_refl w1) n))⟩)
  have HPA : Hid (∀ n, Calls Try.prog 23 #[.pointer (some ⟨gx, 0, none⟩)] (w1.drewN n) fun e w' => e = .returned (.int .i64 (N : Int)) ∧ w1.drewN n = w') := Lib.hid (fun n => by
   rw [← HPG.out]
   have hb := gr_drewN (gr_refl w1) n
   exact Pages_az ((han.below hbn).below hb) ((hxn.below hbn).below hb))
  have HBR := Lib.hid (ob_br hpm.ob hpm.len)
  clear hv han hxn hmn hbn hvn hpm
  go_wp2_with fail
  go_step3
  go_wp2_with fail
  go_loopw [6, 23] (fun f i wr => ∃ k n2 : Nat, f = .int .i64 0 ∧ i = .int .i64 (k : Int) ∧ 8 * k ≤ N ∧ wr = w1.drewN n2 ∧ Hid (fr = freeL ml (N - 8 * k) (8 * k))) (fun _ i _ => 4080 - (Go.RowKit.intOf i).toNat)
  case atStart => exact ⟨0, 0, rfl, rfl, Nat.zero_le _, rfl, HFR⟩
  case round =>
   obtain ⟨k, n2, rfl, rfl, hk8, rfl, HF⟩ := hrel
   have t1 : decide ((k : Int) < 4080) = true := decide_eq_true (by omega)
   have t2 : decide (k < 4080) = true := decide_eq_true (by omega)
   have j0 : (0 : Int) ≤ (k : Int) := Int.natCast_nonneg _
   have j1 : (k : Int) < 4080 := by omega
   obtain ⟨a, ha⟩ : ∃ a, a = ml.getD k 0 := ⟨_, rfl⟩
   have hcell : (w1.drewN n2).cell? ⟨g, k, none⟩ = some (.int .u8 (a.toNat : Int)) := by
    rw [ha]
    exact OB.cell (HM.out.below (gr_drewN (gr_refl w1) n2)).ob HM.out.len (by omega)
   have HAA := Lib.hid ha
   clear ha
   go_wp2_with fail
   go_loopw [6, 28] (fun f i wr => ∃ j n3 : Nat, f = .int .i64 0 ∧ i = .int .i64 (j : Int) ∧ j ≤ 8 ∧ 8 * k + j ≤ N ∧ wr = w1.drewN n3 ∧ Hid (fr = freeL ml (N - (8 * k + j)) (8 * k + j))) (fun _ i _ => 8 - (Go.RowKit.intOf i).toNat)
   case atStart => exact ⟨0, n2, rfl, rfl, Nat.zero_le _, by omega, rfl, HF⟩
   case round =>
    clear HF
    obtain ⟨j, n3, rfl, rfl, hj8, hjN, rfl, HF⟩ := hrel
    by_cases hlt : j < 8
    ·have t3 : decide ((j : Int) < 8) = true := decide_eq_true (by omega)
     have t4 : decide (j < 8) = true := decide_eq_true hlt
     have HPJ := Lib.hid (HPA.out n3)
     go_wp2_with fail
     refine HPJ.out.mono ?_
     rintro e w4 ⟨rfl, rfl⟩
     by_cases hend : N ≤ 8 * k + j
     ·have t5 : decide ((N : Int) ≤ (k : Int) * 8 + (j : Int)) = true := decide_eq_true (by omega)
      have HFL := Lib.hid (HFULL.out n3 (by
       rw [HF.out, show N - (8 * k + j) = 0 by omega]
       rfl))
      go_wp2_with fail
      rw [Exit.noGoto_ret]
      go_ret2
      exact HFL.out
     ·obtain ⟨p, hp⟩ : ∃ p, p = 8 * k + j := ⟨_, rfl⟩
      have hpI : (k : Int) * 8 + (j : Int) = (p : Int) := by omega
      have t5 : decide ((N : Int) ≤ (p : Int)) = false := decide_eq_false (by omega)
      have t5' : decide (N ≤ p) = false := decide_eq_false (by omega)
      have hz := and_zero a hlt
      obtain ⟨tb, htb⟩ : ∃ tb, tb = a.toNat.testBit j := ⟨_, rfl⟩
      have hhb : hasB ml p = tb := by
       unfold hasB bitB
       rw [hp, show (8 * k + j) / 8 = k by omega, show (8 * k + j) % 8 = j by omega, ← HAA.out, htb]
      have hsucc : fr = if hasB ml p = false then p else freeL ml (N - (8 * k + (j + 1))) (8 * k + (j + 1)) := by
       rw [HF.out, show N - (8 * k + j) = (N - (8 * k + (j + 1))) + 1 by omega, freeL_succ, ← hp, show p + 1 = 8 * k + (j + 1) by omega]
      rw [← htb] at hz
      rw [hpI]
      have HHB := Lib.hid hhb
      have HSU := Lib.hid hsucc
      have hpN : p < N := by omega
      have hjn : 8 * k + (j + 1) ≤ N := by omega
      clear hhb hsucc hend hp hpI htb HF
      cases tb with
      | true =>
       have HF2 : Hid (fr = freeL ml (N - (8 * k + (j + 1))) (8 * k + (j + 1))) := Lib.hid (by rw [HSU.out, if_neg (by rw [HHB.out]; exact fun h => by cases h)])
       go_wp2_with fail
       go_roundw
       all_goals have hlt := of_decide_eq_true t4
       case rel => exact ⟨j + 1, n3, rfl, by go_num, by omega, hjn, rfl, HF2⟩
       case measure => simp [Go.RowKit.intOf]; omega
      | false =>
       have hfp : fr = p := by rw [HSU.out, if_pos HHB.out]
       subst hfp
       by_cases hp0 : fr = 0
       ·have t6 : ((fr : Int) == 0) = true := by rw [hp0]; rfl
        have HFL := Lib.hid (HFULL.out n3 hp0)
        clear hp0
        go_wp2_with fail
        rw [Exit.noGoto_ret]
        go_ret2
        exact HFL.out
       ·have t6 : ((fr : Int) == 0) = false := beq_eq_false_iff_ne.2 (by omega)
        have HR3 := Lib.hid (HR2.out.trans (if_neg hp0))
        have hmk := run_mk_bytes 4080 (by omega) 4080 rfl (w1.drewN n3)
        have hb1 := gr_alloc (gr_drewN (gr_refl w1) n3) (.cells (zeroB 4080) 5)
        have hm1 := HM.out.below hb1
        have HM1 := Lib.hid hm1
        have hoz : OB ((w1.drewN n3).alloc (.cells (zeroB 4080) 5)) (w1.drewN n3).heap.size (.slice (some ⟨(w1.drewN n3).heap.size, 0, none⟩) 4080 4080) zP := OB.zero _ 4080 (by decide)
        have hs1 := Set_atG (hm1.az (Off.refl _ _)) (fun k e => .inl e) (fun k e => hm1.t2 e) hm1.xz (fr : Int) _ 4080 4080 zP (ob_br hoz rfl) (by omega) (by omega) H16.out
        rw [show zP.length = 4080 from rfl] at hs1
        have HS1 : Hid (Calls Try.prog 12 #[.pointer (some ⟨gx, 0, none⟩), .int .i64 (fr : Int), .slice (some ⟨w1.heap.size, 0, none⟩) 4080 4080] ((w1.drewN n3).alloc (.cells (zeroB 4080) 5)) (ASetG w0 ((w1.drewN n3).alloc (.cells (zeroB 4080) 5)) z gx D1 P1 A (asetX P1 A X (fr : Int) zP) T1 (fun k => T1 k ∨ k = g) U (asetE P1 A X (fr : Int) 4080))) := Lib.hid hs1
        have HX1 : Hid (asetE P1 A X (fr : Int) 4080 ≠ 0 → asetX P1 A X (fr : Int) zP = X) := Lib.hid (fun h => by
         unfold asetX
         rw [if_pos (by rw [show zP.length = 4080 from rfl]; exact h)])
        have H162 : Hid ((asetX P1 A X (fr : Int) zP).st.length ≤ 16) := Lib.hid (asetX_16 HSO.out H16.out _ _)
        generalize asetE P1 A X (fr : Int) 4080 = r1 at *
        generalize asetX P1 A X (fr : Int) zP = X1 at *
        clear hm1 hoz hs1 hb1 hp0 HFULL HSU
        go_wp2_with fail
        refine HS1.out.mono ?_
        rintro e w5 ⟨rfl, ha5, hx5, ho5⟩
        by_cases hr1 : r1 = 0
        ·subst hr1
         have ho6 := HM1.out.ob.off ho5 (fun k e => by
          injection e with e
          exact fun hu => HM1.out.nu hu e.symm)
         have HT := Lib.hid (turn_any g w.heap.size c ml fr w5 ho6 HM1.out.len (by omega))
         have HR4 := Lib.hid (HR3.out.trans (if_neg (by exact fun h => h rfl)))
         have HA5 := Lib.hid ha5
         have HX5 := Lib.hid hx5
         have HO5 := Lib.hid ho5
         clear ha5 hx5 ho5 ho6
         go_wp2_with fail
         refine HT.out.mono ?_
         rintro e w6 ⟨rfl, ho6, hf6⟩
         have hx6 := HX5.out.gturn hf6 (fun k hk => HM1.out.nu hk)
         have hoo : Off (fun k => U k ∨ k = g) ((w1.drewN n3).alloc (.cells (zeroB 4080) 5)) w6 := (HO5.out.mono fun _ _ e => .inl e).trans (hf6.mono fun _ _ e => .inr e)
         have ha6 := HM1.out.az hoo
         have HOO := Lib.hid hoo
         have hs2 := Set_atG ha6 (fun k e => .inl e) (fun k e => Nat.lt_of_lt_of_le (HM1.out.t2 e) hoo.size) hx6 0 (some ⟨g, 0, none⟩) 4080 c (turnL ml fr) (ob_br ho6 (by rw [turnL_len]; exact HM1.out.len)) (by omega) (by omega) H162.out
         rw [turnL_len, HM1.out.len] at hs2
         have HS2 := Lib.hid hs2
         have HX2 : Hid (asetE P1 A X1 0 4080 ≠ 0 → asetX P1 A X1 0 (turnL ml fr) = X1) := Lib.hid (fun h => by
          unfold asetX
          rw [if_pos (by rw [turnL_len, HM1.out.len]; exact h)])
         generalize asetE P1 A X1 0 4080 = r2 at *
         generalize asetX P1 A X1 0 (turnL ml fr) = X2 at *
         clear ho6 hf6 hx6 hoo ha6 hs2
         go_wp2_with fail
         refine HS2.out.mono ?_
         rintro e w7 ⟨rfl, ha7, hx7, ho7⟩
         have hoo7 := HOO.out.trans (ho7.mono fun _ _ e => .inl e)
         by_cases hr2 : r2 = 0
         ·subst hr2
          have HFN : Hid (STake w0 w z gx A T U RR (.returned (.tuple #[.int .i64 (fr : Int), .int .i64 0])) w7) := Lib.hid (by
           rw [HR4.out, if_neg (by exact fun h => h rfl)]
           exact ⟨rfl, SLeft.pm HM1.out hoo7 hx7⟩)
          clear ha7 hx7 ho7 hoo7
          go_wp2_with fail
          rw [Exit.noGoto_ret]
          go_ret2
          exact HFN.out
         ·have t7 : (r2 != 0) = true := by rw [bne_iff_ne]; exact hr2
          have hxx := HX2.out hr2
          subst hxx
          have HFN : Hid (STake w0 w z gx A T U RR (.returned (.tuple #[.int .i64 0, .int .i64 r2])) w7) := Lib.hid (by
           rw [HR4.out, if_pos hr2]
           exact ⟨rfl, SLeft.pm HM1.out hoo7 hx7⟩)
          clear ha7 hx7 ho7 hoo7 hr2
          go_wp2_with fail
          rw [Exit.noGoto_ret]
          go_ret2
          exact HFN.out
        ·have t7 : (r1 != 0) = true := by rw [bne_iff_ne]; exact hr1
         have hxx := HX1.out hr1
         subst hxx
         have HFN : Hid (STake w0 w z gx A T U RR (.returned (.tuple #[.int .i64 0, .int .i64 r1])) w5) := Lib.hid (by
          rw [HR3.out, if_pos hr1]
          exact ⟨rfl, SLeft.pm HM1.out (ho5.mono fun _ _ e => .inl e) hx5⟩)
         clear ha5 hx5 ho5 hr1
         go_wp2_with fail
         rw [Exit.noGoto_ret]
         go_ret2
         exact HFN.out
    ·have t3 : decide ((j : Int) < 8) = false := decide_eq_false (by omega)
     have t4 : decide (j < 8) = false := decide_eq_false hlt
     have hj : j = 8 := by omega
     have HF2 : Hid (fr = freeL ml (N - 8 * (k + 1)) (8 * (k + 1))) := Lib.hid (by rw [HF.out, hj, show 8 * (k + 1) = 8 * k + 8 by omega])
     have h8 : 8 * (k + 1) ≤ N := by omega
     clear hj
     go_wp2_with fail
     go_roundw
     case rel => exact ⟨k + 1, n3, rfl, by go_num, h8, rfl, HF2⟩
     case measure => simp [Go.RowKit.intOf]; omega
 ·have t1 : (pe != 0) = true := by rw [bne_iff_ne]; exact hpe
  go_enter Try.func6, Try.ntmps6
  go_wp2_with fail
  refine wp_scope_straight ?_
  go_wp2_with fail
  refine HG.out.mono ?_
  rintro e w1 ⟨v, rfl, hv, T1, wn, han, hxn, hmn, hbn, hvn⟩
  dsimp only at han ⊢
  have HF : Hid (STake w0 w z gx A T U RR (.returned (.tuple #[.int .i64 0, .int .i64 pe])) w1) := Lib.hid (by
   rw [HRR.out, if_pos hpe]
   exact ⟨rfl, SLeft.get han hxn hmn hbn⟩)
  obtain ⟨Bv, cv, rfl, _⟩ := hv.form
  clear hpe hv han hxn hmn hbn hvn
  go_wp2_with fail
  go_ret2
  exact HF.out
end
end Go.Proofs.Ytnkeclpgpiogoaa

/-! AtR -/
namespace Go.Proofs.Ytnkeclpgpiogoaa
open Go Go.RowKit Go.Maps
set_option maxRecDepth 100000 in
theorem SameG.aget (D : EnS) (P : PoS) (A : AtS) (X : AxS) (p : Int) : SameG D (agetR D P A X p).1 := by
 unfold agetR
 split
 ·exact SameG.refl D
 ·split
  ·exact SameG.refl D
  ·exact SameG.get D P p
set_option maxRecDepth 100000 in
theorem SameG.takeR (D : EnS) (P : PoS) (A : AtS) (X : AxS) : SameG D (takeR D P A X).D := by
 have h := SameG.aget D P A X 0
 unfold Go.Proofs.Ytnkeclpgpiogoaa.takeR
 dsimp only
 split
 ·exact h
 ·split
  ·exact h
  ·split
   ·exact h
   ·split <;> exact h
set_option maxRecDepth 100000 in
theorem SameG.giveR (D : EnS) (P : PoS) (A : AtS) (X : AxS) (p : Int) : SameG D (giveR D P A X p).D := by
 have h := SameG.aget D P A X 0
 unfold Go.Proofs.Ytnkeclpgpiogoaa.giveR
 dsimp only
 split
 ·exact h
 ·split <;> exact h
structure SC (w0 w : World) (z : Wh) (n bl : Nat) (T : Nat → Prop) (now : Nat → List UInt8) (c : Nat) (recs : List Rec) (V : Nat) (im : List (Nat × Unit)) : Prop where
 ex : ∃ D P A, AZ w0 w z D P A T ∧ CI D P now recs V ∧ P.pages = n ∧ A.br = false ∧ A.im = im ∧ P.count ≤ c ∧ D.j.bl = bl ∧ D.j.fi = 0 ∧ D.j.ep = 1
structure XG (w0 w : World) (z : Wh) (n : Nat) (gx : Nat) (st : List (Nat × List UInt8)) (T U : Nat → Prop) : Prop where
 xz : XZ w w0.heap.size z.ga gx ⟨st, false⟩ T U
 ok : XOk n st
section
variable {w0 w w1 w' : World} {z : Wh} {n bl c V : Nat} {T T1 T' U : Nat → Prop} {now : Nat → List UInt8} {recs : List Rec} {im : List (Nat × Unit)} {gx : Nat} {st : List (Nat × List UInt8)}
set_option maxRecDepth 100000 in
theorem SC.below (h : SC w0 w z n bl T now c recs V im) (hb : Below w.heap.size w w') : SC w0 w' z n bl T now c recs V im := by
 obtain ⟨D, P, A, h1, r⟩ := h.ex
 exact ⟨D, P, A, h1.below hb, r⟩
set_option maxRecDepth 100000 in
theorem SC.lt (h : SC w0 w z n bl T now c recs V im) {k : Nat} (hk : T k) : w0.heap.size ≤ k ∧ k < w.heap.size := by
 obtain ⟨D, P, A, h1, r⟩ := h.ex
 exact h1.lt hk
set_option maxRecDepth 100000 in
theorem SC.more (h : SC w0 w z n bl T now c recs V im) {c' : Nat} (hc : c ≤ c') : SC w0 w z n bl T now c' recs V im := by
 obtain ⟨D, P, A, h1, h2, h3, h4, h5, h6, r⟩ := h.ex
 exact ⟨D, P, A, h1, h2, h3, h4, h5, Nat.le_trans h6 hc, r⟩
set_option maxRecDepth 100000 in
theorem XG.below (h : XG w0 w z n gx st T U) (hb : Below w.heap.size w w') : XG w0 w' z n gx st T U := ⟨h.xz.below hb, h.ok⟩
set_option maxRecDepth 100000 in
theorem XG.step (h : XG w0 w z n gx st T U) (hm : Mv T T' w w') : XG w0 w' z n gx st T' U := ⟨h.xz.step hm, h.ok⟩
def CL (w0 w : World) (z : Wh) (n bl : Nat) (T U : Nat → Prop) (gx : Nat) (now : Nat → List UInt8) (c : Nat) (recs : List Rec) (V : Nat) (im : List (Nat × Unit)) (st' : List (Nat × List UInt8)) (w' : World) : Prop :=
 ∃ T', SC w0 w' z n bl T' now c recs V im ∧ XG w0 w' z n gx st' T' U ∧ Off (TU T U) w w' ∧ ∀ k, T' k → T k ∨ w.heap.size ≤ k
set_option maxRecDepth 100000 in
theorem Begin_sc (h : SC w0 w z n bl T now c recs V im) :
  Calls Try.prog 5 #[.pointer (some ⟨z.ga, 0, none⟩)] w fun e w' => ∃ gx U, e = .returned (.pointer (some ⟨gx, 0, none⟩)) ∧ SC w0 w' z n bl T now c recs V im ∧ XG w0 w' z n gx [] T U ∧ Below w.heap.size w w' ∧ w.heap.size ≤ gx ∧ ∀ k, U k → w.heap.size ≤ k := by
 obtain ⟨D, P, A, h1, r⟩ := h.ex
 refine (Begin_az h1).mono ?_
 rintro e w' ⟨gx, U, rfl, a1, a2, a3, a4, a5⟩
 exact ⟨gx, U, rfl, ⟨D, P, A, a1, r⟩, ⟨a2, XOk.new n⟩, a3, a4, a5⟩
set_option maxRecDepth 100000 in
theorem Set_sc (h : SC w0 w z n bl T now c recs V im) (hx : XG w0 w z n gx st T U) (p : Nat) (B : Option Addr) (k : Nat) (l : List UInt8) (hb : BR w B 4080 l) (hp : p < n) (h16 : st.length < 16 ∨ findS st p ≠ none) :
  Calls Try.prog 12 #[.pointer (some ⟨gx, 0, none⟩), .int .i64 (p : Int), .slice B 4080 k] w fun e w' => e = .returned (.int .i64 0) ∧ SC w0 w' z n bl T now c recs V im ∧ XG w0 w' z n gx (insS p l st) T U ∧ Off U w w' := by
 obtain ⟨D, P, A, h1, h2, h3, h4, r⟩ := h.ex
 have hpp : P.pages ≤ 4096 := by have := h1.pi.fit; have := h1.pi.d2; omega
 have hl : l.length = 4080 := hb.len
 obtain ⟨e1, e2⟩ := aset_ok (P := P) (A := A) (X := ⟨st, false⟩) rfl h4 (p := p) (by omega) hl h16
 refine (Set_at h1 hx.xz (p : Int) B 4080 k l hb (by omega) (by omega) hx.ok.most).mono ?_
 rw [e1, e2]
 rintro e w' ⟨rfl, a1, a2, a3⟩
 exact ⟨rfl, ⟨D, P, A, a1, h2, h3, h4, r⟩, ⟨a2, hx.ok.ins hp hl h16⟩, a3⟩
set_option maxRecDepth 100000 in
theorem Format_sc (h : SC w0 w z n bl T now c recs V im) (hx : XG w0 w z n gx st T U) (h0 : 0 < n) (h16 : st.length < 16) :
  Calls Try.prog 10 #[.pointer (some ⟨gx, 0, none⟩)] w fun e w' => e = .returned (.int .i64 0) ∧ SC w0 w' z n bl T now c recs V im ∧ XG w0 w' z n gx (insS 0 (turnL zP 0) st) T U ∧ Off U w w' := by
 obtain ⟨D, P, A, h1, h2, h3, h4, r⟩ := h.ex
 have hl : (turnL zP 0).length = 4080 := by rw [turnL_len]; rfl
 obtain ⟨e1, e2⟩ := aset_ok (P := P) (A := A) (X := ⟨st, false⟩) rfl h4 (p := 0) (by omega) hl (.inl h16)
 rw [show ((0 : Nat) : Int) = 0 from rfl, hl] at e1
 rw [show ((0 : Nat) : Int) = 0 from rfl] at e2
 refine (Format_at h1 hx.xz hx.ok.most).mono ?_
 rw [e1, e2]
 rintro e w' ⟨rfl, a1, a2, a3⟩
 exact ⟨rfl, ⟨D, P, A, a1, h2, h3, h4, r⟩, ⟨a2, hx.ok.ins h0 hl (.inl h16)⟩, a3⟩
set_option maxRecDepth 100000 in
theorem Get_sc (h : SC w0 w z n bl T now c recs V im) (hx : XG w0 w z n gx st T U) (p : Nat) (hp : p < n) (hc : c ≤ 900000) :
  Calls Try.prog 11 #[.pointer (some ⟨gx, 0, none⟩), .int .i64 (p : Int)] w fun e w' => ∃ v, e = .returned (.tuple #[v, .int .i64 0]) ∧ OB w' w.heap.size v (nowD now st p) ∧ ∃ T' wn, SC w0 wn z n bl T' now (c + 1) recs V im ∧ XG w0 wn z n gx st T' U ∧ Mv T T' w wn ∧ Below wn.heap.size wn w' ∧ ∀ k, v.ownBlock = some k → wn.heap.size ≤ k := by
 obtain ⟨D, P, A, h1, h2, h3, h4, h5, h6, h7, h8, h9⟩ := h.ex
 have hpp : P.pages ≤ 4096 := by have := h1.pi.fit; have := h1.pi.d2; omega
 obtain ⟨g1, g2, g3, g4, g5⟩ := h2.aget (A := A) (X := ⟨st, false⟩) rfl h4 (p := p) (by omega)
 have hpl := h2.lc.pl
 obtain ⟨s1, s2, s3, s4, s5, s6⟩ := SameG.aget D P A ⟨st, false⟩ (p : Int)
 refine (Get_at h1 hx.xz (p : Int) (by omega) (by omega) (by omega) (by omega)).mono ?_
 rintro e w' ⟨v, rfl, hv, T', wn, a1, a2, a3, a4, a5⟩
 rw [g2] at hv
 rw [g1]
 exact ⟨v, rfl, hv, T', wn, ⟨_, _, A, a1, g3, g5.trans h3, h4, h5, by omega, s5.trans h7, s4.trans h8, s6.trans h9⟩, ⟨a2, hx.ok⟩, a3, a4, a5⟩
set_option maxRecDepth 100000 in
theorem pool_pages {D : EnS} {P : PoS} {A : AtS} {T : Nat → Prop} (h : AZ w0 w z D P A T) : P.pages ≤ 4096 := by
 have := h.pi.fit
 have := h.pi.d2
 omega
set_option maxRecDepth 100000 in
def freeT (tk : Nat → Bool) : Nat → Nat → Nat
 | 0, _ => 0
 | k + 1, p => if tk p = false then p else freeT tk k (p + 1)
set_option maxRecDepth 100000 in
theorem freeL_t {m : List UInt8} {tk : Nat → Bool} (h : MapI m n tk) : ∀ k p, p + k = n → freeL m k p = freeT tk k p
 | 0, _, _ => rfl
 | k + 1, p, hp => by
  unfold freeL freeT
  rw [h.all p (by omega), freeL_t h k (p + 1) (by omega)]
set_option maxRecDepth 100000 in
theorem Take_sc (h : SC w0 w z n bl T now c recs V im) (hx : XG w0 w z n gx st T U) (h16 : st.length + 2 ≤ 16) {tk : Nat → Bool} (hM : MapI (nowD now st 0) n tk) (hn : 1 ≤ n) (hc : c ≤ 900000) :
  Calls Try.prog 6 #[.pointer (some ⟨gx, 0, none⟩)] w fun e w' => ((∀ q, q < n → tk q = true) ∧ e = .returned (.tuple #[.int .i64 0, .int .i64 5]) ∧ CL w0 w z n bl T U gx now (c + 1) recs V im st w') ∨
   ∃ f, 1 ≤ f ∧ f < n ∧ tk f = false ∧ f = freeT tk n 0 ∧ e = .returned (.tuple #[.int .i64 (f : Int), .int .i64 0]) ∧ CL w0 w z n bl T U gx now (c + 1) recs V im (insS 0 (turnL (nowD now st 0) f) (insS f zP st)) w' := by
 obtain ⟨D, P, A, h1, h2, h3, h4, h5, h6, h7, h8, h9⟩ := h.ex
 have hpp := pool_pages h1
 have hpl := h2.lc.pl
 obtain ⟨s1, s2, s3, s4, s5, s6⟩ := SameG.takeR D P A ⟨st, false⟩
 obtain ⟨E', P', t1, t2, t3, t4⟩ := h2.take (A := A) (X := ⟨st, false⟩) rfl h4 (by rw [h3]; exact hx.ok) h16 (by rw [h3]; exact hM) (by omega)
 refine (Take_at h1 hx.xz hx.ok.most (by omega) (by omega)).mono ?_
 rintro e w' ⟨rfl, T', a1, a2, a3, a4⟩
 rcases t4 with ⟨q1, q2⟩ | ⟨f, q1, q2, q3, q5, q4⟩
 ·rw [q2] at a1 a2 s4 s5 s6 ⊢
  dsimp only at a1 a2 s4 s5 s6
  exact .inl ⟨fun q hq => q1 q (by omega), rfl, T', ⟨_, _, A, a1, t1, t2.trans h3, h4, h5, by omega, s5.trans h7, s4.trans h8, s6.trans h9⟩, ⟨a2, hx.ok⟩, a3, a4⟩
 ·rw [q4] at a1 a2 s4 s5 s6 ⊢
  dsimp only at a1 a2 s4 s5 s6
  have hzl : zP.length = 4080 := rfl
  have hx1 := hx.ok.ins (m := zP) (p := f) (by omega) hzl (.inl (by omega))
  have hl1 := ins_len (p := f) (m := zP) hx.ok
  exact .inr ⟨f, q1, by omega, q3, by rw [q5, h3, freeL_t hM n 0 (by omega)], rfl, T', ⟨_, _, A, a1, t1, t2.trans h3, h4, h5, by omega, s5.trans h7, s4.trans h8, s6.trans h9⟩, ⟨a2, hx1.ins (by omega) (by rw [turnL_len]; exact hM.len) (.inl (by omega))⟩, a3, a4⟩
set_option maxRecDepth 100000 in
set_option maxRecDepth 100000 in
theorem Give_sc (h : SC w0 w z n bl T now c recs V im) (hx : XG w0 w z n gx st T U) (h16 : st.length + 1 ≤ 16) {tk : Nat → Bool} (hM : MapI (nowD now st 0) n tk) (hn : 1 ≤ n) (hc : c ≤ 900000) (page : Int) :
  Calls Try.prog 8 #[.pointer (some ⟨gx, 0, none⟩), .int .i64 page] w fun e w' => (¬ (1 ≤ page ∧ page < n ∧ tk page.toNat = true) ∧ e = .returned (.int .i64 2) ∧ CL w0 w z n bl T U gx now (c + 1) recs V im st w') ∨
   ∃ p : Nat, page = p ∧ 1 ≤ p ∧ p < n ∧ tk p = true ∧ e = .returned (.int .i64 0) ∧ CL w0 w z n bl T U gx now (c + 1) recs V im (insS 0 (turnL (nowD now st 0) p) st) w' := by
 obtain ⟨D, P, A, h1, h2, h3, h4, h5, h6, h7, h8, h9⟩ := h.ex
 have hpp := pool_pages h1
 have hpl := h2.lc.pl
 obtain ⟨s1, s2, s3, s4, s5, s6⟩ := SameG.giveR D P A ⟨st, false⟩ page
 obtain ⟨E', P', t1, t2, t3, t4⟩ := h2.give (A := A) (X := ⟨st, false⟩) rfl h4 h16 (by rw [h3]; exact hM) (by omega) page
 refine (Give_at h1 hx.xz page hx.ok.most (by omega) (by omega)).mono ?_
 rintro e w' ⟨rfl, T', a1, a2, a3, a4⟩
 rcases t4 with ⟨p, q1, q2, q3, q4, q5⟩ | ⟨q1, q2⟩
 ·rw [q5] at a1 a2 s4 s5 s6 ⊢
  dsimp only at a1 a2 s4 s5 s6
  exact .inr ⟨p, q1, q2, by omega, q4, rfl, T', ⟨_, _, A, a1, t1, t2.trans h3, h4, h5, by omega, s5.trans h7, s4.trans h8, s6.trans h9⟩, ⟨a2, hx.ok.ins (by omega) (by rw [turnL_len]; exact hM.len) (.inl (by show st.length < 16; omega))⟩, a3, a4⟩
 ·rw [q2] at a1 a2 s4 s5 s6 ⊢
  dsimp only at a1 a2 s4 s5 s6
  rw [h3] at q1
  exact .inl ⟨q1, rfl, T', ⟨_, _, A, a1, t1, t2.trans h3, h4, h5, by omega, s5.trans h7, s4.trans h8, s6.trans h9⟩, ⟨a2, hx.ok⟩, a3, a4⟩
def takenL (tk : Nat → Bool) (n : Nat) : List Nat := (List.range n).filter tk
set_option maxRecDepth 100000 in
theorem allL_is {m : List UInt8} {tk : Nat → Bool} (h : MapI m n tk) : allL m n = takenL tk n := by
 unfold allL takenL
 refine List.filter_congr fun p hp => ?_
 exact h.all p (List.mem_range.1 hp)
set_option maxRecDepth 100000 in
set_option maxRecDepth 100000 in
theorem All_sc (h : SC w0 w z n bl T now c recs V im) (hx : XG w0 w z n gx st T U) {tk : Nat → Bool} (hM : MapI (nowD now st 0) n tk) (hn : 1 ≤ n) (hc : c ≤ 900000) :
  Calls Try.prog 7 #[.pointer (some ⟨gx, 0, none⟩)] w fun e w' => ∃ B k, e = .returned (.tuple #[.slice B (takenL tk n).length k, .int .i64 0]) ∧ w'.ownsRow w.heap.size 3 1 (.slice B (takenL tk n).length k) (takenL tk n).length ((intsL (takenL tk n)).map (Value.int .i64)) ∧
   ∃ T', SC w0 w' z n bl T' now (c + 1) recs V im ∧ XG w0 w' z n gx st T' U ∧ Mv T T' w w' ∧ ∀ j, (Value.slice B (takenL tk n).length k).ownBlock = some j → ¬ T' j := by
 obtain ⟨D, P, A, h1, h2, h3, h4, h5, h6, h7, h8, h9⟩ := h.ex
 have hpp := pool_pages h1
 have hpl := h2.lc.pl
 obtain ⟨g1, g2, g3, g4, g5⟩ := h2.aget (A := A) (X := ⟨st, false⟩) rfl h4 (p := 0) (by omega)
 rw [show ((0 : Nat) : Int) = 0 from rfl] at g1 g2 g3 g4 g5
 obtain ⟨s1, s2, s3, s4, s5, s6⟩ := SameG.aget D P A ⟨st, false⟩ 0
 have hpm : pmE D P A ⟨st, false⟩ = 0 := by
  unfold pmE
  rw [g1, if_neg (by exact fun h => h rfl), g2, h3, hM.is hn, if_pos rfl]
 have hal : sallL D P A ⟨st, false⟩ = takenL tk n := by
  unfold sallL
  rw [if_pos hpm, g2, h3]
  exact allL_is hM
 refine (All_at h1 hx.xz (by omega) (by omega)).mono ?_
 rw [hal, hpm]
 rintro e w' ⟨B, k, rfl, hr, T', a1, a2, a3, a4⟩
 dsimp only at a1 a2
 exact ⟨B, k, rfl, hr, T', ⟨_, _, A, a1, g3, g5.trans h3, h4, h5, by omega, s5.trans h7, s4.trans h8, s6.trans h9⟩, ⟨a2, hx.ok⟩, a3, a4⟩
end
end Go.Proofs.Ytnkeclpgpiogoaa

/-! SmI -/
namespace Go.Proofs.Ytnkeclpgpiogoaa
open Go Go.RowKit
set_option maxRecDepth 100000 in
set_option maxHeartbeats 1000000 in
theorem SameInts_any (A B : Option Addr) (n m c d : Nat) (a b : List Int) (w : World) (ha : IR w A n a) (hb : IR w B m b) (hn : n ≤ 1000000) (hm : m ≤ 1000000) :
  Calls Try.prog 29 #[.slice A n c, .slice B m d] w fun e w' => e = .returned (.bool (a == b)) ∧ Below w.heap.size w w' := by
 have la := ha.len
 have lb := hb.len
 by_cases hnm : n = m
 ·subst hnm
  have t0 : ((n : Int) != (n : Int)) = false := by simp
  have HEQ : Hid (∀ k : Nat, k < n → a.getD k 0 ≠ b.getD k 0 → (a == b) = false) := Lib.hid (fun k _ he => by
   rw [beq_eq_false_iff_ne]
   rintro rfl
   exact he rfl)
  have HEND : Hid ((∀ k : Nat, k < n → a.getD k 0 = b.getD k 0) → (a == b) = true) := Lib.hid (fun he => by
   rw [beq_iff_eq]
   refine List.ext_getElem (by omega) (fun i h1 h2 => ?_)
   have := he i (by omega)
   simpa [List.getD, List.getElem?_eq_getElem h1, List.getElem?_eq_getElem h2] using this)
  generalize (a == b) = r at *
  clear la lb
  go_enter Try.func29, Try.ntmps29
  go_wp2_with fail
  go_loopw [5] (fun i wr => ∃ k : Nat, k ≤ n ∧ i = .int .i64 k ∧ Hid (∀ j : Nat, j < k → a.getD j 0 = b.getD j 0) ∧ Below w.heap.size w wr) (fun i _ => n - (RowKit.intOf i).toNat)
  case atStart => exact ⟨0, by omega, rfl, Lib.hid (fun j hj => by omega), gr_refl w⟩
  case round =>
   obtain ⟨k, hk, rfl, HK, hw⟩ := hrel
   by_cases hlt : k < n
   ·have t1 : decide ((k : Int) < (n : Int)) = true := by simp; omega
    have t2 : decide (k < n) = true := by simp; omega
    have i0 : (0 : Int) ≤ (k : Int) := Int.natCast_nonneg _
    have i1 : (k : Int) < (n : Int) := by omega
    obtain ⟨g1, o1, rfl, h1⟩ := ha.at_ hlt
    obtain ⟨g2, o2, rfl, h2⟩ := hb.at_ hlt
    have c1 := keep_of_below hw h1
    have c2 := keep_of_below hw h2
    by_cases he : a.getD k 0 = b.getD k 0
    ·have HK' : Hid (∀ j : Nat, j < k + 1 → a.getD j 0 = b.getD j 0) := Lib.hid (fun j hj => by
      rcases Nat.lt_or_ge j k with h | h
      ·exact HK.out j h
      ·rw [show j = k by omega]; exact he)
     rw [← he] at c2
     clear h1 h2 he
     generalize a.getD k 0 = x at c1 c2
     have t3 : (x != x) = false := by simp
     go_wp2_with fail
     go_quiet (fail)
     go_wp2_with fail
     go_roundw
     case rel => exact ⟨k + 1, by omega, by go_num, HK', gr_drewN hw _⟩
     case measure => simp [RowKit.intOf]; omega
    ·obtain rfl := HEQ.out k hlt he
     clear h1 h2
     have t3 : (a.getD k 0 != b.getD k 0) = true := by simpa using he
     clear he HEQ HEND HK
     generalize a.getD k 0 = x at *
     generalize b.getD k 0 = y at *
     go_wp2_with fail
     go_quiet (fail)
     go_wp2_with fail
     go_ret
     exact ⟨rfl, gr_drewN hw _⟩
   ·have t1 : decide ((k : Int) < (n : Int)) = false := by simp; omega
    have t2 : decide (k < n) = false := by simp; omega
    obtain rfl := HEND.out (fun j hj => HK.out j (by omega))
    go_wp2_with fail
    go_ret
    exact ⟨rfl, hw⟩
 ·have t0 : ((n : Int) != (m : Int)) = true := by simp; omega
  have hr : (a == b) = false := by
   rw [beq_eq_false_iff_ne]
   rintro rfl
   omega
  rw [hr]
  clear hr
  go_enter Try.func29, Try.ntmps29
  go_wp2_with fail
  go_ret
  exact ⟨rfl, gr_refl w⟩
end Go.Proofs.Ytnkeclpgpiogoaa

/-! AtS -/
namespace Go.Proofs.Ytnkeclpgpiogoaa
open Go Go.RowKit Go.Maps
set_option maxRecDepth 100000 in
theorem sorted_len : ∀ (l : List Nat) (a n : Nat), l.Pairwise (· < ·) → (∀ x ∈ l, a ≤ x ∧ x < n) → l.length ≤ n - a
 | [], _, _, _, _ => Nat.zero_le _
 | x :: r, a, n, h, hx => by
  have h' := List.pairwise_cons.1 h
  have h1 := hx x (List.mem_cons_self ..)
  have := sorted_len r (x + 1) n h'.2 (fun y hy => ⟨h'.1 y hy, (hx y (List.mem_cons_of_mem _ hy)).2⟩)
  rw [List.length_cons]
  omega
set_option maxRecDepth 100000 in
theorem XOk.len_le {n : Nat} {st : List (Nat × List UInt8)} (h : XOk n st) : st.length ≤ n := by
 have := sorted_len (st.map Prod.fst) 0 n h.srt (fun x hx => by
  obtain ⟨e, he, rfl⟩ := List.mem_map.1 hx
  exact ⟨Nat.zero_le _, (h.ok e he).1⟩)
 rwa [List.length_map] at this
set_option maxRecDepth 100000 in
theorem nowD0 {now : Nat → List UInt8} {m : List UInt8} {st : List (Nat × List UInt8)} : nowD now (insS 0 m st) 0 = m := by
 rw [nowD_ins]
 unfold updN
 rw [if_pos rfl]
section
variable {w0 w w' : World} {z : Wh} {n bl : Nat} {T : Nat → Prop}
set_option maxRecDepth 100000 in
theorem SC.new11 {gj gb : Nat} (h : AZ w0 w z (made11E n gj gb) (newP 400 n 4 1 0) newA T) (hn : n ≤ 40) : SC w0 w z n 400 T (fun _ => zP) 0 [] 0 [] :=
 ⟨_, _, _, h, CI.new (by omega) (by omega) (by omega) (by omega) (by omega), rfl, rfl, rfl, Nat.le_refl _, rfl, rfl, rfl⟩
set_option maxRecDepth 100000 in
theorem MapI.fmt {now : Nat → List UInt8} {st : List (Nat × List UInt8)} (hn : 1 ≤ n) : MapI (nowD now (insS 0 (turnL zP 0) st) 0) n (fun p => decide (p = 0)) := by
 rw [nowD0]
 exact MapI.new hn
set_option maxRecDepth 100000 in
theorem MapI.tkn {now : Nat → List UInt8} {st st2 : List (Nat × List UInt8)} {tk : Nat → Bool} (h : MapI (nowD now st 0) n tk) {f : Nat} (h0 : f ≠ 0) (hf : f < n) (hn : n ≤ 4096) : MapI (nowD now (insS 0 (turnL (nowD now st 0) f) st2) 0) n (updB tk f (!tk f)) := by
 rw [nowD0]
 exact h.turn hf (by omega) h0
end
def tkA : Nat → Bool := fun p => decide (p = 0)
def tkB : Nat → Bool := updB tkA 1 (!tkA 1)
def tkC : Nat → Bool := updB tkB 2 (!tkB 2)
def tkD : Nat → Bool := updB tkC 1 (!tkC 1)
def tkE : Nat → Bool := updB tkD 1 (!tkD 1)
set_option maxRecDepth 100000 in
set_option maxHeartbeats 1000000 in
theorem awake11_any (w : World) : Calls Try.prog 13 #[] w fun e w' => e = .returned (.bool true) ∧ Below w.heap.size w w' := by
 have HM := Lib.hid (made11_any 7 w w (gr_refl w))
 go_enter Try.func13, Try.ntmps13
 go_wp2_with fail
 refine HM.out.mono ?_
 rintro e w1 ⟨z, gj, gb, T, rfl, haz, hb1⟩
 rw [show n11 7 = 8 from rfl] at haz
 have hs1 := SC.new11 haz (by omega)
 have HB := Lib.hid (Begin_sc hs1)
 clear haz hb1 hs1
 go_wp2_with fail
 refine HB.out.mono ?_
 rintro e w2 ⟨gx, U, rfl, hs2, hx2, _, _, _⟩
 have HF := Lib.hid (Format_sc hs2 hx2 (by omega) (by simp))
 clear hs2 hx2
 go_wp2_with fail
 refine HF.out.mono ?_
 rintro e w3 ⟨rfl, hs3, hx3, _⟩
 have hm3 : MapI (nowD (fun _ => zP) (insS 0 (turnL zP 0) []) 0) 8 tkA := MapI.fmt (by omega)
 have HT1 := Lib.hid (Take_sc hs3 hx3 (by have := hx3.ok.len_le; omega) hm3 (by omega) (by omega))
 generalize insS 0 (turnL zP 0) [] = st3 at *
 have HM3 := Lib.hid hm3
 clear hs3 hx3 hm3
 go_wp2_with fail
 refine HT1.out.mono ?_
 rintro e w4 (⟨q, _⟩ | ⟨f, _, _, _, hf, rfl, T4, hs4, hx4, _, _⟩)
 ·exact absurd (q 1 (by omega)) (by decide)
 obtain rfl : f = 1 := by rw [hf]; rfl
 have hm4 : MapI _ 8 tkB := HM3.out.tkn (st2 := insS 1 zP st3) (f := 1) (by omega) (by omega) (by omega)
 have HT2 := Lib.hid (Take_sc hs4 hx4 (by have := hx4.ok.len_le; omega) hm4 (by omega) (by omega))
 have HM4 := Lib.hid hm4
 generalize insS 0 (turnL (nowD (fun _ => zP) st3 0) 1) (insS 1 zP st3) = st4 at *
 clear hs4 hx4 hf hm4
 go_wp2_with fail
 refine HT2.out.mono ?_
 rintro e w5 (⟨q, _⟩ | ⟨f, _, _, _, hf, rfl, T5, hs5, hx5, _, _⟩)
 ·exact absurd (q 2 (by omega)) (by decide)
 obtain rfl : f = 2 := by rw [hf]; rfl
 have hm5 : MapI _ 8 tkC := HM4.out.tkn (st2 := insS 2 zP st4) (f := 2) (by omega) (by omega) (by omega)
 have HG := Lib.hid (Give_sc hs5 hx5 (by have := hx5.ok.len_le; omega) hm5 (by omega) (by omega) 1)
 have HM5 := Lib.hid hm5
 generalize insS 0 (turnL (nowD (fun _ => zP) st4 0) 2) (insS 2 zP st4) = st5 at *
 clear hs5 hx5 hf hm5
 go_wp2_with fail
 refine HG.out.mono ?_
 rintro e w6 (⟨q, _⟩ | ⟨f, hf, _, _, _, rfl, T6, hs6, hx6, _, _⟩)
 ·exact absurd ⟨by omega, by omega, by decide⟩ q
 obtain rfl : f = 1 := by omega
 have hm6 : MapI _ 8 tkD := HM5.out.tkn (st2 := st5) (f := 1) (by omega) (by omega) (by omega)
 have HT3 := Lib.hid (Take_sc hs6 hx6 (by have := hx6.ok.len_le; omega) hm6 (by omega) (by omega))
 have HM6 := Lib.hid hm6
 generalize insS 0 (turnL (nowD (fun _ => zP) st5 0) 1) st5 = st6 at *
 clear hs6 hx6 hf hm6
 go_wp2_with fail
 refine HT3.out.mono ?_
 rintro e w7 (⟨q, _⟩ | ⟨f, _, _, _, hf, rfl, T7, hs7, hx7, _, _⟩)
 ·exact absurd (q 1 (by omega)) (by decide)
 obtain rfl : f = 1 := by rw [hf]; rfl
 have hm7 : MapI _ 8 tkE := HM6.out.tkn (st2 := insS 1 zP st6) (f := 1) (by omega) (by omega) (by omega)
 have HA := Lib.hid (All_sc hs7 hx7 hm7 (by omega) (by omega))
 clear hs7 hx7 hf hm7
 rw [show takenL tkE 8 = [0, 1, 2] by decide] at HA
 go_wp2_with fail
 refine HA.out.mono ?_
 rintro e w8 ⟨B, k, rfl, hr, T8, hs8, hx8, _, _⟩
 have HBL : Hid (∀ w9, Below w8.heap.size w8 w9 → Below w.heap.size w w9) := Lib.hid (fun w9 hb => by
  obtain ⟨D, P, A, h1, _⟩ := hs8.ex
  exact gr_trans h1.bel hb)
 have HIR := Lib.hid (IR.of_own hr)
 clear hs8 hx8 hr
 go_wp2_with fail
 refine (SameInts_any B (some ⟨w8.heap.size, 0, none⟩) 3 3 k 3 [0, 1, 2] [0, 1, 2] _ (HIR.out.below (gr_alloc (gr_refl w8) _)) (IR.litAt w8 3 [0, 1, 2] #[.int .i64 0, .int .i64 1, .int .i64 2] w8.heap.size 3 rfl rfl rfl) (by omega) (by omega)).mono ?_
 rintro e w9 ⟨rfl, hb9⟩
 have HF := Lib.hid (HBL.out w9 (gr_trans (gr_alloc (gr_refl w8) _) hb9))
 clear hb9
 rw [show (([0, 1, 2] : List Int) == [0, 1, 2]) = true from rfl]
 go_wp2_with fail
 go_ret
 exact ⟨rfl, HF.out⟩
end Go.Proofs.Ytnkeclpgpiogoaa

/-! AtV -/
namespace Go.Proofs.Ytnkeclpgpiogoaa
open Go Go.RowKit Go.Maps
set_option maxRecDepth 100000 in
theorem no_zP (n : Nat) : isMap zP n = false := by
 unfold isMap
 rw [show hasB zP 0 = false by decide +kernel, Bool.false_and]
set_option maxRecDepth 100000 in
theorem no_out {m : List UInt8} {n p : Nat} (h1 : n ≤ p) (h2 : p < 32640) (h : hasB m p = true) : isMap m n = false := by
 cases he : isMap m n with
 | false => rfl
 | true =>
  unfold isMap at he
  rw [Bool.and_eq_true, List.all_eq_true] at he
  have := he.2 p (List.mem_range.2 h2)
  rw [h, decide_eq_false (by omega)] at this
  cases this
section
variable {w0 w w1 w' : World} {z : Wh} {n bl c V : Nat} {T T1 T' U : Nat → Prop} {now : Nat → List UInt8} {recs : List Rec} {im : List (Nat × Unit)} {gx : Nat} {st : List (Nat × List UInt8)}
set_option maxRecDepth 100000 in
theorem pm_no {D : EnS} {P : PoS} {A : AtS} (h2 : CI D P now recs V) (h3 : P.pages = n) (h4 : A.br = false) (hM : isMap (nowD now st 0) n = false) (hn : 1 ≤ n) : pmE D P A ⟨st, false⟩ = 170 := by
 obtain ⟨g1, g2, g3, g4, g5⟩ := h2.aget (A := A) (X := ⟨st, false⟩) rfl h4 (p := 0) (by omega)
 rw [show ((0 : Nat) : Int) = 0 from rfl] at g1 g2
 unfold pmE
 rw [g1, if_neg (by exact fun h => h rfl), g2, h3, hM, if_neg Bool.false_ne_true]
set_option maxRecDepth 100000 in
theorem Take_no (h : SC w0 w z n bl T now c recs V im) (hx : XG w0 w z n gx st T U) (hM : isMap (nowD now st 0) n = false) (hn : 1 ≤ n) (hc : c ≤ 900000) :
  Calls Try.prog 6 #[.pointer (some ⟨gx, 0, none⟩)] w fun e w' => e = .returned (.tuple #[.int .i64 0, .int .i64 170]) ∧ CL w0 w z n bl T U gx now (c + 1) recs V im st w' := by
 obtain ⟨D, P, A, h1, h2, h3, h4, h5, h6, h7, h8, h9⟩ := h.ex
 have hpp := pool_pages h1
 have hpl := h2.lc.pl
 obtain ⟨s1, s2, s3, s4, s5, s6⟩ := SameG.aget D P A ⟨st, false⟩ 0
 obtain ⟨g1, g2, g3, g4, g5⟩ := h2.aget (A := A) (X := ⟨st, false⟩) rfl h4 (p := 0) (by omega)
 rw [show ((0 : Nat) : Int) = 0 from rfl] at g1 g2 g3 g4 g5
 have hpm := pm_no (A := A) (st := st) h2 h3 h4 hM hn
 have ht : takeR D P A ⟨st, false⟩ = ⟨(agetR D P A ⟨st, false⟩ 0).1, (agetR D P A ⟨st, false⟩ 0).2.1, ⟨st, false⟩, 0, 170⟩ := by
  unfold takeR
  dsimp only
  rw [hpm, if_pos (by decide)]
 refine (Take_at h1 hx.xz hx.ok.most (by omega) (by omega)).mono ?_
 rw [ht]
 rintro e w' ⟨rfl, T', a1, a2, a3, a4⟩
 dsimp only at a1 a2
 exact ⟨rfl, T', ⟨_, _, A, a1, g3, g5.trans h3, h4, h5, by omega, s5.trans h7, s4.trans h8, s6.trans h9⟩, ⟨a2, hx.ok⟩, a3, a4⟩
set_option maxRecDepth 100000 in
theorem Give_no (h : SC w0 w z n bl T now c recs V im) (hx : XG w0 w z n gx st T U) (hM : isMap (nowD now st 0) n = false) (hn : 1 ≤ n) (hc : c ≤ 900000) (page : Int) :
  Calls Try.prog 8 #[.pointer (some ⟨gx, 0, none⟩), .int .i64 page] w fun e w' => e = .returned (.int .i64 170) ∧ CL w0 w z n bl T U gx now (c + 1) recs V im st w' := by
 obtain ⟨D, P, A, h1, h2, h3, h4, h5, h6, h7, h8, h9⟩ := h.ex
 have hpp := pool_pages h1
 have hpl := h2.lc.pl
 obtain ⟨s1, s2, s3, s4, s5, s6⟩ := SameG.aget D P A ⟨st, false⟩ 0
 obtain ⟨g1, g2, g3, g4, g5⟩ := h2.aget (A := A) (X := ⟨st, false⟩) rfl h4 (p := 0) (by omega)
 rw [show ((0 : Nat) : Int) = 0 from rfl] at g1 g2 g3 g4 g5
 have hpm := pm_no (A := A) (st := st) h2 h3 h4 hM hn
 have ht : giveR D P A ⟨st, false⟩ page = ⟨(agetR D P A ⟨st, false⟩ 0).1, (agetR D P A ⟨st, false⟩ 0).2.1, ⟨st, false⟩, 0, 170⟩ := by
  unfold giveR
  dsimp only
  rw [hpm, if_pos (by decide)]
 refine (Give_at h1 hx.xz page hx.ok.most (by omega) (by omega)).mono ?_
 rw [ht]
 rintro e w' ⟨rfl, T', a1, a2, a3, a4⟩
 dsimp only at a1 a2
 exact ⟨rfl, T', ⟨_, _, A, a1, g3, g5.trans h3, h4, h5, by omega, s5.trans h7, s4.trans h8, s6.trans h9⟩, ⟨a2, hx.ok⟩, a3, a4⟩
set_option maxRecDepth 100000 in
theorem All_no (h : SC w0 w z n bl T now c recs V im) (hx : XG w0 w z n gx st T U) (hM : isMap (nowD now st 0) n = false) (hn : 1 ≤ n) (hc : c ≤ 900000) :
  Calls Try.prog 7 #[.pointer (some ⟨gx, 0, none⟩)] w fun e w' => ∃ B k, e = .returned (.tuple #[.slice B 0 k, .int .i64 170]) ∧ ∃ T', SC w0 w' z n bl T' now (c + 1) recs V im ∧ XG w0 w' z n gx st T' U ∧ Mv T T' w w' := by
 obtain ⟨D, P, A, h1, h2, h3, h4, h5, h6, h7, h8, h9⟩ := h.ex
 have hpp := pool_pages h1
 have hpl := h2.lc.pl
 obtain ⟨s1, s2, s3, s4, s5, s6⟩ := SameG.aget D P A ⟨st, false⟩ 0
 obtain ⟨g1, g2, g3, g4, g5⟩ := h2.aget (A := A) (X := ⟨st, false⟩) rfl h4 (p := 0) (by omega)
 rw [show ((0 : Nat) : Int) = 0 from rfl] at g1 g2 g3 g4 g5
 have hpm := pm_no (A := A) (st := st) h2 h3 h4 hM hn
 have hal : sallL D P A ⟨st, false⟩ = [] := by
  unfold sallL
  rw [hpm, if_neg (by decide)]
 refine (All_at h1 hx.xz (by omega) (by omega)).mono ?_
 rw [hal, hpm]
 rintro e w' ⟨B, k, rfl, hr, T', a1, a2, a3, a4⟩
 dsimp only at a1 a2
 exact ⟨B, k, rfl, T', ⟨_, _, A, a1, g3, g5.trans h3, h4, h5, by omega, s5.trans h7, s4.trans h8, s6.trans h9⟩, ⟨a2, hx.ok⟩, a3⟩
end
set_option maxRecDepth 100000 in
theorem pageMap_un {p : Option Addr} {w : World} (h : Unm0 p w) :
  Calls Try.prog 22 #[.pointer p] w fun e w' => e = .returned (.tuple #[.slice none 0 0, .int .i64 1]) ∧ w = w' := by
 have HM := Lib.hid (AGet_un h 0)
 clear h
 go_enter Try.func22, Try.ntmps22
 go_wp2_with fail
 refine HM.out.mono ?_
 rintro e w' ⟨rfl, rfl⟩
 go_wp2_with fail
 go_ret2
 exact ⟨rfl, rfl⟩
set_option maxRecDepth 100000 in
theorem Take_un {p : Option Addr} {w : World} (h : Unm0 p w) :
  Calls Try.prog 6 #[.pointer p] w fun e w' => e = .returned (.tuple #[.int .i64 0, .int .i64 1]) ∧ w = w' := by
 have HM := Lib.hid (pageMap_un h)
 clear h
 go_enter Try.func6, Try.ntmps6
 go_wp2_with fail
 refine wp_scope_straight ?_
 go_wp2_with fail
 refine HM.out.mono ?_
 rintro e w' ⟨rfl, rfl⟩
 go_wp2_with fail
 rw [Exit.noGoto_ret]
 go_ret2
 exact ⟨rfl, rfl⟩
set_option maxRecDepth 100000 in
theorem Format_un (w : World) :
  Calls Try.prog 10 #[.pointer none] w fun e w' => e = .returned (.int .i64 1) ∧ Below w.heap.size w w' := by
 have hmk := run_mk_bytes 4080 (by omega) 4080 rfl w
 have HO : Hid (OB (w.alloc (.cells (zeroB 4080) 5)) w.heap.size (.slice (some ⟨w.heap.size, 0, none⟩) 4080 4080) zP) := Lib.hid (OB.zero w 4080 (by decide))
 go_enter Try.func10, Try.ntmps10
 go_wp2_with fail
 refine (turn_any w.heap.size w.heap.size 4080 zP 0 _ HO.out (by decide +kernel) (by omega)).mono ?_
 rintro e w1 ⟨rfl, ho1, hf1⟩
 have HB : Hid (Below w.heap.size w w1) := Lib.hid ((gr_alloc (gr_refl w) _).trans (hf1.below (fun k e => Nat.le_of_eq e.symm) (by rw [World.size_alloc]; omega)))
 clear ho1 hf1
 go_wp2_with fail
 refine (ASet_un (p := none) (w := w1) (.inl rfl) 0 (some ⟨w.heap.size, 0, none⟩) 4080 4080).mono ?_
 rintro e w2 ⟨rfl, rfl⟩
 go_wp2_with fail
 go_ret
 exact ⟨rfl, HB.out⟩
end Go.Proofs.Ytnkeclpgpiogoaa

/-! AtW -/
namespace Go.Proofs.Ytnkeclpgpiogoaa
open Go Go.RowKit Go.Maps
section
variable {w0 w w1 w' : World} {z : Wh} {n bl c V : Nat} {T T1 T' U : Nat → Prop} {now : Nat → List UInt8} {recs : List Rec} {im : List (Nat × Unit)} {gx : Nat} {st : List (Nat × List UInt8)} {D : EnS} {P : PoS} {A : AtS} {X : AxS}
def STn (w0 w : World) (z : Wh) (gx : Nat) (A : AtS) (X : AxS) (T U : Nat → Prop) (r : ARes) (e : Ending) (w' : World) : Prop :=
 e = .returned (.tuple #[.bool false, .int .i64 (if r.2.2 ≠ 0 then r.2.2 else 2)]) ∧ ∃ T', AZ w0 w' z r.1 r.2.1 A T' ∧ XZ w' w0.heap.size z.ga gx X T' U ∧ Mv T T' w w'
set_option maxRecDepth 100000 in
set_option maxHeartbeats 1000000 in
theorem Taken_bad (ha : AZ w0 w z D P A T) (hx : XZ w w0.heap.size z.ga gx X T U) (page : Int) (hpd : D.d.pending.length ≤ 900000) (hct : P.count ≤ 1152921504606846976) (hp : pmE D P A X ≠ 0 ∨ page < 0 ∨ (P.pages : Int) ≤ page) :
  Calls Try.prog 9 #[.pointer (some ⟨gx, 0, none⟩), .int .i64 page] w (STn w0 w z gx A X T U ((agetR D P A X 0).1, (agetR D P A X 0).2.1, pmE D P A X)) := by
 have HG := Lib.hid (pageMap_at ha hx hpd hct)
 have hpp : P.pages ≤ 4096 := by have := ha.pi.fit; have := ha.pi.d2; omega
 have hpg := agetR_pages D P A X 0
 clear ha hx hpd hct
 generalize pmL D P A X = ml at *
 generalize pmE D P A X = pe at *
 generalize agetR D P A X 0 = R at *
 obtain ⟨D1, P1, e1⟩ := R
 dsimp only at *
 have HPG := Lib.hid hpg
 clear hpg
 by_cases hpe : pe = 0
 ·subst hpe
  have hp2 : page < 0 ∨ (P.pages : Int) ≤ page := hp.resolve_left (fun h => h rfl)
  clear hp
  obtain ⟨N, hN⟩ : ∃ N, N = P.pages := ⟨_, rfl⟩
  rw [← hN] at hpp HPG hp2
  clear hN
  go_enter Try.func9, Try.ntmps9
  go_wp2_with fail
  refine HG.out.mono ?_
  rintro e w1 ⟨v, rfl, hv, T1, wn, han, hxn, hmn, hbn, hvn⟩
  dsimp only at han ⊢
  have HPA : Hid (Calls Try.prog 23 #[.pointer (some ⟨gx, 0, none⟩)] w1 fun e w' => e = .returned (.int .i64 (N : Int)) ∧ w1 = w') := Lib.hid (by
   rw [← HPG.out]
   exact Pages_az (han.below hbn) (hxn.below hbn))
  have HF : Hid (STn w0 w z gx A X T U (D1, P1, 0) (.returned (.tuple #[.bool false, .int .i64 2])) w1) := Lib.hid ⟨rfl, T1, han.below hbn, hxn.below hbn, hmn.trans (Mv.of_below hbn)⟩
  obtain ⟨Bv, cv, rfl, _⟩ := hv.form
  clear hv han hxn hmn hbn hvn
  by_cases hn : page < 0
  ·have t1 : decide (page < 0) = true := decide_eq_true hn
   clear hp2
   go_wp2_with fail
   go_ret2
   exact HF.out
  ·have t1 : decide (page < 0) = false := decide_eq_false hn
   have t2 : decide ((N : Int) ≤ page) = true := decide_eq_true (hp2.resolve_left hn)
   have t3 : decide (page ≥ (N : Int)) = true := t2
   clear hp2
   go_wp2_with fail
   refine HPA.out.mono ?_
   rintro e w2 ⟨rfl, rfl⟩
   go_wp2_with fail
   go_ret2
   exact HF.out
 ·have t1 : (pe != 0) = true := by rw [bne_iff_ne]; exact hpe
  go_enter Try.func9, Try.ntmps9
  go_wp2_with fail
  refine HG.out.mono ?_
  rintro e w1 ⟨v, rfl, hv, T1, wn, han, hxn, hmn, hbn, hvn⟩
  dsimp only at han ⊢
  have HF : Hid (STn w0 w z gx A X T U (D1, P1, pe) (.returned (.tuple #[.bool false, .int .i64 pe])) w1) := Lib.hid ⟨by show _ = Ending.returned (Value.tuple #[.bool false, .int .i64 (if pe ≠ 0 then pe else 2)]); rw [if_pos hpe], T1, han.below hbn, hxn.below hbn, hmn.trans (Mv.of_below hbn)⟩
  obtain ⟨Bv, cv, rfl, _⟩ := hv.form
  clear hpe hp hv han hxn hmn hbn hvn
  go_wp2_with fail
  go_ret2
  exact HF.out
set_option maxRecDepth 100000 in
theorem Taken_no (h : SC w0 w z n bl T now c recs V im) (hx : XG w0 w z n gx st T U) (hM : isMap (nowD now st 0) n = false) (hn : 1 ≤ n) (hc : c ≤ 900000) (page : Int) :
  Calls Try.prog 9 #[.pointer (some ⟨gx, 0, none⟩), .int .i64 page] w fun e w' => e = .returned (.tuple #[.bool false, .int .i64 170]) ∧ ∃ T', SC w0 w' z n bl T' now (c + 1) recs V im ∧ XG w0 w' z n gx st T' U ∧ Mv T T' w w' := by
 obtain ⟨D, P, A, h1, h2, h3, h4, h5, h6, h7, h8, h9⟩ := h.ex
 have hpp := pool_pages h1
 have hpl := h2.lc.pl
 obtain ⟨s1, s2, s3, s4, s5, s6⟩ := SameG.aget D P A ⟨st, false⟩ 0
 obtain ⟨g1, g2, g3, g4, g5⟩ := h2.aget (A := A) (X := ⟨st, false⟩) rfl h4 (p := 0) (by omega)
 rw [show ((0 : Nat) : Int) = 0 from rfl] at g1 g2 g3 g4 g5
 have hpm := pm_no (A := A) (st := st) h2 h3 h4 hM hn
 refine (Taken_bad h1 hx.xz page (by omega) (by omega) (.inl (by rw [hpm]; decide))).mono ?_
 rw [hpm]
 rintro e w' ⟨rfl, T', a1, a2, a3⟩
 dsimp only at a1 a2
 exact ⟨rfl, T', ⟨_, _, A, a1, g3, g5.trans h3, h4, h5, by omega, s5.trans h7, s4.trans h8, s6.trans h9⟩, ⟨a2, hx.ok⟩, a3⟩
set_option maxRecDepth 100000 in
theorem Taken_out (h : SC w0 w z n bl T now c recs V im) (hx : XG w0 w z n gx st T U) {tk : Nat → Bool} (hM : MapI (nowD now st 0) n tk) (hn : 1 ≤ n) (hc : c ≤ 900000) (page : Int) (hp : page < 0 ∨ (n : Int) ≤ page) :
  Calls Try.prog 9 #[.pointer (some ⟨gx, 0, none⟩), .int .i64 page] w fun e w' => e = .returned (.tuple #[.bool false, .int .i64 2]) ∧ ∃ T', SC w0 w' z n bl T' now (c + 1) recs V im ∧ XG w0 w' z n gx st T' U ∧ Mv T T' w w' := by
 obtain ⟨D, P, A, h1, h2, h3, h4, h5, h6, h7, h8, h9⟩ := h.ex
 have hpp := pool_pages h1
 have hpl := h2.lc.pl
 obtain ⟨s1, s2, s3, s4, s5, s6⟩ := SameG.aget D P A ⟨st, false⟩ 0
 obtain ⟨g1, g2, g3, g4, g5⟩ := h2.aget (A := A) (X := ⟨st, false⟩) rfl h4 (p := 0) (by omega)
 rw [show ((0 : Nat) : Int) = 0 from rfl] at g1 g2 g3 g4 g5
 have hpm : pmE D P A ⟨st, false⟩ = 0 := by
  unfold pmE
  rw [g1, if_neg (by exact fun h => h rfl), g2, h3, hM.is hn, if_pos rfl]
 refine (Taken_bad h1 hx.xz page (by omega) (by omega) (.inr (by rw [h3]; exact hp))).mono ?_
 rw [hpm]
 rintro e w' ⟨rfl, T', a1, a2, a3⟩
 dsimp only at a1 a2
 exact ⟨rfl, T', ⟨_, _, A, a1, g3, g5.trans h3, h4, h5, by omega, s5.trans h7, s4.trans h8, s6.trans h9⟩, ⟨a2, hx.ok⟩, a3⟩
end
def tkN (k : Nat) : Nat → Bool := fun p => decide (p ≤ k)
set_option maxRecDepth 100000 in
theorem tkN0 : (fun p => decide (p = 0)) = tkN 0 := by
 funext p
 unfold tkN
 by_cases h : p = 0
 ·rw [decide_eq_true h, decide_eq_true (by omega)]
 ·rw [decide_eq_false h, decide_eq_false (by omega)]
set_option maxRecDepth 100000 in
theorem tkN_succ (k : Nat) : updB (tkN k) (k + 1) (!tkN k (k + 1)) = tkN (k + 1) := by
 funext p
 unfold updB tkN
 rw [decide_eq_false (show ¬ k + 1 ≤ k by omega)]
 by_cases h : p = k + 1
 ·rw [if_pos h, decide_eq_true (by omega)]
  rfl
 ·rw [if_neg h]
  by_cases h2 : p ≤ k
  ·rw [decide_eq_true h2, decide_eq_true (by omega)]
  ·rw [decide_eq_false h2, decide_eq_false (by omega)]
set_option maxRecDepth 100000 in
theorem freeN : ∀ k, k < 7 → freeT (tkN k) 8 0 = k + 1 := by decide
end Go.Proofs.Ytnkeclpgpiogoaa
