/-
  The walk of SpaceThrown.
-/
import Derived.Test.YtnkeclpgpiogoaaGreatPkA9
namespace Go.Proofs.YtnkeclpgpiogoaaGreat
open Go Go.RowKit Go.Maps
set_option maxRecDepth 100000 in
theorem TUmv {T T' U : Nat → Prop} {w w' : World} (h : Mv T T' w w') : Mv (TU T U) (TU T' U) w w' :=
 ⟨h.1.mono fun _ _ e => .inl e, fun k e => e.elim (fun e => (h.2 k e).imp .inl id) (fun e => .inl (.inr e))⟩
structure ThI (w wr : World) (z : Wh) (n gx : Nat) (now : Nat → List UInt8) (recs : List Rec) (V : Nat) (im : List (Nat × Unit)) (U : Nat → Prop) (B : Option Addr) (kb : Nat) (tl : List Nat) (k : Nat) : Prop where
 ex : ∃ T st, SC w wr z n 400 T now (100 + k) recs V im ∧ YI w wr z n gx st T U now k ∧ Keep wr (TU T U) (fun W => W.ownsRow w.heap.size 3 1 (.slice B tl.length kb) tl.length ((intsL tl).map (Value.int .i64)))
set_option maxRecDepth 100000 in
theorem CY.thi {w w1 w' : World} {z : Wh} {n gx : Nat} {now : Nat → List UInt8} {recs : List Rec} {V : Nat} {im : List (Nat × Unit)} {T U : Nat → Prop} {B : Option Addr} {kb : Nat} {tl : List Nat} {k : Nat} (h : CY w w1 z n 400 T U gx now (100 + k + 1) recs V im (k + 1) w')
  (hk : Keep w1 (TU T U) (fun W => W.ownsRow w.heap.size 3 1 (.slice B tl.length kb) tl.length ((intsL tl).map (Value.int .i64)))) : ThI w w' z n gx now recs V im U B kb tl (k + 1) := by
 obtain ⟨T', st', h1, h2, h3, h4⟩ := h
 exact ⟨T', st', h1, h2, hk.step ⟨h3, fun j e => e.elim (fun e => (h4 j e).imp .inl id) (fun e => .inl (.inr e))⟩⟩
set_option maxRecDepth 100000 in
set_option maxHeartbeats 4000000 in
theorem SpaceThrown_any (pages : Int) (A : Option Addr) (nn c : Nat) (l : List Int) (w : World) (ha : IR w A nn l) (_hnn : nn ≤ 4611686018427387904) :
  Calls Tryz.prog 4 #[.int .i64 pages, .slice A nn c] w fun e w' => e = .returned (.bool true) ∧ Below w.heap.size w w' := by
 obtain ⟨n, hn⟩ : ∃ n, n = n11 pages := ⟨_, rfl⟩
 have hnle := n11_le pages
 rw [← hn] at hnle
 obtain ⟨hn1, hn2⟩ := hnle
 have HM := Lib.hid (made11_any pages w w (gr_refl w))
 have HN := Lib.hid hn
 have HA := Lib.hid ha
 rw [← hn] at HM
 clear hn ha
 go_enter Tryz.func4, Tryz.ntmps4
 go_wp2_with fail
 refine HM.out.mono ?_
 rintro e w1 ⟨z, gj, gb, T1, rfl, haz, hb1⟩
 have HB := Lib.hid (Begin_sc (SC.new11 haz hn2))
 clear haz hb1
 go_wp2_with fail
 refine HB.out.mono ?_
 rintro e w2 ⟨gx, U, rfl, hs2, hx2, _, _, _⟩
 have HF := Lib.hid (Format_sc hs2 hx2 hn1 (by simp))
 clear hs2 hx2
 go_wp2_with fail
 refine HF.out.mono ?_
 rintro e w3 ⟨rfl, hs3, hx3, _⟩
 have HT1 := Lib.hid (Take_w hs3 (YI.fmt (now := fun _ => zP) hx3 hn1) (by omega) hn1 (by omega) (by omega))
 clear hs3 hx3
 go_wp2_with fail
 refine HT1.out.mono ?_
 rintro e w4 ⟨p4, r4, rfl, T4, st4, hs4, hy4, _, _⟩
 have HT2 := Lib.hid (Take_w hs4 hy4 (by omega) hn1 (by omega) (by omega))
 clear hs4 hy4
 go_wp2_with fail
 refine HT2.out.mono ?_
 rintro e w5 ⟨p5, r5, rfl, T5, st5, hs5, hy5, _, _⟩
 have hl5 := hy5.len
 obtain ⟨tk, hM⟩ := hy5.mp
 have HD := Lib.hid (Done_sc hs5 hy5.xg 1 (by omega) (by omega) (by omega) (by simp) (by simp) (by omega))
 have HMP := Lib.hid hM
 clear hs5 hy5 hl5 hM
 go_wp2_with fail
 refine HD.out.mono ?_
 rintro e w6 ⟨rfl, T6, hs6, _, _, _⟩
 have hs6' := hs6.more (show 0 + 1 + 1 + 32 ≤ 99 by omega)
 have HB2 := Lib.hid (Begin_sc hs6')
 have HMP2 : Hid (MapI (nowD (nowD (fun _ => zP) st5) [] 0) n tk) := Lib.hid HMP.out
 generalize nowD (fun _ => zP) st5 = now at *
 generalize ([] ++ if chgL [] (fun _ => zP) st5 = [] then [] else [(⟨1, 1, chgL [] (fun _ => zP) st5⟩ : Rec)]) = recs at *
 generalize markF (chgL [] (fun _ => zP) st5) [] = im at *
 generalize 0 + (st5.length + 1) = V at *
 clear hs6 hs6' HMP
 go_wp2_with fail
 refine HB2.out.mono ?_
 rintro e w7 ⟨gx7, U7, rfl, hs7, hx7, _, _, _⟩
 have HAL := Lib.hid (All_sc hs7 hx7 HMP2.out hn1 (by omega))
 have HW7 : Hid (w.heap.size ≤ w7.heap.size) := Lib.hid (by
  obtain ⟨D, P, A, h1, _⟩ := hs7.ex
  exact h1.bel.size)
 clear hs7 hx7
 obtain ⟨tl, htl⟩ : ∃ tl, tl = takenL tk n := ⟨_, rfl⟩
 have hlen : 0 < tl.length ∧ tl.length ≤ 1000000 := by
  rw [htl]
  unfold takenL
  have h1 := List.length_filter_le tk (List.range n)
  rw [List.length_range] at h1
  refine ⟨List.length_pos_iff.2 fun e => ?_, by omega⟩
  rw [List.filter_eq_nil_iff] at e
  exact e 0 (List.mem_range.2 hn1) HMP2.out.own
 rw [← htl] at HAL
 have HTL := Lib.hid htl
 have HLE := Lib.hid hlen
 clear htl hlen
 go_wp2_with fail
 refine HAL.out.mono ?_
 rintro e w8 ⟨B, kb, rfl, hr8, T8, hs8, _, hm8, hT8⟩
 have HS8 := Lib.hid (hs8.more (show 99 + 1 ≤ 100 by omega))
 have HB3 := Lib.hid (Begin_sc HS8.out)
 have HR8 := Lib.hid (own_lower hr8 HW7.out)
 have HT8 := Lib.hid hT8
 clear hs8 hr8 hm8 hT8
 go_wp2_with fail
 refine HB3.out.mono ?_
 rintro e w9 ⟨gy, Uy, rfl, hs9, hx9, hb9, _, hu9⟩
 have HI0 : Hid (ThI w w9 z n gy now recs V im Uy B kb tl 0) := Lib.hid ⟨T8, [], hs9, YI.begin hx9 HMP2.out, (Keep.row (T := TU T8 Uy) HR8.out (fun k hk e => by
  rcases e with e | e
  ·exact HT8.out k hk e
  ·obtain ⟨cur, hc⟩ := own_blk HR8.out hk
   have := (Array.getElem?_eq_some_iff.1 hc).1
   have := hu9 k e
   omega)).below hb9⟩
 clear hs9 hx9 hb9 hu9
 go_wp2_with fail
 go_loopw [13] (fun i wr => ∃ k : Nat, k ≤ nn ∧ k ≤ 10 ∧ i = .int .i64 (k : Int) ∧ Hid (ThI w wr z n gy now recs V im Uy B kb tl k)) (fun i _ => 10 - (Go.RowKit.intOf i).toNat)
 case atStart => exact ⟨0, Nat.zero_le _, by omega, rfl, HI0⟩
 case round =>
  clear HI0
  obtain ⟨k, hk1, hk2, rfl, HI⟩ := hrel
  by_cases hlt : k < nn ∧ k < 10
  ·obtain ⟨ha1, ha2⟩ := hlt
   have t1 : decide ((k : Int) < (nn : Int)) = true := decide_eq_true (by omega)
   have t2 : decide (k < nn) = true := decide_eq_true ha1
   have t3 : decide ((k : Int) < 10) = true := decide_eq_true (by omega)
   have t4 : decide (k < 10) = true := decide_eq_true ha2
   have j0 : (0 : Int) ≤ (k : Int) := Int.natCast_nonneg _
   have j1 : (k : Int) < (nn : Int) := by omega
   obtain ⟨T0, st0, hs0, hy0, hk0⟩ := HI.out.ex
   obtain ⟨g, o, rfl, hcell⟩ := (HA.out.below (by obtain ⟨D, P, A, h1, _⟩ := hs0.ex; exact h1.bel)).at_ ha1
   generalize l.getD k 0 = x at hcell
   have HPK := Lib.hid (Pick_any x 1000003 wr (by omega) (by omega))
   have HS0 := Lib.hid hs0
   have HY0 := Lib.hid hy0
   have HK0 := Lib.hid hk0
   generalize x % 1000003 = m at HPK
   clear hs0 hy0 hk0
   go_wp2_with fail
   refine HPK.out.mono ?_
   rintro e w10 ⟨rfl, rfl⟩
   go_wp2_with fail
   ·refine (Take_w HS0.out HY0.out (by omega) hn1 (by omega) (by omega)).mono ?_
    rintro e w11 ⟨p6, r6, rfl, hcy⟩
    have HI2 := Lib.hid (hcy.thi HK0.out)
    clear hcy
    go_wp2_with fail
    go_roundw
    all_goals have ha1 := of_decide_eq_true t2
    all_goals have ha2 := of_decide_eq_true t4
    case rel => exact ⟨k + 1, by omega, by omega, by go_num, HI2⟩
    case measure => simp [Go.RowKit.intOf]; omega
   ·refine (Give_w HS0.out HY0.out (by omega) hn1 (by omega) (by omega) _).mono ?_
    rintro e w11 ⟨r6, rfl, hcy⟩
    have HI2 := Lib.hid (hcy.thi HK0.out)
    clear hcy
    go_wp2_with fail
    go_roundw
    all_goals have ha1 := of_decide_eq_true t2
    all_goals have ha2 := of_decide_eq_true t4
    case rel => exact ⟨k + 1, by omega, by omega, by go_num, HI2⟩
    case measure => simp [Go.RowKit.intOf]; omega
  ·have hend : ∀ Q : Prop, (decide ((k : Int) < (nn : Int)) = false → decide (k < nn) = false → Q) → (decide ((k : Int) < (nn : Int)) = true → decide (k < nn) = true → decide ((k : Int) < 10) = false → decide (k < 10) = false → Q) → Q := fun Q h1 h2 => by
    by_cases h : k < nn
    ·exact h2 (decide_eq_true (by omega)) (decide_eq_true h) (decide_eq_false (by omega)) (decide_eq_false (by omega))
    ·exact h1 (decide_eq_false (by omega)) (decide_eq_false h)
   obtain ⟨T0, st0, hs0, hy0, hk0⟩ := HI.out.ex
   have HB4 := Lib.hid (Begin_sc hs0)
   have HK0 := Lib.hid hk0
   clear hs0 hy0 hk0
   refine hend _ (fun t1 t2 => ?_) (fun t1 t2 t3 t4 => ?_)
   all_goals
    clear hend hlt
    go_wp2_with fail
    refine HB4.out.mono ?_
    rintro e w11 ⟨gx8, U8, rfl, hs11, hx11, hb11, _, _⟩
    have HAL2 := Lib.hid (All_sc hs11 hx11 HMP2.out hn1 (by omega))
    rw [← HTL.out] at HAL2
    have HK11 := Lib.hid (HK0.out.below hb11)
    have HW11 : Hid (w.heap.size ≤ w11.heap.size) := Lib.hid (by
     obtain ⟨D, P, A, h1, _⟩ := hs11.ex
     exact h1.bel.size)
    clear hs11 hx11 hb11
    go_wp2_with fail
    refine HAL2.out.mono ?_
    rintro e w12 ⟨B2, k2, rfl, hr12, T12, hs12, _, hm12, _⟩
    have hr8 := (HK11.out.step (TUmv hm12)).now
    have hlt8 := own_blk HK11.out.now (k := 0)
    have HQ8 : Hid (∀ q, (Value.slice B tl.length kb).ownBlock = some q → q < w11.heap.size) := Lib.hid (fun q hq => by
     obtain ⟨cur, hc⟩ := own_blk HK11.out.now hq
     exact (Array.getElem?_eq_some_iff.1 hc).1)
    have hil : (intsL tl).length = tl.length := List.length_map ..
    have ho8 : OI w12 w.heap.size (.slice B tl.length kb) (intsL tl) := by unfold OI; rw [hil]; exact hr8
    have ho12 : OI w12 w11.heap.size (.slice B2 tl.length k2) (intsL tl) := by unfold OI; rw [hil]; exact hr12
    obtain ⟨q0, c0, e0, h00, h01⟩ := ho8.at0 hil HLE.out.1
    obtain ⟨q1, c1, e1, h10, h11⟩ := ho12.at0 hil HLE.out.1
    injection e0 with e01 _ e03
    injection e1 with e11 _ e13
    subst e01 e03 e11 e13
    have hne : q0 ≠ q1 := by
     have := HQ8.out q0 rfl
     omega
    have hsm := SameInts_any (some ⟨q0, 0, none⟩) (some ⟨q1, 0, none⟩) tl.length tl.length kb k2 (intsL tl) (intsL tl) w12 (IR.of_own hr8) (IR.of_own hr12) HLE.out.2 HLE.out.2
    rw [show (intsL tl == intsL tl) = true from beq_self_eq_true _] at hsm
    have HSM := Lib.hid hsm
    have HO8 := Lib.hid ho8
    have HO12 := Lib.hid (ho12.lower HW11.out)
    have HNE := Lib.hid hne
    have HBE : Hid (Below w.heap.size w w12) := Lib.hid (by
     obtain ⟨D, P, A, h1, _⟩ := hs12.ex
     exact h1.bel)
    have HIL := Lib.hid hil
    clear hr12 hs12 hm12 hr8 hlt8 hil ho8 ho12 h00 h01 h10 h11 hne hsm
    go_wp2_with fail
    refine HSM.out.mono ?_
    rintro e w13 ⟨rfl, hb13⟩
    have hb14 := gr_trans hb13 (gr_alloc (gr_refl w13) (.cells #[.slice (some ⟨q0, 0, none⟩) tl.length kb, .slice (some ⟨q1, 0, none⟩) tl.length k2] 22))
    obtain ⟨p1, p2, p3, p4⟩ := two_apartI (HO8.out.below hb14) (HO12.out.below hb14) HIL.out HIL.out HNE.out
    have HX := Lib.hid (ApartInts_off w13.heap.size 2 2 w.heap.size _ (0, 0) _ _ _ _ _ p1 p2 (heap_alloc_new w13 _) p4 (fun j _ => by have := HLE.out.2; unfold pick2; split <;> omega) (Nat.le_trans HBE.out.size hb14.size) (by omega))
    have HP3 : Hid (∀ k, apS 2 (pick2 (some ⟨q0, 0, none⟩) (some ⟨q1, 0, none⟩)) (pick2 tl.length tl.length) (pick2 kb k2) k → w.heap.size ≤ k) := Lib.hid (fun j hj => by
     rcases p3 j hj with e | e
     ·have := own_ge (HO8.out) (k := j) (by rw [e]; rfl)
      exact this
     ·have := own_ge (HO12.out) (k := j) (by rw [e]; rfl)
      exact this)
    have HB14 := Lib.hid (HBE.out.trans (hb14.mono HBE.out.size))
    clear hb13 hb14 p1 p2 p3 p4
    go_wp2_with fail
    refine HX.out.mono ?_
    clear HX
    rintro e w15 ⟨rfl, ho15⟩
    have HB15 := Lib.hid (HB14.out.trans (ho15.below HP3.out HB14.out.size))
    clear ho15
    go_wp2_with fail
    refine (awake11_any w15).mono ?_
    rintro e w16 ⟨rfl, hb16⟩
    have HF := Lib.hid (gr_trans HB15.out hb16)
    clear hb16
    go_wp2_with fail
    go_ret
    exact ⟨rfl, HF.out⟩
end Go.Proofs.YtnkeclpgpiogoaaGreat
