/-
  The walk of AtomApart.
-/
import Derived.Test.YtnkeclpgpiogoaaGreatPkD10
namespace Go.Proofs.YtnkeclpgpiogoaaGreat
open Go Go.RowKit Go.Maps
set_option maxRecDepth 100000 in
set_option maxHeartbeats 1000000 in
theorem AtomApart_any (page seed : Int) (w : World) :
  Calls Tryz.prog 5 #[.int .i64 page, .int .i64 seed] w fun e w' => e = .returned (.bool true) ∧ Below w.heap.size w w' := by
 have HPk := Lib.hid (Pick_any page 20)
 obtain ⟨p, hp⟩ := Int.eq_ofNat_of_zero_le (Int.emod_nonneg page (show (20 : Int) ≠ 0 by omega))
 have hp20 : p < 20 := by
  have := Int.emod_lt_of_pos page (show (0 : Int) < 20 by omega)
  omega
 rw [hp] at HPk
 have HM := Lib.hid (made10_any 3 w w (gr_refl w) (by omega) (by omega))
 clear hp
 obtain ⟨b, hb⟩ : ∃ b, b = payT seed [] := ⟨_, rfl⟩
 have HBL : Hid (b.length = 4080) := Lib.hid (by rw [hb]; exact payT_len _ _)
 have HPAY : Hid (∀ W, Calls Tryz.prog 27 #[.int .i64 seed, .slice none 0 0] W fun e w' => e = .returned (.slice (some ⟨W.heap.size, 0, none⟩) 4080 4080) ∧ OB w' W.heap.size (.slice (some ⟨W.heap.size, 0, none⟩) 4080 4080) b ∧ Below W.heap.size W w') := Lib.hid (fun W => by
  rw [hb]
  exact payload10_any seed none 0 0 [] W (IR.none_ _ _) (by omega))
 clear hb
 go_enter Tryz.func5, Tryz.ntmps5
 go_wp2_with fail
 refine HM.out.mono ?_
 rintro e w1 ⟨z, gj, gb, T, rfl, haz, hb1⟩
 have hs0 := SJ.new10 haz (by omega) (by omega)
 have hyk := YK.new hs0
 have hs1 := hs0.below (gr_alloc (gr_refl w1) (.cells #[.pointer (some ⟨z.gd, 0, none⟩), .pointer (some ⟨gj, 0, none⟩), .pointer (some ⟨z.gp, 0, none⟩), .pointer (some ⟨z.ga, 0, none⟩)] 53))
 have HS1 := Lib.hid hs1
 have HY1 := Lib.hid hyk
 clear haz hb1 hs0 hs1 hyk
 unfold yV
 go_wp2_with fail
 generalize w1.alloc (.cells #[.pointer (some ⟨z.gd, 0, none⟩), .pointer (some ⟨gj, 0, none⟩), .pointer (some ⟨z.gp, 0, none⟩), .pointer (some ⟨z.ga, 0, none⟩)] 53) = wa at *
 generalize w1.heap.size = g0 at *
 refine (HPk.out wa (by omega) (by omega)).mono ?_
 rintro e w2 ⟨rfl, rfl⟩
 clear HPk
 go_wp2_with fail
 go_upto_region 5 with fail
 go_cut [7, 8] (fun s7 s8 wx => ∃ (gx gz : Nat) (U U2 : Nat → Prop), s7 = .pointer (some ⟨gx, 0, none⟩) ∧ s8 = .pointer (some ⟨gz, 0, none⟩) ∧ Hid (Below wa.heap.size wa wx ∧ XG w wx z 20 gx [] T U ∧ XG w wx z 20 gz [] T U2 ∧ (∀ k, U k → wa.heap.size ≤ k) ∧ (∀ k, U2 k → wa.heap.size ≤ k) ∧ (∀ k, U k → ¬ U2 k)))
 case first =>
  have HBG : Hid (∀ W, Below wa.heap.size wa W → Calls Tryz.prog 13 #[.pointer (some ⟨z.ga, 0, none⟩)] W fun e w' => ∃ gx U, e = .returned (.pointer (some ⟨gx, 0, none⟩)) ∧ XG w w' z 20 gx [] T U ∧ Below W.heap.size W w' ∧ ∀ k, U k → W.heap.size ≤ k) := Lib.hid (fun W hW => (Begin_sj (HS1.out.below hW)).mono (by
   rintro e w' ⟨gx, U, rfl, _, a2, a3, _, a5⟩
   exact ⟨gx, U, rfl, a2, a3, a5⟩))
  have Y3 := Lib.hid HY1.out.yb.c3
  refine wp_region_any (by kernel_rfl) ?_
  refine' wpAny_to_tail (l0 := #[false, false, false, false, false, false, false, false]) (by kernel_rfl) (by kernel_rfl) (by kernel_rfl) (by kernel_rfl) (by kernel_rfl)
   [MP.is (.pointer (some ⟨g0, 3, none⟩)), MP.is (.pointer (some ⟨z.ga, 0, none⟩)), MP.bg w z T wa.heap.size, MP.is (.pointer (some ⟨g0, 3, none⟩)), MP.is (.pointer (some ⟨z.ga, 0, none⟩)), MP.any, MP.any, MP.any]
   (fun j => j == 5 || j == 6 || j == 7) #[true, true, true, true, true, false, false, false] rfl (by kernel_rfl) rfl (by kernel_rfl) (by kernel_rfl) (by kernel_rfl) (by kernel_rfl) (fun _ => undef) (by rfl) ?hR01 ?hAA1 ?hst1 ?hend1
  case hR01 =>
   intro j hj
   have hj2 : j ∈ [] := hj
   cases hj2
  case hAA1 =>
   intro f
   conv => lhs; simp only [putA, dstOf, List.size_toArray, List.length_cons, List.length_nil, Nat.zero_add, Nat.reduceAdd, List.getElem?_toArray, List.getElem?_cons_zero, List.getElem?_cons_succ, Option.bind_some, Act.put, List.setIfInBounds_toArray, List.set_cons_zero, List.set_cons_succ]
   first | done | exact rfl
  case hst1 =>
   refine Steps.of_list (l' := [0, 1, 2, 3, 4]) (by kernel_rfl) ?_
   refine Steps.cons rfl ?_ ?_
   ·intro f wz hB h K Q hK
    clear h
    try simp only [List.getElem_toArray, List.getElem_cons_zero]
    try rw [if_pos (by rfl)]
    go_simp
    exact hK _ _ (gr_refl _) rfl
   refine Steps.cons rfl ?_ ?_
   ·intro f wz hB h K Q hK
    have h0 : (MP.is (.pointer (some ⟨g0, 3, none⟩))).p (f 0) wz := h 0 (by kernel_rfl)
    have e0 : f 0 = (.pointer (some ⟨g0, 3, none⟩)) := h0
    simp only [e0] at hK ⊢
    clear e0
    clear h
    try rw [if_pos (by rfl)]
    have y0 := keep_of_below hB Y3.out
    go_simp
    exact hK _ _ (gr_refl _) rfl
   refine Steps.cons rfl ?_ ?_
   ·intro f wz hB h K Q hK
    have h1 : (MP.is (.pointer (some ⟨z.ga, 0, none⟩))).p (f 1) wz := h 1 (by kernel_rfl)
    have e1 : f 1 = (.pointer (some ⟨z.ga, 0, none⟩)) := h1
    simp only [e1] at hK ⊢
    clear e1
    clear h
    try rw [if_pos (by rfl)]
    go_simp
    refine (HBG.out _ (bel_drew hB)).mono ?_
    rintro e w5 ⟨gx, U, rfl, a2, a3, a4⟩
    exact hK _ _ a3 ⟨gx, U, rfl, a2, fun k e => Nat.le_trans (bel_drew hB).size (a4 k e)⟩
   refine Steps.cons rfl ?_ ?_
   ·intro f wz hB h K Q hK
    clear h
    try rw [if_pos (by rfl)]
    go_simp
    exact hK _ _ (gr_refl _) rfl
   refine Steps.cons rfl ?_ ?_
   ·intro f wz hB h K Q hK
    have h3 : (MP.is (.pointer (some ⟨g0, 3, none⟩))).p (f 3) wz := h 3 (by kernel_rfl)
    have e3 : f 3 = (.pointer (some ⟨g0, 3, none⟩)) := h3
    simp only [e3] at hK ⊢
    clear e3
    clear h
    try rw [if_pos (by rfl)]
    have y0 := keep_of_below hB Y3.out
    go_simp
    exact hK _ _ (gr_refl _) rfl
   exact Steps.nil
  intro f w9 hB9 hR
  conv => arg 7; simp only [putL, dstOf, List.size_toArray, List.length_cons, List.length_nil, Nat.zero_add, Nat.reduceAdd, List.getElem?_toArray, List.getElem?_cons_zero, List.getElem?_cons_succ, Option.bind_some, Act.put, List.setIfInBounds_toArray, List.set_cons_zero, List.set_cons_succ, Array.getD_eq_getD_getElem?, Option.getD_some, if_true, if_false, Bool.false_eq_true]
  have e0 : f 0 = (.pointer (some ⟨g0, 3, none⟩)) := hR 0 (by decide) rfl
  have e1 : f 1 = (.pointer (some ⟨z.ga, 0, none⟩)) := hR 1 (by decide) rfl
  obtain ⟨gx29, U29, e2, q29, k29⟩ := (show (MP.bg w z T wa.heap.size).p (f 2) w9 from hR 2 (by decide) rfl)
  have e3 : f 3 = (.pointer (some ⟨g0, 3, none⟩)) := hR 3 (by decide) rfl
  have e4 : f 4 = (.pointer (some ⟨z.ga, 0, none⟩)) := hR 4 (by decide) rfl
  simp only [e0, e1, e2, e3, e4]
  clear e0 e1 e2 e3 e4 hR
  have HB9 := Lib.hid (bel_drew hB9)
  have HQ9 := Lib.hid q29
  have HK9 := Lib.hid k29
  have HBG2 := Lib.hid (HBG.out _ (bel_drew hB9))
  clear hB9 q29 k29
  refine wpAny_of_held (S := fun _ => True) _ _ _ _ ?_
  refine wpAnyH_ready (rs := [5]) (by kernel_rfl) (by simp) ?_
  refine AllReadyH.cons rfl (fun KK hK => ?_) AllReadyH.nil
  rw [if_pos (by rfl)]
  go_simp
  refine HBG2.out.mono ?_
  rintro e w7 ⟨gz, U2, rfl, a2, a3, a4⟩
  have HXZ := Lib.hid a2
  have HBZ := Lib.hid a3
  have HUZ := Lib.hid a4
  clear a2 a3 a4
  refine hK.out _ _ trivial (fun _ => ?_)
  clear hK KK
  try simp only [List.setIfInBounds_toArray, List.set_cons_zero, List.set_cons_succ]
  refine wpAnyH_ready (rs := [6]) (by kernel_rfl) (by simp) ?_
  refine AllReadyH.cons rfl (fun KK hK => ?_) AllReadyH.nil
  go_simp
  refine hK.out _ _ trivial (fun _ => ?_)
  clear hK KK
  try simp only [List.setIfInBounds_toArray, List.set_cons_zero, List.set_cons_succ]
  refine wpAnyH_ready (rs := [7]) (by kernel_rfl) (by simp) ?_
  refine AllReadyH.cons rfl (fun KK hK => ?_) AllReadyH.nil
  go_simp
  refine hK.out _ _ trivial (fun _ => ?_)
  clear hK KK
  try simp only [List.setIfInBounds_toArray, List.set_cons_zero, List.set_cons_succ]
  refine wpAnyH_done (by kernel_rfl) ?_ _
  go_wp2_with fail
  go_meet
  exact ⟨gx29, gz, U29, U2, rfl, rfl, Lib.hid ⟨gr_trans HB9.out HBZ.out, HQ9.out.below HBZ.out, HXZ.out, HK9.out, fun k e => Nat.le_trans HB9.out.size (HUZ.out k e), fun k e e2 => by have := (HQ9.out.xz.lt e).2.1; have := HUZ.out k e2; omega⟩⟩
 case rest =>
  obtain ⟨gx, gz, U, U2, rfl, rfl, HBB⟩ := hcut
  obtain ⟨bb, xx, xz, ux, uz, ud⟩ := HBB.out
  have hsb := HS1.out.below bb
  have HYB := Lib.hid (HY1.out.below bb)
  have HUD := Lib.hid ud
  have HUG : Hid (¬ U g0 ∧ ¬ U2 g0) := Lib.hid ⟨fun e => by have := ux g0 e; have := HY1.out.yb.lt; omega, fun e => by have := uz g0 e; have := HY1.out.yb.lt; omega⟩
  have HSB := Lib.hid hsb
  have HXX := Lib.hid xx
  have HXZ := Lib.hid xz
  have HPB := Lib.hid (HPAY.out wc)
  clear bb xx xz ux uz ud hsb HBB HS1 HY1
  go_wp2_with fail
  refine HPB.out.mono ?_
  rintro e wp ⟨rfl, hob, hbp⟩
  obtain ⟨kb, hkb⟩ : ∃ kb, kb = wc.heap.size := ⟨_, rfl⟩
  rw [← hkb] at hob ⊢
  have hobl := hob.lt kb rfl
  have hT := fun k (e : T k) => (HSB.out.lt e).2
  have HSX := Lib.hid (HSB.out.sx.put (S := fun k => k = kb) hbp (fun k e => by omega))
  have hxx := HXX.out.new (T3 := fun k => T k ∨ k = kb) hbp (fun k e => e.imp id (fun e => by omega))
  have hxz := HXZ.out.new (T3 := fun k => T k ∨ k = kb) hbp (fun k e => e.imp id (fun e => by omega))
  have HYP := Lib.hid (HYB.out.below hbp)
  have HOB := Lib.hid hob
  have HKB : Hid (kb < wp.heap.size ∧ w.heap.size ≤ kb ∧ ¬ T kb) := Lib.hid ⟨by omega, by have := HSB.out.bel.size; omega, fun e => by have := hT kb e; omega⟩
  have HSet := Lib.hid (Set_sx HSX.out (T2 := fun k => T k ∨ k = kb) (fun k e => .inl e) (fun k e => e.elim (fun e => by have := hT k e; have := hbp.size; omega) (fun e => by omega)) hxx p _ 4080 b (ob_br hob HBL.out) hp20 (.inl (by simp)))
  have HXX2 := Lib.hid hxx
  have HXZ2 := Lib.hid hxz
  clear hob hbp hobl hT hxx hxz hkb HSB HXX HXZ HYB HPB
  go_wp2_with fail
  refine HSet.out.mono ?_
  rintro e ws ⟨rfl, hsx, hxx, hos⟩
  rw [show insS p b [] = [(p, b)] from rfl] at hxx
  have hxz := HXZ2.out.by_ HXX2.out hos (fun k e e2 => HUD.out k e2 e)
  have HOBS := Lib.hid ((HOB.out.lower HKB.out.2.1).off hos (fun k e e2 => by
   injection e with e
   exact (HXX2.out.xz.lt e2).2.2.1 (.inr e.symm)))
  have HYS := Lib.hid (HYP.out.off hos HUG.out.1 (fun _ e => .inl e))
  have HLN : Hid (Ln w ws z gj g0 gx gz 0 U U2 [(p, b)] [] [kb] T) := Lib.hid ⟨hsx.sub (fun k e => .inr (List.mem_singleton.1 e)), hxx.weak (fun k e => e.imp id List.mem_singleton.1), hxz.weak (fun k e => e.imp id List.mem_singleton.1), HYP.out.off hos HUG.out.1 (fun _ e => .inl e), fun k e => by
   obtain rfl := List.mem_singleton.1 e
   exact ⟨HKB.out.2.2, Nat.lt_of_lt_of_le HKB.out.1 hos.size, HKB.out.2.1⟩⟩
  clear hsx hxx hxz hos HOB HYP HXX2 HXZ2 HSet HSX HYS
  obtain ⟨a1, a2, a3, a4, a5⟩ := HLN.out
  have HG := Lib.hid (Get_sx a1 (a2.weak (fun k e => .inl e)) p hp20 (by omega))
  rw [show nowD (fun _ => zP) [(p, b)] p = b from nowD_one _ p b] at HG
  have y2 := a4.yb.c2
  clear a1 a2 a3 a4 a5
  go_wp2_with fail
  refine HG.out.mono ?_
  rintro e wm ⟨v, rfl, hob, Tm, wn, hsn, _, hmv, hbn, hvn⟩
  obtain ⟨qm, cm, rfl, _, hql, hcm1, hcm2, brm⟩ := hob.at0 HBL.out (by omega)
  have hqm := hvn qm rfl
  have HLNm := Lib.hid (HLN.out.next hsn hmv hbn hqm hql)
  have HOm := Lib.hid (hob.lower HLN.out.fs.sj.bel.size)
  have DQ1 : Hid (kb < qm) := Lib.hid (by have := (HLN.out.fl kb (by simp)).2.1; have := hmv.1.size; omega)
  have HObm := Lib.hid (HLN.out.ob HOBS.out (by simp) hmv hbn)
  clear hob hsn hmv hbn hvn hql hcm1 hcm2 brm hqm HG y2 HLN
  have HLN := HLNm
  clear HLNm
  obtain ⟨a1, a2, a3, a4, a5⟩ := HLN.out
  have HG := Lib.hid (Get_sx a1 (a3.weak (fun k e => .inl e)) p hp20 (by omega))
  rw [show nowD (fun _ => zP) [] p = zP from rfl] at HG
  have y2 := a4.yb.c2
  clear a1 a2 a3 a4 a5
  go_wp2_with fail
  refine HG.out.mono ?_
  rintro e wo ⟨v, rfl, hob, To, wn, hsn, _, hmv, hbn, hvn⟩
  obtain ⟨qo, co, rfl, _, hql, hcm1, hcm2, bro⟩ := hob.at0 (show zP.length = 4080 from List.length_replicate ..) (by omega)
  have hqm := hvn qo rfl
  have HLNo := Lib.hid (HLN.out.next hsn hmv hbn hqm hql)
  have HOo := Lib.hid (hob.lower HLN.out.fs.sj.bel.size)
  have DQ2 : Hid (qm < qo) := Lib.hid (by have := (HLN.out.fl qm (by simp)).2.1; have := hmv.1.size; omega)
  have HOmo := Lib.hid (HLN.out.ob HOm.out (by simp) hmv hbn)
  have HObo := Lib.hid (HLN.out.ob HObm.out (by simp) hmv hbn)
  clear hob hsn hmv hbn hvn hql hcm1 hcm2 bro hqm HG y2 HLN
  have HLN := HLNo
  clear HLNo
  obtain ⟨a1, a2, a3, a4, a5⟩ := HLN.out
  have HG := Lib.hid (PGet_sx a1 p hp20 (by omega))
  have y2 := a4.yb.c2
  clear a1 a2 a3 a4 a5
  go_wp2_with fail
  refine HG.out.mono ?_
  rintro e wl ⟨v, rfl, hob, Tl, wn, hsn, hmv, hbn, hvn⟩
  obtain ⟨ql, cl, rfl, _, hql, hcm1, hcm2, brl⟩ := hob.at0 (show zP.length = 4080 from List.length_replicate ..) (by omega)
  have hqm := hvn ql rfl
  have HLNl := Lib.hid (HLN.out.next hsn hmv hbn hqm hql)
  have HOl := Lib.hid (hob.lower HLN.out.fs.sj.bel.size)
  have DQ3 : Hid (qo < ql) := Lib.hid (by have := (HLN.out.fl qo (by simp)).2.1; have := hmv.1.size; omega)
  have HOol := Lib.hid (HLN.out.ob HOo.out (by simp) hmv hbn)
  have HOml := Lib.hid (HLN.out.ob HOmo.out (by simp) hmv hbn)
  have HObl := Lib.hid (HLN.out.ob HObo.out (by simp) hmv hbn)
  clear hob hsn hmv hbn hvn hql hcm1 hcm2 brl hqm HG y2 HLN
  have HLN := HLNl
  clear HLNl
  have HNEQ : Hid ((kb < qm ∧ qm < qo ∧ qo < ql) ∧ kb < wl.heap.size) := Lib.hid ⟨⟨DQ1.out, DQ2.out, DQ3.out⟩, (HLN.out.fl kb (by simp)).2.1⟩
  have HWL := Lib.hid HLN.out.fs.sj.bel
  obtain ⟨a1, a2, a3, a4, a5⟩ := HLN.out
  have hza := gr_alloc (gr_refl wl) (.cells (zeroB 4080) 5)
  have hmk := run_mk_bytes 4080 (by omega) 4080 rfl wl
  have HZ := Lib.hid (OB.zero wl 4080 (by decide))
  have HSB1 := Lib.hid (SameBytes_any _ _ 4080 4080 cm 4080 b b wl (ob_br HOml.out HBL.out) (ob_br HObl.out HBL.out))
  have HSB2 := Lib.hid (SameBytes_any _ _ 4080 4080 co 4080 zP zP (wl.alloc (.cells (zeroB 4080) 5)) (ob_br (HOol.out.below hza) (show zP.length = 4080 from List.length_replicate ..)) (ob_br HZ.out (show zP.length = 4080 from List.length_replicate ..)))
  have HSB3 := Lib.hid (SameBytes_any _ _ 4080 4080 cl co zP zP (wl.alloc (.cells (zeroB 4080) 5)) (ob_br (HOl.out.below hza) (show zP.length = 4080 from List.length_replicate ..)) (ob_br (HOol.out.below hza) (show zP.length = 4080 from List.length_replicate ..)))
  have HLA := Lib.hid (Last_sj (a1.below hza).sj)
  have HZA := Lib.hid hza
  have y1 := (a4.below hza).yb.c1
  rw [beq_self_eq_true] at HSB1 HSB2 HSB3
  clear a1 a2 a3 a4 a5 hza
  go_wp2_with fail
  refine HSB1.out.mono ?_
  rintro e we ⟨rfl, rfl⟩
  go_wp2_with fail
  refine HSB2.out.mono ?_
  rintro e we ⟨rfl, rfl⟩
  go_wp2_with fail
  refine HSB3.out.mono ?_
  rintro e we ⟨rfl, rfl⟩
  go_wp2_with fail
  refine HLA.out.mono ?_
  rintro e wt ⟨rfl, hbt⟩
  have HBT := Lib.hid (gr_trans HZA.out hbt)
  clear hbt y1 hmk HSB1 HSB2 HSB3 HLA HZA HZ
  have hb13 := gr_alloc (gr_refl wt) (.cells #[.slice (some ⟨qm, 0, none⟩) 4080 cm, .slice (some ⟨qo, 0, none⟩) 4080 co, .slice (some ⟨ql, 0, none⟩) 4080 cl, .slice (some ⟨kb, 0, none⟩) 4080 4080] 35)
  have hb14 := gr_trans HBT.out hb13
  obtain ⟨p1, p2, p3, p4⟩ := four_apart (HOml.out.below hb14) (HOol.out.below hb14) (HOl.out.below hb14) (HObl.out.below hb14) HBL.out (show zP.length = 4080 from List.length_replicate ..) (show zP.length = 4080 from List.length_replicate ..) HBL.out (by have := HNEQ.out; omega) (by have := HNEQ.out; omega) (by have := HNEQ.out; omega) (by have := HNEQ.out; omega) (by have := HNEQ.out; omega) (by have := HNEQ.out; omega)
  have HAP := Lib.hid (ApartBytes_off wt.heap.size 4 4 w.heap.size _ (0, 0) _ _ _ _ _ p1 p2 (heap_alloc_new wt _) p4 (fun _ _ => by omega) (by have := HWL.out.size; have := hb14.size; omega) (by omega))
  have HP3 := Lib.hid p3
  have HB14 := Lib.hid hb14
  clear p1 p2 p3 p4 hb13 hb14
  go_wp2_with fail
  refine HAP.out.mono ?_
  rintro e w11 ⟨rfl, ho11⟩
  obtain ⟨hsx, hxx, hxz, hyk⟩ := HLN.out.turn HB14.out ho11 (fun k e => by
   rcases HP3.out k e with rfl | rfl | rfl | rfl <;> simp) (fun k e => by
   have e : k = ql ∨ k = qo ∨ k = qm ∨ k = kb := by simpa using e
   rcases e with rfl | rfl | rfl | rfl
   ·obtain ⟨cur, q⟩ := own_blk HOl.out rfl
    exact ⟨cur, _, q⟩
   ·obtain ⟨cur, q⟩ := own_blk HOol.out rfl
    exact ⟨cur, _, q⟩
   ·obtain ⟨cur, q⟩ := own_blk HOml.out rfl
    exact ⟨cur, _, q⟩
   ·obtain ⟨cur, q⟩ := own_blk HObl.out rfl
    exact ⟨cur, _, q⟩)
  have HS11 := Lib.hid hsx.sj
  have HX11 := Lib.hid hxx
  have HZ11 := Lib.hid hxz
  have HPB2 := Lib.hid (HPAY.out w11)
  clear hsx hxx hxz hyk ho11 HAP HP3 HB14 HLN HOml HOol HOl HObl HBT HWL HNEQ
  go_wp2_with fail
  refine HPB2.out.mono ?_
  rintro e w14 ⟨rfl, hob, hb14⟩
  obtain ⟨k2, hk2⟩ : ∃ k2, k2 = w11.heap.size := ⟨_, rfl⟩
  rw [← hk2] at hob ⊢
  have hobl := hob.lt k2 rfl
  have HTL : Hid (∀ k, Tl k → k < k2) := Lib.hid (fun k e => by rw [hk2]; exact (HS11.out.lt e).2)
  have HUL : Hid (∀ k, U k → k < k2) := Lib.hid (fun k e => by rw [hk2]; exact (HX11.out.xz.lt e).2.1)
  have HOB2 := Lib.hid hob
  have HK2 : Hid (k2 < w14.heap.size) := Lib.hid hobl.2
  have hd : Calls Tryz.prog 15 #[.pointer (some ⟨gx, 0, none⟩), .int .i64 1] w14 fun e w' => ∃ (n : Int) (T' : Nat → Prop) (recs : List Rec) (V : Nat) (im : List (Nat × Unit)), e = .returned (.tuple #[.int .i64 n, .int .i64 0]) ∧ SJ w w' z 20 120 gj T' (nowD (fun _ => zP) [(p, b)]) (0 + 1 + 1 + 1 + 32) recs V im ∧ Off (TU Tl U) w14 w' ∧ ∀ k, T' k → Tl k ∨ w14.heap.size ≤ k := (Done_sj (HS11.out.below hb14) ((HX11.out.below hb14).weak (fun k e => .inl e)) 1 (by omega) (by omega) (by simp) (by simp) (by simp) (by omega)).mono (by
   rintro e w' ⟨rfl, T', a1, _, a3, a4⟩
   exact ⟨_, T', _, _, _, rfl, a1, a3, a4⟩)
  have HD := Lib.hid hd
  have HX14 := Lib.hid (HX11.out.below hb14)
  have HZ14 := Lib.hid (HZ11.out.below hb14)
  clear hob hb14 hobl hd hk2 HX11 HZ11 HPB2 HPAY
  go_wp2_with fail
  refine HD.out.mono ?_
  rintro e w15 ⟨n15, T15, recs15, V15, im15, rfl, hs15, ho15, ht15⟩
  have hxz : XG w w15 z 20 gz [] T15 U2 := ⟨HZ14.out.xz.off ho15 (fun k e => e.elim (fun e => .inl (.inl e)) (fun e => .inr (HX14.out.xz.lt e).2.2.2)) (fun k e e2 => e2.elim (fun e2 => (HZ14.out.xz.lt e).2.2.1 (.inl e2)) (fun e2 => HUD.out k e2 e)) (fun k e => (ht15 k e).imp .inl id), HZ14.out.ok⟩
  have HO15 := Lib.hid (HOB2.out.off ho15 (fun k e e2 => by
   injection e with e
   have e : k2 = k := e
   subst e
   rcases e2 with e2 | e2
   ·have := HTL.out _ e2; omega
   ·have := HUL.out _ e2; omega))
  have HN15 : Hid (¬ T15 k2) := Lib.hid (fun e => (ht15 _ e).elim (fun e => by have := HTL.out _ e; omega) (fun e => by have := HK2.out; omega))
  have hg := Get_sj hs15 hxz p hp20 (by omega)
  rw [show nowD (nowD (fun _ => zP) [(p, b)]) [] p = nowD (fun _ => zP) [(p, b)] p from rfl, nowD_one] at hg
  have HG := Lib.hid hg
  clear hs15 ho15 ht15 hxz hg HD HX14 HZ14 HOB2 HTL HUL HK2 HS11 HUD
  go_wp2_with fail
  refine HG.out.mono ?_
  rintro e w16 ⟨v, rfl, hob, T16, wn, hsn, hxn, hmv, hbn, hvn⟩
  obtain ⟨qn, cn, rfl, _, hql, _, _, brn⟩ := hob.at0 HBL.out (by omega)
  have hqn := hvn qn rfl
  have hko := HO15.out.lt k2 rfl
  have hob2 := (HO15.out.off hmv.1 (fun k e e2 => by
   injection e with e
   have e : k2 = k := e
   subst e
   exact HN15.out e2)).below hbn
  have HK16 : Hid (k2 < wn.heap.size ∧ wn.heap.size ≤ qn) := Lib.hid ⟨Nat.lt_of_lt_of_le hko.2 hmv.1.size, hqn⟩
  have HSB := Lib.hid (SameBytes_any _ _ 4080 4080 cn 4080 b b w16 brn (ob_br hob2 HBL.out))
  rw [beq_self_eq_true] at HSB
  have HSN := Lib.hid hsn
  have HXN := Lib.hid hxn
  have HBN := Lib.hid hbn
  have HON := Lib.hid (hob.lower (Nat.zero_le _))
  have HO16 := Lib.hid hob2
  have HN16 : Hid (¬ T16 k2) := Lib.hid (fun e => (hmv.2 _ e).elim HN15.out (fun e => by omega))
  clear hob hsn hxn hmv hbn hvn hql brn hqn hko hob2 HG HO15 HN15
  go_wp2_with fail
  refine HSB.out.mono ?_
  rintro e we ⟨rfl, rfl⟩
  have hb17 := gr_alloc (gr_refl w16) (.cells #[.slice (some ⟨qn, 0, none⟩) 4080 cn] 35)
  obtain ⟨p1, p2, p3, p4⟩ := one_apart (HON.out.below hb17) HBL.out
  have HAP := Lib.hid (ApartBytes_off w16.heap.size 1 1 0 _ (0, 0) _ _ _ _ _ p1 p2 (heap_alloc_new w16 _) p4 (fun _ _ => by omega) (Nat.zero_le _) (by omega))
  have HP3 := Lib.hid p3
  have HB17 := Lib.hid hb17
  clear hb17 p1 p2 p3 p4 HSB
  go_wp2_with fail
  refine HAP.out.mono ?_
  rintro e w17 ⟨rfl, ho17⟩
  have hbx := HBN.out.trans (HB17.out.mono HBN.out.size)
  have hbw : Below wn.heap.size wn w17 := hbx.trans (ho17.below (fun k e => by rw [HP3.out k e]; exact HK16.out.2) hbx.size)
  have HO17 := Lib.hid ((HO16.out.below HB17.out).off ho17 (fun k e e2 => by
   injection e with e
   have e : k2 = k := e
   have := HP3.out k e2
   have := HK16.out
   omega))
  have hg := Get_sj (HSN.out.below hbw) (HXN.out.below hbw) p hp20 (by omega)
  rw [show nowD (nowD (fun _ => zP) [(p, b)]) [] p = nowD (fun _ => zP) [(p, b)] p from rfl, nowD_one] at hg
  have HG := Lib.hid hg
  clear hbx hbw hg ho17 HAP HP3 HB17 HON HO16 HSN HXN HBN HK16
  go_wp2_with fail
  refine HG.out.mono ?_
  rintro e w18 ⟨v, rfl, hob, T18, wx, hsn, _, hmv, hbn, _⟩
  obtain ⟨qy, cy, rfl, _, _, _, _, bry⟩ := hob.at0 HBL.out (by omega)
  have hob2 := (HO17.out.off hmv.1 (fun k e e2 => by
   injection e with e
   have e : k2 = k := e
   subst e
   exact HN16.out e2)).below hbn
  have HSB := Lib.hid (SameBytes_any _ _ 4080 4080 cy 4080 b b w18 bry (ob_br hob2 HBL.out))
  rw [beq_self_eq_true] at HSB
  have HFB := Lib.hid (gr_trans hsn.bel hbn)
  have HAW := Lib.hid (awake10_any w18)
  clear hob hsn hmv hbn bry hob2 HG HO17 HN16
  go_wp2_with fail
  refine HSB.out.mono ?_
  rintro e we ⟨rfl, rfl⟩
  go_wp2_with fail
  refine HAW.out.mono ?_
  rintro e we ⟨rfl, hbe⟩
  have HFE := Lib.hid (gr_trans HFB.out hbe)
  clear hbe
  go_wp2_with fail
  go_ret
  exact ⟨rfl, HFE.out⟩
end Go.Proofs.YtnkeclpgpiogoaaGreat
