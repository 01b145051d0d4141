/-
  Texts of this claim, joined: PoG, PoH, PoI, PoJ, PoK, PoL, PoM, PoN, PoO, DpA, DpB, DpC, DpD. No statement of the program is proved here.
-/
import Derived.Test.YtmdgnjmhbjdlmaaGreatPkA3
import Derived.Lib.SliceRun
import Derived.Test.YtmdgnjmhbjdlmaaGreatSrk
import Derived.Shelf.SortM.SortNone
import Derived.Test.YtmdgnjmhbjdlmaaGreatPkA2
/-! PoG -/
namespace Go.Proofs.YtmdgnjmhbjdlmaaGreat
open Go Go.RowKit Go.Maps
set_option maxRecDepth 100000 in
set_option maxHeartbeats 4000000 in
theorem Set_bad {w : World} {b0 gp gd mb : Nat} {wv tv : Value} {D : DiskS} {P : PoS} {F ok : Nat → Prop} {q : List FV} {L : Option Int} (X : PX w b0 gp gd wv D P F ok tv mb q) (page lsn : Int) (A : Option Addr) (n c : Nat) (l : List UInt8) (hl : l.length = n) (hp : setE P page l.length lsn ≠ 0) :
  Calls Tryz.prog 22 #[.pointer (some ⟨gp, 0, none⟩), .int .i64 page, .slice A n c, .int .i64 lsn] w fun e w' => e = .returned (.int .i64 (setR L D P page l lsn).2.2) ∧ PStep w b0 gp gd wv (PS gp F ok tv mb q) (setR L D P page l lsn).1 (setR L D P page l lsn).2.1 w' := by
 have HA := Lib.hid (pasked_any X.pb page)
 have HR : Hid (setR L D P page l lsn = (D, P, setE P page l.length lsn)) := Lib.hid (by unfold setR; rw [if_pos hp])
 rw [HR.out]
 have HS := Lib.hid (X.same (gr_refl w))
 by_cases ha : askP P page = 0
 ·have he : setE P page l.length lsn = 2 := by
   unfold setE at hp ⊢
   rw [if_neg (by rw [ha]; decide)] at hp ⊢
   by_cases h : l.length ≠ 4080 ∨ lsn < 0
   ·rw [if_pos h]
   ·rw [if_neg h] at hp
    exact absurd rfl hp
  have hc : n ≠ 4080 ∨ lsn < 0 := by
   unfold setE at he
   rw [if_neg (by rw [ha]; decide)] at he
   by_cases h : l.length ≠ 4080 ∨ lsn < 0
   ·rw [← hl]; exact h
   ·rw [if_neg h] at he
    cases he
  rw [he]
  rw [ha] at HA
  clear he ha X hp
  by_cases hn : n = 4080
  ·subst hn
   have t1 : decide (lsn < 0) = true := decide_eq_true (by omega)
   clear hc hl
   go_enter Tryz.func22, Tryz.ntmps22
   go_wp2_with fail
   refine HA.out.mono ?_
   rintro e w1 ⟨rfl, rfl⟩
   go_wp2_with fail
   go_ret
   exact ⟨rfl, HS.out⟩
  ·have t1 : ((n : Int) != 4080) = true := by rw [bne_iff_ne]; omega
   clear hc hl hn
   go_enter Tryz.func22, Tryz.ntmps22
   go_wp2_with fail
   refine HA.out.mono ?_
   rintro e w1 ⟨rfl, rfl⟩
   go_wp2_with fail
   go_ret
   exact ⟨rfl, HS.out⟩
 ·have he : setE P page l.length lsn = askP P page := by
   unfold setE
   rw [if_pos ha]
  have hx : (askP P page != 0) = true := by rw [bne_iff_ne]; exact ha
  rw [he]
  clear he ha X hp hl
  generalize askP P page = r at *
  go_enter Tryz.func22, Tryz.ntmps22
  go_wp2_with fail
  refine HA.out.mono ?_
  rintro e w1 ⟨rfl, rfl⟩
  go_wp2_with fail
  go_ret
  exact ⟨rfl, HS.out⟩
set_option maxRecDepth 100000 in
set_option maxHeartbeats 8000000 in
theorem Set_good {w : World} {b0 gp gd mb : Nat} {wv tv : Value} {D : DiskS} {P : PoS} {F ok : Nat → Prop} {q : List FV} {L : Option Int} (X : PX w b0 gp gd wv D P F ok tv mb q) (hl : LogV w wv L (PS gp F ok tv mb q)) (pg : Nat) (lsn : Int) (A : Option Addr) (c : Nat) (l : List UInt8) (hb : BR w A 4080 l) (hp : (pg : Int) < P.pages) (h0 : 0 ≤ lsn) (hls : lsn ≤ 9223372036854775807) (hpd : D.pending.length ≤ 900000) (hct : P.count ≤ 1152921504606846976) (hbs : b0 ≤ w.heap.size) :
  Calls Tryz.prog 22 #[.pointer (some ⟨gp, 0, none⟩), .int .i64 (pg : Int), .slice A 4080 c, .int .i64 lsn] w fun e w' => e = .returned (.int .i64 (setR L D P (pg : Int) l lsn).2.2) ∧ PStep w b0 gp gd wv (PS gp F ok tv mb q) (setR L D P (pg : Int) l lsn).1 (setR L D P (pg : Int) l lsn).2.1 w' := by
 have hask : askP P (pg : Int) = 0 := by
  unfold askP
  rw [if_neg (by omega)]
 have HA := Lib.hid (pasked_any X.pb (pg : Int))
 rw [hask] at HA
 have hfit := X.pi.fit
 have hd2 := X.pi.d2
 have hll : l.length = 4080 := hb.len
 have HL4 := Lib.hid hll
 have t1 : decide (lsn < 0) = false := decide_eq_false (by omega)
 have HCL := Lib.hid (Clone_any A 4080 c l w hb (by omega))
 obtain ⟨R, hR⟩ : ∃ R, R = setR L D P (pg : Int) l lsn := ⟨_, rfl⟩
 have HR : Hid (R = match findP P pg with
  | some i => (D, setP P i ⟨pg, l, lsn, true, true⟩, 0)
  | none => holdR L D P ⟨pg, l, lsn, true, true⟩) := Lib.hid (by
  rw [hR]
  unfold setR setE
  rw [hask, hll, if_neg (by rw [if_neg (by decide), if_neg (by omega)]; decide), Int.toNat_natCast]
  cases findP P pg <;> rfl)
 rw [← hR]
 have HX := Lib.hid X
 have HLV := Lib.hid hl
 have HLK := Lib.hid (fun (W : World) (hW : Below w.heap.size w W) => (X.mp.below hW).look (k := (pg : Int)) (by omega) (by omega))
 have HPP := Lib.hid hp
 clear X hl hask hR hb hp hfit hll
 go_enter Tryz.func22, Tryz.ntmps22
 go_wp2_with fail
 refine HA.out.mono ?_
 rintro e w1 ⟨rfl, rfl⟩
 go_wp2_with fail
 refine HCL.out.mono ?_
 rintro e w2 ⟨v, rfl, ob2, hb2⟩
 obtain ⟨A2, c2, rfl, _, _⟩ := own_form ob2
 have hob2 := ob2
 rw [HL4.out] at hob2 ⊢
 have OB2 := Lib.hid hob2
 have HB2 := Lib.hid hb2
 have hb3 : Below w2.heap.size w2 (w2.alloc (.cells #[.int .i64 (pg : Int), .slice A2 4080 c2, .int .i64 lsn, .bool true, .bool true] 101)) := gr_alloc (gr_refl w2) _
 have HB3 := Lib.hid hb3
 have HB23 := Lib.hid (hb2.trans (hb3.mono hb2.size))
 have hlk := HLK.out _ HB23.out
 rw [idxF_at] at hlk
 have HFR : Hid ((w2.alloc (.cells #[.int .i64 (pg : Int), .slice A2 4080 c2, .int .i64 lsn, .bool true, .bool true] 101)).heap[w2.heap.size]? = some (.cells #[.int .i64 (pg : Int), .slice A2 4080 c2, .int .i64 lsn, .bool true, .bool true] 101 (0, 0))) := Lib.hid (heap_alloc_new w2 _)
 have HX3 := Lib.hid (HX.out.below HB23.out)
 have c9 := HX3.out.pb.c9
 have kf : ∀ j u, #[.int .i64 (pg : Int), .slice A2 4080 c2, .int .i64 lsn, .bool true, .bool true][j]? = some u → (w2.alloc (.cells #[.int .i64 (pg : Int), .slice A2 4080 c2, .int .i64 lsn, .bool true, .bool true] 101)).cell? ⟨w2.heap.size, j, none⟩ = some u := fun j u hj => by rw [cell_of_row _ _ j _ _ _ HFR.out]; exact hj
 have kf0 := kf 0 _ rfl
 have kf1 := kf 1 _ rfl
 have kf2 := kf 2 _ rfl
 have kf3 := kf 3 _ rfl
 have kf4 := kf 4 _ rfl
 have HOB3 : Hid (OB (w2.alloc (.cells #[.int .i64 (pg : Int), .slice A2 4080 c2, .int .i64 lsn, .bool true, .bool true] 101)) w.heap.size (.slice A2 4080 c2) l) := Lib.hid (hob2.below hb3)
 clear ob2 hob2 hb2 hb3 kf
 cases hi : findP P pg with
 | none =>
  rw [hi] at HR hlk
  have HNO := Lib.hid ((findP_none P pg).1 hi)
  have hlk2 : (Instr.lookup 67 (.map (some mb)) (.int .i64 (pg : Int)) true).run Tryz.prog (w2.alloc (.cells #[.int .i64 (pg : Int), .slice A2 4080 c2, .int .i64 lsn, .bool true, .bool true] 101)) = .ok (.tuple #[.int .i64 0, .bool false]) (w2.alloc (.cells #[.int .i64 (pg : Int), .slice A2 4080 c2, .int .i64 lsn, .bool true, .bool true] 101)) := hlk
  have HHD := Lib.hid (phold_any HX3.out (HLV.out.step (Off.of_below HB23.out) (fun k e => .inl e)) ⟨pg, l, lsn, true, true⟩ A2 c2 ⟨own_lower HOB3.out hbs, by have := HPP.out; show pg < _; omega, HL4.out, h0, hls, HNO.out⟩ (fun k e e2 => by
    have h1 := (HOB3.out.lt k e).1
    have h2 := HX.out.lt e2
    omega) hpd hct (Nat.le_trans hbs HB23.out.size))
  dsimp only at HR
  rw [← HR.out] at HHD
  obtain ⟨D4, P4, r4⟩ := R
  dsimp only at HHD
  clear hi hlk HR
  go_wp2_with fail
  refine HHD.out.mono ?_
  rintro e w4 ⟨rfl, F4, ok4, tv4, mb4, q4, hx4, ho4, hs4⟩
  have HX4 := Lib.hid hx4
  have HO4 := Lib.hid ho4
  have HS4 := Lib.hid hs4
  clear hx4 ho4 hs4 HHD
  go_wp2_with fail
  go_ret
  refine ⟨rfl, F4, ok4, tv4, mb4, q4, HX4.out, (Off.of_below HB23.out).trans HO4.out, fun k e => ?_⟩
  rcases HS4.out k e with e | e | e
  ·exact .inl e
  ·exact .inr (HOB3.out.lt k e).1
  ·exact .inr (Nat.le_trans HB23.out.size e)
 | some i =>
  rw [hi] at HR hlk
  have hlk2 : (Instr.lookup 67 (.map (some mb)) (.int .i64 (pg : Int)) true).run Tryz.prog (w2.alloc (.cells #[.int .i64 (pg : Int), .slice A2 4080 c2, .int .i64 lsn, .bool true, .bool true] 101)) = .ok (.tuple #[.int .i64 (i : Int), .bool true]) (w2.alloc (.cells #[.int .i64 (pg : Int), .slice A2 4080 c2, .int .i64 lsn, .bool true, .bool true] 101)) := hlk
  have hlen : P.fr.length = q.length := by rw [← HX.out.qf, List.length_map]
  have hil := (findP_some hi).1
  have hpgi := (findP_some hi).2
  have hm2 := HX.out.pi.m2
  have hle := HX.out.pi.len
  have hiq : i < q.length := by omega
  obtain ⟨p, hpq⟩ : ∃ p, q[i]? = some p := ⟨_, List.getElem?_eq_getElem hiq⟩
  have HPQ := Lib.hid hpq
  have HPG : Hid (pg = p.1.page) := Lib.hid (by
   rw [← hpgi, ← HX.out.qf, List.getD_eq_getElem?_getD, List.getElem?_map, hpq]
   rfl)
  have HPD : Hid ((P.fr.getD i fr0).page = pg) := Lib.hid hpgi
  have HIL := Lib.hid hil
  obtain ⟨tb, tc, rfl, t1, t2, t3, t4⟩ := HX.out.tk.block (by omega)
  have i0 : (0 : Int) ≤ (i : Int) := Int.natCast_nonneg _
  have i1 : (i : Int) < (q.length : Int) := by omega
  have hql : q.length ≤ 256 := by omega
  clear hi hlk hpq hil hpgi hle hm2
  dsimp only at HR
  go_upto_region 9 with fail
  have k8 := Lib.hid HX3.out.pb.c8
  have KF0 := Lib.hid kf0
  have KF1 := Lib.hid kf1
  have KF2 := Lib.hid kf2
  have KF3 := Lib.hid kf3
  have KF4 := Lib.hid kf4
  clear kf0 kf1 kf2 kf3 kf4 c9 hlk2
  generalize (w2.alloc (.cells #[.int .i64 (pg : Int), .slice A2 4080 c2, .int .i64 lsn, .bool true, .bool true] 101)) = w3 at *
  refine wp_region_any (by kernel_rfl) ?_
  refine' wpAny_to_tail (l0 := #[false, false, false, false, false, false, false, false]) (by kernel_rfl) (by kernel_rfl) (by kernel_rfl) (by kernel_rfl) (by kernel_rfl)
   [MP.is (.pointer (some ⟨gp, 0, none⟩)), MP.is (.pointer (some ⟨gp, 0, none⟩)), MP.is (.pointer (some ⟨gp, 8, none⟩)), MP.is (.slice (some ⟨tb, 0, none⟩) q.length tc), MP.is (.int .i64 (i : Int)), MP.is (.agg #[.int .i64 (pg : Int), .slice A2 4080 c2, .int .i64 lsn, .bool true, .bool true]), MP.is (.pointer (some ⟨tb, i * 5, none⟩)), MP.any]
   (fun j => j == 7) #[true, true, true, true, true, true, true, false] rfl (by kernel_rfl) rfl (by kernel_rfl) (by kernel_rfl) (by kernel_rfl) (by kernel_rfl) (fun _ => undef) (by rfl) ?hR01 ?hAA1 ?hst1 ?hend1
  case hR01 =>
   intro j hj
   have hj2 : j ∈ [] := hj
   cases hj2
  case hAA1 =>
   intro f
   conv => lhs; simp only [putA, dstOf, List.size_toArray, List.length_cons, List.length_nil, Nat.zero_add, Nat.reduceAdd, List.getElem?_toArray, List.getElem?_cons_zero, List.getElem?_cons_succ, Option.bind_some, Act.put, List.setIfInBounds_toArray, List.set_cons_zero, List.set_cons_succ]
   first | done | exact rfl
  case hst1 =>
   refine Steps.of_list (l' := [0, 1, 2, 3, 4, 5, 6]) (by kernel_rfl) ?_
   refine Steps.cons rfl ?_ ?_
   ·intro f wz hB h K Q hK
    clear h
    try simp only [List.getElem_toArray, List.getElem_cons_zero]
    try rw [if_pos (by rfl)]
    go_simp
    exact hK _ _ (gr_refl _) rfl
   refine Steps.cons rfl ?_ ?_
   ·intro f wz hB h K Q hK
    have h0 : (MP.is (.pointer (some ⟨gp, 0, none⟩))).p (f 0) wz := h 0 (by kernel_rfl)
    have e0 : f 0 = (.pointer (some ⟨gp, 0, none⟩)) := h0
    simp only [e0] at hK ⊢
    clear e0
    clear h
    try rw [if_pos (by rfl)]
    go_simp
    exact hK _ _ (gr_refl _) rfl
   refine Steps.cons rfl ?_ ?_
   ·intro f wz hB h K Q hK
    have h1 : (MP.is (.pointer (some ⟨gp, 0, none⟩))).p (f 1) wz := h 1 (by kernel_rfl)
    have e1 : f 1 = (.pointer (some ⟨gp, 0, none⟩)) := h1
    simp only [e1] at hK ⊢
    clear e1
    clear h
    try rw [if_pos (by rfl)]
    go_simp
    exact hK _ _ (gr_refl _) rfl
   refine Steps.cons rfl ?_ ?_
   ·intro f wz hB h K Q hK
    have h2 : (MP.is (.pointer (some ⟨gp, 8, none⟩))).p (f 2) wz := h 2 (by kernel_rfl)
    have e2 : f 2 = (.pointer (some ⟨gp, 8, none⟩)) := h2
    simp only [e2] at hK ⊢
    clear e2
    clear h
    try rw [if_pos (by rfl)]
    have y0 := keep_of_below hB k8.out
    have y1 := keep_of_below hB KF0.out
    have y2 := keep_of_below hB KF1.out
    have y3 := keep_of_below hB KF2.out
    have y4 := keep_of_below hB KF3.out
    have y5 := keep_of_below hB KF4.out
    go_simp
    exact hK _ _ (gr_refl _) rfl
   refine Steps.cons rfl ?_ ?_
   ·intro f wz hB h K Q hK
    clear h
    try rw [if_pos (by rfl)]
    go_simp
    exact hK _ _ (gr_refl _) rfl
   refine Steps.cons rfl ?_ ?_
   ·intro f wz hB h K Q hK
    clear h
    try rw [if_pos (by rfl)]
    have y0 := keep_of_below hB k8.out
    have y1 := keep_of_below hB KF0.out
    have y2 := keep_of_below hB KF1.out
    have y3 := keep_of_below hB KF2.out
    have y4 := keep_of_below hB KF3.out
    have y5 := keep_of_below hB KF4.out
    go_simp
    exact hK _ _ (gr_refl _) rfl
   refine Steps.cons rfl ?_ ?_
   ·intro f wz hB h K Q hK
    have h3 : (MP.is (.slice (some ⟨tb, 0, none⟩) q.length tc)).p (f 3) wz := h 3 (by kernel_rfl)
    have e3 : f 3 = (.slice (some ⟨tb, 0, none⟩) q.length tc) := h3
    have h4 : (MP.is (.int .i64 (i : Int))).p (f 4) wz := h 4 (by kernel_rfl)
    have e4 : f 4 = (.int .i64 (i : Int)) := h4
    simp only [e3, e4] at hK ⊢
    clear e3 e4
    clear h
    try rw [if_pos (by rfl)]
    go_simp
    exact hK _ _ (gr_refl _) rfl
   exact Steps.nil
  intro f w5 hB5 hR
  conv => arg 7; simp only [putL, dstOf, List.size_toArray, List.length_cons, List.length_nil, Nat.zero_add, Nat.reduceAdd, List.getElem?_toArray, List.getElem?_cons_zero, List.getElem?_cons_succ, Option.bind_some, Act.put, List.setIfInBounds_toArray, List.set_cons_zero, List.set_cons_succ, Array.getD_eq_getD_getElem?, Option.getD_some, if_true, if_false, Bool.false_eq_true]
  have e0 : f 0 = (.pointer (some ⟨gp, 0, none⟩)) := hR 0 (by decide) rfl
  have e1 : f 1 = (.pointer (some ⟨gp, 0, none⟩)) := hR 1 (by decide) rfl
  have e2 : f 2 = (.pointer (some ⟨gp, 8, none⟩)) := hR 2 (by decide) rfl
  have e3 : f 3 = (.slice (some ⟨tb, 0, none⟩) q.length tc) := hR 3 (by decide) rfl
  have e4 : f 4 = (.int .i64 (i : Int)) := hR 4 (by decide) rfl
  have e5 : f 5 = (.agg #[.int .i64 (pg : Int), .slice A2 4080 c2, .int .i64 lsn, .bool true, .bool true]) := hR 5 (by decide) rfl
  have e6 : f 6 = (.pointer (some ⟨tb, i * 5, none⟩)) := hR 6 (by decide) rfl
  simp only [e0, e1, e2, e3, e4, e5, e6]
  clear e0 e1 e2 e3 e4 e5 e6 hR
  have HB5 : Hid (Below w3.heap.size w3 w5) := Lib.hid (Below.trans (gr_drewN (gr_refl w3) 1) hB5)
  have HX5 := Lib.hid (HX3.out.below HB5.out)
  have HOB5 := Lib.hid (HOB3.out.below HB5.out)
  obtain ⟨x0, x1, x2, x3, x4⟩ := fr_cells HX5.out.tk HPQ.out
  have y0 := own_frz HX5.out.tk (i * 5)
  have y1 := own_frz HX5.out.tk (i * 5 + 1)
  have y2 := own_frz HX5.out.tk (i * 5 + 2)
  have y3 := own_frz HX5.out.tk (i * 5 + 3)
  have y4 := own_frz HX5.out.tk (i * 5 + 4)
  clear hB5 k8 KF0 KF1 KF2 KF3 KF4
  refine wpAny_of_held (S := fun _ => True) _ _ _ _ ?_
  refine wpAnyH_ready (rs := [7]) (by kernel_rfl) (by simp) ?_
  refine AllReadyH.cons rfl (fun KK hK => ?_) AllReadyH.nil
  rw [if_pos (by rfl)]
  go_simp
  refine hK.out _ _ trivial (fun _ => ?_)
  clear hK KK
  try simp only [List.setIfInBounds_toArray, List.set_cons_zero, List.set_cons_succ]
  refine wpAnyH_done (by kernel_rfl) ?_ _
  clear x0 x1 x2 x3 x4 y0 y1 y2 y3 y4
  go_wp2_with fail
  go_ret
  have o6 := fr_setF_off w5 tb i (⟨pg, l, lsn, true, true⟩, .slice A2 4080 c2)
  have he6 := fr_setF HX5.out.tk HPQ.out (⟨pg, l, lsn, true, true⟩, .slice A2 4080 c2)
  have hov6 := HOB5.out.off o6 (fun k e e2 => by
   subst e2
   obtain ⟨cur, hc⟩ := own_blk HOB5.out e
   obtain ⟨cur2, hc2⟩ := own_blk HX5.out.tk rfl
   exact cells_ne hc hc2 (by decide))
  have hpi6 := HX5.out.pi.set (f := ⟨pg, l, lsn, true, true⟩) HIL.out HPD.out.symm HL4.out h0 hls
  have hx6 := HX5.out.frame HPQ.out (p' := (⟨pg, l, lsn, true, true⟩, .slice A2 4080 c2)) HPG.out o6 he6 (own_lower hov6 hbs) hpi6
  rw [HR.out]
  refine ⟨rfl, F, ok, _, mb, _, hx6, ?_, fun k e => ?_⟩
  ·refine (Off.of_below HB23.out).trans ((Off.of_below HB5.out).trans (o6.mono fun k _ e => ?_))
   subst e
   exact .inr (.inr (.inr (.inr (.inl rfl))))
  ·rcases e with e | e | e | e | e | ⟨x, hx, e⟩
   ·exact .inl (.inl e)
   ·exact .inl (.inr (.inl e))
   ·exact .inl (.inr (.inr (.inl e)))
   ·exact .inl (.inr (.inr (.inr (.inl e))))
   ·exact .inl (.inr (.inr (.inr (.inr (.inl e)))))
   ·rcases List.mem_or_eq_of_mem_set hx with hx | rfl
    ·exact .inl (.inr (.inr (.inr (.inr (.inr ⟨x, hx, e⟩)))))
    ·exact .inr (HOB5.out.lt k e).1
theorem Set_any {w : World} {b0 gp gd mb : Nat} {wv tv : Value} {D : DiskS} {P : PoS} {F ok : Nat → Prop} {q : List FV} {L : Option Int} (X : PX w b0 gp gd wv D P F ok tv mb q) (hl : LogV w wv L (PS gp F ok tv mb q)) (page lsn : Int) (A : Option Addr) (n c : Nat) (l : List UInt8) (hb : BR w A n l) (hls : lsn ≤ 9223372036854775807) (hpd : D.pending.length ≤ 900000) (hct : P.count ≤ 1152921504606846976) (hbs : b0 ≤ w.heap.size) :
  Calls Tryz.prog 22 #[.pointer (some ⟨gp, 0, none⟩), .int .i64 page, .slice A n c, .int .i64 lsn] w fun e w' => e = .returned (.int .i64 (setR L D P page l lsn).2.2) ∧ PStep w b0 gp gd wv (PS gp F ok tv mb q) (setR L D P page l lsn).1 (setR L D P page l lsn).2.1 w' := by
 by_cases hp : setE P page l.length lsn = 0
 ·have hln : l.length = n := hb.len
  have h2 : askP P page = 0 := by
   by_cases h : askP P page = 0
   ·exact h
   ·refine absurd hp ?_
    unfold setE
    rw [if_pos h]
    exact h
  have h3 : ¬ (l.length ≠ 4080 ∨ lsn < 0) := fun h => by
   unfold setE at hp
   rw [if_neg (by rw [h2]; decide), if_pos h] at hp
   cases hp
  have h4 : ¬ (page < 0 ∨ (P.pages : Int) ≤ page) := fun h => by
   unfold askP at h2
   rw [if_pos h] at h2
   cases h2
  obtain ⟨pg, rfl⟩ : ∃ pg : Nat, page = (pg : Int) := ⟨page.toNat, by omega⟩
  obtain rfl : n = 4080 := by omega
  exact Set_good X hl pg lsn A c l hb (by omega) (by omega) hls hpd hct hbs
 ·exact Set_bad X page lsn A n c l hb.len hp
end Go.Proofs.YtmdgnjmhbjdlmaaGreat

/-! PoH -/
namespace Go.Proofs.YtmdgnjmhbjdlmaaGreat
open Go Go.RowKit
theorem own_pre {w : World} {base q n c k : Nat} {e : TypeId} {xs : List Value} (h : w.ownsRow base e 1 (.slice (some ⟨q, 0, none⟩) n c) n xs) (hk : k ≤ n) : w.ownsRow base e 1 (.slice (some ⟨q, 0, none⟩) k c) k (xs.take k) := by
 have hl := h.1
 rcases h.2 with ⟨e', _⟩ | ⟨q', cap, cur, e', hb, hg, hn, hm, hz, ht⟩
 ·cases e'
 ·injection e' with e1 e2 e3
  injection e1 with e1
  injection e1 with e1
  subst e1 e3
  refine ⟨by rw [List.length_take]; omega, .inr ⟨q, c, cur, rfl, hb, hg, by omega, hm, hz, ?_⟩⟩
  rw [← ht, List.take_take]
  congr 1
  omega
theorem setCells_own {base q n c : Nat} {e : TypeId} (z : Value) : ∀ (m o : Nat) (w : World) (xs : List Value), w.ownsRow base e 1 (.slice (some ⟨q, 0, none⟩) n c) n xs →
  ∃ ys, (w.setCells q o (List.replicate m z)).ownsRow base e 1 (.slice (some ⟨q, 0, none⟩) n c) n ys ∧ ys.take o = xs.take o ∧ w.grownBy (w.setCells q o (List.replicate m z)) (some q)
 | 0, o, w, xs, h => ⟨xs, h, rfl, World.grownBy.refl w _⟩
 | m + 1, o, w, xs, h => by
  obtain ⟨h1, h2⟩ := h.stored o z
  obtain ⟨ys, g1, g2, g3⟩ := setCells_own z m (o + 1) _ _ h1
  refine ⟨ys, g1, ?_, ⟨g3.os.trans h2.os, g3.tape.trans h2.tape, g3.output.trans h2.output, Nat.le_trans h2.size g3.size, fun k hk hne => (g3.block k (Nat.lt_of_lt_of_le hk h2.size) hne).trans (h2.block k hk hne)⟩⟩
  have := congrArg (List.take o) g2
  rw [List.take_take, List.take_take, Nat.min_eq_left (by omega)] at this
  rw [this, List.take_set_of_le (Nat.le_refl _)]
theorem info_int : (Tryz.prog.info? 3).map (fun i => (i.zero, i.size, i.bytes)) = some (some (.int .i64 0), 1, 8) := by kernel_rfl
def PredV (w : World) (bx : Nat) (l : List Int) (pr : Int → Bool) (S : Nat → Prop) : Prop := ∀ x ∈ l, ∀ W, Off S w W → Calls Tryz.prog 48 #[.int .i64 x, .pointer (some ⟨bx, 0, none⟩)] W fun e w' => e = .returned (.bool (pr x)) ∧ Below W.heap.size W w'
def IdxP (l : List Int) (pr : Int → Bool) (r : Int) : Prop := (r = -1 ∧ ∀ x ∈ l, pr x = false) ∨ ∃ k : Nat, r = k ∧ k < l.length ∧ pr (l.getD k 0) = true ∧ ∀ j, j < k → pr (l.getD j 0) = false
def IdxQ (l : List Int) (pr : Int → Bool) (w : World) (e : Ending) (w' : World) : Prop := ∃ r, e = .returned (.int .i64 r) ∧ IdxP l pr r ∧ Below w.heap.size w w'
set_option maxRecDepth 100000 in
set_option maxHeartbeats 1000000 in
theorem IndexFunc_any (A : Option Addr) (n c bx : Nat) (l : List Int) (pr : Int → Bool) (S : Nat → Prop) (w : World) (ha : IR w A n l) (hn : n ≤ 1000000) (hc : PredV w bx l pr S) :
  Calls Tryz.prog 74 #[.slice A n c, .func (.func 48) #[] #[.pointer (some ⟨bx, 0, none⟩)]] w (IdxQ l pr w) := by
 have HC := Lib.hid hc
 have HL := Lib.hid ha.len
 have HA := Lib.hid ha
 clear hc ha
 go_enter Tryz.func74, Tryz.ntmps74
 go_wp2_with fail
 go_loopw [8] (fun i wr => ∃ k : Nat, k ≤ n ∧ i = .int .i64 k ∧ Hid (∀ j, j < k → pr (l.getD j 0) = false) ∧ Hid (Below w.heap.size w wr)) (fun i _ => n - (RowKit.intOf i).toNat)
 case atStart => exact ⟨0, by omega, rfl, Lib.hid (fun j hj => by omega), Lib.hid (gr_refl w)⟩
 case round =>
  obtain ⟨k, hk, rfl, HN, HB⟩ := hrel
  by_cases hlt : k < n
  ·have t1 : decide ((k : Int) < (n : Int)) = true := by simp; omega
   have t1' : decide (k < n) = true := by simp; omega
   obtain ⟨g, o, rfl, hcc⟩ := IR.at_ (HA.out.below HB.out) (k := k) hlt
   have hi0' : (0 : Int) ≤ (k : Int) := Int.natCast_nonneg _
   have hi1' : (k : Int) < (n : Int) := by omega
   have HD := Lib.hid (HC.out (l.getD k 0) (getD_mem (by rw [HL.out]; exact hlt)) wr (Off.of_below HB.out))
   cases hx : pr (l.getD k 0) with
   | true =>
    have HX : Hid (IdxP l pr (k : Int)) := Lib.hid (.inr ⟨k, rfl, by rw [HL.out]; exact hlt, hx, HN.out⟩)
    rw [hx] at HD
    clear hx HN
    generalize l.getD k 0 = x at *
    go_wp2_with fail
    refine HD.out.mono ?_
    rintro e w' ⟨rfl, hb⟩
    have HB2 := Lib.hid (HB.out.trans (hb.mono HB.out.size))
    clear hb
    go_wp2_with fail
    go_ret
    exact ⟨_, rfl, HX.out, HB2.out⟩
   | false =>
    have HX : Hid (∀ j, j < k + 1 → pr (l.getD j 0) = false) := Lib.hid (fun j hj => by
     by_cases e : j = k
     ·rw [e]; exact hx
     ·exact HN.out j (by omega))
    rw [hx] at HD
    clear hx HN
    generalize l.getD k 0 = x at *
    go_wp2_with fail
    refine HD.out.mono ?_
    rintro e w' ⟨rfl, hb⟩
    have HB2 := Lib.hid (HB.out.trans (hb.mono HB.out.size))
    clear hb
    go_wp2_with fail
    go_roundw
    case rel => exact ⟨k + 1, by omega, by go_num, HX, HB2⟩
    case measure => simp [RowKit.intOf]; omega
  ·have t1 : decide ((k : Int) < (n : Int)) = false := by simp; omega
   have t1' : decide (k < n) = false := by simp; omega
   have HX : Hid (IdxP l pr (-1)) := Lib.hid (.inl ⟨rfl, fun x hx => by
    obtain ⟨j, hj, rfl⟩ := List.getElem_of_mem hx
    have := HN.out j (by have := HL.out; omega)
    simpa [List.getD, List.getElem?_eq_getElem hj] using this⟩)
   clear HN
   go_wp2_with fail
   go_ret
   exact ⟨_, rfl, HX.out, HB.out⟩
def butP (l : List Int) (pr : Int → Bool) : List Int := l.filter (fun x => !(pr x))
theorem but_none {l : List Int} {pr : Int → Bool} (h : ∀ x ∈ l, pr x = false) : butP l pr = l := by
 unfold butP
 rw [List.filter_eq_self]
 intro x hx
 rw [h x hx]
 rfl
theorem but_snoc {l : List Int} {pr : Int → Bool} {j : Nat} (h : j < l.length) : butP (l.take (j + 1)) pr = butP (l.take j) pr ++ if pr (l.getD j 0) = true then [] else [l.getD j 0] := by
 unfold butP
 rw [List.take_succ_eq_append_getElem h, List.filter_append]
 congr 1
 have e : l.getD j 0 = l[j] := by simp [List.getD, List.getElem?_eq_getElem h]
 rw [e]
 by_cases hx : pr l[j] = true
 ·simp [hx]
 ·simp [hx]
def DelQ (base : Nat) (l : List Int) (pr : Int → Bool) (v0 : Value) (w : World) (e : Ending) (w' : World) : Prop :=
 ∃ v, e = .returned v ∧ w'.ownsRow base 3 1 v (butP l pr).length ((butP l pr).map (Value.int .i64)) ∧ Off (fun k => v0.ownBlock = some k) w w'
set_option maxRecDepth 100000 in
set_option maxHeartbeats 2000000 in
theorem DeleteFunc_any (A : Option Addr) (n c bx base : Nat) (l : List Int) (pr : Int → Bool) (w : World) (ho : w.ownsRow base 3 1 (.slice A n c) n (l.map (Value.int .i64))) (hn : n ≤ 1000000) (hc : PredV w bx l pr (fun k => (Value.slice A n c).ownBlock = some k)) :
  Calls Tryz.prog 47 #[.slice A n c, .func (.func 48) #[] #[.pointer (some ⟨bx, 0, none⟩)]] w (DelQ base l pr (.slice A n c) w) := by
 have ha : IR w A n l := Rd.of_own ho
 have HI := Lib.hid (IndexFunc_any A n c bx l pr _ w ha hn hc)
 have HL := Lib.hid ha.len
 have HPV := Lib.hid hc
 clear hc
 go_enter Tryz.func47, Tryz.ntmps47
 go_wp2_with fail
 refine HI.out.mono ?_
 rintro e w1 ⟨r, rfl, hr, hb1⟩
 have HB1 := Lib.hid hb1
 have ho1 := ownsRow_off (S := fun _ => False) ho (Off.of_below hb1) (fun _ _ h => h)
 clear hb1 HI ha
 rcases hr with ⟨rfl, hno⟩ | ⟨k, rfl, hkl, hk, hkn⟩
 ·have HQ : Hid (DelQ base l pr (.slice A n c) w (.returned (.slice A n c)) w1) := Lib.hid ⟨_, rfl, by rw [but_none hno, HL.out]; exact ho1, Off.of_below HB1.out⟩
  clear hno ho ho1
  go_wp2_with fail
  go_ret
  exact HQ.out
 ·have hkn' : k < n := by rw [← HL.out]; exact hkl
  obtain ⟨q, _, rfl⟩ : ∃ q : Nat, True ∧ A = some ⟨q, 0, none⟩ := by
   rcases ho.2 with ⟨_, e⟩ | ⟨q, cap, cur, e, _⟩
   ·omega
   ·injection e with e
    exact ⟨q, trivial, e⟩
  have hcap : n ≤ c := by
   obtain ⟨_, _, e, h1, _⟩ := own_form ho
   injection e with _ _ e
   omega
  have q1 : ((k : Int) == -1) = false := beq_eq_false_iff_ne.2 (by omega)
  have H0 : Hid (l.take k = butP (l.take (k + 1)) pr) := Lib.hid (by
   rw [but_snoc hkl, if_pos hk, List.append_nil]
   refine (but_none (fun x hx => ?_)).symm
   obtain ⟨j, hj, rfl⟩ := List.getElem_of_mem hx
   rw [List.length_take] at hj
   have := hkn j (by omega)
   simpa [List.getD, List.getElem?_eq_getElem (show j < l.length by omega)] using this)
  have HO := Lib.hid ho1
  clear hk hkn ho ho1
  go_wp2_with fail
  go_loopw [5, 6] (fun i j wr => ∃ (i' j' : Nat) (xs : List Int), i' < j' ∧ j' ≤ n ∧ i = .int .i64 i' ∧ j = .int .i64 j' ∧ Hid (xs.length = n) ∧ Hid (xs.take i' = butP (l.take j') pr) ∧ Hid (∀ m, j' ≤ m → xs.getD m 0 = l.getD m 0) ∧
   wr.ownsRow base 3 1 (.slice (some ⟨q, 0, none⟩) n c) n (xs.map (Value.int .i64)) ∧ Hid (Off (fun k => (Value.slice (some ⟨q, 0, none⟩) n c).ownBlock = some k) w wr)) (fun _ j _ => n - (RowKit.intOf j).toNat)
  case atStart => exact ⟨k, k + 1, l, by omega, by omega, rfl, by go_num, HL, H0, Lib.hid (fun _ _ => rfl), HO.out, Lib.hid (Off.of_below HB1.out)⟩
  case round =>
   obtain ⟨i, j, xs, hij, hjn, rfl, rfl, HXL, HXT, HXD, hown, HG⟩ := hrel
   by_cases hlt : j < n
   ·have t1 : decide ((j : Int) < (n : Int)) = true := by simp; omega
    have t1' : decide (j < n) = true := by simp; omega
    have HD := Lib.hid (HPV.out (l.getD j 0) (getD_mem (by rw [HL.out]; exact hlt)) wr HG.out)
    have hcj : wr.cell? ⟨q, j, none⟩ = some (.int .i64 (l.getD j 0)) := by
     rw [hown.cellAt j (by omega), ← HXD.out j (Nat.le_refl _)]
     simp [List.getD, List.getElem?_eq_getElem (show j < xs.length by rw [HXL.out]; exact hlt)]
    have HOW := Lib.hid hown
    have HSN := Lib.hid (but_snoc (pr := pr) (show j < l.length by rw [HL.out]; exact hlt))
    have HX'' : Hid (∀ m, j + 1 ≤ m → xs.getD m 0 = l.getD m 0) := Lib.hid (fun m hm => HXD.out m (by omega))
    have hi0' : (0 : Int) ≤ (j : Int) := Int.natCast_nonneg _
    have hi1' : (j : Int) < (n : Int) := by omega
    have hi2' : (0 : Int) ≤ (i : Int) := Int.natCast_nonneg _
    have hi3' : (i : Int) < (n : Int) := by omega
    clear hown
    cases hx : pr (l.getD j 0) with
    | true =>
     rw [hx] at HD
     have HT : Hid (xs.take i = butP (l.take (j + 1)) pr) := Lib.hid (by rw [HSN.out, if_pos hx, List.append_nil]; exact HXT.out)
     clear hx HSN HXT HXD
     generalize l.getD j 0 = x at *
     go_wp2_with fail
     refine HD.out.mono ?_
     rintro e w' ⟨rfl, hb⟩
     have hown := ownsRow_off (S := fun _ => False) HOW.out (Off.of_below hb) (fun _ _ h => h)
     have HG2 := Lib.hid (HG.out.trans (Off.of_below hb))
     clear hb
     go_wp2_with fail
     go_roundw
     case rel => exact ⟨i, j + 1, xs, by omega, by omega, rfl, by go_num, HXL, HT, HX'', hown, HG2⟩
     case measure => simp [RowKit.intOf]; omega
    | false =>
     rw [hx] at HD
     have HX' : Hid (∀ m, j + 1 ≤ m → (xs.set i (l.getD j 0)).getD m 0 = l.getD m 0) := Lib.hid (fun m hm => by
      rw [← HXD.out m (by omega)]
      simp only [List.getD, List.getElem?_set]
      rw [if_neg (by omega)])
     have HTK : Hid ((xs.set i (l.getD j 0)).take (i + 1) = xs.take i ++ [l.getD j 0]) := Lib.hid (by
      rw [List.take_succ_eq_append_getElem (by rw [List.length_set, HXL.out]; omega), List.take_set_of_le (Nat.le_refl _), List.getElem_set_self])
     have HT : Hid ((xs.set i (l.getD j 0)).take (i + 1) = butP (l.take (j + 1)) pr) := Lib.hid (by rw [HSN.out, if_neg (by rw [hx]; decide), HTK.out, HXT.out])
     have HXL' : Hid ((xs.set i (l.getD j 0)).length = n) := Lib.hid (by rw [List.length_set]; exact HXL.out)
     have hci0 : xs[i]? = some (xs.getD i 0) := by simp [List.getD, List.getElem?_eq_getElem (show i < xs.length by rw [HXL.out]; omega)]
     have HCI := Lib.hid hci0
     clear hx HSN HTK HXT HX'' hci0
     generalize l.getD j 0 = x at *
     generalize xs.getD i 0 = y at *
     go_wp2_with fail
     refine HD.out.mono ?_
     rintro e w' ⟨rfl, hb⟩
     have hown := ownsRow_off (S := fun _ => False) HOW.out (Off.of_below hb) (fun _ _ h => h)
     have hci : w'.cell? ⟨q, i, none⟩ = some (.int .i64 y) := by
      rw [hown.cellAt i (by omega), List.getElem?_map, HCI.out]
      rfl
     have hzi := hown.frozenAt i
     have hst := hown.stored i (.int .i64 x)
     have HS1 := Lib.hid hst.1
     rw [← List.map_set] at HS1
     have HG2 : Hid (Off (fun k => (Value.slice (some ⟨q, 0, none⟩) n c).ownBlock = some k) w (w'.setCell ⟨q, i, none⟩ (.int .i64 x))) := Lib.hid ((HG.out.trans (Off.of_below hb)).setCell _ rfl)
     clear hb hst hown HXD
     go_wp2_with fail
     go_roundw
     case rel => exact ⟨i + 1, j + 1, _, by omega, by omega, by go_num, by go_num, HXL', HT, HX', HS1.out, HG2⟩
     case measure => simp [RowKit.intOf]; omega
   ·have t1 : decide ((j : Int) < (n : Int)) = false := by simp; omega
    have t1' : decide (j < n) = false := by simp; omega
    obtain ⟨i0, hi0, hz0, hz1, hz2⟩ := info_parts info_int
    have hcut1 := fun W => run_cut_l (P := Tryz.prog) W 54 3 i0 Tryz.underlying54 hi0 1 hz1 (some ⟨q, 0, none⟩) n c (i : Int) i rfl (by omega)
    have hcut2 := fun W => run_cut_h (P := Tryz.prog) W 54 3 i0 Tryz.underlying54 hi0 1 hz1 (some ⟨q, 0, none⟩) n c (i : Int) i rfl (by omega)
    have hca : cutA (some ⟨q, 0, none⟩) c i 1 = some ⟨q, i, none⟩ := by
     unfold cutA
     rw [if_neg (by omega)]
     simp [add_plain]
    rw [hca] at hcut1
    have hclr := fun ty => Lib.run_clear_slice (P := Tryz.prog) wr 54 3 ty (.int .i64 0) Tryz.underlying54 (fun _ => by kernel_rfl) rfl rfl q i (n - i) (c - i) (by omega) (fun m hm => by
     rw [hown.cellAt (i + m) (by omega), List.getElem?_eq_getElem (by rw [List.length_map, HXL.out]; omega)]
     rfl) (fun m _ => hown.frozenAt (i + m))
    obtain ⟨ys, g1, g2, g3⟩ := setCells_own (.int .i64 0) (n - i) i wr _ hown
    have HQ : Hid (DelQ base l pr (.slice (some ⟨q, 0, none⟩) n c) w (.returned (.slice (some ⟨q, 0, none⟩) i c)) (wr.setCells q i (List.replicate (n - i) (.int .i64 0)))) := Lib.hid (by
     have hT := HXT.out
     have hlj : l.take j = l := List.take_of_length_le (by rw [HL.out]; omega)
     rw [hlj] at hT
     have hlen : (butP l pr).length = i := by rw [← hT, List.length_take, HXL.out]; omega
     have hpre := own_pre g1 (k := i) (by omega)
     rw [g2, ← List.map_take, hT] at hpre
     refine ⟨_, rfl, by rw [hlen]; exact hpre, HG.out.trans (Off.of_grown g3 (fun k e => e))⟩)
    clear hown g1 g2 g3 HG HXT HXD hca
    generalize wr.setCells q i (List.replicate (n - i) (.int .i64 0)) = w9 at *
    go_wp2_with fail
    go_ret
    exact HQ.out
end Go.Proofs.YtmdgnjmhbjdlmaaGreat

/-! PoI -/
namespace Go.Proofs.YtmdgnjmhbjdlmaaGreat
open Go Go.RowKit Go.Maps Go.Sort Go.Shelf
theorem MQ.look1 {w : World} {b n : Nat} {f : Int → Option Int} (h : MQ w b n f) {k : Int} (h1 : -9223372036854775808 ≤ k) (h2 : k ≤ 9223372036854775807) :
  (Instr.lookup 67 (.map (some b)) (.int .i64 k) false).run Tryz.prog w = .ok (.int .i64 ((f k).getD 0)) w := by
 obtain ⟨D, hown, hz, hf⟩ := h
 obtain ⟨c, hrun, hc', _⟩ := hown.lookup_int kInt Tryz.underlying67 Tryz.underlying3 (zeroInt w) (key_of h1 h2)
 rw [hrun]
 cases hfk : f k with
 | none =>
  have := atKey_of_not_has (D := D) (k := .int .i64 k) (by rw [(hf k).1, hfk]; rfl) (.lit (.int .i64 0))
  rw [this] at hc'
  obtain rfl : (0 : Int) = c := by simpa using hc'
  rfl
 | some v =>
  rw [(hf k).2 v hfk] at hc'
  obtain rfl : v = c := by simpa using hc'
  rfl
theorem Keys_any (mb : Option Nat) (w : World) : Calls Tryz.prog 45 #[.map mb] w fun e w' => e = .returned (.func (.func 73) #[] #[.pointer (some ⟨w.heap.size, 0, none⟩)]) ∧ w' = w.alloc (.cells #[.map mb] 67) :=
 (callsIn_wide (n := 5)).1 (AnyZI.keys_in Tryz.keysA Fence.wide 5 trivial rfl mb w)
theorem sortsA (m : Nat) : AnyZI.SortsIn Tryz.prog Tryz.sortedA_ren Fence.wide m :=
 ⟨fun blk off cap ss W hH hblk hsz => callsIn_wide.2 (AnyM.slices_Sort_int Tryz.sortA blk off cap ss W hH hblk hsz), fun p cap W => callsIn_wide.2 (AnyM.slices_Sort_int_none Tryz.sortA p cap W)⟩
set_option maxHeartbeats 1000000 in
theorem SortedKeys_any (b n : Nat) (f : Int → Option Int) (ks : List Int) (w : World) (h : MQ w b n f) (hn : n ≤ 4398046511104) (hnd : ks.Nodup) (hks : ∀ x, x ∈ ks ↔ (f x).isSome = true) :
  Calls Tryz.prog 44 #[.func (.func 73) #[] #[.pointer (some ⟨w.heap.size, 0, none⟩)]] (w.alloc (.cells #[.map (some b)] 67)) fun e w' => ∃ (v : Value) (ss : List Int), e = .returned v ∧ ss.Perm ks ∧ w'.ownsRow w.heap.size 3 1 v ss.length ((ss.mergeSort leI).map (Value.int .i64)) ∧ Below w.heap.size w w' := by
 obtain ⟨D0, hown, hz, hf⟩ := h
 have hbl := hown.lt
 have hmax : Maps.size D0 ≤ maxLen := by rw [hz]; simp only [maxLen]; omega
 have hbytes : Maps.size D0 * 8 ≤ 140737488355328 := by rw [hz]; omega
 have hseq : SeqGives Fence.wide 2 Tryz.prog 73 #[.pointer (some ⟨w.heap.size, 0, none⟩)] encZ (fun ss => ss.Perm (intKeys D0)) (Maps.size D0) (w.alloc (.cells #[.map (some b)] 67)) :=
  AnyZI.keys_gives (ρ := Tryz.keysA_ren) { Tryz.keysA with } Fence.wide _ trivial rfl (by omega) w.heap.size b _ D0 _ (by simp) (by simp) (by
   obtain ⟨es, clock, hb, Ft, hs, hD⟩ := hown
   exact ⟨es, clock, (Below.heap_alloc _ _ b hbl).trans hb, Ft, hs, hD⟩)
 have cS := AnyZI.sorted_in Tryz.sortedA Fence.wide 5 trivial trivial trivial trivial rfl (by omega) (sortsA _) (enters_of Tryz.func72 (by kernel_rfl) rfl) 73 #[.pointer (some ⟨w.heap.size, 0, none⟩)] trivial (enters_of Tryz.func73 (by kernel_rfl) rfl) _ _ hmax hbytes _ hseq
 refine ((callsIn_wide (n := 5)).1 cS).mono ?_
 rintro e w' ⟨v, ss, rfl, hS, hrow, hnil, hb⟩
 have hpk : (intKeys D0).Perm ks := by
  obtain ⟨es, rfl, hes⟩ := hown.keysOf
  refine (perm_intKeys ?_ ?_ hnd fun x => ?_).symm
  ·obtain ⟨es', e2, ht⟩ := hown.tidy kInt
   cases e2
   exact ht
  ·intro p hp
   obtain ⟨key, hkey⟩ := hes p hp
   obtain ⟨x, _, hx, _⟩ := Maps.keyOf_i64 Tryz.underlying3 hkey
   exact ⟨x, hx⟩
  ·rw [hks x, (hf x).1]
 refine ⟨v, ss, rfl, hS.trans hpk, ?_, ⟨hb.os, hb.tape, hb.output, Nat.le_trans (by simp) hb.size, fun k hk' => (hb.block k (by simp; omega)).trans (Below.heap_alloc _ _ k hk')⟩⟩
 exact own_lower hrow (by simp)
def intsL (l : List Nat) : List Int := l.map Int.ofNat
theorem held_sorted (P : PoS) {ss : List Int} (h : ss.Perm (intsL (P.fr.map FrS.page))) (hnd : (P.fr.map FrS.page).Nodup) (hp : ∀ f ∈ P.fr, f.page < P.pages) : ss.mergeSort leI = intsL (heldL P) := by
 have tr : ∀ a b c : Int, leI a b = true → leI b c = true → leI a c = true := fun a b c h1 h2 => by simp only [leI, decide_eq_true_eq] at *; exact Int.le_trans h1 h2
 have tot : ∀ a b : Int, (leI a b || leI b a) = true := fun a b => by simp only [leI, Bool.or_eq_true, decide_eq_true_eq]; exact Int.le_total a b
 refine List.Perm.eq_of_pairwise (le := fun a b => leI a b = true) (fun a b _ _ h1 h2 => ?_) (List.pairwise_mergeSort tr tot ss) ?_ ?_
 ·simp only [leI, decide_eq_true_eq] at h1 h2
  exact Int.le_antisymm h1 h2
 ·unfold intsL heldL
  refine List.pairwise_map.2 (List.Pairwise.imp (R := fun a b => a < b) (fun {a b} hab => ?_) ((List.pairwise_lt_range).filter _))
  simp only [leI, decide_eq_true_eq]
  exact Int.ofNat_le.2 (Nat.le_of_lt hab)
 ·refine ((List.mergeSort_perm ss leI).trans h).trans (List.Perm.map _ ?_)
  refine (List.perm_ext_iff_of_nodup hnd (List.nodup_range.filter _)).2 fun x => ?_
  rw [List.mem_filter, List.mem_range]
  cases hx : findP P x with
  | none =>
   have := (findP_none P x).1 hx
   simp [this]
  | some i =>
   obtain ⟨h1, h2⟩ := findP_some hx
   have hm := getD_mem (d := fr0) h1
   have h3 := hp _ hm
   rw [h2] at h3
   simp only [Option.isSome_some, and_true]
   exact ⟨fun _ => h3, fun _ => h2 ▸ List.mem_map_of_mem hm⟩
theorem heldL_mem {P : PoS} {x : Nat} (h : x ∈ heldL P) : ∃ i, findP P x = some i := by
 unfold heldL at h
 exact Option.isSome_iff_exists.1 (List.mem_filter.1 h).2
theorem heldL_len (P : PoS) (hnd : (P.fr.map FrS.page).Nodup) (hp : ∀ f ∈ P.fr, f.page < P.pages) : (heldL P).length = P.fr.length := by
 have := congrArg List.length (held_sorted P (List.Perm.refl _) hnd hp)
 rw [List.length_mergeSort] at this
 simpa [intsL] using this.symm
set_option maxRecDepth 100000 in
theorem Held_any {w : World} {b0 gp gd mb : Nat} {wv tv : Value} {D : DiskS} {P : PoS} {F ok : Nat → Prop} {q : List FV} (X : PX w b0 gp gd wv D P F ok tv mb q) :
  Calls Tryz.prog 15 #[.pointer (some ⟨gp, 0, none⟩)] w fun e w' => ∃ A c, e = .returned (.slice A (heldL P).length c) ∧ w'.ownsRow w.heap.size 3 1 (.slice A (heldL P).length c) (heldL P).length ((intsL (heldL P)).map (Value.int .i64)) ∧ Below w.heap.size w w' := by
 have HM := Lib.hid (pmade_yes w gp X.pb.c0)
 have c9 := X.pb.c9
 have hlen := X.pi.len
 have hm2 := X.pi.m2
 have HS := Lib.hid (SortedKeys_any mb P.fr.length _ (intsL (P.fr.map FrS.page)) w X.mp (by omega) (List.pairwise_map.2 (X.pi.nd.imp fun h e => h (Int.ofNat.inj e))) (fun x => by
  unfold intsL
  rw [List.mem_map]
  constructor
  ·rintro ⟨p, hp, rfl⟩
   obtain ⟨i, hi⟩ := List.getElem?_of_mem hp
   show (idxF (P.fr.map FrS.page) ((p : Nat) : Int)).isSome = true
   unfold idxF
   rw [if_neg (by omega), Int.toNat_natCast, (idx_some X.pi.nd).2 hi]
   rfl
  ·intro h
   unfold idxF at h
   split at h
   ·cases h
   ·rename_i h0
    obtain ⟨i, hi⟩ := Option.isSome_iff_exists.1 h
    rw [Option.map_eq_some_iff] at hi
    obtain ⟨j, hj, _⟩ := hi
    exact ⟨x.toNat, List.mem_of_getElem? ((idx_some X.pi.nd).1 hj), by simp; omega⟩))
 have HK := Lib.hid (Keys_any (some mb) w)
 have HE := Lib.hid (fun ss h => held_sorted P (ss := ss) h X.pi.nd (fun f hf => (X.pi.ok f hf).1))
 clear X hlen hm2
 go_enter Tryz.func15, Tryz.ntmps15
 go_wp2_with fail
 refine HM.out.mono ?_
 rintro e w1 ⟨rfl, rfl⟩
 go_wp2_with fail
 refine HK.out.mono ?_
 rintro e w2 ⟨rfl, rfl⟩
 go_wp2_with fail
 refine HS.out.mono ?_
 rintro e w3 ⟨v, ss, rfl, hp, ho, hb⟩
 have e1 := HE.out ss hp
 have e2 : ss.length = (heldL P).length := by
  have := congrArg List.length e1
  rw [List.length_mergeSort] at this
  simpa [intsL] using this
 rw [e1, e2] at ho
 obtain ⟨A, c, rfl, _, _⟩ := own_form ho
 have HO := Lib.hid ho
 have HB := Lib.hid hb
 clear e1 e2 ho hb hp
 go_wp2_with fail
 go_ret
 exact ⟨A, c, rfl, HO.out, HB.out⟩
def cleanI (P : PoS) (x : Int) : Bool := !(P.fr.getD ((findP P x.toNat).getD 0) fr0).dirty
set_option maxRecDepth 100000 in
theorem DirtyC_any {w : World} {b0 gp gd mb bx : Nat} {wv tv : Value} {D : DiskS} {P : PoS} {F ok : Nat → Prop} {q : List FV} (X : PX w b0 gp gd wv D P F ok tv mb q) (hbx : w.cell? ⟨bx, 0, none⟩ = some (.pointer (some ⟨gp, 0, none⟩))) (pg : Nat) (hi : ∃ i, findP P pg = some i) :
  Calls Tryz.prog 48 #[.int .i64 (pg : Int), .pointer (some ⟨bx, 0, none⟩)] w fun e w' => e = .returned (.bool (cleanI P (pg : Int))) ∧ Below w.heap.size w w' := by
 obtain ⟨i, hi⟩ := hi
 have hlen : P.fr.length = q.length := by rw [← X.qf, List.length_map]
 have hil := (findP_some hi).1
 have hm2 := X.pi.m2
 have hle := X.pi.len
 obtain ⟨p, hpq⟩ : ∃ p, q[i]? = some p := ⟨_, List.getElem?_eq_getElem (by omega)⟩
 have hpf : P.fr.getD i fr0 = p.1 := by
  rw [← X.qf, List.getD_eq_getElem?_getD, List.getElem?_map, hpq]
  rfl
 obtain ⟨tb, tc, rfl, t1, t2, t3, t4⟩ := X.tk.block (by omega)
 have hpl : pg ≤ 4096 := by
  have h1 := X.pi.fit
  have h2 := X.pi.d2
  have h3 := (X.pi.ok _ (getD_mem (d := fr0) hil)).1
  rw [(findP_some hi).2] at h3
  omega
 have HLK : Hid (∀ W, Below w.heap.size w W → (Instr.lookup 67 (.map (some mb)) (.int .i64 (pg : Int)) false).run Tryz.prog W = .ok (.int .i64 (i : Int)) W) := Lib.hid (fun W hW => by
  have := (X.mp.below hW).look1 (k := (pg : Int)) (by omega) (by omega)
  rw [idxF_at, hi] at this
  exact this)
 have c9 := X.pb.c9
 have c8 := X.pb.c8
 obtain ⟨_, _, _, f3, _⟩ := fr_cells X.tk hpq
 have HR : Hid (cleanI P (pg : Int) = !p.1.dirty) := Lib.hid (by
  unfold cleanI
  rw [Int.toNat_natCast, hi]
  show (!(P.fr.getD i fr0).dirty) = _
  rw [hpf])
 have i0 : (0 : Int) ≤ (i : Int) := Int.natCast_nonneg _
 have i1 : (i : Int) < (q.length : Int) := by omega
 have hql : q.length ≤ 256 := by omega
 have hiq : i < q.length := by omega
 rw [HR.out]
 clear X hi hpq hpf hlen hil hm2 hle
 generalize p.1.dirty = d at *
 have Hbx := Lib.hid hbx
 have H8 := Lib.hid c8
 have H9 := Lib.hid c9
 have H3 := Lib.hid f3
 clear hbx c8 c9 f3
 cases d with
 | true =>
  go_enter Tryz.func48, Tryz.ntmps48
  go_upto_region 1 with fail
  refine' wp_region_mono (by kernel_rfl) (by kernel_rfl) (by kernel_rfl) (by kernel_rfl) (by kernel_rfl) (by kernel_rfl)
   [MP.is (.pointer (some ⟨gp, 0, none⟩)), MP.is (.pointer (some ⟨gp, 0, none⟩)), MP.is (.pointer (some ⟨gp, 8, none⟩)), MP.is (.slice (some ⟨tb, 0, none⟩) q.length tc), MP.is (.pointer (some ⟨gp, 0, none⟩)), MP.is (.pointer (some ⟨gp, 0, none⟩)), MP.is (.pointer (some ⟨gp, 9, none⟩)), MP.is (.map (some mb)), MP.is (.int .i64 (pg : Int)), MP.is (.int .i64 (i : Int)), MP.is (.pointer (some ⟨tb, i * 5, none⟩)), MP.is (.pointer (some ⟨tb, i * 5 + 3, none⟩)), MP.is (.bool true), MP.is (.bool false), MP.is (.bool false)] ?hAA1 ?hst1 ?hend1
  case hAA1 =>
   intro f
   conv => lhs; simp only [putA, dstOf, List.size_toArray, List.length_cons, List.length_nil, Nat.zero_add, Nat.reduceAdd, List.getElem?_toArray, List.getElem?_cons_zero, List.getElem?_cons_succ, Option.bind_some, Act.put, List.setIfInBounds_toArray, List.set_cons_zero, List.set_cons_succ]
   first | done | exact rfl
  case hst1 =>
   change Steps _ _ _ _ _ [0, 1, 2, 3, 4, 5, 6, 7, 8, 9, 10, 11, 12, 13, 14]
   refine Steps.cons rfl ?_ ?_
   ·intro f wz hB h K Q hK
    clear h
    try simp only [List.getElem_toArray, List.getElem_cons_zero]
    try rw [if_pos (by rfl)]
    have y0 := keep_of_below (bel_drew hB) Hbx.out
    have y1 := keep_of_below (bel_drew hB) H8.out
    have y2 := keep_of_below (bel_drew hB) H9.out
    have y3 := keep_of_below (bel_drew hB) H3.out
    go_simp
    exact hK _ _ (gr_refl _) rfl
   refine Steps.cons rfl ?_ ?_
   ·intro f wz hB h K Q hK
    have h0 : (MP.is (.pointer (some ⟨gp, 0, none⟩))).p (f 0) wz := h 0 (by kernel_rfl)
    have e0 : f 0 = (.pointer (some ⟨gp, 0, none⟩)) := h0
    simp only [e0] at hK ⊢
    clear e0
    clear h
    try rw [if_pos (by rfl)]
    go_simp
    exact hK _ _ (gr_refl _) rfl
   refine Steps.cons rfl ?_ ?_
   ·intro f wz hB h K Q hK
    have h1 : (MP.is (.pointer (some ⟨gp, 0, none⟩))).p (f 1) wz := h 1 (by kernel_rfl)
    have e1 : f 1 = (.pointer (some ⟨gp, 0, none⟩)) := h1
    simp only [e1] at hK ⊢
    clear e1
    clear h
    try rw [if_pos (by rfl)]
    go_simp
    exact hK _ _ (gr_refl _) rfl
   refine Steps.cons rfl ?_ ?_
   ·intro f wz hB h K Q hK
    have h2 : (MP.is (.pointer (some ⟨gp, 8, none⟩))).p (f 2) wz := h 2 (by kernel_rfl)
    have e2 : f 2 = (.pointer (some ⟨gp, 8, none⟩)) := h2
    simp only [e2] at hK ⊢
    clear e2
    clear h
    try rw [if_pos (by rfl)]
    have y0 := keep_of_below (bel_drew hB) Hbx.out
    have y1 := keep_of_below (bel_drew hB) H8.out
    have y2 := keep_of_below (bel_drew hB) H9.out
    have y3 := keep_of_below (bel_drew hB) H3.out
    go_simp
    exact hK _ _ (gr_refl _) rfl
   refine Steps.cons rfl ?_ ?_
   ·intro f wz hB h K Q hK
    clear h
    try rw [if_pos (by rfl)]
    have y0 := keep_of_below (bel_drew hB) Hbx.out
    have y1 := keep_of_below (bel_drew hB) H8.out
    have y2 := keep_of_below (bel_drew hB) H9.out
    have y3 := keep_of_below (bel_drew hB) H3.out
    go_simp
    exact hK _ _ (gr_refl _) rfl
   refine Steps.cons rfl ?_ ?_
   ·intro f wz hB h K Q hK
    have h4 : (MP.is (.pointer (some ⟨gp, 0, none⟩))).p (f 4) wz := h 4 (by kernel_rfl)
    have e4 : f 4 = (.pointer (some ⟨gp, 0, none⟩)) := h4
    simp only [e4] at hK ⊢
    clear e4
    clear h
    try rw [if_pos (by rfl)]
    go_simp
    exact hK _ _ (gr_refl _) rfl
   refine Steps.cons rfl ?_ ?_
   ·intro f wz hB h K Q hK
    have h5 : (MP.is (.pointer (some ⟨gp, 0, none⟩))).p (f 5) wz := h 5 (by kernel_rfl)
    have e5 : f 5 = (.pointer (some ⟨gp, 0, none⟩)) := h5
    simp only [e5] at hK ⊢
    clear e5
    clear h
    try rw [if_pos (by rfl)]
    go_simp
    exact hK _ _ (gr_refl _) rfl
   refine Steps.cons rfl ?_ ?_
   ·intro f wz hB h K Q hK
    have h6 : (MP.is (.pointer (some ⟨gp, 9, none⟩))).p (f 6) wz := h 6 (by kernel_rfl)
    have e6 : f 6 = (.pointer (some ⟨gp, 9, none⟩)) := h6
    simp only [e6] at hK ⊢
    clear e6
    clear h
    try rw [if_pos (by rfl)]
    have y0 := keep_of_below (bel_drew hB) Hbx.out
    have y1 := keep_of_below (bel_drew hB) H8.out
    have y2 := keep_of_below (bel_drew hB) H9.out
    have y3 := keep_of_below (bel_drew hB) H3.out
    go_simp
    exact hK _ _ (gr_refl _) rfl
   refine Steps.cons rfl ?_ ?_
   ·intro f wz hB h K Q hK
    clear h
    try rw [if_pos (by rfl)]
    go_simp
    exact hK _ _ (gr_refl _) rfl
   refine Steps.cons rfl ?_ ?_
   ·intro f wz hB h K Q hK
    have h7 : (MP.is (.map (some mb))).p (f 7) wz := h 7 (by kernel_rfl)
    have e7 : f 7 = (.map (some mb)) := h7
    have h8 : (MP.is (.int .i64 (pg : Int))).p (f 8) wz := h 8 (by kernel_rfl)
    have e8 : f 8 = (.int .i64 (pg : Int)) := h8
    simp only [e7, e8] at hK ⊢
    clear e7 e8
    clear h
    try rw [if_pos (by rfl)]
    have yl := HLK.out _ (bel_drew hB)
    go_simp
    exact hK _ _ (gr_refl _) rfl
   refine Steps.cons rfl ?_ ?_
   ·intro f wz hB h K Q hK
    have h3 : (MP.is (.slice (some ⟨tb, 0, none⟩) q.length tc)).p (f 3) wz := h 3 (by kernel_rfl)
    have e3 : f 3 = (.slice (some ⟨tb, 0, none⟩) q.length tc) := h3
    have h9 : (MP.is (.int .i64 (i : Int))).p (f 9) wz := h 9 (by kernel_rfl)
    have e9 : f 9 = (.int .i64 (i : Int)) := h9
    simp only [e3, e9] at hK ⊢
    clear e3 e9
    clear h
    try rw [if_pos (by rfl)]
    go_simp
    exact hK _ _ (gr_refl _) rfl
   refine Steps.cons rfl ?_ ?_
   ·intro f wz hB h K Q hK
    have h10 : (MP.is (.pointer (some ⟨tb, i * 5, none⟩))).p (f 10) wz := h 10 (by kernel_rfl)
    have e10 : f 10 = (.pointer (some ⟨tb, i * 5, none⟩)) := h10
    simp only [e10] at hK ⊢
    clear e10
    clear h
    try rw [if_pos (by rfl)]
    go_simp
    exact hK _ _ (gr_refl _) rfl
   refine Steps.cons rfl ?_ ?_
   ·intro f wz hB h K Q hK
    have h11 : (MP.is (.pointer (some ⟨tb, i * 5 + 3, none⟩))).p (f 11) wz := h 11 (by kernel_rfl)
    have e11 : f 11 = (.pointer (some ⟨tb, i * 5 + 3, none⟩)) := h11
    simp only [e11] at hK ⊢
    clear e11
    clear h
    try rw [if_pos (by rfl)]
    have y0 := keep_of_below (bel_drew hB) Hbx.out
    have y1 := keep_of_below (bel_drew hB) H8.out
    have y2 := keep_of_below (bel_drew hB) H9.out
    have y3 := keep_of_below (bel_drew hB) H3.out
    go_simp
    exact hK _ _ (gr_refl _) rfl
   refine Steps.cons rfl ?_ ?_
   ·intro f wz hB h K Q hK
    have h12 : (MP.is (.bool true)).p (f 12) wz := h 12 (by kernel_rfl)
    have e12 : f 12 = (.bool true) := h12
    simp only [e12] at hK ⊢
    clear e12
    clear h
    try rw [if_pos (by rfl)]
    go_simp
    exact hK _ _ (gr_refl _) rfl
   refine Steps.cons rfl ?_ ?_
   ·intro f wz hB h K Q hK
    have h13 : (MP.is (.bool false)).p (f 13) wz := h 13 (by kernel_rfl)
    have e13 : f 13 = (.bool false) := h13
    simp only [e13] at hK ⊢
    clear e13
    clear h
    try rw [if_pos (by rfl)]
    go_simp
    exact hK _ _ (gr_refl _) rfl
   exact Steps.nil
  intro f w2 hB2 hR
  have e0 : f 0 = (.pointer (some ⟨gp, 0, none⟩)) := hR 0 (by decide)
  have e1 : f 1 = (.pointer (some ⟨gp, 0, none⟩)) := hR 1 (by decide)
  have e2 : f 2 = (.pointer (some ⟨gp, 8, none⟩)) := hR 2 (by decide)
  have e3 : f 3 = (.slice (some ⟨tb, 0, none⟩) q.length tc) := hR 3 (by decide)
  have e4 : f 4 = (.pointer (some ⟨gp, 0, none⟩)) := hR 4 (by decide)
  have e5 : f 5 = (.pointer (some ⟨gp, 0, none⟩)) := hR 5 (by decide)
  have e6 : f 6 = (.pointer (some ⟨gp, 9, none⟩)) := hR 6 (by decide)
  have e7 : f 7 = (.map (some mb)) := hR 7 (by decide)
  have e8 : f 8 = (.int .i64 (pg : Int)) := hR 8 (by decide)
  have e9 : f 9 = (.int .i64 (i : Int)) := hR 9 (by decide)
  have e10 : f 10 = (.pointer (some ⟨tb, i * 5, none⟩)) := hR 10 (by decide)
  have e11 : f 11 = (.pointer (some ⟨tb, i * 5 + 3, none⟩)) := hR 11 (by decide)
  have e12 : f 12 = (.bool true) := hR 12 (by decide)
  have e13 : f 13 = (.bool false) := hR 13 (by decide)
  have e14 : f 14 = (.bool false) := hR 14 (by decide)
  simp only [e0, e1, e2, e3, e4, e5, e6, e7, e8, e9, e10, e11, e12, e13, e14]
  clear e0 e1 e2 e3 e4 e5 e6 e7 e8 e9 e10 e11 e12 e13 e14 hR
  go_wp2_with fail
  go_ret
  exact ⟨rfl, Below.trans (gr_drewN (gr_refl w) 1) hB2⟩
 | false =>
  go_enter Tryz.func48, Tryz.ntmps48
  go_upto_region 1 with fail
  refine' wp_region_mono (by kernel_rfl) (by kernel_rfl) (by kernel_rfl) (by kernel_rfl) (by kernel_rfl) (by kernel_rfl)
   [MP.is (.pointer (some ⟨gp, 0, none⟩)), MP.is (.pointer (some ⟨gp, 0, none⟩)), MP.is (.pointer (some ⟨gp, 8, none⟩)), MP.is (.slice (some ⟨tb, 0, none⟩) q.length tc), MP.is (.pointer (some ⟨gp, 0, none⟩)), MP.is (.pointer (some ⟨gp, 0, none⟩)), MP.is (.pointer (some ⟨gp, 9, none⟩)), MP.is (.map (some mb)), MP.is (.int .i64 (pg : Int)), MP.is (.int .i64 (i : Int)), MP.is (.pointer (some ⟨tb, i * 5, none⟩)), MP.is (.pointer (some ⟨tb, i * 5 + 3, none⟩)), MP.is (.bool false), MP.is (.bool true), MP.is (.bool true)] ?hAA2 ?hst2 ?hend2
  case hAA2 =>
   intro f
   conv => lhs; simp only [putA, dstOf, List.size_toArray, List.length_cons, List.length_nil, Nat.zero_add, Nat.reduceAdd, List.getElem?_toArray, List.getElem?_cons_zero, List.getElem?_cons_succ, Option.bind_some, Act.put, List.setIfInBounds_toArray, List.set_cons_zero, List.set_cons_succ]
   first | done | exact rfl
  case hst2 =>
   change Steps _ _ _ _ _ [0, 1, 2, 3, 4, 5, 6, 7, 8, 9, 10, 11, 12, 13, 14]
   refine Steps.cons rfl ?_ ?_
   ·intro f wz hB h K Q hK
    clear h
    try simp only [List.getElem_toArray, List.getElem_cons_zero]
    try rw [if_pos (by rfl)]
    have y0 := keep_of_below (bel_drew hB) Hbx.out
    have y1 := keep_of_below (bel_drew hB) H8.out
    have y2 := keep_of_below (bel_drew hB) H9.out
    have y3 := keep_of_below (bel_drew hB) H3.out
    go_simp
    exact hK _ _ (gr_refl _) rfl
   refine Steps.cons rfl ?_ ?_
   ·intro f wz hB h K Q hK
    have h0 : (MP.is (.pointer (some ⟨gp, 0, none⟩))).p (f 0) wz := h 0 (by kernel_rfl)
    have e0 : f 0 = (.pointer (some ⟨gp, 0, none⟩)) := h0
    simp only [e0] at hK ⊢
    clear e0
    clear h
    try rw [if_pos (by rfl)]
    go_simp
    exact hK _ _ (gr_refl _) rfl
   refine Steps.cons rfl ?_ ?_
   ·intro f wz hB h K Q hK
    have h1 : (MP.is (.pointer (some ⟨gp, 0, none⟩))).p (f 1) wz := h 1 (by kernel_rfl)
    have e1 : f 1 = (.pointer (some ⟨gp, 0, none⟩)) := h1
    simp only [e1] at hK ⊢
    clear e1
    clear h
    try rw [if_pos (by rfl)]
    go_simp
    exact hK _ _ (gr_refl _) rfl
   refine Steps.cons rfl ?_ ?_
   ·intro f wz hB h K Q hK
    have h2 : (MP.is (.pointer (some ⟨gp, 8, none⟩))).p (f 2) wz := h 2 (by kernel_rfl)
    have e2 : f 2 = (.pointer (some ⟨gp, 8, none⟩)) := h2
    simp only [e2] at hK ⊢
    clear e2
    clear h
    try rw [if_pos (by rfl)]
    have y0 := keep_of_below (bel_drew hB) Hbx.out
    have y1 := keep_of_below (bel_drew hB) H8.out
    have y2 := keep_of_below (bel_drew hB) H9.out
    have y3 := keep_of_below (bel_drew hB) H3.out
    go_simp
    exact hK _ _ (gr_refl _) rfl
   refine Steps.cons rfl ?_ ?_
   ·intro f wz hB h K Q hK
    clear h
    try rw [if_pos (by rfl)]
    have y0 := keep_of_below (bel_drew hB) Hbx.out
    have y1 := keep_of_below (bel_drew hB) H8.out
    have y2 := keep_of_below (bel_drew hB) H9.out
    have y3 := keep_of_below (bel_drew hB) H3.out
    go_simp
    exact hK _ _ (gr_refl _) rfl
   refine Steps.cons rfl ?_ ?_
   ·intro f wz hB h K Q hK
    have h4 : (MP.is (.pointer (some ⟨gp, 0, none⟩))).p (f 4) wz := h 4 (by kernel_rfl)
    have e4 : f 4 = (.pointer (some ⟨gp, 0, none⟩)) := h4
    simp only [e4] at hK ⊢
    clear e4
    clear h
    try rw [if_pos (by rfl)]
    go_simp
    exact hK _ _ (gr_refl _) rfl
   refine Steps.cons rfl ?_ ?_
   ·intro f wz hB h K Q hK
    have h5 : (MP.is (.pointer (some ⟨gp, 0, none⟩))).p (f 5) wz := h 5 (by kernel_rfl)
    have e5 : f 5 = (.pointer (some ⟨gp, 0, none⟩)) := h5
    simp only [e5] at hK ⊢
    clear e5
    clear h
    try rw [if_pos (by rfl)]
    go_simp
    exact hK _ _ (gr_refl _) rfl
   refine Steps.cons rfl ?_ ?_
   ·intro f wz hB h K Q hK
    have h6 : (MP.is (.pointer (some ⟨gp, 9, none⟩))).p (f 6) wz := h 6 (by kernel_rfl)
    have e6 : f 6 = (.pointer (some ⟨gp, 9, none⟩)) := h6
    simp only [e6] at hK ⊢
    clear e6
    clear h
    try rw [if_pos (by rfl)]
    have y0 := keep_of_below (bel_drew hB) Hbx.out
    have y1 := keep_of_below (bel_drew hB) H8.out
    have y2 := keep_of_below (bel_drew hB) H9.out
    have y3 := keep_of_below (bel_drew hB) H3.out
    go_simp
    exact hK _ _ (gr_refl _) rfl
   refine Steps.cons rfl ?_ ?_
   ·intro f wz hB h K Q hK
    clear h
    try rw [if_pos (by rfl)]
    go_simp
    exact hK _ _ (gr_refl _) rfl
   refine Steps.cons rfl ?_ ?_
   ·intro f wz hB h K Q hK
    have h7 : (MP.is (.map (some mb))).p (f 7) wz := h 7 (by kernel_rfl)
    have e7 : f 7 = (.map (some mb)) := h7
    have h8 : (MP.is (.int .i64 (pg : Int))).p (f 8) wz := h 8 (by kernel_rfl)
    have e8 : f 8 = (.int .i64 (pg : Int)) := h8
    simp only [e7, e8] at hK ⊢
    clear e7 e8
    clear h
    try rw [if_pos (by rfl)]
    have yl := HLK.out _ (bel_drew hB)
    go_simp
    exact hK _ _ (gr_refl _) rfl
   refine Steps.cons rfl ?_ ?_
   ·intro f wz hB h K Q hK
    have h3 : (MP.is (.slice (some ⟨tb, 0, none⟩) q.length tc)).p (f 3) wz := h 3 (by kernel_rfl)
    have e3 : f 3 = (.slice (some ⟨tb, 0, none⟩) q.length tc) := h3
    have h9 : (MP.is (.int .i64 (i : Int))).p (f 9) wz := h 9 (by kernel_rfl)
    have e9 : f 9 = (.int .i64 (i : Int)) := h9
    simp only [e3, e9] at hK ⊢
    clear e3 e9
    clear h
    try rw [if_pos (by rfl)]
    go_simp
    exact hK _ _ (gr_refl _) rfl
   refine Steps.cons rfl ?_ ?_
   ·intro f wz hB h K Q hK
    have h10 : (MP.is (.pointer (some ⟨tb, i * 5, none⟩))).p (f 10) wz := h 10 (by kernel_rfl)
    have e10 : f 10 = (.pointer (some ⟨tb, i * 5, none⟩)) := h10
    simp only [e10] at hK ⊢
    clear e10
    clear h
    try rw [if_pos (by rfl)]
    go_simp
    exact hK _ _ (gr_refl _) rfl
   refine Steps.cons rfl ?_ ?_
   ·intro f wz hB h K Q hK
    have h11 : (MP.is (.pointer (some ⟨tb, i * 5 + 3, none⟩))).p (f 11) wz := h 11 (by kernel_rfl)
    have e11 : f 11 = (.pointer (some ⟨tb, i * 5 + 3, none⟩)) := h11
    simp only [e11] at hK ⊢
    clear e11
    clear h
    try rw [if_pos (by rfl)]
    have y0 := keep_of_below (bel_drew hB) Hbx.out
    have y1 := keep_of_below (bel_drew hB) H8.out
    have y2 := keep_of_below (bel_drew hB) H9.out
    have y3 := keep_of_below (bel_drew hB) H3.out
    go_simp
    exact hK _ _ (gr_refl _) rfl
   refine Steps.cons rfl ?_ ?_
   ·intro f wz hB h K Q hK
    have h12 : (MP.is (.bool false)).p (f 12) wz := h 12 (by kernel_rfl)
    have e12 : f 12 = (.bool false) := h12
    simp only [e12] at hK ⊢
    clear e12
    clear h
    try rw [if_pos (by rfl)]
    go_simp
    exact hK _ _ (gr_refl _) rfl
   refine Steps.cons rfl ?_ ?_
   ·intro f wz hB h K Q hK
    have h13 : (MP.is (.bool true)).p (f 13) wz := h 13 (by kernel_rfl)
    have e13 : f 13 = (.bool true) := h13
    simp only [e13] at hK ⊢
    clear e13
    clear h
    try rw [if_pos (by rfl)]
    go_simp
    exact hK _ _ (gr_refl _) rfl
   exact Steps.nil
  intro f w2 hB2 hR
  have e0 : f 0 = (.pointer (some ⟨gp, 0, none⟩)) := hR 0 (by decide)
  have e1 : f 1 = (.pointer (some ⟨gp, 0, none⟩)) := hR 1 (by decide)
  have e2 : f 2 = (.pointer (some ⟨gp, 8, none⟩)) := hR 2 (by decide)
  have e3 : f 3 = (.slice (some ⟨tb, 0, none⟩) q.length tc) := hR 3 (by decide)
  have e4 : f 4 = (.pointer (some ⟨gp, 0, none⟩)) := hR 4 (by decide)
  have e5 : f 5 = (.pointer (some ⟨gp, 0, none⟩)) := hR 5 (by decide)
  have e6 : f 6 = (.pointer (some ⟨gp, 9, none⟩)) := hR 6 (by decide)
  have e7 : f 7 = (.map (some mb)) := hR 7 (by decide)
  have e8 : f 8 = (.int .i64 (pg : Int)) := hR 8 (by decide)
  have e9 : f 9 = (.int .i64 (i : Int)) := hR 9 (by decide)
  have e10 : f 10 = (.pointer (some ⟨tb, i * 5, none⟩)) := hR 10 (by decide)
  have e11 : f 11 = (.pointer (some ⟨tb, i * 5 + 3, none⟩)) := hR 11 (by decide)
  have e12 : f 12 = (.bool false) := hR 12 (by decide)
  have e13 : f 13 = (.bool true) := hR 13 (by decide)
  have e14 : f 14 = (.bool true) := hR 14 (by decide)
  simp only [e0, e1, e2, e3, e4, e5, e6, e7, e8, e9, e10, e11, e12, e13, e14]
  clear e0 e1 e2 e3 e4 e5 e6 e7 e8 e9 e10 e11 e12 e13 e14 hR
  go_wp2_with fail
  go_ret
  exact ⟨rfl, Below.trans (gr_drewN (gr_refl w) 1) hB2⟩
end Go.Proofs.YtmdgnjmhbjdlmaaGreat

/-! PoJ -/
namespace Go.Proofs.YtmdgnjmhbjdlmaaGreat
open Go Go.RowKit Go.Maps
section
variable {w w' : World} {b0 gp gd mb : Nat} {wv tv : Value} {D : DiskS} {P : PoS} {F ok T : Nat → Prop} {q : List FV}
theorem PX.off (h : PX w b0 gp gd wv D P F ok tv mb q) (ho : Off T w w') (hT : ∀ k, PS gp F ok tv mb q k → ¬ T k) : PX w' b0 gp gd wv D P F ok tv mb q :=
 ⟨h.dk.offO ho (fun k e => hT k (.inl e)) (fun k e e2 => hT k (.inr (.inl e2)) e), h.pb.off ho (hT gp (.inr (.inr (.inl rfl)))), ownsRow_off h.tk ho (fun k e => hT k (.inr (.inr (.inr (.inr (.inl e)))))), h.qf, fun x hx => (h.pv x hx).off ho (fun k e => hT k (.inr (.inr (.inr (.inr (.inr ⟨x, hx, e⟩)))))), h.mp.off ho (hT mb (.inr (.inr (.inr (.inl rfl))))), h.pi, h.bp, h.bm, fun k e => Nat.lt_of_lt_of_le (h.os k e) ho.size⟩
end
theorem dirty_but (P : PoS) : butP (intsL (heldL P)) (cleanI P) = intsL (dirtyL P) := by
 unfold butP intsL dirtyL
 rw [List.filter_map]
 congr 1
 refine List.filter_congr fun x _ => ?_
 simp [cleanI]
theorem dirtyL_held {P : PoS} {x : Nat} (h : x ∈ dirtyL P) : x ∈ heldL P := (List.mem_filter.1 h).1
set_option maxRecDepth 100000 in
set_option maxHeartbeats 1000000 in
theorem Dirty_any {w : World} {b0 gp gd mb : Nat} {wv tv : Value} {D : DiskS} {P : PoS} {F ok : Nat → Prop} {q : List FV} (X : PX w b0 gp gd wv D P F ok tv mb q) :
  Calls Tryz.prog 17 #[.pointer (some ⟨gp, 0, none⟩)] w fun e w' => ∃ A c, e = .returned (.slice A (dirtyL P).length c) ∧ w'.ownsRow w.heap.size 3 1 (.slice A (dirtyL P).length c) (dirtyL P).length ((intsL (dirtyL P)).map (Value.int .i64)) ∧ Below w.heap.size w w' := by
 have hmf : ∀ (fn : Fn) (first cap : Array Value) (w : World), (Instr.makeFunc fn first cap).run Tryz.prog w = .ok (.func fn first cap) w := fun _ _ _ _ => rfl
 have hb1 : Below w.heap.size w (w.alloc (.cells #[.pointer (some ⟨gp, 0, none⟩)] 37)) := gr_alloc (gr_refl w) _
 have HH := Lib.hid (Held_any (X.below hb1))
 have HB1 := Lib.hid hb1
 have HX1 := Lib.hid (X.below hb1)
 have HBX : Hid ((w.alloc (.cells #[.pointer (some ⟨gp, 0, none⟩)] 37)).heap[w.heap.size]? = some (.cells #[.pointer (some ⟨gp, 0, none⟩)] 37 (0, 0))) := Lib.hid (heap_alloc_new w _)
 have hlt := Lib.hid (fun k e => X.lt (k := k) e)
 have hhl : (heldL P).length ≤ 256 := by
  rw [heldL_len P X.pi.nd (fun f hf => (X.pi.ok f hf).1)]
  have := X.pi.len
  have := X.pi.m2
  omega
 clear X hb1
 go_enter Tryz.func17, Tryz.ntmps17
 go_wp2_with fail
 refine HH.out.mono ?_
 rintro e w2 ⟨A, c, rfl, ho, hb2⟩
 have HO := Lib.hid ho
 have HB2 := Lib.hid hb2
 have HX2 := Lib.hid (HX1.out.below hb2)
 have hs1 : (w.alloc (.cells #[.pointer (some ⟨gp, 0, none⟩)] 37)).heap.size = w.heap.size + 1 := World.size_alloc _ _
 have HBX2 : Hid (w2.heap[w.heap.size]? = some (.cells #[.pointer (some ⟨gp, 0, none⟩)] 37 (0, 0))) := Lib.hid ((hb2.block _ (by rw [hs1]; omega)).trans HBX.out)
 have HROW : Hid (∀ k, (Value.slice A (heldL P).length c).ownBlock = some k → w.heap.size + 1 ≤ k) := Lib.hid (fun k e => by
  have := (ho.lt k e).1
  rw [hs1] at this
  exact this)
 have HD := Lib.hid (DeleteFunc_any A (heldL P).length c w.heap.size w.heap.size (intsL (heldL P)) (cleanI P) w2 (own_lower ho (by rw [hs1]; omega)) (by omega) (fun x hx W hW => by
  unfold intsL at hx
  obtain ⟨pg, hpg, rfl⟩ := List.mem_map.1 hx
  have hbx : W.cell? ⟨w.heap.size, 0, none⟩ = some (.pointer (some ⟨gp, 0, none⟩)) := by
   have h2 := (hW.block _ (Array.getElem?_eq_some_iff.1 HBX2.out).1 (fun e => by have := HROW.out _ e; omega)).trans HBX2.out
   rw [cell_of_row W _ 0 _ _ _ h2]
   rfl
  exact DirtyC_any (HX2.out.off hW (fun k e e2 => by
   have h1 := hlt.out k e
   have h2 := HROW.out k e2
   omega)) hbx pg (heldL_mem hpg)))
 clear ho hb2
 go_wp2_with fail
 refine HD.out.mono ?_
 rintro e w3 ⟨v, rfl, ho3, hof⟩
 rw [dirty_but] at ho3
 have hl3 : (intsL (dirtyL P)).length = (dirtyL P).length := by unfold intsL; exact List.length_map _
 rw [hl3] at ho3
 obtain ⟨A3, c3, rfl, _, _⟩ := own_form ho3
 have HO3 := Lib.hid ho3
 have HF3 := Lib.hid hof
 clear ho3 hof hl3 HD
 go_wp2_with fail
 go_ret
 refine ⟨A3, c3, rfl, HO3.out, ?_⟩
 have hb : Below w.heap.size w w2 := HB1.out.trans (HB2.out.mono (by rw [hs1]; omega))
 exact (Off.chain (S := fun _ => False) (Off.of_below hb) HF3.out (fun k e => .inr (by have := HROW.out k e; omega))).below (fun _ e => e.elim) (Nat.le_refl _)
end Go.Proofs.YtmdgnjmhbjdlmaaGreat

/-! PoK -/
namespace Go.Proofs.YtmdgnjmhbjdlmaaGreat
open Go Go.RowKit Go.Maps
theorem writeD_pend (D : DiskS) (b : Int) (m : List UInt8) : (writeD D b m).pending.length ≤ D.pending.length + 1 := by
 unfold writeD opS
 split
 ·omega
 ·split
  ·exact Nat.le_succ _
  ·simp
theorem writeR_pend (L : Option Int) (D : DiskS) (P : PoS) (n : Nat) : (writeR L D P n).1.pending.length ≤ D.pending.length + 1 ∧ (writeR L D P n).2.1.count ≤ P.count + 1 := by
 unfold writeR
 dsimp only
 split
 ·exact ⟨Nat.le_succ _, Nat.le_succ _⟩
 ·split
  ·exact ⟨writeD_pend _ _ _, Nat.le_succ _⟩
  ·exact ⟨writeD_pend _ _ _, Nat.le_refl _⟩
theorem findP_pages {P P' : PoS} (h : P'.fr.map FrS.page = P.fr.map FrS.page) (p : Nat) : findP P' p = findP P p := by
 have e : ∀ Q : PoS, findP Q p = (Q.fr.map FrS.page).findIdx? (fun x => x == p) := fun Q => by
  unfold findP
  rw [List.findIdx?_map]
  rfl
 rw [e, e, h]
theorem syncD_blocks (D : DiskS) : (syncD D).blocks.length = D.blocks.length := by
 unfold syncD opS
 split
 ·rfl
 ·exact carry_len _ _
structure FlI (w : World) (b0 gp gd : Nat) (wv tv : Value) (mb : Nat) (S : Nat → Prop) (L : Option Int) (D : DiskS) (P : PoS) (k : Nat) (rv : Value) (wr : World) (D' : DiskS) (P' : PoS) (F' ok' : Nat → Prop) (q' : List FV) : Prop where
 px : PX wr b0 gp gd wv D' P' F' ok' tv mb q'
 fl : flushF L ((dirtyL P).drop k) D' P' = flushF L (dirtyL P) D P
 of : Off S w wr
 sb : ∀ j, PS gp F' ok' tv mb q' j → S j ∨ w.heap.size ≤ j
 lv : LogV wr wv L (PS gp F' ok' tv mb q')
 pd : D'.pending.length ≤ D.pending.length + k
 ct : P'.count ≤ P.count + k
 pg : P'.fr.map FrS.page = P.fr.map FrS.page
 rw_ : wr.ownsRow w.heap.size 3 1 rv (dirtyL P).length ((intsL (dirtyL P)).map (Value.int .i64))
 rs : ∀ j, rv.ownBlock = some j → ¬ PS gp F' ok' tv mb q' j
set_option maxRecDepth 100000 in
set_option maxHeartbeats 4000000 in
theorem Flush_any {w : World} {b0 gp gd mb : Nat} {wv tv : Value} {D : DiskS} {P : PoS} {F ok : Nat → Prop} {q : List FV} {L : Option Int} (X : PX w b0 gp gd wv D P F ok tv mb q) (hl : LogV w wv L (PS gp F ok tv mb q)) (hpd : D.pending.length ≤ 899000) (hct : P.count ≤ 1152921504606840000) :
  Calls Tryz.prog 33 #[.pointer (some ⟨gp, 0, none⟩)] w fun e w' => e = .returned (.int .i64 (flushR L D P).2.2) ∧ PStep w b0 gp gd wv (PS gp F ok tv mb q) (flushR L D P).1 (flushR L D P).2.1 w' := by
 have HM := Lib.hid (pmade_yes w gp X.pb.c0)
 have HD := Lib.hid (Dirty_any X)
 have HX := Lib.hid X
 have HLV := Lib.hid hl
 have hN : (dirtyL P).length ≤ 256 := by
  have h1 := heldL_len P X.pi.nd (fun f hf => (X.pi.ok f hf).1)
  have h2 : (dirtyL P).length ≤ (heldL P).length := List.length_filter_le _ _
  have := X.pi.len
  have := X.pi.m2
  omega
 obtain ⟨R, hR⟩ : ∃ R, R = flushR L D P := ⟨_, rfl⟩
 have HR := Lib.hid hR
 rw [← hR]
 clear X hl hR
 go_enter Tryz.func33, Tryz.ntmps33
 go_wp2_with fail
 refine HM.out.mono ?_
 rintro e w1 ⟨rfl, rfl⟩
 go_wp2_with fail
 refine HD.out.mono ?_
 rintro e w2 ⟨A, c, rfl, ho, hb⟩
 have HI : Hid (FlI w b0 gp gd wv tv mb (PS gp F ok tv mb q) L D P 0 (.slice A (dirtyL P).length c) w2 D P F ok q) := Lib.hid ⟨HX.out.below hb, rfl, Off.of_below hb, fun _ e => .inl e, HLV.out.step (Off.of_below hb) (fun _ e => .inl e), by omega, by omega, rfl, ho, fun j e e2 => by
  have h1 := (ho.lt j e).1
  have h2 := HX.out.lt e2
  omega⟩
 obtain ⟨N, hNN⟩ : ∃ N, N = (dirtyL P).length := ⟨_, rfl⟩
 have HN := Lib.hid hNN
 rw [← hNN] at HI hN ⊢
 clear ho hb HD HM hNN
 go_wp2_with fail
 go_loopw [12] (fun i wr => ∃ (k : Nat) (D' : DiskS) (P' : PoS) (F' ok' : Nat → Prop) (q' : List FV), k ≤ N ∧ i = .int .i64 k ∧ Hid (FlI w b0 gp gd wv tv mb (PS gp F ok tv mb q) L D P k (.slice A N c) wr D' P' F' ok' q')) (fun i _ => N - (RowKit.intOf i).toNat)
 case atStart => exact ⟨0, D, P, F, ok, q, Nat.zero_le _, rfl, HI⟩
 case round =>
  clear HI
  obtain ⟨k, D', P', F', ok', q', hk, rfl, HI⟩ := hrel
  by_cases hlt : k < N
  ·have t1 : decide ((k : Int) < (N : Int)) = true := decide_eq_true (by omega)
   have t1' : decide (k < N) = true := decide_eq_true hlt
   obtain ⟨pg, hpg⟩ : ∃ pg, (dirtyL P)[k]? = some pg := ⟨_, List.getElem?_eq_getElem (by rw [← HN.out]; exact hlt)⟩
   have HPG := Lib.hid hpg
   obtain ⟨i, hi⟩ := heldL_mem (dirtyL_held (List.mem_of_getElem? hpg))
   have hi' : findP P' pg = some i := by rw [findP_pages HI.out.pg]; exact hi
   have hil := (findP_some hi').1
   have HIL := Lib.hid hil
   have hm2 := HI.out.px.pi.m2
   have hle := HI.out.px.pi.len
   have hpl : pg ≤ 4096 := by
    have h1 := HI.out.px.pi.fit
    have h2 := HI.out.px.pi.d2
    have h3 := (HI.out.px.pi.ok _ (getD_mem (d := fr0) hil)).1
    rw [(findP_some hi').2] at h3
    omega
   obtain ⟨g, o, hA, hcc⟩ := IR.at_ (show IR wr A N (intsL (dirtyL P)) from Rd.of_own (c := c) (by have := HI.out.rw_; rw [← HN.out] at this; exact this)) hlt
   have hval : (intsL (dirtyL P)).getD k 0 = (pg : Int) := by
    unfold intsL
    rw [List.getD_eq_getElem?_getD, List.getElem?_map, hpg]
    rfl
   rw [hval] at hcc
   subst hA
   have hlook := HI.out.px.mp.look1 (k := (pg : Int)) (by omega) (by omega)
   rw [idxF_at, hi'] at hlook
   have hlook2 : (Instr.lookup 67 (.map (some mb)) (.int .i64 (pg : Int)) false).run Tryz.prog wr = .ok (.int .i64 (i : Int)) wr := hlook
   have c9 := HI.out.px.pb.c9
   have HW := Lib.hid (pwrite_any HI.out.px HI.out.lv i hil (by have := HI.out.pd; omega) (by have := HI.out.ct; omega))
   have HPD := Lib.hid (writeR_pend L D' P' i)
   have HPGS := Lib.hid (writeR_pages L D' P' i)
   have HFF : Hid (flushF L ((dirtyL P).drop k) D' P' = if (writeR L D' P' i).2.2 ≠ 0 then writeR L D' P' i else flushF L ((dirtyL P).drop (k + 1)) (writeR L D' P' i).1 (writeR L D' P' i).2.1) := Lib.hid (by
    have hkl : k < (dirtyL P).length := by rw [← HN.out]; exact hlt
    have e : (dirtyL P).drop k = pg :: (dirtyL P).drop (k + 1) := by
     rw [List.drop_eq_getElem_cons hkl]
     congr 1
     rw [List.getElem?_eq_getElem hkl] at hpg
     exact Option.some.inj hpg
    rw [e, flushF, hi', Option.getD_some])
   have i0 : (0 : Int) ≤ (k : Int) := Int.natCast_nonneg _
   have i1 : (k : Int) < (N : Int) := by omega
   obtain ⟨r4, hr4⟩ : ∃ r, r = writeR L D' P' i := ⟨_, rfl⟩
   rw [← hr4] at HW HPD HPGS HFF
   obtain ⟨D4, P4, e4⟩ := r4
   dsimp only at HW HPD HPGS HFF
   clear hpg hi hi' hil hlook hval hr4 hle hm2
   go_wp2_with fail
   refine HW.out.mono ?_
   rintro e w4 ⟨rfl, F4, ok4, q4, hx4, hq4, ho4, hs4⟩
   have HX4 := Lib.hid hx4
   have HO4 := Lib.hid ho4
   have HS4 := Lib.hid hs4
   clear hx4 hq4 ho4 hs4 HW hcc hlook2 c9
   by_cases he4 : e4 = 0
   ·subst he4
    have HI2 : Hid (FlI w b0 gp gd wv tv mb (PS gp F ok tv mb q) L D P (k + 1) (.slice (some ⟨g, o, none⟩) N c) w4 D4 P4 F4 ok4 q4) := Lib.hid ⟨HX4.out, by rw [← HI.out.fl, HFF.out, if_neg (by decide)], HI.out.of.chain HO4.out (fun j e => HI.out.sb j e), fun j e => by
      rcases HS4.out j e with e | e
      ·exact HI.out.sb j e
      ·exact .inr (Nat.le_trans HI.out.of.size e), HI.out.lv.step HO4.out HS4.out, by have := HPD.out.1; have := HI.out.pd; omega, by have := HPD.out.2; have := HI.out.ct; omega, by rw [HPGS.out]; exact HI.out.pg, ownsRow_off HI.out.rw_ HO4.out (fun j e => HI.out.rs j e), fun j e e2 => by
      rcases HS4.out j e2 with e3 | e3
      ·exact HI.out.rs j e e3
      ·have := (HI.out.rw_.lt j e).2
       omega⟩
    go_wp2_with fail
    go_roundw
    case rel => exact ⟨k + 1, D4, P4, F4, ok4, q4, by omega, by go_num, HI2⟩
    case measure => simp [RowKit.intOf]; omega
   ·have hx : (e4 != 0) = true := by rw [bne_iff_ne]; exact he4
    have HRR : Hid (R = (D4, P4, e4)) := Lib.hid (by
     have e : flushF L (dirtyL P) D P = (D4, P4, e4) := by rw [← HI.out.fl, HFF.out, if_pos he4]
     rw [HR.out]
     unfold flushR
     rw [e]
     exact if_pos he4)
    clear he4
    go_wp2_with fail
    go_ret
    rw [HRR.out]
    exact ⟨rfl, F4, ok4, tv, mb, q4, HX4.out, HI.out.of.chain HO4.out (fun j e => HI.out.sb j e), fun j e => by
     rcases HS4.out j e with e | e
     ·exact HI.out.sb j e
     ·exact .inr (Nat.le_trans HI.out.of.size e)⟩
  ·have t1 : decide ((k : Int) < (N : Int)) = false := decide_eq_false (by omega)
   have t1' : decide (k < N) = false := decide_eq_false hlt
   have HFE : Hid (flushF L (dirtyL P) D P = (D', P', 0)) := Lib.hid (by
    rw [← HI.out.fl, List.drop_eq_nil_of_le (by have := HN.out; omega)]
    rfl)
   have HRR : Hid (R = (syncD D', P', opC D')) := Lib.hid (by
    rw [HR.out]
    unfold flushR
    rw [HFE.out]
    exact if_neg (show ¬ ((0 : Int) ≠ 0) by decide))
   have c1 := HI.out.px.pb.c1
   have HSY := Lib.hid (Sync_any wr ok' b0 gd F' D' HI.out.px.dk (by have := HI.out.pd; omega))
   go_wp2_with fail
   refine HSY.out.mono ?_
   rintro e w4 ⟨rfl, hdp⟩
   obtain ⟨F4, ok4, hx4, ho4, hs4⟩ := HI.out.px.disk hdp (syncD_blocks D')
   have HX4 := Lib.hid hx4
   have HO4 := Lib.hid ho4
   have HS4 := Lib.hid hs4
   clear hx4 ho4 hs4 hdp
   go_wp2_with fail
   go_ret
   rw [HRR.out]
   exact ⟨rfl, F4, ok4, tv, mb, q', HX4.out, HI.out.of.chain HO4.out (fun j e => HI.out.sb j e), fun j e => by
    rcases HS4.out j e with e | e
    ·exact HI.out.sb j e
    ·exact .inr (Nat.le_trans HI.out.of.size e)⟩
end Go.Proofs.YtmdgnjmhbjdlmaaGreat

/-! PoL -/
namespace Go.Proofs.YtmdgnjmhbjdlmaaGreat
open Go Go.RowKit Go.Maps
set_option maxRecDepth 100000 in
set_option maxHeartbeats 4000000 in
def FnV (wv : Value) : Prop := wv = .nilFunc ∨ ∃ fid lb, wv = .func (.func fid) #[] lb
theorem PNew_raw (w : World) (ok : Nat → Prop) (b0 gd : Nat) (F : Nat → Prop) (D : DiskS) (b p f ep ct : Int) (wv : Value) (hd : IsD w ok b0 gd F D) (hw : FnV wv) (hm : mayP D.blocks.length b p f ep ct = true) :
  Calls Tryz.prog 8 #[.pointer (some ⟨gd, 0, none⟩), .int .i64 b, .int .i64 p, .int .i64 f, .int .i64 ep, .int .i64 ct, wv] w fun e w' => e = .returned (.tuple #[.pointer (some ⟨w.heap.size + 1, 0, none⟩), .int .i64 0]) ∧ w' = (w.alloc (.map #[] 0)).alloc (.cells #[.pointer (some ⟨w.heap.size + 1, 0, none⟩), .pointer (some ⟨gd, 0, none⟩), .int .i64 b, .int .i64 p, .int .i64 f, .int .i64 ep, wv, .bool false, .slice none 0 0, .map (some w.heap.size), .int .i64 0, .int .i64 ct] 75) := by
 have HB := Lib.hid (Blocks_any w ok b0 gd F D hd)
 have hn1 : 1 ≤ D.blocks.length ∧ D.blocks.length ≤ 4096 := by
  obtain ⟨dr, dc, pv, dvs, pvs, hd, _⟩ := hd
  exact ⟨hd.n1, hd.n2⟩
 generalize D.blocks.length = n at *
 unfold mayP at hm
 simp only [Bool.and_eq_true, decide_eq_true_eq] at hm
 obtain ⟨m0, m1, m2, m3, m4, m5, m6, m7, m8, m9⟩ := hm
 have hn0 : ((n : Int) == 0) = false := beq_eq_false_iff_ne.2 (by omega)
 have hwr : IntKind.i64.wrap ((n : Int) - b) = (n : Int) - b := by rw [IntKind.wrap_i64]; omega
 have t0 : decide (b < 0) = false := decide_eq_false (by omega)
 have t1 : decide (p < 1) = false := decide_eq_false (by omega)
 have t2 : decide ((n : Int) < b) = false := decide_eq_false (by omega)
 have t3 : decide ((n : Int) - b < p) = false := decide_eq_false (by omega)
 have t4 : decide (f < 2) = false := decide_eq_false (by omega)
 have t5 : decide (256 < f) = false := decide_eq_false (by omega)
 have t6 : decide (ep < 1) = false := decide_eq_false (by omega)
 have t7 : decide (4294967295 < ep) = false := decide_eq_false (by omega)
 have t8 : decide (ct < 0) = false := decide_eq_false (by omega)
 have t9 : decide (4294967295 < ct) = false := decide_eq_false (by omega)
 clear m0 m1 m2 m3 m4 m5 m6 m7 m8 m9 hd
 have hmk : ∀ W : World, (Instr.makeMap 67 none).run Tryz.prog W = .ok (.map (some W.heap.size)) (W.alloc (.map #[] 0)) := fun W => by simp [Instr.makeMap]
 have hb2 : ((w.alloc (.map #[] 0)).alloc (.cells #[.pointer (some ⟨w.heap.size + 1, 0, none⟩), .pointer (some ⟨gd, 0, none⟩), .int .i64 b, .int .i64 p, .int .i64 f, .int .i64 ep, wv, .bool false, .slice none 0 0, .map (some w.heap.size), .int .i64 0, .int .i64 0] 75)).heap[w.heap.size + 1]? = some (.cells #[.pointer (some ⟨w.heap.size + 1, 0, none⟩), .pointer (some ⟨gd, 0, none⟩), .int .i64 b, .int .i64 p, .int .i64 f, .int .i64 ep, wv, .bool false, .slice none 0 0, .map (some w.heap.size), .int .i64 0, .int .i64 0] 75 (0, 0)) := by
  have := heap_alloc_new (w.alloc (.map #[] 0)) (.cells #[.pointer (some ⟨w.heap.size + 1, 0, none⟩), .pointer (some ⟨gd, 0, none⟩), .int .i64 b, .int .i64 p, .int .i64 f, .int .i64 ep, wv, .bool false, .slice none 0 0, .map (some w.heap.size), .int .i64 0, .int .i64 0] 75)
  rwa [World.size_alloc] at this
 have HS := Lib.hid (aStore_any ⟨w.heap.size + 1, 11, none⟩ ct (.int .i64 0) _ (by rw [cell_of_row _ _ 11 _ _ _ hb2]; rfl) (by unfold World.frozen?; rw [hb2]; rfl))
 clear hb2
 rcases hw with rfl | ⟨fid, lb, rfl⟩
 all_goals
  go_enter Tryz.func8, Tryz.ntmps8
  go_wp2_with fail
  refine HB.out.mono ?_
  rintro e w1 ⟨rfl, rfl⟩
  go_wp2_with fail
  refine HS.out.mono ?_
  rintro e w2 ⟨⟨x, rfl⟩, rfl⟩
  go_wp2_with fail
  go_ret2
  exact ⟨rfl, rfl⟩
theorem PNew_any (w : World) (ok : Nat → Prop) (b0 gd : Nat) (F : Nat → Prop) (D : DiskS) (b p f ep ct : Nat) (wv : Value) (hd : IsD w ok b0 gd F D) (hw : FnV wv) (hm : mayP D.blocks.length b p f ep ct = true) (hbs : b0 ≤ w.heap.size) :
  Calls Tryz.prog 8 #[.pointer (some ⟨gd, 0, none⟩), .int .i64 (b : Int), .int .i64 (p : Int), .int .i64 (f : Int), .int .i64 (ep : Int), .int .i64 (ct : Int), wv] w fun e w' => e = .returned (.tuple #[.pointer (some ⟨w.heap.size + 1, 0, none⟩), .int .i64 0]) ∧ PX w' b0 (w.heap.size + 1) gd wv D (newP b p f ep ct) F (fun k => ok k ∧ k < w.heap.size) (.slice none 0 0) w.heap.size [] ∧ Below w.heap.size w w' := by
 refine (PNew_raw w ok b0 gd F D b p f ep ct wv hd hw hm).mono ?_
 rintro e w' ⟨rfl, rfl⟩
 have hb1 := gr_alloc (gr_refl w) (.map #[] 0)
 have hq := MQ.made w
 generalize hw1 : w.alloc (.map #[] 0) = w1 at *
 have hs1 : w1.heap.size = w.heap.size + 1 := by rw [← hw1, World.size_alloc]
 have hb2 := gr_alloc (gr_refl w1) (.cells #[.pointer (some ⟨w.heap.size + 1, 0, none⟩), .pointer (some ⟨gd, 0, none⟩), .int .i64 (b : Int), .int .i64 (p : Int), .int .i64 (f : Int), .int .i64 (ep : Int), wv, .bool false, .slice none 0 0, .map (some w.heap.size), .int .i64 0, .int .i64 (ct : Int)] 75)
 have hn := heap_alloc_new w1 (.cells #[.pointer (some ⟨w.heap.size + 1, 0, none⟩), .pointer (some ⟨gd, 0, none⟩), .int .i64 (b : Int), .int .i64 (p : Int), .int .i64 (f : Int), .int .i64 (ep : Int), wv, .bool false, .slice none 0 0, .map (some w.heap.size), .int .i64 0, .int .i64 (ct : Int)] 75)
 rw [hs1] at hn
 have hs2 : (w1.alloc (.cells #[.pointer (some ⟨w.heap.size + 1, 0, none⟩), .pointer (some ⟨gd, 0, none⟩), .int .i64 (b : Int), .int .i64 (p : Int), .int .i64 (f : Int), .int .i64 (ep : Int), wv, .bool false, .slice none 0 0, .map (some w.heap.size), .int .i64 0, .int .i64 (ct : Int)] 75)).heap.size = w.heap.size + 2 := by rw [World.size_alloc, hs1]
 generalize hw2 : w1.alloc (.cells #[.pointer (some ⟨w.heap.size + 1, 0, none⟩), .pointer (some ⟨gd, 0, none⟩), .int .i64 (b : Int), .int .i64 (p : Int), .int .i64 (f : Int), .int .i64 (ep : Int), wv, .bool false, .slice none 0 0, .map (some w.heap.size), .int .i64 0, .int .i64 (ct : Int)] 75) = w2 at *
 have hpb3 : PB w2 (w.heap.size + 1) gd wv false (.slice none 0 0) w.heap.size (newP b p f ep ct) := hn
 have hb3 : Below w.heap.size w w2 := hb1.trans (hb2.mono hb1.size)
 unfold mayP at hm
 simp only [Bool.and_eq_true, decide_eq_true_eq] at hm
 obtain ⟨m0, m1, m2, m3, m4, m5, m6, m7, m8, m9⟩ := hm
 have hn2 : D.blocks.length ≤ 4096 := by
  obtain ⟨dr, dc, pv, dvs, pvs, hd, _⟩ := hd
  exact hd.n2
 refine ⟨rfl, ⟨hd.sharp.below hb3, hpb3, EO.nil _ _, rfl, (fun x hx => by cases hx), ?_, ?_, by omega, hbs, fun k e => Nat.lt_of_lt_of_le e.2 hb3.size⟩, hb3⟩
 ·show MQ _ w.heap.size 0 (idxF [])
  rw [idxF_nil]
  exact hq.below hb2
 ·exact ⟨by show b + p ≤ _; omega, hn2, by show 2 ≤ f; omega, by show f ≤ 256; omega, by show ep ≤ _; omega, Nat.zero_le _, by show 0 < f; omega, fun f hf => (by cases hf), List.nodup_nil⟩
set_option maxRecDepth 100000 in
set_option maxHeartbeats 1000000 in
theorem PNew_bad0 (w : World) (gd n : Nat) (b p f ep ct : Int) (wv : Value) (hn1 : 1 ≤ n ∧ n ≤ 4096) (hb : Calls Tryz.prog 26 #[.pointer (some ⟨gd, 0, none⟩)] w fun e w' => e = .returned (.int .i64 (n : Int)) ∧ w = w') (h : decide (b < 0) = true) :
  Calls Tryz.prog 8 #[.pointer (some ⟨gd, 0, none⟩), .int .i64 b, .int .i64 p, .int .i64 f, .int .i64 ep, .int .i64 ct, wv] w fun e w' => e = .returned (.tuple #[.pointer none, .int .i64 2]) ∧ w = w' := by
 have HB := Lib.hid hb
 have hn0 : ((n : Int) == 0) = false := beq_eq_false_iff_ne.2 (by omega)
 clear hb
 go_enter Tryz.func8, Tryz.ntmps8
 go_wp2_with fail
 refine HB.out.mono ?_
 rintro e w1 ⟨rfl, rfl⟩
 go_wp2_with fail
 go_ret2
 exact ⟨rfl, rfl⟩
set_option maxRecDepth 100000 in
set_option maxHeartbeats 1000000 in
theorem PNew_bad1 (w : World) (gd n : Nat) (b p f ep ct : Int) (wv : Value) (hn1 : 1 ≤ n ∧ n ≤ 4096) (hb : Calls Tryz.prog 26 #[.pointer (some ⟨gd, 0, none⟩)] w fun e w' => e = .returned (.int .i64 (n : Int)) ∧ w = w') (t0 : decide (b < 0) = false) (h : decide (p < 1) = true) :
  Calls Tryz.prog 8 #[.pointer (some ⟨gd, 0, none⟩), .int .i64 b, .int .i64 p, .int .i64 f, .int .i64 ep, .int .i64 ct, wv] w fun e w' => e = .returned (.tuple #[.pointer none, .int .i64 2]) ∧ w = w' := by
 have HB := Lib.hid hb
 have hn0 : ((n : Int) == 0) = false := beq_eq_false_iff_ne.2 (by omega)
 clear hb
 go_enter Tryz.func8, Tryz.ntmps8
 go_wp2_with fail
 refine HB.out.mono ?_
 rintro e w1 ⟨rfl, rfl⟩
 go_wp2_with fail
 go_ret2
 exact ⟨rfl, rfl⟩
set_option maxRecDepth 100000 in
set_option maxHeartbeats 1000000 in
theorem PNew_bad2 (w : World) (gd n : Nat) (b p f ep ct : Int) (wv : Value) (hn1 : 1 ≤ n ∧ n ≤ 4096) (hb : Calls Tryz.prog 26 #[.pointer (some ⟨gd, 0, none⟩)] w fun e w' => e = .returned (.int .i64 (n : Int)) ∧ w = w') (t0 : decide (b < 0) = false) (t1 : decide (p < 1) = false) (h : decide ((n : Int) < b) = true) :
  Calls Tryz.prog 8 #[.pointer (some ⟨gd, 0, none⟩), .int .i64 b, .int .i64 p, .int .i64 f, .int .i64 ep, .int .i64 ct, wv] w fun e w' => e = .returned (.tuple #[.pointer none, .int .i64 2]) ∧ w = w' := by
 have HB := Lib.hid hb
 have hn0 : ((n : Int) == 0) = false := beq_eq_false_iff_ne.2 (by omega)
 clear hb
 go_enter Tryz.func8, Tryz.ntmps8
 go_wp2_with fail
 refine HB.out.mono ?_
 rintro e w1 ⟨rfl, rfl⟩
 go_wp2_with fail
 go_ret2
 exact ⟨rfl, rfl⟩
set_option maxRecDepth 100000 in
set_option maxHeartbeats 1000000 in
theorem PNew_bad3 (w : World) (gd n : Nat) (b p f ep ct : Int) (wv : Value) (hn1 : 1 ≤ n ∧ n ≤ 4096) (hb : Calls Tryz.prog 26 #[.pointer (some ⟨gd, 0, none⟩)] w fun e w' => e = .returned (.int .i64 (n : Int)) ∧ w = w') (t0 : decide (b < 0) = false) (t1 : decide (p < 1) = false) (t2 : decide ((n : Int) < b) = false) (h : decide ((n : Int) - b < p) = true) (hwr : IntKind.i64.wrap ((n : Int) - b) = (n : Int) - b) :
  Calls Tryz.prog 8 #[.pointer (some ⟨gd, 0, none⟩), .int .i64 b, .int .i64 p, .int .i64 f, .int .i64 ep, .int .i64 ct, wv] w fun e w' => e = .returned (.tuple #[.pointer none, .int .i64 2]) ∧ w = w' := by
 have HB := Lib.hid hb
 have hn0 : ((n : Int) == 0) = false := beq_eq_false_iff_ne.2 (by omega)
 clear hb
 go_enter Tryz.func8, Tryz.ntmps8
 go_wp2_with fail
 refine HB.out.mono ?_
 rintro e w1 ⟨rfl, rfl⟩
 go_wp2_with fail
 go_ret2
 exact ⟨rfl, rfl⟩
set_option maxRecDepth 100000 in
set_option maxHeartbeats 1000000 in
theorem PNew_bad4 (w : World) (gd n : Nat) (b p f ep ct : Int) (wv : Value) (hn1 : 1 ≤ n ∧ n ≤ 4096) (hb : Calls Tryz.prog 26 #[.pointer (some ⟨gd, 0, none⟩)] w fun e w' => e = .returned (.int .i64 (n : Int)) ∧ w = w') (t0 : decide (b < 0) = false) (t1 : decide (p < 1) = false) (t2 : decide ((n : Int) < b) = false) (t3 : decide ((n : Int) - b < p) = false) (h : decide (f < 2) = true) (hwr : IntKind.i64.wrap ((n : Int) - b) = (n : Int) - b) :
  Calls Tryz.prog 8 #[.pointer (some ⟨gd, 0, none⟩), .int .i64 b, .int .i64 p, .int .i64 f, .int .i64 ep, .int .i64 ct, wv] w fun e w' => e = .returned (.tuple #[.pointer none, .int .i64 2]) ∧ w = w' := by
 have HB := Lib.hid hb
 have hn0 : ((n : Int) == 0) = false := beq_eq_false_iff_ne.2 (by omega)
 clear hb
 go_enter Tryz.func8, Tryz.ntmps8
 go_wp2_with fail
 refine HB.out.mono ?_
 rintro e w1 ⟨rfl, rfl⟩
 go_wp2_with fail
 go_ret2
 exact ⟨rfl, rfl⟩
set_option maxRecDepth 100000 in
set_option maxHeartbeats 1000000 in
theorem PNew_bad5 (w : World) (gd n : Nat) (b p f ep ct : Int) (wv : Value) (hn1 : 1 ≤ n ∧ n ≤ 4096) (hb : Calls Tryz.prog 26 #[.pointer (some ⟨gd, 0, none⟩)] w fun e w' => e = .returned (.int .i64 (n : Int)) ∧ w = w') (t0 : decide (b < 0) = false) (t1 : decide (p < 1) = false) (t2 : decide ((n : Int) < b) = false) (t3 : decide ((n : Int) - b < p) = false) (t4 : decide (f < 2) = false) (h : decide (256 < f) = true) (hwr : IntKind.i64.wrap ((n : Int) - b) = (n : Int) - b) :
  Calls Tryz.prog 8 #[.pointer (some ⟨gd, 0, none⟩), .int .i64 b, .int .i64 p, .int .i64 f, .int .i64 ep, .int .i64 ct, wv] w fun e w' => e = .returned (.tuple #[.pointer none, .int .i64 2]) ∧ w = w' := by
 have HB := Lib.hid hb
 have hn0 : ((n : Int) == 0) = false := beq_eq_false_iff_ne.2 (by omega)
 clear hb
 go_enter Tryz.func8, Tryz.ntmps8
 go_wp2_with fail
 refine HB.out.mono ?_
 rintro e w1 ⟨rfl, rfl⟩
 go_wp2_with fail
 go_ret2
 exact ⟨rfl, rfl⟩
set_option maxRecDepth 100000 in
set_option maxHeartbeats 1000000 in
theorem PNew_bad6 (w : World) (gd n : Nat) (b p f ep ct : Int) (wv : Value) (hn1 : 1 ≤ n ∧ n ≤ 4096) (hb : Calls Tryz.prog 26 #[.pointer (some ⟨gd, 0, none⟩)] w fun e w' => e = .returned (.int .i64 (n : Int)) ∧ w = w') (t0 : decide (b < 0) = false) (t1 : decide (p < 1) = false) (t2 : decide ((n : Int) < b) = false) (t3 : decide ((n : Int) - b < p) = false) (t4 : decide (f < 2) = false) (t5 : decide (256 < f) = false) (h : decide (ep < 1) = true) (hwr : IntKind.i64.wrap ((n : Int) - b) = (n : Int) - b) :
  Calls Tryz.prog 8 #[.pointer (some ⟨gd, 0, none⟩), .int .i64 b, .int .i64 p, .int .i64 f, .int .i64 ep, .int .i64 ct, wv] w fun e w' => e = .returned (.tuple #[.pointer none, .int .i64 2]) ∧ w = w' := by
 have HB := Lib.hid hb
 have hn0 : ((n : Int) == 0) = false := beq_eq_false_iff_ne.2 (by omega)
 clear hb
 go_enter Tryz.func8, Tryz.ntmps8
 go_wp2_with fail
 refine HB.out.mono ?_
 rintro e w1 ⟨rfl, rfl⟩
 go_wp2_with fail
 go_ret2
 exact ⟨rfl, rfl⟩
set_option maxRecDepth 100000 in
set_option maxHeartbeats 1000000 in
theorem PNew_bad7 (w : World) (gd n : Nat) (b p f ep ct : Int) (wv : Value) (hn1 : 1 ≤ n ∧ n ≤ 4096) (hb : Calls Tryz.prog 26 #[.pointer (some ⟨gd, 0, none⟩)] w fun e w' => e = .returned (.int .i64 (n : Int)) ∧ w = w') (t0 : decide (b < 0) = false) (t1 : decide (p < 1) = false) (t2 : decide ((n : Int) < b) = false) (t3 : decide ((n : Int) - b < p) = false) (t4 : decide (f < 2) = false) (t5 : decide (256 < f) = false) (t6 : decide (ep < 1) = false) (h : decide (4294967295 < ep) = true) (hwr : IntKind.i64.wrap ((n : Int) - b) = (n : Int) - b) :
  Calls Tryz.prog 8 #[.pointer (some ⟨gd, 0, none⟩), .int .i64 b, .int .i64 p, .int .i64 f, .int .i64 ep, .int .i64 ct, wv] w fun e w' => e = .returned (.tuple #[.pointer none, .int .i64 2]) ∧ w = w' := by
 have HB := Lib.hid hb
 have hn0 : ((n : Int) == 0) = false := beq_eq_false_iff_ne.2 (by omega)
 clear hb
 go_enter Tryz.func8, Tryz.ntmps8
 go_wp2_with fail
 refine HB.out.mono ?_
 rintro e w1 ⟨rfl, rfl⟩
 go_wp2_with fail
 go_ret2
 exact ⟨rfl, rfl⟩
set_option maxRecDepth 100000 in
set_option maxHeartbeats 1000000 in
theorem PNew_bad8 (w : World) (gd n : Nat) (b p f ep ct : Int) (wv : Value) (hn1 : 1 ≤ n ∧ n ≤ 4096) (hb : Calls Tryz.prog 26 #[.pointer (some ⟨gd, 0, none⟩)] w fun e w' => e = .returned (.int .i64 (n : Int)) ∧ w = w') (t0 : decide (b < 0) = false) (t1 : decide (p < 1) = false) (t2 : decide ((n : Int) < b) = false) (t3 : decide ((n : Int) - b < p) = false) (t4 : decide (f < 2) = false) (t5 : decide (256 < f) = false) (t6 : decide (ep < 1) = false) (t7 : decide (4294967295 < ep) = false) (h : decide (ct < 0) = true) (hwr : IntKind.i64.wrap ((n : Int) - b) = (n : Int) - b) :
  Calls Tryz.prog 8 #[.pointer (some ⟨gd, 0, none⟩), .int .i64 b, .int .i64 p, .int .i64 f, .int .i64 ep, .int .i64 ct, wv] w fun e w' => e = .returned (.tuple #[.pointer none, .int .i64 2]) ∧ w = w' := by
 have HB := Lib.hid hb
 have hn0 : ((n : Int) == 0) = false := beq_eq_false_iff_ne.2 (by omega)
 clear hb
 go_enter Tryz.func8, Tryz.ntmps8
 go_wp2_with fail
 refine HB.out.mono ?_
 rintro e w1 ⟨rfl, rfl⟩
 go_wp2_with fail
 go_ret2
 exact ⟨rfl, rfl⟩
set_option maxRecDepth 100000 in
set_option maxHeartbeats 1000000 in
theorem PNew_bad9 (w : World) (gd n : Nat) (b p f ep ct : Int) (wv : Value) (hn1 : 1 ≤ n ∧ n ≤ 4096) (hb : Calls Tryz.prog 26 #[.pointer (some ⟨gd, 0, none⟩)] w fun e w' => e = .returned (.int .i64 (n : Int)) ∧ w = w') (t0 : decide (b < 0) = false) (t1 : decide (p < 1) = false) (t2 : decide ((n : Int) < b) = false) (t3 : decide ((n : Int) - b < p) = false) (t4 : decide (f < 2) = false) (t5 : decide (256 < f) = false) (t6 : decide (ep < 1) = false) (t7 : decide (4294967295 < ep) = false) (t8 : decide (ct < 0) = false) (h : decide (4294967295 < ct) = true) (hwr : IntKind.i64.wrap ((n : Int) - b) = (n : Int) - b) :
  Calls Tryz.prog 8 #[.pointer (some ⟨gd, 0, none⟩), .int .i64 b, .int .i64 p, .int .i64 f, .int .i64 ep, .int .i64 ct, wv] w fun e w' => e = .returned (.tuple #[.pointer none, .int .i64 2]) ∧ w = w' := by
 have HB := Lib.hid hb
 have hn0 : ((n : Int) == 0) = false := beq_eq_false_iff_ne.2 (by omega)
 clear hb
 go_enter Tryz.func8, Tryz.ntmps8
 go_wp2_with fail
 refine HB.out.mono ?_
 rintro e w1 ⟨rfl, rfl⟩
 go_wp2_with fail
 go_ret2
 exact ⟨rfl, rfl⟩
theorem PNew_bad (w : World) (ok : Nat → Prop) (b0 gd : Nat) (F : Nat → Prop) (D : DiskS) (b p f ep ct : Int) (wv : Value) (hd : IsD w ok b0 gd F D) (hm : mayP D.blocks.length b p f ep ct = false) :
  Calls Tryz.prog 8 #[.pointer (some ⟨gd, 0, none⟩), .int .i64 b, .int .i64 p, .int .i64 f, .int .i64 ep, .int .i64 ct, wv] w fun e w' => e = .returned (.tuple #[.pointer none, .int .i64 2]) ∧ w = w' := by
 have hn1 : 1 ≤ D.blocks.length ∧ D.blocks.length ≤ 4096 := by
  obtain ⟨dr, dc, pv, dvs, pvs, hd, _⟩ := hd
  exact ⟨hd.n1, hd.n2⟩
 have HB := Blocks_any w ok b0 gd F D hd
 clear hd
 generalize D.blocks.length = n at *
 unfold mayP at hm
 simp only [Bool.and_eq_false_iff, decide_eq_false_iff_not] at hm
 by_cases q0 : decide (b < 0) = true
 ·exact PNew_bad0 w gd n b p f ep ct wv hn1 HB q0
 have t0 : decide (b < 0) = false := by simpa using q0
 by_cases q1 : decide (p < 1) = true
 ·exact PNew_bad1 w gd n b p f ep ct wv hn1 HB t0 q1
 have t1 : decide (p < 1) = false := by simpa using q1
 by_cases q2 : decide ((n : Int) < b) = true
 ·exact PNew_bad2 w gd n b p f ep ct wv hn1 HB t0 t1 q2
 have t2 : decide ((n : Int) < b) = false := by simpa using q2
 have hwr : IntKind.i64.wrap ((n : Int) - b) = (n : Int) - b := by
  have := of_decide_eq_false t0
  have := of_decide_eq_false t2
  rw [IntKind.wrap_i64]
  omega
 by_cases q3 : decide ((n : Int) - b < p) = true
 ·exact PNew_bad3 w gd n b p f ep ct wv hn1 HB t0 t1 t2 q3 hwr
 have t3 : decide ((n : Int) - b < p) = false := by simpa using q3
 by_cases q4 : decide (f < 2) = true
 ·exact PNew_bad4 w gd n b p f ep ct wv hn1 HB t0 t1 t2 t3 q4 hwr
 have t4 : decide (f < 2) = false := by simpa using q4
 by_cases q5 : decide (256 < f) = true
 ·exact PNew_bad5 w gd n b p f ep ct wv hn1 HB t0 t1 t2 t3 t4 q5 hwr
 have t5 : decide (256 < f) = false := by simpa using q5
 by_cases q6 : decide (ep < 1) = true
 ·exact PNew_bad6 w gd n b p f ep ct wv hn1 HB t0 t1 t2 t3 t4 t5 q6 hwr
 have t6 : decide (ep < 1) = false := by simpa using q6
 by_cases q7 : decide (4294967295 < ep) = true
 ·exact PNew_bad7 w gd n b p f ep ct wv hn1 HB t0 t1 t2 t3 t4 t5 t6 q7 hwr
 have t7 : decide (4294967295 < ep) = false := by simpa using q7
 by_cases q8 : decide (ct < 0) = true
 ·exact PNew_bad8 w gd n b p f ep ct wv hn1 HB t0 t1 t2 t3 t4 t5 t6 t7 q8 hwr
 have t8 : decide (ct < 0) = false := by simpa using q8
 by_cases q9 : decide (4294967295 < ct) = true
 ·exact PNew_bad9 w gd n b p f ep ct wv hn1 HB t0 t1 t2 t3 t4 t5 t6 t7 t8 q9 hwr
 have t9 : decide (4294967295 < ct) = false := by simpa using q9
 have u0 := of_decide_eq_false t0
 have u1 := of_decide_eq_false t1
 have u2 := of_decide_eq_false t2
 have u3 := of_decide_eq_false t3
 have u4 := of_decide_eq_false t4
 have u5 := of_decide_eq_false t5
 have u6 := of_decide_eq_false t6
 have u7 := of_decide_eq_false t7
 have u8 := of_decide_eq_false t8
 have u9 := of_decide_eq_false t9
 exact absurd hm (by omega)
end Go.Proofs.YtmdgnjmhbjdlmaaGreat

/-! PoM -/
namespace Go.Proofs.YtmdgnjmhbjdlmaaGreat
open Go Go.RowKit Go.Maps
def Mv (S S' : Nat → Prop) (w w' : World) : Prop := Off S w w' ∧ ∀ k, S' k → S k ∨ w.heap.size ≤ k
theorem Mv.of_below {S : Nat → Prop} {w w' : World} (h : Below w.heap.size w w') : Mv S S w w' := ⟨Off.of_below h, fun _ e => .inl e⟩
theorem Mv.trans {S S' S'' : Nat → Prop} {w w' w'' : World} (h : Mv S S' w w') (k : Mv S' S'' w' w'') : Mv S S'' w w'' :=
 ⟨h.1.chain k.1 h.2, fun j hj => by
  rcases k.2 j hj with e | e
  ·exact h.2 j e
  ·exact .inr (Nat.le_trans h.1.size e)⟩
structure PJ (w0 w : World) (gd gp : Nat) (wv : Value) (L : Option Int) (D : DiskS) (P : PoS) (S : Nat → Prop) : Prop where
 bel : Below w0.heap.size w0 w
 ex : ∃ F ok tv mb q, PX w w0.heap.size gp gd wv D P F ok tv mb q ∧ ∀ k, S k ↔ PS gp F ok tv mb q k
 sb : ∀ k, S k → w0.heap.size ≤ k
 lv : LogV w wv L S
section
variable {w0 w w' : World} {gd gp : Nat} {wv : Value} {L : Option Int} {D D' : DiskS} {P P' : PoS} {S S' : Nat → Prop}
theorem PJ.lt (h : PJ w0 w gd gp wv L D P S) {k : Nat} (hk : S k) : k < w.heap.size := by
 obtain ⟨F, ok, tv, mb, q, hx, hs⟩ := h.ex
 exact hx.lt ((hs k).1 hk)
theorem PJ.pi (h : PJ w0 w gd gp wv L D P S) : PI D P := by
 obtain ⟨F, ok, tv, mb, q, hx, hs⟩ := h.ex
 exact hx.pi
theorem PJ.next (h : PJ w0 w gd gp wv L D P S) {F ok : Nat → Prop} {tv : Value} {mb : Nat} {q : List FV} (hx : PX w' w0.heap.size gp gd wv D' P' F ok tv mb q) (ho : Off S w w') (hs : ∀ k, PS gp F ok tv mb q k → S k ∨ w.heap.size ≤ k) :
  PJ w0 w' gd gp wv L D' P' (PS gp F ok tv mb q) ∧ Mv S (PS gp F ok tv mb q) w w' := by
 refine ⟨⟨h.bel.trans (ho.below h.sb h.bel.size), ⟨F, ok, tv, mb, q, hx, fun k => Iff.rfl⟩, fun k e => ?_, h.lv.step ho hs⟩, ho, hs⟩
 rcases hs k e with e | e
 ·exact h.sb k e
 ·exact Nat.le_trans h.bel.size e
theorem PJ.below (h : PJ w0 w gd gp wv L D P S) (hb : Below w.heap.size w w') : PJ w0 w' gd gp wv L D P S := by
 obtain ⟨F, ok, tv, mb, q, hx, hs⟩ := h.ex
 exact ⟨h.bel.trans (hb.mono h.bel.size), ⟨F, ok, tv, mb, q, hx.below hb, hs⟩, h.sb, h.lv.step (Off.of_below hb) (fun _ e => .inl e)⟩
theorem PJ.of_step (h : PJ w0 w gd gp wv L D P S) {F ok : Nat → Prop} {tv : Value} {mb : Nat} {q : List FV} (hs : ∀ k, S k ↔ PS gp F ok tv mb q k) (hp : PStep w w0.heap.size gp gd wv (PS gp F ok tv mb q) D' P' w') : ∃ S', PJ w0 w' gd gp wv L D' P' S' ∧ Mv S S' w w' := by
 obtain ⟨F', ok', tv', mb', q', h1, h2, h3⟩ := hp
 have := h.next h1 (h2.mono fun k _ e => (hs k).2 e) (fun k e => (h3 k e).imp (hs k).2 id)
 exact ⟨_, this.1, this.2⟩
theorem Get_pj (h : PJ w0 w gd gp wv L D P S) (page : Int) (hpd : D.pending.length ≤ 900000) (hct : P.count ≤ 1152921504606846976) :
  Calls Tryz.prog 24 #[.pointer (some ⟨gp, 0, none⟩), .int .i64 page] w fun e w' => ∃ v S', e = .returned (.tuple #[v, .int .i64 (getR L D P page).2.2]) ∧ OB w' w.heap.size v (getL L D P page) ∧ PJ w0 w' gd gp wv L (getR L D P page).1 (getR L D P page).2.1 S' ∧ Mv S S' w w' ∧ ∀ k, v.ownBlock = some k → ¬ S' k := by
 obtain ⟨F, ok, tv, mb, q, hx, hs⟩ := h.ex
 have hl : LogV w wv L (PS gp F ok tv mb q) := h.lv.step (Off.refl _ _) (fun k e => .inl ((hs k).2 e))
 refine (Get_any hx hl page hpd hct h.bel.size).mono ?_
 rintro e w' ⟨v, rfl, ho, F', ok', tv', mb', q', h1, h2, h3, h4⟩
 have := h.next h1 (h2.mono fun k _ e => (hs k).2 e) (fun k e => (h3 k e).imp (hs k).2 id)
 exact ⟨v, _, rfl, ho, this.1, this.2, h4⟩
theorem Set_pj (h : PJ w0 w gd gp wv L D P S) (page lsn : Int) (A : Option Addr) (n c : Nat) (l : List UInt8) (hb : BR w A n l) (hls : lsn ≤ 9223372036854775807) (hpd : D.pending.length ≤ 900000) (hct : P.count ≤ 1152921504606846976) :
  Calls Tryz.prog 22 #[.pointer (some ⟨gp, 0, none⟩), .int .i64 page, .slice A n c, .int .i64 lsn] w fun e w' => ∃ S', e = .returned (.int .i64 (setR L D P page l lsn).2.2) ∧ PJ w0 w' gd gp wv L (setR L D P page l lsn).1 (setR L D P page l lsn).2.1 S' ∧ Mv S S' w w' := by
 obtain ⟨F, ok, tv, mb, q, hx, hs⟩ := h.ex
 have hl : LogV w wv L (PS gp F ok tv mb q) := h.lv.step (Off.refl _ _) (fun k e => .inl ((hs k).2 e))
 refine (Set_any hx hl page lsn A n c l hb hls hpd hct h.bel.size).mono ?_
 rintro e w' ⟨rfl, hp⟩
 obtain ⟨S', h1, h2⟩ := h.of_step hs hp
 exact ⟨S', rfl, h1, h2⟩
theorem Flush_pj (h : PJ w0 w gd gp wv L D P S) (hpd : D.pending.length ≤ 899000) (hct : P.count ≤ 1152921504606840000) :
  Calls Tryz.prog 33 #[.pointer (some ⟨gp, 0, none⟩)] w fun e w' => ∃ S', e = .returned (.int .i64 (flushR L D P).2.2) ∧ PJ w0 w' gd gp wv L (flushR L D P).1 (flushR L D P).2.1 S' ∧ Mv S S' w w' := by
 obtain ⟨F, ok, tv, mb, q, hx, hs⟩ := h.ex
 have hl : LogV w wv L (PS gp F ok tv mb q) := h.lv.step (Off.refl _ _) (fun k e => .inl ((hs k).2 e))
 refine (Flush_any hx hl hpd hct).mono ?_
 rintro e w' ⟨rfl, hp⟩
 obtain ⟨S', h1, h2⟩ := h.of_step hs hp
 exact ⟨S', rfl, h1, h2⟩
def NewI (w w' : World) (e : Ending) (l : List Nat) : Prop := ∃ A c, e = .returned (.slice A l.length c) ∧ w'.ownsRow w.heap.size 3 1 (.slice A l.length c) l.length ((intsL l).map (Value.int .i64)) ∧ Below w.heap.size w w'
theorem Held_pj (h : PJ w0 w gd gp wv L D P S) : Calls Tryz.prog 15 #[.pointer (some ⟨gp, 0, none⟩)] w fun e w' => NewI w w' e (heldL P) := by
 obtain ⟨F, ok, tv, mb, q, hx, hs⟩ := h.ex
 exact Held_any hx
theorem Dirty_pj (h : PJ w0 w gd gp wv L D P S) : Calls Tryz.prog 17 #[.pointer (some ⟨gp, 0, none⟩)] w fun e w' => NewI w w' e (dirtyL P) := by
 obtain ⟨F, ok, tv, mb, q, hx, hs⟩ := h.ex
 exact Dirty_any hx
theorem Count_pj (h : PJ w0 w gd gp wv L D P S) : Calls Tryz.prog 11 #[.pointer (some ⟨gp, 0, none⟩)] w fun e w' => e = .returned (.int .i64 (P.count : Int)) ∧ w = w' := by
 obtain ⟨F, ok, tv, mb, q, hx, hs⟩ := h.ex
 exact Count_any hx.pb
theorem Pages_pj (h : PJ w0 w gd gp wv L D P S) : Calls Tryz.prog 12 #[.pointer (some ⟨gp, 0, none⟩)] w fun e w' => e = .returned (.int .i64 (P.pages : Int)) ∧ w = w' := by
 obtain ⟨F, ok, tv, mb, q, hx, hs⟩ := h.ex
 exact Pages_any hx.pb
theorem Read_pj (h : PJ w0 w gd gp wv L D P S) (b : Int) (hpd : D.pending.length ≤ 1000000) :
  Calls Tryz.prog 25 #[.pointer (some ⟨gd, 0, none⟩), .int .i64 b] w fun e w' => ∃ v, e = .returned (.tuple #[v, .int .i64 (readE D b)]) ∧ OB w' w.heap.size v (readL D b) ∧ Below w.heap.size w w' := by
 obtain ⟨F, ok, tv, mb, q, hx, hs⟩ := h.ex
 exact Read_any w ok _ gd F D b hx.dk hpd
theorem Durable_pj (h : PJ w0 w gd gp wv L D P S) (b : Int) :
  Calls Tryz.prog 18 #[.pointer (some ⟨gd, 0, none⟩), .int .i64 b] w fun e w' => ∃ v, e = .returned (.tuple #[v, .int .i64 (askE D b)]) ∧ OB w' w.heap.size v (durL D b) ∧ Below w.heap.size w w' := by
 obtain ⟨F, ok, tv, mb, q, hx, hs⟩ := h.ex
 exact Durable_any w ok _ gd F D b hx.dk
theorem Pending_pj (h : PJ w0 w gd gp wv L D P S) :
  Calls Tryz.prog 13 #[.pointer (some ⟨gd, 0, none⟩)] w fun e w' => e = .returned (.int .i64 (D.pending.length : Int)) ∧ w = w' := by
 obtain ⟨F, ok, tv, mb, q, hx, hs⟩ := h.ex
 exact Pending_any w ok _ gd F D hx.dk
theorem PNew_pj (ok F : Nat → Prop) (b p f ep ct : Nat) (hb : Below w0.heap.size w0 w) (hd : IsD w ok w0.heap.size gd F D) (hw : FnV wv) (hm : mayP D.blocks.length b p f ep ct = true) (hk : ∀ k, ok k → w0.heap.size ≤ k) (hl : LogV w wv L (fun k => F k ∨ ok k ∨ w.heap.size ≤ k)) :
  Calls Tryz.prog 8 #[.pointer (some ⟨gd, 0, none⟩), .int .i64 (b : Int), .int .i64 (p : Int), .int .i64 (f : Int), .int .i64 (ep : Int), .int .i64 (ct : Int), wv] w fun e w' => ∃ gp S, e = .returned (.tuple #[.pointer (some ⟨gp, 0, none⟩), .int .i64 0]) ∧ PJ w0 w' gd gp wv L D (newP b p f ep ct) S ∧ Below w.heap.size w w' ∧ ∀ k, S k → F k ∨ ok k ∨ w.heap.size ≤ k := by
 refine (PNew_any w ok _ gd F D b p f ep ct wv hd hw hm hb.size).mono ?_
 rintro e w' ⟨rfl, hx, hbb⟩
 have hs : ∀ k, PS (w.heap.size + 1) F (fun k => ok k ∧ k < w.heap.size) (.slice none 0 0) w.heap.size [] k → F k ∨ ok k ∨ w.heap.size ≤ k := fun k e => by
  rcases e with e | e | e | e | e | ⟨x, hx, _⟩
  ·exact .inl e
  ·exact .inr (.inl e.1)
  ·exact .inr (.inr (by omega))
  ·exact .inr (.inr (by omega))
  ·simp [Value.ownBlock] at e
  ·cases hx
 refine ⟨_, _, rfl, ⟨hb.trans (hbb.mono hb.size), ⟨F, _, _, _, [], hx, fun k => Iff.rfl⟩, fun k e => ?_, hl.step (Off.of_below hbb) (fun k e => .inl (hs k e))⟩, hbb, hs⟩
 rcases hs k e with e | e | e
 ·exact (hd.foot_lt k e).1
 ·exact hk k e
 ·exact Nat.le_trans hb.size e
theorem LogV.nil_ (w : World) (S : Nat → Prop) : LogV w .nilFunc none S := .inl ⟨rfl, rfl⟩
end
end Go.Proofs.YtmdgnjmhbjdlmaaGreat

/-! PoN -/
namespace Go.Proofs.YtmdgnjmhbjdlmaaGreat
open Go Go.RowKit Go.Maps
set_option maxRecDepth 100000 in
set_option maxHeartbeats 1000000 in
theorem SameInts_any (A B : Option Addr) (n m c d : Nat) (a b : List Int) (w : World) (ha : IR w A n a) (hb : IR w B m b) (hn : n ≤ 1000000) (hm : m ≤ 1000000) :
  Calls Tryz.prog 14 #[.slice A n c, .slice B m d] w fun e w' => e = .returned (.bool (a == b)) ∧ Below w.heap.size w w' := by
 have la := ha.len
 have lb := hb.len
 by_cases hnm : n = m
 ·subst hnm
  have t0 : ((n : Int) != (n : Int)) = false := by simp
  have HEQ : Hid (∀ k : Nat, k < n → a.getD k 0 ≠ b.getD k 0 → (a == b) = false) := Lib.hid (fun k _ he => by
   rw [beq_eq_false_iff_ne]
   rintro rfl
   exact he rfl)
  have HEND : Hid ((∀ k : Nat, k < n → a.getD k 0 = b.getD k 0) → (a == b) = true) := Lib.hid (fun he => by
   rw [beq_iff_eq]
   refine List.ext_getElem (by omega) (fun i h1 h2 => ?_)
   have := he i (by omega)
   simpa [List.getD, List.getElem?_eq_getElem h1, List.getElem?_eq_getElem h2] using this)
  generalize (a == b) = r at *
  clear la lb
  go_enter Tryz.func14, Tryz.ntmps14
  go_wp2_with fail
  go_loopw [5] (fun i wr => ∃ k : Nat, k ≤ n ∧ i = .int .i64 k ∧ Hid (∀ j : Nat, j < k → a.getD j 0 = b.getD j 0) ∧ Below w.heap.size w wr) (fun i _ => n - (RowKit.intOf i).toNat)
  case atStart => exact ⟨0, by omega, rfl, Lib.hid (fun j hj => by omega), gr_refl w⟩
  case round =>
   obtain ⟨k, hk, rfl, HK, hw⟩ := hrel
   by_cases hlt : k < n
   ·have t1 : decide ((k : Int) < (n : Int)) = true := by simp; omega
    have t2 : decide (k < n) = true := by simp; omega
    have i0 : (0 : Int) ≤ (k : Int) := Int.natCast_nonneg _
    have i1 : (k : Int) < (n : Int) := by omega
    obtain ⟨g1, o1, rfl, h1⟩ := ha.at_ hlt
    obtain ⟨g2, o2, rfl, h2⟩ := hb.at_ hlt
    have c1 := keep_of_below hw h1
    have c2 := keep_of_below hw h2
    by_cases he : a.getD k 0 = b.getD k 0
    ·have HK' : Hid (∀ j : Nat, j < k + 1 → a.getD j 0 = b.getD j 0) := Lib.hid (fun j hj => by
      rcases Nat.lt_or_ge j k with h | h
      ·exact HK.out j h
      ·rw [show j = k by omega]; exact he)
     rw [← he] at c2
     clear h1 h2 he
     generalize a.getD k 0 = x at c1 c2
     have t3 : (x != x) = false := by simp
     go_wp2_with fail
     go_quiet (fail)
     go_wp2_with fail
     go_roundw
     case rel => exact ⟨k + 1, by omega, by go_num, HK', gr_drewN hw _⟩
     case measure => simp [RowKit.intOf]; omega
    ·obtain rfl := HEQ.out k hlt he
     clear h1 h2
     have t3 : (a.getD k 0 != b.getD k 0) = true := by simpa using he
     clear he HEQ HEND HK
     generalize a.getD k 0 = x at *
     generalize b.getD k 0 = y at *
     go_wp2_with fail
     go_quiet (fail)
     go_wp2_with fail
     go_ret
     exact ⟨rfl, gr_drewN hw _⟩
   ·have t1 : decide ((k : Int) < (n : Int)) = false := by simp; omega
    have t2 : decide (k < n) = false := by simp; omega
    obtain rfl := HEND.out (fun j hj => HK.out j (by omega))
    go_wp2_with fail
    go_ret
    exact ⟨rfl, hw⟩
 ·have t0 : ((n : Int) != (m : Int)) = true := by simp; omega
  have hr : (a == b) = false := by
   rw [beq_eq_false_iff_ne]
   rintro rfl
   omega
  rw [hr]
  clear hr
  go_enter Tryz.func14, Tryz.ntmps14
  go_wp2_with fail
  go_ret
  exact ⟨rfl, gr_refl w⟩
theorem open_seal (a p : List UInt8) (ha : a.length = 8) (hp : p.length = 4080) : openP (a ++ p ++ a) = p ∧ openS (a ++ p ++ a) = leN a ∧ openE (a ++ p ++ a) = 0 := by
 have h1 : (a ++ p ++ a).take 8 = a := by rw [List.append_assoc]; exact List.take_left' ha
 have h2 : (a ++ p ++ a).drop 4088 = a := List.drop_left' (by rw [List.length_append, ha, hp])
 have h3 : ((a ++ p ++ a).drop 8).take 4080 = p := by rw [List.append_assoc, List.drop_left' ha]; exact List.take_left' hp
 have hs : sealed (a ++ p ++ a) = true := by unfold sealed; rw [h1, h2]; simp
 unfold openP openS openE
 rw [hs, h1, h3]
 exact ⟨rfl, rfl, rfl⟩
theorem payload_any (seed : Int) (w : World) :
  Calls Tryz.prog 23 #[.int .i64 seed] w fun e w' => e = .returned (.slice (some ⟨w.heap.size, 0, none⟩) 4080 4080) ∧ BB w' w.heap.size (madeL seed 4080) ∧ Below w.heap.size w w' := by
 have HM := Lib.hid (Made_any seed 4080 w (by omega))
 go_enter Tryz.func23, Tryz.ntmps23
 go_wp2_with fail
 refine HM.out.mono ?_
 rintro e w1 ⟨rfl, hb, hbb⟩
 go_wp2_with fail
 go_ret
 exact ⟨rfl, hb, hbb⟩
theorem small_any (w0 w : World) (hb : Below w0.heap.size w0 w) :
  Calls Tryz.prog 21 #[] w fun e w' => ∃ gd gp S, e = .returned (.tuple #[.pointer (some ⟨gd, 0, none⟩), .pointer (some ⟨gp, 0, none⟩), .bool true]) ∧ PJ w0 w' gd gp .nilFunc none (newD 10) (newP 2 8 2 1 0) S ∧ Below w.heap.size w w' ∧ ∀ k, S k → w.heap.size ≤ k := by
 have HD := Lib.hid (New_any 10 w (by omega) (by omega))
 go_enter Tryz.func21, Tryz.ntmps21
 go_wp2_with fail
 refine HD.out.mono ?_
 rintro e w1 ⟨gd, F, rfl, hd, hb1⟩
 have HF := Lib.hid (fun k hk => (hd.foot_lt k hk).1)
 have HN := Lib.hid (PNew_pj (w0 := w0) (w := w1) (gd := gd) (wv := .nilFunc) (L := none) (D := newD 10) (fun _ => False) F 2 8 2 1 0 (hb.trans (hb1.mono hb.size)) (hd.lower hb.size) (.inl rfl) (by decide) (fun _ e => e.elim) (LogV.nil_ _ _))
 have HB1 := Lib.hid hb1
 clear hd hb1
 go_wp2_with fail
 refine HN.out.mono ?_
 rintro e w2 ⟨gp, S, rfl, hj, hb2, hs⟩
 have HJ := Lib.hid hj
 have HB2 := Lib.hid hb2
 have HS := Lib.hid hs
 clear hj hb2 hs
 go_wp2_with fail
 refine bodyPost_ret (v := .tuple #[.pointer (some ⟨gd, 0, none⟩), .pointer (some ⟨gp, 0, none⟩), .bool true]) (by simp [results, Tryz.results21, go_sem]) rfl ?_
 refine ⟨gd, gp, S, rfl, HJ.out, HB1.out.trans (HB2.out.mono HB1.out.size), fun k e => ?_⟩
 rcases HS.out k e with e | e | e
 ·exact HF.out k e
 ·exact e.elim
 ·exact Nat.le_trans HB1.out.size e
/-! The states that awake goes through. -/
def zP : List UInt8 := List.replicate 4080 0
def bs10 : List (List UInt8) := List.replicate 10 zer
def aP1 (a : List UInt8) : PoS := ⟨2, 8, 2, 1, 0, [⟨0, a, 1, true, true⟩], 0⟩
def aP2 (a b : List UInt8) : PoS := ⟨2, 8, 2, 1, 0, [⟨0, a, 1, true, true⟩, ⟨1, b, 2, true, true⟩], 0⟩
def aP3 (b : List UInt8) : PoS := ⟨2, 8, 2, 1, 1, [⟨2, zP, 0, false, true⟩, ⟨1, b, 2, true, false⟩], 1⟩
def aP4 (a : List UInt8) : PoS := ⟨2, 8, 2, 1, 2, [⟨2, zP, 0, false, true⟩, ⟨0, a, 0, false, true⟩], 0⟩
def blkA (a : List UInt8) : List UInt8 := blockP 4294967296 a
def blkB (b : List UInt8) : List UInt8 := blockP 4294967297 b
def aD1 (a : List UInt8) : DiskS := calmD bs10 [(2, blkA a)]
def aD2 (a b : List UInt8) : DiskS := calmD bs10 [(2, blkA a), (3, blkB b)]
theorem open_zer : openE zer = 0 ∧ openP zer = zP := by
 have e : zer = List.replicate 8 0 ++ zP ++ List.replicate 8 0 := by
  unfold zer zP
  rw [List.replicate_append_replicate, List.replicate_append_replicate]
 rw [e]
 have := open_seal (List.replicate 8 0) zP (List.length_replicate ..) (List.length_replicate ..)
 exact ⟨this.2.2, this.1⟩
theorem open_blockP (v : Nat) (l : List UInt8) (h : l.length = 4080) : openE (blockP v l) = 0 ∧ openP (blockP v l) = l := by
 have := open_seal (leB v 8) l (leB_length _ _) h
 exact ⟨this.2.2, this.1⟩
theorem writeR_calm (bs : List (List UInt8)) (ps : List (Nat × List UInt8)) (P : PoS) (n : Nat) (f : FrS) (hf : P.fr.getD n fr0 = f) (hb : P.base + f.page < bs.length) (hl : f.pay.length = 4080) :
  writeR none (calmD bs ps) P n = (calmD bs (ps ++ [(P.base + f.page, blockP (stampN P) f.pay)]), { P with fr := P.fr.set n { f with dirty := false }, count := P.count + 1 }, 0) := by
 rw [writeR_at none (calmD bs ps) P n f hf, if_neg (show ¬ (asksE none f.lsn ≠ 0) from fun h => h rfl), writeE_calm bs ps _ hb, if_neg (by decide), writeD_calm bs ps _ _ hb (blockP_len hl)]
section
variable {a b : List UInt8} (ha : a.length = 4080) (hb : b.length = 4080)
theorem aw1 (ha : a.length = 4080) : setR none (newD 10) (newP 2 8 2 1 0) 0 a 1 = (newD 10, aP1 a, 0) := by
 unfold setR setE
 rw [ha]
 rfl
theorem aw2 (hb : b.length = 4080) : setR none (newD 10) (aP1 a) 1 b 2 = (newD 10, aP2 a b, 0) := by
 unfold setR setE
 rw [hb]
 rfl
theorem readZ (k : Nat) (hk : k < 10) : readE (newD 10) (k : Int) = 0 ∧ readL (newD 10) (k : Int) = zer := by
 have hl : k < bs10.length := by unfold bs10; rw [List.length_replicate]; exact hk
 refine ⟨readE_calm bs10 [] k hl, (readL_calm bs10 [] k hl).trans ?_⟩
 unfold lastL bs10
 rw [List.foldl_nil, List.getD_eq_getElem?_getD, List.getElem?_replicate, if_pos hk]
 rfl
set_option maxRecDepth 100000 in
theorem aw3 (ha : a.length = 4080) : getR none (newD 10) (aP2 a b) 2 = (aD1 a, aP3 b, 0) ∧ getL none (newD 10) (aP2 a b) 2 = zP := by
 have h1 := readZ 4 (by omega)
 have h2 := open_zer
 have hw : writeR none (newD 10) ⟨2, 8, 2, 1, 0, [⟨0, a, 1, true, false⟩, ⟨1, b, 2, true, false⟩], 0⟩ 0 = (aD1 a, ⟨2, 8, 2, 1, 1, [⟨0, a, 1, false, false⟩, ⟨1, b, 2, true, false⟩], 0⟩, 0) := by
  have e := writeR_calm bs10 [] ⟨2, 8, 2, 1, 0, [⟨0, a, 1, true, false⟩, ⟨1, b, 2, true, false⟩], 0⟩ 0 ⟨0, a, 1, true, false⟩ rfl (by unfold bs10; rw [List.length_replicate]; show 2 + 0 < 10; decide) ha
  have es : stampN ⟨2, 8, 2, 1, 0, [⟨0, a, 1, true, false⟩, ⟨1, b, 2, true, false⟩], 0⟩ = 4294967296 := by simp [stampN]
  rw [es] at e
  exact e
 have hg : getR none (newD 10) (aP2 a b) 2 = (aD1 a, aP3 b, 0) := by
  unfold getR
  show (if (0 : Int) ≠ 0 then _ else if readE (newD 10) ((4 : Nat) : Int) ≠ 0 then _ else if openE (readL (newD 10) ((4 : Nat) : Int)) ≠ 0 then _ else holdR none (newD 10) (aP2 a b) ⟨2, openP (readL (newD 10) ((4 : Nat) : Int)), 0, false, true⟩) = _
  rw [if_neg (by decide), h1.1, if_neg (by decide), h1.2, h2.1, if_neg (by decide), h2.2]
  unfold holdR
  rw [if_neg (show ¬ ((aP2 a b).fr.length < (aP2 a b).most) by show ¬ (2 < 2); decide)]
  have hs : spun (aP2 a b) = ⟨2, 8, 2, 1, 0, [⟨0, a, 1, true, false⟩, ⟨1, b, 2, true, false⟩], 0⟩ := by simp [spun, aP2, usedN, spinF]
  rw [hs]
  show (if true = true then (if (writeR none (newD 10) ⟨2, 8, 2, 1, 0, [⟨0, a, 1, true, false⟩, ⟨1, b, 2, true, false⟩], 0⟩ 0).2.2 ≠ 0 then _ else ((writeR none (newD 10) ⟨2, 8, 2, 1, 0, [⟨0, a, 1, true, false⟩, ⟨1, b, 2, true, false⟩], 0⟩ 0).1, putP (writeR none (newD 10) ⟨2, 8, 2, 1, 0, [⟨0, a, 1, true, false⟩, ⟨1, b, 2, true, false⟩], 0⟩ 0).2.1 _, 0)) else _) = _
  rw [if_pos rfl, hw]
  refine Eq.trans (if_neg (show ¬ ((0 : Int) ≠ 0) from fun h => h rfl)) ?_
  simp [putP, aP3]
 refine ⟨hg, ?_⟩
 unfold getL
 rw [hg]
 show (if (0 : Int) ≠ 0 then _ else openP (readL (newD 10) ((4 : Nat) : Int))) = _
 rw [if_neg (by decide), h1.2, h2.2]
theorem readA (k : Nat) (hk : k < 10) : readE (aD1 a) (k : Int) = 0 ∧ readL (aD1 a) (k : Int) = if 2 = k then blkA a else zer := by
 have hl : k < bs10.length := by unfold bs10; rw [List.length_replicate]; exact hk
 refine ⟨readE_calm bs10 _ k hl, (readL_calm bs10 _ k hl).trans ?_⟩
 unfold lastL bs10
 rw [List.foldl_cons, List.foldl_nil, List.getD_eq_getElem?_getD, List.getElem?_replicate, if_pos hk]
 rfl
set_option maxRecDepth 100000 in
theorem aw4 (ha : a.length = 4080) (hb : b.length = 4080) : getR none (aD1 a) (aP3 b) 0 = (aD2 a b, aP4 a, 0) ∧ getL none (aD1 a) (aP3 b) 0 = a := by
 have h1 := readA (a := a) 2 (by omega)
 rw [if_pos rfl] at h1
 have h2 := open_blockP 4294967296 a ha
 have hw : writeR none (aD1 a) (aP3 b) 1 = (aD2 a b, ⟨2, 8, 2, 1, 2, [⟨2, zP, 0, false, true⟩, ⟨1, b, 2, false, false⟩], 1⟩, 0) := by
  have e := writeR_calm bs10 [(2, blkA a)] (aP3 b) 1 ⟨1, b, 2, true, false⟩ rfl (by unfold bs10; rw [List.length_replicate]; show 2 + 1 < 10; decide) hb
  have es : stampN (aP3 b) = 4294967297 := by simp [stampN, aP3]
  rw [es] at e
  exact e
 have hg : getR none (aD1 a) (aP3 b) 0 = (aD2 a b, aP4 a, 0) := by
  unfold getR
  show (if (0 : Int) ≠ 0 then _ else if readE (aD1 a) ((2 : Nat) : Int) ≠ 0 then _ else if openE (readL (aD1 a) ((2 : Nat) : Int)) ≠ 0 then _ else holdR none (aD1 a) (aP3 b) ⟨0, openP (readL (aD1 a) ((2 : Nat) : Int)), 0, false, true⟩) = _
  have h3 : openE (blkA a) = 0 := h2.1
  have h4 : openP (blkA a) = a := h2.2
  rw [if_neg (by decide), h1.1, if_neg (by decide), h1.2, h3, if_neg (by decide), h4]
  unfold holdR
  rw [if_neg (show ¬ ((aP3 b).fr.length < (aP3 b).most) by show ¬ (2 < 2); decide)]
  have hs : spun (aP3 b) = aP3 b := rfl
  rw [hs]
  show (if true = true then (if (writeR none (aD1 a) (aP3 b) 1).2.2 ≠ 0 then _ else ((writeR none (aD1 a) (aP3 b) 1).1, putP (writeR none (aD1 a) (aP3 b) 1).2.1 _, 0)) else _) = _
  rw [if_pos rfl, hw]
  refine Eq.trans (if_neg (show ¬ ((0 : Int) ≠ 0) from fun h => h rfl)) ?_
  simp [putP, aP4]
 refine ⟨hg, ?_⟩
 unfold getL
 rw [hg]
 show (if (0 : Int) ≠ 0 then _ else openP (readL (aD1 a) ((2 : Nat) : Int))) = _
 rw [if_neg (by decide), h1.2]
 exact h2.2
end
end Go.Proofs.YtmdgnjmhbjdlmaaGreat

/-! PoO -/
namespace Go.Proofs.YtmdgnjmhbjdlmaaGreat
open Go Go.RowKit Go.Maps
theorem OB.at0 {w : World} {base : Nat} {v : Value} {l : List UInt8} {n : Nat} (h : OB w base v l) (hl : l.length = n) (h0 : 0 < n) : ∃ q c, v = .slice (some ⟨q, 0, none⟩) n c ∧ base ≤ q ∧ q < w.heap.size ∧ n ≤ c ∧ c ≤ maxLen ∧ BR w (some ⟨q, 0, none⟩) n l := by
 subst hl
 obtain ⟨A, c, e, hr, hc, hm⟩ := h.form
 rcases h.2 with ⟨e2, e0⟩ | ⟨g', cap', cur, e2, hb, hg, h1, h2, _⟩
 ·omega
 ·rw [e2] at e
  injection e with e1 _ e3
  subst e1
  refine ⟨g', cap', e2, hb, (Array.getElem?_eq_some_iff.1 hg).1, h1, h2, hr⟩
theorem BR.c0 {w : World} {q n : Nat} {l : List UInt8} (h : BR w (some ⟨q, 0, none⟩) n l) {i : Nat} (hi : i < n) : w.cell? ⟨q, i, none⟩ = some (.int .u8 ((l.getD i 0).toNat : Int)) := by
 obtain ⟨g, o, e, hc⟩ := h.at_ hi
 injection e with e
 injection e with e1 e2
 subst e1 e2
 rw [Nat.zero_add] at hc
 exact hc
theorem bb_br {w : World} {g : Nat} {l : List UInt8} {n : Nat} (h : BB w g l) (hl : l.length = n) : BR w (some ⟨g, 0, none⟩) n l := by
 subst hl
 exact h.readsAll
def MP.by_ (n : Nat) (l : List UInt8) : MP := ⟨fun v w => ∃ A c, v = .slice A n c ∧ BR w A n l, fun _ _ _ hb ⟨A, c, e, h⟩ => ⟨A, c, e, h.below hb⟩⟩
def MP.ir (n : Nat) (l : List Int) : MP := ⟨fun v w => ∃ A c, v = .slice A n c ∧ IR w A n l, fun _ _ _ hb ⟨A, c, e, h⟩ => ⟨A, c, e, h.below hb⟩⟩
theorem blkA_at {a : List UInt8} : (blkA a).getD 0 0 = 0 ∧ (blkA a).getD 4 0 = 1 := ⟨rfl, rfl⟩
theorem blkA_cut {a : List UInt8} (h : a.length = 4080) : ((blkA a).drop 8).take (4088 - 8) = a := by
 unfold blkA blockP
 rw [List.append_assoc, List.drop_left' (leB_length _ _), List.take_left' (by rw [h])]
theorem NewI.ir {w w' : World} {e : Ending} {l : List Nat} (h : NewI w w' e l) : ∃ A c, e = .returned (.slice A l.length c) ∧ IR w' A l.length (intsL l) ∧ Below w.heap.size w w' := by
 obtain ⟨A, c, e1, h1, h2⟩ := h
 exact ⟨A, c, e1, Rd.of_own h1, h2⟩
set_option maxRecDepth 100000 in
set_option maxHeartbeats 8000000 in
theorem awake09_any (w : World) : Calls Tryz.prog 5 #[] w fun e w' => e = .returned (.bool true) ∧ Below w.heap.size w w' := by
 obtain ⟨m1, hm1⟩ : ∃ m, m = madeL 1 4080 := ⟨_, rfl⟩
 obtain ⟨m2, hm2⟩ : ∃ m, m = madeL 2 4080 := ⟨_, rfl⟩
 have l1 : m1.length = 4080 := by rw [hm1]; exact madeL_len _ _
 have l2 : m2.length = 4080 := by rw [hm2]; exact madeL_len _ _
 have L1 := Lib.hid l1
 have L2 := Lib.hid l2
 have HM1 := Lib.hid (fun W => payload_any 1 W)
 have HM2 := Lib.hid (fun W => payload_any 2 W)
 rw [← hm1] at HM1
 rw [← hm2] at HM2
 have A1 := Lib.hid (aw1 l1)
 have A2 := Lib.hid (aw2 (a := m1) l2)
 have A3 := Lib.hid (aw3 (b := m2) l1)
 have A4 := Lib.hid (aw4 l1 l2)
 have hAR := readA (a := m1) 2 (by omega)
 rw [if_pos rfl] at hAR
 have AR : Hid (readE (aD1 m1) 2 = 0 ∧ readL (aD1 m1) 2 = blkA m1) := Lib.hid hAR
 have HSM := Lib.hid (small_any w w (gr_refl w))
 clear hm1 hm2 l1 l2 hAR
 go_enter Tryz.func5, Tryz.ntmps5
 go_wp2_with fail
 refine HSM.out.mono ?_
 rintro e w1 ⟨gd, gp, S1, rfl, hj1, hb1, _⟩
 have HJ1 := Lib.hid hj1
 clear hj1 hb1 HSM
 go_wp2_with fail
 refine (HM1.out w1).mono ?_
 rintro e w2 ⟨rfl, hB2, hb2⟩
 have HS := Lib.hid (Set_pj (HJ1.out.below hb2) 0 1 (some ⟨w1.heap.size, 0, none⟩) 4080 4080 m1 (bb_br hB2 L1.out) (by decide) (Nat.le_of_ble_eq_true rfl) (Nat.le_of_ble_eq_true rfl))
 rw [A1.out] at HS
 dsimp only at HS
 clear hB2 hb2
 go_wp2_with fail
 refine HS.out.mono ?_
 rintro e w3 ⟨S3, rfl, hj3, _⟩
 have HJ3 := Lib.hid hj3
 clear hj3 HS HJ1
 go_wp2_with fail
 refine (HM2.out w3).mono ?_
 rintro e w4 ⟨rfl, hB4, hb4⟩
 have HS := Lib.hid (Set_pj (HJ3.out.below hb4) 1 2 (some ⟨w3.heap.size, 0, none⟩) 4080 4080 m2 (bb_br hB4 L2.out) (by decide) (Nat.le_of_ble_eq_true rfl) (Nat.le_of_ble_eq_true rfl))
 rw [A2.out] at HS
 dsimp only at HS
 clear hB4 hb4
 go_wp2_with fail
 refine HS.out.mono ?_
 rintro e w5 ⟨S5, rfl, hj5, _⟩
 have HG := Lib.hid (Get_pj hj5 2 (Nat.le_of_ble_eq_true rfl) (Nat.le_of_ble_eq_true rfl))
 rw [A3.out.1, A3.out.2] at HG
 dsimp only at HG
 clear hj5 HS HJ3
 go_wp2_with fail
 refine HG.out.mono ?_
 rintro e w6 ⟨v6, S6, rfl, ob6, hj6, _, _⟩
 obtain ⟨q6, c6, rfl, _⟩ := ob6.at0 (n := 4080) (by unfold zP; exact List.length_replicate ..) (by omega)
 have HJ6 := Lib.hid hj6
 have HR := Lib.hid (Read_pj hj6 2 (Nat.le_of_ble_eq_true rfl))
 rw [AR.out.1, AR.out.2] at HR
 clear hj6 ob6 HG
 go_wp2_with fail
 refine HR.out.mono ?_
 rintro e w7 ⟨v7, rfl, ob7, hb7⟩
 obtain ⟨q7, c7, rfl, hq7, hqs7, hc7, hm7, _⟩ := ob7.at0 (n := 4096) (blockP_len L1.out) (by omega)
 have HO7 := Lib.hid ob7
 have HJ7 := Lib.hid (HJ6.out.below hb7)
 have HQ7 := Lib.hid (fun (k : Nat) (e : S6 k) => HJ6.out.lt e)
 have HG := Lib.hid (Get_pj HJ7.out 0 (Nat.le_of_ble_eq_true rfl) (Nat.le_of_ble_eq_true rfl))
 rw [A4.out.1, A4.out.2] at HG
 dsimp only at HG
 clear ob7 hb7 HR HJ6
 go_wp2_with fail
 refine HG.out.mono ?_
 rintro e w8 ⟨v8, S8, rfl, ob8, hj8, hmv8, _⟩
 obtain ⟨q8, c8, rfl, hq8, hqs8, hc8, hm8, hbr8⟩ := ob8.at0 (n := 4080) L1.out (by omega)
 have HJ8 := Lib.hid hj8
 have hob7 := HO7.out.off hmv8.1 (fun k e e2 => by
  have h1 := (HO7.out.lt k e).1
  have h2 := HQ7.out k e2
  omega)
 obtain ⟨q9, c9, e9, _, _, _, _, hbr7⟩ := hob7.at0 (n := 4096) (blockP_len L1.out) (by omega)
 injection e9 with e91 _ e93
 injection e91 with e91
 injection e91 with e91
 subst e91 e93
 have C0 := Lib.hid (hbr7.c0 (i := 0) (by omega))
 have C4 := Lib.hid (hbr7.c0 (i := 4) (by omega))
 rw [blkA_at.1] at C0
 rw [blkA_at.2] at C4
 have HBC : Hid (BR w8 (some ⟨q7, 8, none⟩) 4080 m1) := Lib.hid (by
  have := hbr7.cut (k := 8) (j := 4088) (c := c7) (by omega) (by omega) hc7
  rw [blkA_cut L1.out] at this
  simpa [cutA, add_plain, show ¬ c7 = 8 by omega] using this)
 have HBA := Lib.hid hbr8
 have HH := Lib.hid (fun (W : World) (hW : Below w8.heap.size w8 W) => (Held_pj (HJ8.out.below hW)))
 have HC := Lib.hid (fun (W : World) (hW : Below w8.heap.size w8 W) => (Count_pj (HJ8.out.below hW)))
 obtain ⟨i0, hi0, hz0, hz1, hz2⟩ := info_parts info_u8
 have hcut := fun W => run_cut_lh (P := Tryz.prog) W 57 5 i0 Tryz.underlying57 hi0 1 hz1 (some ⟨q7, 0, none⟩) 4096 c7 8 4088 8 4088 rfl rfl (by omega) (by omega)
 have HCUT := Lib.hid hcut
 have hca : cutA (some ⟨q7, 0, none⟩) c7 8 1 = some ⟨q7, 8, none⟩ := by
  unfold cutA
  rw [if_neg (by omega)]
  simp [add_plain]
 rw [hca] at HCUT
 clear hbr7 hbr8 hob7 hmv8 hj8 ob8 HG HO7 HJ7 hcut hca
 go_upto_region 9 with fail
 refine' wp_region_mono (by kernel_rfl) (by kernel_rfl) (by kernel_rfl) (by kernel_rfl) (by kernel_rfl) (by kernel_rfl)
  [MP.is (.int .i64 0), MP.is (.int .i64 0), MP.is (.int .i64 0), MP.is (.int .i64 0), MP.is (.int .i64 0), MP.is (.int .i64 0), MP.is (.int .i64 0), MP.is (.int .i64 0), MP.is (.int .i64 0), MP.is (.bool true), MP.is (.bool true), MP.is (.slice (some ⟨q7, 0, none⟩) 4096 c7), MP.is (.int .i64 4096), MP.is (.bool true), MP.is (.bool true), MP.is (.bool true), MP.is (.slice (some ⟨q7, 0, none⟩) 4096 c7), MP.is (.pointer (some ⟨q7, 0, none⟩)), MP.is (.int .u8 0), MP.is (.bool true), MP.is (.bool true), MP.is (.bool true), MP.is (.slice (some ⟨q7, 0, none⟩) 4096 c7), MP.is (.pointer (some ⟨q7, 4, none⟩)), MP.is (.int .u8 1), MP.is (.bool true), MP.is (.bool true), MP.is (.bool true), MP.is (.slice (some ⟨q7, 0, none⟩) 4096 c7), MP.is (.slice (some ⟨q7, 8, none⟩) 4080 (c7 - 8)), MP.by_ 4080 m1, MP.is (.bool true), MP.is (.bool true), MP.is (.bool true), MP.is (.slice (some ⟨q8, 0, none⟩) 4080 c8), MP.by_ 4080 m1, MP.is (.bool true), MP.is (.bool true), MP.is (.bool true), MP.is (.pointer (some ⟨gp, 0, none⟩)), MP.ir 2 [0, 2], MP.ir 2 [0, 2], MP.is (.bool true), MP.is (.bool true), MP.is (.bool true), MP.is (.pointer (some ⟨gp, 0, none⟩)), MP.is (.int .i64 2), MP.is (.bool true), MP.is (.bool true), MP.is (.bool true)] ?hAA1 ?hst1 ?hend1
 case hAA1 =>
  intro f
  conv => lhs; simp only [putA, dstOf, List.size_toArray, List.length_cons, List.length_nil, Nat.zero_add, Nat.reduceAdd, List.getElem?_toArray, List.getElem?_cons_zero, List.getElem?_cons_succ, Option.bind_some, Act.put, List.setIfInBounds_toArray, List.set_cons_zero, List.set_cons_succ]
  first | done | exact rfl
 case hst1 =>
  change Steps _ _ _ _ _ [0, 1, 2, 3, 4, 5, 6, 7, 8, 9, 10, 11, 12, 13, 14, 15, 16, 17, 18, 19, 20, 21, 22, 23, 24, 25, 26, 27, 28, 29, 30, 31, 32, 33, 34, 35, 36, 37, 38, 39, 40, 41, 42, 43, 44, 45, 46, 47, 48, 49]
  refine Steps.cons rfl ?_ ?_
  ·intro f wz hB h K Q hK
   clear h
   try simp only [List.getElem_toArray, List.getElem_cons_zero]
   try rw [if_pos (by rfl)]
   go_simp
   exact hK _ _ (gr_refl _) rfl
  refine Steps.cons rfl ?_ ?_
  ·intro f wz hB h K Q hK
   clear h
   try rw [if_pos (by rfl)]
   go_simp
   exact hK _ _ (gr_refl _) rfl
  refine Steps.cons rfl ?_ ?_
  ·intro f wz hB h K Q hK
   have h0 : (MP.is (.int .i64 0)).p (f 0) wz := h 0 (by kernel_rfl)
   have e0 : f 0 = (.int .i64 0) := h0
   have h1 : (MP.is (.int .i64 0)).p (f 1) wz := h 1 (by kernel_rfl)
   have e1 : f 1 = (.int .i64 0) := h1
   simp only [e0, e1] at hK ⊢
   clear e0 e1
   clear h
   try rw [if_pos (by rfl)]
   go_simp
   exact hK _ _ (gr_refl _) rfl
  refine Steps.cons rfl ?_ ?_
  ·intro f wz hB h K Q hK
   clear h
   try rw [if_pos (by rfl)]
   go_simp
   exact hK _ _ (gr_refl _) rfl
  refine Steps.cons rfl ?_ ?_
  ·intro f wz hB h K Q hK
   have h2 : (MP.is (.int .i64 0)).p (f 2) wz := h 2 (by kernel_rfl)
   have e2 : f 2 = (.int .i64 0) := h2
   have h3 : (MP.is (.int .i64 0)).p (f 3) wz := h 3 (by kernel_rfl)
   have e3 : f 3 = (.int .i64 0) := h3
   simp only [e2, e3] at hK ⊢
   clear e2 e3
   clear h
   try rw [if_pos (by rfl)]
   go_simp
   exact hK _ _ (gr_refl _) rfl
  refine Steps.cons rfl ?_ ?_
  ·intro f wz hB h K Q hK
   clear h
   try rw [if_pos (by rfl)]
   go_simp
   exact hK _ _ (gr_refl _) rfl
  refine Steps.cons rfl ?_ ?_
  ·intro f wz hB h K Q hK
   have h4 : (MP.is (.int .i64 0)).p (f 4) wz := h 4 (by kernel_rfl)
   have e4 : f 4 = (.int .i64 0) := h4
   have h5 : (MP.is (.int .i64 0)).p (f 5) wz := h 5 (by kernel_rfl)
   have e5 : f 5 = (.int .i64 0) := h5
   simp only [e4, e5] at hK ⊢
   clear e4 e5
   clear h
   try rw [if_pos (by rfl)]
   go_simp
   exact hK _ _ (gr_refl _) rfl
  refine Steps.cons rfl ?_ ?_
  ·intro f wz hB h K Q hK
   clear h
   try rw [if_pos (by rfl)]
   go_simp
   exact hK _ _ (gr_refl _) rfl
  refine Steps.cons rfl ?_ ?_
  ·intro f wz hB h K Q hK
   have h6 : (MP.is (.int .i64 0)).p (f 6) wz := h 6 (by kernel_rfl)
   have e6 : f 6 = (.int .i64 0) := h6
   have h7 : (MP.is (.int .i64 0)).p (f 7) wz := h 7 (by kernel_rfl)
   have e7 : f 7 = (.int .i64 0) := h7
   simp only [e6, e7] at hK ⊢
   clear e6 e7
   clear h
   try rw [if_pos (by rfl)]
   go_simp
   exact hK _ _ (gr_refl _) rfl
  refine Steps.cons rfl ?_ ?_
  ·intro f wz hB h K Q hK
   have h8 : (MP.is (.int .i64 0)).p (f 8) wz := h 8 (by kernel_rfl)
   have e8 : f 8 = (.int .i64 0) := h8
   simp only [e8] at hK ⊢
   clear e8
   clear h
   try rw [if_pos (by rfl)]
   go_simp
   exact hK _ _ (gr_refl _) rfl
  refine Steps.cons rfl ?_ ?_
  ·intro f wz hB h K Q hK
   have h9 : (MP.is (.bool true)).p (f 9) wz := h 9 (by kernel_rfl)
   have e9 : f 9 = (.bool true) := h9
   simp only [e9] at hK ⊢
   clear e9
   clear h
   try rw [if_pos (by rfl)]
   go_simp
   exact hK _ _ (gr_refl _) rfl
  refine Steps.cons rfl ?_ ?_
  ·intro f wz hB h K Q hK
   have h10 : (MP.is (.bool true)).p (f 10) wz := h 10 (by kernel_rfl)
   have e10 : f 10 = (.bool true) := h10
   simp only [e10] at hK ⊢
   clear e10
   clear h
   try rw [if_pos (by rfl)]
   go_simp
   exact hK _ _ (gr_refl _) rfl
  refine Steps.cons rfl ?_ ?_
  ·intro f wz hB h K Q hK
   have h10 : (MP.is (.bool true)).p (f 10) wz := h 10 (by kernel_rfl)
   have e10 : f 10 = (.bool true) := h10
   have h11 : (MP.is (.slice (some ⟨q7, 0, none⟩) 4096 c7)).p (f 11) wz := h 11 (by kernel_rfl)
   have e11 : f 11 = (.slice (some ⟨q7, 0, none⟩) 4096 c7) := h11
   simp only [e10, e11] at hK ⊢
   clear e10 e11
   clear h
   try rw [if_pos (by rfl)]
   go_simp
   exact hK _ _ (gr_refl _) rfl
  refine Steps.cons rfl ?_ ?_
  ·intro f wz hB h K Q hK
   have h10 : (MP.is (.bool true)).p (f 10) wz := h 10 (by kernel_rfl)
   have e10 : f 10 = (.bool true) := h10
   have h12 : (MP.is (.int .i64 4096)).p (f 12) wz := h 12 (by kernel_rfl)
   have e12 : f 12 = (.int .i64 4096) := h12
   simp only [e10, e12] at hK ⊢
   clear e10 e12
   clear h
   try rw [if_pos (by rfl)]
   go_simp
   exact hK _ _ (gr_refl _) rfl
  refine Steps.cons rfl ?_ ?_
  ·intro f wz hB h K Q hK
   have h10 : (MP.is (.bool true)).p (f 10) wz := h 10 (by kernel_rfl)
   have e10 : f 10 = (.bool true) := h10
   have h13 : (MP.is (.bool true)).p (f 13) wz := h 13 (by kernel_rfl)
   have e13 : f 13 = (.bool true) := h13
   simp only [e10, e13] at hK ⊢
   clear e10 e13
   clear h
   try rw [if_pos (by rfl)]
   go_simp
   exact hK _ _ (gr_refl _) rfl
  refine Steps.cons rfl ?_ ?_
  ·intro f wz hB h K Q hK
   have h14 : (MP.is (.bool true)).p (f 14) wz := h 14 (by kernel_rfl)
   have e14 : f 14 = (.bool true) := h14
   simp only [e14] at hK ⊢
   clear e14
   clear h
   try rw [if_pos (by rfl)]
   go_simp
   exact hK _ _ (gr_refl _) rfl
  refine Steps.cons rfl ?_ ?_
  ·intro f wz hB h K Q hK
   have h15 : (MP.is (.bool true)).p (f 15) wz := h 15 (by kernel_rfl)
   have e15 : f 15 = (.bool true) := h15
   simp only [e15] at hK ⊢
   clear e15
   clear h
   try rw [if_pos (by rfl)]
   go_simp
   exact hK _ _ (gr_refl _) rfl
  refine Steps.cons rfl ?_ ?_
  ·intro f wz hB h K Q hK
   have h15 : (MP.is (.bool true)).p (f 15) wz := h 15 (by kernel_rfl)
   have e15 : f 15 = (.bool true) := h15
   have h16 : (MP.is (.slice (some ⟨q7, 0, none⟩) 4096 c7)).p (f 16) wz := h 16 (by kernel_rfl)
   have e16 : f 16 = (.slice (some ⟨q7, 0, none⟩) 4096 c7) := h16
   simp only [e15, e16] at hK ⊢
   clear e15 e16
   clear h
   try rw [if_pos (by rfl)]
   go_simp
   exact hK _ _ (gr_refl _) rfl
  refine Steps.cons rfl ?_ ?_
  ·intro f wz hB h K Q hK
   have h15 : (MP.is (.bool true)).p (f 15) wz := h 15 (by kernel_rfl)
   have e15 : f 15 = (.bool true) := h15
   have h17 : (MP.is (.pointer (some ⟨q7, 0, none⟩))).p (f 17) wz := h 17 (by kernel_rfl)
   have e17 : f 17 = (.pointer (some ⟨q7, 0, none⟩)) := h17
   simp only [e15, e17] at hK ⊢
   clear e15 e17
   clear h
   try rw [if_pos (by rfl)]
   have y0 := keep_of_below (bel_drew hB) C0.out
   have y1 := keep_of_below (bel_drew hB) C4.out
   go_simp
   exact hK _ _ (gr_refl _) rfl
  refine Steps.cons rfl ?_ ?_
  ·intro f wz hB h K Q hK
   have h15 : (MP.is (.bool true)).p (f 15) wz := h 15 (by kernel_rfl)
   have e15 : f 15 = (.bool true) := h15
   have h18 : (MP.is (.int .u8 0)).p (f 18) wz := h 18 (by kernel_rfl)
   have e18 : f 18 = (.int .u8 0) := h18
   simp only [e15, e18] at hK ⊢
   clear e15 e18
   clear h
   try rw [if_pos (by rfl)]
   go_simp
   exact hK _ _ (gr_refl _) rfl
  refine Steps.cons rfl ?_ ?_
  ·intro f wz hB h K Q hK
   have h15 : (MP.is (.bool true)).p (f 15) wz := h 15 (by kernel_rfl)
   have e15 : f 15 = (.bool true) := h15
   have h19 : (MP.is (.bool true)).p (f 19) wz := h 19 (by kernel_rfl)
   have e19 : f 19 = (.bool true) := h19
   simp only [e15, e19] at hK ⊢
   clear e15 e19
   clear h
   try rw [if_pos (by rfl)]
   go_simp
   exact hK _ _ (gr_refl _) rfl
  refine Steps.cons rfl ?_ ?_
  ·intro f wz hB h K Q hK
   have h20 : (MP.is (.bool true)).p (f 20) wz := h 20 (by kernel_rfl)
   have e20 : f 20 = (.bool true) := h20
   simp only [e20] at hK ⊢
   clear e20
   clear h
   try rw [if_pos (by rfl)]
   go_simp
   exact hK _ _ (gr_refl _) rfl
  refine Steps.cons rfl ?_ ?_
  ·intro f wz hB h K Q hK
   have h21 : (MP.is (.bool true)).p (f 21) wz := h 21 (by kernel_rfl)
   have e21 : f 21 = (.bool true) := h21
   simp only [e21] at hK ⊢
   clear e21
   clear h
   try rw [if_pos (by rfl)]
   go_simp
   exact hK _ _ (gr_refl _) rfl
  refine Steps.cons rfl ?_ ?_
  ·intro f wz hB h K Q hK
   have h21 : (MP.is (.bool true)).p (f 21) wz := h 21 (by kernel_rfl)
   have e21 : f 21 = (.bool true) := h21
   have h22 : (MP.is (.slice (some ⟨q7, 0, none⟩) 4096 c7)).p (f 22) wz := h 22 (by kernel_rfl)
   have e22 : f 22 = (.slice (some ⟨q7, 0, none⟩) 4096 c7) := h22
   simp only [e21, e22] at hK ⊢
   clear e21 e22
   clear h
   try rw [if_pos (by rfl)]
   go_simp
   exact hK _ _ (gr_refl _) rfl
  refine Steps.cons rfl ?_ ?_
  ·intro f wz hB h K Q hK
   have h21 : (MP.is (.bool true)).p (f 21) wz := h 21 (by kernel_rfl)
   have e21 : f 21 = (.bool true) := h21
   have h23 : (MP.is (.pointer (some ⟨q7, 4, none⟩))).p (f 23) wz := h 23 (by kernel_rfl)
   have e23 : f 23 = (.pointer (some ⟨q7, 4, none⟩)) := h23
   simp only [e21, e23] at hK ⊢
   clear e21 e23
   clear h
   try rw [if_pos (by rfl)]
   have y0 := keep_of_below (bel_drew hB) C0.out
   have y1 := keep_of_below (bel_drew hB) C4.out
   go_simp
   exact hK _ _ (gr_refl _) rfl
  refine Steps.cons rfl ?_ ?_
  ·intro f wz hB h K Q hK
   have h21 : (MP.is (.bool true)).p (f 21) wz := h 21 (by kernel_rfl)
   have e21 : f 21 = (.bool true) := h21
   have h24 : (MP.is (.int .u8 1)).p (f 24) wz := h 24 (by kernel_rfl)
   have e24 : f 24 = (.int .u8 1) := h24
   simp only [e21, e24] at hK ⊢
   clear e21 e24
   clear h
   try rw [if_pos (by rfl)]
   go_simp
   exact hK _ _ (gr_refl _) rfl
  refine Steps.cons rfl ?_ ?_
  ·intro f wz hB h K Q hK
   have h21 : (MP.is (.bool true)).p (f 21) wz := h 21 (by kernel_rfl)
   have e21 : f 21 = (.bool true) := h21
   have h25 : (MP.is (.bool true)).p (f 25) wz := h 25 (by kernel_rfl)
   have e25 : f 25 = (.bool true) := h25
   simp only [e21, e25] at hK ⊢
   clear e21 e25
   clear h
   try rw [if_pos (by rfl)]
   go_simp
   exact hK _ _ (gr_refl _) rfl
  refine Steps.cons rfl ?_ ?_
  ·intro f wz hB h K Q hK
   have h26 : (MP.is (.bool true)).p (f 26) wz := h 26 (by kernel_rfl)
   have e26 : f 26 = (.bool true) := h26
   simp only [e26] at hK ⊢
   clear e26
   clear h
   try rw [if_pos (by rfl)]
   go_simp
   exact hK _ _ (gr_refl _) rfl
  refine Steps.cons rfl ?_ ?_
  ·intro f wz hB h K Q hK
   have h27 : (MP.is (.bool true)).p (f 27) wz := h 27 (by kernel_rfl)
   have e27 : f 27 = (.bool true) := h27
   simp only [e27] at hK ⊢
   clear e27
   clear h
   try rw [if_pos (by rfl)]
   go_simp
   exact hK _ _ (gr_refl _) rfl
  refine Steps.cons rfl ?_ ?_
  ·intro f wz hB h K Q hK
   have h27 : (MP.is (.bool true)).p (f 27) wz := h 27 (by kernel_rfl)
   have e27 : f 27 = (.bool true) := h27
   have h28 : (MP.is (.slice (some ⟨q7, 0, none⟩) 4096 c7)).p (f 28) wz := h 28 (by kernel_rfl)
   have e28 : f 28 = (.slice (some ⟨q7, 0, none⟩) 4096 c7) := h28
   simp only [e27, e28] at hK ⊢
   clear e27 e28
   clear h
   try rw [if_pos (by rfl)]
   have yc := HCUT.out
   go_simp
   exact hK _ _ (gr_refl _) rfl
  refine Steps.cons rfl ?_ ?_
  ·intro f wz hB h K Q hK
   have h27 : (MP.is (.bool true)).p (f 27) wz := h 27 (by kernel_rfl)
   have e27 : f 27 = (.bool true) := h27
   simp only [e27] at hK ⊢
   clear e27
   clear h
   try rw [if_pos (by rfl)]
   go_simp
   refine (HM1.out _).mono ?_
   rintro e w5 ⟨rfl, hB5, hb5⟩
   exact hK _ _ hb5 ⟨_, 4080, rfl, bb_br hB5 L1.out⟩
  refine Steps.cons rfl ?_ ?_
  ·intro f wz hB h K Q hK
   have h27 : (MP.is (.bool true)).p (f 27) wz := h 27 (by kernel_rfl)
   have e27 : f 27 = (.bool true) := h27
   have h29 : (MP.is (.slice (some ⟨q7, 8, none⟩) 4080 (c7 - 8))).p (f 29) wz := h 29 (by kernel_rfl)
   have e29 : f 29 = (.slice (some ⟨q7, 8, none⟩) 4080 (c7 - 8)) := h29
   have h30 : (MP.by_ 4080 m1).p (f 30) wz := h 30 (by kernel_rfl)
   obtain ⟨A30, c30, e30, q30⟩ := h30
   simp only [e27, e29, e30] at hK ⊢
   clear e27 e29 e30
   clear h
   try rw [if_pos (by rfl)]
   go_simp
   refine (SameBytes_any _ _ _ _ _ _ m1 m1 wz (HBC.out.below (bel_drew hB)) q30).mono ?_
   rintro e w5 ⟨rfl, rfl⟩
   rw [beq_self_eq_true]
   exact hK _ _ (gr_refl _) rfl
  refine Steps.cons rfl ?_ ?_
  ·intro f wz hB h K Q hK
   have h27 : (MP.is (.bool true)).p (f 27) wz := h 27 (by kernel_rfl)
   have e27 : f 27 = (.bool true) := h27
   have h31 : (MP.is (.bool true)).p (f 31) wz := h 31 (by kernel_rfl)
   have e31 : f 31 = (.bool true) := h31
   simp only [e27, e31] at hK ⊢
   clear e27 e31
   clear h
   try rw [if_pos (by rfl)]
   go_simp
   exact hK _ _ (gr_refl _) rfl
  refine Steps.cons rfl ?_ ?_
  ·intro f wz hB h K Q hK
   have h32 : (MP.is (.bool true)).p (f 32) wz := h 32 (by kernel_rfl)
   have e32 : f 32 = (.bool true) := h32
   simp only [e32] at hK ⊢
   clear e32
   clear h
   try rw [if_pos (by rfl)]
   go_simp
   exact hK _ _ (gr_refl _) rfl
  refine Steps.cons rfl ?_ ?_
  ·intro f wz hB h K Q hK
   have h33 : (MP.is (.bool true)).p (f 33) wz := h 33 (by kernel_rfl)
   have e33 : f 33 = (.bool true) := h33
   simp only [e33] at hK ⊢
   clear e33
   clear h
   try rw [if_pos (by rfl)]
   go_simp
   exact hK _ _ (gr_refl _) rfl
  refine Steps.cons rfl ?_ ?_
  ·intro f wz hB h K Q hK
   have h33 : (MP.is (.bool true)).p (f 33) wz := h 33 (by kernel_rfl)
   have e33 : f 33 = (.bool true) := h33
   simp only [e33] at hK ⊢
   clear e33
   clear h
   try rw [if_pos (by rfl)]
   go_simp
   refine (HM1.out _).mono ?_
   rintro e w5 ⟨rfl, hB5, hb5⟩
   exact hK _ _ hb5 ⟨_, 4080, rfl, bb_br hB5 L1.out⟩
  refine Steps.cons rfl ?_ ?_
  ·intro f wz hB h K Q hK
   have h33 : (MP.is (.bool true)).p (f 33) wz := h 33 (by kernel_rfl)
   have e33 : f 33 = (.bool true) := h33
   have h34 : (MP.is (.slice (some ⟨q8, 0, none⟩) 4080 c8)).p (f 34) wz := h 34 (by kernel_rfl)
   have e34 : f 34 = (.slice (some ⟨q8, 0, none⟩) 4080 c8) := h34
   have h35 : (MP.by_ 4080 m1).p (f 35) wz := h 35 (by kernel_rfl)
   obtain ⟨A35, c35, e35, q35⟩ := h35
   simp only [e33, e34, e35] at hK ⊢
   clear e33 e34 e35
   clear h
   try rw [if_pos (by rfl)]
   go_simp
   refine (SameBytes_any _ _ _ _ _ _ m1 m1 wz (HBA.out.below (bel_drew hB)) q35).mono ?_
   rintro e w5 ⟨rfl, rfl⟩
   rw [beq_self_eq_true]
   exact hK _ _ (gr_refl _) rfl
  refine Steps.cons rfl ?_ ?_
  ·intro f wz hB h K Q hK
   have h33 : (MP.is (.bool true)).p (f 33) wz := h 33 (by kernel_rfl)
   have e33 : f 33 = (.bool true) := h33
   have h36 : (MP.is (.bool true)).p (f 36) wz := h 36 (by kernel_rfl)
   have e36 : f 36 = (.bool true) := h36
   simp only [e33, e36] at hK ⊢
   clear e33 e36
   clear h
   try rw [if_pos (by rfl)]
   go_simp
   exact hK _ _ (gr_refl _) rfl
  refine Steps.cons rfl ?_ ?_
  ·intro f wz hB h K Q hK
   have h37 : (MP.is (.bool true)).p (f 37) wz := h 37 (by kernel_rfl)
   have e37 : f 37 = (.bool true) := h37
   simp only [e37] at hK ⊢
   clear e37
   clear h
   try rw [if_pos (by rfl)]
   go_simp
   exact hK _ _ (gr_refl _) rfl
  refine Steps.cons rfl ?_ ?_
  ·intro f wz hB h K Q hK
   have h38 : (MP.is (.bool true)).p (f 38) wz := h 38 (by kernel_rfl)
   have e38 : f 38 = (.bool true) := h38
   simp only [e38] at hK ⊢
   clear e38
   clear h
   try rw [if_pos (by rfl)]
   go_simp
   exact hK _ _ (gr_refl _) rfl
  refine Steps.cons rfl ?_ ?_
  ·intro f wz hB h K Q hK
   have h38 : (MP.is (.bool true)).p (f 38) wz := h 38 (by kernel_rfl)
   have e38 : f 38 = (.bool true) := h38
   have h39 : (MP.is (.pointer (some ⟨gp, 0, none⟩))).p (f 39) wz := h 39 (by kernel_rfl)
   have e39 : f 39 = (.pointer (some ⟨gp, 0, none⟩)) := h39
   simp only [e38, e39] at hK ⊢
   clear e38 e39
   clear h
   try rw [if_pos (by rfl)]
   go_simp
   refine (HH.out _ (bel_drew hB)).mono ?_
   intro e w5 hn
   obtain ⟨A5, c5, rfl, hi5, hb5⟩ := hn.ir
   exact hK _ _ hb5 ⟨A5, c5, rfl, hi5⟩
  refine Steps.cons rfl ?_ ?_
  ·intro f wz hB h K Q hK
   have h38 : (MP.is (.bool true)).p (f 38) wz := h 38 (by kernel_rfl)
   have e38 : f 38 = (.bool true) := h38
   simp only [e38] at hK ⊢
   clear e38
   clear h
   try rw [if_pos (by rfl)]
   go_simp
   have hbn := gr_alloc (gr_refl wz) (.cells #[.int .i64 0, .int .i64 2] 3)
   exact hK _ _ hbn ⟨_, 2, rfl, IR.litAt _ _ [0, 2] _ _ 2 rfl rfl rfl⟩
  refine Steps.cons rfl ?_ ?_
  ·intro f wz hB h K Q hK
   have h38 : (MP.is (.bool true)).p (f 38) wz := h 38 (by kernel_rfl)
   have e38 : f 38 = (.bool true) := h38
   have h40 : (MP.ir 2 [0, 2]).p (f 40) wz := h 40 (by kernel_rfl)
   obtain ⟨A40, c40, e40, q40⟩ := h40
   have h41 : (MP.ir 2 [0, 2]).p (f 41) wz := h 41 (by kernel_rfl)
   obtain ⟨A41, c41, e41, q41⟩ := h41
   simp only [e38, e40, e41] at hK ⊢
   clear e38 e40 e41
   clear h
   try rw [if_pos (by rfl)]
   go_simp
   refine (SameInts_any _ _ _ _ _ _ [0, 2] [0, 2] wz q40 q41 (by omega) (by omega)).mono ?_
   rintro e w5 ⟨rfl, hb5⟩
   exact hK _ _ hb5 rfl
  refine Steps.cons rfl ?_ ?_
  ·intro f wz hB h K Q hK
   have h38 : (MP.is (.bool true)).p (f 38) wz := h 38 (by kernel_rfl)
   have e38 : f 38 = (.bool true) := h38
   have h42 : (MP.is (.bool true)).p (f 42) wz := h 42 (by kernel_rfl)
   have e42 : f 42 = (.bool true) := h42
   simp only [e38, e42] at hK ⊢
   clear e38 e42
   clear h
   try rw [if_pos (by rfl)]
   go_simp
   exact hK _ _ (gr_refl _) rfl
  refine Steps.cons rfl ?_ ?_
  ·intro f wz hB h K Q hK
   have h43 : (MP.is (.bool true)).p (f 43) wz := h 43 (by kernel_rfl)
   have e43 : f 43 = (.bool true) := h43
   simp only [e43] at hK ⊢
   clear e43
   clear h
   try rw [if_pos (by rfl)]
   go_simp
   exact hK _ _ (gr_refl _) rfl
  refine Steps.cons rfl ?_ ?_
  ·intro f wz hB h K Q hK
   have h44 : (MP.is (.bool true)).p (f 44) wz := h 44 (by kernel_rfl)
   have e44 : f 44 = (.bool true) := h44
   simp only [e44] at hK ⊢
   clear e44
   clear h
   try rw [if_pos (by rfl)]
   go_simp
   exact hK _ _ (gr_refl _) rfl
  refine Steps.cons rfl ?_ ?_
  ·intro f wz hB h K Q hK
   have h44 : (MP.is (.bool true)).p (f 44) wz := h 44 (by kernel_rfl)
   have e44 : f 44 = (.bool true) := h44
   have h45 : (MP.is (.pointer (some ⟨gp, 0, none⟩))).p (f 45) wz := h 45 (by kernel_rfl)
   have e45 : f 45 = (.pointer (some ⟨gp, 0, none⟩)) := h45
   simp only [e44, e45] at hK ⊢
   clear e44 e45
   clear h
   try rw [if_pos (by rfl)]
   go_simp
   refine (HC.out _ (bel_drew hB)).mono ?_
   rintro e w5 ⟨rfl, rfl⟩
   exact hK _ _ (gr_refl _) rfl
  refine Steps.cons rfl ?_ ?_
  ·intro f wz hB h K Q hK
   have h44 : (MP.is (.bool true)).p (f 44) wz := h 44 (by kernel_rfl)
   have e44 : f 44 = (.bool true) := h44
   have h46 : (MP.is (.int .i64 2)).p (f 46) wz := h 46 (by kernel_rfl)
   have e46 : f 46 = (.int .i64 2) := h46
   simp only [e44, e46] at hK ⊢
   clear e44 e46
   clear h
   try rw [if_pos (by rfl)]
   go_simp
   exact hK _ _ (gr_refl _) rfl
  refine Steps.cons rfl ?_ ?_
  ·intro f wz hB h K Q hK
   have h44 : (MP.is (.bool true)).p (f 44) wz := h 44 (by kernel_rfl)
   have e44 : f 44 = (.bool true) := h44
   have h47 : (MP.is (.bool true)).p (f 47) wz := h 47 (by kernel_rfl)
   have e47 : f 47 = (.bool true) := h47
   simp only [e44, e47] at hK ⊢
   clear e44 e47
   clear h
   try rw [if_pos (by rfl)]
   go_simp
   exact hK _ _ (gr_refl _) rfl
  refine Steps.cons rfl ?_ ?_
  ·intro f wz hB h K Q hK
   have h48 : (MP.is (.bool true)).p (f 48) wz := h 48 (by kernel_rfl)
   have e48 : f 48 = (.bool true) := h48
   simp only [e48] at hK ⊢
   clear e48
   clear h
   try rw [if_pos (by rfl)]
   go_simp
   exact hK _ _ (gr_refl _) rfl
  exact Steps.nil
 intro f w10 hB10 hR
 have e0 : f 0 = (.int .i64 0) := hR 0 (by decide)
 have e1 : f 1 = (.int .i64 0) := hR 1 (by decide)
 have e2 : f 2 = (.int .i64 0) := hR 2 (by decide)
 have e3 : f 3 = (.int .i64 0) := hR 3 (by decide)
 have e4 : f 4 = (.int .i64 0) := hR 4 (by decide)
 have e5 : f 5 = (.int .i64 0) := hR 5 (by decide)
 have e6 : f 6 = (.int .i64 0) := hR 6 (by decide)
 have e7 : f 7 = (.int .i64 0) := hR 7 (by decide)
 have e8 : f 8 = (.int .i64 0) := hR 8 (by decide)
 have e9 : f 9 = (.bool true) := hR 9 (by decide)
 have e10 : f 10 = (.bool true) := hR 10 (by decide)
 have e11 : f 11 = (.slice (some ⟨q7, 0, none⟩) 4096 c7) := hR 11 (by decide)
 have e12 : f 12 = (.int .i64 4096) := hR 12 (by decide)
 have e13 : f 13 = (.bool true) := hR 13 (by decide)
 have e14 : f 14 = (.bool true) := hR 14 (by decide)
 have e15 : f 15 = (.bool true) := hR 15 (by decide)
 have e16 : f 16 = (.slice (some ⟨q7, 0, none⟩) 4096 c7) := hR 16 (by decide)
 have e17 : f 17 = (.pointer (some ⟨q7, 0, none⟩)) := hR 17 (by decide)
 have e18 : f 18 = (.int .u8 0) := hR 18 (by decide)
 have e19 : f 19 = (.bool true) := hR 19 (by decide)
 have e20 : f 20 = (.bool true) := hR 20 (by decide)
 have e21 : f 21 = (.bool true) := hR 21 (by decide)
 have e22 : f 22 = (.slice (some ⟨q7, 0, none⟩) 4096 c7) := hR 22 (by decide)
 have e23 : f 23 = (.pointer (some ⟨q7, 4, none⟩)) := hR 23 (by decide)
 have e24 : f 24 = (.int .u8 1) := hR 24 (by decide)
 have e25 : f 25 = (.bool true) := hR 25 (by decide)
 have e26 : f 26 = (.bool true) := hR 26 (by decide)
 have e27 : f 27 = (.bool true) := hR 27 (by decide)
 have e28 : f 28 = (.slice (some ⟨q7, 0, none⟩) 4096 c7) := hR 28 (by decide)
 have e29 : f 29 = (.slice (some ⟨q7, 8, none⟩) 4080 (c7 - 8)) := hR 29 (by decide)
 obtain ⟨A3010, c3010, e30, q3010⟩ := (show (MP.by_ 4080 m1).p (f 30) w10 from hR 30 (by decide))
 have e31 : f 31 = (.bool true) := hR 31 (by decide)
 have e32 : f 32 = (.bool true) := hR 32 (by decide)
 have e33 : f 33 = (.bool true) := hR 33 (by decide)
 have e34 : f 34 = (.slice (some ⟨q8, 0, none⟩) 4080 c8) := hR 34 (by decide)
 obtain ⟨A3510, c3510, e35, q3510⟩ := (show (MP.by_ 4080 m1).p (f 35) w10 from hR 35 (by decide))
 have e36 : f 36 = (.bool true) := hR 36 (by decide)
 have e37 : f 37 = (.bool true) := hR 37 (by decide)
 have e38 : f 38 = (.bool true) := hR 38 (by decide)
 have e39 : f 39 = (.pointer (some ⟨gp, 0, none⟩)) := hR 39 (by decide)
 obtain ⟨A4010, c4010, e40, q4010⟩ := (show (MP.ir 2 [0, 2]).p (f 40) w10 from hR 40 (by decide))
 obtain ⟨A4110, c4110, e41, q4110⟩ := (show (MP.ir 2 [0, 2]).p (f 41) w10 from hR 41 (by decide))
 have e42 : f 42 = (.bool true) := hR 42 (by decide)
 have e43 : f 43 = (.bool true) := hR 43 (by decide)
 have e44 : f 44 = (.bool true) := hR 44 (by decide)
 have e45 : f 45 = (.pointer (some ⟨gp, 0, none⟩)) := hR 45 (by decide)
 have e46 : f 46 = (.int .i64 2) := hR 46 (by decide)
 have e47 : f 47 = (.bool true) := hR 47 (by decide)
 have e48 : f 48 = (.bool true) := hR 48 (by decide)
 have e49 : f 49 = (.bool true) := hR 49 (by decide)
 simp only [e0, e1, e2, e3, e4, e5, e6, e7, e8, e9, e10, e11, e12, e13, e14, e15, e16, e17, e18, e19, e20, e21, e22, e23, e24, e25, e26, e27, e28, e29, e30, e31, e32, e33, e34, e35, e36, e37, e38, e39, e40, e41, e42, e43, e44, e45, e46, e47, e48, e49]
 clear e0 e1 e2 e3 e4 e5 e6 e7 e8 e9 e10 e11 e12 e13 e14 e15 e16 e17 e18 e19 e20 e21 e22 e23 e24 e25 e26 e27 e28 e29 e30 e31 e32 e33 e34 e35 e36 e37 e38 e39 e40 e41 e42 e43 e44 e45 e46 e47 e48 e49 hR
 go_wp2_with fail
 go_ret
 exact ⟨rfl, HJ8.out.bel.trans ((Below.trans (gr_drewN (gr_refl w8) 1) hB10).mono HJ8.out.bel.size)⟩
end Go.Proofs.YtmdgnjmhbjdlmaaGreat

/-! DpA -/
namespace Go.Proofs.YtmdgnjmhbjdlmaaGreat
open Go.RowKit
def RdG (G : Nat → Prop) (w : World) (size : Nat) (A : Option Addr) (n : Nat) (xs : List Value) : Prop := Proofs.YtmdgnjmhbjdlmaaGreat.Rd w size A n xs ∧ ∀ ad, A = some ad → 0 < n → G ad.block
def VG (G : Nat → Prop) (w : World) (u : Value) (l : List UInt8) : Prop := l.length = 4096 ∧ ∃ A c, u = .slice A 4096 c ∧ BR w A 4096 l ∧ (∀ ad, A = some ad → G ad.block) ∧ 4096 ≤ c ∧ c ≤ maxLen
section
variable {G G' : Nat → Prop} {w w' : World}
theorem RdG.off {S : Nat → Prop} {size n : Nat} {A : Option Addr} {xs : List Value} (h : RdG G w size A n xs) (ho : Off S w w') (hS : ∀ k, S k → ¬ G k) : RdG G w' size A n xs :=
 ⟨h.1.off ho (fun ad e h0 hs => hS _ hs (h.2 ad e h0)), h.2⟩
theorem VG.off {S : Nat → Prop} {u : Value} {l : List UInt8} (h : VG G w u l) (ho : Off S w w') (hS : ∀ k, S k → ¬ G k) : VG G w' u l := by
 obtain ⟨h0, A, c, e, h1, h2, h3⟩ := h
 exact ⟨h0, A, c, e, Rd.off h1 ho (fun ad e _ hs => hS _ hs (h2 ad e)), h2, h3⟩
theorem RdG.mono {size n : Nat} {A : Option Addr} {xs : List Value} (h : RdG G w size A n xs) (hG : ∀ k, G k → G' k) : RdG G' w size A n xs := ⟨h.1, fun ad e h0 => hG _ (h.2 ad e h0)⟩
theorem VG.mono {u : Value} {l : List UInt8} (h : VG G w u l) (hG : ∀ k, G k → G' k) : VG G' w u l := by
 obtain ⟨h0, A, c, e, h1, h2, h3⟩ := h
 exact ⟨h0, A, c, e, h1, fun ad e => hG _ (h2 ad e), h3⟩
end
structure RKd (G : Nat → Prop) (w : World) (bA : Option Addr) (bus : List Value) (wA : Option Addr) (wus : List (Int × Value)) (D : DiskS) : Prop where
 br : RdG G w 1 bA D.blocks.length bus
 bv : ∀ (i : Nat) (u : Value) (l : List UInt8), bus[i]? = some u → D.blocks[i]? = some l → VG G w u l
 wr : RdG G w 2 wA D.pending.length (wrs wus)
 wv : ∀ (i : Nat) (q : Int × Value) (p : Nat × List UInt8), wus[i]? = some q → D.pending[i]? = some p → q.1 = (p.1 : Int) ∧ p.1 < D.blocks.length ∧ VG G w q.2 p.2
 wl : wus.length = D.pending.length
def RK (G : Nat → Prop) (w : World) (v : Value) (D : DiskS) : Prop :=
 ∃ bA bc wA wc bus wus, v = .agg #[.slice bA D.blocks.length bc, .slice wA D.pending.length wc, .bool D.down, .int .i64 D.power, .int .i64 D.fault, .int .i64 D.wi] ∧ D.blocks.length ≤ bc ∧ bc ≤ maxLen ∧ D.pending.length ≤ wc ∧ wc ≤ maxLen ∧ RKd G w bA bus wA wus D
section
variable {G G' : Nat → Prop} {w w' : World} {bA wA : Option Addr} {bus : List Value} {wus : List (Int × Value)} {v : Value} {D : DiskS}
theorem RKd.off {S : Nat → Prop} (h : RKd G w bA bus wA wus D) (ho : Off S w w') (hS : ∀ k, S k → ¬ G k) : RKd G w' bA bus wA wus D :=
 ⟨h.br.off ho hS, fun i u l h1 h2 => (h.bv i u l h1 h2).off ho hS, h.wr.off ho hS, fun i q p h1 h2 => ⟨(h.wv i q p h1 h2).1, (h.wv i q p h1 h2).2.1, (h.wv i q p h1 h2).2.2.off ho hS⟩, h.wl⟩
theorem RKd.below (h : RKd G w bA bus wA wus D) (hb : Below w.heap.size w w') : RKd G w' bA bus wA wus D := h.off (S := fun _ => False) (Off.of_below hb) (fun _ h => h.elim)
theorem RKd.mono (h : RKd G w bA bus wA wus D) (hG : ∀ k, G k → G' k) : RKd G' w bA bus wA wus D :=
 ⟨h.br.mono hG, fun i u l h1 h2 => (h.bv i u l h1 h2).mono hG, h.wr.mono hG, fun i q p h1 h2 => ⟨(h.wv i q p h1 h2).1, (h.wv i q p h1 h2).2.1, (h.wv i q p h1 h2).2.2.mono hG⟩, h.wl⟩
theorem RK.off {S : Nat → Prop} (h : RK G w v D) (ho : Off S w w') (hS : ∀ k, S k → ¬ G k) : RK G w' v D := by
 obtain ⟨bA, bc, wA, wc, bus, wus, e, h1, h2, h3, h4, hd⟩ := h
 exact ⟨bA, bc, wA, wc, bus, wus, e, h1, h2, h3, h4, hd.off ho hS⟩
theorem RK.below (h : RK G w v D) (hb : Below w.heap.size w w') : RK G w' v D := h.off (S := fun _ => False) (Off.of_below hb) (fun _ h => h.elim)
theorem RK.mono (h : RK G w v D) (hG : ∀ k, G k → G' k) : RK G' w v D := by
 obtain ⟨bA, bc, wA, wc, bus, wus, e, h1, h2, h3, h4, hd⟩ := h
 exact ⟨bA, bc, wA, wc, bus, wus, e, h1, h2, h3, h4, hd.mono hG⟩
theorem RKd.bat (h : RKd G w bA bus wA wus D) {i : Nat} (hi : i < D.blocks.length) : ∃ g o u, bA = some ⟨g, o, none⟩ ∧ w.cell? ⟨g, o + i, none⟩ = some u ∧ VG G w u (D.blocks.getD i []) := by
 obtain ⟨g, o, e, hc⟩ := Proofs.YtmdgnjmhbjdlmaaGreat.Rd.plain h.br.1 (by omega) (by omega)
 have hl := h.br.1.1
 have hb : bus[i]? = some (bus[i]'(by omega)) := List.getElem?_eq_getElem (by omega)
 exact ⟨g, o, _, e, hc i _ hb, h.bv i _ _ hb (by simp [List.getD, List.getElem?_eq_getElem hi])⟩
theorem RKd.wat (h : RKd G w bA bus wA wus D) {i : Nat} (hi : i < D.pending.length) : ∃ g o u, wA = some ⟨g, o, none⟩ ∧ w.cell? ⟨g, o + i * 2, none⟩ = some (.int .i64 (((D.pending.getD i (0, [])).1 : Nat) : Int)) ∧ w.cell? ⟨g, o + i * 2 + 1, none⟩ = some u ∧ VG G w u (D.pending.getD i (0, [])).2 ∧ (D.pending.getD i (0, [])).1 < D.blocks.length := by
 obtain ⟨g, o, e, hc⟩ := Proofs.YtmdgnjmhbjdlmaaGreat.Rd.plain h.wr.1 (by omega) (by omega)
 have hl := h.wl
 have hu : wus[i]? = some (wus[i]'(by omega)) := List.getElem?_eq_getElem (by omega)
 have hp : D.pending[i]? = some (D.pending.getD i (0, [])) := by simp [List.getD, List.getElem?_eq_getElem hi]
 obtain ⟨a1, a2, a3⟩ := h.wv i _ _ hu hp
 obtain ⟨c1, c2⟩ := wrs_at wus i _ hu
 have z1 := hc _ _ c1
 have z2 := hc _ _ c2
 rw [a1] at z1
 exact ⟨g, o, _, e, z1, z2, a3, a2⟩
end
def plusG (G : Nat → Prop) (w w' : World) (k : Nat) : Prop := G k ∨ (w.heap.size ≤ k ∧ k < w'.heap.size)
end Go.Proofs.YtmdgnjmhbjdlmaaGreat

/-! DpB -/
namespace Go.Proofs.YtmdgnjmhbjdlmaaGreat
open Go.RowKit
def B6 (w : World) (g : Nat) (x0 x1 x2 x3 x4 x5 : Value) : Prop := w.heap[g]? = some (.cells #[x0, x1, x2, x3, x4, x5] 33 (0, 0))
section
variable {w w' : World} {g : Nat} {x0 x1 x2 x3 x4 x5 : Value}
theorem B6.new (w : World) (x0 x1 x2 x3 x4 x5 : Value) : B6 (w.alloc (.cells #[x0, x1, x2, x3, x4, x5] 33)) w.heap.size x0 x1 x2 x3 x4 x5 := heap_alloc_new w _
theorem B6.below (h : B6 w g x0 x1 x2 x3 x4 x5) (hb : Below w.heap.size w w') : B6 w' g x0 x1 x2 x3 x4 x5 := (hb.block _ (Array.getElem?_eq_some_iff.1 h).1).trans h
theorem B6.c0 (h : B6 w g x0 x1 x2 x3 x4 x5) : w.cell? ⟨g, 0, none⟩ = some x0 := by rw [cell_of_row w g 0 _ _ _ h]; rfl
theorem B6.c1 (h : B6 w g x0 x1 x2 x3 x4 x5) : w.cell? ⟨g, 1, none⟩ = some x1 := by rw [cell_of_row w g 1 _ _ _ h]; rfl
theorem B6.c2 (h : B6 w g x0 x1 x2 x3 x4 x5) : w.cell? ⟨g, 2, none⟩ = some x2 := by rw [cell_of_row w g 2 _ _ _ h]; rfl
theorem B6.c3 (h : B6 w g x0 x1 x2 x3 x4 x5) : w.cell? ⟨g, 3, none⟩ = some x3 := by rw [cell_of_row w g 3 _ _ _ h]; rfl
theorem B6.c4 (h : B6 w g x0 x1 x2 x3 x4 x5) : w.cell? ⟨g, 4, none⟩ = some x4 := by rw [cell_of_row w g 4 _ _ _ h]; rfl
theorem B6.c5 (h : B6 w g x0 x1 x2 x3 x4 x5) : w.cell? ⟨g, 5, none⟩ = some x5 := by rw [cell_of_row w g 5 _ _ _ h]; rfl
theorem B6.fz (h : B6 w g x0 x1 x2 x3 x4 x5) (j : Nat) : w.frozen? ⟨g, j, none⟩ = false := by unfold B6 at h; simp [World.frozen?, h]
end
set_option maxRecDepth 100000 in
theorem refIs_any (bA wA : Option Addr) (bn bc wn wc : Nat) (dn : Bool) (po fa wi b : Int) (w : World) :
  Calls Tryz.prog 77 #[.agg #[.slice bA bn bc, .slice wA wn wc, .bool dn, .int .i64 po, .int .i64 fa, .int .i64 wi], .int .i64 b] w fun e w' => e = .returned (.bool (decide (0 ≤ b ∧ b < (bn : Int)))) ∧ Below w.heap.size w w' := by
 have hb := gr_alloc (gr_refl w) (.cells #[.slice bA bn bc, .slice wA wn wc, .bool dn, .int .i64 po, .int .i64 fa, .int .i64 wi] 33)
 by_cases h0 : 0 ≤ b
 ·have t0 : decide (0 ≤ b) = true := decide_eq_true h0
  cases h1 : decide (b < (bn : Int))
  all_goals
   go_enter Tryz.func77, Tryz.ntmps77
   go_wp2_with fail
   go_ret
   refine ⟨?_, hb⟩
   simp at h1
   simp [h0, h1]
 ·have t0 : decide (0 ≤ b) = false := decide_eq_false h0
  go_enter Tryz.func77, Tryz.ntmps77
  go_wp2_with fail
  go_ret
  exact ⟨by simp, hb⟩
theorem ask_is (D : DiskS) (b : Int) : askE D b = if decide (0 ≤ b ∧ b < (D.blocks.length : Int)) = true then 0 else 2 := by
 unfold askE
 by_cases h : 0 ≤ b ∧ b < (D.blocks.length : Int)
 ·rw [if_neg (by omega), if_pos (decide_eq_true h)]
 ·rw [if_pos (by omega), if_neg (by rw [decide_eq_false h]; simp)]
end Go.Proofs.YtmdgnjmhbjdlmaaGreat

/-! DpC -/
namespace Go.Proofs.YtmdgnjmhbjdlmaaGreat
open Go.RowKit
theorem lastL_take (bs : List (List UInt8)) (ps : List (Nat × List UInt8)) (b k : Nat) (hk : k < ps.length) : lastL bs (ps.take (k + 1)) b = if (ps.getD k (0, [])).1 = b then (ps.getD k (0, [])).2 else lastL bs (ps.take k) b := by
 unfold lastL
 rw [List.take_succ_eq_append_getElem hk, List.foldl_append]
 simp [List.getD, List.getElem?_eq_getElem hk]
set_option maxRecDepth 100000 in
set_option maxHeartbeats 2000000 in
theorem refRead03_any (G : Nat → Prop) (v : Value) (D : DiskS) (b : Int) (w : World) (h : RK G w v D) :
  Calls Tryz.prog 60 #[v, .int .i64 b] w fun e w' => ∃ u, e = .returned (.tuple #[u, .int .i64 (readE D b)]) ∧ (readE D b = 0 → VG G w u (readL D b)) ∧ (readE D b ≠ 0 → u = .slice none 0 0) ∧ Below w.heap.size w w' := by
 obtain ⟨bA, bc, wA, wc, bus, wus, rfl, k1, k2, k3, k4, hd⟩ := h
 unfold maxLen at k2 k4
 have hb := gr_alloc (gr_refl w) (.cells #[.slice bA D.blocks.length bc, .slice wA D.pending.length wc, .bool D.down, .int .i64 D.power, .int .i64 D.fault, .int .i64 D.wi] 33)
 have hx := B6.new w (.slice bA D.blocks.length bc) (.slice wA D.pending.length wc) (.bool D.down) (.int .i64 D.power) (.int .i64 D.fault) (.int .i64 D.wi)
 have IS := Lib.hid (fun W => refIs_any bA wA D.blocks.length bc D.pending.length wc D.down D.power D.fault D.wi b W)
 have HB := Lib.hid hb
 have HX := Lib.hid hx
 have HA := Lib.hid (ask_is D b)
 clear hb hx
 by_cases hin : 0 ≤ b ∧ b < (D.blocks.length : Int)
 ·obtain ⟨i, rfl⟩ := Int.eq_ofNat_of_zero_le hin.1
  have hil : i < D.blocks.length := by omega
  obtain ⟨g, o, u, rfl, hc, hv⟩ := hd.bat hil
  have HE : Hid (askE D (i : Int) = 0) := Lib.hid (by rw [HA.out, if_pos (decide_eq_true hin)])
  rw [decide_eq_true hin] at IS
  have HC := Lib.hid hc
  have HV0 : Hid (VG G w u (lastL D.blocks (D.pending.take 0) i)) := Lib.hid (by unfold lastL; simpa using hv)
  have i0 : (0 : Int) ≤ (i : Int) := Int.natCast_nonneg _
  have i1 : (i : Int) < (D.blocks.length : Int) := hin.2
  have HWA : Hid (∀ k, k < D.pending.length → ∃ g' o' u', wA = some ⟨g', o', none⟩ ∧ w.cell? ⟨g', o' + k * 2, none⟩ = some (.int .i64 (((D.pending.getD k (0, [])).1 : Nat) : Int)) ∧ w.cell? ⟨g', o' + k * 2 + 1, none⟩ = some u' ∧ VG G w u' (D.pending.getD k (0, [])).2 ∧ (D.pending.getD k (0, [])).1 < D.blocks.length) := Lib.hid (fun k hk => hd.wat hk)
  have HLT : Hid (∀ k, k < D.pending.length → lastL D.blocks (D.pending.take (k + 1)) i = if (D.pending.getD k (0, [])).1 = i then (D.pending.getD k (0, [])).2 else lastL D.blocks (D.pending.take k) i) := Lib.hid (fun k hk => lastL_take _ _ i k hk)
  have HRE : Hid (readE D (i : Int) = if D.down = true then 6 else 0) := Lib.hid (by unfold readE; rw [if_neg (by rw [HE.out]; simp)])
  have HRL : Hid (D.down = false → readL D (i : Int) = lastL D.blocks (D.pending.take D.pending.length) i) := Lib.hid (fun h => by
   unfold readL
   rw [if_neg (by rw [HRE.out, h]; simp), List.take_length, Int.toNat_natCast])
  obtain ⟨_, Au, cu, e0, _, _, _, _⟩ := hv
  subst e0
  clear hin hd hc HA
  generalize hdn : D.down = dn at *
  clear hdn
  generalize D.blocks.length = bn at *
  generalize hwn : D.pending.length = wn at *
  clear hwn
  cases dn
  ·go_enter Tryz.func60, Tryz.ntmps60
   go_wp2_with fail
   generalize w.alloc (.cells #[.slice (some ⟨g, o, none⟩) bn bc, .slice wA wn wc, .bool false, .int .i64 D.power, .int .i64 D.fault, .int .i64 D.wi] 33) = w0 at *
   refine (IS.out w0).mono ?_
   rintro e w1 ⟨rfl, hb1⟩
   have HX1 := Lib.hid (HX.out.below hb1)
   have y0 := HX1.out.c0
   have y2 := HX1.out.c2
   have hc1 := keep_of_below hb1 (keep_of_below HB.out HC.out)
   have HW := Lib.hid (gr_trans HB.out hb1)
   clear hb1
   go_wp2_with fail
   have y1 := HX1.out.c1
   go_loop [6, 7] (fun x c => ∃ (k : Nat), k ≤ wn ∧ c = .int .i64 (k : Int) ∧ Hid (VG G w x (lastL D.blocks (D.pending.take k) i))) (fun _ c => wn - (intOf c).toNat)
   case atStart => exact ⟨0, Nat.zero_le _, rfl, HV0⟩
   case round =>
    clear HV0
    obtain ⟨k, hk, rfl, HV⟩ := hrel
    by_cases hlt : k < wn
    ·have t1 : decide ((k : Int) < (wn : Int)) = true := decide_eq_true (by omega)
     have t1' : decide (k < wn) = true := decide_eq_true hlt
     have j0 : (0 : Int) ≤ (k : Int) := Int.natCast_nonneg _
     have j1 : (k : Int) < (wn : Int) := by omega
     obtain ⟨g', o', u', rfl, z1, z2, z3, z4⟩ := HWA.out k hlt
     have HL1 := HLT.out k hlt
     generalize D.pending.getD k (0, []) = p at *
     obtain ⟨p1, p2⟩ := p
     dsimp only at z1 z2 z3 z4 HL1
     have HLH := Lib.hid HL1
     have HZ3 := Lib.hid z3
     have q1 := keep_of_below HW.out z1
     have q2 := keep_of_below HW.out z2
     clear z1 z2 z3 HL1
     by_cases hp : p1 = i
     ·have t2 : ((p1 : Int) == (i : Int)) = true := by rw [hp]; simp
      have t2' : (p1 == i) = true := by rw [hp]; simp
      have HV2 : Hid (VG G w u' (lastL D.blocks (D.pending.take (k + 1)) i)) := Lib.hid (by rw [HLH.out, if_pos hp]; exact HZ3.out)
      clear hp
      go_wp2_with fail
      go_round
      case rel => exact ⟨k + 1, by omega, by go_num, HV2⟩
      case measure => simp [intOf]; omega
     ·have t2 : ((p1 : Int) == (i : Int)) = false := beq_eq_false_iff_ne.2 (by omega)
      have t2' : (p1 == i) = false := beq_eq_false_iff_ne.2 hp
      have HV2 : Hid (VG G w _ (lastL D.blocks (D.pending.take (k + 1)) i)) := Lib.hid (by rw [HLH.out, if_neg hp]; exact HV.out)
      clear hp
      go_wp2_with fail
      go_round
      case rel => exact ⟨k + 1, by omega, by go_num, HV2⟩
      case measure => simp [intOf]; omega
    ·obtain rfl : k = wn := by omega
     have t1 : decide ((k : Int) < (k : Int)) = false := decide_eq_false (by omega)
     go_wp2_with fail
     go_ret2
     rw [HRE.out]
     exact ⟨u6, rfl, (fun _ => by rw [HRL.out (by trivial)]; exact HV.out), (fun h => absurd rfl h), HW.out⟩
  ·go_enter Tryz.func60, Tryz.ntmps60
   go_wp2_with fail
   generalize w.alloc (.cells #[.slice (some ⟨g, o, none⟩) bn bc, .slice wA wn wc, .bool true, .int .i64 D.power, .int .i64 D.fault, .int .i64 D.wi] 33) = w0 at *
   refine (IS.out w0).mono ?_
   rintro e w1 ⟨rfl, hb1⟩
   have y2 := (HX.out.below hb1).c2
   go_wp2_with fail
   go_ret2
   rw [HRE.out]
   exact ⟨_, rfl, fun h => absurd h (by decide), fun _ => rfl, gr_trans HB.out hb1⟩
 ·have HE : Hid (readE D b = 2) := Lib.hid (by
   have h2 : askE D b = 2 := by rw [HA.out, if_neg (by rw [decide_eq_false hin]; simp)]
   unfold readE
   rw [if_pos (by rw [h2]; decide), h2])
  rw [decide_eq_false hin] at IS
  clear hin hd HA
  generalize D.blocks.length = bn at *
  generalize D.pending.length = wn at *
  go_enter Tryz.func60, Tryz.ntmps60
  go_wp2_with fail
  generalize w.alloc (.cells #[.slice bA bn bc, .slice wA wn wc, .bool D.down, .int .i64 D.power, .int .i64 D.fault, .int .i64 D.wi] 33) = w0 at *
  refine (IS.out w0).mono ?_
  rintro e w1 ⟨rfl, hb1⟩
  go_wp2_with fail
  go_ret2
  rw [HE.out]
  exact ⟨_, rfl, fun h => absurd h (by decide), fun _ => rfl, gr_trans HB.out hb1⟩
end Go.Proofs.YtmdgnjmhbjdlmaaGreat

/-! DpD -/
namespace Go.Proofs.YtmdgnjmhbjdlmaaGreat
open Go.RowKit
theorem set6 {w : World} {g : Nat} {y0 y1 y2 y3 y4 y5 : Value} (h : B6 w g y0 y1 y2 y3 y4 y5) (u0 u1 u2 u3 u4 u5 : Value) {w0 : World} (hb : Below w0.heap.size w0 w) (hg : w0.heap.size ≤ g) :
  ∀ w2, w2 = (((((w.setCell ⟨g, 0, none⟩ u0).setCell ⟨g, 1, none⟩ u1).setCell ⟨g, 2, none⟩ u2).setCell ⟨g, 3, none⟩ u3).setCell ⟨g, 4, none⟩ u4).setCell ⟨g, 5, none⟩ u5 → B6 w2 g u0 u1 u2 u3 u4 u5 ∧ Below w0.heap.size w0 w2 := by
 rintro w2 rfl
 refine ⟨?_, (((((hb.setCell hg _).setCell hg _).setCell hg _).setCell hg _).setCell hg _).setCell hg _⟩
 unfold B6 at h ⊢
 simp only [World.setCell, Array.getElem?_modify, if_pos, h]
 rfl
theorem two6 (w : World) (x0 x1 x2 x3 x4 x5 : Value) : ∀ w1, w1 = (w.alloc (.cells #[x0, x1, x2, x3, x4, x5] 33)).alloc (.cells #[.slice none 0 0, .slice none 0 0, .bool false, .int .i64 0, .int .i64 0, .int .i64 0] 33) →
  B6 w1 w.heap.size x0 x1 x2 x3 x4 x5 ∧ B6 w1 (w.heap.size + 1) (.slice none 0 0) (.slice none 0 0) (.bool false) (.int .i64 0) (.int .i64 0) (.int .i64 0) ∧ Below w.heap.size w w1 := by
 rintro w1 rfl
 have h := B6.new w x0 x1 x2 x3 x4 x5
 have hb := gr_alloc (gr_refl w) (.cells #[x0, x1, x2, x3, x4, x5] 33)
 have hs : (w.alloc (.cells #[x0, x1, x2, x3, x4, x5] 33)).heap.size = w.heap.size + 1 := World.size_alloc _ _
 generalize w.alloc (.cells #[x0, x1, x2, x3, x4, x5] 33) = w2 at *
 rw [← hs]
 exact ⟨h.below (gr_alloc (gr_refl w2) _), B6.new w2 _ _ _ _ _ _, gr_alloc hb _⟩
theorem B6.set3 {w : World} {g : Nat} {x0 x1 x2 x3 x4 x5 : Value} (h : B6 w g x0 x1 x2 x3 x4 x5) (u : Value) : B6 (w.setCell ⟨g, 3, none⟩ u) g x0 x1 x2 u x4 x5 := by
 unfold B6 at h ⊢
 simp only [World.setCell, Array.getElem?_modify, if_pos, h]
 rfl
theorem B6.set4 {w : World} {g : Nat} {x0 x1 x2 x3 x4 x5 : Value} (h : B6 w g x0 x1 x2 x3 x4 x5) (u : Value) : B6 (w.setCell ⟨g, 4, none⟩ u) g x0 x1 x2 x3 u x5 := by
 unfold B6 at h ⊢
 simp only [World.setCell, Array.getElem?_modify, if_pos, h]
 rfl
theorem B6.set5 {w : World} {g : Nat} {x0 x1 x2 x3 x4 x5 : Value} (h : B6 w g x0 x1 x2 x3 x4 x5) (u : Value) : B6 (w.setCell ⟨g, 5, none⟩ u) g x0 x1 x2 x3 x4 u := by
 unfold B6 at h ⊢
 simp only [World.setCell, Array.getElem?_modify, if_pos, h]
 rfl
theorem B6.set2 {w : World} {g : Nat} {x0 x1 x2 x3 x4 x5 : Value} (h : B6 w g x0 x1 x2 x3 x4 x5) (u : Value) : B6 (w.setCell ⟨g, 2, none⟩ u) g x0 x1 u x3 x4 x5 := by
 unfold B6 at h ⊢
 simp only [World.setCell, Array.getElem?_modify, if_pos, h]
 rfl
theorem B6.setO {w : World} {g k j : Nat} {x0 x1 x2 x3 x4 x5 u : Value} (h : B6 w g x0 x1 x2 x3 x4 x5) (hk : k ≠ g) : B6 (w.setCell ⟨k, j, none⟩ u) g x0 x1 x2 x3 x4 x5 := by
 unfold B6 at h ⊢
 rw [← h]
 exact Below.heap_setCell _ _ _ g (fun e => hk e.symm)
set_option maxRecDepth 100000 in
set_option maxHeartbeats 2000000 in
theorem refArmed_any (G : Nat → Prop) (v : Value) (D : DiskS) (n : Int) (w : World) (h : RK G w v D) :
  Calls Tryz.prog 36 #[v, .int .i64 n] w fun e w' => ∃ v', e = .returned (.tuple #[v', .int .i64 (armE n)]) ∧ RK G w' v' (armD D n) ∧ Below w.heap.size w w' := by
 obtain ⟨bA, bc, wA, wc, bus, wus, rfl, k1, k2, k3, k4, hd⟩ := h
 have HT := Lib.hid (two6 w (.slice bA D.blocks.length bc) (.slice wA D.pending.length wc) (.bool D.down) (.int .i64 D.power) (.int .i64 D.fault) (.int .i64 D.wi))
 have HR : Hid (∀ W po, Below w.heap.size w W → RK G W (.agg #[.slice bA D.blocks.length bc, .slice wA D.pending.length wc, .bool D.down, .int .i64 po, .int .i64 D.fault, .int .i64 D.wi]) { D with power := po }) := Lib.hid (fun W po hb => ⟨bA, bc, wA, wc, bus, wus, rfl, k1, k2, k3, k4, (hd.below hb).br, (hd.below hb).bv, (hd.below hb).wr, (hd.below hb).wv, (hd.below hb).wl⟩)
 have HRW := Lib.hid (fun W (hb : Below w.heap.size w W) => HR.out W D.power hb)
 clear hd k1 k2 k3 k4
 by_cases hn : n < 0
 ·have t1 : decide (n < 0) = true := decide_eq_true hn
  have HE : Hid (armE n = 2 ∧ armD D n = D) := Lib.hid ⟨by unfold armE; rw [if_pos hn], by unfold armD; rw [if_pos hn]⟩
  clear hn
  generalize D.blocks.length = bn at *
  generalize D.pending.length = wn at *
  go_enter Tryz.func36, Tryz.ntmps36
  go_upto_region 1 with fail
  obtain ⟨x1, x2, hb⟩ := HT.out _ rfl
  generalize (w.alloc (.cells #[.slice bA bn bc, .slice wA wn wc, .bool D.down, .int .i64 D.power, .int .i64 D.fault, .int .i64 D.wi] 33)).alloc (.cells #[.slice none 0 0, .slice none 0 0, .bool false, .int .i64 0, .int .i64 0, .int .i64 0] 33) = w1 at *
  have y0 := x1.c0
  have y1 := x1.c1
  have y2 := x1.c2
  have y3 := x1.c3
  have y4 := x1.c4
  have y5 := x1.c5
  have r0 := x2.c0
  have r1 := x2.c1
  have r2 := x2.c2
  have r3 := x2.c3
  have r4 := x2.c4
  have r5 := x2.c5
  have f0 := x2.fz 0
  have f1 := x2.fz 1
  have f2 := x2.fz 2
  have f3 := x2.fz 3
  have f4 := x2.fz 4
  have f5 := x2.fz 5
  have HS := Lib.hid (set6 x2 (.slice bA bn bc) (.slice wA wn wc) (.bool D.down) (.int .i64 D.power) (.int .i64 D.fault) (.int .i64 D.wi) hb (by omega))
  go_wp2_with fail
  clear r0 f0 r1 f1 r2 f2 r3 f3 r4 f4 r5 f5
  obtain ⟨s1, s2⟩ := HS.out _ rfl
  clear HS
  generalize ((((((w1.setCell ⟨w.heap.size + 1, 0, none⟩ (.slice bA bn bc)).setCell ⟨w.heap.size + 1, 1, none⟩ (.slice wA wn wc)).setCell ⟨w.heap.size + 1, 2, none⟩ (.bool D.down)).setCell ⟨w.heap.size + 1, 3, none⟩ (.int .i64 D.power)).setCell ⟨w.heap.size + 1, 4, none⟩ (.int .i64 D.fault)).setCell ⟨w.heap.size + 1, 5, none⟩ (.int .i64 D.wi)) = wf at *
  have z0 := s1.c0
  have z1 := s1.c1
  have z2 := s1.c2
  have z3 := s1.c3
  have z4 := s1.c4
  have z5 := s1.c5
  refine bodyPost_ret (v := .tuple #[.agg #[.slice bA bn bc, .slice wA wn wc, .bool D.down, .int .i64 D.power, .int .i64 D.fault, .int .i64 D.wi], .int .i64 (2)]) (by simp [results, Tryz.results36, go_sem, z0, z1, z2, z3, z4, z5]) rfl ?_
  rw [HE.out.1, HE.out.2]
  exact ⟨_, rfl, HRW.out wf s2, s2⟩
 ·have t1 : decide (n < 0) = false := decide_eq_false hn
  have HE : Hid (armE n = 0 ∧ armD D n = { D with power := n }) := Lib.hid ⟨by unfold armE; rw [if_neg hn], by unfold armD; rw [if_neg hn]⟩
  clear hn
  generalize D.blocks.length = bn at *
  generalize D.pending.length = wn at *
  go_enter Tryz.func36, Tryz.ntmps36
  go_upto_region 3 with fail
  obtain ⟨x1, x2, hb⟩ := HT.out _ rfl
  generalize (w.alloc (.cells #[.slice bA bn bc, .slice wA wn wc, .bool D.down, .int .i64 D.power, .int .i64 D.fault, .int .i64 D.wi] 33)).alloc (.cells #[.slice none 0 0, .slice none 0 0, .bool false, .int .i64 0, .int .i64 0, .int .i64 0] 33) = w1 at *
  have y3 := x1.c3
  have q3 := x1.fz 3
  have x1' := x1.set3 (.int .i64 n)
  have x2' := x2.setO (k := w.heap.size) (j := 3) (u := .int .i64 n) (by omega)
  have hb' : Below w.heap.size w (w1.setCell ⟨w.heap.size, 3, none⟩ (.int .i64 n)) := hb.setCell (Nat.le_refl _) _
  go_upto_region 4 with fail
  clear y3 q3 x1 x2 hb
  generalize w1.setCell ⟨w.heap.size, 3, none⟩ (.int .i64 n) = w2 at *
  have y0 := x1'.c0
  have y1 := x1'.c1
  have y2 := x1'.c2
  have y3 := x1'.c3
  have y4 := x1'.c4
  have y5 := x1'.c5
  have r0 := x2'.c0
  have r1 := x2'.c1
  have r2 := x2'.c2
  have r3 := x2'.c3
  have r4 := x2'.c4
  have r5 := x2'.c5
  have f0 := x2'.fz 0
  have f1 := x2'.fz 1
  have f2 := x2'.fz 2
  have f3 := x2'.fz 3
  have f4 := x2'.fz 4
  have f5 := x2'.fz 5
  have HS := Lib.hid (set6 x2' (.slice bA bn bc) (.slice wA wn wc) (.bool D.down) (.int .i64 n) (.int .i64 D.fault) (.int .i64 D.wi) hb' (by omega))
  go_wp2_with fail
  clear r0 f0 r1 f1 r2 f2 r3 f3 r4 f4 r5 f5
  obtain ⟨s1, s2⟩ := HS.out _ rfl
  clear HS
  generalize ((((((w2.setCell ⟨w.heap.size + 1, 0, none⟩ (.slice bA bn bc)).setCell ⟨w.heap.size + 1, 1, none⟩ (.slice wA wn wc)).setCell ⟨w.heap.size + 1, 2, none⟩ (.bool D.down)).setCell ⟨w.heap.size + 1, 3, none⟩ (.int .i64 n)).setCell ⟨w.heap.size + 1, 4, none⟩ (.int .i64 D.fault)).setCell ⟨w.heap.size + 1, 5, none⟩ (.int .i64 D.wi)) = wf at *
  have z0 := s1.c0
  have z1 := s1.c1
  have z2 := s1.c2
  have z3 := s1.c3
  have z4 := s1.c4
  have z5 := s1.c5
  refine bodyPost_ret (v := .tuple #[.agg #[.slice bA bn bc, .slice wA wn wc, .bool D.down, .int .i64 n, .int .i64 D.fault, .int .i64 D.wi], .int .i64 (0)]) (by simp [results, Tryz.results36, go_sem, z0, z1, z2, z3, z4, z5]) rfl ?_
  rw [HE.out.1, HE.out.2]
  exact ⟨_, rfl, HR.out wf n s2, s2⟩
set_option maxRecDepth 100000 in
set_option maxHeartbeats 2000000 in
theorem refFailing_any (G : Nat → Prop) (v : Value) (D : DiskS) (n er : Int) (w : World) (h : RK G w v D) :
  Calls Tryz.prog 38 #[v, .int .i64 n, .int .i64 er] w fun e w' => ∃ v', e = .returned (.tuple #[v', .int .i64 (failE n er)]) ∧ RK G w' v' (failD D n er) ∧ Below w.heap.size w w' := by
 obtain ⟨bA, bc, wA, wc, bus, wus, rfl, k1, k2, k3, k4, hd⟩ := h
 have HT := Lib.hid (two6 w (.slice bA D.blocks.length bc) (.slice wA D.pending.length wc) (.bool D.down) (.int .i64 D.power) (.int .i64 D.fault) (.int .i64 D.wi))
 have HR : Hid (∀ W fa wi, Below w.heap.size w W → RK G W (.agg #[.slice bA D.blocks.length bc, .slice wA D.pending.length wc, .bool D.down, .int .i64 D.power, .int .i64 fa, .int .i64 wi]) { D with fault := fa, wi := wi }) := Lib.hid (fun W fa wi hb => ⟨bA, bc, wA, wc, bus, wus, rfl, k1, k2, k3, k4, (hd.below hb).br, (hd.below hb).bv, (hd.below hb).wr, (hd.below hb).wv, (hd.below hb).wl⟩)
 have HRW := Lib.hid (fun W (hb : Below w.heap.size w W) => HR.out W D.fault D.wi hb)
 clear hd k1 k2 k3 k4
 have hcase : ∃ u1 u2 u3 : Bool, decide (n < 0) = u1 ∧ (er != 4) = u2 ∧ (er != 5) = u3 := ⟨_, _, _, rfl, rfl, rfl⟩
 obtain ⟨u1, u2, u3, t1, t2, t3⟩ := hcase
 by_cases hbad : n < 0 ∨ (er ≠ 4 ∧ er ≠ 5)
 ·have HE : Hid (failE n er = 2 ∧ failD D n er = D) := Lib.hid ⟨by unfold failE; rw [if_pos hbad], by unfold failD; rw [if_pos hbad]⟩
  have hu : u1 = true ∨ (u1 = false ∧ u2 = true ∧ u3 = true) := by
   by_cases h0 : n < 0
   ·left; rw [← t1]; exact decide_eq_true h0
   ·right
    have h1 : er ≠ 4 ∧ er ≠ 5 := by omega
    exact ⟨by rw [← t1]; exact decide_eq_false h0, by rw [← t2]; simpa using h1.1, by rw [← t3]; simpa using h1.2⟩
  clear hbad
  generalize D.blocks.length = bn at *
  generalize D.pending.length = wn at *
  rcases hu with rfl | ⟨rfl, rfl, rfl⟩
  all_goals
   go_enter Tryz.func38, Tryz.ntmps38
   go_upto_region 1 with fail
   obtain ⟨x1, x2, hb⟩ := HT.out _ rfl
   generalize (w.alloc (.cells #[.slice bA bn bc, .slice wA wn wc, .bool D.down, .int .i64 D.power, .int .i64 D.fault, .int .i64 D.wi] 33)).alloc (.cells #[.slice none 0 0, .slice none 0 0, .bool false, .int .i64 0, .int .i64 0, .int .i64 0] 33) = w1 at *
   have y0 := x1.c0
   have y1 := x1.c1
   have y2 := x1.c2
   have y3 := x1.c3
   have y4 := x1.c4
   have y5 := x1.c5
   have r0 := x2.c0
   have r1 := x2.c1
   have r2 := x2.c2
   have r3 := x2.c3
   have r4 := x2.c4
   have r5 := x2.c5
   have f0 := x2.fz 0
   have f1 := x2.fz 1
   have f2 := x2.fz 2
   have f3 := x2.fz 3
   have f4 := x2.fz 4
   have f5 := x2.fz 5
   have HS := Lib.hid (set6 x2 (.slice bA bn bc) (.slice wA wn wc) (.bool D.down) (.int .i64 D.power) (.int .i64 D.fault) (.int .i64 D.wi) hb (by omega))
   go_wp2_with fail
   clear r0 f0 r1 f1 r2 f2 r3 f3 r4 f4 r5 f5
   obtain ⟨s1, s2⟩ := HS.out _ rfl
   clear HS
   generalize ((((((w1.setCell ⟨w.heap.size + 1, 0, none⟩ (.slice bA bn bc)).setCell ⟨w.heap.size + 1, 1, none⟩ (.slice wA wn wc)).setCell ⟨w.heap.size + 1, 2, none⟩ (.bool D.down)).setCell ⟨w.heap.size + 1, 3, none⟩ (.int .i64 D.power)).setCell ⟨w.heap.size + 1, 4, none⟩ (.int .i64 D.fault)).setCell ⟨w.heap.size + 1, 5, none⟩ (.int .i64 D.wi)) = wf at *
   have z0 := s1.c0
   have z1 := s1.c1
   have z2 := s1.c2
   have z3 := s1.c3
   have z4 := s1.c4
   have z5 := s1.c5
   refine bodyPost_ret (v := .tuple #[.agg #[.slice bA bn bc, .slice wA wn wc, .bool D.down, .int .i64 D.power, .int .i64 D.fault, .int .i64 D.wi], .int .i64 (2)]) (by simp [results, Tryz.results38, go_sem, z0, z1, z2, z3, z4, z5]) rfl ?_
   rw [HE.out.1, HE.out.2]
   exact ⟨_, rfl, HRW.out wf s2, s2⟩
 ·have HE : Hid (failE n er = 0 ∧ failD D n er = { D with fault := n, wi := er }) := Lib.hid ⟨by unfold failE; rw [if_neg hbad], by unfold failD; rw [if_neg hbad]⟩
  have hu : u1 = false ∧ ((u2 = false) ∨ (u2 = true ∧ u3 = false)) := by
   refine ⟨by rw [← t1]; exact decide_eq_false (by omega), ?_⟩
   by_cases h4 : er = 4
   ·left; rw [← t2, h4]; rfl
   ·right
    have h5 : er = 5 := by omega
    exact ⟨by rw [← t2, h5]; rfl, by rw [← t3, h5]; rfl⟩
  clear hbad
  generalize D.blocks.length = bn at *
  generalize D.pending.length = wn at *
  obtain ⟨rfl, hu⟩ := hu
  rcases hu with rfl | ⟨rfl, rfl⟩
  all_goals
   go_enter Tryz.func38, Tryz.ntmps38
   go_upto_region 3 with fail
   obtain ⟨x1, x2, hb⟩ := HT.out _ rfl
   generalize (w.alloc (.cells #[.slice bA bn bc, .slice wA wn wc, .bool D.down, .int .i64 D.power, .int .i64 D.fault, .int .i64 D.wi] 33)).alloc (.cells #[.slice none 0 0, .slice none 0 0, .bool false, .int .i64 0, .int .i64 0, .int .i64 0] 33) = w1 at *
   have y4 := x1.c4
   have q4 := x1.fz 4
   have x1' := x1.set4 (.int .i64 n)
   have x2' := x2.setO (k := w.heap.size) (j := 4) (u := .int .i64 n) (by omega)
   have hb' : Below w.heap.size w (w1.setCell ⟨w.heap.size, 4, none⟩ (.int .i64 n)) := hb.setCell (Nat.le_refl _) _
   go_upto_region 4 with fail
   clear y4 q4 x1 x2 hb
   generalize w1.setCell ⟨w.heap.size, 4, none⟩ (.int .i64 n) = w2 at *
   have y5 := x1'.c5
   have q5 := x1'.fz 5
   have x1'' := x1'.set5 (.int .i64 er)
   have x2'' := x2'.setO (k := w.heap.size) (j := 5) (u := .int .i64 er) (by omega)
   have hb'' : Below w.heap.size w (w2.setCell ⟨w.heap.size, 5, none⟩ (.int .i64 er)) := hb'.setCell (Nat.le_refl _) _
   go_upto_region 5 with fail
   clear y5 q5 x1' x2' hb'
   generalize w2.setCell ⟨w.heap.size, 5, none⟩ (.int .i64 er) = w3 at *
   have y0 := x1''.c0
   have y1 := x1''.c1
   have y2 := x1''.c2
   have y3 := x1''.c3
   have y4 := x1''.c4
   have y5 := x1''.c5
   have r0 := x2''.c0
   have r1 := x2''.c1
   have r2 := x2''.c2
   have r3 := x2''.c3
   have r4 := x2''.c4
   have r5 := x2''.c5
   have f0 := x2''.fz 0
   have f1 := x2''.fz 1
   have f2 := x2''.fz 2
   have f3 := x2''.fz 3
   have f4 := x2''.fz 4
   have f5 := x2''.fz 5
   have HS := Lib.hid (set6 x2'' (.slice bA bn bc) (.slice wA wn wc) (.bool D.down) (.int .i64 D.power) (.int .i64 n) (.int .i64 er) hb'' (by omega))
   go_wp2_with fail
   clear r0 f0 r1 f1 r2 f2 r3 f3 r4 f4 r5 f5
   obtain ⟨s1, s2⟩ := HS.out _ rfl
   clear HS
   generalize ((((((w3.setCell ⟨w.heap.size + 1, 0, none⟩ (.slice bA bn bc)).setCell ⟨w.heap.size + 1, 1, none⟩ (.slice wA wn wc)).setCell ⟨w.heap.size + 1, 2, none⟩ (.bool D.down)).setCell ⟨w.heap.size + 1, 3, none⟩ (.int .i64 D.power)).setCell ⟨w.heap.size + 1, 4, none⟩ (.int .i64 n)).setCell ⟨w.heap.size + 1, 5, none⟩ (.int .i64 er)) = wf at *
   have z0 := s1.c0
   have z1 := s1.c1
   have z2 := s1.c2
   have z3 := s1.c3
   have z4 := s1.c4
   have z5 := s1.c5
   refine bodyPost_ret (v := .tuple #[.agg #[.slice bA bn bc, .slice wA wn wc, .bool D.down, .int .i64 D.power, .int .i64 n, .int .i64 er], .int .i64 (0)]) (by simp [results, Tryz.results38, go_sem, z0, z1, z2, z3, z4, z5]) rfl ?_
   rw [HE.out.1, HE.out.2]
   exact ⟨_, rfl, HR.out wf n er s2, s2⟩
end Go.Proofs.YtmdgnjmhbjdlmaaGreat
