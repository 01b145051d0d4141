/-
  Texts of this claim, joined: QoE, QoF, QoG, QoL, PlA, AtB, AtC, AtD, AtE. No statement of the program is proved here.
-/
import Derived.Test.YtnkeclpgpiogoaaGreatPkE6
import Derived.Test.YtnkeclpgpiogoaaGreatPkE3
import Derived.Tactics2
import Derived.Laws.Pointers
import Derived.Laws.LoneSync
import Derived.RegionTactic
import Derived.RegionCalls
import Derived.ChangeAlike
import Derived.Laws.NewBlocks
/-! QoE -/
namespace Go.Proofs.YtnkeclpgpiogoaaGreat
open Go Go.RowKit Go.Maps
def usedW (w : World) (tb n : Nat) : Nat := (List.range n).countP fun i => match w.cell? ⟨tb, i * 5 + 4, none⟩ with
 | some (.bool b) => b
 | _ => false
set_option maxRecDepth 100000 in
theorem countP_range {α : Type} (p : α → Bool) (d : α) : ∀ (l : List α), (List.range l.length).countP (fun i => p (l.getD i d)) = l.countP p
 | [] => rfl
 | x :: l => by
  rw [List.length_cons, List.range_succ_eq_map, List.countP_cons, List.countP_cons, List.countP_map, ← countP_range p d l]
  rfl
set_option maxRecDepth 100000 in
theorem PS.snd {gp mb k : Nat} {F : Nat → Prop} {tv : Value} {q q' : List FV} (hq : q'.map Prod.snd = q.map Prod.snd) (h : PS gp F tv mb q' k) : PS gp F tv mb q k := by
 rcases h with h | h | h | h | ⟨x, hx, h⟩
 ·exact .inl h
 ·exact .inr (.inl h)
 ·exact .inr (.inr (.inl h))
 ·exact .inr (.inr (.inr (.inl h)))
 ·have : x.2 ∈ q.map Prod.snd := hq ▸ List.mem_map_of_mem hx
  obtain ⟨y, hy, e⟩ := List.mem_map.1 this
  exact .inr (.inr (.inr (.inr ⟨y, hy, by rw [e]; exact h⟩)))
section
variable {w w' : World} {b0 gp gd mb tb tc i : Nat} {wv : Value} {D : EnS} {P : PoS} {F : Nat → Prop} {q : List FV}
set_option maxRecDepth 100000 in
theorem PX.usedW (h : PX w b0 gp gd wv D P F (.slice (some ⟨tb, 0, none⟩) q.length tc) mb q) : usedW w tb q.length = usedN P.fr := by
 unfold Go.Proofs.YtnkeclpgpiogoaaGreat.usedW usedN
 rw [← countP_range (fun f => f.used) fr0 P.fr, ← h.qf, List.length_map]
 refine List.countP_congr fun i hi => ?_
 have hi2 : i < q.length := List.mem_range.1 hi
 have hq : q[i]? = some q[i] := List.getElem?_eq_getElem hi2
 rw [(fr_cells h.tk hq).2.2.2.2, List.getD_eq_getElem?_getD, List.getElem?_map, hq]
 rfl
set_option maxRecDepth 100000 in
theorem usedN_set {fr : List FrS} {h : Nat} (hh : h < fr.length) (hu : (fr.getD h fr0).used = true) : usedN (fr.set h { fr.getD h fr0 with used := false }) + 1 = usedN fr := by
 unfold usedN
 have e : fr.getD h fr0 = fr[h] := by rw [List.getD_eq_getElem?_getD, List.getElem?_eq_getElem hh]; rfl
 rw [e] at hu ⊢
 rw [List.countP_set hh]
 have hpos : 0 < fr.countP (fun f => f.used) := List.countP_pos_iff.2 ⟨_, List.getElem_mem hh, hu⟩
 rw [if_pos hu, if_neg (by simp)]
 omega
set_option maxRecDepth 100000 in
theorem spin_step {m : Nat} {fr : List FrS} {h : Nat} (hh : h < fr.length) (hu : (fr.getD h fr0).used = true) : spinF m (usedN fr) fr h = spinF m (usedN (fr.set h { fr.getD h fr0 with used := false })) (fr.set h { fr.getD h fr0 with used := false }) ((h + 1) % m) := by
 have := usedN_set hh hu
 rw [← this]
 show spinF m (usedN _ + 1) fr h = _
 rw [spinF, if_pos hu]
set_option maxRecDepth 100000 in
theorem spin_stop {m : Nat} {fr : List FrS} {h : Nat} (hu : (fr.getD h fr0).used = false) : spinF m (usedN fr) fr h = (fr, h) := by
 cases usedN fr with
 | zero => rfl
 | succ k => rw [spinF, if_neg (by rw [hu]; decide)]
set_option maxRecDepth 100000 in
theorem PX.mark (h : PX w b0 gp gd wv D P F (.slice (some ⟨tb, 0, none⟩) q.length tc) mb q) {p : FV} (hi : q[i]? = some p) (u : Bool) :
  PX (w.setCell ⟨tb, i * 5 + 4, none⟩ (.bool u)) b0 gp gd wv D { P with fr := P.fr.set i { P.fr.getD i fr0 with used := u } } F (.slice (some ⟨tb, 0, none⟩) q.length tc) mb (q.set i ({ p.1 with used := u }, p.2)) := by
 have hil := (List.getElem?_eq_some_iff.1 hi).1
 have hlen : P.fr.length = q.length := by rw [← h.qf, List.length_map]
 have hpf : P.fr.getD i fr0 = p.1 := by
  rw [← h.qf, List.getD_eq_getElem?_getD, List.getElem?_map, hi]
  rfl
 have ho : Off (· = tb) w (w.setCell ⟨tb, i * 5 + 4, none⟩ (.bool u)) := (Off.refl _ w).setCell _ rfl
 have hpi := h.pi.use (i := i) (by omega) u (P.fr.getD i fr0).dirty
 have hx := h.frame hi (p' := ({ p.1 with used := u }, p.2)) rfl ho (fr_set4 h.tk hi u) ((h.pv p (List.mem_of_getElem? hi)).off ho (fun k e e2 => by
  subst e2
  obtain ⟨cur, hc⟩ := own_blk (h.pv p (List.mem_of_getElem? hi)) e
  obtain ⟨cur2, hc2⟩ := own_blk h.tk rfl
  exact cells_ne hc hc2 (by decide))) (h.ap p (List.mem_of_getElem? hi)) (by rw [hpf] at hpi; exact hpi)
 rw [hpf]
 exact hx
set_option maxRecDepth 100000 in
theorem PX.handed (h : PX w b0 gp gd wv D P F (.slice (some ⟨tb, 0, none⟩) q.length tc) mb q) {n : Nat} (hn : n < P.most) :
  PX (w.setCell ⟨gp, 10, none⟩ (.int .i64 (n : Int))) b0 gp gd wv D { P with hand := n } F (.slice (some ⟨tb, 0, none⟩) q.length tc) mb q :=
 h.own (P' := { P with hand := n }) ((Off.refl _ w).setCell _ rfl) (h.pb.s10 n) rfl (h.pi.alike (Alike.refl _) hn)
end
set_option maxRecDepth 100000 in
set_option maxHeartbeats 8000000 in
theorem phold_full {w : World} {b0 gp gd mb : Nat} {wv tv : Value} {D : EnS} {P : PoS} {F : Nat → Prop} {q : List FV} (X : PX w b0 gp gd wv D P F tv mb q) (hl : LogV wv b0 gd D) (nf : FrS) (Av : Option Addr) (cv : Nat) (hf : NewF w b0 P nf (.slice Av 4080 cv)) (hdj : ∀ k, (Value.slice Av 4080 cv).ownBlock = some k → ¬ PS gp F tv mb q k) (hr : ¬ P.fr.length < P.most) (hpd : D.d.pending.length ≤ 900000) (hct : P.count ≤ 1152921504606846976) :
  Calls Tryz.prog 77 #[.pointer (some ⟨gp, 0, none⟩), .agg #[.int .i64 (nf.page : Int), .slice Av 4080 cv, .int .i64 nf.lsn, .bool nf.dirty, .bool nf.used]] w fun e w' => e = .returned (.int .i64 (holdR D P nf).2.2) ∧ PStepV w b0 gp gd wv (PS gp F tv mb q) (.slice Av 4080 cv) (holdR D P nf).1 (holdR D P nf).2.1 w' := by
 have hlen : P.fr.length = q.length := by rw [← X.qf, List.length_map]
 have hmost := X.pi.m2
 have hm1 := X.pi.m1
 have hle := X.pi.len
 have hmq : q.length = P.most := by omega
 obtain ⟨tb, c, rfl, t1, t2, hA1, hA2⟩ := X.tk.block (by omega)
 have hb1 : Below w.heap.size w (w.alloc (.cells #[.int .i64 (nf.page : Int), .slice Av 4080 cv, .int .i64 nf.lsn, .bool nf.dirty, .bool nf.used] 157)) := gr_alloc (gr_refl w) _
 have HX := Lib.hid X
 have HX1 := Lib.hid (X.below hb1)
 have HF := Lib.hid hf
 have HDJ := Lib.hid hdj
 have HL := Lib.hid hl
 have HB1 := Lib.hid hb1
 have c8 := HX1.out.pb.c8
 have c4 := HX1.out.pb.c4
 have t1 : decide (q.length < P.most) = false := decide_eq_false (by omega)
 have t2 : decide ((q.length : Int) < (P.most : Int)) = false := decide_eq_false (by omega)
 have HMQ := Lib.hid hmq
 have hql : q.length ≤ 256 := by omega
 clear X hf hdj hb1 hl hmq hlen
 go_enter Tryz.func77, Tryz.ntmps77
 go_wp2_with (go_quiet (fail))
 have HX1q : Hid (PX ((w.alloc (.cells #[.int .i64 (nf.page : Int), .slice Av 4080 cv, .int .i64 nf.lsn, .bool nf.dirty, .bool nf.used] 157)).drewN nq) b0 gp gd wv D P F (.slice (some ⟨tb, 0, none⟩) q.length c) mb q) := Lib.hid (HX1.out.below (gr_drewN (gr_refl _) nq))
 have HB1q : Hid (Below w.heap.size w ((w.alloc (.cells #[.int .i64 (nf.page : Int), .slice Av 4080 cv, .int .i64 nf.lsn, .bool nf.dirty, .bool nf.used] 157)).drewN nq)) := Lib.hid (gr_drewN HB1.out nq)
 have HFR : Hid (((w.alloc (.cells #[.int .i64 (nf.page : Int), .slice Av 4080 cv, .int .i64 nf.lsn, .bool nf.dirty, .bool nf.used] 157)).drewN nq).heap[w.heap.size]? = some (.cells #[.int .i64 (nf.page : Int), .slice Av 4080 cv, .int .i64 nf.lsn, .bool nf.dirty, .bool nf.used] 157 (0, 0))) := Lib.hid (heap_alloc_new w _)
 generalize ((w.alloc (.cells #[.int .i64 (nf.page : Int), .slice Av 4080 cv, .int .i64 nf.lsn, .bool nf.dirty, .bool nf.used] 157)).drewN nq) = w1 at *
 clear c8 c4 HX1 HB1
 have HTB : Hid (tb < w.heap.size ∧ gp < w.heap.size ∧ mb < w.heap.size) := Lib.hid ⟨by omega, HX.out.pb.lt, HX.out.mp.lt⟩
 go_loopw [] (fun wr => ∃ (fr : List FrS) (hd : Nat) (q' : List FV), Hid (PX wr b0 gp gd wv D { P with fr := fr, hand := hd } F (.slice (some ⟨tb, 0, none⟩) q.length c) mb q') ∧ Hid (spinF P.most (usedN fr) fr hd = spinF P.most (usedN P.fr) P.fr P.hand) ∧ Hid (q'.map Prod.snd = q.map Prod.snd) ∧ Hid (Off (fun k => k = gp ∨ k = tb) w1 wr)) (fun wr => usedW wr tb q.length)
 case atStart => exact ⟨P.fr, P.hand, q, HX1q, Lib.hid rfl, Lib.hid rfl, Lib.hid (Off.refl _ _)⟩
 case round =>
  obtain ⟨fr, hd, q', HXr, HSP, HQ2, HO⟩ := hrel
  have HL2 : Hid (q'.length = q.length) := Lib.hid (by have := congrArg List.length HQ2.out; simpa using this)
  have hfl : fr.length = q'.length := by have := congrArg List.length HXr.out.qf; simpa using this.symm
  have hhd : hd < q.length := by have := HXr.out.pi.hd; have := HMQ.out; dsimp only at *; omega
  obtain ⟨p, hp⟩ : ∃ p, q'[hd]? = some p := ⟨_, List.getElem?_eq_getElem (by rw [HL2.out]; exact hhd)⟩
  have HP := Lib.hid hp
  have hpf : fr.getD hd fr0 = p.1 := by
   have := HXr.out.qf
   dsimp only at this
   rw [← this, List.getD_eq_getElem?_getD, List.getElem?_map, hp]
   rfl
  have HPF := Lib.hid hpf
  have c8 := HXr.out.pb.c8
  have c4 := HXr.out.pb.c4
  have c10 := HXr.out.pb.c10
  dsimp only at c4 c10
  have hXr2 : EO EF 5 157 wr b0 (.slice (some ⟨tb, 0, none⟩) q'.length c) q' := by rw [HL2.out]; exact HXr.out.tk
  have f4 := (fr_cells HXr.out.tk hp).2.2.2.2
  have i0 : (0 : Int) ≤ (hd : Int) := Int.natCast_nonneg _
  have i1 : (hd : Int) < (q.length : Int) := by omega
  have HFL := Lib.hid hfl
  have f3 := (fr_cells HXr.out.tk HP.out).2.2.2.1
  clear hp hpf hfl hXr2
  cases hu : p.1.used with
  | true =>
   rw [hu] at f4
   have HU : Hid ((fr.getD hd fr0).used = true) := Lib.hid (by rw [HPF.out]; exact hu)
   clear hu f3
   go_upto_region 6 with (go_quiet (fail))
   have HXd := Lib.hid (HXr.out.below (gr_drewN (gr_refl wr) nq))
   have HOd : Hid (Off (fun k => k = gp ∨ k = tb) w1 (wr.drewN nq)) := Lib.hid (HO.out.drewN nq)
   have HMW : Hid (usedW wr tb q.length = usedN fr) := Lib.hid (by
    have hx := HXr.out
    rw [← HL2.out] at hx
    rw [← HL2.out]
    exact hx.usedW)
   generalize (wr.drewN nq) = wd at *
   have k8 := Lib.hid HXd.out.pb.c8
   have k10 : Hid (wd.cell? ⟨gp, 10, none⟩ = some (.int .i64 (hd : Int))) := Lib.hid HXd.out.pb.c10
   clear c8 c4 c10 f4
   refine wp_region_any (by kernel_rfl) ?_
   refine' wpAny_to_tail (l0 := #[false, false, false, false, false, false, false, false, false, false, false]) (by kernel_rfl) (by kernel_rfl) (by kernel_rfl) (by kernel_rfl) (by kernel_rfl)
    [MP.is (.pointer (some ⟨gp, 0, none⟩)), MP.is (.pointer (some ⟨gp, 0, none⟩)), MP.is (.pointer (some ⟨gp, 8, none⟩)), MP.is (.slice (some ⟨tb, 0, none⟩) q.length c), MP.is (.pointer (some ⟨gp, 0, none⟩)), MP.is (.pointer (some ⟨gp, 0, none⟩)), MP.is (.pointer (some ⟨gp, 10, none⟩)), MP.is (.int .i64 (hd : Int)), MP.is (.pointer (some ⟨tb, hd * 5, none⟩)), MP.is (.pointer (some ⟨tb, hd * 5 + 4, none⟩)), MP.any]
    (fun j => j == 10) #[true, true, true, true, true, true, true, true, true, true, false] rfl (by kernel_rfl) rfl (by kernel_rfl) (by kernel_rfl) (by kernel_rfl) (by kernel_rfl) (fun _ => undef) (by rfl) ?hR01 ?hAA1 ?hst1 ?hend1
   case hR01 =>
    intro j hj
    have hj2 : j ∈ [] := hj
    cases hj2
   case hAA1 =>
    intro f
    conv => lhs; simp only [putA, dstOf, List.size_toArray, List.length_cons, List.length_nil, Nat.zero_add, Nat.reduceAdd, List.getElem?_toArray, List.getElem?_cons_zero, List.getElem?_cons_succ, Option.bind_some, Act.put, List.setIfInBounds_toArray, List.set_cons_zero, List.set_cons_succ]
    first | done | exact rfl
   case hst1 =>
    refine Steps.of_list (l' := [0, 1, 2, 3, 4, 5, 6, 7, 8, 9]) (by kernel_rfl) ?_
    refine Steps.cons rfl ?_ ?_
    ·intro f wz hB h K Q hK
     clear h
     try simp only [List.getElem_toArray, List.getElem_cons_zero]
     try rw [if_pos (by rfl)]
     go_simp
     exact hK _ _ (gr_refl _) rfl
    refine Steps.cons rfl ?_ ?_
    ·intro f wz hB h K Q hK
     have h0 : (MP.is (.pointer (some ⟨gp, 0, none⟩))).p (f 0) wz := h 0 (by kernel_rfl)
     have e0 : f 0 = (.pointer (some ⟨gp, 0, none⟩)) := h0
     simp only [e0] at hK ⊢
     clear e0
     clear h
     try rw [if_pos (by rfl)]
     go_simp
     exact hK _ _ (gr_refl _) rfl
    refine Steps.cons rfl ?_ ?_
    ·intro f wz hB h K Q hK
     have h1 : (MP.is (.pointer (some ⟨gp, 0, none⟩))).p (f 1) wz := h 1 (by kernel_rfl)
     have e1 : f 1 = (.pointer (some ⟨gp, 0, none⟩)) := h1
     simp only [e1] at hK ⊢
     clear e1
     clear h
     try rw [if_pos (by rfl)]
     go_simp
     exact hK _ _ (gr_refl _) rfl
    refine Steps.cons rfl ?_ ?_
    ·intro f wz hB h K Q hK
     have h2 : (MP.is (.pointer (some ⟨gp, 8, none⟩))).p (f 2) wz := h 2 (by kernel_rfl)
     have e2 : f 2 = (.pointer (some ⟨gp, 8, none⟩)) := h2
     simp only [e2] at hK ⊢
     clear e2
     clear h
     try rw [if_pos (by rfl)]
     have y0 := keep_of_below hB k8.out
     have y1 := keep_of_below hB k10.out
     go_simp
     exact hK _ _ (gr_refl _) rfl
    refine Steps.cons rfl ?_ ?_
    ·intro f wz hB h K Q hK
     clear h
     try rw [if_pos (by rfl)]
     go_simp
     exact hK _ _ (gr_refl _) rfl
    refine Steps.cons rfl ?_ ?_
    ·intro f wz hB h K Q hK
     have h4 : (MP.is (.pointer (some ⟨gp, 0, none⟩))).p (f 4) wz := h 4 (by kernel_rfl)
     have e4 : f 4 = (.pointer (some ⟨gp, 0, none⟩)) := h4
     simp only [e4] at hK ⊢
     clear e4
     clear h
     try rw [if_pos (by rfl)]
     go_simp
     exact hK _ _ (gr_refl _) rfl
    refine Steps.cons rfl ?_ ?_
    ·intro f wz hB h K Q hK
     have h5 : (MP.is (.pointer (some ⟨gp, 0, none⟩))).p (f 5) wz := h 5 (by kernel_rfl)
     have e5 : f 5 = (.pointer (some ⟨gp, 0, none⟩)) := h5
     simp only [e5] at hK ⊢
     clear e5
     clear h
     try rw [if_pos (by rfl)]
     go_simp
     exact hK _ _ (gr_refl _) rfl
    refine Steps.cons rfl ?_ ?_
    ·intro f wz hB h K Q hK
     have h6 : (MP.is (.pointer (some ⟨gp, 10, none⟩))).p (f 6) wz := h 6 (by kernel_rfl)
     have e6 : f 6 = (.pointer (some ⟨gp, 10, none⟩)) := h6
     simp only [e6] at hK ⊢
     clear e6
     clear h
     try rw [if_pos (by rfl)]
     have y0 := keep_of_below hB k8.out
     have y1 := keep_of_below hB k10.out
     go_simp
     exact hK _ _ (gr_refl _) rfl
    refine Steps.cons rfl ?_ ?_
    ·intro f wz hB h K Q hK
     have h3 : (MP.is (.slice (some ⟨tb, 0, none⟩) q.length c)).p (f 3) wz := h 3 (by kernel_rfl)
     have e3 : f 3 = (.slice (some ⟨tb, 0, none⟩) q.length c) := h3
     have h7 : (MP.is (.int .i64 (hd : Int))).p (f 7) wz := h 7 (by kernel_rfl)
     have e7 : f 7 = (.int .i64 (hd : Int)) := h7
     simp only [e3, e7] at hK ⊢
     clear e3 e7
     clear h
     try rw [if_pos (by rfl)]
     go_simp
     exact hK _ _ (gr_refl _) rfl
    refine Steps.cons rfl ?_ ?_
    ·intro f wz hB h K Q hK
     have h8 : (MP.is (.pointer (some ⟨tb, hd * 5, none⟩))).p (f 8) wz := h 8 (by kernel_rfl)
     have e8 : f 8 = (.pointer (some ⟨tb, hd * 5, none⟩)) := h8
     simp only [e8] at hK ⊢
     clear e8
     clear h
     try rw [if_pos (by rfl)]
     go_simp
     exact hK _ _ (gr_refl _) rfl
    exact Steps.nil
   intro f w2 hB2 hR
   conv => arg 7; simp only [putL, dstOf, List.size_toArray, List.length_cons, List.length_nil, Nat.zero_add, Nat.reduceAdd, List.getElem?_toArray, List.getElem?_cons_zero, List.getElem?_cons_succ, Option.bind_some, Act.put, List.setIfInBounds_toArray, List.set_cons_zero, List.set_cons_succ, Array.getD_eq_getD_getElem?, Option.getD_some, if_true, if_false, Bool.false_eq_true]
   have e0 : f 0 = (.pointer (some ⟨gp, 0, none⟩)) := hR 0 (by decide) rfl
   have e1 : f 1 = (.pointer (some ⟨gp, 0, none⟩)) := hR 1 (by decide) rfl
   have e2 : f 2 = (.pointer (some ⟨gp, 8, none⟩)) := hR 2 (by decide) rfl
   have e3 : f 3 = (.slice (some ⟨tb, 0, none⟩) q.length c) := hR 3 (by decide) rfl
   have e4 : f 4 = (.pointer (some ⟨gp, 0, none⟩)) := hR 4 (by decide) rfl
   have e5 : f 5 = (.pointer (some ⟨gp, 0, none⟩)) := hR 5 (by decide) rfl
   have e6 : f 6 = (.pointer (some ⟨gp, 10, none⟩)) := hR 6 (by decide) rfl
   have e7 : f 7 = (.int .i64 (hd : Int)) := hR 7 (by decide) rfl
   have e8 : f 8 = (.pointer (some ⟨tb, hd * 5, none⟩)) := hR 8 (by decide) rfl
   have e9 : f 9 = (.pointer (some ⟨tb, hd * 5 + 4, none⟩)) := hR 9 (by decide) rfl
   simp only [e0, e1, e2, e3, e4, e5, e6, e7, e8, e9]
   clear e0 e1 e2 e3 e4 e5 e6 e7 e8 e9 hR
   have HX2 : Hid (PX w2 b0 gp gd wv D { P with fr := fr, hand := hd } F (.slice (some ⟨tb, 0, none⟩) q.length c) mb q') := Lib.hid (HXd.out.below (Below.trans (gr_drewN (gr_refl wd) 1) hB2))
   have HO2 : Hid (Off (fun k => k = gp ∨ k = tb) w1 w2) := Lib.hid (HOd.out.trans (Off.of_below (Below.trans (gr_drewN (gr_refl wd) 1) hB2)))
   have z4 := own_frz HX2.out.tk (hd * 5 + 4)
   have y4 := (fr_cells HX2.out.tk HP.out).2.2.2.2
   have hx3 : PX (w2.setCell ⟨tb, hd * 5 + 4, none⟩ (.bool false)) b0 gp gd wv D { P with fr := fr.set hd { fr.getD hd fr0 with used := false }, hand := hd } F (.slice (some ⟨tb, 0, none⟩) q.length c) mb (q'.set hd ({ p.1 with used := false }, p.2)) := by
    have hx := HX2.out
    rw [← HL2.out] at hx ⊢
    exact hx.mark HP.out false
   have HX3 := Lib.hid hx3
   have HO3 : Hid (Off (fun k => k = gp ∨ k = tb) w1 (w2.setCell ⟨tb, hd * 5 + 4, none⟩ (.bool false))) := Lib.hid (HO2.out.setCell _ (.inr rfl))
   clear hx3 hB2 k8 k10 HXd HOd
   refine wpAny_of_held (S := fun _ => True) _ _ _ _ ?_
   refine wpAnyH_ready (rs := [10]) (by kernel_rfl) (by simp) ?_
   refine AllReadyH.cons rfl (fun KK hK => ?_) AllReadyH.nil
   rw [if_pos (by rfl)]
   go_simp
   refine hK.out _ _ trivial (fun _ => ?_)
   clear hK KK
   try simp only [List.setIfInBounds_toArray, List.set_cons_zero, List.set_cons_succ]
   refine wpAnyH_done (by kernel_rfl) ?_ _
   clear z4 y4
   generalize (w2.setCell ⟨tb, hd * 5 + 4, none⟩ (.bool false)) = w3 at *
   have k4 : Hid (w3.cell? ⟨gp, 4, none⟩ = some (.int .i64 (P.most : Int))) := Lib.hid HX3.out.pb.c4
   have k10 : Hid (w3.cell? ⟨gp, 10, none⟩ = some (.int .i64 (hd : Int))) := Lib.hid HX3.out.pb.c10
   have hwp : IntKind.i64.wrap ((hd : Int) + 1) = (hd : Int) + 1 := by rw [IntKind.wrap_i64]; omega
   have hm0 : ¬ P.most = 0 := by omega
   obtain ⟨nx, hnx⟩ : ∃ nx, nx = (hd + 1) % P.most := ⟨_, rfl⟩
   have hrem : ((hd : Int) + 1).tmod (P.most : Int) = (nx : Int) := by
    rw [Int.tmod_eq_emod_of_nonneg (by omega), hnx, Int.natCast_emod, Int.natCast_add]
    rfl
   have HNX := Lib.hid hnx
   have hnl : nx < P.most := by rw [hnx]; exact Nat.mod_lt _ (by omega)
   have hwn : IntKind.i64.wrap (nx : Int) = (nx : Int) := by rw [IntKind.wrap_i64]; omega
   clear hnx
   go_upto_region 7 with fail
   refine wp_region_any (by kernel_rfl) ?_
   refine' wpAny_to_tail (l0 := #[false, false, false, false, false, false, false, false, false, false, false, false, false, false]) (by kernel_rfl) (by kernel_rfl) (by kernel_rfl) (by kernel_rfl) (by kernel_rfl)
    [MP.is (.pointer (some ⟨gp, 0, none⟩)), MP.is (.pointer (some ⟨gp, 0, none⟩)), MP.is (.pointer (some ⟨gp, 0, none⟩)), MP.is (.pointer (some ⟨gp, 10, none⟩)), MP.is (.int .i64 (hd : Int)), MP.is (.int .i64 ((hd : Int) + 1)), MP.is (.pointer (some ⟨gp, 0, none⟩)), MP.is (.pointer (some ⟨gp, 0, none⟩)), MP.is (.pointer (some ⟨gp, 4, none⟩)), MP.is (.int .i64 (P.most : Int)), MP.is (.int .i64 (nx : Int)), MP.is (.pointer (some ⟨gp, 0, none⟩)), MP.is (.pointer (some ⟨gp, 10, none⟩)), MP.any]
    (fun j => j == 13) #[true, true, true, true, true, true, true, true, true, true, true, true, true, false] rfl (by kernel_rfl) rfl (by kernel_rfl) (by kernel_rfl) (by kernel_rfl) (by kernel_rfl) (fun _ => undef) (by rfl) ?hR02 ?hAA2 ?hst2 ?hend2
   case hR02 =>
    intro j hj
    have hj2 : j ∈ [] := hj
    cases hj2
   case hAA2 =>
    intro f
    conv => lhs; simp only [putA, dstOf, List.size_toArray, List.length_cons, List.length_nil, Nat.zero_add, Nat.reduceAdd, List.getElem?_toArray, List.getElem?_cons_zero, List.getElem?_cons_succ, Option.bind_some, Act.put, List.setIfInBounds_toArray, List.set_cons_zero, List.set_cons_succ]
    first | done | exact rfl
   case hst2 =>
    refine Steps.of_list (l' := [0, 1, 2, 3, 4, 5, 6, 7, 8, 9, 10, 11, 12]) (by kernel_rfl) ?_
    refine Steps.cons rfl ?_ ?_
    ·intro f wz hB h K Q hK
     clear h
     try simp only [List.getElem_toArray, List.getElem_cons_zero]
     try rw [if_pos (by rfl)]
     go_simp
     exact hK _ _ (gr_refl _) rfl
    refine Steps.cons rfl ?_ ?_
    ·intro f wz hB h K Q hK
     clear h
     try rw [if_pos (by rfl)]
     go_simp
     exact hK _ _ (gr_refl _) rfl
    refine Steps.cons rfl ?_ ?_
    ·intro f wz hB h K Q hK
     have h1 : (MP.is (.pointer (some ⟨gp, 0, none⟩))).p (f 1) wz := h 1 (by kernel_rfl)
     have e1 : f 1 = (.pointer (some ⟨gp, 0, none⟩)) := h1
     simp only [e1] at hK ⊢
     clear e1
     clear h
     try rw [if_pos (by rfl)]
     go_simp
     exact hK _ _ (gr_refl _) rfl
    refine Steps.cons rfl ?_ ?_
    ·intro f wz hB h K Q hK
     have h2 : (MP.is (.pointer (some ⟨gp, 0, none⟩))).p (f 2) wz := h 2 (by kernel_rfl)
     have e2 : f 2 = (.pointer (some ⟨gp, 0, none⟩)) := h2
     simp only [e2] at hK ⊢
     clear e2
     clear h
     try rw [if_pos (by rfl)]
     go_simp
     exact hK _ _ (gr_refl _) rfl
    refine Steps.cons rfl ?_ ?_
    ·intro f wz hB h K Q hK
     have h3 : (MP.is (.pointer (some ⟨gp, 10, none⟩))).p (f 3) wz := h 3 (by kernel_rfl)
     have e3 : f 3 = (.pointer (some ⟨gp, 10, none⟩)) := h3
     simp only [e3] at hK ⊢
     clear e3
     clear h
     try rw [if_pos (by rfl)]
     have y0 := keep_of_below hB k4.out
     have y1 := keep_of_below hB k10.out
     go_simp
     exact hK _ _ (gr_refl _) rfl
    refine Steps.cons rfl ?_ ?_
    ·intro f wz hB h K Q hK
     have h4 : (MP.is (.int .i64 (hd : Int))).p (f 4) wz := h 4 (by kernel_rfl)
     have e4 : f 4 = (.int .i64 (hd : Int)) := h4
     simp only [e4] at hK ⊢
     clear e4
     clear h
     try rw [if_pos (by rfl)]
     go_simp
     exact hK _ _ (gr_refl _) rfl
    refine Steps.cons rfl ?_ ?_
    ·intro f wz hB h K Q hK
     clear h
     try rw [if_pos (by rfl)]
     go_simp
     exact hK _ _ (gr_refl _) rfl
    refine Steps.cons rfl ?_ ?_
    ·intro f wz hB h K Q hK
     have h6 : (MP.is (.pointer (some ⟨gp, 0, none⟩))).p (f 6) wz := h 6 (by kernel_rfl)
     have e6 : f 6 = (.pointer (some ⟨gp, 0, none⟩)) := h6
     simp only [e6] at hK ⊢
     clear e6
     clear h
     try rw [if_pos (by rfl)]
     go_simp
     exact hK _ _ (gr_refl _) rfl
    refine Steps.cons rfl ?_ ?_
    ·intro f wz hB h K Q hK
     have h7 : (MP.is (.pointer (some ⟨gp, 0, none⟩))).p (f 7) wz := h 7 (by kernel_rfl)
     have e7 : f 7 = (.pointer (some ⟨gp, 0, none⟩)) := h7
     simp only [e7] at hK ⊢
     clear e7
     clear h
     try rw [if_pos (by rfl)]
     go_simp
     exact hK _ _ (gr_refl _) rfl
    refine Steps.cons rfl ?_ ?_
    ·intro f wz hB h K Q hK
     have h8 : (MP.is (.pointer (some ⟨gp, 4, none⟩))).p (f 8) wz := h 8 (by kernel_rfl)
     have e8 : f 8 = (.pointer (some ⟨gp, 4, none⟩)) := h8
     simp only [e8] at hK ⊢
     clear e8
     clear h
     try rw [if_pos (by rfl)]
     have y0 := keep_of_below hB k4.out
     have y1 := keep_of_below hB k10.out
     go_simp
     exact hK _ _ (gr_refl _) rfl
    refine Steps.cons rfl ?_ ?_
    ·intro f wz hB h K Q hK
     have h5 : (MP.is (.int .i64 ((hd : Int) + 1))).p (f 5) wz := h 5 (by kernel_rfl)
     have e5 : f 5 = (.int .i64 ((hd : Int) + 1)) := h5
     have h9 : (MP.is (.int .i64 (P.most : Int))).p (f 9) wz := h 9 (by kernel_rfl)
     have e9 : f 9 = (.int .i64 (P.most : Int)) := h9
     simp only [e5, e9] at hK ⊢
     clear e5 e9
     clear h
     try rw [if_pos (by rfl)]
     go_simp
     exact hK _ _ (gr_refl _) rfl
    refine Steps.cons rfl ?_ ?_
    ·intro f wz hB h K Q hK
     have h0 : (MP.is (.pointer (some ⟨gp, 0, none⟩))).p (f 0) wz := h 0 (by kernel_rfl)
     have e0 : f 0 = (.pointer (some ⟨gp, 0, none⟩)) := h0
     simp only [e0] at hK ⊢
     clear e0
     clear h
     try rw [if_pos (by rfl)]
     go_simp
     exact hK _ _ (gr_refl _) rfl
    refine Steps.cons rfl ?_ ?_
    ·intro f wz hB h K Q hK
     have h11 : (MP.is (.pointer (some ⟨gp, 0, none⟩))).p (f 11) wz := h 11 (by kernel_rfl)
     have e11 : f 11 = (.pointer (some ⟨gp, 0, none⟩)) := h11
     simp only [e11] at hK ⊢
     clear e11
     clear h
     try rw [if_pos (by rfl)]
     go_simp
     exact hK _ _ (gr_refl _) rfl
    exact Steps.nil
   intro f w5 hB5 hR
   conv => arg 7; simp only [putL, dstOf, List.size_toArray, List.length_cons, List.length_nil, Nat.zero_add, Nat.reduceAdd, List.getElem?_toArray, List.getElem?_cons_zero, List.getElem?_cons_succ, Option.bind_some, Act.put, List.setIfInBounds_toArray, List.set_cons_zero, List.set_cons_succ, Array.getD_eq_getD_getElem?, Option.getD_some, if_true, if_false, Bool.false_eq_true]
   have e0 : f 0 = (.pointer (some ⟨gp, 0, none⟩)) := hR 0 (by decide) rfl
   have e1 : f 1 = (.pointer (some ⟨gp, 0, none⟩)) := hR 1 (by decide) rfl
   have e2 : f 2 = (.pointer (some ⟨gp, 0, none⟩)) := hR 2 (by decide) rfl
   have e3 : f 3 = (.pointer (some ⟨gp, 10, none⟩)) := hR 3 (by decide) rfl
   have e4 : f 4 = (.int .i64 (hd : Int)) := hR 4 (by decide) rfl
   have e5 : f 5 = (.int .i64 ((hd : Int) + 1)) := hR 5 (by decide) rfl
   have e6 : f 6 = (.pointer (some ⟨gp, 0, none⟩)) := hR 6 (by decide) rfl
   have e7 : f 7 = (.pointer (some ⟨gp, 0, none⟩)) := hR 7 (by decide) rfl
   have e8 : f 8 = (.pointer (some ⟨gp, 4, none⟩)) := hR 8 (by decide) rfl
   have e9 : f 9 = (.int .i64 (P.most : Int)) := hR 9 (by decide) rfl
   have e10 : f 10 = (.int .i64 (nx : Int)) := hR 10 (by decide) rfl
   have e11 : f 11 = (.pointer (some ⟨gp, 0, none⟩)) := hR 11 (by decide) rfl
   have e12 : f 12 = (.pointer (some ⟨gp, 10, none⟩)) := hR 12 (by decide) rfl
   simp only [e0, e1, e2, e3, e4, e5, e6, e7, e8, e9, e10, e11, e12]
   clear e0 e1 e2 e3 e4 e5 e6 e7 e8 e9 e10 e11 e12 hR
   have HX5 : Hid (PX w5 b0 gp gd wv D { P with fr := fr.set hd { fr.getD hd fr0 with used := false }, hand := hd } F (.slice (some ⟨tb, 0, none⟩) q.length c) mb (q'.set hd ({ p.1 with used := false }, p.2))) := Lib.hid (HX3.out.below (Below.trans (gr_drewN (gr_refl w3) 1) hB5))
   have HO5 : Hid (Off (fun k => k = gp ∨ k = tb) w1 w5) := Lib.hid (HO3.out.trans (Off.of_below (Below.trans (gr_drewN (gr_refl w3) 1) hB5)))
   have z10 := HX5.out.pb.frozen 10
   have y10 : w5.cell? ⟨gp, 10, none⟩ = some (.int .i64 (hd : Int)) := HX5.out.pb.c10
   have hx6 : PX (w5.setCell ⟨gp, 10, none⟩ (.int .i64 (nx : Int))) b0 gp gd wv D { P with fr := fr.set hd { fr.getD hd fr0 with used := false }, hand := nx } F (.slice (some ⟨tb, 0, none⟩) q.length c) mb (q'.set hd ({ p.1 with used := false }, p.2)) := by
    have hx := HX5.out
    have e : (q'.set hd ({ p.1 with used := false }, p.2)).length = q.length := by rw [List.length_set, HL2.out]
    rw [← e] at hx ⊢
    exact hx.handed hnl
   have HX6 := Lib.hid hx6
   have HO6 : Hid (Off (fun k => k = gp ∨ k = tb) w1 (w5.setCell ⟨gp, 10, none⟩ (.int .i64 (nx : Int)))) := Lib.hid (HO5.out.setCell _ (.inl rfl))
   clear hx6 hB5 k4 k10
   refine wpAny_of_held (S := fun _ => True) _ _ _ _ ?_
   refine wpAnyH_ready (rs := [13]) (by kernel_rfl) (by simp) ?_
   refine AllReadyH.cons rfl (fun KK hK => ?_) AllReadyH.nil
   rw [if_pos (by rfl)]
   go_simp
   refine hK.out _ _ trivial (fun _ => ?_)
   clear hK KK
   try simp only [List.setIfInBounds_toArray, List.set_cons_zero, List.set_cons_succ]
   refine wpAnyH_done (by kernel_rfl) ?_ _
   go_wp2_with fail
   go_roundw
   case rel =>
    refine ⟨_, nx, _, HX6, Lib.hid ?_, Lib.hid ?_, HO6⟩
    ·rw [← HSP.out, spin_step (by rw [HFL.out, HL2.out]; exact hhd) HU.out, HNX.out]
    ·rw [List.map_set, ← HQ2.out]
     refine List.ext_getElem? fun j => ?_
     rw [List.getElem?_set]
     split
     ·rename_i e
      subst e
      rw [if_pos (by simp; rw [HL2.out]; exact hhd), List.getElem?_map, HP.out]
      rfl
     ·rfl
   case measure =>
    have hx := HX6.out
    have e : (q'.set hd ({ p.1 with used := false }, p.2)).length = q.length := by rw [List.length_set, HL2.out]
    rw [← e] at hx
    have h1 := hx.usedW
    rw [e] at h1
    rw [h1, HMW.out]
    have := usedN_set (fr := fr) (h := hd) (by rw [HFL.out, HL2.out]; exact hhd) HU.out
    show usedN (fr.set hd { fr.getD hd fr0 with used := false }) < usedN fr
    omega
  | false =>
   rw [hu] at f4
   have HU : Hid ((fr.getD hd fr0).used = false) := Lib.hid (by rw [HPF.out]; exact hu)
   have HSPN : Hid (spun P = { P with fr := fr, hand := hd }) := Lib.hid (by
    unfold spun
    rw [← HSP.out, spin_stop HU.out])
   have HHR := Lib.hid (show holdR D P nf = _ from rfl)
   have HHE : Hid (holdR D P nf = if (fr.getD hd fr0).dirty then (if (writeR D { P with fr := fr, hand := hd } hd).2.2 ≠ 0 then writeR D { P with fr := fr, hand := hd } hd else ((writeR D { P with fr := fr, hand := hd } hd).1, putP (writeR D { P with fr := fr, hand := hd } hd).2.1 nf, 0)) else (D, putP { P with fr := fr, hand := hd } nf, 0)) := Lib.hid (by
    unfold holdR
    rw [if_neg (by have := HMQ.out; omega), HSPN.out])
   obtain ⟨Ps, hPs⟩ : ∃ Ps : PoS, Ps = { P with fr := fr, hand := hd } := ⟨_, rfl⟩
   rw [← hPs] at HHE
   have HXs : Hid (PX wr b0 gp gd wv D Ps F (.slice (some ⟨tb, 0, none⟩) q.length c) mb q') := Lib.hid (by rw [hPs]; exact HXr.out)
   have HPs : Hid (Ps.hand = hd ∧ Ps.most = P.most ∧ Ps.pages = P.pages ∧ Ps.fr.map FrS.page = P.fr.map FrS.page ∧ Ps.count = P.count) := Lib.hid (by
    rw [hPs]
    refine ⟨rfl, rfl, rfl, ?_, rfl⟩
    have := spun_pages P
    rw [HSPN.out] at this
    exact this)
   have HD3 : Hid ((fr.getD hd fr0).dirty = p.1.dirty) := Lib.hid (by rw [HPF.out])
   have HOS : Hid (Off (PS gp F (.slice (some ⟨tb, 0, none⟩) q.length c) mb q) w wr) := Lib.hid ((Off.of_below HB1q.out).trans (HO.out.mono fun k _ e => by
    rcases e with e | e
    ·exact .inr (.inl e)
    ·subst e
     exact .inr (.inr (.inr (.inl rfl)))))
   have HPS : Hid (∀ (F' : Nat → Prop) (q4 : List FV) (k : Nat), q4.map Prod.snd = q.map Prod.snd → PS gp F' (.slice (some ⟨tb, 0, none⟩) q.length c) mb q4 k → PS gp F' (.slice (some ⟨tb, 0, none⟩) q.length c) mb q k) := Lib.hid (fun F' q4 k hq => PS.snd hq)
   have HFRr : Hid (wr.heap[w.heap.size]? = some (.cells #[.int .i64 (nf.page : Int), .slice Av 4080 cv, .int .i64 nf.lsn, .bool nf.dirty, .bool nf.used] 157 (0, 0))) := Lib.hid ((HO.out.block _ (Array.getElem?_eq_some_iff.1 HFR.out).1 (fun e => by
    have := HTB.out
    rcases e with e | e <;> omega)).trans HFR.out)
   have HQN : Hid (hd < q'.length ∧ q'.length = q.length) := Lib.hid ⟨by rw [HL2.out]; exact hhd, HL2.out⟩
   clear hu hPs HXr HSP
   cases hdt : p.1.dirty with
   | true =>
    rw [hdt] at f3
    have HDT : Hid ((fr.getD hd fr0).dirty = true) := Lib.hid (by rw [HPF.out]; exact hdt)
    clear hdt
    have HWC := Lib.hid (fun (n : Nat) => pwrite_any (HXs.out.below (gr_drewN (gr_refl wr) n)) HL.out hd (by have := HXs.out.qf; rw [← this, List.length_map]; exact HQN.out.1) hpd (by rw [HPs.out.2.2.2.2]; exact hct))
    obtain ⟨r4, hr4⟩ : ∃ r, r = writeR D Ps hd := ⟨_, rfl⟩
    have HSH := Lib.hid (writeR_shape D Ps hd)
    have HWPG := Lib.hid (writeR_pages D Ps hd)
    rw [← hr4] at HHE HWC HSH HWPG
    obtain ⟨D4, P4, e4⟩ := r4
    dsimp only at HSH HWPG HHE HWC
    go_upto_region 10 with (go_quiet (fail))
    go_wp2_with fail
    refine (HWC.out nq).mono ?_
    rintro e w4 ⟨rfl, F4, q4, hx4, hq4, ho4, hs4, hF4⟩
    have HX4 := Lib.hid hx4
    have HQ4 : Hid (q4.map Prod.snd = q.map Prod.snd) := Lib.hid (hq4.trans HQ2.out)
    have HOV : Hid (Off (PS gp F (.slice (some ⟨tb, 0, none⟩) q.length c) mb q) w w4) := Lib.hid ((HOS.out.drewN nq).trans (ho4.mono fun k _ e => HPS.out F q' k HQ2.out e))
    have HSV : Hid (∀ k, PS gp F4 (.slice (some ⟨tb, 0, none⟩) q.length c) mb q4 k → PS gp F (.slice (some ⟨tb, 0, none⟩) q.length c) mb q k ∨ w.heap.size ≤ k) := Lib.hid (fun k e => (hs4 k e).imp (HPS.out F q' k HQ2.out) (fun e => Nat.le_trans HOS.out.size e))
    have HFRt : Hid (w4.heap[w.heap.size]? = some (.cells #[.int .i64 (nf.page : Int), .slice Av 4080 cv, .int .i64 nf.lsn, .bool nf.dirty, .bool nf.used] 157 (0, 0))) := Lib.hid ((ho4.block _ (Array.getElem?_eq_some_iff.1 HFRr.out).1 (fun e => by
     have := HX.out.lt (HPS.out F q' _ HQ2.out e)
     omega)).trans HFRr.out)
    have HSZ : Hid (w.heap.size ≤ w4.heap.size) := Lib.hid HOV.out.size
    have HP4 : Hid (P4.hand = hd ∧ P4.most = P.most ∧ P4.pages = P.pages ∧ P4.fr.map FrS.page = P.fr.map FrS.page) := Lib.hid ⟨by rw [HSH.out.2.1]; exact HPs.out.1, by rw [HSH.out.1]; exact HPs.out.2.1, by rw [HSH.out.2.2.1]; exact HPs.out.2.2.1, by rw [HWPG.out]; exact HPs.out.2.2.2.1⟩
    have HF4 : Hid (∀ k, F4 k → F k ∨ w.heap.size ≤ k) := Lib.hid (fun k e => (hF4 k e).imp id (fun e => Nat.le_trans HOS.out.size e))
    clear hx4 hq4 ho4 hs4 hr4 HWC hF4
    by_cases he4 : e4 = 0
    ·subst he4
     have HH4 : Hid (holdR D P nf = (D4, putP P4 nf, 0)) := Lib.hid (by
      rw [HHE.out, if_pos HDT.out]
      exact if_neg (by decide))
     clear f3
     go_upto_region 13 with fail
     have HQN4 : Hid (q4.length = q.length) := Lib.hid (by have := congrArg List.length HQ4.out; simpa using this)
     have HPL4 : Hid (P4.fr.length = q.length) := Lib.hid (by have := congrArg List.length HX4.out.qf; rw [List.length_map] at this; rw [← this, HQN4.out])
     obtain ⟨p4, hp4⟩ : ∃ p4, q4[hd]? = some p4 := ⟨_, List.getElem?_eq_getElem (by rw [HQN4.out]; exact hhd)⟩
     have HP44 := Lib.hid hp4
     have k8 := Lib.hid HX4.out.pb.c8
     have k9 := Lib.hid HX4.out.pb.c9
     have kp := Lib.hid (fr_cells HX4.out.tk hp4).1
     clear hp4
     refine wp_region_any (by kernel_rfl) ?_
     refine' wpAny_to_tail (l0 := #[false, false, false, false, false, false, false, false, false, false, false, false, false]) (by kernel_rfl) (by kernel_rfl) (by kernel_rfl) (by kernel_rfl) (by kernel_rfl)
      [MP.is (.pointer (some ⟨gp, 0, none⟩)), MP.is (.pointer (some ⟨gp, 0, none⟩)), MP.is (.pointer (some ⟨gp, 9, none⟩)), MP.is (.map (some mb)), MP.is (.pointer (some ⟨gp, 0, none⟩)), MP.is (.pointer (some ⟨gp, 0, none⟩)), MP.is (.pointer (some ⟨gp, 8, none⟩)), MP.is (.slice (some ⟨tb, 0, none⟩) q.length c), MP.is (.int .i64 (hd : Int)), MP.is (.pointer (some ⟨tb, hd * 5, none⟩)), MP.is (.pointer (some ⟨tb, hd * 5, none⟩)), MP.is (.int .i64 (p4.1.page : Int)), MP.any]
      (fun j => j == 12) #[true, true, true, true, true, true, true, true, true, true, true, true, false] rfl (by kernel_rfl) rfl (by kernel_rfl) (by kernel_rfl) (by kernel_rfl) (by kernel_rfl) (fun _ => undef) (by rfl) ?hR03 ?hAA3 ?hst3 ?hend3
     case hR03 =>
      intro j hj
      have hj2 : j ∈ [] := hj
      cases hj2
     case hAA3 =>
      intro f
      conv => lhs; simp only [putA, dstOf, List.size_toArray, List.length_cons, List.length_nil, Nat.zero_add, Nat.reduceAdd, List.getElem?_toArray, List.getElem?_cons_zero, List.getElem?_cons_succ, Option.bind_some, Act.put, List.setIfInBounds_toArray, List.set_cons_zero, List.set_cons_succ]
      first | done | exact rfl
     case hst3 =>
      refine Steps.of_list (l' := [0, 1, 2, 3, 4, 5, 6, 7, 8, 9, 10, 11]) (by kernel_rfl) ?_
      refine Steps.cons rfl ?_ ?_
      ·intro f wz hB h K Q hK
       clear h
       try simp only [List.getElem_toArray, List.getElem_cons_zero]
       try rw [if_pos (by rfl)]
       go_simp
       exact hK _ _ (gr_refl _) rfl
      refine Steps.cons rfl ?_ ?_
      ·intro f wz hB h K Q hK
       have h0 : (MP.is (.pointer (some ⟨gp, 0, none⟩))).p (f 0) wz := h 0 (by kernel_rfl)
       have e0 : f 0 = (.pointer (some ⟨gp, 0, none⟩)) := h0
       simp only [e0] at hK ⊢
       clear e0
       clear h
       try rw [if_pos (by rfl)]
       go_simp
       exact hK _ _ (gr_refl _) rfl
      refine Steps.cons rfl ?_ ?_
      ·intro f wz hB h K Q hK
       have h1 : (MP.is (.pointer (some ⟨gp, 0, none⟩))).p (f 1) wz := h 1 (by kernel_rfl)
       have e1 : f 1 = (.pointer (some ⟨gp, 0, none⟩)) := h1
       simp only [e1] at hK ⊢
       clear e1
       clear h
       try rw [if_pos (by rfl)]
       go_simp
       exact hK _ _ (gr_refl _) rfl
      refine Steps.cons rfl ?_ ?_
      ·intro f wz hB h K Q hK
       have h2 : (MP.is (.pointer (some ⟨gp, 9, none⟩))).p (f 2) wz := h 2 (by kernel_rfl)
       have e2 : f 2 = (.pointer (some ⟨gp, 9, none⟩)) := h2
       simp only [e2] at hK ⊢
       clear e2
       clear h
       try rw [if_pos (by rfl)]
       have y0 := keep_of_below hB k8.out
       have y1 := keep_of_below hB k9.out
       have y2 := keep_of_below hB kp.out
       go_simp
       exact hK _ _ (gr_refl _) rfl
      refine Steps.cons rfl ?_ ?_
      ·intro f wz hB h K Q hK
       clear h
       try rw [if_pos (by rfl)]
       go_simp
       exact hK _ _ (gr_refl _) rfl
      refine Steps.cons rfl ?_ ?_
      ·intro f wz hB h K Q hK
       have h4 : (MP.is (.pointer (some ⟨gp, 0, none⟩))).p (f 4) wz := h 4 (by kernel_rfl)
       have e4 : f 4 = (.pointer (some ⟨gp, 0, none⟩)) := h4
       simp only [e4] at hK ⊢
       clear e4
       clear h
       try rw [if_pos (by rfl)]
       go_simp
       exact hK _ _ (gr_refl _) rfl
      refine Steps.cons rfl ?_ ?_
      ·intro f wz hB h K Q hK
       have h5 : (MP.is (.pointer (some ⟨gp, 0, none⟩))).p (f 5) wz := h 5 (by kernel_rfl)
       have e5 : f 5 = (.pointer (some ⟨gp, 0, none⟩)) := h5
       simp only [e5] at hK ⊢
       clear e5
       clear h
       try rw [if_pos (by rfl)]
       go_simp
       exact hK _ _ (gr_refl _) rfl
      refine Steps.cons rfl ?_ ?_
      ·intro f wz hB h K Q hK
       have h6 : (MP.is (.pointer (some ⟨gp, 8, none⟩))).p (f 6) wz := h 6 (by kernel_rfl)
       have e6 : f 6 = (.pointer (some ⟨gp, 8, none⟩)) := h6
       simp only [e6] at hK ⊢
       clear e6
       clear h
       try rw [if_pos (by rfl)]
       have y0 := keep_of_below hB k8.out
       have y1 := keep_of_below hB k9.out
       have y2 := keep_of_below hB kp.out
       go_simp
       exact hK _ _ (gr_refl _) rfl
      refine Steps.cons rfl ?_ ?_
      ·intro f wz hB h K Q hK
       clear h
       try rw [if_pos (by rfl)]
       go_simp
       exact hK _ _ (gr_refl _) rfl
      refine Steps.cons rfl ?_ ?_
      ·intro f wz hB h K Q hK
       have h7 : (MP.is (.slice (some ⟨tb, 0, none⟩) q.length c)).p (f 7) wz := h 7 (by kernel_rfl)
       have e7 : f 7 = (.slice (some ⟨tb, 0, none⟩) q.length c) := h7
       have h8 : (MP.is (.int .i64 (hd : Int))).p (f 8) wz := h 8 (by kernel_rfl)
       have e8 : f 8 = (.int .i64 (hd : Int)) := h8
       simp only [e7, e8] at hK ⊢
       clear e7 e8
       clear h
       try rw [if_pos (by rfl)]
       go_simp
       exact hK _ _ (gr_refl _) rfl
      refine Steps.cons rfl ?_ ?_
      ·intro f wz hB h K Q hK
       have h9 : (MP.is (.pointer (some ⟨tb, hd * 5, none⟩))).p (f 9) wz := h 9 (by kernel_rfl)
       have e9 : f 9 = (.pointer (some ⟨tb, hd * 5, none⟩)) := h9
       simp only [e9] at hK ⊢
       clear e9
       clear h
       try rw [if_pos (by rfl)]
       go_simp
       exact hK _ _ (gr_refl _) rfl
      refine Steps.cons rfl ?_ ?_
      ·intro f wz hB h K Q hK
       have h10 : (MP.is (.pointer (some ⟨tb, hd * 5, none⟩))).p (f 10) wz := h 10 (by kernel_rfl)
       have e10 : f 10 = (.pointer (some ⟨tb, hd * 5, none⟩)) := h10
       simp only [e10] at hK ⊢
       clear e10
       clear h
       try rw [if_pos (by rfl)]
       have y0 := keep_of_below hB k8.out
       have y1 := keep_of_below hB k9.out
       have y2 := keep_of_below hB kp.out
       go_simp
       exact hK _ _ (gr_refl _) rfl
      exact Steps.nil
     intro f w5 hB5 hR
     conv => arg 7; simp only [putL, dstOf, List.size_toArray, List.length_cons, List.length_nil, Nat.zero_add, Nat.reduceAdd, List.getElem?_toArray, List.getElem?_cons_zero, List.getElem?_cons_succ, Option.bind_some, Act.put, List.setIfInBounds_toArray, List.set_cons_zero, List.set_cons_succ, Array.getD_eq_getD_getElem?, Option.getD_some, if_true, if_false, Bool.false_eq_true]
     have e0 : f 0 = (.pointer (some ⟨gp, 0, none⟩)) := hR 0 (by decide) rfl
     have e1 : f 1 = (.pointer (some ⟨gp, 0, none⟩)) := hR 1 (by decide) rfl
     have e2 : f 2 = (.pointer (some ⟨gp, 9, none⟩)) := hR 2 (by decide) rfl
     have e3 : f 3 = (.map (some mb)) := hR 3 (by decide) rfl
     have e4 : f 4 = (.pointer (some ⟨gp, 0, none⟩)) := hR 4 (by decide) rfl
     have e5 : f 5 = (.pointer (some ⟨gp, 0, none⟩)) := hR 5 (by decide) rfl
     have e6 : f 6 = (.pointer (some ⟨gp, 8, none⟩)) := hR 6 (by decide) rfl
     have e7 : f 7 = (.slice (some ⟨tb, 0, none⟩) q.length c) := hR 7 (by decide) rfl
     have e8 : f 8 = (.int .i64 (hd : Int)) := hR 8 (by decide) rfl
     have e9 : f 9 = (.pointer (some ⟨tb, hd * 5, none⟩)) := hR 9 (by decide) rfl
     have e10 : f 10 = (.pointer (some ⟨tb, hd * 5, none⟩)) := hR 10 (by decide) rfl
     have e11 : f 11 = (.int .i64 (p4.1.page : Int)) := hR 11 (by decide) rfl
     simp only [e0, e1, e2, e3, e4, e5, e6, e7, e8, e9, e10, e11]
     clear e0 e1 e2 e3 e4 e5 e6 e7 e8 e9 e10 e11 hR
     have HB5 : Hid (Below w4.heap.size w4 w5) := Lib.hid (Below.trans (gr_drewN (gr_refl w4) 1) hB5)
     have HX5 := Lib.hid (HX4.out.below HB5.out)
     have HPA : Hid ((P4.fr.map FrS.page)[hd]? = some p4.1.page) := Lib.hid (by
      rw [← HX5.out.qf, List.getElem?_map, List.getElem?_map, HP44.out]
      rfl)
     have hpl4 : p4.1.page ≤ 4096 := by
      have h1 := HX5.out.pi.fit
      have h2 := HX5.out.pi.d2
      have h3 := (HX5.out.pi.ok p4.1 (by rw [← HX5.out.qf]; exact List.mem_map_of_mem (List.mem_of_getElem? HP44.out))).1
      omega
     obtain ⟨n4, hn4⟩ : ∃ n4, q.length = n4 + 1 := ⟨q.length - 1, by omega⟩
     have hmp5 := HX5.out.mp
     rw [HPL4.out, hn4] at hmp5
     have hat : idxF (P4.fr.map FrS.page) (p4.1.page : Int) = some (hd : Int) := by
      unfold idxF
      rw [if_neg (by omega), Int.toNat_natCast, (idx_some HX5.out.pi.nd).2 HPA.out]
      rfl
     obtain ⟨w6, hdel, hmq6, hgr6⟩ := hmp5.del (k := (p4.1.page : Int)) (by omega) (by omega) hat 0
     have HMQ6 := Lib.hid hmq6
     have HGR6 := Lib.hid hgr6
     have HN4 := Lib.hid hn4
     clear hmp5 hat hmq6 hgr6 hB5 k8 k9 kp hn4
     refine wpAny_of_held (S := fun _ => True) _ _ _ _ ?_
     refine wpAnyH_ready (rs := [12]) (by kernel_rfl) (by simp) ?_
     refine AllReadyH.cons rfl (fun KK hK => ?_) AllReadyH.nil
     rw [if_pos (by rfl)]
     go_simp
     refine hK.out _ _ trivial (fun _ => ?_)
     clear hK KK
     try simp only [List.setIfInBounds_toArray, List.set_cons_zero, List.set_cons_succ]
     refine wpAnyH_done (by kernel_rfl) ?_ _
     clear hdel
     have o56 : Hid (Off (· = mb) w5 w6) := Lib.hid (Off.of_grown HGR6.out (fun k e => by injection e with e; exact e.symm))
     have HPB6 : Hid (PB w6 gp gd wv false (.slice (some ⟨tb, 0, none⟩) q.length c) mb P4) := Lib.hid (HX5.out.pb.off o56.out (fun e => HX5.out.mp.notCells HX5.out.pb e.symm))
     have HTK6 : Hid (EO EF 5 157 w6 b0 (.slice (some ⟨tb, 0, none⟩) q.length c) q4) := Lib.hid (ownsRow_off HX5.out.tk o56.out (fun k hk e => by
      obtain ⟨cur, hc⟩ := own_blk HX5.out.tk hk
      exact HX5.out.mp.notCells hc e.symm))
     have HFV5 : Hid (OB w5 b0 (.slice Av 4080 cv) nf.pay) := Lib.hid ((HF.out.ow.off HOV.out (fun k e e2 => HDJ.out k e e2)).below HB5.out)
     have HDV5 : Hid (DV w5 b0 gd F4 D4 (q4 ++ [(nf, .slice Av 4080 cv)])) := Lib.hid ⟨HX5.out.dk, fun x hx => by
      rcases List.mem_append.1 hx with hx | hx
      ·exact HX5.out.pv x hx
      ·rw [List.mem_singleton.1 hx]
       exact HFV5.out⟩
     have HDV6 := Lib.hid (HDV5.out.nb o56.out (fun k e => by rw [e]; exact HX5.out.mp.nb))
     have HFR6 : Hid (w6.heap[w.heap.size]? = some (.cells #[.int .i64 (nf.page : Int), .slice Av 4080 cv, .int .i64 nf.lsn, .bool nf.dirty, .bool nf.used] 157 (0, 0))) := Lib.hid (by
      have h2 := (HB5.out.block _ (Array.getElem?_eq_some_iff.1 HFRt.out).1).trans HFRt.out
      exact (HGR6.out.block _ (Array.getElem?_eq_some_iff.1 h2).1 (fun e => HX5.out.mp.notCells h2 (Option.some.inj e).symm)).trans h2)
     have kf : ∀ j u, #[.int .i64 (nf.page : Int), .slice Av 4080 cv, .int .i64 nf.lsn, .bool nf.dirty, .bool nf.used][j]? = some u → w6.cell? ⟨w.heap.size, j, none⟩ = some u := fun j u hj => by rw [cell_of_row w6 _ j _ _ _ HFR6.out]; exact hj
     have kf0 := Lib.hid (kf 0 _ rfl)
     have kf1 := Lib.hid (kf 1 _ rfl)
     have kf2 := Lib.hid (kf 2 _ rfl)
     have kf3 := Lib.hid (kf 3 _ rfl)
     have kf4 := Lib.hid (kf 4 _ rfl)
     have k8 := Lib.hid HPB6.out.c8
     clear kf
     go_upto_region 14 with fail
     refine wp_region_any (by kernel_rfl) ?_
     refine' wpAny_to_tail (l0 := #[false, false, false, false, false, false, false, false]) (by kernel_rfl) (by kernel_rfl) (by kernel_rfl) (by kernel_rfl) (by kernel_rfl)
      [MP.is (.pointer (some ⟨gp, 0, none⟩)), MP.is (.pointer (some ⟨gp, 0, none⟩)), MP.is (.pointer (some ⟨gp, 8, none⟩)), MP.is (.slice (some ⟨tb, 0, none⟩) q.length c), MP.is (.int .i64 (hd : Int)), MP.is (.agg #[.int .i64 (nf.page : Int), .slice Av 4080 cv, .int .i64 nf.lsn, .bool nf.dirty, .bool nf.used]), MP.is (.pointer (some ⟨tb, hd * 5, none⟩)), MP.any]
      (fun j => j == 7) #[true, true, true, true, true, true, true, false] rfl (by kernel_rfl) rfl (by kernel_rfl) (by kernel_rfl) (by kernel_rfl) (by kernel_rfl) (fun _ => undef) (by rfl) ?hR04 ?hAA4 ?hst4 ?hend4
     case hR04 =>
      intro j hj
      have hj2 : j ∈ [] := hj
      cases hj2
     case hAA4 =>
      intro f
      conv => lhs; simp only [putA, dstOf, List.size_toArray, List.length_cons, List.length_nil, Nat.zero_add, Nat.reduceAdd, List.getElem?_toArray, List.getElem?_cons_zero, List.getElem?_cons_succ, Option.bind_some, Act.put, List.setIfInBounds_toArray, List.set_cons_zero, List.set_cons_succ]
      first | done | exact rfl
     case hst4 =>
      refine Steps.of_list (l' := [0, 1, 2, 3, 4, 5, 6]) (by kernel_rfl) ?_
      refine Steps.cons rfl ?_ ?_
      ·intro f wz hB h K Q hK
       clear h
       try simp only [List.getElem_toArray, List.getElem_cons_zero]
       try rw [if_pos (by rfl)]
       go_simp
       exact hK _ _ (gr_refl _) rfl
      refine Steps.cons rfl ?_ ?_
      ·intro f wz hB h K Q hK
       have h0 : (MP.is (.pointer (some ⟨gp, 0, none⟩))).p (f 0) wz := h 0 (by kernel_rfl)
       have e0 : f 0 = (.pointer (some ⟨gp, 0, none⟩)) := h0
       simp only [e0] at hK ⊢
       clear e0
       clear h
       try rw [if_pos (by rfl)]
       go_simp
       exact hK _ _ (gr_refl _) rfl
      refine Steps.cons rfl ?_ ?_
      ·intro f wz hB h K Q hK
       have h1 : (MP.is (.pointer (some ⟨gp, 0, none⟩))).p (f 1) wz := h 1 (by kernel_rfl)
       have e1 : f 1 = (.pointer (some ⟨gp, 0, none⟩)) := h1
       simp only [e1] at hK ⊢
       clear e1
       clear h
       try rw [if_pos (by rfl)]
       go_simp
       exact hK _ _ (gr_refl _) rfl
      refine Steps.cons rfl ?_ ?_
      ·intro f wz hB h K Q hK
       have h2 : (MP.is (.pointer (some ⟨gp, 8, none⟩))).p (f 2) wz := h 2 (by kernel_rfl)
       have e2 : f 2 = (.pointer (some ⟨gp, 8, none⟩)) := h2
       simp only [e2] at hK ⊢
       clear e2
       clear h
       try rw [if_pos (by rfl)]
       have y0 := keep_of_below hB k8.out
       have y1 := keep_of_below hB kf0.out
       have y2 := keep_of_below hB kf1.out
       have y3 := keep_of_below hB kf2.out
       have y4 := keep_of_below hB kf3.out
       have y5 := keep_of_below hB kf4.out
       go_simp
       exact hK _ _ (gr_refl _) rfl
      refine Steps.cons rfl ?_ ?_
      ·intro f wz hB h K Q hK
       clear h
       try rw [if_pos (by rfl)]
       go_simp
       exact hK _ _ (gr_refl _) rfl
      refine Steps.cons rfl ?_ ?_
      ·intro f wz hB h K Q hK
       clear h
       try rw [if_pos (by rfl)]
       have y0 := keep_of_below hB k8.out
       have y1 := keep_of_below hB kf0.out
       have y2 := keep_of_below hB kf1.out
       have y3 := keep_of_below hB kf2.out
       have y4 := keep_of_below hB kf3.out
       have y5 := keep_of_below hB kf4.out
       go_simp
       exact hK _ _ (gr_refl _) rfl
      refine Steps.cons rfl ?_ ?_
      ·intro f wz hB h K Q hK
       have h3 : (MP.is (.slice (some ⟨tb, 0, none⟩) q.length c)).p (f 3) wz := h 3 (by kernel_rfl)
       have e3 : f 3 = (.slice (some ⟨tb, 0, none⟩) q.length c) := h3
       have h4 : (MP.is (.int .i64 (hd : Int))).p (f 4) wz := h 4 (by kernel_rfl)
       have e4 : f 4 = (.int .i64 (hd : Int)) := h4
       simp only [e3, e4] at hK ⊢
       clear e3 e4
       clear h
       try rw [if_pos (by rfl)]
       go_simp
       exact hK _ _ (gr_refl _) rfl
      exact Steps.nil
     intro f w8 hB8 hR
     conv => arg 7; simp only [putL, dstOf, List.size_toArray, List.length_cons, List.length_nil, Nat.zero_add, Nat.reduceAdd, List.getElem?_toArray, List.getElem?_cons_zero, List.getElem?_cons_succ, Option.bind_some, Act.put, List.setIfInBounds_toArray, List.set_cons_zero, List.set_cons_succ, Array.getD_eq_getD_getElem?, Option.getD_some, if_true, if_false, Bool.false_eq_true]
     have e0 : f 0 = (.pointer (some ⟨gp, 0, none⟩)) := hR 0 (by decide) rfl
     have e1 : f 1 = (.pointer (some ⟨gp, 0, none⟩)) := hR 1 (by decide) rfl
     have e2 : f 2 = (.pointer (some ⟨gp, 8, none⟩)) := hR 2 (by decide) rfl
     have e3 : f 3 = (.slice (some ⟨tb, 0, none⟩) q.length c) := hR 3 (by decide) rfl
     have e4 : f 4 = (.int .i64 (hd : Int)) := hR 4 (by decide) rfl
     have e5 : f 5 = (.agg #[.int .i64 (nf.page : Int), .slice Av 4080 cv, .int .i64 nf.lsn, .bool nf.dirty, .bool nf.used]) := hR 5 (by decide) rfl
     have e6 : f 6 = (.pointer (some ⟨tb, hd * 5, none⟩)) := hR 6 (by decide) rfl
     simp only [e0, e1, e2, e3, e4, e5, e6]
     clear e0 e1 e2 e3 e4 e5 e6 hR
     have HB8 : Hid (Below w6.heap.size w6 w8) := Lib.hid (Below.trans (gr_drewN (gr_refl w6) 1) hB8)
     have HTK8 := Lib.hid (EO.below HTK6.out HB8.out)
     obtain ⟨x0, x1, x2, x3, x4⟩ := fr_cells HTK8.out HP44.out
     have y0 := own_frz HTK8.out (hd * 5)
     have y1 := own_frz HTK8.out (hd * 5 + 1)
     have y2 := own_frz HTK8.out (hd * 5 + 2)
     have y3 := own_frz HTK8.out (hd * 5 + 3)
     have y4 := own_frz HTK8.out (hd * 5 + 4)
     have HTK9 : Hid (EO EF 5 157 (((((w8.setCell ⟨tb, hd * 5, none⟩ (.int .i64 (nf.page : Int))).setCell ⟨tb, hd * 5 + 1, none⟩ (.slice Av 4080 cv)).setCell ⟨tb, hd * 5 + 2, none⟩ (.int .i64 nf.lsn)).setCell ⟨tb, hd * 5 + 3, none⟩ (.bool nf.dirty)).setCell ⟨tb, hd * 5 + 4, none⟩ (.bool nf.used)) b0 (.slice (some ⟨tb, 0, none⟩) q.length c) (q4.set hd (nf, .slice Av 4080 cv))) := Lib.hid (fr_setF HTK8.out HP44.out (nf, .slice Av 4080 cv))
     have o89 : Hid (Off (· = tb) w8 (((((w8.setCell ⟨tb, hd * 5, none⟩ (.int .i64 (nf.page : Int))).setCell ⟨tb, hd * 5 + 1, none⟩ (.slice Av 4080 cv)).setCell ⟨tb, hd * 5 + 2, none⟩ (.int .i64 nf.lsn)).setCell ⟨tb, hd * 5 + 3, none⟩ (.bool nf.dirty)).setCell ⟨tb, hd * 5 + 4, none⟩ (.bool nf.used))) := Lib.hid (fr_setF_off w8 tb hd (nf, .slice Av 4080 cv))
     clear k8 kf0 kf1 kf2 kf3 kf4 hB8
     refine wpAny_of_held (S := fun _ => True) _ _ _ _ ?_
     refine wpAnyH_ready (rs := [7]) (by kernel_rfl) (by simp) ?_
     refine AllReadyH.cons rfl (fun KK hK => ?_) AllReadyH.nil
     rw [if_pos (by rfl)]
     go_simp
     refine hK.out _ _ trivial (fun _ => ?_)
     clear hK KK
     try simp only [List.setIfInBounds_toArray, List.set_cons_zero, List.set_cons_succ]
     refine wpAnyH_done (by kernel_rfl) ?_ _
     clear x0 x1 x2 x3 x4 y0 y1 y2 y3 y4
     generalize (((((w8.setCell ⟨tb, hd * 5, none⟩ (.int .i64 (nf.page : Int))).setCell ⟨tb, hd * 5 + 1, none⟩ (.slice Av 4080 cv)).setCell ⟨tb, hd * 5 + 2, none⟩ (.int .i64 nf.lsn)).setCell ⟨tb, hd * 5 + 3, none⟩ (.bool nf.dirty)).setCell ⟨tb, hd * 5 + 4, none⟩ (.bool nf.used)) = w9 at *
     have hntb : ∀ (k : Nat) (cs : Array Value) (t : TypeId) (r : Nat × Nat), w8.heap[k]? = some (.cells cs t r) → t ≠ 157 → k ≠ tb := fun k cs t r hc hn e => by
      subst e
      obtain ⟨cur, hc2⟩ := own_blk HTK8.out rfl
      rw [hc] at hc2
      injection hc2 with hc2
      injection hc2 with _ hc2 _
      exact hn hc2
     have HPB8 := Lib.hid (HPB6.out.below HB8.out)
     have HPB9 : Hid (PB w9 gp gd wv false (.slice (some ⟨tb, 0, none⟩) q.length c) mb P4) := Lib.hid (HPB8.out.off o89.out (hntb _ _ _ _ HPB8.out (by decide)))
     have HMQ8 := Lib.hid (HMQ6.out.below HB8.out)
     have HMQ9 := Lib.hid (HMQ8.out.off o89.out (fun e => by obtain ⟨cur, hc2⟩ := own_blk HTK8.out rfl; exact HMQ8.out.notCells hc2 e))
     have HDV9 := Lib.hid ((HDV6.out.below HB8.out).nb o89.out (fun k e => by rw [e]; exact EO.nb HTK8.out rfl))
     have HFR9 : Hid (w9.heap[w.heap.size]? = some (.cells #[.int .i64 (nf.page : Int), .slice Av 4080 cv, .int .i64 nf.lsn, .bool nf.dirty, .bool nf.used] 157 (0, 0))) := Lib.hid (by
      have h2 := (HB8.out.block _ (Array.getElem?_eq_some_iff.1 HFR6.out).1).trans HFR6.out
      exact (o89.out.block _ (Array.getElem?_eq_some_iff.1 h2).1 (fun e => by have := HTB.out.1; omega)).trans h2)
     have kf0 : Hid (w9.cell? ⟨w.heap.size, 0, none⟩ = some (.int .i64 (nf.page : Int))) := Lib.hid (by rw [cell_of_row w9 _ 0 _ _ _ HFR9.out]; rfl)
     have k9 := Lib.hid HPB9.out.c9
     clear hntb
     go_upto_region 15 with fail
     refine wp_region_any (by kernel_rfl) ?_
     refine' wpAny_to_tail (l0 := #[false, false, false, false, false, false, false, false]) (by kernel_rfl) (by kernel_rfl) (by kernel_rfl) (by kernel_rfl) (by kernel_rfl)
      [MP.is (.pointer (some ⟨gp, 0, none⟩)), MP.is (.pointer (some ⟨gp, 0, none⟩)), MP.is (.pointer (some ⟨gp, 9, none⟩)), MP.is (.map (some mb)), MP.is (.pointer (some ⟨w.heap.size, 0, none⟩)), MP.is (.int .i64 (nf.page : Int)), MP.is (.int .i64 (hd : Int)), MP.any]
      (fun j => j == 7) #[true, true, true, true, true, true, true, false] rfl (by kernel_rfl) rfl (by kernel_rfl) (by kernel_rfl) (by kernel_rfl) (by kernel_rfl) (fun _ => undef) (by rfl) ?hR05 ?hAA5 ?hst5 ?hend5
     case hR05 =>
      intro j hj
      have hj2 : j ∈ [] := hj
      cases hj2
     case hAA5 =>
      intro f
      conv => lhs; simp only [putA, dstOf, List.size_toArray, List.length_cons, List.length_nil, Nat.zero_add, Nat.reduceAdd, List.getElem?_toArray, List.getElem?_cons_zero, List.getElem?_cons_succ, Option.bind_some, Act.put, List.setIfInBounds_toArray, List.set_cons_zero, List.set_cons_succ]
      first | done | exact rfl
     case hst5 =>
      refine Steps.of_list (l' := [0, 1, 2, 3, 4, 5, 6]) (by kernel_rfl) ?_
      refine Steps.cons rfl ?_ ?_
      ·intro f wz hB h K Q hK
       clear h
       try simp only [List.getElem_toArray, List.getElem_cons_zero]
       try rw [if_pos (by rfl)]
       go_simp
       exact hK _ _ (gr_refl _) rfl
      refine Steps.cons rfl ?_ ?_
      ·intro f wz hB h K Q hK
       have h0 : (MP.is (.pointer (some ⟨gp, 0, none⟩))).p (f 0) wz := h 0 (by kernel_rfl)
       have e0 : f 0 = (.pointer (some ⟨gp, 0, none⟩)) := h0
       simp only [e0] at hK ⊢
       clear e0
       clear h
       try rw [if_pos (by rfl)]
       go_simp
       exact hK _ _ (gr_refl _) rfl
      refine Steps.cons rfl ?_ ?_
      ·intro f wz hB h K Q hK
       have h1 : (MP.is (.pointer (some ⟨gp, 0, none⟩))).p (f 1) wz := h 1 (by kernel_rfl)
       have e1 : f 1 = (.pointer (some ⟨gp, 0, none⟩)) := h1
       simp only [e1] at hK ⊢
       clear e1
       clear h
       try rw [if_pos (by rfl)]
       go_simp
       exact hK _ _ (gr_refl _) rfl
      refine Steps.cons rfl ?_ ?_
      ·intro f wz hB h K Q hK
       have h2 : (MP.is (.pointer (some ⟨gp, 9, none⟩))).p (f 2) wz := h 2 (by kernel_rfl)
       have e2 : f 2 = (.pointer (some ⟨gp, 9, none⟩)) := h2
       simp only [e2] at hK ⊢
       clear e2
       clear h
       try rw [if_pos (by rfl)]
       have y0 := keep_of_below hB k9.out
       have y1 := keep_of_below hB kf0.out
       go_simp
       exact hK _ _ (gr_refl _) rfl
      refine Steps.cons rfl ?_ ?_
      ·intro f wz hB h K Q hK
       clear h
       try rw [if_pos (by rfl)]
       go_simp
       exact hK _ _ (gr_refl _) rfl
      refine Steps.cons rfl ?_ ?_
      ·intro f wz hB h K Q hK
       have h4 : (MP.is (.pointer (some ⟨w.heap.size, 0, none⟩))).p (f 4) wz := h 4 (by kernel_rfl)
       have e4 : f 4 = (.pointer (some ⟨w.heap.size, 0, none⟩)) := h4
       simp only [e4] at hK ⊢
       clear e4
       clear h
       try rw [if_pos (by rfl)]
       have y0 := keep_of_below hB k9.out
       have y1 := keep_of_below hB kf0.out
       go_simp
       exact hK _ _ (gr_refl _) rfl
      refine Steps.cons rfl ?_ ?_
      ·intro f wz hB h K Q hK
       clear h
       try rw [if_pos (by rfl)]
       go_simp
       exact hK _ _ (gr_refl _) rfl
      exact Steps.nil
     intro f w10 hB10 hR
     conv => arg 7; simp only [putL, dstOf, List.size_toArray, List.length_cons, List.length_nil, Nat.zero_add, Nat.reduceAdd, List.getElem?_toArray, List.getElem?_cons_zero, List.getElem?_cons_succ, Option.bind_some, Act.put, List.setIfInBounds_toArray, List.set_cons_zero, List.set_cons_succ, Array.getD_eq_getD_getElem?, Option.getD_some, if_true, if_false, Bool.false_eq_true]
     have e0 : f 0 = (.pointer (some ⟨gp, 0, none⟩)) := hR 0 (by decide) rfl
     have e1 : f 1 = (.pointer (some ⟨gp, 0, none⟩)) := hR 1 (by decide) rfl
     have e2 : f 2 = (.pointer (some ⟨gp, 9, none⟩)) := hR 2 (by decide) rfl
     have e3 : f 3 = (.map (some mb)) := hR 3 (by decide) rfl
     have e4 : f 4 = (.pointer (some ⟨w.heap.size, 0, none⟩)) := hR 4 (by decide) rfl
     have e5 : f 5 = (.int .i64 (nf.page : Int)) := hR 5 (by decide) rfl
     have e6 : f 6 = (.int .i64 (hd : Int)) := hR 6 (by decide) rfl
     simp only [e0, e1, e2, e3, e4, e5, e6]
     clear e0 e1 e2 e3 e4 e5 e6 hR
     have HB10 : Hid (Below w9.heap.size w9 w10) := Lib.hid (Below.trans (gr_drewN (gr_refl w9) 1) hB10)
     have HMQ10 := Lib.hid (HMQ9.out.below HB10.out)
     have HPB10 := Lib.hid (HPB9.out.below HB10.out)
     have HTK10 := Lib.hid (EO.below HTK9.out HB10.out)
     have hpl : nf.page ≤ 4096 := by
      have h1 := HX5.out.pi.fit
      have h2 := HX5.out.pi.d2
      have h3 := HF.out.pg
      have h4 := HP4.out.2.2.1
      omega
     have hno : remM (idxF (P4.fr.map FrS.page)) (p4.1.page : Int) (nf.page : Int) = none := by
      unfold remM
      split
      ·rfl
      ·rw [idxF_at, (findP_none P4 nf.page).2 (by rw [HP4.out.2.2.2]; exact HF.out.no)]
       rfl
     obtain ⟨w11, hput, hmq11, hgr11⟩ := HMQ10.out.put (k := (nf.page : Int)) (v := (hd : Int)) (by omega) (by omega) (by omega) (by omega) hno (by have := HN4.out; simp only [maxLen]; omega)
     have HMQ11 := Lib.hid hmq11
     have HGR11 := Lib.hid hgr11
     clear hno hmq11 hgr11 hB10 kf0 k9
     refine wpAny_of_held (S := fun _ => True) _ _ _ _ ?_
     refine wpAnyH_ready (rs := [7]) (by kernel_rfl) (by simp) ?_
     refine AllReadyH.cons rfl (fun KK hK => ?_) AllReadyH.nil
     rw [if_pos (by rfl)]
     go_simp
     refine hK.out _ _ trivial (fun _ => ?_)
     clear hK KK
     try simp only [List.setIfInBounds_toArray, List.set_cons_zero, List.set_cons_succ]
     refine wpAnyH_done (by kernel_rfl) ?_ _
     clear hput
     have o1011 : Hid (Off (· = mb) w10 w11) := Lib.hid (Off.of_grown HGR11.out (fun k e => by injection e with e; exact e.symm))
     have HPB11 : Hid (PB w11 gp gd wv false (.slice (some ⟨tb, 0, none⟩) q.length c) mb P4) := Lib.hid (HPB10.out.off o1011.out (fun e => HMQ10.out.notCells HPB10.out e.symm))
     have HTK11 : Hid (EO EF 5 157 w11 b0 (.slice (some ⟨tb, 0, none⟩) q.length c) (q4.set hd (nf, .slice Av 4080 cv))) := Lib.hid (ownsRow_off HTK10.out o1011.out (fun k hk e => by
      obtain ⟨cur, hc⟩ := own_blk HTK10.out hk
      exact HMQ10.out.notCells hc e.symm))
     have HDV11 := Lib.hid ((HDV9.out.below HB10.out).nb o1011.out (fun k e => by rw [e]; exact HMQ10.out.nb))
     have k4 : w11.cell? ⟨gp, 4, none⟩ = some (.int .i64 (P.most : Int)) := by have := HPB11.out.c4; rwa [HP4.out.2.1] at this
     have k10 := HPB11.out.c10
     have z10 := HPB11.out.frozen 10
     have hwp : IntKind.i64.wrap ((hd : Int) + 1) = (hd : Int) + 1 := by rw [IntKind.wrap_i64]; omega
     have hm0 : ¬ P.most = 0 := by omega
     obtain ⟨nx, hnx⟩ : ∃ nx, nx = (hd + 1) % P.most := ⟨_, rfl⟩
     have hrem : ((hd : Int) + 1).tmod (P.most : Int) = (nx : Int) := by
      rw [Int.tmod_eq_emod_of_nonneg (by omega), hnx, Int.natCast_emod, Int.natCast_add]
      rfl
     have hnl : nx < P.most := by rw [hnx]; exact Nat.mod_lt _ (by omega)
     have hwn : IntKind.i64.wrap (nx : Int) = (nx : Int) := by rw [IntKind.wrap_i64]; omega
     have HNX := Lib.hid hnx
     clear hnx
     go_wp2_with fail
     go_ret
     have hpq : putP P4 nf = { P4 with fr := P4.fr.set hd nf, hand := nx } := by
      unfold putP
      rw [HP4.out.1, HP4.out.2.1, ← HNX.out]
     have hpi := HX4.out.pi.put (f := nf) (by rw [HPL4.out, HP4.out.2.1]; exact HMQ.out) (by rw [HP4.out.2.2.1]; exact HF.out.pg) HF.out.len HF.out.l1 HF.out.l2 (by rw [HP4.out.2.2.2]; exact HF.out.no)
     rw [hpq] at hpi
     have o12 : Off (· = gp) w11 (w11.setCell ⟨gp, 10, none⟩ (.int .i64 (nx : Int))) := (Off.refl _ w11).setCell _ rfl
     have hdv := HDV11.out.nb o12 (fun k e => by rw [e]; exact HPB11.out.nb)
     have hmq12 := HMQ11.out.off o12 (HMQ11.out.notCells HPB11.out)
     rw [idxF_swap HX4.out.pi.nd (by rw [HP4.out.2.2.2]; exact HF.out.no) HPA.out, ← HN4.out, ← HPL4.out] at hmq12
     have htk12 : EO EF 5 157 (w11.setCell ⟨gp, 10, none⟩ (.int .i64 (nx : Int))) b0 (.slice (some ⟨tb, 0, none⟩) q.length c) (q4.set hd (nf, .slice Av 4080 cv)) := ownsRow_off HTK11.out o12 (fun k e e2 => by
      obtain ⟨cur, hc⟩ := own_blk HTK11.out e
      subst e2
      exact cells_ne HPB11.out hc (by decide))
     rw [HH4.out, hpq]
     refine ⟨rfl, F4, _, mb, q4.set hd (nf, .slice Av 4080 cv), ⟨hdv.1, HPB11.out.s10 nx, htk12, ?_, fun x hx => ?_, fun x hx k e e2 => ?_, ?_, hpi, HX4.out.bp, HX4.out.bm⟩, ?_, fun k e => ?_⟩
     ·rw [List.map_set, HX4.out.qf]
     ·rcases List.mem_or_eq_of_mem_set hx with hx | hx
      ·exact hdv.2 x (List.mem_append.2 (.inl hx))
      ·exact hdv.2 x (List.mem_append.2 (.inr (List.mem_singleton.2 hx)))
     ·rcases List.mem_or_eq_of_mem_set hx with hx | hx
      ·exact HX4.out.ap x hx k e e2
      ·subst hx
       rcases HF4.out k e2 with e3 | e3
       ·exact HDJ.out k e (.inl e3)
       ·have := (HF.out.ow.lt k e).2
        omega
     ·show MQ _ mb (P4.fr.set hd nf).length (idxF ((P4.fr.set hd nf).map FrS.page))
      rw [List.length_set, List.map_set]
      exact hmq12
     ·have tbS : ∀ k, k = tb → PS gp F (.slice (some ⟨tb, 0, none⟩) q.length c) mb q k := fun k e => by
       subst e
       exact .inr (.inr (.inr (.inl rfl)))
      exact HOV.out.trans ((Off.of_below HB5.out).trans ((o56.out.mono fun k _ e => .inr (.inr (.inl e))).trans ((Off.of_below HB8.out).trans ((o89.out.mono fun k _ e => tbS k e).trans ((Off.of_below HB10.out).trans ((o1011.out.mono fun k _ e => .inr (.inr (.inl e))).trans (o12.mono fun k _ e => .inr (.inl e))))))))
     ·rcases e with e | e | e | e | ⟨x, hx, e⟩
      ·exact (HSV.out k (.inl e)).imp id .inr
      ·exact .inl (.inr (.inl e))
      ·exact .inl (.inr (.inr (.inl e)))
      ·exact .inl (.inr (.inr (.inr (.inl e))))
      ·rcases List.mem_or_eq_of_mem_set hx with hx | hx
       ·exact (HSV.out k (.inr (.inr (.inr (.inr ⟨x, hx, e⟩))))).imp id .inr
       ·subst hx
        exact .inr (.inl e)
    ·have hx : (e4 != 0) = true := by rw [bne_iff_ne]; exact he4
     have HH4 : Hid (holdR D P nf = (D4, P4, e4)) := Lib.hid (by
      rw [HHE.out, if_pos HDT.out]
      exact if_pos he4)
     clear he4
     go_wp2_with fail
     go_ret
     rw [HH4.out]
     exact ⟨rfl, F4, _, mb, q4, HX4.out, HOV.out, fun k e => (HSV.out k e).imp id .inr⟩
   | false =>
    rw [hdt] at f3
    have HDT : Hid ((fr.getD hd fr0).dirty = false) := Lib.hid (by rw [HPF.out]; exact hdt)
    clear hdt
    go_upto_region 13 with (go_quiet (fail))
    have HX4 : Hid (PX (wr.drewN nq) b0 gp gd wv D Ps F (.slice (some ⟨tb, 0, none⟩) q.length c) mb q') := Lib.hid (HXs.out.below (gr_drewN (gr_refl wr) nq))
    have HQ4 := HQ2
    have HOV : Hid (Off (PS gp F (.slice (some ⟨tb, 0, none⟩) q.length c) mb q) w (wr.drewN nq)) := Lib.hid (HOS.out.drewN nq)
    have HSV : Hid (∀ k, PS gp F (.slice (some ⟨tb, 0, none⟩) q.length c) mb q' k → PS gp F (.slice (some ⟨tb, 0, none⟩) q.length c) mb q k ∨ w.heap.size ≤ k) := Lib.hid (fun k e => .inl (HPS.out F q' k HQ2.out e))
    have HFRt : Hid ((wr.drewN nq).heap[w.heap.size]? = some (.cells #[.int .i64 (nf.page : Int), .slice Av 4080 cv, .int .i64 nf.lsn, .bool nf.dirty, .bool nf.used] 157 (0, 0))) := Lib.hid HFRr.out
    have HSZ : Hid (w.heap.size ≤ (wr.drewN nq).heap.size) := Lib.hid HOV.out.size
    have HF4 : Hid (∀ k, F k → F k ∨ w.heap.size ≤ k) := Lib.hid (fun k e => .inl e)
    have HP4 : Hid (Ps.hand = hd ∧ Ps.most = P.most ∧ Ps.pages = P.pages ∧ Ps.fr.map FrS.page = P.fr.map FrS.page) := Lib.hid ⟨HPs.out.1, HPs.out.2.1, HPs.out.2.2.1, HPs.out.2.2.2.1⟩
    have HH4 : Hid (holdR D P nf = (D, putP Ps nf, 0)) := Lib.hid (by rw [HHE.out, if_neg (by rw [HDT.out]; decide)])
    clear c8 c4 c10 f3 f4
    generalize (wr.drewN nq) = w4 at *
    have HQN4 : Hid (q'.length = q.length) := Lib.hid (by have := congrArg List.length HQ4.out; simpa using this)
    have HPL4 : Hid (Ps.fr.length = q.length) := Lib.hid (by have := congrArg List.length HX4.out.qf; rw [List.length_map] at this; rw [← this, HQN4.out])
    obtain ⟨p4, hp4⟩ : ∃ p4, q'[hd]? = some p4 := ⟨_, List.getElem?_eq_getElem (by rw [HQN4.out]; exact hhd)⟩
    have HP44 := Lib.hid hp4
    have k8 := Lib.hid HX4.out.pb.c8
    have k9 := Lib.hid HX4.out.pb.c9
    have kp := Lib.hid (fr_cells HX4.out.tk hp4).1
    clear hp4
    refine wp_region_any (by kernel_rfl) ?_
    refine' wpAny_to_tail (l0 := #[false, false, false, false, false, false, false, false, false, false, false, false, false]) (by kernel_rfl) (by kernel_rfl) (by kernel_rfl) (by kernel_rfl) (by kernel_rfl)
     [MP.is (.pointer (some ⟨gp, 0, none⟩)), MP.is (.pointer (some ⟨gp, 0, none⟩)), MP.is (.pointer (some ⟨gp, 9, none⟩)), MP.is (.map (some mb)), MP.is (.pointer (some ⟨gp, 0, none⟩)), MP.is (.pointer (some ⟨gp, 0, none⟩)), MP.is (.pointer (some ⟨gp, 8, none⟩)), MP.is (.slice (some ⟨tb, 0, none⟩) q.length c), MP.is (.int .i64 (hd : Int)), MP.is (.pointer (some ⟨tb, hd * 5, none⟩)), MP.is (.pointer (some ⟨tb, hd * 5, none⟩)), MP.is (.int .i64 (p4.1.page : Int)), MP.any]
     (fun j => j == 12) #[true, true, true, true, true, true, true, true, true, true, true, true, false] rfl (by kernel_rfl) rfl (by kernel_rfl) (by kernel_rfl) (by kernel_rfl) (by kernel_rfl) (fun _ => undef) (by rfl) ?hR06 ?hAA6 ?hst6 ?hend6
    case hR06 =>
     intro j hj
     have hj2 : j ∈ [] := hj
     cases hj2
    case hAA6 =>
     intro f
     conv => lhs; simp only [putA, dstOf, List.size_toArray, List.length_cons, List.length_nil, Nat.zero_add, Nat.reduceAdd, List.getElem?_toArray, List.getElem?_cons_zero, List.getElem?_cons_succ, Option.bind_some, Act.put, List.setIfInBounds_toArray, List.set_cons_zero, List.set_cons_succ]
     first | done | exact rfl
    case hst6 =>
     refine Steps.of_list (l' := [0, 1, 2, 3, 4, 5, 6, 7, 8, 9, 10, 11]) (by kernel_rfl) ?_
     refine Steps.cons rfl ?_ ?_
     ·intro f wz hB h K Q hK
      clear h
      try simp only [List.getElem_toArray, List.getElem_cons_zero]
      try rw [if_pos (by rfl)]
      go_simp
      exact hK _ _ (gr_refl _) rfl
     refine Steps.cons rfl ?_ ?_
     ·intro f wz hB h K Q hK
      have h0 : (MP.is (.pointer (some ⟨gp, 0, none⟩))).p (f 0) wz := h 0 (by kernel_rfl)
      have e0 : f 0 = (.pointer (some ⟨gp, 0, none⟩)) := h0
      simp only [e0] at hK ⊢
      clear e0
      clear h
      try rw [if_pos (by rfl)]
      go_simp
      exact hK _ _ (gr_refl _) rfl
     refine Steps.cons rfl ?_ ?_
     ·intro f wz hB h K Q hK
      have h1 : (MP.is (.pointer (some ⟨gp, 0, none⟩))).p (f 1) wz := h 1 (by kernel_rfl)
      have e1 : f 1 = (.pointer (some ⟨gp, 0, none⟩)) := h1
      simp only [e1] at hK ⊢
      clear e1
      clear h
      try rw [if_pos (by rfl)]
      go_simp
      exact hK _ _ (gr_refl _) rfl
     refine Steps.cons rfl ?_ ?_
     ·intro f wz hB h K Q hK
      have h2 : (MP.is (.pointer (some ⟨gp, 9, none⟩))).p (f 2) wz := h 2 (by kernel_rfl)
      have e2 : f 2 = (.pointer (some ⟨gp, 9, none⟩)) := h2
      simp only [e2] at hK ⊢
      clear e2
      clear h
      try rw [if_pos (by rfl)]
      have y0 := keep_of_below hB k8.out
      have y1 := keep_of_below hB k9.out
      have y2 := keep_of_below hB kp.out
      go_simp
      exact hK _ _ (gr_refl _) rfl
     refine Steps.cons rfl ?_ ?_
     ·intro f wz hB h K Q hK
      clear h
      try rw [if_pos (by rfl)]
      go_simp
      exact hK _ _ (gr_refl _) rfl
     refine Steps.cons rfl ?_ ?_
     ·intro f wz hB h K Q hK
      have h4 : (MP.is (.pointer (some ⟨gp, 0, none⟩))).p (f 4) wz := h 4 (by kernel_rfl)
      have e4 : f 4 = (.pointer (some ⟨gp, 0, none⟩)) := h4
      simp only [e4] at hK ⊢
      clear e4
      clear h
      try rw [if_pos (by rfl)]
      go_simp
      exact hK _ _ (gr_refl _) rfl
     refine Steps.cons rfl ?_ ?_
     ·intro f wz hB h K Q hK
      have h5 : (MP.is (.pointer (some ⟨gp, 0, none⟩))).p (f 5) wz := h 5 (by kernel_rfl)
      have e5 : f 5 = (.pointer (some ⟨gp, 0, none⟩)) := h5
      simp only [e5] at hK ⊢
      clear e5
      clear h
      try rw [if_pos (by rfl)]
      go_simp
      exact hK _ _ (gr_refl _) rfl
     refine Steps.cons rfl ?_ ?_
     ·intro f wz hB h K Q hK
      have h6 : (MP.is (.pointer (some ⟨gp, 8, none⟩))).p (f 6) wz := h 6 (by kernel_rfl)
      have e6 : f 6 = (.pointer (some ⟨gp, 8, none⟩)) := h6
      simp only [e6] at hK ⊢
      clear e6
      clear h
      try rw [if_pos (by rfl)]
      have y0 := keep_of_below hB k8.out
      have y1 := keep_of_below hB k9.out
      have y2 := keep_of_below hB kp.out
      go_simp
      exact hK _ _ (gr_refl _) rfl
     refine Steps.cons rfl ?_ ?_
     ·intro f wz hB h K Q hK
      clear h
      try rw [if_pos (by rfl)]
      go_simp
      exact hK _ _ (gr_refl _) rfl
     refine Steps.cons rfl ?_ ?_
     ·intro f wz hB h K Q hK
      have h7 : (MP.is (.slice (some ⟨tb, 0, none⟩) q.length c)).p (f 7) wz := h 7 (by kernel_rfl)
      have e7 : f 7 = (.slice (some ⟨tb, 0, none⟩) q.length c) := h7
      have h8 : (MP.is (.int .i64 (hd : Int))).p (f 8) wz := h 8 (by kernel_rfl)
      have e8 : f 8 = (.int .i64 (hd : Int)) := h8
      simp only [e7, e8] at hK ⊢
      clear e7 e8
      clear h
      try rw [if_pos (by rfl)]
      go_simp
      exact hK _ _ (gr_refl _) rfl
     refine Steps.cons rfl ?_ ?_
     ·intro f wz hB h K Q hK
      have h9 : (MP.is (.pointer (some ⟨tb, hd * 5, none⟩))).p (f 9) wz := h 9 (by kernel_rfl)
      have e9 : f 9 = (.pointer (some ⟨tb, hd * 5, none⟩)) := h9
      simp only [e9] at hK ⊢
      clear e9
      clear h
      try rw [if_pos (by rfl)]
      go_simp
      exact hK _ _ (gr_refl _) rfl
     refine Steps.cons rfl ?_ ?_
     ·intro f wz hB h K Q hK
      have h10 : (MP.is (.pointer (some ⟨tb, hd * 5, none⟩))).p (f 10) wz := h 10 (by kernel_rfl)
      have e10 : f 10 = (.pointer (some ⟨tb, hd * 5, none⟩)) := h10
      simp only [e10] at hK ⊢
      clear e10
      clear h
      try rw [if_pos (by rfl)]
      have y0 := keep_of_below hB k8.out
      have y1 := keep_of_below hB k9.out
      have y2 := keep_of_below hB kp.out
      go_simp
      exact hK _ _ (gr_refl _) rfl
     exact Steps.nil
    intro f w5 hB5 hR
    conv => arg 7; simp only [putL, dstOf, List.size_toArray, List.length_cons, List.length_nil, Nat.zero_add, Nat.reduceAdd, List.getElem?_toArray, List.getElem?_cons_zero, List.getElem?_cons_succ, Option.bind_some, Act.put, List.setIfInBounds_toArray, List.set_cons_zero, List.set_cons_succ, Array.getD_eq_getD_getElem?, Option.getD_some, if_true, if_false, Bool.false_eq_true]
    have e0 : f 0 = (.pointer (some ⟨gp, 0, none⟩)) := hR 0 (by decide) rfl
    have e1 : f 1 = (.pointer (some ⟨gp, 0, none⟩)) := hR 1 (by decide) rfl
    have e2 : f 2 = (.pointer (some ⟨gp, 9, none⟩)) := hR 2 (by decide) rfl
    have e3 : f 3 = (.map (some mb)) := hR 3 (by decide) rfl
    have e4 : f 4 = (.pointer (some ⟨gp, 0, none⟩)) := hR 4 (by decide) rfl
    have e5 : f 5 = (.pointer (some ⟨gp, 0, none⟩)) := hR 5 (by decide) rfl
    have e6 : f 6 = (.pointer (some ⟨gp, 8, none⟩)) := hR 6 (by decide) rfl
    have e7 : f 7 = (.slice (some ⟨tb, 0, none⟩) q.length c) := hR 7 (by decide) rfl
    have e8 : f 8 = (.int .i64 (hd : Int)) := hR 8 (by decide) rfl
    have e9 : f 9 = (.pointer (some ⟨tb, hd * 5, none⟩)) := hR 9 (by decide) rfl
    have e10 : f 10 = (.pointer (some ⟨tb, hd * 5, none⟩)) := hR 10 (by decide) rfl
    have e11 : f 11 = (.int .i64 (p4.1.page : Int)) := hR 11 (by decide) rfl
    simp only [e0, e1, e2, e3, e4, e5, e6, e7, e8, e9, e10, e11]
    clear e0 e1 e2 e3 e4 e5 e6 e7 e8 e9 e10 e11 hR
    have HB5 : Hid (Below w4.heap.size w4 w5) := Lib.hid (Below.trans (gr_drewN (gr_refl w4) 1) hB5)
    have HX5 := Lib.hid (HX4.out.below HB5.out)
    have HPA : Hid ((Ps.fr.map FrS.page)[hd]? = some p4.1.page) := Lib.hid (by
     rw [← HX5.out.qf, List.getElem?_map, List.getElem?_map, HP44.out]
     rfl)
    have hpl4 : p4.1.page ≤ 4096 := by
     have h1 := HX5.out.pi.fit
     have h2 := HX5.out.pi.d2
     have h3 := (HX5.out.pi.ok p4.1 (by rw [← HX5.out.qf]; exact List.mem_map_of_mem (List.mem_of_getElem? HP44.out))).1
     omega
    obtain ⟨n4, hn4⟩ : ∃ n4, q.length = n4 + 1 := ⟨q.length - 1, by omega⟩
    have hmp5 := HX5.out.mp
    rw [HPL4.out, hn4] at hmp5
    have hat : idxF (Ps.fr.map FrS.page) (p4.1.page : Int) = some (hd : Int) := by
     unfold idxF
     rw [if_neg (by omega), Int.toNat_natCast, (idx_some HX5.out.pi.nd).2 HPA.out]
     rfl
    obtain ⟨w6, hdel, hmq6, hgr6⟩ := hmp5.del (k := (p4.1.page : Int)) (by omega) (by omega) hat 0
    have HMQ6 := Lib.hid hmq6
    have HGR6 := Lib.hid hgr6
    have HN4 := Lib.hid hn4
    clear hmp5 hat hmq6 hgr6 hB5 k8 k9 kp hn4
    refine wpAny_of_held (S := fun _ => True) _ _ _ _ ?_
    refine wpAnyH_ready (rs := [12]) (by kernel_rfl) (by simp) ?_
    refine AllReadyH.cons rfl (fun KK hK => ?_) AllReadyH.nil
    rw [if_pos (by rfl)]
    go_simp
    refine hK.out _ _ trivial (fun _ => ?_)
    clear hK KK
    try simp only [List.setIfInBounds_toArray, List.set_cons_zero, List.set_cons_succ]
    refine wpAnyH_done (by kernel_rfl) ?_ _
    clear hdel
    have o56 : Hid (Off (· = mb) w5 w6) := Lib.hid (Off.of_grown HGR6.out (fun k e => by injection e with e; exact e.symm))
    have HPB6 : Hid (PB w6 gp gd wv false (.slice (some ⟨tb, 0, none⟩) q.length c) mb Ps) := Lib.hid (HX5.out.pb.off o56.out (fun e => HX5.out.mp.notCells HX5.out.pb e.symm))
    have HTK6 : Hid (EO EF 5 157 w6 b0 (.slice (some ⟨tb, 0, none⟩) q.length c) q') := Lib.hid (ownsRow_off HX5.out.tk o56.out (fun k hk e => by
     obtain ⟨cur, hc⟩ := own_blk HX5.out.tk hk
     exact HX5.out.mp.notCells hc e.symm))
    have HFV5 : Hid (OB w5 b0 (.slice Av 4080 cv) nf.pay) := Lib.hid ((HF.out.ow.off HOV.out (fun k e e2 => HDJ.out k e e2)).below HB5.out)
    have HDV5 : Hid (DV w5 b0 gd F D (q' ++ [(nf, .slice Av 4080 cv)])) := Lib.hid ⟨HX5.out.dk, fun x hx => by
     rcases List.mem_append.1 hx with hx | hx
     ·exact HX5.out.pv x hx
     ·rw [List.mem_singleton.1 hx]
      exact HFV5.out⟩
    have HDV6 := Lib.hid (HDV5.out.nb o56.out (fun k e => by rw [e]; exact HX5.out.mp.nb))
    have HFR6 : Hid (w6.heap[w.heap.size]? = some (.cells #[.int .i64 (nf.page : Int), .slice Av 4080 cv, .int .i64 nf.lsn, .bool nf.dirty, .bool nf.used] 157 (0, 0))) := Lib.hid (by
     have h2 := (HB5.out.block _ (Array.getElem?_eq_some_iff.1 HFRt.out).1).trans HFRt.out
     exact (HGR6.out.block _ (Array.getElem?_eq_some_iff.1 h2).1 (fun e => HX5.out.mp.notCells h2 (Option.some.inj e).symm)).trans h2)
    have kf : ∀ j u, #[.int .i64 (nf.page : Int), .slice Av 4080 cv, .int .i64 nf.lsn, .bool nf.dirty, .bool nf.used][j]? = some u → w6.cell? ⟨w.heap.size, j, none⟩ = some u := fun j u hj => by rw [cell_of_row w6 _ j _ _ _ HFR6.out]; exact hj
    have kf0 := Lib.hid (kf 0 _ rfl)
    have kf1 := Lib.hid (kf 1 _ rfl)
    have kf2 := Lib.hid (kf 2 _ rfl)
    have kf3 := Lib.hid (kf 3 _ rfl)
    have kf4 := Lib.hid (kf 4 _ rfl)
    have k8 := Lib.hid HPB6.out.c8
    clear kf
    go_upto_region 14 with fail
    refine wp_region_any (by kernel_rfl) ?_
    refine' wpAny_to_tail (l0 := #[false, false, false, false, false, false, false, false]) (by kernel_rfl) (by kernel_rfl) (by kernel_rfl) (by kernel_rfl) (by kernel_rfl)
     [MP.is (.pointer (some ⟨gp, 0, none⟩)), MP.is (.pointer (some ⟨gp, 0, none⟩)), MP.is (.pointer (some ⟨gp, 8, none⟩)), MP.is (.slice (some ⟨tb, 0, none⟩) q.length c), MP.is (.int .i64 (hd : Int)), MP.is (.agg #[.int .i64 (nf.page : Int), .slice Av 4080 cv, .int .i64 nf.lsn, .bool nf.dirty, .bool nf.used]), MP.is (.pointer (some ⟨tb, hd * 5, none⟩)), MP.any]
     (fun j => j == 7) #[true, true, true, true, true, true, true, false] rfl (by kernel_rfl) rfl (by kernel_rfl) (by kernel_rfl) (by kernel_rfl) (by kernel_rfl) (fun _ => undef) (by rfl) ?hR07 ?hAA7 ?hst7 ?hend7
    case hR07 =>
     intro j hj
     have hj2 : j ∈ [] := hj
     cases hj2
    case hAA7 =>
     intro f
     conv => lhs; simp only [putA, dstOf, List.size_toArray, List.length_cons, List.length_nil, Nat.zero_add, Nat.reduceAdd, List.getElem?_toArray, List.getElem?_cons_zero, List.getElem?_cons_succ, Option.bind_some, Act.put, List.setIfInBounds_toArray, List.set_cons_zero, List.set_cons_succ]
     first | done | exact rfl
    case hst7 =>
     refine Steps.of_list (l' := [0, 1, 2, 3, 4, 5, 6]) (by kernel_rfl) ?_
     refine Steps.cons rfl ?_ ?_
     ·intro f wz hB h K Q hK
      clear h
      try simp only [List.getElem_toArray, List.getElem_cons_zero]
      try rw [if_pos (by rfl)]
      go_simp
      exact hK _ _ (gr_refl _) rfl
     refine Steps.cons rfl ?_ ?_
     ·intro f wz hB h K Q hK
      have h0 : (MP.is (.pointer (some ⟨gp, 0, none⟩))).p (f 0) wz := h 0 (by kernel_rfl)
      have e0 : f 0 = (.pointer (some ⟨gp, 0, none⟩)) := h0
      simp only [e0] at hK ⊢
      clear e0
      clear h
      try rw [if_pos (by rfl)]
      go_simp
      exact hK _ _ (gr_refl _) rfl
     refine Steps.cons rfl ?_ ?_
     ·intro f wz hB h K Q hK
      have h1 : (MP.is (.pointer (some ⟨gp, 0, none⟩))).p (f 1) wz := h 1 (by kernel_rfl)
      have e1 : f 1 = (.pointer (some ⟨gp, 0, none⟩)) := h1
      simp only [e1] at hK ⊢
      clear e1
      clear h
      try rw [if_pos (by rfl)]
      go_simp
      exact hK _ _ (gr_refl _) rfl
     refine Steps.cons rfl ?_ ?_
     ·intro f wz hB h K Q hK
      have h2 : (MP.is (.pointer (some ⟨gp, 8, none⟩))).p (f 2) wz := h 2 (by kernel_rfl)
      have e2 : f 2 = (.pointer (some ⟨gp, 8, none⟩)) := h2
      simp only [e2] at hK ⊢
      clear e2
      clear h
      try rw [if_pos (by rfl)]
      have y0 := keep_of_below hB k8.out
      have y1 := keep_of_below hB kf0.out
      have y2 := keep_of_below hB kf1.out
      have y3 := keep_of_below hB kf2.out
      have y4 := keep_of_below hB kf3.out
      have y5 := keep_of_below hB kf4.out
      go_simp
      exact hK _ _ (gr_refl _) rfl
     refine Steps.cons rfl ?_ ?_
     ·intro f wz hB h K Q hK
      clear h
      try rw [if_pos (by rfl)]
      go_simp
      exact hK _ _ (gr_refl _) rfl
     refine Steps.cons rfl ?_ ?_
     ·intro f wz hB h K Q hK
      clear h
      try rw [if_pos (by rfl)]
      have y0 := keep_of_below hB k8.out
      have y1 := keep_of_below hB kf0.out
      have y2 := keep_of_below hB kf1.out
      have y3 := keep_of_below hB kf2.out
      have y4 := keep_of_below hB kf3.out
      have y5 := keep_of_below hB kf4.out
      go_simp
      exact hK _ _ (gr_refl _) rfl
     refine Steps.cons rfl ?_ ?_
     ·intro f wz hB h K Q hK
      have h3 : (MP.is (.slice (some ⟨tb, 0, none⟩) q.length c)).p (f 3) wz := h 3 (by kernel_rfl)
      have e3 : f 3 = (.slice (some ⟨tb, 0, none⟩) q.length c) := h3
      have h4 : (MP.is (.int .i64 (hd : Int))).p (f 4) wz := h 4 (by kernel_rfl)
      have e4 : f 4 = (.int .i64 (hd : Int)) := h4
      simp only [e3, e4] at hK ⊢
      clear e3 e4
      clear h
      try rw [if_pos (by rfl)]
      go_simp
      exact hK _ _ (gr_refl _) rfl
     exact Steps.nil
    intro f w8 hB8 hR
    conv => arg 7; simp only [putL, dstOf, List.size_toArray, List.length_cons, List.length_nil, Nat.zero_add, Nat.reduceAdd, List.getElem?_toArray, List.getElem?_cons_zero, List.getElem?_cons_succ, Option.bind_some, Act.put, List.setIfInBounds_toArray, List.set_cons_zero, List.set_cons_succ, Array.getD_eq_getD_getElem?, Option.getD_some, if_true, if_false, Bool.false_eq_true]
    have e0 : f 0 = (.pointer (some ⟨gp, 0, none⟩)) := hR 0 (by decide) rfl
    have e1 : f 1 = (.pointer (some ⟨gp, 0, none⟩)) := hR 1 (by decide) rfl
    have e2 : f 2 = (.pointer (some ⟨gp, 8, none⟩)) := hR 2 (by decide) rfl
    have e3 : f 3 = (.slice (some ⟨tb, 0, none⟩) q.length c) := hR 3 (by decide) rfl
    have e4 : f 4 = (.int .i64 (hd : Int)) := hR 4 (by decide) rfl
    have e5 : f 5 = (.agg #[.int .i64 (nf.page : Int), .slice Av 4080 cv, .int .i64 nf.lsn, .bool nf.dirty, .bool nf.used]) := hR 5 (by decide) rfl
    have e6 : f 6 = (.pointer (some ⟨tb, hd * 5, none⟩)) := hR 6 (by decide) rfl
    simp only [e0, e1, e2, e3, e4, e5, e6]
    clear e0 e1 e2 e3 e4 e5 e6 hR
    have HB8 : Hid (Below w6.heap.size w6 w8) := Lib.hid (Below.trans (gr_drewN (gr_refl w6) 1) hB8)
    have HTK8 := Lib.hid (EO.below HTK6.out HB8.out)
    obtain ⟨x0, x1, x2, x3, x4⟩ := fr_cells HTK8.out HP44.out
    have y0 := own_frz HTK8.out (hd * 5)
    have y1 := own_frz HTK8.out (hd * 5 + 1)
    have y2 := own_frz HTK8.out (hd * 5 + 2)
    have y3 := own_frz HTK8.out (hd * 5 + 3)
    have y4 := own_frz HTK8.out (hd * 5 + 4)
    have HTK9 : Hid (EO EF 5 157 (((((w8.setCell ⟨tb, hd * 5, none⟩ (.int .i64 (nf.page : Int))).setCell ⟨tb, hd * 5 + 1, none⟩ (.slice Av 4080 cv)).setCell ⟨tb, hd * 5 + 2, none⟩ (.int .i64 nf.lsn)).setCell ⟨tb, hd * 5 + 3, none⟩ (.bool nf.dirty)).setCell ⟨tb, hd * 5 + 4, none⟩ (.bool nf.used)) b0 (.slice (some ⟨tb, 0, none⟩) q.length c) (q'.set hd (nf, .slice Av 4080 cv))) := Lib.hid (fr_setF HTK8.out HP44.out (nf, .slice Av 4080 cv))
    have o89 : Hid (Off (· = tb) w8 (((((w8.setCell ⟨tb, hd * 5, none⟩ (.int .i64 (nf.page : Int))).setCell ⟨tb, hd * 5 + 1, none⟩ (.slice Av 4080 cv)).setCell ⟨tb, hd * 5 + 2, none⟩ (.int .i64 nf.lsn)).setCell ⟨tb, hd * 5 + 3, none⟩ (.bool nf.dirty)).setCell ⟨tb, hd * 5 + 4, none⟩ (.bool nf.used))) := Lib.hid (fr_setF_off w8 tb hd (nf, .slice Av 4080 cv))
    clear k8 kf0 kf1 kf2 kf3 kf4 hB8
    refine wpAny_of_held (S := fun _ => True) _ _ _ _ ?_
    refine wpAnyH_ready (rs := [7]) (by kernel_rfl) (by simp) ?_
    refine AllReadyH.cons rfl (fun KK hK => ?_) AllReadyH.nil
    rw [if_pos (by rfl)]
    go_simp
    refine hK.out _ _ trivial (fun _ => ?_)
    clear hK KK
    try simp only [List.setIfInBounds_toArray, List.set_cons_zero, List.set_cons_succ]
    refine wpAnyH_done (by kernel_rfl) ?_ _
    clear x0 x1 x2 x3 x4 y0 y1 y2 y3 y4
    generalize (((((w8.setCell ⟨tb, hd * 5, none⟩ (.int .i64 (nf.page : Int))).setCell ⟨tb, hd * 5 + 1, none⟩ (.slice Av 4080 cv)).setCell ⟨tb, hd * 5 + 2, none⟩ (.int .i64 nf.lsn)).setCell ⟨tb, hd * 5 + 3, none⟩ (.bool nf.dirty)).setCell ⟨tb, hd * 5 + 4, none⟩ (.bool nf.used)) = w9 at *
    have hntb : ∀ (k : Nat) (cs : Array Value) (t : TypeId) (r : Nat × Nat), w8.heap[k]? = some (.cells cs t r) → t ≠ 157 → k ≠ tb := fun k cs t r hc hn e => by
     subst e
     obtain ⟨cur, hc2⟩ := own_blk HTK8.out rfl
     rw [hc] at hc2
     injection hc2 with hc2
     injection hc2 with _ hc2 _
     exact hn hc2
    have HPB8 := Lib.hid (HPB6.out.below HB8.out)
    have HPB9 : Hid (PB w9 gp gd wv false (.slice (some ⟨tb, 0, none⟩) q.length c) mb Ps) := Lib.hid (HPB8.out.off o89.out (hntb _ _ _ _ HPB8.out (by decide)))
    have HMQ8 := Lib.hid (HMQ6.out.below HB8.out)
    have HMQ9 := Lib.hid (HMQ8.out.off o89.out (fun e => by obtain ⟨cur, hc2⟩ := own_blk HTK8.out rfl; exact HMQ8.out.notCells hc2 e))
    have HDV9 := Lib.hid ((HDV6.out.below HB8.out).nb o89.out (fun k e => by rw [e]; exact EO.nb HTK8.out rfl))
    have HFR9 : Hid (w9.heap[w.heap.size]? = some (.cells #[.int .i64 (nf.page : Int), .slice Av 4080 cv, .int .i64 nf.lsn, .bool nf.dirty, .bool nf.used] 157 (0, 0))) := Lib.hid (by
     have h2 := (HB8.out.block _ (Array.getElem?_eq_some_iff.1 HFR6.out).1).trans HFR6.out
     exact (o89.out.block _ (Array.getElem?_eq_some_iff.1 h2).1 (fun e => by have := HTB.out.1; omega)).trans h2)
    have kf0 : Hid (w9.cell? ⟨w.heap.size, 0, none⟩ = some (.int .i64 (nf.page : Int))) := Lib.hid (by rw [cell_of_row w9 _ 0 _ _ _ HFR9.out]; rfl)
    have k9 := Lib.hid HPB9.out.c9
    clear hntb
    go_upto_region 15 with fail
    refine wp_region_any (by kernel_rfl) ?_
    refine' wpAny_to_tail (l0 := #[false, false, false, false, false, false, false, false]) (by kernel_rfl) (by kernel_rfl) (by kernel_rfl) (by kernel_rfl) (by kernel_rfl)
     [MP.is (.pointer (some ⟨gp, 0, none⟩)), MP.is (.pointer (some ⟨gp, 0, none⟩)), MP.is (.pointer (some ⟨gp, 9, none⟩)), MP.is (.map (some mb)), MP.is (.pointer (some ⟨w.heap.size, 0, none⟩)), MP.is (.int .i64 (nf.page : Int)), MP.is (.int .i64 (hd : Int)), MP.any]
     (fun j => j == 7) #[true, true, true, true, true, true, true, false] rfl (by kernel_rfl) rfl (by kernel_rfl) (by kernel_rfl) (by kernel_rfl) (by kernel_rfl) (fun _ => undef) (by rfl) ?hR08 ?hAA8 ?hst8 ?hend8
    case hR08 =>
     intro j hj
     have hj2 : j ∈ [] := hj
     cases hj2
    case hAA8 =>
     intro f
     conv => lhs; simp only [putA, dstOf, List.size_toArray, List.length_cons, List.length_nil, Nat.zero_add, Nat.reduceAdd, List.getElem?_toArray, List.getElem?_cons_zero, List.getElem?_cons_succ, Option.bind_some, Act.put, List.setIfInBounds_toArray, List.set_cons_zero, List.set_cons_succ]
     first | done | exact rfl
    case hst8 =>
     refine Steps.of_list (l' := [0, 1, 2, 3, 4, 5, 6]) (by kernel_rfl) ?_
     refine Steps.cons rfl ?_ ?_
     ·intro f wz hB h K Q hK
      clear h
      try simp only [List.getElem_toArray, List.getElem_cons_zero]
      try rw [if_pos (by rfl)]
      go_simp
      exact hK _ _ (gr_refl _) rfl
     refine Steps.cons rfl ?_ ?_
     ·intro f wz hB h K Q hK
      have h0 : (MP.is (.pointer (some ⟨gp, 0, none⟩))).p (f 0) wz := h 0 (by kernel_rfl)
      have e0 : f 0 = (.pointer (some ⟨gp, 0, none⟩)) := h0
      simp only [e0] at hK ⊢
      clear e0
      clear h
      try rw [if_pos (by rfl)]
      go_simp
      exact hK _ _ (gr_refl _) rfl
     refine Steps.cons rfl ?_ ?_
     ·intro f wz hB h K Q hK
      have h1 : (MP.is (.pointer (some ⟨gp, 0, none⟩))).p (f 1) wz := h 1 (by kernel_rfl)
      have e1 : f 1 = (.pointer (some ⟨gp, 0, none⟩)) := h1
      simp only [e1] at hK ⊢
      clear e1
      clear h
      try rw [if_pos (by rfl)]
      go_simp
      exact hK _ _ (gr_refl _) rfl
     refine Steps.cons rfl ?_ ?_
     ·intro f wz hB h K Q hK
      have h2 : (MP.is (.pointer (some ⟨gp, 9, none⟩))).p (f 2) wz := h 2 (by kernel_rfl)
      have e2 : f 2 = (.pointer (some ⟨gp, 9, none⟩)) := h2
      simp only [e2] at hK ⊢
      clear e2
      clear h
      try rw [if_pos (by rfl)]
      have y0 := keep_of_below hB k9.out
      have y1 := keep_of_below hB kf0.out
      go_simp
      exact hK _ _ (gr_refl _) rfl
     refine Steps.cons rfl ?_ ?_
     ·intro f wz hB h K Q hK
      clear h
      try rw [if_pos (by rfl)]
      go_simp
      exact hK _ _ (gr_refl _) rfl
     refine Steps.cons rfl ?_ ?_
     ·intro f wz hB h K Q hK
      have h4 : (MP.is (.pointer (some ⟨w.heap.size, 0, none⟩))).p (f 4) wz := h 4 (by kernel_rfl)
      have e4 : f 4 = (.pointer (some ⟨w.heap.size, 0, none⟩)) := h4
      simp only [e4] at hK ⊢
      clear e4
      clear h
      try rw [if_pos (by rfl)]
      have y0 := keep_of_below hB k9.out
      have y1 := keep_of_below hB kf0.out
      go_simp
      exact hK _ _ (gr_refl _) rfl
     refine Steps.cons rfl ?_ ?_
     ·intro f wz hB h K Q hK
      clear h
      try rw [if_pos (by rfl)]
      go_simp
      exact hK _ _ (gr_refl _) rfl
     exact Steps.nil
    intro f w10 hB10 hR
    conv => arg 7; simp only [putL, dstOf, List.size_toArray, List.length_cons, List.length_nil, Nat.zero_add, Nat.reduceAdd, List.getElem?_toArray, List.getElem?_cons_zero, List.getElem?_cons_succ, Option.bind_some, Act.put, List.setIfInBounds_toArray, List.set_cons_zero, List.set_cons_succ, Array.getD_eq_getD_getElem?, Option.getD_some, if_true, if_false, Bool.false_eq_true]
    have e0 : f 0 = (.pointer (some ⟨gp, 0, none⟩)) := hR 0 (by decide) rfl
    have e1 : f 1 = (.pointer (some ⟨gp, 0, none⟩)) := hR 1 (by decide) rfl
    have e2 : f 2 = (.pointer (some ⟨gp, 9, none⟩)) := hR 2 (by decide) rfl
    have e3 : f 3 = (.map (some mb)) := hR 3 (by decide) rfl
    have e4 : f 4 = (.pointer (some ⟨w.heap.size, 0, none⟩)) := hR 4 (by decide) rfl
    have e5 : f 5 = (.int .i64 (nf.page : Int)) := hR 5 (by decide) rfl
    have e6 : f 6 = (.int .i64 (hd : Int)) := hR 6 (by decide) rfl
    simp only [e0, e1, e2, e3, e4, e5, e6]
    clear e0 e1 e2 e3 e4 e5 e6 hR
    have HB10 : Hid (Below w9.heap.size w9 w10) := Lib.hid (Below.trans (gr_drewN (gr_refl w9) 1) hB10)
    have HMQ10 := Lib.hid (HMQ9.out.below HB10.out)
    have HPB10 := Lib.hid (HPB9.out.below HB10.out)
    have HTK10 := Lib.hid (EO.below HTK9.out HB10.out)
    have hpl : nf.page ≤ 4096 := by
     have h1 := HX5.out.pi.fit
     have h2 := HX5.out.pi.d2
     have h3 := HF.out.pg
     have h4 := HP4.out.2.2.1
     omega
    have hno : remM (idxF (Ps.fr.map FrS.page)) (p4.1.page : Int) (nf.page : Int) = none := by
     unfold remM
     split
     ·rfl
     ·rw [idxF_at, (findP_none Ps nf.page).2 (by rw [HP4.out.2.2.2]; exact HF.out.no)]
      rfl
    obtain ⟨w11, hput, hmq11, hgr11⟩ := HMQ10.out.put (k := (nf.page : Int)) (v := (hd : Int)) (by omega) (by omega) (by omega) (by omega) hno (by have := HN4.out; simp only [maxLen]; omega)
    have HMQ11 := Lib.hid hmq11
    have HGR11 := Lib.hid hgr11
    clear hno hmq11 hgr11 hB10 kf0 k9
    refine wpAny_of_held (S := fun _ => True) _ _ _ _ ?_
    refine wpAnyH_ready (rs := [7]) (by kernel_rfl) (by simp) ?_
    refine AllReadyH.cons rfl (fun KK hK => ?_) AllReadyH.nil
    rw [if_pos (by rfl)]
    go_simp
    refine hK.out _ _ trivial (fun _ => ?_)
    clear hK KK
    try simp only [List.setIfInBounds_toArray, List.set_cons_zero, List.set_cons_succ]
    refine wpAnyH_done (by kernel_rfl) ?_ _
    clear hput
    have o1011 : Hid (Off (· = mb) w10 w11) := Lib.hid (Off.of_grown HGR11.out (fun k e => by injection e with e; exact e.symm))
    have HPB11 : Hid (PB w11 gp gd wv false (.slice (some ⟨tb, 0, none⟩) q.length c) mb Ps) := Lib.hid (HPB10.out.off o1011.out (fun e => HMQ10.out.notCells HPB10.out e.symm))
    have HTK11 : Hid (EO EF 5 157 w11 b0 (.slice (some ⟨tb, 0, none⟩) q.length c) (q'.set hd (nf, .slice Av 4080 cv))) := Lib.hid (ownsRow_off HTK10.out o1011.out (fun k hk e => by
     obtain ⟨cur, hc⟩ := own_blk HTK10.out hk
     exact HMQ10.out.notCells hc e.symm))
    have HDV11 := Lib.hid ((HDV9.out.below HB10.out).nb o1011.out (fun k e => by rw [e]; exact HMQ10.out.nb))
    have k4 : w11.cell? ⟨gp, 4, none⟩ = some (.int .i64 (P.most : Int)) := by have := HPB11.out.c4; rwa [HP4.out.2.1] at this
    have k10 := HPB11.out.c10
    have z10 := HPB11.out.frozen 10
    have hwp : IntKind.i64.wrap ((hd : Int) + 1) = (hd : Int) + 1 := by rw [IntKind.wrap_i64]; omega
    have hm0 : ¬ P.most = 0 := by omega
    obtain ⟨nx, hnx⟩ : ∃ nx, nx = (hd + 1) % P.most := ⟨_, rfl⟩
    have hrem : ((hd : Int) + 1).tmod (P.most : Int) = (nx : Int) := by
     rw [Int.tmod_eq_emod_of_nonneg (by omega), hnx, Int.natCast_emod, Int.natCast_add]
     rfl
    have hnl : nx < P.most := by rw [hnx]; exact Nat.mod_lt _ (by omega)
    have hwn : IntKind.i64.wrap (nx : Int) = (nx : Int) := by rw [IntKind.wrap_i64]; omega
    have HNX := Lib.hid hnx
    clear hnx
    go_wp2_with fail
    go_ret
    have hpq : putP Ps nf = { Ps with fr := Ps.fr.set hd nf, hand := nx } := by
     unfold putP
     rw [HP4.out.1, HP4.out.2.1, ← HNX.out]
    have hpi := HX4.out.pi.put (f := nf) (by rw [HPL4.out, HP4.out.2.1]; exact HMQ.out) (by rw [HP4.out.2.2.1]; exact HF.out.pg) HF.out.len HF.out.l1 HF.out.l2 (by rw [HP4.out.2.2.2]; exact HF.out.no)
    rw [hpq] at hpi
    have o12 : Off (· = gp) w11 (w11.setCell ⟨gp, 10, none⟩ (.int .i64 (nx : Int))) := (Off.refl _ w11).setCell _ rfl
    have hdv := HDV11.out.nb o12 (fun k e => by rw [e]; exact HPB11.out.nb)
    have hmq12 := HMQ11.out.off o12 (HMQ11.out.notCells HPB11.out)
    rw [idxF_swap HX4.out.pi.nd (by rw [HP4.out.2.2.2]; exact HF.out.no) HPA.out, ← HN4.out, ← HPL4.out] at hmq12
    have htk12 : EO EF 5 157 (w11.setCell ⟨gp, 10, none⟩ (.int .i64 (nx : Int))) b0 (.slice (some ⟨tb, 0, none⟩) q.length c) (q'.set hd (nf, .slice Av 4080 cv)) := ownsRow_off HTK11.out o12 (fun k e e2 => by
     obtain ⟨cur, hc⟩ := own_blk HTK11.out e
     subst e2
     exact cells_ne HPB11.out hc (by decide))
    rw [HH4.out, hpq]
    refine ⟨rfl, F, _, mb, q'.set hd (nf, .slice Av 4080 cv), ⟨hdv.1, HPB11.out.s10 nx, htk12, ?_, fun x hx => ?_, fun x hx k e e2 => ?_, ?_, hpi, HX4.out.bp, HX4.out.bm⟩, ?_, fun k e => ?_⟩
    ·rw [List.map_set, HX4.out.qf]
    ·rcases List.mem_or_eq_of_mem_set hx with hx | hx
     ·exact hdv.2 x (List.mem_append.2 (.inl hx))
     ·exact hdv.2 x (List.mem_append.2 (.inr (List.mem_singleton.2 hx)))
    ·rcases List.mem_or_eq_of_mem_set hx with hx | hx
     ·exact HX4.out.ap x hx k e e2
     ·subst hx
      rcases HF4.out k e2 with e3 | e3
      ·exact HDJ.out k e (.inl e3)
      ·have := (HF.out.ow.lt k e).2
       omega
    ·show MQ _ mb (Ps.fr.set hd nf).length (idxF ((Ps.fr.set hd nf).map FrS.page))
     rw [List.length_set, List.map_set]
     exact hmq12
    ·have tbS : ∀ k, k = tb → PS gp F (.slice (some ⟨tb, 0, none⟩) q.length c) mb q k := fun k e => by
      subst e
      exact .inr (.inr (.inr (.inl rfl)))
     exact HOV.out.trans ((Off.of_below HB5.out).trans ((o56.out.mono fun k _ e => .inr (.inr (.inl e))).trans ((Off.of_below HB8.out).trans ((o89.out.mono fun k _ e => tbS k e).trans ((Off.of_below HB10.out).trans ((o1011.out.mono fun k _ e => .inr (.inr (.inl e))).trans (o12.mono fun k _ e => .inr (.inl e))))))))
    ·rcases e with e | e | e | e | ⟨x, hx, e⟩
     ·exact (HSV.out k (.inl e)).imp id .inr
     ·exact .inl (.inr (.inl e))
     ·exact .inl (.inr (.inr (.inl e)))
     ·exact .inl (.inr (.inr (.inr (.inl e))))
     ·rcases List.mem_or_eq_of_mem_set hx with hx | hx
      ·exact (HSV.out k (.inr (.inr (.inr (.inr ⟨x, hx, e⟩))))).imp id .inr
      ·subst hx
       exact .inr (.inl e)
end Go.Proofs.YtnkeclpgpiogoaaGreat

/-! QoF -/
namespace Go.Proofs.YtnkeclpgpiogoaaGreat
open Go Go.RowKit Go.Maps
set_option maxRecDepth 100000 in
theorem IsE.lens {w : World} {b0 gd : Nat} {F : Nat → Prop} {D : EnS} (h : IsE w b0 gd F D) : (∀ b, b < D.d.blocks.length → (D.d.blocks.getD b []).length = 4096) ∧ ∀ p ∈ D.d.pending, p.2.length = 4096 ∧ p.1 < D.d.blocks.length := by
 obtain ⟨w0, h0, h1, _⟩ := h
 obtain ⟨ok, Fd, hd⟩ := h1.isd
 exact hd.lens
set_option maxRecDepth 100000 in
theorem IsE.blk_len {w : World} {b0 gd : Nat} {F : Nat → Prop} {D : EnS} (h : IsE w b0 gd F D) {b : Nat} (hb : b < D.d.blocks.length) : (lastL D.d.blocks D.d.pending b).length = 4096 :=
 lastL_len (h.lens.1 b hb) (fun p hp => (h.lens.2 p hp).1)
set_option maxRecDepth 100000 in
theorem phold_any {w : World} {b0 gp gd mb : Nat} {wv tv : Value} {D : EnS} {P : PoS} {F : Nat → Prop} {q : List FV} (X : PX w b0 gp gd wv D P F tv mb q) (hl : LogV wv b0 gd D) (nf : FrS) (Av : Option Addr) (cv : Nat) (hf : NewF w b0 P nf (.slice Av 4080 cv)) (hdj : ∀ k, (Value.slice Av 4080 cv).ownBlock = some k → ¬ PS gp F tv mb q k) (hpd : D.d.pending.length ≤ 900000) (hct : P.count ≤ 1152921504606846976) (hbs : b0 ≤ w.heap.size) :
  Calls Tryz.prog 77 #[.pointer (some ⟨gp, 0, none⟩), .agg #[.int .i64 (nf.page : Int), .slice Av 4080 cv, .int .i64 nf.lsn, .bool nf.dirty, .bool nf.used]] w fun e w' => e = .returned (.int .i64 (holdR D P nf).2.2) ∧ PStepV w b0 gp gd wv (PS gp F tv mb q) (.slice Av 4080 cv) (holdR D P nf).1 (holdR D P nf).2.1 w' := by
 by_cases hr : P.fr.length < P.most
 ·have e : holdR D P nf = (D, pushP P nf, 0) := by
   unfold holdR
   rw [if_pos hr]
  rw [e]
  exact phold_room X nf _ hf hdj hr hbs
 ·exact phold_full X hl nf Av cv hf hdj hr hpd hct
def GPost (w : World) (b0 gp gd : Nat) (wv : Value) (S : Nat → Prop) (r : Res) (l : List UInt8) (e : Ending) (w' : World) : Prop :=
 ∃ v, e = .returned (.tuple #[v, .int .i64 r.2.2]) ∧ OB w' w.heap.size v l ∧ ∃ F tv mb q, PX w' b0 gp gd wv r.1 r.2.1 F tv mb q ∧ Off S w w' ∧ (∀ k, PS gp F tv mb q k → S k ∨ w.heap.size ≤ k) ∧ (∀ k, v.ownBlock = some k → ¬ PS gp F tv mb q k) ∧ ∃ wn : World, w.heap.size ≤ wn.heap.size ∧ PX wn b0 gp gd wv r.1 r.2.1 F tv mb q ∧ Below wn.heap.size wn w' ∧ ∀ k, v.ownBlock = some k → wn.heap.size ≤ k
def MP.rt (base n : Nat) (r : Int) (l : List UInt8) : MP := ⟨fun v w => ∃ A c, v = .tuple #[.slice A n c, .int .i64 r] ∧ OB w base (.slice A n c) l, fun _ _ _ hb ⟨A, c, e, h⟩ => ⟨A, c, e, h.below hb⟩⟩
def MP.rs (base n : Nat) (l : List UInt8) : MP := ⟨fun v w => ∃ A c, v = .slice A n c ∧ OB w base (.slice A n c) l, fun _ _ _ hb ⟨A, c, e, h⟩ => ⟨A, c, e, h.below hb⟩⟩
set_option maxRecDepth 100000 in
set_option maxHeartbeats 4000000 in
theorem Get_bad {w : World} {b0 gp gd mb : Nat} {wv tv : Value} {D : EnS} {P : PoS} {F : Nat → Prop} {q : List FV} (X : PX w b0 gp gd wv D P F tv mb q) (page : Int) (hp : askP P page ≠ 0) :
  Calls Tryz.prog 28 #[.pointer (some ⟨gp, 0, none⟩), .int .i64 page] w (GPost w b0 gp gd wv (PS gp F tv mb q) (getR D P page) (getL D P page)) := by
 have HA := Lib.hid (pasked_any X.pb page)
 have hx : (askP P page != 0) = true := by rw [bne_iff_ne]; exact hp
 have HR : Hid (getR D P page = (D, P, askP P page)) := Lib.hid (by unfold getR; rw [if_pos hp])
 have HLL : Hid (getL D P page = []) := Lib.hid (by unfold getL; rw [HR.out]; exact if_pos hp)
 have HX := Lib.hid X
 clear X hp
 generalize askP P page = r at *
 go_enter Tryz.func28, Tryz.ntmps28
 go_wp2_with fail
 refine HA.out.mono ?_
 rintro e w1 ⟨rfl, rfl⟩
 go_wp2_with fail
 go_ret2
 rw [HR.out, HLL.out]
 exact ⟨_, rfl, OB.nil _ _, F, tv, mb, q, HX.out, Off.refl _ _, fun _ e => .inl e, (fun k e => by simp [Value.ownBlock] at e), _, Nat.le_refl _, HX.out, gr_refl _, fun k e => by simp [Value.ownBlock] at e⟩
set_option maxRecDepth 100000 in
set_option maxHeartbeats 4000000 in
theorem Get_held {w : World} {b0 gp gd mb : Nat} {wv tv : Value} {D : EnS} {P : PoS} {F : Nat → Prop} {q : List FV} (X : PX w b0 gp gd wv D P F tv mb q) (pg i : Nat) (hp : askP P (pg : Int) = 0) (hi : findP P pg = some i) :
  Calls Tryz.prog 28 #[.pointer (some ⟨gp, 0, none⟩), .int .i64 (pg : Int)] w (GPost w b0 gp gd wv (PS gp F tv mb q) (getR D P (pg : Int)) (getL D P (pg : Int))) := by
 have HA := Lib.hid (pasked_any X.pb (pg : Int))
 have HR : Hid (getR D P (pg : Int) = (D, useP P i, 0)) := Lib.hid (by unfold getR; rw [if_neg (by rw [hp]; decide), Int.toNat_natCast, hi])
 have HLL : Hid (getL D P (pg : Int) = (P.fr.getD i fr0).pay) := Lib.hid (by unfold getL; rw [HR.out, if_neg (show ¬ ((0 : Int) ≠ 0) by decide), Int.toNat_natCast, hi])
 have hlen : P.fr.length = q.length := by rw [← X.qf, List.length_map]
 have hil := (findP_some hi).1
 have hm2 := X.pi.m2
 have hle := X.pi.len
 obtain ⟨p, hpq⟩ : ∃ p, q[i]? = some p := ⟨_, List.getElem?_eq_getElem (by omega)⟩
 have hpf : P.fr.getD i fr0 = p.1 := by
  rw [← X.qf, List.getD_eq_getElem?_getD, List.getElem?_map, hpq]
  rfl
 obtain ⟨tb, tc, rfl, t1, t2, t3, t4⟩ := X.tk.block (by omega)
 have hpl : pg ≤ 4096 := by
  have h1 := X.pi.fit
  have h2 := X.pi.d2
  have : (pg : Int) < P.pages := by
   unfold askP at hp
   split at hp
   ·cases hp
   ·omega
  omega
 have hlook := X.mp.look (k := (pg : Int)) (by omega) (by omega)
 rw [idxF_at, hi] at hlook
 have hlook2 : (Instr.lookup 127 (.map (some mb)) (.int .i64 (pg : Int)) true).run Tryz.prog w = .ok (.tuple #[.int .i64 (i : Int), .bool true]) w := hlook
 have c9 := X.pb.c9
 have c8 := X.pb.c8
 have z4 := own_frz X.tk (i * 5 + 4)
 obtain ⟨_, _, _, _, f4⟩ := fr_cells X.tk hpq
 have hx2 := X.mark hpq true
 have f1 := (fr_cells hx2.tk (List.getElem?_set_self (a := (({ p.1 with used := true }, p.2) : FV)) (List.getElem?_eq_some_iff.1 hpq).1)).2.1
 obtain ⟨Ap, cp, hpv, hbr, hcp, hcm⟩ := (hx2.pv ({ p.1 with used := true }, p.2) (List.mem_of_getElem? (List.getElem?_set_self (a := (({ p.1 with used := true }, p.2) : FV)) (List.getElem?_eq_some_iff.1 hpq).1))).form
 have hpay : p.1.pay.length = 4080 := by rw [← hpf]; exact (X.pi.ok _ (getD_mem hil)).2.1
 dsimp only at hpv hbr hcp f1
 rw [hpay] at hpv hbr hcp
 rw [hpv] at f1
 have d8 := hx2.pb.c8
 have HCL := Lib.hid (Clone_any Ap 4080 cp p.1.pay _ hbr (by omega))
 have HX := Lib.hid X
 have HX2 := Lib.hid hx2
 have HPF := Lib.hid hpf
 have HPQ := Lib.hid hpq
 have hiq : i < q.length := by omega
 have i0 : (0 : Int) ≤ (i : Int) := Int.natCast_nonneg _
 have i1 : (i : Int) < (q.length : Int) := by omega
 have hql : q.length ≤ 256 := by omega
 clear X hx2 hlook hpq hpf hpv hbr hi hil
 rw [hp] at HA
 clear hp
 go_enter Tryz.func28, Tryz.ntmps28
 go_wp2_with fail
 refine HA.out.mono ?_
 rintro e w1 ⟨rfl, rfl⟩
 go_wp2_with fail
 refine HCL.out.mono ?_
 rintro e w2 ⟨v, rfl, ob2, hb2⟩
 obtain ⟨A2, c2, rfl, _, _⟩ := own_form ob2
 rw [hpay] at ob2
 have OB2 := Lib.hid ob2
 have HB2 := Lib.hid hb2
 clear ob2 hb2
 go_wp2_with fail
 go_ret2
 rw [HR.out, HLL.out, HPF.out]
 have hx := HX2.out.below HB2.out
 have o2 : Off (· = tb) w (w.setCell ⟨tb, i * 5 + 4, none⟩ (.bool true)) := (Off.refl _ w).setCell _ rfl
 refine ⟨.slice A2 4080 c2, rfl, own_lower OB2.out o2.size, F, _, mb, _, hx, ?_, fun k e => .inl (PS.setv HPQ.out (p' := ({ p.1 with used := true }, p.2)) rfl e), fun k e e2 => ?_, _, o2.size, HX2.out, HB2.out, fun k e => (OB2.out.lt k e).1⟩
 ·refine (o2.mono fun k _ e => ?_).trans (Off.of_below HB2.out)
  subst e
  exact .inr (.inr (.inr (.inl rfl)))
 ·have h1 := (OB2.out.lt k e).1
  have h2 := HX2.out.lt e2
  omega
set_option maxRecDepth 100000 in
set_option maxHeartbeats 8000000 in
theorem Get_new {w : World} {b0 gp gd mb : Nat} {wv tv : Value} {D : EnS} {P : PoS} {F : Nat → Prop} {q : List FV} (X : PX w b0 gp gd wv D P F tv mb q) (hl : LogV wv b0 gd D) (pg : Nat) (hp : askP P (pg : Int) = 0) (hi : findP P pg = none) (hpd : D.d.pending.length ≤ 900000) (hct : P.count ≤ 1152921504606846976) (hbs : b0 ≤ w.heap.size) :
  Calls Tryz.prog 28 #[.pointer (some ⟨gp, 0, none⟩), .int .i64 (pg : Int)] w (GPost w b0 gp gd wv (PS gp F tv mb q) (getR D P (pg : Int)) (getL D P (pg : Int))) := by
 have HA := Lib.hid (pasked_any X.pb (pg : Int))
 have hpp : pg < P.pages := by
  unfold askP at hp
  split at hp
  ·cases hp
  ·omega
 have hfit := X.pi.fit
 have hd2 := X.pi.d2
 have hlook := X.mp.look (k := (pg : Int)) (by omega) (by omega)
 rw [idxF_at, hi] at hlook
 have hlook2 : (Instr.lookup 127 (.map (some mb)) (.int .i64 (pg : Int)) true).run Tryz.prog w = .ok (.tuple #[.int .i64 0, .bool false]) w := hlook
 have c9 := X.pb.c9
 obtain ⟨R, hR⟩ : ∃ R, R = getR D P (pg : Int) := ⟨_, rfl⟩
 obtain ⟨LL, hLL⟩ : ∃ LL, LL = getL D P (pg : Int) := ⟨_, rfl⟩
 have HR : Hid (R = if readE D.d ((P.base + pg : Nat) : Int) ≠ 0 then (D, P, readE D.d ((P.base + pg : Nat) : Int)) else if openE (readL D.d ((P.base + pg : Nat) : Int)) ≠ 0 then (D, P, openE (readL D.d ((P.base + pg : Nat) : Int))) else holdR D P ⟨pg, openP (readL D.d ((P.base + pg : Nat) : Int)), 0, false, true⟩) := Lib.hid (by
  rw [hR]
  unfold getR
  rw [if_neg (by rw [hp]; decide), Int.toNat_natCast, hi])
 have HLL : Hid (LL = if R.2.2 ≠ 0 then [] else openP (readL D.d ((P.base + pg : Nat) : Int))) := Lib.hid (by
  rw [hLL, hR]
  unfold getL
  rw [Int.toNat_natCast, hi])
 rw [← hR, ← hLL]
 have HX := Lib.hid X
 have HLV := Lib.hid hl
 have HNO := Lib.hid ((findP_none P pg).1 hi)
 have HPP := Lib.hid hpp
 obtain ⟨rl, hrl⟩ : ∃ rl, rl = readL D.d ((P.base + pg : Nat) : Int) := ⟨_, rfl⟩
 obtain ⟨re, hre⟩ : ∃ re, re = readE D.d ((P.base + pg : Nat) : Int) := ⟨_, rfl⟩
 have HRD : Hid (∀ W, Below w.heap.size w W → Calls Tryz.prog 75 #[.pointer (some ⟨gd, 0, none⟩), .int .i64 ((P.base : Int) + (pg : Int))] W fun e w' => (∃ A c, e = .returned (.tuple #[.slice A rl.length c, .int .i64 re]) ∧ OB w' w.heap.size (.slice A rl.length c) rl) ∧ Below W.heap.size W w') := Lib.hid (fun W hW => (Read_e (HX.out.dk.below hW) ((P.base : Int) + (pg : Int)) (by omega)).mono (by
  rintro e w' ⟨v, rfl, h1, h2⟩
  rw [← Int.natCast_add, ← hrl] at h1
  rw [← Int.natCast_add, ← hre]
  obtain ⟨A, c, rfl, _, _⟩ := own_form h1
  exact ⟨⟨A, c, rfl, own_lower h1 hW.size⟩, h2⟩))
 have HRL : Hid (re = 0 → rl.length = 4096) := Lib.hid (fun h0 => by
  rw [hrl]
  unfold readL
  rw [if_neg (by rw [← hre, h0]; decide), Int.toNat_natCast]
  exact HX.out.dk.blk_len (by omega))
 rw [← hrl, ← hre] at HR
 rw [← hrl] at HLL
 have hsum : IntKind.i64.wrap ((P.base : Int) + (pg : Int)) = (P.base : Int) + (pg : Int) := by rw [IntKind.wrap_i64]; omega
 have hsum2 : IntKind.i64.wrap (P.base : Int) = (P.base : Int) := by rw [IntKind.wrap_i64]; omega
 have HF2 := Lib.hid hfit
 clear X hl hlook hR hLL hpp hi hrl hre hfit
 rw [hp] at HA
 clear hp
 go_enter Tryz.func28, Tryz.ntmps28
 go_wp2_with fail
 refine HA.out.mono ?_
 rintro e w1 ⟨rfl, rfl⟩
 go_upto_region 8 with fail
 have d1 := Lib.hid HX.out.pb.c1
 have d2 := Lib.hid HX.out.pb.c2
 clear c9 hlook2
 refine' wp_region_mono (by kernel_rfl) (by kernel_rfl) (by kernel_rfl) (by kernel_rfl) (by kernel_rfl) (by kernel_rfl)
  [MP.is (.pointer (some ⟨gp, 0, none⟩)), MP.is (.pointer (some ⟨gp, 0, none⟩)), MP.is (.pointer (some ⟨gp, 1, none⟩)), MP.is (.pointer (some ⟨gd, 0, none⟩)), MP.is (.pointer (some ⟨gp, 0, none⟩)), MP.is (.pointer (some ⟨gp, 0, none⟩)), MP.is (.pointer (some ⟨gp, 2, none⟩)), MP.is (.int .i64 (P.base : Int)), MP.is (.int .i64 (pg : Int)), MP.is (.int .i64 ((P.base : Int) + (pg : Int))), MP.rt w.heap.size rl.length re rl, MP.rt w.heap.size rl.length re rl, MP.rs w.heap.size rl.length rl, MP.is (.int .i64 re), MP.rs w.heap.size rl.length rl, MP.is (.int .i64 re)] ?hAA1 ?hst1 ?hend1
 case hAA1 =>
  intro f
  conv => lhs; simp only [putA, dstOf, List.size_toArray, List.length_cons, List.length_nil, Nat.zero_add, Nat.reduceAdd, List.getElem?_toArray, List.getElem?_cons_zero, List.getElem?_cons_succ, Option.bind_some, Act.put, List.setIfInBounds_toArray, List.set_cons_zero, List.set_cons_succ]
  first | done | exact rfl
 case hst1 =>
  change Steps _ _ _ _ _ [0, 1, 2, 3, 4, 5, 6, 7, 8, 9, 10, 11, 12, 13, 14, 15]
  refine Steps.cons rfl ?_ ?_
  ·intro f wz hB h K Q hK
   clear h
   try simp only [List.getElem_toArray, List.getElem_cons_zero]
   try rw [if_pos (by rfl)]
   go_simp
   exact hK _ _ (gr_refl _) rfl
  refine Steps.cons rfl ?_ ?_
  ·intro f wz hB h K Q hK
   have h0 : (MP.is (.pointer (some ⟨gp, 0, none⟩))).p (f 0) wz := h 0 (by kernel_rfl)
   have e0 : f 0 = (.pointer (some ⟨gp, 0, none⟩)) := h0
   simp only [e0] at hK ⊢
   clear e0
   clear h
   try rw [if_pos (by rfl)]
   go_simp
   exact hK _ _ (gr_refl _) rfl
  refine Steps.cons rfl ?_ ?_
  ·intro f wz hB h K Q hK
   have h1 : (MP.is (.pointer (some ⟨gp, 0, none⟩))).p (f 1) wz := h 1 (by kernel_rfl)
   have e1 : f 1 = (.pointer (some ⟨gp, 0, none⟩)) := h1
   simp only [e1] at hK ⊢
   clear e1
   clear h
   try rw [if_pos (by rfl)]
   go_simp
   exact hK _ _ (gr_refl _) rfl
  refine Steps.cons rfl ?_ ?_
  ·intro f wz hB h K Q hK
   have h2 : (MP.is (.pointer (some ⟨gp, 1, none⟩))).p (f 2) wz := h 2 (by kernel_rfl)
   have e2 : f 2 = (.pointer (some ⟨gp, 1, none⟩)) := h2
   simp only [e2] at hK ⊢
   clear e2
   clear h
   try rw [if_pos (by rfl)]
   have y0 := keep_of_below (bel_drew hB) d1.out
   have y1 := keep_of_below (bel_drew hB) d2.out
   go_simp
   exact hK _ _ (gr_refl _) rfl
  refine Steps.cons rfl ?_ ?_
  ·intro f wz hB h K Q hK
   clear h
   try rw [if_pos (by rfl)]
   go_simp
   exact hK _ _ (gr_refl _) rfl
  refine Steps.cons rfl ?_ ?_
  ·intro f wz hB h K Q hK
   have h4 : (MP.is (.pointer (some ⟨gp, 0, none⟩))).p (f 4) wz := h 4 (by kernel_rfl)
   have e4 : f 4 = (.pointer (some ⟨gp, 0, none⟩)) := h4
   simp only [e4] at hK ⊢
   clear e4
   clear h
   try rw [if_pos (by rfl)]
   go_simp
   exact hK _ _ (gr_refl _) rfl
  refine Steps.cons rfl ?_ ?_
  ·intro f wz hB h K Q hK
   have h5 : (MP.is (.pointer (some ⟨gp, 0, none⟩))).p (f 5) wz := h 5 (by kernel_rfl)
   have e5 : f 5 = (.pointer (some ⟨gp, 0, none⟩)) := h5
   simp only [e5] at hK ⊢
   clear e5
   clear h
   try rw [if_pos (by rfl)]
   go_simp
   exact hK _ _ (gr_refl _) rfl
  refine Steps.cons rfl ?_ ?_
  ·intro f wz hB h K Q hK
   have h6 : (MP.is (.pointer (some ⟨gp, 2, none⟩))).p (f 6) wz := h 6 (by kernel_rfl)
   have e6 : f 6 = (.pointer (some ⟨gp, 2, none⟩)) := h6
   simp only [e6] at hK ⊢
   clear e6
   clear h
   try rw [if_pos (by rfl)]
   have y0 := keep_of_below (bel_drew hB) d1.out
   have y1 := keep_of_below (bel_drew hB) d2.out
   go_simp
   exact hK _ _ (gr_refl _) rfl
  refine Steps.cons rfl ?_ ?_
  ·intro f wz hB h K Q hK
   clear h
   try rw [if_pos (by rfl)]
   go_simp
   exact hK _ _ (gr_refl _) rfl
  refine Steps.cons rfl ?_ ?_
  ·intro f wz hB h K Q hK
   have h7 : (MP.is (.int .i64 (P.base : Int))).p (f 7) wz := h 7 (by kernel_rfl)
   have e7 : f 7 = (.int .i64 (P.base : Int)) := h7
   have h8 : (MP.is (.int .i64 (pg : Int))).p (f 8) wz := h 8 (by kernel_rfl)
   have e8 : f 8 = (.int .i64 (pg : Int)) := h8
   simp only [e7, e8] at hK ⊢
   clear e7 e8
   clear h
   try rw [if_pos (by rfl)]
   go_simp
   exact hK _ _ (gr_refl _) rfl
  refine Steps.cons rfl ?_ ?_
  ·intro f wz hB h K Q hK
   have h3 : (MP.is (.pointer (some ⟨gd, 0, none⟩))).p (f 3) wz := h 3 (by kernel_rfl)
   have e3 : f 3 = (.pointer (some ⟨gd, 0, none⟩)) := h3
   have h9 : (MP.is (.int .i64 ((P.base : Int) + (pg : Int)))).p (f 9) wz := h 9 (by kernel_rfl)
   have e9 : f 9 = (.int .i64 ((P.base : Int) + (pg : Int))) := h9
   simp only [e3, e9] at hK ⊢
   clear e3 e9
   clear h
   try rw [if_pos (by rfl)]
   go_simp
   refine (HRD.out _ (bel_drew hB)).mono ?_
   rintro e w5 ⟨⟨A, c, rfl, h5⟩, hb5⟩
   exact hK _ _ hb5 ⟨A, c, rfl, h5⟩
  refine Steps.cons rfl ?_ ?_
  ·intro f wz hB h K Q hK
   have h10 : (MP.rt w.heap.size rl.length re rl).p (f 10) wz := h 10 (by kernel_rfl)
   obtain ⟨A10, c10, e10, q10⟩ := h10
   simp only [e10] at hK ⊢
   clear e10
   clear h
   try rw [if_pos (by rfl)]
   go_simp
   exact hK _ _ (gr_refl _) ⟨A10, c10, rfl, q10⟩
  refine Steps.cons rfl ?_ ?_
  ·intro f wz hB h K Q hK
   have h11 : (MP.rt w.heap.size rl.length re rl).p (f 11) wz := h 11 (by kernel_rfl)
   obtain ⟨A11, c11, e11, q11⟩ := h11
   simp only [e11] at hK ⊢
   clear e11
   clear h
   try rw [if_pos (by rfl)]
   go_simp
   exact hK _ _ (gr_refl _) ⟨A11, c11, rfl, q11⟩
  refine Steps.cons rfl ?_ ?_
  ·intro f wz hB h K Q hK
   have h11 : (MP.rt w.heap.size rl.length re rl).p (f 11) wz := h 11 (by kernel_rfl)
   obtain ⟨A11, c11, e11, q11⟩ := h11
   simp only [e11] at hK ⊢
   clear e11
   clear h
   try rw [if_pos (by rfl)]
   go_simp
   exact hK _ _ (gr_refl _) rfl
  refine Steps.cons rfl ?_ ?_
  ·intro f wz hB h K Q hK
   have h12 : (MP.rs w.heap.size rl.length rl).p (f 12) wz := h 12 (by kernel_rfl)
   obtain ⟨A12, c12, e12, q12⟩ := h12
   simp only [e12] at hK ⊢
   clear e12
   clear h
   try rw [if_pos (by rfl)]
   go_simp
   exact hK _ _ (gr_refl _) ⟨A12, c12, rfl, q12⟩
  refine Steps.cons rfl ?_ ?_
  ·intro f wz hB h K Q hK
   have h13 : (MP.is (.int .i64 re)).p (f 13) wz := h 13 (by kernel_rfl)
   have e13 : f 13 = (.int .i64 re) := h13
   simp only [e13] at hK ⊢
   clear e13
   clear h
   try rw [if_pos (by rfl)]
   go_simp
   exact hK _ _ (gr_refl _) rfl
  exact Steps.nil
 intro f w2 hB2 hR
 have e0 : f 0 = (.pointer (some ⟨gp, 0, none⟩)) := hR 0 (by decide)
 have e1 : f 1 = (.pointer (some ⟨gp, 0, none⟩)) := hR 1 (by decide)
 have e2 : f 2 = (.pointer (some ⟨gp, 1, none⟩)) := hR 2 (by decide)
 have e3 : f 3 = (.pointer (some ⟨gd, 0, none⟩)) := hR 3 (by decide)
 have e4 : f 4 = (.pointer (some ⟨gp, 0, none⟩)) := hR 4 (by decide)
 have e5 : f 5 = (.pointer (some ⟨gp, 0, none⟩)) := hR 5 (by decide)
 have e6 : f 6 = (.pointer (some ⟨gp, 2, none⟩)) := hR 6 (by decide)
 have e7 : f 7 = (.int .i64 (P.base : Int)) := hR 7 (by decide)
 have e8 : f 8 = (.int .i64 (pg : Int)) := hR 8 (by decide)
 have e9 : f 9 = (.int .i64 ((P.base : Int) + (pg : Int))) := hR 9 (by decide)
 obtain ⟨A102, c102, e10, q102⟩ := (show (MP.rt w.heap.size rl.length re rl).p (f 10) w2 from hR 10 (by decide))
 obtain ⟨A112, c112, e11, q112⟩ := (show (MP.rt w.heap.size rl.length re rl).p (f 11) w2 from hR 11 (by decide))
 obtain ⟨A122, c122, e12, q122⟩ := (show (MP.rs w.heap.size rl.length rl).p (f 12) w2 from hR 12 (by decide))
 have e13 : f 13 = (.int .i64 re) := hR 13 (by decide)
 obtain ⟨A142, c142, e14, q142⟩ := (show (MP.rs w.heap.size rl.length rl).p (f 14) w2 from hR 14 (by decide))
 have e15 : f 15 = (.int .i64 re) := hR 15 (by decide)
 simp only [e0, e1, e2, e3, e4, e5, e6, e7, e8, e9, e10, e11, e12, e13, e14, e15]
 clear e0 e1 e2 e3 e4 e5 e6 e7 e8 e9 e10 e11 e12 e13 e14 e15 hR
 have HB2 : Hid (Below w.heap.size w w2) := Lib.hid (Below.trans (gr_drewN (gr_refl w) 1) hB2)
 have HX2 := Lib.hid (HX.out.below HB2.out)
 have HQ2 := Lib.hid q142
 clear q102 q112 q122 q142 hB2 d1 d2
 by_cases hre0 : re = 0
 ·have h4 := HRL.out hre0
  have HL4 := Lib.hid h4
  have hq2 := HQ2.out
  rw [h4] at hq2
  have HR2 : Hid (R = if openE rl ≠ 0 then (D, P, openE rl) else holdR D P ⟨pg, openP rl, 0, false, true⟩) := Lib.hid (by rw [HR.out, if_neg (by rw [hre0]; decide)])
  rw [h4]
  subst hre0
  clear h4 HQ2 HR HRD HRL
  obtain ⟨A3, c3, e3, hbr, hc3, _⟩ := hq2.form
  rw [HL4.out] at e3 hbr hc3
  injection e3 with e31 _ e33
  subst e31 e33
  have HOP := Lib.hid (Open_any A142 c142 rl w2 hbr hc3)
  clear hbr hc3 hq2
  obtain ⟨oe, hoe⟩ : ∃ oe, oe = openE rl := ⟨_, rfl⟩
  have HOE := Lib.hid hoe
  have HPL : Hid (oe = 0 → (openP rl).length = 4080) := Lib.hid (fun h0 => by
   rw [hoe] at h0
   unfold openE at h0
   split at h0
   ·rename_i hs
    unfold openP
    rw [if_pos hs, List.length_take, List.length_drop, HL4.out]
    rfl
   ·cases h0)
  rw [← hoe] at HOP HR2
  obtain ⟨pl, hpl⟩ : ∃ pl, pl = openP rl := ⟨_, rfl⟩
  rw [← hpl] at HOP HR2 HLL HPL
  clear hoe hpl
  go_wp2_with fail
  refine HOP.out.mono ?_
  rintro e w3 ⟨r, rfl, hob, hb3⟩
  obtain ⟨A5, c5, rfl, _, _⟩ := own_form hob
  have HOB := Lib.hid hob
  have HB3 := Lib.hid hb3
  clear hob hb3 HOP
  by_cases hoe0 : oe = 0
  ·have h48 := HPL.out hoe0
   have HP48 := Lib.hid h48
   have HOB4 : Hid (OB w3 w2.heap.size (.slice A5 4080 c5) pl) := Lib.hid (by have := HOB.out; rwa [h48] at this)
   have HR3 : Hid (R = holdR D P ⟨pg, pl, 0, false, true⟩) := Lib.hid (by rw [HR2.out, if_neg (by rw [hoe0]; decide)])
   rw [h48]
   subst hoe0
   clear h48 HOB HPL HR2
   have HX3 := Lib.hid (HX2.out.below HB3.out)
   have HB13 := Lib.hid (HB2.out.trans (HB3.out.mono HB2.out.size))
   have hb0 : b0 ≤ w2.heap.size := Nat.le_trans hbs HB2.out.size
   have HHD := Lib.hid (phold_any HX3.out HLV.out ⟨pg, pl, 0, false, true⟩ A5 c5 ⟨own_lower HOB4.out hb0, HPP.out, HP48.out, Int.le_refl _, by show (0 : Int) ≤ _; omega, HNO.out⟩ (fun k e e2 => by
    have h1 := (HOB4.out.lt k e).1
    have h2 := HX.out.lt e2
    have := HB2.out.size
    omega) hpd hct (Nat.le_trans hb0 HB3.out.size))
   rw [← HR3.out] at HHD
   obtain ⟨D4, P4, r4⟩ := R
   dsimp only at HHD
   have HLL3 : Hid (LL = if r4 ≠ 0 then [] else pl) := Lib.hid HLL.out
   clear HR3 HLL
   go_wp2_with fail
   refine HHD.out.mono ?_
   rintro e w4 ⟨rfl, F4, tv4, mb4, q4, hx4, ho4, hs4⟩
   have HX4 := Lib.hid hx4
   have HO4 := Lib.hid ho4
   have HS4 := Lib.hid hs4
   clear hx4 ho4 hs4 HHD
   have HSV : Hid (∀ k, PS gp F4 tv4 mb4 q4 k → PS gp F tv mb q k ∨ w.heap.size ≤ k) := Lib.hid (fun k e => by
    rcases HS4.out k e with e | e | e
    ·exact .inl e
    ·exact .inr (Nat.le_trans HB2.out.size (HOB4.out.lt k e).1)
    ·exact .inr (Nat.le_trans HB13.out.size e))
   by_cases hr4 : r4 = 0
   ·subst hr4
    have HL5 : Hid (LL = pl) := Lib.hid (by rw [HLL3.out, if_neg (by decide)])
    have hob4 := HOB4.out.off HO4.out (fun k e e2 => by
     have h1 := (HOB4.out.lt k e).1
     have h2 := HX.out.lt e2
     have := HB2.out.size
     omega)
    obtain ⟨A6, c6, e6, hbr6, _, _⟩ := hob4.form
    rw [HP48.out] at e6 hbr6
    injection e6 with e61 _ e63
    subst e61 e63
    have HCL := Lib.hid (Clone_any A5 4080 c5 pl w4 hbr6 (by omega))
    clear hob4 hbr6
    go_wp2_with fail
    refine HCL.out.mono ?_
    rintro e w5 ⟨v, rfl, ob5, hb5⟩
    obtain ⟨A7, c7, rfl, _, _⟩ := own_form ob5
    have OB5 := Lib.hid ob5
    have HB5 := Lib.hid hb5
    clear ob5 hb5
    rw [HP48.out]
    go_wp2_with fail
    go_ret2
    rw [HL5.out]
    refine ⟨.slice A7 4080 c7, rfl, ?_, F4, tv4, mb4, q4, HX4.out.below HB5.out, ((Off.of_below HB13.out).trans HO4.out).trans (Off.of_below HB5.out), HSV.out, (fun k e e2 => ?_), _, Nat.le_trans HB13.out.size HO4.out.size, HX4.out, HB5.out, fun k e => ?_⟩
    ·have h5 := OB5.out
     rw [HP48.out] at h5
     exact own_lower h5 (Nat.le_trans HB13.out.size HO4.out.size)
    ·have h5 := OB5.out
     rw [HP48.out] at h5
     have h1 := (h5.lt k e).1
     have h2 := HX4.out.lt e2
     omega
    ·have h5 := OB5.out
     rw [HP48.out] at h5
     exact (h5.lt k e).1
   ·have hx : (r4 != 0) = true := by rw [bne_iff_ne]; exact hr4
    have HL5 : Hid (LL = []) := Lib.hid (by rw [HLL3.out, if_pos hr4])
    clear hr4
    go_wp2_with fail
    go_ret2
    rw [HL5.out]
    exact ⟨_, rfl, OB.nil _ _, F4, tv4, mb4, q4, HX4.out, (Off.of_below HB13.out).trans HO4.out, HSV.out, (fun k e => by simp [Value.ownBlock] at e), _, Nat.le_trans HB13.out.size HO4.out.size, HX4.out, gr_refl _, fun k e => by simp [Value.ownBlock] at e⟩
  ·have hx : (oe != 0) = true := by rw [bne_iff_ne]; exact hoe0
   have HR3 : Hid (R = (D, P, oe)) := Lib.hid (by rw [HR2.out, if_pos hoe0])
   have HL5 : Hid (LL = []) := Lib.hid (by rw [HLL.out, HR3.out]; exact if_pos hoe0)
   clear hoe0
   go_wp2_with fail
   go_ret2
   rw [HL5.out, HR3.out]
   exact ⟨_, rfl, OB.nil _ _, F, tv, mb, q, HX2.out.below HB3.out, Off.of_below (HB2.out.trans (HB3.out.mono HB2.out.size)), fun _ e => .inl e, (fun k e => by simp [Value.ownBlock] at e), _, Nat.le_trans HB2.out.size HB3.out.size, HX2.out.below HB3.out, gr_refl _, fun k e => by simp [Value.ownBlock] at e⟩
 ·have hx : (re != 0) = true := by rw [bne_iff_ne]; exact hre0
  have HR3 : Hid (R = (D, P, re)) := Lib.hid (by rw [HR.out, if_pos hre0])
  have HL5 : Hid (LL = []) := Lib.hid (by rw [HLL.out, HR3.out]; exact if_pos hre0)
  clear hre0
  go_wp2_with fail
  go_ret2
  rw [HL5.out, HR3.out]
  exact ⟨_, rfl, OB.nil _ _, F, tv, mb, q, HX2.out, Off.of_below HB2.out, fun _ e => .inl e, (fun k e => by simp [Value.ownBlock] at e), _, HB2.out.size, HX2.out, gr_refl _, fun k e => by simp [Value.ownBlock] at e⟩
set_option maxRecDepth 100000 in
theorem Get_any {w : World} {b0 gp gd mb : Nat} {wv tv : Value} {D : EnS} {P : PoS} {F : Nat → Prop} {q : List FV} (X : PX w b0 gp gd wv D P F tv mb q) (hl : LogV wv b0 gd D) (page : Int) (hpd : D.d.pending.length ≤ 900000) (hct : P.count ≤ 1152921504606846976) (hbs : b0 ≤ w.heap.size) :
  Calls Tryz.prog 28 #[.pointer (some ⟨gp, 0, none⟩), .int .i64 page] w (GPost w b0 gp gd wv (PS gp F tv mb q) (getR D P page) (getL D P page)) := by
 by_cases hp : askP P page = 0
 ·obtain ⟨pg, rfl⟩ : ∃ pg : Nat, page = (pg : Int) := by
   unfold askP at hp
   split at hp
   ·cases hp
   ·exact ⟨page.toNat, by omega⟩
  cases hi : findP P pg with
  | some i => exact Get_held X pg i hp hi
  | none => exact Get_new X hl pg hp hi hpd hct hbs
 ·exact Get_bad X page hp
end Go.Proofs.YtnkeclpgpiogoaaGreat

/-! QoG -/
namespace Go.Proofs.YtnkeclpgpiogoaaGreat
open Go Go.RowKit Go.Maps
set_option maxRecDepth 100000 in
set_option maxHeartbeats 4000000 in
theorem Set_bad {w : World} {b0 gp gd mb : Nat} {wv tv : Value} {D : EnS} {P : PoS} {F : Nat → Prop} {q : List FV} (X : PX w b0 gp gd wv D P F tv mb q) (page lsn : Int) (A : Option Addr) (n c : Nat) (l : List UInt8) (hl : l.length = n) (hp : setE P page l.length lsn ≠ 0) :
  Calls Tryz.prog 68 #[.pointer (some ⟨gp, 0, none⟩), .int .i64 page, .slice A n c, .int .i64 lsn] w fun e w' => e = .returned (.int .i64 (setR D P page l lsn).2.2) ∧ PStep w b0 gp gd wv (PS gp F tv mb q) (setR D P page l lsn).1 (setR D P page l lsn).2.1 w' := by
 have HA := Lib.hid (pasked_any X.pb page)
 have HR : Hid (setR D P page l lsn = (D, P, setE P page l.length lsn)) := Lib.hid (by unfold setR; rw [if_pos hp])
 rw [HR.out]
 have HS := Lib.hid (X.same (gr_refl w))
 by_cases ha : askP P page = 0
 ·have he : setE P page l.length lsn = 2 := by
   unfold setE at hp ⊢
   rw [if_neg (by rw [ha]; decide)] at hp ⊢
   by_cases h : l.length ≠ 4080 ∨ lsn < 0
   ·rw [if_pos h]
   ·rw [if_neg h] at hp
    exact absurd rfl hp
  have hc : n ≠ 4080 ∨ lsn < 0 := by
   unfold setE at he
   rw [if_neg (by rw [ha]; decide)] at he
   by_cases h : l.length ≠ 4080 ∨ lsn < 0
   ·rw [← hl]; exact h
   ·rw [if_neg h] at he
    cases he
  rw [he]
  rw [ha] at HA
  clear he ha X hp
  by_cases hn : n = 4080
  ·subst hn
   have t1 : decide (lsn < 0) = true := decide_eq_true (by omega)
   clear hc hl
   go_enter Tryz.func68, Tryz.ntmps68
   go_wp2_with fail
   refine HA.out.mono ?_
   rintro e w1 ⟨rfl, rfl⟩
   go_wp2_with fail
   go_ret
   exact ⟨rfl, HS.out⟩
  ·have t1 : ((n : Int) != 4080) = true := by rw [bne_iff_ne]; omega
   clear hc hl hn
   go_enter Tryz.func68, Tryz.ntmps68
   go_wp2_with fail
   refine HA.out.mono ?_
   rintro e w1 ⟨rfl, rfl⟩
   go_wp2_with fail
   go_ret
   exact ⟨rfl, HS.out⟩
 ·have he : setE P page l.length lsn = askP P page := by
   unfold setE
   rw [if_pos ha]
  have hx : (askP P page != 0) = true := by rw [bne_iff_ne]; exact ha
  rw [he]
  clear he ha X hp hl
  generalize askP P page = r at *
  go_enter Tryz.func68, Tryz.ntmps68
  go_wp2_with fail
  refine HA.out.mono ?_
  rintro e w1 ⟨rfl, rfl⟩
  go_wp2_with fail
  go_ret
  exact ⟨rfl, HS.out⟩
set_option maxRecDepth 100000 in
set_option maxHeartbeats 8000000 in
theorem Set_good {w : World} {b0 gp gd mb : Nat} {wv tv : Value} {D : EnS} {P : PoS} {F : Nat → Prop} {q : List FV} (X : PX w b0 gp gd wv D P F tv mb q) (hl : LogV wv b0 gd D) (pg : Nat) (lsn : Int) (A : Option Addr) (c : Nat) (l : List UInt8) (hb : BR w A 4080 l) (hp : (pg : Int) < P.pages) (h0 : 0 ≤ lsn) (hls : lsn ≤ 9223372036854775807) (hpd : D.d.pending.length ≤ 900000) (hct : P.count ≤ 1152921504606846976) (hbs : b0 ≤ w.heap.size) :
  Calls Tryz.prog 68 #[.pointer (some ⟨gp, 0, none⟩), .int .i64 (pg : Int), .slice A 4080 c, .int .i64 lsn] w fun e w' => e = .returned (.int .i64 (setR D P (pg : Int) l lsn).2.2) ∧ PStep w b0 gp gd wv (PS gp F tv mb q) (setR D P (pg : Int) l lsn).1 (setR D P (pg : Int) l lsn).2.1 w' := by
 have hask : askP P (pg : Int) = 0 := by
  unfold askP
  rw [if_neg (by omega)]
 have HA := Lib.hid (pasked_any X.pb (pg : Int))
 rw [hask] at HA
 have hfit := X.pi.fit
 have hd2 := X.pi.d2
 have hll : l.length = 4080 := hb.len
 have HL4 := Lib.hid hll
 have t1 : decide (lsn < 0) = false := decide_eq_false (by omega)
 have HCL := Lib.hid (Clone_any A 4080 c l w hb (by omega))
 obtain ⟨R, hR⟩ : ∃ R, R = setR D P (pg : Int) l lsn := ⟨_, rfl⟩
 have HR : Hid (R = match findP P pg with
  | some i => (D, setP P i ⟨pg, l, lsn, true, true⟩, 0)
  | none => holdR D P ⟨pg, l, lsn, true, true⟩) := Lib.hid (by
  rw [hR]
  unfold setR setE
  rw [hask, hll, if_neg (by rw [if_neg (by decide), if_neg (by omega)]; decide), Int.toNat_natCast]
  cases findP P pg <;> rfl)
 rw [← hR]
 have HX := Lib.hid X
 have HLV := Lib.hid hl
 have HLK := Lib.hid (fun (W : World) (hW : Below w.heap.size w W) => (X.mp.below hW).look (k := (pg : Int)) (by omega) (by omega))
 have HPP := Lib.hid hp
 clear X hl hask hR hb hp hfit hll
 go_enter Tryz.func68, Tryz.ntmps68
 go_wp2_with fail
 refine HA.out.mono ?_
 rintro e w1 ⟨rfl, rfl⟩
 go_wp2_with fail
 refine HCL.out.mono ?_
 rintro e w2 ⟨v, rfl, ob2, hb2⟩
 obtain ⟨A2, c2, rfl, _, _⟩ := own_form ob2
 have hob2 := ob2
 rw [HL4.out] at hob2 ⊢
 have OB2 := Lib.hid hob2
 have HB2 := Lib.hid hb2
 have hb3 : Below w2.heap.size w2 (w2.alloc (.cells #[.int .i64 (pg : Int), .slice A2 4080 c2, .int .i64 lsn, .bool true, .bool true] 157)) := gr_alloc (gr_refl w2) _
 have HB3 := Lib.hid hb3
 have HB23 := Lib.hid (hb2.trans (hb3.mono hb2.size))
 have hlk := HLK.out _ HB23.out
 rw [idxF_at] at hlk
 have HFR : Hid ((w2.alloc (.cells #[.int .i64 (pg : Int), .slice A2 4080 c2, .int .i64 lsn, .bool true, .bool true] 157)).heap[w2.heap.size]? = some (.cells #[.int .i64 (pg : Int), .slice A2 4080 c2, .int .i64 lsn, .bool true, .bool true] 157 (0, 0))) := Lib.hid (heap_alloc_new w2 _)
 have HX3 := Lib.hid (HX.out.below HB23.out)
 have c9 := HX3.out.pb.c9
 have kf : ∀ j u, #[.int .i64 (pg : Int), .slice A2 4080 c2, .int .i64 lsn, .bool true, .bool true][j]? = some u → (w2.alloc (.cells #[.int .i64 (pg : Int), .slice A2 4080 c2, .int .i64 lsn, .bool true, .bool true] 157)).cell? ⟨w2.heap.size, j, none⟩ = some u := fun j u hj => by rw [cell_of_row _ _ j _ _ _ HFR.out]; exact hj
 have kf0 := kf 0 _ rfl
 have kf1 := kf 1 _ rfl
 have kf2 := kf 2 _ rfl
 have kf3 := kf 3 _ rfl
 have kf4 := kf 4 _ rfl
 have HOB3 : Hid (OB (w2.alloc (.cells #[.int .i64 (pg : Int), .slice A2 4080 c2, .int .i64 lsn, .bool true, .bool true] 157)) w.heap.size (.slice A2 4080 c2) l) := Lib.hid (hob2.below hb3)
 clear ob2 hob2 hb2 hb3 kf
 cases hi : findP P pg with
 | none =>
  rw [hi] at HR hlk
  have HNO := Lib.hid ((findP_none P pg).1 hi)
  have hlk2 : (Instr.lookup 127 (.map (some mb)) (.int .i64 (pg : Int)) true).run Tryz.prog (w2.alloc (.cells #[.int .i64 (pg : Int), .slice A2 4080 c2, .int .i64 lsn, .bool true, .bool true] 157)) = .ok (.tuple #[.int .i64 0, .bool false]) (w2.alloc (.cells #[.int .i64 (pg : Int), .slice A2 4080 c2, .int .i64 lsn, .bool true, .bool true] 157)) := hlk
  have HHD := Lib.hid (phold_any HX3.out HLV.out ⟨pg, l, lsn, true, true⟩ A2 c2 ⟨own_lower HOB3.out hbs, by have := HPP.out; show pg < _; omega, HL4.out, h0, hls, HNO.out⟩ (fun k e e2 => by
    have h1 := (HOB3.out.lt k e).1
    have h2 := HX.out.lt e2
    omega) hpd hct (Nat.le_trans hbs HB23.out.size))
  dsimp only at HR
  rw [← HR.out] at HHD
  obtain ⟨D4, P4, r4⟩ := R
  dsimp only at HHD
  clear hi hlk HR
  go_wp2_with fail
  refine HHD.out.mono ?_
  rintro e w4 ⟨rfl, F4, tv4, mb4, q4, hx4, ho4, hs4⟩
  have HX4 := Lib.hid hx4
  have HO4 := Lib.hid ho4
  have HS4 := Lib.hid hs4
  clear hx4 ho4 hs4 HHD
  go_wp2_with fail
  go_ret
  refine ⟨rfl, F4, tv4, mb4, q4, HX4.out, (Off.of_below HB23.out).trans HO4.out, fun k e => ?_⟩
  rcases HS4.out k e with e | e | e
  ·exact .inl e
  ·exact .inr (HOB3.out.lt k e).1
  ·exact .inr (Nat.le_trans HB23.out.size e)
 | some i =>
  rw [hi] at HR hlk
  have hlk2 : (Instr.lookup 127 (.map (some mb)) (.int .i64 (pg : Int)) true).run Tryz.prog (w2.alloc (.cells #[.int .i64 (pg : Int), .slice A2 4080 c2, .int .i64 lsn, .bool true, .bool true] 157)) = .ok (.tuple #[.int .i64 (i : Int), .bool true]) (w2.alloc (.cells #[.int .i64 (pg : Int), .slice A2 4080 c2, .int .i64 lsn, .bool true, .bool true] 157)) := hlk
  have hlen : P.fr.length = q.length := by rw [← HX.out.qf, List.length_map]
  have hil := (findP_some hi).1
  have hpgi := (findP_some hi).2
  have hm2 := HX.out.pi.m2
  have hle := HX.out.pi.len
  have hiq : i < q.length := by omega
  obtain ⟨p, hpq⟩ : ∃ p, q[i]? = some p := ⟨_, List.getElem?_eq_getElem hiq⟩
  have HPQ := Lib.hid hpq
  have HPG : Hid (pg = p.1.page) := Lib.hid (by
   rw [← hpgi, ← HX.out.qf, List.getD_eq_getElem?_getD, List.getElem?_map, hpq]
   rfl)
  have HPD : Hid ((P.fr.getD i fr0).page = pg) := Lib.hid hpgi
  have HIL := Lib.hid hil
  obtain ⟨tb, tc, rfl, t1, t2, t3, t4⟩ := HX.out.tk.block (by omega)
  have i0 : (0 : Int) ≤ (i : Int) := Int.natCast_nonneg _
  have i1 : (i : Int) < (q.length : Int) := by omega
  have hql : q.length ≤ 256 := by omega
  clear hi hlk hpq hil hpgi hle hm2
  dsimp only at HR
  go_upto_region 9 with fail
  have k8 := Lib.hid HX3.out.pb.c8
  have KF0 := Lib.hid kf0
  have KF1 := Lib.hid kf1
  have KF2 := Lib.hid kf2
  have KF3 := Lib.hid kf3
  have KF4 := Lib.hid kf4
  clear kf0 kf1 kf2 kf3 kf4 c9 hlk2
  generalize (w2.alloc (.cells #[.int .i64 (pg : Int), .slice A2 4080 c2, .int .i64 lsn, .bool true, .bool true] 157)) = w3 at *
  refine wp_region_any (by kernel_rfl) ?_
  refine' wpAny_to_tail (l0 := #[false, false, false, false, false, false, false, false]) (by kernel_rfl) (by kernel_rfl) (by kernel_rfl) (by kernel_rfl) (by kernel_rfl)
   [MP.is (.pointer (some ⟨gp, 0, none⟩)), MP.is (.pointer (some ⟨gp, 0, none⟩)), MP.is (.pointer (some ⟨gp, 8, none⟩)), MP.is (.slice (some ⟨tb, 0, none⟩) q.length tc), MP.is (.int .i64 (i : Int)), MP.is (.agg #[.int .i64 (pg : Int), .slice A2 4080 c2, .int .i64 lsn, .bool true, .bool true]), MP.is (.pointer (some ⟨tb, i * 5, none⟩)), MP.any]
   (fun j => j == 7) #[true, true, true, true, true, true, true, false] rfl (by kernel_rfl) rfl (by kernel_rfl) (by kernel_rfl) (by kernel_rfl) (by kernel_rfl) (fun _ => undef) (by rfl) ?hR01 ?hAA1 ?hst1 ?hend1
  case hR01 =>
   intro j hj
   have hj2 : j ∈ [] := hj
   cases hj2
  case hAA1 =>
   intro f
   conv => lhs; simp only [putA, dstOf, List.size_toArray, List.length_cons, List.length_nil, Nat.zero_add, Nat.reduceAdd, List.getElem?_toArray, List.getElem?_cons_zero, List.getElem?_cons_succ, Option.bind_some, Act.put, List.setIfInBounds_toArray, List.set_cons_zero, List.set_cons_succ]
   first | done | exact rfl
  case hst1 =>
   refine Steps.of_list (l' := [0, 1, 2, 3, 4, 5, 6]) (by kernel_rfl) ?_
   refine Steps.cons rfl ?_ ?_
   ·intro f wz hB h K Q hK
    clear h
    try simp only [List.getElem_toArray, List.getElem_cons_zero]
    try rw [if_pos (by rfl)]
    go_simp
    exact hK _ _ (gr_refl _) rfl
   refine Steps.cons rfl ?_ ?_
   ·intro f wz hB h K Q hK
    have h0 : (MP.is (.pointer (some ⟨gp, 0, none⟩))).p (f 0) wz := h 0 (by kernel_rfl)
    have e0 : f 0 = (.pointer (some ⟨gp, 0, none⟩)) := h0
    simp only [e0] at hK ⊢
    clear e0
    clear h
    try rw [if_pos (by rfl)]
    go_simp
    exact hK _ _ (gr_refl _) rfl
   refine Steps.cons rfl ?_ ?_
   ·intro f wz hB h K Q hK
    have h1 : (MP.is (.pointer (some ⟨gp, 0, none⟩))).p (f 1) wz := h 1 (by kernel_rfl)
    have e1 : f 1 = (.pointer (some ⟨gp, 0, none⟩)) := h1
    simp only [e1] at hK ⊢
    clear e1
    clear h
    try rw [if_pos (by rfl)]
    go_simp
    exact hK _ _ (gr_refl _) rfl
   refine Steps.cons rfl ?_ ?_
   ·intro f wz hB h K Q hK
    have h2 : (MP.is (.pointer (some ⟨gp, 8, none⟩))).p (f 2) wz := h 2 (by kernel_rfl)
    have e2 : f 2 = (.pointer (some ⟨gp, 8, none⟩)) := h2
    simp only [e2] at hK ⊢
    clear e2
    clear h
    try rw [if_pos (by rfl)]
    have y0 := keep_of_below hB k8.out
    have y1 := keep_of_below hB KF0.out
    have y2 := keep_of_below hB KF1.out
    have y3 := keep_of_below hB KF2.out
    have y4 := keep_of_below hB KF3.out
    have y5 := keep_of_below hB KF4.out
    go_simp
    exact hK _ _ (gr_refl _) rfl
   refine Steps.cons rfl ?_ ?_
   ·intro f wz hB h K Q hK
    clear h
    try rw [if_pos (by rfl)]
    go_simp
    exact hK _ _ (gr_refl _) rfl
   refine Steps.cons rfl ?_ ?_
   ·intro f wz hB h K Q hK
    clear h
    try rw [if_pos (by rfl)]
    have y0 := keep_of_below hB k8.out
    have y1 := keep_of_below hB KF0.out
    have y2 := keep_of_below hB KF1.out
    have y3 := keep_of_below hB KF2.out
    have y4 := keep_of_below hB KF3.out
    have y5 := keep_of_below hB KF4.out
    go_simp
    exact hK _ _ (gr_refl _) rfl
   refine Steps.cons rfl ?_ ?_
   ·intro f wz hB h K Q hK
    have h3 : (MP.is (.slice (some ⟨tb, 0, none⟩) q.length tc)).p (f 3) wz := h 3 (by kernel_rfl)
    have e3 : f 3 = (.slice (some ⟨tb, 0, none⟩) q.length tc) := h3
    have h4 : (MP.is (.int .i64 (i : Int))).p (f 4) wz := h 4 (by kernel_rfl)
    have e4 : f 4 = (.int .i64 (i : Int)) := h4
    simp only [e3, e4] at hK ⊢
    clear e3 e4
    clear h
    try rw [if_pos (by rfl)]
    go_simp
    exact hK _ _ (gr_refl _) rfl
   exact Steps.nil
  intro f w5 hB5 hR
  conv => arg 7; simp only [putL, dstOf, List.size_toArray, List.length_cons, List.length_nil, Nat.zero_add, Nat.reduceAdd, List.getElem?_toArray, List.getElem?_cons_zero, List.getElem?_cons_succ, Option.bind_some, Act.put, List.setIfInBounds_toArray, List.set_cons_zero, List.set_cons_succ, Array.getD_eq_getD_getElem?, Option.getD_some, if_true, if_false, Bool.false_eq_true]
  have e0 : f 0 = (.pointer (some ⟨gp, 0, none⟩)) := hR 0 (by decide) rfl
  have e1 : f 1 = (.pointer (some ⟨gp, 0, none⟩)) := hR 1 (by decide) rfl
  have e2 : f 2 = (.pointer (some ⟨gp, 8, none⟩)) := hR 2 (by decide) rfl
  have e3 : f 3 = (.slice (some ⟨tb, 0, none⟩) q.length tc) := hR 3 (by decide) rfl
  have e4 : f 4 = (.int .i64 (i : Int)) := hR 4 (by decide) rfl
  have e5 : f 5 = (.agg #[.int .i64 (pg : Int), .slice A2 4080 c2, .int .i64 lsn, .bool true, .bool true]) := hR 5 (by decide) rfl
  have e6 : f 6 = (.pointer (some ⟨tb, i * 5, none⟩)) := hR 6 (by decide) rfl
  simp only [e0, e1, e2, e3, e4, e5, e6]
  clear e0 e1 e2 e3 e4 e5 e6 hR
  have HB5 : Hid (Below w3.heap.size w3 w5) := Lib.hid (Below.trans (gr_drewN (gr_refl w3) 1) hB5)
  have HX5 := Lib.hid (HX3.out.below HB5.out)
  have HOB5 := Lib.hid (HOB3.out.below HB5.out)
  obtain ⟨x0, x1, x2, x3, x4⟩ := fr_cells HX5.out.tk HPQ.out
  have y0 := own_frz HX5.out.tk (i * 5)
  have y1 := own_frz HX5.out.tk (i * 5 + 1)
  have y2 := own_frz HX5.out.tk (i * 5 + 2)
  have y3 := own_frz HX5.out.tk (i * 5 + 3)
  have y4 := own_frz HX5.out.tk (i * 5 + 4)
  clear hB5 k8 KF0 KF1 KF2 KF3 KF4
  refine wpAny_of_held (S := fun _ => True) _ _ _ _ ?_
  refine wpAnyH_ready (rs := [7]) (by kernel_rfl) (by simp) ?_
  refine AllReadyH.cons rfl (fun KK hK => ?_) AllReadyH.nil
  rw [if_pos (by rfl)]
  go_simp
  refine hK.out _ _ trivial (fun _ => ?_)
  clear hK KK
  try simp only [List.setIfInBounds_toArray, List.set_cons_zero, List.set_cons_succ]
  refine wpAnyH_done (by kernel_rfl) ?_ _
  clear x0 x1 x2 x3 x4 y0 y1 y2 y3 y4
  go_wp2_with fail
  go_ret
  have o6 := fr_setF_off w5 tb i (⟨pg, l, lsn, true, true⟩, .slice A2 4080 c2)
  have he6 := fr_setF HX5.out.tk HPQ.out (⟨pg, l, lsn, true, true⟩, .slice A2 4080 c2)
  have hov6 := HOB5.out.off o6 (fun k e e2 => by
   subst e2
   obtain ⟨cur, hc⟩ := own_blk HOB5.out e
   obtain ⟨cur2, hc2⟩ := own_blk HX5.out.tk rfl
   exact cells_ne hc hc2 (by decide))
  have hpi6 := HX5.out.pi.set (f := ⟨pg, l, lsn, true, true⟩) HIL.out HPD.out.symm HL4.out h0 hls
  have hx6 := HX5.out.frame HPQ.out (p' := (⟨pg, l, lsn, true, true⟩, .slice A2 4080 c2)) HPG.out o6 he6 (own_lower hov6 hbs) (fun k e e2 => by have h1 := (HOB5.out.lt k e).1; have h2 := (HX.out.dk.foot_lt k e2).2; omega) hpi6
  rw [HR.out]
  refine ⟨rfl, F, _, mb, _, hx6, ?_, fun k e => ?_⟩
  ·refine (Off.of_below HB23.out).trans ((Off.of_below HB5.out).trans (o6.mono fun k _ e => ?_))
   subst e
   exact .inr (.inr (.inr (.inl rfl)))
  ·rcases e with e | e | e | e | ⟨x, hx, e⟩
   ·exact .inl (.inl e)
   ·exact .inl (.inr (.inl e))
   ·exact .inl (.inr (.inr (.inl e)))
   ·exact .inl (.inr (.inr (.inr (.inl e))))
   ·rcases List.mem_or_eq_of_mem_set hx with hx | rfl
    ·exact .inl (.inr (.inr (.inr (.inr ⟨x, hx, e⟩))))
    ·exact .inr (HOB5.out.lt k e).1
set_option maxRecDepth 100000 in
theorem Set_any {w : World} {b0 gp gd mb : Nat} {wv tv : Value} {D : EnS} {P : PoS} {F : Nat → Prop} {q : List FV} (X : PX w b0 gp gd wv D P F tv mb q) (hl : LogV wv b0 gd D) (page lsn : Int) (A : Option Addr) (n c : Nat) (l : List UInt8) (hb : BR w A n l) (hls : lsn ≤ 9223372036854775807) (hpd : D.d.pending.length ≤ 900000) (hct : P.count ≤ 1152921504606846976) (hbs : b0 ≤ w.heap.size) :
  Calls Tryz.prog 68 #[.pointer (some ⟨gp, 0, none⟩), .int .i64 page, .slice A n c, .int .i64 lsn] w fun e w' => e = .returned (.int .i64 (setR D P page l lsn).2.2) ∧ PStep w b0 gp gd wv (PS gp F tv mb q) (setR D P page l lsn).1 (setR D P page l lsn).2.1 w' := by
 by_cases hp : setE P page l.length lsn = 0
 ·have hln : l.length = n := hb.len
  have h2 : askP P page = 0 := by
   by_cases h : askP P page = 0
   ·exact h
   ·refine absurd hp ?_
    unfold setE
    rw [if_pos h]
    exact h
  have h3 : ¬ (l.length ≠ 4080 ∨ lsn < 0) := fun h => by
   unfold setE at hp
   rw [if_neg (by rw [h2]; decide), if_pos h] at hp
   cases hp
  have h4 : ¬ (page < 0 ∨ (P.pages : Int) ≤ page) := fun h => by
   unfold askP at h2
   rw [if_pos h] at h2
   cases h2
  obtain ⟨pg, rfl⟩ : ∃ pg : Nat, page = (pg : Int) := ⟨page.toNat, by omega⟩
  obtain rfl : n = 4080 := by omega
  exact Set_good X hl pg lsn A c l hb (by omega) (by omega) hls hpd hct hbs
 ·exact Set_bad X page lsn A n c l hb.len hp
end Go.Proofs.YtnkeclpgpiogoaaGreat

/-! QoL -/
namespace Go.Proofs.YtnkeclpgpiogoaaGreat
open Go Go.RowKit Go.Maps
set_option maxRecDepth 100000 in
set_option maxHeartbeats 4000000 in
def FnV (wv : Value) : Prop := wv = .nilFunc ∨ ∃ fid lb, wv = .func (.func fid) #[] lb
set_option maxRecDepth 100000 in
theorem PNew_raw (w : World) (ok : Nat → Prop) (b0 gd : Nat) (F : Nat → Prop) (D : DiskS) (b p f ep ct : Int) (wv : Value) (hd : IsD w ok b0 gd F D) (hw : FnV wv) (hm : mayP D.blocks.length b p f ep ct = true) :
  Calls Tryz.prog 60 #[.pointer (some ⟨gd, 0, none⟩), .int .i64 b, .int .i64 p, .int .i64 f, .int .i64 ep, .int .i64 ct, wv] w fun e w' => e = .returned (.tuple #[.pointer (some ⟨w.heap.size + 1, 0, none⟩), .int .i64 0]) ∧ w' = (w.alloc (.map #[] 0)).alloc (.cells #[.pointer (some ⟨w.heap.size + 1, 0, none⟩), .pointer (some ⟨gd, 0, none⟩), .int .i64 b, .int .i64 p, .int .i64 f, .int .i64 ep, wv, .bool false, .slice none 0 0, .map (some w.heap.size), .int .i64 0, .int .i64 ct] 132) := by
 have HB := Lib.hid (Blocks_any w ok b0 gd F D hd)
 have hn1 : 1 ≤ D.blocks.length ∧ D.blocks.length ≤ 4096 := by
  obtain ⟨dr, dc, pv, dvs, pvs, hd, _⟩ := hd
  exact ⟨hd.n1, hd.n2⟩
 generalize D.blocks.length = n at *
 unfold mayP at hm
 simp only [Bool.and_eq_true, decide_eq_true_eq] at hm
 obtain ⟨m0, m1, m2, m3, m4, m5, m6, m7, m8, m9⟩ := hm
 have hn0 : ((n : Int) == 0) = false := beq_eq_false_iff_ne.2 (by omega)
 have hwr : IntKind.i64.wrap ((n : Int) - b) = (n : Int) - b := by rw [IntKind.wrap_i64]; omega
 have t0 : decide (b < 0) = false := decide_eq_false (by omega)
 have t1 : decide (p < 1) = false := decide_eq_false (by omega)
 have t2 : decide ((n : Int) < b) = false := decide_eq_false (by omega)
 have t3 : decide ((n : Int) - b < p) = false := decide_eq_false (by omega)
 have t4 : decide (f < 2) = false := decide_eq_false (by omega)
 have t5 : decide (256 < f) = false := decide_eq_false (by omega)
 have t6 : decide (ep < 1) = false := decide_eq_false (by omega)
 have t7 : decide (4294967295 < ep) = false := decide_eq_false (by omega)
 have t8 : decide (ct < 0) = false := decide_eq_false (by omega)
 have t9 : decide (4294967295 < ct) = false := decide_eq_false (by omega)
 clear m0 m1 m2 m3 m4 m5 m6 m7 m8 m9 hd
 have hmk : ∀ W : World, (Instr.makeMap 127 none).run Tryz.prog W = .ok (.map (some W.heap.size)) (W.alloc (.map #[] 0)) := fun W => by simp [Instr.makeMap]
 have hb2 : ((w.alloc (.map #[] 0)).alloc (.cells #[.pointer (some ⟨w.heap.size + 1, 0, none⟩), .pointer (some ⟨gd, 0, none⟩), .int .i64 b, .int .i64 p, .int .i64 f, .int .i64 ep, wv, .bool false, .slice none 0 0, .map (some w.heap.size), .int .i64 0, .int .i64 0] 132)).heap[w.heap.size + 1]? = some (.cells #[.pointer (some ⟨w.heap.size + 1, 0, none⟩), .pointer (some ⟨gd, 0, none⟩), .int .i64 b, .int .i64 p, .int .i64 f, .int .i64 ep, wv, .bool false, .slice none 0 0, .map (some w.heap.size), .int .i64 0, .int .i64 0] 132 (0, 0)) := by
  have := heap_alloc_new (w.alloc (.map #[] 0)) (.cells #[.pointer (some ⟨w.heap.size + 1, 0, none⟩), .pointer (some ⟨gd, 0, none⟩), .int .i64 b, .int .i64 p, .int .i64 f, .int .i64 ep, wv, .bool false, .slice none 0 0, .map (some w.heap.size), .int .i64 0, .int .i64 0] 132)
  rwa [World.size_alloc] at this
 have HS := Lib.hid (aStore_any ⟨w.heap.size + 1, 11, none⟩ ct (.int .i64 0) _ (by rw [cell_of_row _ _ 11 _ _ _ hb2]; rfl) (by unfold World.frozen?; rw [hb2]; rfl))
 clear hb2
 rcases hw with rfl | ⟨fid, lb, rfl⟩
 all_goals
  go_enter Tryz.func60, Tryz.ntmps60
  go_wp2_with fail
  refine HB.out.mono ?_
  rintro e w1 ⟨rfl, rfl⟩
  go_wp2_with fail
  refine HS.out.mono ?_
  rintro e w2 ⟨⟨x, rfl⟩, rfl⟩
  go_wp2_with fail
  go_ret2
  exact ⟨rfl, rfl⟩
set_option maxRecDepth 100000 in
theorem PNew_any (w : World) (b0 gd : Nat) (F : Nat → Prop) (D : EnS) (b p f ep ct : Nat) (wv : Value) (hd : IsE w b0 gd F D) (hw : FnV wv) (hm : mayP D.d.blocks.length b p f ep ct = true) :
  Calls Tryz.prog 60 #[.pointer (some ⟨gd, 0, none⟩), .int .i64 (b : Int), .int .i64 (p : Int), .int .i64 (f : Int), .int .i64 (ep : Int), .int .i64 (ct : Int), wv] w fun e w' => e = .returned (.tuple #[.pointer (some ⟨w.heap.size + 1, 0, none⟩), .int .i64 0]) ∧ PX w' b0 (w.heap.size + 1) gd wv D (newP b p f ep ct) F (.slice none 0 0) w.heap.size [] ∧ Below w.heap.size w w' := by
 have hbs := hd.le
 obtain ⟨ok, Fd, hdd⟩ : ∃ ok Fd, IsD w ok b0 gd Fd D.d := by
  obtain ⟨w0, h0, h1, _⟩ := hd
  obtain ⟨ok, Fd, h2⟩ := h1.isd
  rw [h0] at h2
  exact ⟨ok, Fd, h2⟩
 refine (PNew_raw w ok b0 gd Fd D.d b p f ep ct wv hdd hw hm).mono ?_
 rintro e w' ⟨rfl, rfl⟩
 have hb1 := gr_alloc (gr_refl w) (.map #[] 0)
 have hq := MQ.made w
 generalize hw1 : w.alloc (.map #[] 0) = w1 at *
 have hs1 : w1.heap.size = w.heap.size + 1 := by rw [← hw1, World.size_alloc]
 have hb2 := gr_alloc (gr_refl w1) (.cells #[.pointer (some ⟨w.heap.size + 1, 0, none⟩), .pointer (some ⟨gd, 0, none⟩), .int .i64 (b : Int), .int .i64 (p : Int), .int .i64 (f : Int), .int .i64 (ep : Int), wv, .bool false, .slice none 0 0, .map (some w.heap.size), .int .i64 0, .int .i64 (ct : Int)] 132)
 have hn := heap_alloc_new w1 (.cells #[.pointer (some ⟨w.heap.size + 1, 0, none⟩), .pointer (some ⟨gd, 0, none⟩), .int .i64 (b : Int), .int .i64 (p : Int), .int .i64 (f : Int), .int .i64 (ep : Int), wv, .bool false, .slice none 0 0, .map (some w.heap.size), .int .i64 0, .int .i64 (ct : Int)] 132)
 rw [hs1] at hn
 have hs2 : (w1.alloc (.cells #[.pointer (some ⟨w.heap.size + 1, 0, none⟩), .pointer (some ⟨gd, 0, none⟩), .int .i64 (b : Int), .int .i64 (p : Int), .int .i64 (f : Int), .int .i64 (ep : Int), wv, .bool false, .slice none 0 0, .map (some w.heap.size), .int .i64 0, .int .i64 (ct : Int)] 132)).heap.size = w.heap.size + 2 := by rw [World.size_alloc, hs1]
 generalize hw2 : w1.alloc (.cells #[.pointer (some ⟨w.heap.size + 1, 0, none⟩), .pointer (some ⟨gd, 0, none⟩), .int .i64 (b : Int), .int .i64 (p : Int), .int .i64 (f : Int), .int .i64 (ep : Int), wv, .bool false, .slice none 0 0, .map (some w.heap.size), .int .i64 0, .int .i64 (ct : Int)] 132) = w2 at *
 have hpb3 : PB w2 (w.heap.size + 1) gd wv false (.slice none 0 0) w.heap.size (newP b p f ep ct) := hn
 have hb3 : Below w.heap.size w w2 := hb1.trans (hb2.mono hb1.size)
 unfold mayP at hm
 simp only [Bool.and_eq_true, decide_eq_true_eq] at hm
 obtain ⟨m0, m1, m2, m3, m4, m5, m6, m7, m8, m9⟩ := hm
 have hn2 : D.d.blocks.length ≤ 4096 := by
  obtain ⟨dr, dc, pv, dvs, pvs, hd, _⟩ := hdd
  exact hd.n2
 refine ⟨rfl, ⟨hd.below hb3, hpb3, EO.nil _ _, rfl, (fun x hx => by cases hx), (fun x hx => by cases hx), ?_, ?_, by omega, hbs⟩, hb3⟩
 ·show MQ _ w.heap.size 0 (idxF [])
  rw [idxF_nil]
  exact hq.below hb2
 ·exact ⟨by show b + p ≤ _; omega, hn2, by show 2 ≤ f; omega, by show f ≤ 256; omega, by show ep ≤ _; omega, Nat.zero_le _, by show 0 < f; omega, fun f hf => (by cases hf), List.nodup_nil⟩
end Go.Proofs.YtnkeclpgpiogoaaGreat

/-! PlA -/
namespace Go.Proofs.YtnkeclpgpiogoaaGreat
open Go.RowKit
/-! Rising lists. -/
section
variable {α β : Type}
def findS : List (Nat × α) → Nat → Option α
 | [], _ => none
 | (k, b) :: r, p => if k = p then some b else findS r p
def insS (p : Nat) (a : α) : List (Nat × α) → List (Nat × α)
 | [] => [(p, a)]
 | (k, b) :: r => if p < k then (p, a) :: (k, b) :: r else if p = k then (p, a) :: r else (k, b) :: insS p a r
set_option maxRecDepth 100000 in
theorem findS_cons (k : Nat) (b : α) (r : List (Nat × α)) (p : Nat) : findS ((k, b) :: r) p = if k = p then some b else findS r p := rfl
set_option maxRecDepth 100000 in
theorem insS_cons (p : Nat) (a : α) (k : Nat) (b : α) (r : List (Nat × α)) : insS p a ((k, b) :: r) = if p < k then (p, a) :: (k, b) :: r else if p = k then (p, a) :: r else (k, b) :: insS p a r := rfl
def SortS (l : List (Nat × α)) : Prop := (l.map Prod.fst).Pairwise (· < ·)
def mapS (g : α → β) (l : List (Nat × α)) : List (Nat × β) := l.map fun e => (e.1, g e.2)
set_option maxRecDepth 100000 in
theorem mapS_fst (g : α → β) (l : List (Nat × α)) : (mapS g l).map Prod.fst = l.map Prod.fst := by
 unfold mapS
 rw [List.map_map]
 rfl
set_option maxRecDepth 100000 in
theorem mapS_len (g : α → β) (l : List (Nat × α)) : (mapS g l).length = l.length := List.length_map ..
set_option maxRecDepth 100000 in
theorem find_mapS (g : α → β) (p : Nat) : ∀ l : List (Nat × α), findS (mapS g l) p = (findS l p).map g
 | [] => rfl
 | (k, b) :: r => by
  rw [show mapS g ((k, b) :: r) = (k, g b) :: mapS g r from rfl, findS_cons, findS_cons]
  split
  ·rfl
  ·exact find_mapS g p r
set_option maxRecDepth 100000 in
theorem ins_mapS (g : α → β) (p : Nat) (a : α) : ∀ l : List (Nat × α), mapS g (insS p a l) = insS p (g a) (mapS g l)
 | [] => rfl
 | (k, b) :: r => by
  show mapS g (insS p a ((k, b) :: r)) = insS p (g a) ((k, g b) :: mapS g r)
  unfold insS
  split
  ·rfl
  ·split
   ·rfl
   ·show (k, g b) :: mapS g (insS p a r) = _
    rw [ins_mapS g p a r]
set_option maxRecDepth 100000 in
theorem find_insS (p : Nat) (a : α) (x : Nat) : ∀ l : List (Nat × α), findS (insS p a l) x = if x = p then some a else findS l x
 | [] => by
  show (if p = x then some a else none) = _
  by_cases h : x = p
  ·rw [if_pos h.symm, if_pos h]
  ·rw [if_neg (fun e => h e.symm), if_neg h]
   rfl
 | (k, b) :: r => by
  unfold insS
  split
  ·show (if p = x then some a else findS ((k, b) :: r) x) = _
   by_cases h : x = p
   ·rw [if_pos h.symm, if_pos h]
   ·rw [if_neg (fun e => h e.symm), if_neg h]
  ·split
   ·rename_i h1 h2
    subst h2
    show (if p = x then some a else findS r x) = if x = p then some a else if p = x then some b else findS r x
    by_cases h : x = p
    ·rw [if_pos h.symm, if_pos h]
    ·rw [if_neg (fun e => h e.symm), if_neg h, if_neg (fun e => h e.symm)]
   ·rename_i h1 h2
    show (if k = x then some b else findS (insS p a r) x) = if x = p then some a else if k = x then some b else findS r x
    rw [find_insS p a x r]
    by_cases h : k = x
    ·rw [if_pos h, if_pos h, if_neg (fun e => h2 (e.symm.trans h.symm))]
    ·rw [if_neg h, if_neg h]
set_option maxRecDepth 100000 in
theorem find_none {l : List (Nat × α)} {p : Nat} : findS l p = none ↔ p ∉ l.map Prod.fst := by
 induction l with
 | nil => simp [findS]
 | cons x r ih =>
  obtain ⟨k, b⟩ := x
  unfold findS
  rw [List.map_cons, List.mem_cons, not_or]
  by_cases h : k = p
  ·rw [if_pos h]
   constructor
   ·intro e; cases e
   ·intro e; exact absurd h.symm e.1
  ·rw [if_neg h, ih]
   exact ⟨fun e => ⟨fun e2 => h e2.symm, e⟩, fun e => e.2⟩
set_option maxRecDepth 100000 in
theorem find_mem {l : List (Nat × α)} {p : Nat} {a : α} (h : findS l p = some a) : (p, a) ∈ l := by
 induction l with
 | nil => cases h
 | cons x r ih =>
  obtain ⟨k, b⟩ := x
  unfold findS at h
  split at h
  ·rename_i e
   subst e
   injection h with h
   subst h
   exact List.mem_cons_self
  ·exact List.mem_cons_of_mem _ (ih h)
set_option maxRecDepth 100000 in
theorem find_at {l : List (Nat × α)} (hs : SortS l) {i : Nat} {p : Nat} {a : α} (h : l[i]? = some (p, a)) : findS l p = some a := by
 induction l generalizing i with
 | nil => simp at h
 | cons x r ih =>
  obtain ⟨k, b⟩ := x
  have hs' := List.pairwise_cons.1 hs
  cases i with
  | zero =>
   rw [List.getElem?_cons_zero] at h
   injection h with h
   injection h with h1 h2
   subst h1 h2
   unfold findS
   rw [if_pos rfl]
  | succ i =>
   rw [List.getElem?_cons_succ] at h
   have hm : p ∈ r.map Prod.fst := List.mem_map_of_mem (f := Prod.fst) (List.mem_of_getElem? h)
   have hlt : k < p := hs'.1 p hm
   unfold findS
   rw [if_neg (by omega)]
   exact ih hs'.2 h
set_option maxRecDepth 100000 in
theorem mem_insS {p : Nat} {a : α} {x : Nat} {l : List (Nat × α)} (h : x ∈ (insS p a l).map Prod.fst) : x = p ∨ x ∈ l.map Prod.fst := by
 by_cases e : x = p
 ·exact .inl e
 ·refine .inr (Decidable.byContradiction fun hn => ?_)
  have h1 := find_insS p a x l
  rw [if_neg e, find_none.2 hn] at h1
  exact (find_none.1 h1) h
set_option maxRecDepth 100000 in
theorem mem_insS2 {p : Nat} {a : α} {l : List (Nat × α)} {e : Nat × α} (h : e ∈ insS p a l) : e = (p, a) ∨ e ∈ l := by
 induction l with
 | nil => exact .inl (List.mem_singleton.1 h)
 | cons x r ih =>
  obtain ⟨k, b⟩ := x
  unfold insS at h
  split at h
  ·exact (List.mem_cons.1 h)
  ·split at h
   ·exact (List.mem_cons.1 h).imp id (List.mem_cons_of_mem _)
   ·rcases List.mem_cons.1 h with h | h
    ·exact .inr (h ▸ List.mem_cons_self)
    ·exact (ih h).imp id (List.mem_cons_of_mem _)
set_option maxRecDepth 100000 in
theorem sort_insS (p : Nat) (a : α) : ∀ {l : List (Nat × α)}, SortS l → SortS (insS p a l)
 | [], _ => List.pairwise_singleton _ _
 | (k, b) :: r, h => by
  have h' := List.pairwise_cons.1 h
  unfold insS
  split
  ·rename_i hk
   refine List.pairwise_cons.2 ⟨fun x hx => ?_, h⟩
   rcases List.mem_cons.1 hx with rfl | hx
   ·exact hk
   ·have := h'.1 x hx
    show p < x
    dsimp only at this
    omega
  ·split
   ·rename_i h1 h2
    subst h2
    exact List.pairwise_cons.2 ⟨h'.1, h'.2⟩
   ·rename_i h1 h2
    refine List.pairwise_cons.2 ⟨fun x hx => ?_, sort_insS p a h'.2⟩
    rcases mem_insS hx with rfl | hx
    ·show k < x
     omega
    ·exact h'.1 x hx
set_option maxRecDepth 100000 in
theorem len_insS (p : Nat) (a : α) : ∀ {l : List (Nat × α)}, SortS l → (insS p a l).length = if (findS l p).isSome then l.length else l.length + 1
 | [], _ => rfl
 | (k, b) :: r, h => by
  have h' := List.pairwise_cons.1 h
  by_cases h1 : p < k
  ·have hf : findS ((k, b) :: r) p = none := by
    rw [findS_cons, if_neg (by omega)]
    exact find_none.2 (fun hm => by have := h'.1 p hm; dsimp only at this; omega)
   rw [insS_cons, if_pos h1, hf]
   rfl
  ·by_cases h2 : p = k
   ·have hf : findS ((k, b) :: r) p = some b := by rw [findS_cons, if_pos h2.symm]
    rw [insS_cons, if_neg h1, if_pos h2, hf]
    rfl
   ·have hf : findS ((k, b) :: r) p = findS r p := by rw [findS_cons, if_neg (fun e => h2 e.symm)]
    rw [insS_cons, if_neg h1, if_neg h2, hf, List.length_cons, len_insS p a h'.2, List.length_cons]
    split <;> rfl
end
def mapF (l : List (Nat × Value)) (x : Int) : Option Value := if x < 0 then none else findS l x.toNat
set_option maxRecDepth 100000 in
theorem mapF_nil : mapF [] = fun _ => none := by
 funext x
 unfold mapF
 split <;> rfl
set_option maxRecDepth 100000 in
theorem mapF_at (l : List (Nat × Value)) (p : Nat) : mapF l (p : Int) = findS l p := by
 unfold mapF
 rw [if_neg (by omega), Int.toNat_natCast]
/-! Atoms. -/
structure AtS where
 im : List (Nat × Unit)
 br : Bool
structure AxS where
 st : List (Nat × List UInt8)
 ov : Bool
def newA : AtS := ⟨[], false⟩
def newX : AxS := ⟨[], false⟩
def stE (A : AtS) (X : AxS) : Int := if X.ov then 9 else if A.br then 4 else 0
abbrev ARes := EnS × PoS × Int
def agetR (D : EnS) (P : PoS) (A : AtS) (X : AxS) (page : Int) : ARes :=
 if stE A X ≠ 0 then (D, P, stE A X)
 else if 0 ≤ page ∧ (findS X.st page.toNat).isSome then (D, P, 0)
 else getR D P page
def agetL (D : EnS) (P : PoS) (A : AtS) (X : AxS) (page : Int) : List UInt8 :=
 if stE A X ≠ 0 then []
 else if 0 ≤ page ∧ (findS X.st page.toNat).isSome then (findS X.st page.toNat).getD []
 else getL D P page
def asetE (P : PoS) (A : AtS) (X : AxS) (page : Int) (n : Nat) : Int :=
 if stE A X ≠ 0 then stE A X
 else if page < 0 ∨ (P.pages : Int) ≤ page ∨ n ≠ 4080 then 2
 else if findS X.st page.toNat = none ∧ 16 ≤ X.st.length then 3 else 0
def asetX (P : PoS) (A : AtS) (X : AxS) (page : Int) (l : List UInt8) : AxS :=
 if asetE P A X page l.length ≠ 0 then X else { X with st := insS page.toNat l X.st }
def chg1 (im : List (Nat × Unit)) (p : Nat) (old m : List UInt8) : Ch := if (findS im p).isSome then ((p : Int), [], diffL old m) else ((p : Int), m, [])
def chgF (im : List (Nat × Unit)) : List (Nat × List UInt8) → EnS → PoS → List Ch → EnS × PoS × Int × List Ch
 | [], D, P, acc => (D, P, 0, acc)
 | (p, m) :: r, D, P, acc =>
  if (getR D P (p : Int)).2.2 ≠ 0 then ((getR D P (p : Int)).1, (getR D P (p : Int)).2.1, (getR D P (p : Int)).2.2, [])
  else if getL D P (p : Int) = m then chgF im r (getR D P (p : Int)).1 (getR D P (p : Int)).2.1 acc
  else chgF im r (getR D P (p : Int)).1 (getR D P (p : Int)).2.1 (acc ++ [chg1 im p (getL D P (p : Int)) m])
def putF (st : List (Nat × List UInt8)) (n : Int) : List Ch → EnS → PoS → EnS × PoS × Int
 | [], D, P => (D, P, 0)
 | c :: r, D, P =>
  let z := setR D P c.1 ((findS st c.1.toNat).getD []) n
  if z.2.2 ≠ 0 then z else putF st n r z.1 z.2.1
def markF : List Ch → List (Nat × Unit) → List (Nat × Unit)
 | [], im => im
 | c :: r, im => markF r (if 0 < c.2.1.length then insS c.1.toNat () im else im)
structure DRes where
 D : EnS
 P : PoS
 A : AtS
 X : AxS
 n : Int
 e : Int
def EnS.app (D : EnS) (r : Rec) : EnS := { D with j := appJ D.j r }
def done2 (D : EnS) (P : PoS) (A : AtS) (X : AxS) (tx : Int) (l : List Ch) : DRes :=
 if l.length = 0 then ⟨D, P, A, { X with ov := true }, D.j.la, 0⟩
 else if appE D.j ⟨1, tx, l⟩ ≠ 0 then ⟨D.app ⟨1, tx, l⟩, P, A, X, 0, appE D.j ⟨1, tx, l⟩⟩
 else
  let z := putF X.st (appN D.j ⟨1, tx, l⟩ : Int) l (D.app ⟨1, tx, l⟩) P
  if z.2.2 ≠ 0 then ⟨z.1, z.2.1, { A with br := true }, X, 0, z.2.2⟩
  else ⟨z.1, z.2.1, { A with im := markF l A.im }, { X with ov := true }, (appN D.j ⟨1, tx, l⟩ : Int), 0⟩
def doneR (D : EnS) (P : PoS) (A : AtS) (X : AxS) (tx : Int) : DRes :=
 if stE A X ≠ 0 then ⟨D, P, A, X, 0, stE A X⟩
 else if tx < 0 ∨ 4611686018427387904 < tx then ⟨D, P, A, X, 0, 2⟩
 else
  let z := chgF A.im X.st D P []
  if z.2.2.1 ≠ 0 then ⟨z.1, z.2.1, A, X, 0, z.2.2.1⟩
  else done2 z.1 z.2.1 A X tx z.2.2.2
end Go.Proofs.YtnkeclpgpiogoaaGreat

/-! AtB -/
namespace Go.Proofs.YtnkeclpgpiogoaaGreat
open Go Go.RowKit Go.Maps
set_option maxRecDepth 100000 in
theorem own_ge {w : World} {base : Nat} {e : TypeId} {size n : Nat} {v : Value} {xs : List Value} (h : w.ownsRow base e size v n xs) {k : Nat} (hk : v.ownBlock = some k) : base ≤ k := by
 rcases h.2 with ⟨e0, _⟩ | ⟨g, cap, cur, e0, hb, _⟩
 ·rw [e0] at hk
  simp [Value.ownBlock] at hk
 ·rw [e0] at hk
  simp [Value.ownBlock] at hk
  omega
def AB (w : World) (ga gp gj im : Nat) (br : Bool) : Prop :=
 w.heap[ga]? = some (.cells #[.pointer (some ⟨ga, 0, none⟩), .pointer (some ⟨gp, 0, none⟩), .pointer (some ⟨gj, 0, none⟩), .map (some im), .bool br] 88 (0, 0))
section
variable {w w' : World} {ga gp gj im : Nat} {br : Bool}
set_option maxRecDepth 100000 in
theorem AB.lt (h : AB w ga gp gj im br) : ga < w.heap.size := (Array.getElem?_eq_some_iff.1 h).1
set_option maxRecDepth 100000 in
theorem AB.off {S : Nat → Prop} (h : AB w ga gp gj im br) (ho : Off S w w') (hs : ¬ S ga) : AB w' ga gp gj im br := (ho.block ga h.lt hs).trans h
set_option maxRecDepth 100000 in
theorem AB.below (h : AB w ga gp gj im br) (hb : Below w.heap.size w w') : AB w' ga gp gj im br := (hb.block ga h.lt).trans h
set_option maxRecDepth 100000 in
theorem AB.frozen (h : AB w ga gp gj im br) (j : Nat) : w.frozen? ⟨ga, j, none⟩ = false := by unfold AB at h; simp [World.frozen?, h]
set_option maxRecDepth 100000 in
theorem AB.c0 (h : AB w ga gp gj im br) : w.cell? ⟨ga, 0, none⟩ = some (.pointer (some ⟨ga, 0, none⟩)) := by rw [cell_of_row w ga 0 _ _ _ h]; rfl
set_option maxRecDepth 100000 in
theorem AB.c1 (h : AB w ga gp gj im br) : w.cell? ⟨ga, 1, none⟩ = some (.pointer (some ⟨gp, 0, none⟩)) := by rw [cell_of_row w ga 1 _ _ _ h]; rfl
set_option maxRecDepth 100000 in
theorem AB.c2 (h : AB w ga gp gj im br) : w.cell? ⟨ga, 2, none⟩ = some (.pointer (some ⟨gj, 0, none⟩)) := by rw [cell_of_row w ga 2 _ _ _ h]; rfl
set_option maxRecDepth 100000 in
theorem AB.c3 (h : AB w ga gp gj im br) : w.cell? ⟨ga, 3, none⟩ = some (.map (some im)) := by rw [cell_of_row w ga 3 _ _ _ h]; rfl
set_option maxRecDepth 100000 in
theorem AB.c4 (h : AB w ga gp gj im br) : w.cell? ⟨ga, 4, none⟩ = some (.bool br) := by rw [cell_of_row w ga 4 _ _ _ h]; rfl
set_option maxRecDepth 100000 in
theorem AB.s4 (h : AB w ga gp gj im br) (b : Bool) : AB (w.setCell ⟨ga, 4, none⟩ (.bool b)) ga gp gj im b := by unfold AB at h ⊢; simp only [World.setCell, Array.getElem?_modify, if_pos, h]; rfl
set_option maxRecDepth 100000 in
theorem AB.nb (h : AB w ga gp gj im br) : NE w ga := ⟨_, h, by decide, by decide, by decide, by decide, by decide, by decide⟩
end
def XB (w : World) (gx ga mx : Nat) (ov : Bool) : Prop :=
 w.heap[gx]? = some (.cells #[.pointer (some ⟨gx, 0, none⟩), .pointer (some ⟨ga, 0, none⟩), .map (some mx), .int .u32 (if ov then 1 else 0), .int .i32 0, .int .u32 0, .bool ov] 105 (0, 0))
section
variable {w w' : World} {gx ga mx : Nat} {ov : Bool}
set_option maxRecDepth 100000 in
theorem XB.lt (h : XB w gx ga mx ov) : gx < w.heap.size := (Array.getElem?_eq_some_iff.1 h).1
set_option maxRecDepth 100000 in
theorem XB.off {S : Nat → Prop} (h : XB w gx ga mx ov) (ho : Off S w w') (hs : ¬ S gx) : XB w' gx ga mx ov := (ho.block gx h.lt hs).trans h
set_option maxRecDepth 100000 in
theorem XB.below (h : XB w gx ga mx ov) (hb : Below w.heap.size w w') : XB w' gx ga mx ov := (hb.block gx h.lt).trans h
set_option maxRecDepth 100000 in
theorem XB.frozen (h : XB w gx ga mx ov) (j : Nat) : w.frozen? ⟨gx, j, none⟩ = false := by unfold XB at h; simp [World.frozen?, h]
set_option maxRecDepth 100000 in
theorem XB.c0 (h : XB w gx ga mx ov) : w.cell? ⟨gx, 0, none⟩ = some (.pointer (some ⟨gx, 0, none⟩)) := by rw [cell_of_row w gx 0 _ _ _ h]; rfl
set_option maxRecDepth 100000 in
theorem XB.c1 (h : XB w gx ga mx ov) : w.cell? ⟨gx, 1, none⟩ = some (.pointer (some ⟨ga, 0, none⟩)) := by rw [cell_of_row w gx 1 _ _ _ h]; rfl
set_option maxRecDepth 100000 in
theorem XB.c2 (h : XB w gx ga mx ov) : w.cell? ⟨gx, 2, none⟩ = some (.map (some mx)) := by rw [cell_of_row w gx 2 _ _ _ h]; rfl
set_option maxRecDepth 100000 in
theorem XB.c3 (h : XB w gx ga mx ov) : w.cell? ⟨gx, 3, none⟩ = some (.int .u32 (if ov then 1 else 0)) := by rw [cell_of_row w gx 3 _ _ _ h]; rfl
set_option maxRecDepth 100000 in
theorem XB.c4 (h : XB w gx ga mx ov) : w.cell? ⟨gx, 4, none⟩ = some (.int .i32 0) := by rw [cell_of_row w gx 4 _ _ _ h]; rfl
set_option maxRecDepth 100000 in
theorem XB.c6 (h : XB w gx ga mx ov) : w.cell? ⟨gx, 6, none⟩ = some (.bool ov) := by rw [cell_of_row w gx 6 _ _ _ h]; rfl
set_option maxRecDepth 100000 in
theorem XB.nb (h : XB w gx ga mx ov) : NE w gx := ⟨_, h, by decide, by decide, by decide, by decide, by decide, by decide⟩
end
structure Wh where
 gd : Nat
 gp : Nat
 wv : Value
 ga : Nat
def mkE : Value := .agg #[]
structure AZ (w0 w : World) (z : Wh) (D : EnS) (P : PoS) (A : AtS) (T : Nat → Prop) : Prop where
 bel : Below w0.heap.size w0 w
 lv : LogV z.wv w0.heap.size z.gd D
 ex : ∃ F tv mb q im, PX w w0.heap.size z.gp z.gd z.wv D P F tv mb q ∧ AB w z.ga z.gp D.gj im A.br ∧ MV w im A.im.length (mapF (mapS (fun _ => mkE) A.im)) ∧
  w0.heap.size ≤ z.ga ∧ w0.heap.size ≤ im ∧ (¬ PS z.gp F tv mb q z.ga) ∧ (¬ PS z.gp F tv mb q im) ∧ SortS A.im ∧ ∀ k, T k ↔ PS z.gp F tv mb q k ∨ k = z.ga ∨ k = im
structure XZ (w : World) (b0 ga gx : Nat) (X : AxS) (T U : Nat → Prop) : Prop where
 ex : ∃ mx q, XB w gx ga mx X.ov ∧ MV w mx X.st.length (mapF (mapS Prod.snd q)) ∧ mapS Prod.fst q = X.st ∧ (∀ e ∈ q, OB w b0 e.2.2 e.2.1 ∧ e.2.1.length = 4080) ∧ (∀ e ∈ q, ∀ k, e.2.2.ownBlock = some k → ¬ T k) ∧ b0 ≤ gx ∧ b0 ≤ mx ∧ ¬ T gx ∧ ¬ T mx ∧ SortS X.st ∧ ∀ k, U k ↔ k = gx ∨ k = mx
section
variable {w0 w w' : World} {z : Wh} {D D' : EnS} {P P' : PoS} {A A' : AtS} {X : AxS} {T T' U S : Nat → Prop} {b0 ga gx : Nat}
set_option maxRecDepth 100000 in
theorem AZ.below (h : AZ w0 w z D P A T) (hb : Below w.heap.size w w') : AZ w0 w' z D P A T := by
 obtain ⟨F, tv, mb, q, im, h1, h2, h3, r⟩ := h.ex
 exact ⟨gr_trans h.bel hb, h.lv, F, tv, mb, q, im, h1.below hb, h2.below hb, h3.below hb, r⟩
set_option maxRecDepth 100000 in
theorem AZ.lt (h : AZ w0 w z D P A T) {k : Nat} (hk : T k) : w0.heap.size ≤ k ∧ k < w.heap.size := by
 obtain ⟨F, tv, mb, q, im, h1, h2, h3, h4, h5, h6, h7, h8, h9⟩ := h.ex
 rcases (h9 k).1 hk with e | e | e
 ·refine ⟨?_, h1.lt e⟩
  rcases e with e | e | e | e | ⟨x, hx, e⟩
  ·exact (h1.dk.foot_lt k e).1
  ·rw [e]; exact h1.bp
  ·rw [e]; exact h1.bm
  ·exact (own_ge h1.tk e)
  ·exact ((h1.pv x hx).lt k e).1
 ·subst e
  exact ⟨h4, h2.lt⟩
 ·subst e
  exact ⟨h5, h3.lt⟩
set_option maxRecDepth 100000 in
set_option maxRecDepth 100000 in
set_option maxRecDepth 100000 in
theorem AZ.step (h : AZ w0 w z D P A T) {F : Nat → Prop} {tv : Value} {mb : Nat} {q : List FV} {im : Nat} (h2 : AB w z.ga z.gp D.gj im A.br) (h3 : MV w im A.im.length (mapF (mapS (fun _ => mkE) A.im))) (h4 : w0.heap.size ≤ z.ga) (h5 : w0.heap.size ≤ im) (h6 : ¬ PS z.gp F tv mb q z.ga) (h7 : ¬ PS z.gp F tv mb q im) (h9 : ∀ k, T k ↔ PS z.gp F tv mb q k ∨ k = z.ga ∨ k = im)
  (hg : SameG D D') {F' : Nat → Prop} {tv' : Value} {mb' : Nat} {q' : List FV} (hx : PX w' w0.heap.size z.gp z.gd z.wv D' P' F' tv' mb' q') (ho : Off (PS z.gp F tv mb q) w w') (hs : ∀ k, PS z.gp F' tv' mb' q' k → PS z.gp F tv mb q k ∨ w.heap.size ≤ k) : ∃ T', AZ w0 w' z D' P' A T' ∧ Mv T T' w w' ∧ ∀ k, T' k ↔ PS z.gp F' tv' mb' q' k ∨ k = z.ga ∨ k = im := by
 have hlt := fun k (hk : T k) => (h.lt hk).1
 have n1 : ¬ PS z.gp F' tv' mb' q' z.ga := fun e => by
  rcases hs _ e with e | e
  ·exact h6 e
  ·have := h2.lt
   omega
 have n2 : ¬ PS z.gp F' tv' mb' q' im := fun e => by
  rcases hs _ e with e | e
  ·exact h7 e
  ·have := h3.lt
   omega
 obtain ⟨_, _, _, _, _, _, _, _, _, _, _, _, hs8, _⟩ := h.ex
 refine ⟨fun k => PS z.gp F' tv' mb' q' k ∨ k = z.ga ∨ k = im, ⟨h.bel.trans (ho.below (fun k hk => hlt k ((h9 k).2 (.inl hk))) h.bel.size), h.lv.same hg, F', tv', mb', q', im, hx, by rw [hg.1]; exact h2.off ho h6, h3.off ho h7, h4, h5, n1, n2, hs8, fun k => Iff.rfl⟩, ⟨ho.mono (fun k _ e => (h9 k).2 (.inl e)), fun k e => ?_⟩, fun k => Iff.rfl⟩
 rcases e with e | e
 ·exact (hs k e).imp (fun e => (h9 k).2 (.inl e)) id
 ·exact .inl ((h9 k).2 (.inr e))
set_option maxRecDepth 100000 in
set_option maxRecDepth 100000 in
set_option maxRecDepth 100000 in
theorem AZ.nb (h : AZ w0 w z D P A T) (ho : Off S w w') (hS : ∀ k, S k → NE w k ∧ ¬ T k ∧ w0.heap.size ≤ k) : AZ w0 w' z D P A T := by
 obtain ⟨F, tv, mb, q, im, h1, h2, h3, h4, h5, h6, h7, h8, h9⟩ := h.ex
 have hn : ∀ k, PS z.gp F tv mb q k → ¬ S k := fun k hk e => (hS k e).2.1 ((h9 k).2 (.inl hk))
 refine ⟨h.bel.trans (ho.below (fun k e => (hS k e).2.2) h.bel.size), h.lv, F, tv, mb, q, im, ⟨h1.dk.nb ho (fun k e => (hS k e).1), h1.pb.off ho (hn _ (.inr (.inl rfl))), ownsRow_off h1.tk ho (fun k e => hn k (.inr (.inr (.inr (.inl e))))), h1.qf, fun x hx => (h1.pv x hx).off ho (fun k e => hn k (.inr (.inr (.inr (.inr ⟨x, hx, e⟩))))), h1.ap, h1.mp.off ho (hn _ (.inr (.inr (.inl rfl)))), h1.pi, h1.bp, h1.bm⟩, h2.off ho (fun e => (hS _ e).2.1 ((h9 _).2 (.inr (.inl rfl)))), h3.off ho (fun e => (hS _ e).2.1 ((h9 _).2 (.inr (.inr rfl)))), h4, h5, h6, h7, h8, h9⟩
set_option maxRecDepth 100000 in
theorem XZ.below (h : XZ w b0 ga gx X T U) (hb : Below w.heap.size w w') : XZ w' b0 ga gx X T U := by
 obtain ⟨mx, q, h1, h2, h3, h4, r⟩ := h.ex
 exact ⟨mx, q, h1.below hb, h2.below hb, h3, fun e he => ⟨(h4 e he).1.below hb, (h4 e he).2⟩, r⟩
set_option maxRecDepth 100000 in
theorem XZ.lt (h : XZ w b0 ga gx X T U) {k : Nat} (hk : U k) : b0 ≤ k ∧ k < w.heap.size ∧ ¬ T k ∧ NE w k := by
 obtain ⟨mx, q, h1, h2, h3, h4, h5, h6, h7, h8, h9, h10, h11⟩ := h.ex
 rcases (h11 k).1 hk with rfl | rfl
 ·exact ⟨h6, h1.lt, h8, h1.nb⟩
 ·exact ⟨h7, h2.lt, h9, h2.nb⟩
set_option maxRecDepth 100000 in
set_option maxRecDepth 100000 in
set_option maxRecDepth 100000 in
theorem XZ.off (h : XZ w b0 ga gx X T U) (ho : Off S w w') (hS : ∀ k, S k → T k ∨ NE w k) (hU : ∀ k, U k → ¬ S k) (hT : ∀ k, T' k → T k ∨ w.heap.size ≤ k) : XZ w' b0 ga gx X T' U := by
 obtain ⟨mx, q, h1, h2, h3, h4, h5, h6, h7, h8, h9, h10, h11⟩ := h.ex
 have hn : ∀ k, k < w.heap.size → ¬ T k → ¬ T' k := fun k hk hn e => by
  rcases hT k e with e | e
  ·exact hn e
  ·omega
 refine ⟨mx, q, h1.off ho (hU _ ((h11 _).2 (.inl rfl))), h2.off ho (hU _ ((h11 _).2 (.inr rfl))), h3, fun e he => ⟨(h4 e he).1.off ho (fun k hk hs => ?_), (h4 e he).2⟩, fun e he k hk => hn k ((h4 e he).1.lt k hk).2 (h5 e he k hk), h6, h7, hn _ h1.lt h8, hn _ h2.lt h9, h10, h11⟩
 rcases hS k hs with e2 | e2
 ·exact h5 e he k hk e2
 ·obtain ⟨cur, hc⟩ := own_blk (h4 e he).1 hk
  exact (e2.no hc).1 (.inl rfl)
end
end Go.Proofs.YtnkeclpgpiogoaaGreat

/-! AtC -/
namespace Go.Proofs.YtnkeclpgpiogoaaGreat
open Go Go.RowKit Go.Maps
set_option maxRecDepth 100000 in
theorem eqA_self (W : World) (a : Addr) : (binOp .eql 24 (.pointer (some a)) (.pointer (some a))).run Tryz.prog W = .ok (.bool true) W := by
 obtain ⟨j, hj⟩ := Option.isSome_iff_exists.1 (show (Tryz.prog.info? 88).isSome = true by kernel_rfl)
 exact run_eql_ptr_same W a Tryz.underlying24 hj
set_option maxRecDepth 100000 in
theorem eqX_self (W : World) (a : Addr) : (binOp .eql 27 (.pointer (some a)) (.pointer (some a))).run Tryz.prog W = .ok (.bool true) W := by
 obtain ⟨j, hj⟩ := Option.isSome_iff_exists.1 (show (Tryz.prog.info? 105).isSome = true by kernel_rfl)
 exact run_eql_ptr_same W a Tryz.underlying27 hj
def Unm0 (p : Option Addr) (w : World) : Prop := p = none ∨ ∃ g, p = some ⟨g, 0, none⟩ ∧ w.cell? ⟨g, 0, none⟩ = some (.pointer none)
set_option maxRecDepth 100000 in
theorem Unm0.below {p : Option Addr} {w w' : World} (h : Unm0 p w) (hb : Below w.heap.size w w') : Unm0 p w' := by
 rcases h with h | ⟨g, e, h⟩
 ·exact .inl h
 ·exact .inr ⟨g, e, keep_of_below hb h⟩
set_option maxRecDepth 100000 in
theorem Amade_yes (w : World) (g : Nat) (h : w.cell? ⟨g, 0, none⟩ = some (.pointer (some ⟨g, 0, none⟩))) :
  Calls Tryz.prog 62 #[.pointer (some ⟨g, 0, none⟩)] w fun e w' => e = .returned (.bool true) ∧ w = w' := by
 have hq := fun W => eqA_self W ⟨g, 0, none⟩
 go_enter Tryz.func62, Tryz.ntmps62
 go_wp2_with fail
 go_ret
 exact ⟨rfl, rfl⟩
set_option maxRecDepth 100000 in
theorem Xmade_yes (w : World) (g : Nat) (h : w.cell? ⟨g, 0, none⟩ = some (.pointer (some ⟨g, 0, none⟩))) :
  Calls Tryz.prog 94 #[.pointer (some ⟨g, 0, none⟩)] w fun e w' => e = .returned (.bool true) ∧ w = w' := by
 have hq := fun W => eqX_self W ⟨g, 0, none⟩
 go_enter Tryz.func94, Tryz.ntmps94
 go_wp2_with fail
 go_ret
 exact ⟨rfl, rfl⟩
section
variable {w : World} {ga gp gj gx im mx : Nat} {br ov : Bool}
set_option maxRecDepth 100000 in
theorem xstands_any (ha : AB w ga gp gj im br) (hx : XB w gx ga mx ov) :
  Calls Tryz.prog 64 #[.pointer (some ⟨gx, 0, none⟩)] w fun e w' => e = .returned (.int .i64 (if ov then 9 else if br then 4 else 0)) ∧ w = w' := by
 have HM := Lib.hid (Xmade_yes w gx hx.c0)
 have c1 := hx.c1
 have c6 := hx.c6
 have c4 := ha.c4
 clear ha hx
 cases ov with
 | true =>
  go_enter Tryz.func64, Tryz.ntmps64
  go_wp2_with fail
  refine HM.out.mono ?_
  rintro e w' ⟨rfl, rfl⟩
  go_wp2_with fail
  go_ret
  exact ⟨rfl, rfl⟩
 | false =>
  cases br with
  | true =>
   go_enter Tryz.func64, Tryz.ntmps64
   go_wp2_with fail
   refine HM.out.mono ?_
   rintro e w' ⟨rfl, rfl⟩
   go_wp2_with fail
   go_ret
   exact ⟨rfl, rfl⟩
  | false =>
   go_enter Tryz.func64, Tryz.ntmps64
   go_wp2_with fail
   refine HM.out.mono ?_
   rintro e w' ⟨rfl, rfl⟩
   go_wp2_with fail
   go_ret
   exact ⟨rfl, rfl⟩
set_option maxRecDepth 100000 in
theorem XPages_any {gd mb : Nat} {wv tv : Value} {ak : Bool} {P : PoS} (ha : AB w ga gp gj im br) (hx : XB w gx ga mx ov) (hp : PB w gp gd wv ak tv mb P) :
  Calls Tryz.prog 47 #[.pointer (some ⟨gx, 0, none⟩)] w fun e w' => e = .returned (.int .i64 (P.pages : Int)) ∧ w = w' := by
 have HM := Lib.hid (Xmade_yes w gx hx.c0)
 have HP := Lib.hid (Pages_any hp)
 have c1 := hx.c1
 have d1 := ha.c1
 clear ha hx hp
 go_enter Tryz.func47, Tryz.ntmps47
 go_wp2_with fail
 refine HM.out.mono ?_
 rintro e w' ⟨rfl, rfl⟩
 go_wp2_with fail
 refine HP.out.mono ?_
 rintro e w' ⟨rfl, rfl⟩
 go_wp2_with fail
 go_ret
 exact ⟨rfl, rfl⟩
set_option maxRecDepth 100000 in
theorem Over_any (hx : XB w gx ga mx ov) : Calls Tryz.prog 49 #[.pointer (some ⟨gx, 0, none⟩)] w fun e w' => e = .returned (.bool ov) ∧ w = w' := by
 have HM := Lib.hid (Xmade_yes w gx hx.c0)
 have c6 := hx.c6
 clear hx
 go_enter Tryz.func49, Tryz.ntmps49
 go_wp2_with fail
 refine HM.out.mono ?_
 rintro e w' ⟨rfl, rfl⟩
 go_wp2_with fail
 go_ret
 exact ⟨rfl, rfl⟩
set_option maxRecDepth 100000 in
theorem ABroken_any (ha : AB w ga gp gj im br) : Calls Tryz.prog 46 #[.pointer (some ⟨ga, 0, none⟩)] w fun e w' => e = .returned (.bool br) ∧ w = w' := by
 have HM := Lib.hid (Amade_yes w ga ha.c0)
 have c4 := ha.c4
 clear ha
 go_enter Tryz.func46, Tryz.ntmps46
 go_wp2_with fail
 refine HM.out.mono ?_
 rintro e w' ⟨rfl, rfl⟩
 go_wp2_with fail
 go_ret
 exact ⟨rfl, rfl⟩
end
end Go.Proofs.YtnkeclpgpiogoaaGreat

/-! AtD -/
namespace Go.Proofs.YtnkeclpgpiogoaaGreat
open Go Go.RowKit Go.Maps
set_option maxRecDepth 100000 in
theorem run_enter {P : Program} {f : FuncId} {fn : Func} {c : Code} (hf : P.funcs[f]? = some fn) (hname : (fn.name == "runtime.NumGoroutine") = false) (hb : fn.body = some c) (args : Array Value) (w : World) : (callFunc f args).run P w = .ok (.enter f args) w := by
 have h1 : fn.name ≠ "runtime.NumGoroutine" := by simpa using hname
 simp [callFunc, hf, h1, hb]
set_option maxRecDepth 100000 in
theorem box_cell {w : World} {g : Nat} {v : Value} {t : TypeId} (h : w.heap[g]? = some (.cells #[v] t (0, 0))) : w.cell? ⟨g, 0, none⟩ = some v := by
 rw [cell_of_row w g 0 _ _ _ h]
 rfl
set_option maxRecDepth 100000 in
theorem jb_of {w : World} {b0 gd : Nat} {F : Nat → Prop} {D : EnS} (h : IsE w b0 gd F D) : ∃ wv, JB w D.gj gd D.j wv := by
 obtain ⟨w0, _, h4, _⟩ := h
 exact h4.jb
set_option maxRecDepth 100000 in
theorem wal10_any {W : World} {b0 gd : Nat} {F : Nat → Prop} {D : EnS} (hI : IsE W b0 gd F D) (hpd : D.d.pending.length ≤ 900000) (n : Int) (hk : D.k = true) :
  Calls Tryz.prog 73 #[.int .i64 n, .pointer (some ⟨D.gb, 0, none⟩)] W fun e w' => e = .returned (.int .i64 (logE D n)) ∧ EStep W b0 gd F (logD D n) w' := by
 have c0 := box_cell hI.box
 have HF : Hid (∀ W2, Below W.heap.size W W2 → Calls Tryz.prog 41 #[.pointer (some ⟨D.gj, 0, none⟩)] W2 fun e w' => e = .returned (.int .i64 (fluE D.d D.j)) ∧ EStep W b0 gd F { D with d := fluD D.d D.j, j := fluJ D.d D.j } w') := Lib.hid fun W2 hb => (Flush_e (hI.below hb) hpd).mono fun e w' h => ⟨h.1, h.2.pre hb⟩
 have C0 : Hid (∀ W2, Below W.heap.size W W2 → W2.cell? ⟨D.gb, 0, none⟩ = some (.pointer (some ⟨D.gj, 0, none⟩))) := Lib.hid fun W2 hb => keep_of_below hb c0
 obtain ⟨wv, hjb⟩ := jb_of hI
 have HS := Lib.hid (Synced_any hjb)
 have HI := Lib.hid hI
 obtain ⟨sy, hsy⟩ : ∃ sy, sy = D.j.sy := ⟨_, rfl⟩
 rw [← hsy] at HS
 by_cases hn : n ≤ (sy : Int)
 ·have e1 : logE D n = 0 := if_pos ⟨hk, by rw [← hsy]; exact hn⟩
  have e2 : logD D n = D := if_pos ⟨hk, by rw [← hsy]; exact hn⟩
  have t1 : decide (n ≤ (sy : Int)) = true := decide_eq_true hn
  rw [e1, e2]
  clear hI hpd e1 e2 hjb hk hsy
  go_enter Tryz.func73, Tryz.ntmps73
  go_wp2_with fail
  refine HS.out.mono ?_
  rintro e w1 ⟨rfl, hb1⟩
  have HB1 := Lib.hid hb1
  clear hb1
  go_wp2_with fail
  go_ret
  exact ⟨rfl, HI.out.same HB1.out⟩
 ·have e1 : logE D n = fluE D.d D.j := if_neg (fun h => hn (by rw [hsy]; exact h.2))
  have e2 : logD D n = { D with d := fluD D.d D.j, j := fluJ D.d D.j } := if_neg (fun h => hn (by rw [hsy]; exact h.2))
  have t1 : decide (n ≤ (sy : Int)) = false := decide_eq_false hn
  rw [e1, e2]
  clear hI hpd e1 e2 hjb hk hsy
  go_enter Tryz.func73, Tryz.ntmps73
  go_wp2_with fail
  refine HS.out.mono ?_
  rintro e w1 ⟨rfl, hb1⟩
  have HB1 := Lib.hid hb1
  have c1 := C0.out w1 hb1
  clear hb1 c0
  go_wp2_with fail
  refine (HF.out w1 HB1.out).mono ?_
  rintro e w' ⟨rfl, hs⟩
  have HSS := Lib.hid hs
  clear hs
  go_wp2_with fail
  go_ret
  exact ⟨rfl, HSS.out⟩
set_option maxRecDepth 100000 in
theorem wal10 {b0 gd : Nat} {D0 : EnS} (hk : D0.k = true) : LogV (.func (.func 73) #[] #[.pointer (some ⟨D0.gb, 0, none⟩)]) b0 gd D0 := by
 refine ⟨73, #[.pointer (some ⟨D0.gb, 0, none⟩)], rfl, fun args W => run_enter (fn := Tryz.f73) rfl (by kernel_rfl) rfl args W, fun n W F D h1 h2 h3 h0 hI hpd => ?_⟩
 rw [← h2]
 exact wal10_any hI hpd n (h3.trans hk)
set_option maxRecDepth 100000 in
set_option maxRecDepth 100000 in
theorem ANew_raw {w : World} {b0 gp gd mb : Nat} {wv tv : Value} {D : EnS} {P : PoS} {F : Nat → Prop} {q : List FV} (X : PX w b0 gp gd wv D P F tv mb q) (hp : 1 ≤ P.pages) (hc : D.j.ct ≠ 0) :
  Calls Tryz.prog 52 #[.pointer (some ⟨gp, 0, none⟩), .pointer (some ⟨D.gj, 0, none⟩)] w fun e w' => ∃ w1, Below w.heap.size w w1 ∧ e = .returned (.tuple #[.pointer (some ⟨w1.heap.size + 1, 0, none⟩), .int .i64 0]) ∧ w' = (w1.alloc (.map #[] 0)).alloc (.cells #[.pointer (some ⟨w1.heap.size + 1, 0, none⟩), .pointer (some ⟨gp, 0, none⟩), .pointer (some ⟨D.gj, 0, none⟩), .map (some w1.heap.size), .bool false] 88) := by
 have hj : ∃ wv, JB w D.gj gd D.j wv := by
  obtain ⟨w0, _, h4, _⟩ := X.dk
  exact h4.jb
 obtain ⟨wj, hjb⟩ := hj
 have HA := Lib.hid (At_any hjb)
 have HP := Lib.hid (fun W (hb : Below w.heap.size w W) => Pages_any (X.pb.below hb))
 have t1 : ((P.pages : Int) == 0) = false := beq_eq_false_iff_ne.2 (by omega)
 have t2 : ((D.j.ct : Int) == 0) = false := beq_eq_false_iff_ne.2 (by omega)
 have hmk : ∀ W : World, (Instr.makeMap 86 none).run Tryz.prog W = .ok (.map (some W.heap.size)) (W.alloc (.map #[] 0)) := fun W => by simp [Instr.makeMap]
 clear X hjb hp hc
 go_enter Tryz.func52, Tryz.ntmps52
 go_wp2_with fail
 refine HA.out.mono ?_
 rintro e w1 ⟨rfl, hb1⟩
 have HB1 := Lib.hid hb1
 clear hb1
 go_wp2_with fail
 refine (HP.out w1 HB1.out).mono ?_
 rintro e w2 ⟨rfl, rfl⟩
 go_wp2_with fail
 go_ret2
 exact ⟨w1, HB1.out, rfl, rfl⟩
set_option maxRecDepth 100000 in
theorem Begin_raw {w : World} {ga gp gj im : Nat} {br : Bool} (ha : AB w ga gp gj im br) :
  Calls Tryz.prog 13 #[.pointer (some ⟨ga, 0, none⟩)] w fun e w' => e = .returned (.pointer (some ⟨w.heap.size + 1, 0, none⟩)) ∧ w' = (w.alloc (.map #[] 0)).alloc (.cells #[.pointer (some ⟨w.heap.size + 1, 0, none⟩), .pointer (some ⟨ga, 0, none⟩), .map (some w.heap.size), .int .u32 0, .int .i32 0, .int .u32 0, .bool false] 105) := by
 have HM := Lib.hid (Amade_yes w ga ha.c0)
 have hmk : ∀ W : World, (Instr.makeMap 91 none).run Tryz.prog W = .ok (.map (some W.heap.size)) (W.alloc (.map #[] 0)) := fun W => by simp [Instr.makeMap]
 clear ha
 go_enter Tryz.func13, Tryz.ntmps13
 go_wp2_with fail
 refine HM.out.mono ?_
 rintro e w1 ⟨rfl, rfl⟩
 go_wp2_with fail
 go_ret
 exact ⟨rfl, rfl⟩
end Go.Proofs.YtnkeclpgpiogoaaGreat

/-! AtE -/
namespace Go.Proofs.YtnkeclpgpiogoaaGreat
open Go Go.RowKit
set_option maxRecDepth 100000 in
theorem race_disable (w : World) : (callFunc 186 #[]).run Tryz.prog w = .ok (.value (.tuple #[])) w := run_call_mark0 Tryz.func186 (by kernel_rfl) (by kernel_rfl) (by kernel_rfl) .disable (by kernel_rfl) w
set_option maxRecDepth 100000 in
theorem race_enable (w : World) : (callFunc 188 #[]).run Tryz.prog w = .ok (.value (.tuple #[])) w := run_call_mark0 Tryz.func188 (by kernel_rfl) (by kernel_rfl) (by kernel_rfl) .enable (by kernel_rfl) w
set_option maxRecDepth 100000 in
theorem race_acquire (a : Addr) (w : World) : (callFunc 189 #[.pointer (some a)]).run Tryz.prog w = .ok (.value (.tuple #[])) w := run_call_marked Tryz.func189 (by kernel_rfl) (by kernel_rfl) (by kernel_rfl) .acquire (by kernel_rfl) a w
set_option maxRecDepth 100000 in
theorem race_merge (a : Addr) (w : World) : (callFunc 191 #[.pointer (some a)]).run Tryz.prog w = .ok (.value (.tuple #[])) w := run_call_marked Tryz.func191 (by kernel_rfl) (by kernel_rfl) (by kernel_rfl) .releaseMerge (by kernel_rfl) a w
set_option maxRecDepth 100000 in
theorem bstore_deferred (a : Addr) (x : Value) (u : FrameMode) (w : World) (hc : w.cell? a = some x) (hz : w.frozen? a = false) :
  CallsD Tryz.prog 152 #[.pointer (some a), .bool true] u w fun e u' w' => u' = u ∧ (e = .returned (.tuple #[]) ∧ w' = w.drew.setCell a (.int .u32 1)) := by
 have hc' : w.drew.cell? a = some x := by go_simp
 have hz' : w.drew.frozen? a = false := by go_simp
 have hst := run_call_store (P := Tryz.prog) Tryz.func172 (by kernel_rfl) (by kernel_rfl) (by kernel_rfl) (by kernel_rfl) (k := .u32) (y := 1) hc' hz'
 go_enter_d Tryz.func152, Tryz.ntmps152
 go_wp2
 go_region_calls
 all_goals (go_end0; exact ⟨rfl, rfl⟩)
set_option maxRecDepth 100000 in
theorem unlock_deferred (a : Addr) (u : FrameMode) (w : World) (hc : w.cell? a = some (.int .i32 1)) (hz : w.frozen? a = false) :
  CallsD Tryz.prog 151 #[.pointer (some a)] u w fun e u' w' => u' = u ∧ (e = .returned (.tuple #[]) ∧ w' = w.setCell a (.int .i32 0)) := by
 have hd := race_disable
 have he := race_enable
 have hr := race_merge
 have hadd := run_call_add (P := Tryz.prog) Tryz.func192 (by kernel_rfl) (by kernel_rfl) (by kernel_rfl) .i32 (by kernel_rfl) (y := -1) (s := 0) hc hz (by simp [go_sem]; rfl)
 have hcv := run_convert_to_unsafe (P := Tryz.prog) (src := 267) (dst := 271) Tryz.underlying267 Tryz.underlying271 (by kernel_rfl) hc
 go_enter_d Tryz.func151, Tryz.ntmps151
 go_wp2
 go_end0
 go_wp2
 go_end0
 exact ⟨rfl, rfl⟩
set_option maxRecDepth 100000 in
theorem lock_free (a : Addr) (w : World) (hc : w.cell? a = some (.int .i32 0)) (hz : w.frozen? a = false) :
  Calls Tryz.prog 150 #[.pointer (some a)] w fun e w' => e = .returned (.tuple #[]) ∧ w' = w.setCell a (.int .i32 1) := by
 have hd := race_disable
 have he := race_enable
 have ha := race_acquire
 have hcas := run_call_cas_hit (P := Tryz.prog) Tryz.func187 (by kernel_rfl) (by kernel_rfl) (by kernel_rfl) .i32 (by kernel_rfl) (y := 1) hc hz
 have hc' : (w.setCell a (.int .i32 1)).cell? a = some (.int .i32 1) := World.cell?_setCell_same w a _ hc
 have hcv := run_convert_to_unsafe (P := Tryz.prog) (src := 267) (dst := 271) Tryz.underlying267 Tryz.underlying271 (by kernel_rfl) hc'
 go_enter Tryz.func150, Tryz.ntmps150
 go_wp2
 first | go_end0 | (simp only [Exit.inBlock, Exit.then]; refine bodyPost_ret (results_none rfl _ _ _) rfl ?_) | refine bodyPost_ret (results_none rfl _ _ _) rfl ?_
 go_wp2
 go_end0
 exact ⟨rfl, rfl⟩
set_option maxRecDepth 100000 in
set_option maxHeartbeats 1600000 in
theorem slow_any (b off : Nat) (pl : Addr) (hpb : ¬ b = pl.block) (x3 : Value) (w : World) (hp : w.cell? pl = some (.pointer (some ⟨b, 0, none⟩)))
  (h0 : w.cell? ⟨b, off, none⟩ = some (.int .u32 0)) (h1 : w.cell? ⟨b, off + 1, none⟩ = some (.int .i32 0)) (h3 : w.cell? ⟨b, 6, none⟩ = some x3) (hoff : off = 3)
  (f0 : w.frozen? ⟨b, off, none⟩ = false) (f1 : w.frozen? ⟨b, off + 1, none⟩ = false) (f3 : w.frozen? ⟨b, 6, none⟩ = false) :
  Calls Tryz.prog 130 #[.pointer (some ⟨b, off, none⟩), .func (.func 107) #[] #[.pointer (some pl)]] w fun e w' => e = .returned (.tuple #[]) ∧
   w' = (((w.setCell ⟨b, off + 1, none⟩ (.int .i32 1)).setCell ⟨b, 6, none⟩ (.bool true)).drew.setCell ⟨b, off, none⟩ (.int .u32 1)).setCell ⟨b, off + 1, none⟩ (.int .i32 0) := by
 subst hoff
 have hl := run_call_load (P := Tryz.prog) Tryz.func149 (by kernel_rfl) (by kernel_rfl) (by kernel_rfl) .u32 (by kernel_rfl) (w := w.setCell ⟨b, 3 + 1, none⟩ (.int .i32 1)) (a := ⟨b, 3, none⟩) (x := 0) ((World.cell?_setCell_other _ ⟨b, 3 + 1, none⟩ ⟨b, 3, none⟩ _ (by simp)).trans h0)
 have hp1 : (w.setCell ⟨b, 3 + 1, none⟩ (.int .i32 1)).cell? pl = some (.pointer (some ⟨b, 0, none⟩)) := (World.cell?_setCell_other _ ⟨b, 3 + 1, none⟩ pl _ (fun h => hpb (by rw [← h]))).trans hp
 have h31 : (w.setCell ⟨b, 3 + 1, none⟩ (.int .i32 1)).cell? ⟨b, 6, none⟩ = some x3 := (World.cell?_setCell_other _ ⟨b, 3 + 1, none⟩ ⟨b, 6, none⟩ _ (by simp)).trans h3
 have hnot : ∀ (x : Bool) (w : World), (Op.unary .not (.bool x)).run Tryz.prog w = .ok (.bool (!x)) w := fun _ _ => rfl
 go_enter_defers Tryz.func130, Tryz.ntmps130
 go_wp2_with (go_at_call 150; refine (lock_free ⟨b, 3 + 1, none⟩ _ (by go_simp) (by go_simp)).mono ?_; rintro e w' ⟨rfl, rfl⟩)
 go_wp2
 go_end0
 go_wp2
 refine leaves_cons (f := 152) (args := #[.pointer (some ⟨b, 3, none⟩), .bool true]) (by simp) (by simp [go_sem]) ?_
 refine (bstore_deferred ⟨b, 3, none⟩ (.int .u32 0) .returning _ ?_ (by simp [f0])).mono ?_
 ·exact (World.cell?_setCell_other _ ⟨b, 6, none⟩ ⟨b, 3, none⟩ _ (by simp)).trans ((World.cell?_setCell_other _ ⟨b, 3 + 1, none⟩ ⟨b, 3, none⟩ _ (by simp)).trans h0)
 rintro e u' w'' ⟨rfl, rfl, rfl⟩
 refine leaves_cons (f := 151) (args := #[.pointer (some ⟨b, 3 + 1, none⟩)]) (by simp [settle]) (by simp [go_sem]) ?_
 refine (unlock_deferred ⟨b, 3 + 1, none⟩ _ _ ?_ (by simp [f1])).mono ?_
 ·refine (World.cell?_setCell_other _ ⟨b, 3, none⟩ ⟨b, 3 + 1, none⟩ _ (by simp)).trans ?_
  rw [World.cell?_drew]
  exact (World.cell?_setCell_other _ ⟨b, 6, none⟩ ⟨b, 3 + 1, none⟩ _ (by simp)).trans (World.cell?_setCell_same w _ _ h1)
 rintro e u' w'' ⟨rfl, rfl, rfl⟩
 simp [Leaves, settle, results, Tryz.results130]
set_option maxRecDepth 100000 in
set_option maxHeartbeats 1600000 in
theorem do_first (b off : Nat) (pl : Addr) (hpb : ¬ b = pl.block) (x3 : Value) (w : World) (hp : w.cell? pl = some (.pointer (some ⟨b, 0, none⟩)))
  (h0 : w.cell? ⟨b, off, none⟩ = some (.int .u32 0)) (h1 : w.cell? ⟨b, off + 1, none⟩ = some (.int .i32 0)) (h3 : w.cell? ⟨b, 6, none⟩ = some x3) (hoff : off = 3)
  (f0 : w.frozen? ⟨b, off, none⟩ = false) (f1 : w.frozen? ⟨b, off + 1, none⟩ = false) (f3 : w.frozen? ⟨b, 6, none⟩ = false) :
  Calls Tryz.prog 106 #[.pointer (some ⟨b, off, none⟩), .func (.func 107) #[] #[.pointer (some pl)]] w fun e w' => e = .returned (.tuple #[]) ∧
   w' = (((w.setCell ⟨b, off + 1, none⟩ (.int .i32 1)).setCell ⟨b, 6, none⟩ (.bool true)).drew.setCell ⟨b, off, none⟩ (.int .u32 1)).setCell ⟨b, off + 1, none⟩ (.int .i32 0) := by
 subst hoff
 have hl := run_call_load (P := Tryz.prog) Tryz.func149 (by kernel_rfl) (by kernel_rfl) (by kernel_rfl) .u32 (by kernel_rfl) h0
 have hnot : ∀ (x : Bool) (w : World), (Op.unary .not (.bool x)).run Tryz.prog w = .ok (.bool (!x)) w := fun _ _ => rfl
 go_enter Tryz.func106, Tryz.ntmps106
 go_wp2_with (first | (go_at_call 130; refine (slow_any b 3 pl hpb x3 _ hp h0 h1 h3 rfl f0 f1 f3).mono ?_; rintro e w' ⟨rfl, rfl⟩) | (go_at_call 129; go_in))
 go_end0
 exact ⟨rfl, rfl⟩
end Go.Proofs.YtnkeclpgpiogoaaGreat
