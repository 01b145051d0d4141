/-
  Texts of this claim, joined: PoC, PoD, PoE, PoF. No statement of the program is proved here.
-/
import Derived.Test.YtmdgnjmhbjdlmaaGreatPkA2
/-! PoC -/
namespace Go.Proofs.YtmdgnjmhbjdlmaaGreat
open Go Go.RowKit Go.Maps
theorem PS.setv {gp mb n k : Nat} {F ok : Nat → Prop} {tv : Value} {q : List FV} {p p' : FV} (hi : q[n]? = some p) (hv : p'.2 = p.2) (h : PS gp F ok tv mb (q.set n p') k) : PS gp F ok tv mb q k := by
 rcases h with h | h | h | h | h | ⟨x, hx, h⟩
 ·exact .inl h
 ·exact .inr (.inl h)
 ·exact .inr (.inr (.inl h))
 ·exact .inr (.inr (.inr (.inl h)))
 ·exact .inr (.inr (.inr (.inr (.inl h))))
 ·rcases List.mem_or_eq_of_mem_set hx with hx | rfl
  ·exact .inr (.inr (.inr (.inr (.inr ⟨x, hx, h⟩))))
  ·exact .inr (.inr (.inr (.inr (.inr ⟨p, List.mem_of_getElem? hi, by rw [← hv]; exact h⟩))))
theorem EO.block {α : Type} {enc : α → List Value} {k : Nat} {T : TypeId} {w : World} {base : Nat} {v : Value} {l : List α} (h : EO enc k T w base v l) (h0 : 0 < l.length) : ∃ g c, v = .slice (some ⟨g, 0, none⟩) l.length c ∧ base ≤ g ∧ g < w.heap.size ∧ l.length ≤ c ∧ c ≤ maxLen := by
 rcases h.2 with ⟨e, e0⟩ | ⟨g', cap', cur, e, hb, hg, h1, h2, _⟩
 ·omega
 ·exact ⟨g', cap', e, hb, (Array.getElem?_eq_some_iff.1 hg).1, h1, h2⟩
theorem IsD.kind {w : World} {ok : Nat → Prop} {base g : Nat} {F : Nat → Prop} {D : DiskS} (h : IsD w ok base g F D) {k : Nat} (hk : F k) : base ≤ k ∧ ∃ cs t fr, w.heap[k]? = some (.cells cs t fr) ∧ (t = 91 ∨ t = 57 ∨ t = 113) := by
 refine ⟨(h.foot_lt k hk).1, ?_⟩
 obtain ⟨dr, dc, pv, dvs, pvs, hd, hF⟩ := h
 rcases (hF k).1 hk with e | e | e
 ·subst e
  exact ⟨_, _, _, hd.db, .inl rfl⟩
 ·subst e
  obtain ⟨cur, hc⟩ := own_blk hd.dur rfl
  exact ⟨_, _, _, hc, .inr (.inl rfl)⟩
 ·obtain ⟨cur, hc⟩ := own_blk hd.pen e
  exact ⟨_, _, _, hc, .inr (.inr rfl)⟩
section
variable {w w' w'' : World} {b0 gp gd mb : Nat} {wv tv : Value} {D D' : DiskS} {P P' : PoS} {F ok S S' : Nat → Prop} {q : List FV}
def PStep (w : World) (b0 gp gd : Nat) (wv : Value) (S : Nat → Prop) (D : DiskS) (P : PoS) (w' : World) : Prop :=
 ∃ F ok tv mb q, PX w' b0 gp gd wv D P F ok tv mb q ∧ Off S w w' ∧ ∀ k, PS gp F ok tv mb q k → S k ∨ w.heap.size ≤ k
theorem PX.below (h : PX w b0 gp gd wv D P F ok tv mb q) (hb : Below w.heap.size w w') : PX w' b0 gp gd wv D P F ok tv mb q :=
 ⟨h.dk.below hb, h.pb.below hb, EO.below h.tk hb, h.qf, fun x hx => (h.pv x hx).below hb, h.mp.below hb, h.pi, h.bp, h.bm, fun k e => Nat.lt_of_lt_of_le (h.os k e) hb.size⟩
def PWr (w : World) (b0 gp gd : Nat) (wv : Value) (F ok : Nat → Prop) (tv : Value) (mb : Nat) (q : List FV) (D : DiskS) (P : PoS) (w' : World) : Prop :=
 ∃ F' ok' q', PX w' b0 gp gd wv D P F' ok' tv mb q' ∧ q'.map Prod.snd = q.map Prod.snd ∧ Off (PS gp F ok tv mb q) w w' ∧ ∀ k, PS gp F' ok' tv mb q' k → PS gp F ok tv mb q k ∨ w.heap.size ≤ k
theorem PX.same (h : PX w b0 gp gd wv D P F ok tv mb q) (hb : Below w.heap.size w w') : PStep w b0 gp gd wv (PS gp F ok tv mb q) D P w' :=
 ⟨F, ok, tv, mb, q, h.below hb, Off.of_below hb, fun _ e => .inl e⟩
theorem PStep.post (h : PStep w b0 gp gd wv S D P w') (hb : Below w'.heap.size w' w'') : PStep w b0 gp gd wv S D P w'' := by
 obtain ⟨F, ok, tv, mb, q, h1, h2, h3⟩ := h
 exact ⟨F, ok, tv, mb, q, h1.below hb, h2.trans (Off.of_below hb), h3⟩
theorem PX.lt (h : PX w b0 gp gd wv D P F ok tv mb q) {k : Nat} (hk : PS gp F ok tv mb q k) : k < w.heap.size := by
 rcases hk with e | e | e | e | e | ⟨x, hx, e⟩
 ·exact (h.dk.foot_lt k e).2
 ·exact h.os k e
 ·rw [e]; exact h.pb.lt
 ·rw [e]; exact h.mp.lt
 ·obtain ⟨cur, hc⟩ := own_blk h.tk e
  exact (Array.getElem?_eq_some_iff.1 hc).1
 ·exact ((h.pv x hx).lt k e).2
theorem PX.disk (h : PX w b0 gp gd wv D P F ok tv mb q) (hp : DPost w ok b0 gd F D' w') (hl : D'.blocks.length = D.blocks.length) :
  ∃ F' ok', PX w' b0 gp gd wv D' P F' ok' tv mb q ∧ Off (PS gp F ok tv mb q) w w' ∧ ∀ k, PS gp F' ok' tv mb q k → PS gp F ok tv mb q k ∨ w.heap.size ≤ k := by
 have hk := h.dk
 obtain ⟨p1, F', p2, p3⟩ := hp
 have hne : ∀ k, F k → ∃ cs t fr, w.heap[k]? = some (.cells cs t fr) ∧ (t = 91 ∨ t = 57 ∨ t = 113) := fun k e => (hk.kind e).2
 have hn : ∀ k (cs : Array Value) (t : TypeId) (fr : Nat × Nat), w.heap[k]? = some (.cells cs t fr) → t ≠ 91 → t ≠ 57 → t ≠ 113 → ¬ F k := fun k cs t fr hc n1 n2 n3 e => by
  obtain ⟨cs', t', fr', hc', ht⟩ := hne k e
  rw [hc] at hc'
  injection hc' with hc'
  injection hc' with _ hc' _
  subst hc'
  rcases ht with ht | ht | ht
  ·exact n1 ht
  ·exact n2 ht
  ·exact n3 ht
 refine ⟨F', fun k => (ok k ∨ w.heap.size ≤ k) ∧ k < w'.heap.size, ⟨p2.sharp, h.pb.off p1 (hn gp _ _ _ h.pb (by decide) (by decide) (by decide)), ownsRow_off h.tk p1 (fun k e hF => ?_), h.qf, fun x hx => (h.pv x hx).off p1 (fun k e hF => ?_), h.mp.off p1 (fun hF => ?_), h.pi.disk hl, h.bp, h.bm, fun k e => e.2⟩, p1.mono (fun k _ e => .inl e), fun k e => ?_⟩
 ·obtain ⟨cur, hc⟩ := own_blk h.tk e
  exact hn k _ _ _ hc (by decide) (by decide) (by decide) hF
 ·obtain ⟨cur, hc⟩ := own_blk (h.pv x hx) e
  exact hn k _ _ _ hc (by decide) (by decide) (by decide) hF
 ·obtain ⟨cs, t, fr, hc, _⟩ := hne mb hF
  exact h.mp.notCells hc rfl
 ·rcases e with e | e | e
  ·exact (p3 k e).imp .inl id
  ·exact e.1.imp (fun e => .inr (.inl e)) id
  ·exact .inl (.inr (.inr e))
end
section
variable {w w' : World} {b0 gp gd mb tb tc i : Nat} {wv tv : Value} {D : DiskS} {P : PoS} {F ok : Nat → Prop} {q : List FV} {p p' : FV}
theorem PX.beside (h : PX w b0 gp gd wv D P F ok tv mb q) {g : Nat} {cs : Array Value} {t : TypeId} {fr : Nat × Nat} (hc : w.heap[g]? = some (.cells cs t fr)) (n1 : t ≠ 91) (n2 : t ≠ 57) (n3 : t ≠ 113) (n4 : t ≠ 5) (ho : Off (· = g) w w') :
  IsD w' ok b0 gd F D ∧ (∀ x ∈ q, OB w' b0 x.2 x.1.pay) ∧ MQ w' mb P.fr.length (idxF (P.fr.map FrS.page)) := by
 refine ⟨h.dk.off ho (fun k e e2 => ?_) (fun k m e hB => ?_), fun x hx => (h.pv x hx).off ho (fun k e e2 => ?_), h.mp.off ho (h.mp.notCells hc)⟩
 ·subst e2
  obtain ⟨_, cs', t', fr', hc', ht⟩ := h.dk.kind e
  rw [hc] at hc'
  injection hc' with hc'
  injection hc' with _ hc' _
  subst hc'
  rcases ht with ht | ht | ht
  ·exact n1 ht
  ·exact n2 ht
  ·exact n3 ht
 ·subst e
  exact hB.ne hc n4 rfl
 ·subst e2
  obtain ⟨cur, hc'⟩ := own_blk (h.pv x hx) e
  rw [hc] at hc'
  injection hc' with hc'
  injection hc' with _ hc' _
  exact n4 hc'
theorem PX.frame (h : PX w b0 gp gd wv D P F ok (.slice (some ⟨tb, 0, none⟩) q.length tc) mb q) (hi : q[i]? = some p) (hp : p'.1.page = p.1.page) (ho : Off (· = tb) w w') (he : EO EF 5 101 w' b0 (.slice (some ⟨tb, 0, none⟩) q.length tc) (q.set i p')) (hv : OB w' b0 p'.2 p'.1.pay) (hpi : PI D { P with fr := P.fr.set i p'.1 }) :
  PX w' b0 gp gd wv D { P with fr := P.fr.set i p'.1 } F ok (.slice (some ⟨tb, 0, none⟩) q.length tc) mb (q.set i p') := by
 obtain ⟨cur, hc⟩ := own_blk h.tk rfl
 obtain ⟨h1, h2, h3⟩ := h.beside hc (by decide) (by decide) (by decide) (by decide) ho
 have hil := (List.getElem?_eq_some_iff.1 hi).1
 have hlen : P.fr.length = q.length := by rw [← h.qf, List.length_map]
 have hpg : (P.fr.set i p'.1).map FrS.page = P.fr.map FrS.page := map_set_same FrS.page (d := fr0) (by omega) (by
  rw [hp, ← h.qf, List.getD_eq_getElem?_getD, List.getElem?_map, hi]
  rfl)
 refine ⟨h1, h.pb.off ho (fun e => ?_), he, by rw [List.map_set, h.qf], fun x hx => ?_, ?_, hpi, h.bp, h.bm, fun k e => Nat.lt_of_lt_of_le (h.os k e) ho.size⟩
 ·subst e
  exact cells_ne h.pb hc (by decide)
 ·rcases List.mem_or_eq_of_mem_set hx with hx | rfl
  ·exact h2 x hx
  ·exact hv
 ·show MQ w' mb (P.fr.set i p'.1).length (idxF ((P.fr.set i p'.1).map FrS.page))
  rw [List.length_set, hpg]
  exact h3
theorem PX.own (h : PX w b0 gp gd wv D P F ok tv mb q) {P' : PoS} (ho : Off (· = gp) w w') (hb : PB w' gp gd wv false tv mb P') (hf : P'.fr = P.fr) (hpi : PI D P') : PX w' b0 gp gd wv D P' F ok tv mb q := by
 obtain ⟨h1, h2, h3⟩ := h.beside h.pb (by decide) (by decide) (by decide) (by decide) ho
 refine ⟨h1, hb, ownsRow_off h.tk ho (fun k e e2 => ?_), by rw [hf]; exact h.qf, h2, by rw [hf]; exact h3, hpi, h.bp, h.bm, fun k e => Nat.lt_of_lt_of_le (h.os k e) ho.size⟩
 subst e2
 obtain ⟨cur, hc⟩ := own_blk h.tk e
 exact cells_ne h.pb hc (by decide)
end
theorem writeR_at (L : Option Int) (D : DiskS) (P : PoS) (n : Nat) (f : FrS) (hf : P.fr.getD n fr0 = f) : writeR L D P n =
  if asksE L f.lsn ≠ 0 then (D, P, asksE L f.lsn)
  else if writeE D ((P.base + f.page : Nat) : Int) 4096 ≠ 0 then (writeD D ((P.base + f.page : Nat) : Int) (blockP (stampN P) f.pay), P, writeE D ((P.base + f.page : Nat) : Int) 4096)
  else (writeD D ((P.base + f.page : Nat) : Int) (blockP (stampN P) f.pay), { P with fr := P.fr.set n { f with dirty := false }, count := P.count + 1 }, 0) := by
 subst hf
 rfl
def BO (w : World) (base : Nat) (A : Option Addr) (c : Nat) (l : List UInt8) : Prop := l.length = 4096 ∧ OB w base (.slice A 4096 c) l
theorem BO.below {w w' : World} {base c : Nat} {A : Option Addr} {l : List UInt8} (h : BO w base A c l) (hb : Below w.heap.size w w') : BO w' base A c l := ⟨h.1, h.2.below hb⟩
theorem BO.of {w : World} {base : Nat} {v : Value} {l : List UInt8} (h : OB w base v l) (hl : l.length = 4096) : ∃ A c, v = .slice A 4096 c ∧ BO w base A c l := by
 obtain ⟨A, c, e, _⟩ := h.form
 rw [hl] at e
 subst e
 exact ⟨A, c, rfl, hl, h⟩
def MP.sl (base : Nat) (l : List UInt8) : MP := ⟨fun v w => ∃ A c, v = .tuple #[.slice A 4096 c, .int .i64 0] ∧ BO w base A c l, fun _ _ _ hb ⟨A, c, e, h⟩ => ⟨A, c, e, h.below hb⟩⟩
def MP.bo (base : Nat) (l : List UInt8) : MP := ⟨fun v w => ∃ A c, v = .slice A 4096 c ∧ BO w base A c l, fun _ _ _ hb ⟨A, c, e, h⟩ => ⟨A, c, e, h.below hb⟩⟩
set_option maxRecDepth 100000 in
set_option maxHeartbeats 4000000 in
theorem pwrite_any {w : World} {b0 gp gd mb : Nat} {wv tv : Value} {D : DiskS} {P : PoS} {F ok : Nat → Prop} {q : List FV} {L : Option Int} (X : PX w b0 gp gd wv D P F ok tv mb q) (hl : LogV w wv L (PS gp F ok tv mb q)) (n : Nat) (hn : n < P.fr.length) (hpd : D.pending.length ≤ 900000) (hct : P.count ≤ 1152921504606846976) :
  Calls Tryz.prog 65 #[.pointer (some ⟨gp, 0, none⟩), .int .i64 (n : Int)] w fun e w' => e = .returned (.int .i64 (writeR L D P n).2.2) ∧ PWr w b0 gp gd wv F ok tv mb q (writeR L D P n).1 (writeR L D P n).2.1 w' := by
 have hlen : P.fr.length = q.length := by rw [← X.qf, List.length_map]
 obtain ⟨p, hp⟩ : ∃ p, q[n]? = some p := ⟨_, List.getElem?_eq_getElem (by omega)⟩
 have hpf : P.fr.getD n fr0 = p.1 := by
  rw [← X.qf, List.getD_eq_getElem?_getD, List.getElem?_map, hp]
  rfl
 have hpi := X.pi
 have hpok := hpi.ok p.1 (hpf ▸ getD_mem (by omega))
 obtain ⟨tb, tc, rfl, t1, t2, t3, t4⟩ := X.tk.block (by omega)
 have HA := Lib.hid (pask_any X.pb hl (.inr (.inr (.inl rfl))) p.1.lsn hpok.2.2.1)
 have HW := Lib.hid (writeR_at L D P n p.1 hpf)
 have HX := Lib.hid X
 have c8 := X.pb.c8
 obtain ⟨f0, f1, f2, f3, f4⟩ := fr_cells X.tk hp
 have HP := Lib.hid hp
 have HOK := Lib.hid hpok
 have HPI := Lib.hid hpi
 have HPF := Lib.hid hpf
 have hnq : n < q.length := by omega
 have hql : q.length ≤ 256 := by have := hpi.len; have := hpi.m2; omega
 obtain ⟨rp, hrp⟩ : ∃ rp, rp = writeR L D P n := ⟨_, rfl⟩
 have HRP := Lib.hid hrp
 rw [← hrp] at HW ⊢
 clear X hl hpf hpi hpok hlen hrp f0 f1 f3 f4 hp
 by_cases ha : asksE L p.1.lsn = 0
 ·rw [ha] at HA
  have HA0 := Lib.hid ha
  clear ha
  go_enter Tryz.func65, Tryz.ntmps65
  go_wp2_with fail
  refine HA.out.mono ?_
  rintro e w1 ⟨rfl, hb1⟩
  have HB1 := Lib.hid hb1
  have HX1 := Lib.hid (HX.out.below hb1)
  have d8 := HX1.out.pb.c8
  have g2 := (fr_cells HX1.out.tk HP.out).2.2.1
  clear c8 f2 hb1
  go_upto_region 8 with fail
  obtain ⟨Ap, cp, hpv2, hbr, hcp, hcm⟩ := (HX1.out.pv p (List.mem_of_getElem? HP.out)).form
  have hpl := HOK.out.2.1
  rw [hpl] at hpv2 hbr hcp
  have g1 := (fr_cells HX1.out.tk HP.out).2.1
  rw [hpv2] at g1
  have d1 := HX1.out.pb.c1
  have d2 := HX1.out.pb.c2
  have d5 := HX1.out.pb.c5
  have HG1 := Lib.hid g1
  have HD5 := Lib.hid d5
  have HCT : Hid (∀ W, Below w1.heap.size w1 W → Calls Tryz.prog 11 #[.pointer (some ⟨gp, 0, none⟩)] W fun e w' => e = .returned (.int .i64 (P.count : Int)) ∧ W = w') := Lib.hid fun W hW => Count_any (HX1.out.pb.below hW)
  have HOF : Hid (∀ W, Calls Tryz.prog 81 #[.int .i64 (P.epoch : Int), .int .i64 (P.count : Int)] W fun e w' => e = .returned (.int .u64 ((stampN P : Nat) : Int)) ∧ W = w') := Lib.hid fun W => (Of_any _ _ W).mono fun e w' h => ⟨by rw [h.1]; unfold stampN; simp, h.2⟩
  have HSE : Hid (∀ W, Below w1.heap.size w1 W → Calls Tryz.prog 80 #[.slice Ap 4080 cp, .int .u64 ((stampN P : Nat) : Int)] W fun e w' => (∃ A c, e = .returned (.tuple #[.slice A 4096 c, .int .i64 0]) ∧ BO w' w1.heap.size A c (blockP (stampN P) p.1.pay)) ∧ Below W.heap.size W w') := Lib.hid fun W hW => (Seal_fits Ap 4080 cp (stampN P) p.1.pay W (hbr.below hW) (by omega) (by unfold stampN; omega)).mono (by
   rintro e w' ⟨r, rfl, h1, h2⟩
   rw [Nat.sub_self, List.replicate_zero, List.append_nil] at h1
   obtain ⟨A, c, rfl, h3⟩ := BO.of (own_lower h1 hW.size) (blockP_len hpl)
   exact ⟨⟨A, c, rfl, h3⟩, h2⟩)
  clear hbr g1 d5 hpv2 hpl
  refine' wp_region_mono (by kernel_rfl) (by kernel_rfl) (by kernel_rfl) (by kernel_rfl) (by kernel_rfl) (by kernel_rfl)
   [MP.is (.pointer (some ⟨tb, n * 5, none⟩)), MP.is (.pointer (some ⟨tb, n * 5, none⟩)), MP.is (.pointer (some ⟨tb, n * 5 + 1, none⟩)), MP.is (.slice Ap 4080 cp), MP.is (.pointer (some ⟨gp, 0, none⟩)), MP.is (.pointer (some ⟨gp, 0, none⟩)), MP.is (.pointer (some ⟨gp, 5, none⟩)), MP.is (.int .i64 (P.epoch : Int)), MP.is (.pointer (some ⟨gp, 0, none⟩)), MP.is (.int .i64 (P.count : Int)), MP.is (.int .u64 ((stampN P : Nat) : Int)), MP.sl w1.heap.size (blockP (stampN P) p.1.pay), MP.sl w1.heap.size (blockP (stampN P) p.1.pay), MP.bo w1.heap.size (blockP (stampN P) p.1.pay), MP.is (.int .i64 0), MP.bo w1.heap.size (blockP (stampN P) p.1.pay), MP.is (.int .i64 0)] ?hAA1 ?hst1 ?hend1
  case hAA1 =>
   intro f
   conv => lhs; simp only [putA, dstOf, List.size_toArray, List.length_cons, List.length_nil, Nat.zero_add, Nat.reduceAdd, List.getElem?_toArray, List.getElem?_cons_zero, List.getElem?_cons_succ, Option.bind_some, Act.put, List.setIfInBounds_toArray, List.set_cons_zero, List.set_cons_succ]
   first | done | exact rfl
  case hst1 =>
   change Steps _ _ _ _ _ [0, 1, 2, 3, 4, 5, 6, 7, 8, 9, 10, 11, 12, 13, 14, 15, 16]
   refine Steps.cons rfl ?_ ?_
   ·intro f wz hB h K Q hK
    clear h
    try simp only [List.getElem_toArray, List.getElem_cons_zero]
    try rw [if_pos (by rfl)]
    go_simp
    exact hK _ _ (gr_refl _) rfl
   refine Steps.cons rfl ?_ ?_
   ·intro f wz hB h K Q hK
    have h0 : (MP.is (.pointer (some ⟨tb, n * 5, none⟩))).p (f 0) wz := h 0 (by kernel_rfl)
    have e0 : f 0 = (.pointer (some ⟨tb, n * 5, none⟩)) := h0
    simp only [e0] at hK ⊢
    clear e0
    clear h
    try rw [if_pos (by rfl)]
    go_simp
    exact hK _ _ (gr_refl _) rfl
   refine Steps.cons rfl ?_ ?_
   ·intro f wz hB h K Q hK
    have h1 : (MP.is (.pointer (some ⟨tb, n * 5, none⟩))).p (f 1) wz := h 1 (by kernel_rfl)
    have e1 : f 1 = (.pointer (some ⟨tb, n * 5, none⟩)) := h1
    simp only [e1] at hK ⊢
    clear e1
    clear h
    try rw [if_pos (by rfl)]
    go_simp
    exact hK _ _ (gr_refl _) rfl
   refine Steps.cons rfl ?_ ?_
   ·intro f wz hB h K Q hK
    have h2 : (MP.is (.pointer (some ⟨tb, n * 5 + 1, none⟩))).p (f 2) wz := h 2 (by kernel_rfl)
    have e2 : f 2 = (.pointer (some ⟨tb, n * 5 + 1, none⟩)) := h2
    simp only [e2] at hK ⊢
    clear e2
    clear h
    try rw [if_pos (by rfl)]
    have y0 := keep_of_below (bel_drew hB) HG1.out
    have y1 := keep_of_below (bel_drew hB) HD5.out
    go_simp
    exact hK _ _ (gr_refl _) rfl
   refine Steps.cons rfl ?_ ?_
   ·intro f wz hB h K Q hK
    clear h
    try rw [if_pos (by rfl)]
    go_simp
    exact hK _ _ (gr_refl _) rfl
   refine Steps.cons rfl ?_ ?_
   ·intro f wz hB h K Q hK
    have h4 : (MP.is (.pointer (some ⟨gp, 0, none⟩))).p (f 4) wz := h 4 (by kernel_rfl)
    have e4 : f 4 = (.pointer (some ⟨gp, 0, none⟩)) := h4
    simp only [e4] at hK ⊢
    clear e4
    clear h
    try rw [if_pos (by rfl)]
    go_simp
    exact hK _ _ (gr_refl _) rfl
   refine Steps.cons rfl ?_ ?_
   ·intro f wz hB h K Q hK
    have h5 : (MP.is (.pointer (some ⟨gp, 0, none⟩))).p (f 5) wz := h 5 (by kernel_rfl)
    have e5 : f 5 = (.pointer (some ⟨gp, 0, none⟩)) := h5
    simp only [e5] at hK ⊢
    clear e5
    clear h
    try rw [if_pos (by rfl)]
    go_simp
    exact hK _ _ (gr_refl _) rfl
   refine Steps.cons rfl ?_ ?_
   ·intro f wz hB h K Q hK
    have h6 : (MP.is (.pointer (some ⟨gp, 5, none⟩))).p (f 6) wz := h 6 (by kernel_rfl)
    have e6 : f 6 = (.pointer (some ⟨gp, 5, none⟩)) := h6
    simp only [e6] at hK ⊢
    clear e6
    clear h
    try rw [if_pos (by rfl)]
    have y0 := keep_of_below (bel_drew hB) HG1.out
    have y1 := keep_of_below (bel_drew hB) HD5.out
    go_simp
    exact hK _ _ (gr_refl _) rfl
   refine Steps.cons rfl ?_ ?_
   ·intro f wz hB h K Q hK
    clear h
    try rw [if_pos (by rfl)]
    go_simp
    exact hK _ _ (gr_refl _) rfl
   refine Steps.cons rfl ?_ ?_
   ·intro f wz hB h K Q hK
    have h8 : (MP.is (.pointer (some ⟨gp, 0, none⟩))).p (f 8) wz := h 8 (by kernel_rfl)
    have e8 : f 8 = (.pointer (some ⟨gp, 0, none⟩)) := h8
    simp only [e8] at hK ⊢
    clear e8
    clear h
    try rw [if_pos (by rfl)]
    go_simp
    refine (HCT.out _ (bel_drew hB)).mono ?_
    rintro e w5 ⟨rfl, rfl⟩
    exact hK _ _ (gr_refl _) rfl
   refine Steps.cons rfl ?_ ?_
   ·intro f wz hB h K Q hK
    have h7 : (MP.is (.int .i64 (P.epoch : Int))).p (f 7) wz := h 7 (by kernel_rfl)
    have e7 : f 7 = (.int .i64 (P.epoch : Int)) := h7
    have h9 : (MP.is (.int .i64 (P.count : Int))).p (f 9) wz := h 9 (by kernel_rfl)
    have e9 : f 9 = (.int .i64 (P.count : Int)) := h9
    simp only [e7, e9] at hK ⊢
    clear e7 e9
    clear h
    try rw [if_pos (by rfl)]
    go_simp
    refine (HOF.out _).mono ?_
    rintro e w5 ⟨rfl, rfl⟩
    exact hK _ _ (gr_refl _) rfl
   refine Steps.cons rfl ?_ ?_
   ·intro f wz hB h K Q hK
    have h3 : (MP.is (.slice Ap 4080 cp)).p (f 3) wz := h 3 (by kernel_rfl)
    have e3 : f 3 = (.slice Ap 4080 cp) := h3
    have h10 : (MP.is (.int .u64 ((stampN P : Nat) : Int))).p (f 10) wz := h 10 (by kernel_rfl)
    have e10 : f 10 = (.int .u64 ((stampN P : Nat) : Int)) := h10
    simp only [e3, e10] at hK ⊢
    clear e3 e10
    clear h
    try rw [if_pos (by rfl)]
    go_simp
    refine (HSE.out _ (bel_drew hB)).mono ?_
    rintro e w5 ⟨⟨A, c, rfl, h5⟩, hb5⟩
    exact hK _ _ hb5 ⟨A, c, rfl, h5⟩
   refine Steps.cons rfl ?_ ?_
   ·intro f wz hB h K Q hK
    have h11 : (MP.sl w1.heap.size (blockP (stampN P) p.1.pay)).p (f 11) wz := h 11 (by kernel_rfl)
    obtain ⟨A11, c11, e11, q11⟩ := h11
    simp only [e11] at hK ⊢
    clear e11
    clear h
    try rw [if_pos (by rfl)]
    go_simp
    exact hK _ _ (gr_refl _) ⟨A11, c11, rfl, q11⟩
   refine Steps.cons rfl ?_ ?_
   ·intro f wz hB h K Q hK
    have h12 : (MP.sl w1.heap.size (blockP (stampN P) p.1.pay)).p (f 12) wz := h 12 (by kernel_rfl)
    obtain ⟨A12, c12, e12, q12⟩ := h12
    simp only [e12] at hK ⊢
    clear e12
    clear h
    try rw [if_pos (by rfl)]
    go_simp
    exact hK _ _ (gr_refl _) ⟨A12, c12, rfl, q12⟩
   refine Steps.cons rfl ?_ ?_
   ·intro f wz hB h K Q hK
    have h12 : (MP.sl w1.heap.size (blockP (stampN P) p.1.pay)).p (f 12) wz := h 12 (by kernel_rfl)
    obtain ⟨A12, c12, e12, q12⟩ := h12
    simp only [e12] at hK ⊢
    clear e12
    clear h
    try rw [if_pos (by rfl)]
    go_simp
    exact hK _ _ (gr_refl _) rfl
   refine Steps.cons rfl ?_ ?_
   ·intro f wz hB h K Q hK
    have h13 : (MP.bo w1.heap.size (blockP (stampN P) p.1.pay)).p (f 13) wz := h 13 (by kernel_rfl)
    obtain ⟨A13, c13, e13, q13⟩ := h13
    simp only [e13] at hK ⊢
    clear e13
    clear h
    try rw [if_pos (by rfl)]
    go_simp
    exact hK _ _ (gr_refl _) ⟨A13, c13, rfl, q13⟩
   refine Steps.cons rfl ?_ ?_
   ·intro f wz hB h K Q hK
    have h14 : (MP.is (.int .i64 0)).p (f 14) wz := h 14 (by kernel_rfl)
    have e14 : f 14 = (.int .i64 0) := h14
    simp only [e14] at hK ⊢
    clear e14
    clear h
    try rw [if_pos (by rfl)]
    go_simp
    exact hK _ _ (gr_refl _) rfl
   exact Steps.nil
  intro f w2 hB2 hR
  have e0 : f 0 = (.pointer (some ⟨tb, n * 5, none⟩)) := hR 0 (by decide)
  have e1 : f 1 = (.pointer (some ⟨tb, n * 5, none⟩)) := hR 1 (by decide)
  have e2 : f 2 = (.pointer (some ⟨tb, n * 5 + 1, none⟩)) := hR 2 (by decide)
  have e3 : f 3 = (.slice Ap 4080 cp) := hR 3 (by decide)
  have e4 : f 4 = (.pointer (some ⟨gp, 0, none⟩)) := hR 4 (by decide)
  have e5 : f 5 = (.pointer (some ⟨gp, 0, none⟩)) := hR 5 (by decide)
  have e6 : f 6 = (.pointer (some ⟨gp, 5, none⟩)) := hR 6 (by decide)
  have e7 : f 7 = (.int .i64 (P.epoch : Int)) := hR 7 (by decide)
  have e8 : f 8 = (.pointer (some ⟨gp, 0, none⟩)) := hR 8 (by decide)
  have e9 : f 9 = (.int .i64 (P.count : Int)) := hR 9 (by decide)
  have e10 : f 10 = (.int .u64 ((stampN P : Nat) : Int)) := hR 10 (by decide)
  obtain ⟨A112, c112, e11, q112⟩ := (show (MP.sl w1.heap.size (blockP (stampN P) p.1.pay)).p (f 11) w2 from hR 11 (by decide))
  obtain ⟨A122, c122, e12, q122⟩ := (show (MP.sl w1.heap.size (blockP (stampN P) p.1.pay)).p (f 12) w2 from hR 12 (by decide))
  obtain ⟨A132, c132, e13, q132⟩ := (show (MP.bo w1.heap.size (blockP (stampN P) p.1.pay)).p (f 13) w2 from hR 13 (by decide))
  have e14 : f 14 = (.int .i64 0) := hR 14 (by decide)
  obtain ⟨A152, c152, e15, q152⟩ := (show (MP.bo w1.heap.size (blockP (stampN P) p.1.pay)).p (f 15) w2 from hR 15 (by decide))
  have e16 : f 16 = (.int .i64 0) := hR 16 (by decide)
  simp only [e0, e1, e2, e3, e4, e5, e6, e7, e8, e9, e10, e11, e12, e13, e14, e15, e16]
  clear e0 e1 e2 e3 e4 e5 e6 e7 e8 e9 e10 e11 e12 e13 e14 e15 e16 hR
  have HB2 : Hid (Below w1.heap.size w1 w2) := Lib.hid (Below.trans (gr_drewN (gr_refl w1) 1) hB2)
  clear hB2
  have HX2 := Lib.hid (HX1.out.below HB2.out)
  have HBO := Lib.hid q152
  clear q112 q122 q132 q152
  have x9 : ((0 : Int) != 0) = false := rfl
  go_upto_region 11 with fail
  clear d1 d2 d8 g2 hcp hcm
  have d1 := Lib.hid HX2.out.pb.c1
  have d2 := Lib.hid HX2.out.pb.c2
  have g0 := Lib.hid (fr_cells HX2.out.tk HP.out).1
  have hbp : P.base + p.1.page ≤ 4096 := by have := HPI.out.fit; have := HPI.out.d2; have := HOK.out.1; omega
  have hsum : IntKind.i64.wrap ((P.base : Int) + (p.1.page : Int)) = (P.base : Int) + (p.1.page : Int) := by rw [IntKind.wrap_i64]; omega
  have hsum2 : IntKind.i64.wrap (P.base : Int) = (P.base : Int) := by rw [IntKind.wrap_i64]; omega
  refine wp_region_any (by kernel_rfl) ?_
  refine' wpAny_to_tail (l0 := #[false, false, false, false, false, false, false, false, false, false, false, false, false, false, false, false]) (by kernel_rfl) (by kernel_rfl) (by kernel_rfl) (by kernel_rfl) (by kernel_rfl)
   [MP.is (.pointer (some ⟨gp, 0, none⟩)), MP.is (.pointer (some ⟨gp, 0, none⟩)), MP.is (.pointer (some ⟨gp, 1, none⟩)), MP.is (.pointer (some ⟨gd, 0, none⟩)), MP.is (.pointer (some ⟨gp, 0, none⟩)), MP.is (.pointer (some ⟨gp, 0, none⟩)), MP.is (.pointer (some ⟨gp, 2, none⟩)), MP.is (.int .i64 (P.base : Int)), MP.is (.pointer (some ⟨tb, n * 5, none⟩)), MP.is (.pointer (some ⟨tb, n * 5, none⟩)), MP.is (.pointer (some ⟨tb, n * 5, none⟩)), MP.is (.int .i64 (p.1.page : Int)), MP.is (.int .i64 ((P.base : Int) + (p.1.page : Int))), MP.is (.slice A152 4096 c152), MP.any, MP.any]
   (fun j => j == 14 || j == 15) #[true, true, true, true, true, true, true, true, true, true, true, true, true, true, false, false] rfl (by kernel_rfl) rfl (by kernel_rfl) (by kernel_rfl) (by kernel_rfl) (by kernel_rfl) (fun _ => undef) (by rfl) ?hR02 ?hAA2 ?hst2 ?hend2
  case hR02 =>
   intro j hj
   have hj2 : j ∈ [] := hj
   cases hj2
  case hAA2 =>
   intro f
   conv => lhs; simp only [putA, dstOf, List.size_toArray, List.length_cons, List.length_nil, Nat.zero_add, Nat.reduceAdd, List.getElem?_toArray, List.getElem?_cons_zero, List.getElem?_cons_succ, Option.bind_some, Act.put, List.setIfInBounds_toArray, List.set_cons_zero, List.set_cons_succ]
   first | done | exact rfl
  case hst2 =>
   refine Steps.of_list (l' := [0, 1, 2, 3, 4, 5, 6, 7, 8, 9, 10, 11, 12, 13]) (by kernel_rfl) ?_
   refine Steps.cons rfl ?_ ?_
   ·intro f wz hB h K Q hK
    clear h
    try simp only [List.getElem_toArray, List.getElem_cons_zero]
    try rw [if_pos (by rfl)]
    go_simp
    exact hK _ _ (gr_refl _) rfl
   refine Steps.cons rfl ?_ ?_
   ·intro f wz hB h K Q hK
    have h0 : (MP.is (.pointer (some ⟨gp, 0, none⟩))).p (f 0) wz := h 0 (by kernel_rfl)
    have e0 : f 0 = (.pointer (some ⟨gp, 0, none⟩)) := h0
    simp only [e0] at hK ⊢
    clear e0
    clear h
    try rw [if_pos (by rfl)]
    go_simp
    exact hK _ _ (gr_refl _) rfl
   refine Steps.cons rfl ?_ ?_
   ·intro f wz hB h K Q hK
    have h1 : (MP.is (.pointer (some ⟨gp, 0, none⟩))).p (f 1) wz := h 1 (by kernel_rfl)
    have e1 : f 1 = (.pointer (some ⟨gp, 0, none⟩)) := h1
    simp only [e1] at hK ⊢
    clear e1
    clear h
    try rw [if_pos (by rfl)]
    go_simp
    exact hK _ _ (gr_refl _) rfl
   refine Steps.cons rfl ?_ ?_
   ·intro f wz hB h K Q hK
    have h2 : (MP.is (.pointer (some ⟨gp, 1, none⟩))).p (f 2) wz := h 2 (by kernel_rfl)
    have e2 : f 2 = (.pointer (some ⟨gp, 1, none⟩)) := h2
    simp only [e2] at hK ⊢
    clear e2
    clear h
    try rw [if_pos (by rfl)]
    have y0 := keep_of_below hB d1.out
    have y1 := keep_of_below hB d2.out
    have y2 := keep_of_below hB g0.out
    go_simp
    exact hK _ _ (gr_refl _) rfl
   refine Steps.cons rfl ?_ ?_
   ·intro f wz hB h K Q hK
    clear h
    try rw [if_pos (by rfl)]
    go_simp
    exact hK _ _ (gr_refl _) rfl
   refine Steps.cons rfl ?_ ?_
   ·intro f wz hB h K Q hK
    have h4 : (MP.is (.pointer (some ⟨gp, 0, none⟩))).p (f 4) wz := h 4 (by kernel_rfl)
    have e4 : f 4 = (.pointer (some ⟨gp, 0, none⟩)) := h4
    simp only [e4] at hK ⊢
    clear e4
    clear h
    try rw [if_pos (by rfl)]
    go_simp
    exact hK _ _ (gr_refl _) rfl
   refine Steps.cons rfl ?_ ?_
   ·intro f wz hB h K Q hK
    have h5 : (MP.is (.pointer (some ⟨gp, 0, none⟩))).p (f 5) wz := h 5 (by kernel_rfl)
    have e5 : f 5 = (.pointer (some ⟨gp, 0, none⟩)) := h5
    simp only [e5] at hK ⊢
    clear e5
    clear h
    try rw [if_pos (by rfl)]
    go_simp
    exact hK _ _ (gr_refl _) rfl
   refine Steps.cons rfl ?_ ?_
   ·intro f wz hB h K Q hK
    have h6 : (MP.is (.pointer (some ⟨gp, 2, none⟩))).p (f 6) wz := h 6 (by kernel_rfl)
    have e6 : f 6 = (.pointer (some ⟨gp, 2, none⟩)) := h6
    simp only [e6] at hK ⊢
    clear e6
    clear h
    try rw [if_pos (by rfl)]
    have y0 := keep_of_below hB d1.out
    have y1 := keep_of_below hB d2.out
    have y2 := keep_of_below hB g0.out
    go_simp
    exact hK _ _ (gr_refl _) rfl
   refine Steps.cons rfl ?_ ?_
   ·intro f wz hB h K Q hK
    clear h
    try rw [if_pos (by rfl)]
    go_simp
    exact hK _ _ (gr_refl _) rfl
   refine Steps.cons rfl ?_ ?_
   ·intro f wz hB h K Q hK
    have h8 : (MP.is (.pointer (some ⟨tb, n * 5, none⟩))).p (f 8) wz := h 8 (by kernel_rfl)
    have e8 : f 8 = (.pointer (some ⟨tb, n * 5, none⟩)) := h8
    simp only [e8] at hK ⊢
    clear e8
    clear h
    try rw [if_pos (by rfl)]
    go_simp
    exact hK _ _ (gr_refl _) rfl
   refine Steps.cons rfl ?_ ?_
   ·intro f wz hB h K Q hK
    have h9 : (MP.is (.pointer (some ⟨tb, n * 5, none⟩))).p (f 9) wz := h 9 (by kernel_rfl)
    have e9 : f 9 = (.pointer (some ⟨tb, n * 5, none⟩)) := h9
    simp only [e9] at hK ⊢
    clear e9
    clear h
    try rw [if_pos (by rfl)]
    go_simp
    exact hK _ _ (gr_refl _) rfl
   refine Steps.cons rfl ?_ ?_
   ·intro f wz hB h K Q hK
    have h10 : (MP.is (.pointer (some ⟨tb, n * 5, none⟩))).p (f 10) wz := h 10 (by kernel_rfl)
    have e10 : f 10 = (.pointer (some ⟨tb, n * 5, none⟩)) := h10
    simp only [e10] at hK ⊢
    clear e10
    clear h
    try rw [if_pos (by rfl)]
    have y0 := keep_of_below hB d1.out
    have y1 := keep_of_below hB d2.out
    have y2 := keep_of_below hB g0.out
    go_simp
    exact hK _ _ (gr_refl _) rfl
   refine Steps.cons rfl ?_ ?_
   ·intro f wz hB h K Q hK
    have h7 : (MP.is (.int .i64 (P.base : Int))).p (f 7) wz := h 7 (by kernel_rfl)
    have e7 : f 7 = (.int .i64 (P.base : Int)) := h7
    have h11 : (MP.is (.int .i64 (p.1.page : Int))).p (f 11) wz := h 11 (by kernel_rfl)
    have e11 : f 11 = (.int .i64 (p.1.page : Int)) := h11
    simp only [e7, e11] at hK ⊢
    clear e7 e11
    clear h
    try rw [if_pos (by rfl)]
    go_simp
    exact hK _ _ (gr_refl _) rfl
   refine Steps.cons rfl ?_ ?_
   ·intro f wz hB h K Q hK
    clear h
    try rw [if_pos (by rfl)]
    go_simp
    exact hK _ _ (gr_refl _) rfl
   exact Steps.nil
  intro f w3 hB3 hR
  conv => arg 7; simp only [putL, dstOf, List.size_toArray, List.length_cons, List.length_nil, Nat.zero_add, Nat.reduceAdd, List.getElem?_toArray, List.getElem?_cons_zero, List.getElem?_cons_succ, Option.bind_some, Act.put, List.setIfInBounds_toArray, List.set_cons_zero, List.set_cons_succ, Array.getD_eq_getD_getElem?, Option.getD_some, if_true, if_false, Bool.false_eq_true]
  have e0 : f 0 = (.pointer (some ⟨gp, 0, none⟩)) := hR 0 (by decide) rfl
  have e1 : f 1 = (.pointer (some ⟨gp, 0, none⟩)) := hR 1 (by decide) rfl
  have e2 : f 2 = (.pointer (some ⟨gp, 1, none⟩)) := hR 2 (by decide) rfl
  have e3 : f 3 = (.pointer (some ⟨gd, 0, none⟩)) := hR 3 (by decide) rfl
  have e4 : f 4 = (.pointer (some ⟨gp, 0, none⟩)) := hR 4 (by decide) rfl
  have e5 : f 5 = (.pointer (some ⟨gp, 0, none⟩)) := hR 5 (by decide) rfl
  have e6 : f 6 = (.pointer (some ⟨gp, 2, none⟩)) := hR 6 (by decide) rfl
  have e7 : f 7 = (.int .i64 (P.base : Int)) := hR 7 (by decide) rfl
  have e8 : f 8 = (.pointer (some ⟨tb, n * 5, none⟩)) := hR 8 (by decide) rfl
  have e9 : f 9 = (.pointer (some ⟨tb, n * 5, none⟩)) := hR 9 (by decide) rfl
  have e10 : f 10 = (.pointer (some ⟨tb, n * 5, none⟩)) := hR 10 (by decide) rfl
  have e11 : f 11 = (.int .i64 (p.1.page : Int)) := hR 11 (by decide) rfl
  have e12 : f 12 = (.int .i64 ((P.base : Int) + (p.1.page : Int))) := hR 12 (by decide) rfl
  have e13 : f 13 = (.slice A152 4096 c152) := hR 13 (by decide) rfl
  simp only [e0, e1, e2, e3, e4, e5, e6, e7, e8, e9, e10, e11, e12, e13]
  clear e0 e1 e2 e3 e4 e5 e6 e7 e8 e9 e10 e11 e12 e13 hR
  have HB3 : Hid (Below w2.heap.size w2 w3) := Lib.hid (Below.trans (gr_drewN (gr_refl w2) 1) hB3)
  have HX3 := Lib.hid (HX2.out.below HB3.out)
  have HBO3 := Lib.hid (HBO.out.below HB3.out)
  obtain ⟨gs, cs, ess, hgs1, hgs2, _⟩ := OB.full HBO3.out.2 HBO3.out.1
  injection ess with es1 es2 es3
  subst es1 es3
  have HWR := Lib.hid (Write_any w3 ok b0 gd F D ((P.base : Int) + (p.1.page : Int)) (some ⟨gs, 0, none⟩) 4096 c152 (blockP (stampN P) p.1.pay) HX3.out.dk (by
   obtain ⟨A', c', e', h1, _⟩ := HBO3.out.2.form
   rw [HBO3.out.1] at e' h1
   injection e' with e1 _ _
   rw [e1]
   exact h1) (fun ad e hF => by
   injection e with e
   subst e
   have := (HX1.out.dk.foot_lt _ hF).2
   dsimp only at this
   omega) (by decide) (by omega))
  obtain ⟨we, hwe⟩ : ∃ we, we = writeE D ((P.base : Int) + (p.1.page : Int)) 4096 := ⟨_, rfl⟩
  rw [← hwe] at HWR
  have HWE : Hid (writeE D ((P.base + p.1.page : Nat) : Int) 4096 = we) := Lib.hid (by rw [hwe, Int.natCast_add])
  have HDB : Hid ((writeD D ((P.base : Int) + (p.1.page : Int)) (blockP (stampN P) p.1.pay)).blocks.length = D.blocks.length) := Lib.hid (by rw [writeD_blocks])
  clear hwe hgs1 hgs2 hB3
  refine wpAny_of_held (S := fun _ => True) _ _ _ _ ?_
  refine wpAnyH_ready (rs := [14]) (by kernel_rfl) (by simp) ?_
  refine AllReadyH.cons rfl (fun KK hK => ?_) AllReadyH.nil
  rw [if_pos (by rfl)]
  go_simp
  refine HWR.out.mono ?_
  rintro e w4 ⟨rfl, hdp⟩
  have HDP := Lib.hid hdp
  clear hdp
  refine hK.out _ _ trivial (fun _ => ?_)
  clear hK KK
  try simp only [List.setIfInBounds_toArray, List.set_cons_zero, List.set_cons_succ]
  refine wpAnyH_ready (rs := [15]) (by kernel_rfl) (by simp) ?_
  refine AllReadyH.cons rfl (fun KK hK => ?_) AllReadyH.nil
  go_simp
  refine hK.out _ _ trivial (fun _ => ?_)
  clear hK KK
  try simp only [List.setIfInBounds_toArray, List.set_cons_zero, List.set_cons_succ]
  refine wpAnyH_done (by kernel_rfl) ?_ _
  obtain ⟨F4, ok4, hx4, ho4, hs4⟩ := HX3.out.disk HDP.out HDB.out
  have HX4 := Lib.hid hx4
  have HO4 := Lib.hid ho4
  have HS4 := Lib.hid hs4
  have HB13 := Lib.hid ((HB1.out.trans (HB2.out.mono HB1.out.size)).trans (HB3.out.mono (Nat.le_trans HB1.out.size HB2.out.size)))
  clear hx4 ho4 hs4
  by_cases hwe : we = 0
  ·subst hwe
   have g3 := (fr_cells HX4.out.tk HP.out).2.2.2.1
   have z3 := own_frz HX4.out.tk (n * 5 + 3)
   have ho5 : Off (· = tb) w4 (w4.setCell ⟨tb, n * 5 + 3, none⟩ (.bool false)) := (Off.refl _ w4).setCell _ rfl
   have hpi5 : PI (writeD D ((P.base : Int) + (p.1.page : Int)) (blockP (stampN P) p.1.pay)) { P with fr := P.fr.set n { p.1 with dirty := false } } := by
    refine (HPI.out.disk HDB.out).set hn ?_ HOK.out.2.1 HOK.out.2.2.1 HOK.out.2.2.2
    rw [HPF.out]
   have hx5 := HX4.out.frame HP.out (p' := ({ p.1 with dirty := false }, p.2)) rfl ho5 (fr_set3 HX4.out.tk HP.out false) ((HX4.out.pv p (List.mem_of_getElem? HP.out)).off ho5 (fun k e e2 => by
    subst e2
    obtain ⟨cur, hc⟩ := own_blk (HX4.out.pv p (List.mem_of_getElem? HP.out)) e
    obtain ⟨cur2, hc2⟩ := own_blk HX4.out.tk rfl
    exact cells_ne hc hc2 (by decide))) hpi5
   have HX5 := Lib.hid hx5
   have HO5 := Lib.hid ho5
   have c11 := hx5.pb.c11
   have z11 := hx5.pb.frozen 11
   have HADD := Lib.hid (aAdd_any ⟨gp, 11, none⟩ (P.count : Int) 1 _ c11 z11 (by omega) (by omega))
   have hx6 := hx5.own (P' := { P with fr := P.fr.set n { p.1 with dirty := false }, count := P.count + 1 }) ((Off.refl _ _).setCell (.int .i64 ((P.count + 1 : Nat) : Int)) rfl) (hx5.pb.s11 (P.count + 1)) rfl (hpi5.count (P.count + 1))
   rw [Int.natCast_add] at hx6
   have HX6 := Lib.hid hx6
   clear hx5 hx6 hpi5 ho5 c11 z11
   go_wp2_with fail
   refine HADD.out.mono ?_
   rintro e w6 ⟨rfl, rfl⟩
   go_wp2_with fail
   go_ret
   have hrp : rp = (writeD D ((P.base : Int) + (p.1.page : Int)) (blockP (stampN P) p.1.pay), { P with fr := P.fr.set n { p.1 with dirty := false }, count := P.count + 1 }, 0) := by
    rw [HW.out, if_neg (by rw [HA0.out]; decide), if_neg (by rw [HWE.out]; decide), Int.natCast_add]
   rw [hrp]
   refine ⟨rfl, F4, ok4, _, HX6.out, ?_, ?_, fun k e => ?_⟩
   ·exact map_set_same Prod.snd (d := p) hnq (by rw [List.getD_eq_getElem?_getD, HP.out]; rfl)
   ·refine (Off.of_below HB13.out).trans (HO4.out.trans ((HO5.out.mono (fun k _ e => ?_)).trans (((Off.refl (· = gp) _).setCell _ rfl).mono (fun k _ e => .inr (.inr (.inl e))))))
    subst e
    exact .inr (.inr (.inr (.inr (.inl rfl))))
   ·exact (HS4.out k (PS.setv HP.out (p' := ({ p.1 with dirty := false }, p.2)) rfl e)).imp id (fun e => Nat.le_trans HB13.out.size e)
  ·have hx : (we != 0) = true := by rw [bne_iff_ne]; exact hwe
   have HWN := Lib.hid hwe
   clear hwe
   go_wp2_with fail
   go_ret
   have hrp : rp = (writeD D ((P.base : Int) + (p.1.page : Int)) (blockP (stampN P) p.1.pay), P, we) := by
    rw [HW.out, if_neg (by rw [HA0.out]; decide), if_pos (by rw [HWE.out]; exact HWN.out), HWE.out, Int.natCast_add]
   rw [hrp]
   exact ⟨rfl, F4, ok4, q, HX4.out, rfl, (Off.of_below HB13.out).trans HO4.out, fun k e => (HS4.out k e).imp id (fun e => Nat.le_trans HB13.out.size e)⟩
 ·have hx : (asksE L p.1.lsn != 0) = true := by rw [bne_iff_ne]; exact ha
  have HE : Hid (rp = (D, P, asksE L p.1.lsn)) := Lib.hid (by rw [HW.out, if_pos ha])
  clear ha HW
  generalize asksE L p.1.lsn = r at *
  go_enter Tryz.func65, Tryz.ntmps65
  go_wp2_with fail
  refine HA.out.mono ?_
  rintro e w1 ⟨rfl, hb1⟩
  have HB1 := Lib.hid hb1
  clear hb1
  go_wp2_with fail
  go_ret
  rw [HE.out]
  exact ⟨rfl, F, ok, q, HX.out.below HB1.out, rfl, Off.of_below HB1.out, fun _ e => .inl e⟩
end Go.Proofs.YtmdgnjmhbjdlmaaGreat

/-! PoD -/
namespace Go.Proofs.YtmdgnjmhbjdlmaaGreat
open Go Go.RowKit Go.Maps
theorem info_frame : ∃ i z, Tryz.prog.info? 101 = some i ∧ i.zero = some z ∧ z.cells.size = 5 ∧ i.size = 5 ∧ i.bytes = 48 := by
 have h : (match Tryz.prog.info? 101 with | some i => (match i.zero with | some z => z.cells.size == 5 | none => false) && i.size == 5 && i.bytes == 48 | none => false) = true := by kernel_rfl
 cases hi : Tryz.prog.info? 101 with
 | none => rw [hi] at h; cases h
 | some i =>
  rw [hi] at h
  cases hz : i.zero with
  | none => simp [hz] at h
  | some z => simp [hz] at h; exact ⟨i, z, rfl, hz, h.1.1, h.1.2, h.2⟩
def NB (w : World) (k : Nat) : Prop := ∃ o, w.heap[k]? = some o ∧ match o with
 | .cells _ t _ => t ≠ 91 ∧ t ≠ 57 ∧ t ≠ 113 ∧ t ≠ 5
 | _ => True
def DV (w : World) (b0 gd : Nat) (F ok : Nat → Prop) (D : DiskS) (q : List FV) : Prop := IsD w ok b0 gd F D ∧ ∀ x ∈ q, OB w b0 x.2 x.1.pay
section
variable {w w' : World} {b0 gp gd mb : Nat} {F ok T : Nat → Prop} {D : DiskS} {q : List FV} {P : PoS} {wv tv : Value} {ak : Bool}
theorem DV.nb (h : DV w b0 gd F ok D q) (ho : Off T w w') (hT : ∀ k, T k → NB w k) : DV w' b0 gd F ok D q := by
 have hno : ∀ k, T k → ∀ cs t fr, w.heap[k]? = some (.cells cs t fr) → t ≠ 91 ∧ t ≠ 57 ∧ t ≠ 113 ∧ t ≠ 5 := fun k hk cs t fr hc => by
  obtain ⟨o, h1, h2⟩ := hT k hk
  rw [hc] at h1
  injection h1 with h1
  subst h1
  exact h2
 refine ⟨h.1.off ho (fun k e e2 => ?_) (fun k m e hB => (hno k e _ _ _ hB).2.2.2 rfl), fun x hx => (h.2 x hx).off ho (fun k e e2 => ?_)⟩
 ·obtain ⟨_, cs, t, fr, hc, ht⟩ := h.1.kind e
  have := hno k e2 _ _ _ hc
  rcases ht with ht | ht | ht
  ·exact this.1 ht
  ·exact this.2.1 ht
  ·exact this.2.2.1 ht
 ·obtain ⟨cur, hc⟩ := own_blk (h.2 x hx) e
  exact (hno k e2 _ _ _ hc).2.2.2 rfl
theorem DV.below (h : DV w b0 gd F ok D q) (hb : Below w.heap.size w w') : DV w' b0 gd F ok D q := ⟨h.1.below hb, fun x hx => (h.2 x hx).below hb⟩
theorem PB.nb (h : PB w gp gd wv ak tv mb P) : NB w gp := ⟨_, h, by decide, by decide, by decide, by decide⟩
theorem MQ.nb {n : Nat} {f : Int → Option Int} (h : MQ w mb n f) : NB w mb := by
 obtain ⟨D, ⟨es, clock, hb, _⟩, _⟩ := h
 exact ⟨_, hb, trivial⟩
theorem EO.nb (h : EO EF 5 101 w b0 tv q) {k : Nat} (hk : tv.ownBlock = some k) : NB w k := by
 obtain ⟨cur, hc⟩ := own_blk h hk
 exact ⟨_, hc, by decide, by decide, by decide, by decide⟩
end
def MP.rw (xs : List Value) : MP := ⟨fun v w => ∃ g, v = .slice (some ⟨g, 0, none⟩) 1 1 ∧ Rd w 5 (some ⟨g, 0, none⟩) 1 xs, fun _ _ _ hb ⟨g, e, h⟩ => ⟨g, e, h.below hb⟩⟩
def PStepV (w : World) (b0 gp gd : Nat) (wv : Value) (S : Nat → Prop) (v : Value) (D : DiskS) (P : PoS) (w' : World) : Prop :=
 ∃ F ok tv mb q, PX w' b0 gp gd wv D P F ok tv mb q ∧ Off S w w' ∧ ∀ k, PS gp F ok tv mb q k → S k ∨ v.ownBlock = some k ∨ w.heap.size ≤ k
structure NewF (w : World) (b0 : Nat) (P : PoS) (f : FrS) (fv : Value) : Prop where
 ow : OB w b0 fv f.pay
 pg : f.page < P.pages
 len : f.pay.length = 4080
 l1 : 0 ≤ f.lsn
 l2 : f.lsn ≤ 9223372036854775807
 no : f.page ∉ P.fr.map FrS.page
set_option maxRecDepth 100000 in
set_option maxHeartbeats 4000000 in
theorem phold_room {w : World} {b0 gp gd mb : Nat} {wv tv : Value} {D : DiskS} {P : PoS} {F ok : Nat → Prop} {q : List FV} (X : PX w b0 gp gd wv D P F ok tv mb q) (nf : FrS) (fv : Value) (hf : NewF w b0 P nf fv) (hr : P.fr.length < P.most) (hbs : b0 ≤ w.heap.size) :
  Calls Tryz.prog 54 #[.pointer (some ⟨gp, 0, none⟩), .agg #[.int .i64 (nf.page : Int), fv, .int .i64 nf.lsn, .bool nf.dirty, .bool nf.used]] w fun e w' => e = .returned (.int .i64 0) ∧ PStepV w b0 gp gd wv (PS gp F ok tv mb q) fv D (pushP P nf) w' := by
 have hlen : P.fr.length = q.length := by rw [← X.qf, List.length_map]
 have hmost := X.pi.m2
 obtain ⟨A, c, rfl, hA1, hA2⟩ := own_form X.tk
 have hb1 : Below w.heap.size w (w.alloc (.cells #[.int .i64 (nf.page : Int), fv, .int .i64 nf.lsn, .bool nf.dirty, .bool nf.used] 101)) := gr_alloc (gr_refl w) _
 have HX := Lib.hid X
 have HX1 := Lib.hid (X.below hb1)
 have HF := Lib.hid hf
 have HB1 := Lib.hid hb1
 have c8 := HX1.out.pb.c8
 have c4 := HX1.out.pb.c4
 have t1 : decide (q.length < P.most) = true := decide_eq_true (by omega)
 have t2 : decide ((q.length : Int) < (P.most : Int)) = true := decide_eq_true (by omega)
 clear X hf hb1
 go_enter Tryz.func54, Tryz.ntmps54
 go_upto_region 2 with (go_quiet (fail))
 have HX1q : Hid (PX ((w.alloc (.cells #[.int .i64 (nf.page : Int), fv, .int .i64 nf.lsn, .bool nf.dirty, .bool nf.used] 101)).drewN nq) b0 gp gd wv D P F ok (.slice A q.length c) mb q) := Lib.hid (HX1.out.below (gr_drewN (gr_refl _) nq))
 have HB1q : Hid (Below w.heap.size w ((w.alloc (.cells #[.int .i64 (nf.page : Int), fv, .int .i64 nf.lsn, .bool nf.dirty, .bool nf.used] 101)).drewN nq)) := Lib.hid (gr_drewN HB1.out nq)
 have HFR : Hid (((w.alloc (.cells #[.int .i64 (nf.page : Int), fv, .int .i64 nf.lsn, .bool nf.dirty, .bool nf.used] 101)).drewN nq).heap[w.heap.size]? = some (.cells #[.int .i64 (nf.page : Int), fv, .int .i64 nf.lsn, .bool nf.dirty, .bool nf.used] 101 (0, 0))) := Lib.hid (heap_alloc_new w _)
 generalize ((w.alloc (.cells #[.int .i64 (nf.page : Int), fv, .int .i64 nf.lsn, .bool nf.dirty, .bool nf.used] 101)).drewN nq) = w1 at *
 have k8 := Lib.hid HX1q.out.pb.c8
 have k9 := Lib.hid HX1q.out.pb.c9
 have kf : ∀ j u, #[Value.int .i64 (nf.page : Int), fv, .int .i64 nf.lsn, .bool nf.dirty, .bool nf.used][j]? = some u → w1.cell? ⟨w.heap.size, j, none⟩ = some u := fun j u hj => by rw [cell_of_row w1 _ j _ _ _ HFR.out]; exact hj
 have kf0 := Lib.hid (kf 0 _ rfl)
 clear kf c8 c4 HX1 HB1
 refine wp_region_any (by kernel_rfl) ?_
 refine' wpAny_to_tail (l0 := #[false, false, false, false, false, false, false, false, false, false, false, false]) (by kernel_rfl) (by kernel_rfl) (by kernel_rfl) (by kernel_rfl) (by kernel_rfl)
  [MP.is (.pointer (some ⟨gp, 0, none⟩)), MP.is (.pointer (some ⟨gp, 0, none⟩)), MP.is (.pointer (some ⟨gp, 9, none⟩)), MP.is (.map (some mb)), MP.is (.pointer (some ⟨w.heap.size, 0, none⟩)), MP.is (.int .i64 (nf.page : Int)), MP.is (.pointer (some ⟨gp, 0, none⟩)), MP.is (.pointer (some ⟨gp, 0, none⟩)), MP.is (.pointer (some ⟨gp, 8, none⟩)), MP.is (.slice A q.length c), MP.is (.int .i64 (q.length : Int)), MP.any]
  (fun j => j == 11) #[true, true, true, true, true, true, true, true, true, true, true, false] rfl (by kernel_rfl) rfl (by kernel_rfl) (by kernel_rfl) (by kernel_rfl) (by kernel_rfl) (fun _ => undef) (by rfl) ?hR01 ?hAA1 ?hst1 ?hend1
 case hR01 =>
  intro j hj
  have hj2 : j ∈ [] := hj
  cases hj2
 case hAA1 =>
  intro f
  conv => lhs; simp only [putA, dstOf, List.size_toArray, List.length_cons, List.length_nil, Nat.zero_add, Nat.reduceAdd, List.getElem?_toArray, List.getElem?_cons_zero, List.getElem?_cons_succ, Option.bind_some, Act.put, List.setIfInBounds_toArray, List.set_cons_zero, List.set_cons_succ]
  first | done | exact rfl
 case hst1 =>
  refine Steps.of_list (l' := [0, 1, 2, 3, 4, 5, 6, 7, 8, 9, 10]) (by kernel_rfl) ?_
  refine Steps.cons rfl ?_ ?_
  ·intro f wz hB h K Q hK
   clear h
   try simp only [List.getElem_toArray, List.getElem_cons_zero]
   try rw [if_pos (by rfl)]
   go_simp
   exact hK _ _ (gr_refl _) rfl
  refine Steps.cons rfl ?_ ?_
  ·intro f wz hB h K Q hK
   have h0 : (MP.is (.pointer (some ⟨gp, 0, none⟩))).p (f 0) wz := h 0 (by kernel_rfl)
   have e0 : f 0 = (.pointer (some ⟨gp, 0, none⟩)) := h0
   simp only [e0] at hK ⊢
   clear e0
   clear h
   try rw [if_pos (by rfl)]
   go_simp
   exact hK _ _ (gr_refl _) rfl
  refine Steps.cons rfl ?_ ?_
  ·intro f wz hB h K Q hK
   have h1 : (MP.is (.pointer (some ⟨gp, 0, none⟩))).p (f 1) wz := h 1 (by kernel_rfl)
   have e1 : f 1 = (.pointer (some ⟨gp, 0, none⟩)) := h1
   simp only [e1] at hK ⊢
   clear e1
   clear h
   try rw [if_pos (by rfl)]
   go_simp
   exact hK _ _ (gr_refl _) rfl
  refine Steps.cons rfl ?_ ?_
  ·intro f wz hB h K Q hK
   have h2 : (MP.is (.pointer (some ⟨gp, 9, none⟩))).p (f 2) wz := h 2 (by kernel_rfl)
   have e2 : f 2 = (.pointer (some ⟨gp, 9, none⟩)) := h2
   simp only [e2] at hK ⊢
   clear e2
   clear h
   try rw [if_pos (by rfl)]
   have y0 := keep_of_below hB k8.out
   have y1 := keep_of_below hB k9.out
   have y2 := keep_of_below hB kf0.out
   go_simp
   exact hK _ _ (gr_refl _) rfl
  refine Steps.cons rfl ?_ ?_
  ·intro f wz hB h K Q hK
   clear h
   try rw [if_pos (by rfl)]
   go_simp
   exact hK _ _ (gr_refl _) rfl
  refine Steps.cons rfl ?_ ?_
  ·intro f wz hB h K Q hK
   have h4 : (MP.is (.pointer (some ⟨w.heap.size, 0, none⟩))).p (f 4) wz := h 4 (by kernel_rfl)
   have e4 : f 4 = (.pointer (some ⟨w.heap.size, 0, none⟩)) := h4
   simp only [e4] at hK ⊢
   clear e4
   clear h
   try rw [if_pos (by rfl)]
   have y0 := keep_of_below hB k8.out
   have y1 := keep_of_below hB k9.out
   have y2 := keep_of_below hB kf0.out
   go_simp
   exact hK _ _ (gr_refl _) rfl
  refine Steps.cons rfl ?_ ?_
  ·intro f wz hB h K Q hK
   clear h
   try rw [if_pos (by rfl)]
   go_simp
   exact hK _ _ (gr_refl _) rfl
  refine Steps.cons rfl ?_ ?_
  ·intro f wz hB h K Q hK
   have h6 : (MP.is (.pointer (some ⟨gp, 0, none⟩))).p (f 6) wz := h 6 (by kernel_rfl)
   have e6 : f 6 = (.pointer (some ⟨gp, 0, none⟩)) := h6
   simp only [e6] at hK ⊢
   clear e6
   clear h
   try rw [if_pos (by rfl)]
   go_simp
   exact hK _ _ (gr_refl _) rfl
  refine Steps.cons rfl ?_ ?_
  ·intro f wz hB h K Q hK
   have h7 : (MP.is (.pointer (some ⟨gp, 0, none⟩))).p (f 7) wz := h 7 (by kernel_rfl)
   have e7 : f 7 = (.pointer (some ⟨gp, 0, none⟩)) := h7
   simp only [e7] at hK ⊢
   clear e7
   clear h
   try rw [if_pos (by rfl)]
   go_simp
   exact hK _ _ (gr_refl _) rfl
  refine Steps.cons rfl ?_ ?_
  ·intro f wz hB h K Q hK
   have h8 : (MP.is (.pointer (some ⟨gp, 8, none⟩))).p (f 8) wz := h 8 (by kernel_rfl)
   have e8 : f 8 = (.pointer (some ⟨gp, 8, none⟩)) := h8
   simp only [e8] at hK ⊢
   clear e8
   clear h
   try rw [if_pos (by rfl)]
   have y0 := keep_of_below hB k8.out
   have y1 := keep_of_below hB k9.out
   have y2 := keep_of_below hB kf0.out
   go_simp
   exact hK _ _ (gr_refl _) rfl
  refine Steps.cons rfl ?_ ?_
  ·intro f wz hB h K Q hK
   have h9 : (MP.is (.slice A q.length c)).p (f 9) wz := h 9 (by kernel_rfl)
   have e9 : f 9 = (.slice A q.length c) := h9
   simp only [e9] at hK ⊢
   clear e9
   clear h
   try rw [if_pos (by rfl)]
   go_simp
   exact hK _ _ (gr_refl _) rfl
  exact Steps.nil
 intro f w2 hB2 hR
 conv => arg 7; simp only [putL, dstOf, List.size_toArray, List.length_cons, List.length_nil, Nat.zero_add, Nat.reduceAdd, List.getElem?_toArray, List.getElem?_cons_zero, List.getElem?_cons_succ, Option.bind_some, Act.put, List.setIfInBounds_toArray, List.set_cons_zero, List.set_cons_succ, Array.getD_eq_getD_getElem?, Option.getD_some, if_true, if_false, Bool.false_eq_true]
 have e0 : f 0 = (.pointer (some ⟨gp, 0, none⟩)) := hR 0 (by decide) rfl
 have e1 : f 1 = (.pointer (some ⟨gp, 0, none⟩)) := hR 1 (by decide) rfl
 have e2 : f 2 = (.pointer (some ⟨gp, 9, none⟩)) := hR 2 (by decide) rfl
 have e3 : f 3 = (.map (some mb)) := hR 3 (by decide) rfl
 have e4 : f 4 = (.pointer (some ⟨w.heap.size, 0, none⟩)) := hR 4 (by decide) rfl
 have e5 : f 5 = (.int .i64 (nf.page : Int)) := hR 5 (by decide) rfl
 have e6 : f 6 = (.pointer (some ⟨gp, 0, none⟩)) := hR 6 (by decide) rfl
 have e7 : f 7 = (.pointer (some ⟨gp, 0, none⟩)) := hR 7 (by decide) rfl
 have e8 : f 8 = (.pointer (some ⟨gp, 8, none⟩)) := hR 8 (by decide) rfl
 have e9 : f 9 = (.slice A q.length c) := hR 9 (by decide) rfl
 have e10 : f 10 = (.int .i64 (q.length : Int)) := hR 10 (by decide) rfl
 simp only [e0, e1, e2, e3, e4, e5, e6, e7, e8, e9, e10]
 clear e0 e1 e2 e3 e4 e5 e6 e7 e8 e9 e10 hR
 have HB2 : Hid (Below w1.heap.size w1 w2) := Lib.hid (Below.trans (gr_drewN (gr_refl w1) 1) hB2)
 have HX2 := Lib.hid (HX1q.out.below HB2.out)
 have hno : idxF (P.fr.map FrS.page) (nf.page : Int) = none := by
  rw [idxF_at, (findP_none P nf.page).2 HF.out.no]
  rfl
 have hpl : nf.page ≤ 4096 := by have := HX2.out.pi.fit; have := HX2.out.pi.d2; have := HF.out.pg; omega
 obtain ⟨w3, hput, hmq, hgr⟩ := HX2.out.mp.put (k := (nf.page : Int)) (v := (q.length : Int)) (by omega) (by omega) (by omega) (by omega) hno (by simp only [maxLen]; omega)
 have HMQ := Lib.hid hmq
 have HGR := Lib.hid hgr
 clear hno hmq hgr hB2 k8 k9
 refine wpAny_of_held (S := fun _ => True) _ _ _ _ ?_
 refine wpAnyH_ready (rs := [11]) (by kernel_rfl) (by simp) ?_
 refine AllReadyH.cons rfl (fun KK hK => ?_) AllReadyH.nil
 rw [if_pos (by rfl)]
 go_simp
 refine hK.out _ _ trivial (fun _ => ?_)
 clear hK KK
 try simp only [List.setIfInBounds_toArray, List.set_cons_zero, List.set_cons_succ]
 refine wpAnyH_done (by kernel_rfl) ?_ _
 clear hput
 have HPB3 : Hid (PB w3 gp gd wv false (.slice A q.length c) mb P) := Lib.hid (HX2.out.pb.off (Off.of_grown (S := (· = mb)) HGR.out (fun k e => by injection e with e; exact e.symm)) (fun e => HX2.out.mp.notCells HX2.out.pb e.symm))
 have HTK3 : Hid (EO EF 5 101 w3 b0 (.slice A q.length c) q) := Lib.hid (ownsRow_off HX2.out.tk (Off.of_grown (S := (· = mb)) HGR.out (fun k e => by injection e with e; exact e.symm)) (fun k hk e => by
  obtain ⟨cur, hc⟩ := own_blk HX2.out.tk hk
  exact HX2.out.mp.notCells hc e.symm))
 have HDV2 : Hid (DV w2 b0 gd F ok D (q ++ [(nf, fv)])) := Lib.hid ⟨HX2.out.dk, fun x hx => by
  rcases List.mem_append.1 hx with hx | hx
  ·exact HX2.out.pv x hx
  ·rw [List.mem_singleton.1 hx]
   exact HF.out.ow.below (HB1q.out.trans (HB2.out.mono HB1q.out.size))⟩
 have HDV3 : Hid (DV w3 b0 gd F ok D (q ++ [(nf, fv)])) := Lib.hid (HDV2.out.nb (Off.of_grown (S := (· = mb)) HGR.out (fun k e => by injection e with e; exact e.symm)) (fun k e => by rw [e]; exact HX2.out.mp.nb))
 have HFR3 : Hid (w3.heap[w.heap.size]? = some (.cells #[.int .i64 (nf.page : Int), fv, .int .i64 nf.lsn, .bool nf.dirty, .bool nf.used] 101 (0, 0))) := Lib.hid (by
  have h2 := (HB2.out.block _ (Array.getElem?_eq_some_iff.1 HFR.out).1).trans HFR.out
  exact (HGR.out.block _ (Array.getElem?_eq_some_iff.1 h2).1 (fun e => HX2.out.mp.notCells h2 (Option.some.inj e).symm)).trans h2)
 have k8 := Lib.hid HPB3.out.c8
 have kf : ∀ j u, #[Value.int .i64 (nf.page : Int), fv, .int .i64 nf.lsn, .bool nf.dirty, .bool nf.used][j]? = some u → w3.cell? ⟨w.heap.size, j, none⟩ = some u := fun j u hj => by rw [cell_of_row w3 _ j _ _ _ HFR3.out]; exact hj
 have kf0' := Lib.hid (kf 0 _ rfl)
 have kf1 := Lib.hid (kf 1 _ rfl)
 have kf2 := Lib.hid (kf 2 _ rfl)
 have kf3 := Lib.hid (kf 3 _ rfl)
 have kf4 := Lib.hid (kf 4 _ rfl)
 clear kf kf0
 obtain ⟨i1, z1, hi1, hz1, hzc, hsz, hby⟩ := info_frame
 go_upto_region 3 with fail
 refine wp_region_any (by kernel_rfl) ?_
 refine wpAny_take (i := 0) (v := (.pointer (some ⟨gp, 0, none⟩))) rfl (by kernel_rfl) (by kernel_rfl) (by kernel_rfl) (fun _ _ _ h => h) (Or.inl ⟨by rfl, fun _ => rfl⟩) ?_
 simp only [Act.put, List.getElem_toArray, List.getElem_cons_zero, List.setIfInBounds_toArray, List.set_cons_zero, List.set_cons_succ]
 refine' wpAny_to_tail (l0 := #[true, false, false, false, false, false, false, false, false, false, false]) (by kernel_rfl) (by kernel_rfl) (by kernel_rfl) (by kernel_rfl) (by kernel_rfl)
  [MP.is (.pointer (some ⟨gp, 0, none⟩)), MP.is (.pointer (some ⟨gp, 0, none⟩)), MP.is (.pointer (some ⟨gp, 0, none⟩)), MP.is (.pointer (some ⟨gp, 8, none⟩)), MP.is (.slice A q.length c), MP.is (.agg #[.int .i64 (nf.page : Int), fv, .int .i64 nf.lsn, .bool nf.dirty, .bool nf.used]), MP.rw [.int .i64 (nf.page : Int), fv, .int .i64 nf.lsn, .bool nf.dirty, .bool nf.used], MP.any, MP.is (.pointer (some ⟨gp, 0, none⟩)), MP.is (.pointer (some ⟨gp, 8, none⟩)), MP.any]
  (fun j => j == 7 || j == 8 || j == 9 || j == 10) #[true, true, true, true, true, true, true, false, false, false, false] rfl (by kernel_rfl) rfl (by kernel_rfl) (by kernel_rfl) (by kernel_rfl) (by kernel_rfl) (fun j => if j = 0 then (.pointer (some ⟨gp, 0, none⟩)) else undef) (by rfl) ?hR02 ?hAA2 ?hst2 ?hend2
 case hR02 =>
  intro j hj
  have hj2 : j ∈ [0] := hj
  simp only [List.mem_cons, List.not_mem_nil, or_false] at hj2
  rcases hj2 with rfl
  all_goals exact rfl
 case hAA2 =>
  intro f
  conv => lhs; simp only [putA, dstOf, List.size_toArray, List.length_cons, List.length_nil, Nat.zero_add, Nat.reduceAdd, List.getElem?_toArray, List.getElem?_cons_zero, List.getElem?_cons_succ, Option.bind_some, Act.put, List.setIfInBounds_toArray, List.set_cons_zero, List.set_cons_succ]
  first | done | exact rfl
 case hst2 =>
  refine Steps.of_list (l' := [1, 2, 3, 4, 5, 6]) (by kernel_rfl) ?_
  refine Steps.cons rfl ?_ ?_
  ·intro f wz hB h K Q hK
   clear h
   try rw [if_pos (by rfl)]
   go_simp
   exact hK _ _ (gr_refl _) rfl
  refine Steps.cons rfl ?_ ?_
  ·intro f wz hB h K Q hK
   have h1 : (MP.is (.pointer (some ⟨gp, 0, none⟩))).p (f 1) wz := h 1 (by kernel_rfl)
   have e1 : f 1 = (.pointer (some ⟨gp, 0, none⟩)) := h1
   simp only [e1] at hK ⊢
   clear e1
   clear h
   try rw [if_pos (by rfl)]
   go_simp
   exact hK _ _ (gr_refl _) rfl
  refine Steps.cons rfl ?_ ?_
  ·intro f wz hB h K Q hK
   have h2 : (MP.is (.pointer (some ⟨gp, 0, none⟩))).p (f 2) wz := h 2 (by kernel_rfl)
   have e2 : f 2 = (.pointer (some ⟨gp, 0, none⟩)) := h2
   simp only [e2] at hK ⊢
   clear e2
   clear h
   try rw [if_pos (by rfl)]
   go_simp
   exact hK _ _ (gr_refl _) rfl
  refine Steps.cons rfl ?_ ?_
  ·intro f wz hB h K Q hK
   have h3 : (MP.is (.pointer (some ⟨gp, 8, none⟩))).p (f 3) wz := h 3 (by kernel_rfl)
   have e3 : f 3 = (.pointer (some ⟨gp, 8, none⟩)) := h3
   simp only [e3] at hK ⊢
   clear e3
   clear h
   try rw [if_pos (by rfl)]
   have y0 := keep_of_below hB k8.out
   have y1 := keep_of_below hB kf0'.out
   have y2 := keep_of_below hB kf1.out
   have y3 := keep_of_below hB kf2.out
   have y4 := keep_of_below hB kf3.out
   have y5 := keep_of_below hB kf4.out
   go_simp
   exact hK _ _ (gr_refl _) rfl
  refine Steps.cons rfl ?_ ?_
  ·intro f wz hB h K Q hK
   clear h
   try rw [if_pos (by rfl)]
   have y0 := keep_of_below hB k8.out
   have y1 := keep_of_below hB kf0'.out
   have y2 := keep_of_below hB kf1.out
   have y3 := keep_of_below hB kf2.out
   have y4 := keep_of_below hB kf3.out
   have y5 := keep_of_below hB kf4.out
   go_simp
   exact hK _ _ (gr_refl _) rfl
  refine Steps.cons rfl ?_ ?_
  ·intro f wz hB h K Q hK
   have h5 : (MP.is (.agg #[.int .i64 (nf.page : Int), fv, .int .i64 nf.lsn, .bool nf.dirty, .bool nf.used])).p (f 5) wz := h 5 (by kernel_rfl)
   have e5 : f 5 = (.agg #[.int .i64 (nf.page : Int), fv, .int .i64 nf.lsn, .bool nf.dirty, .bool nf.used]) := h5
   simp only [e5] at hK ⊢
   clear e5
   clear h
   try rw [if_pos (by rfl)]
   go_simp
   have hbn := gr_alloc (gr_refl wz) (.cells #[.int .i64 (nf.page : Int), fv, .int .i64 nf.lsn, .bool nf.dirty, .bool nf.used] 101)
   exact hK _ _ hbn ⟨_, rfl, Rd.new wz _ #[.int .i64 (nf.page : Int), fv, .int .i64 nf.lsn, .bool nf.dirty, .bool nf.used] 1 5 rfl⟩
  exact Steps.nil
 intro f w5 hB5 hR
 conv => arg 7; simp only [putL, dstOf, List.size_toArray, List.length_cons, List.length_nil, Nat.zero_add, Nat.reduceAdd, List.getElem?_toArray, List.getElem?_cons_zero, List.getElem?_cons_succ, Option.bind_some, Act.put, List.setIfInBounds_toArray, List.set_cons_zero, List.set_cons_succ, Array.getD_eq_getD_getElem?, Option.getD_some, if_true, if_false, Bool.false_eq_true]
 have e0 : f 0 = (.pointer (some ⟨gp, 0, none⟩)) := hR 0 (by decide) rfl
 have e1 : f 1 = (.pointer (some ⟨gp, 0, none⟩)) := hR 1 (by decide) rfl
 have e2 : f 2 = (.pointer (some ⟨gp, 0, none⟩)) := hR 2 (by decide) rfl
 have e3 : f 3 = (.pointer (some ⟨gp, 8, none⟩)) := hR 3 (by decide) rfl
 have e4 : f 4 = (.slice A q.length c) := hR 4 (by decide) rfl
 have e5 : f 5 = (.agg #[.int .i64 (nf.page : Int), fv, .int .i64 nf.lsn, .bool nf.dirty, .bool nf.used]) := hR 5 (by decide) rfl
 obtain ⟨g65, e6, r65⟩ := (show (MP.rw [.int .i64 (nf.page : Int), fv, .int .i64 nf.lsn, .bool nf.dirty, .bool nf.used]).p (f 6) w5 from hR 6 (by decide) rfl)
 simp only [e0, e1, e2, e3, e4, e5, e6]
 clear e0 e1 e2 e3 e4 e5 e6 hR
 have HB5 : Hid (Below w3.heap.size w3 w5) := Lib.hid (Below.trans (gr_drewN (gr_refl w3) 1) hB5)
 have HPB5 := Lib.hid (HPB3.out.below HB5.out)
 have HTK5 := Lib.hid (EO.below HTK3.out HB5.out)
 have HDV5 := Lib.hid (HDV3.out.below HB5.out)
 have HMQ5 := Lib.hid (HMQ.out.below HB5.out)
 have HBS5 : Hid (b0 ≤ w5.heap.size) := Lib.hid (Nat.le_trans hbs (Nat.le_trans (Nat.le_trans (Nat.le_trans HB1q.out.size HB2.out.size) HGR.out.size) HB5.out.size))
 have hown := HTK5.out
 have hone : ∀ u ∈ [Value.int .i64 (nf.page : Int), fv, .int .i64 nf.lsn, .bool nf.dirty, .bool nf.used], u.oneCell' = true := by
  obtain ⟨A', c', e', _⟩ := HF.out.ow.form
  intro u hu
  simp only [List.mem_cons, List.not_mem_nil, or_false] at hu
  rcases hu with rfl | rfl | rfl | rfl | rfl
  ·rfl
  ·rw [e']; rfl
  ·rfl
  ·rfl
  ·rfl
 unfold EO at hown
 have hql : q.length ≤ 256 := by omega
 clear hB5 k8 kf0' kf1 kf2 kf3 kf4
 refine wpAny_of_held (S := fun _ => True) _ _ _ _ ?_
 refine wpAnyH_ready (rs := [7]) (by kernel_rfl) (by simp) ?_
 refine AllReadyH.cons rfl (fun KK hK => ?_) AllReadyH.nil
 rw [if_pos (by rfl)]
 refine wp_append_Rd _ (.tmp 32) (.tmp 34) _ rfl b0 101 i1 z1 5 48 Tryz.underlying68 hi1 hz1 hsz hby hzc (.slice A q.length c) q.length (q.flatMap EF) rfl hown (some ⟨g65, 0, none⟩) 1 1 [.int .i64 (nf.page : Int), fv, .int .i64 nf.lsn, .bool nf.dirty, .bool nf.used] rfl r65 hone (by omega) (by simp only [maxLen]; omega) HBS5.out ?_
 intro v8 w8 ho8 hg8 _ hd8
 obtain ⟨A8, c8, rfl, _, _⟩ := own_form ho8
 have HO8 := Lib.hid ho8
 have HG8 := Lib.hid hg8
 have HD8 := Lib.hid hd8
 have HPB8 : Hid (PB w8 gp gd wv false (.slice A q.length c) mb P) := Lib.hid (HPB5.out.off (Off.of_grown (S := fun k => (Value.slice A q.length c).ownBlock = some k) hg8 (fun k e => e)) (fun e => by obtain ⟨cur, hc⟩ := own_blk HTK5.out e; exact cells_ne HPB5.out hc (by decide)))
 have z8 := HPB8.out.frozen 8
 have y8 := HPB8.out.c8
 clear ho8 hg8 hd8 hown
 refine hK.out _ _ trivial (fun _ => ?_)
 clear hK KK
 try simp only [Act.put, List.setIfInBounds_toArray, List.set_cons_zero, List.set_cons_succ]
 refine wpAnyH_ready (rs := [8]) (by kernel_rfl) (by simp) ?_
 refine AllReadyH.cons rfl (fun KK hK => ?_) AllReadyH.nil
 go_simp
 refine hK.out _ _ trivial (fun _ => ?_)
 clear hK KK
 try simp only [List.setIfInBounds_toArray, List.set_cons_zero, List.set_cons_succ]
 refine wpAnyH_ready (rs := [9]) (by kernel_rfl) (by simp) ?_
 refine AllReadyH.cons rfl (fun KK hK => ?_) AllReadyH.nil
 go_simp
 refine hK.out _ _ trivial (fun _ => ?_)
 clear hK KK
 try simp only [List.setIfInBounds_toArray, List.set_cons_zero, List.set_cons_succ]
 refine wpAnyH_ready (rs := [10]) (by kernel_rfl) (by simp) ?_
 refine AllReadyH.cons rfl (fun KK hK => ?_) AllReadyH.nil
 go_simp
 refine hK.out _ _ trivial (fun _ => ?_)
 clear hK KK
 try simp only [List.setIfInBounds_toArray, List.set_cons_zero, List.set_cons_succ]
 refine wpAnyH_done (by kernel_rfl) ?_ _
 go_wp2_with fail
 go_ret
 have o23 : Off (· = mb) w2 w3 := Off.of_grown HGR.out (fun k e => by injection e with e; exact e.symm)
 have o58 : Off (fun k => (Value.slice A q.length c).ownBlock = some k) w5 w8 := Off.of_grown HG8.out (fun k e => e)
 have o89 : Off (· = gp) w8 (w8.setCell ⟨gp, 8, none⟩ (.slice A8 (q.length + 1) c8)) := (Off.refl _ w8).setCell _ rfl
 have hdv := (HDV5.out.nb o58 (fun k e => EO.nb HTK5.out e)).nb o89 (fun k e => by rw [e]; exact HPB8.out.nb)
 have hmq8 := HMQ5.out.off o58 (fun e => by obtain ⟨cur, hc⟩ := own_blk HTK5.out e; exact HMQ5.out.notCells hc rfl)
 have hmq9 := hmq8.off o89 (hmq8.notCells HPB8.out)
 have htk9 : EO EF 5 101 (w8.setCell ⟨gp, 8, none⟩ (.slice A8 (q.length + 1) c8)) b0 (.slice A8 (q.length + 1) c8) (q ++ [(nf, fv)]) := ownsRow_off (EO.snoc (x := (nf, fv)) HO8.out rfl) o89 (fun k e e2 => by
  obtain ⟨cur, hc⟩ := own_blk HO8.out e
  subst e2
  exact cells_ne HPB8.out hc (by decide))
 have hpi := HX.out.pi.push hr HF.out.pg HF.out.len HF.out.l1 HF.out.l2 HF.out.no
 refine ⟨rfl, F, ok, .slice A8 (q.length + 1) c8, mb, q ++ [(nf, fv)], ⟨hdv.1, HPB8.out.s8 _, htk9, ?_, hdv.2, ?_, hpi, HX.out.bp, HX.out.bm, fun k e => Nat.lt_of_lt_of_le (HX.out.os k e) (Nat.le_trans (Nat.le_trans (Nat.le_trans (Nat.le_trans (Nat.le_trans HB1q.out.size HB2.out.size) HGR.out.size) HB5.out.size) HG8.out.size) o89.size)⟩, ?_, fun k e => ?_⟩
 ·rw [List.map_append, HX.out.qf]
  rfl
 ·have e := idxF_push HX.out.pi.nd HF.out.no
  rw [List.length_map, hlen] at e
  rw [e] at hmq9
  show MQ _ mb (P.fr ++ [nf]).length (idxF ((P.fr ++ [nf]).map FrS.page))
  rw [List.length_append, List.map_append]
  exact hmq9
 ·refine (Off.of_below HB1q.out).trans ((Off.of_below HB2.out).trans ((o23.mono fun k _ e => .inr (.inr (.inr (.inl e)))).trans ((Off.of_below HB5.out).trans ((o58.mono fun k _ e => .inr (.inr (.inr (.inr (.inl e))))).trans (o89.mono fun k _ e => .inr (.inr (.inl e)))))))
 ·rcases e with e | e | e | e | e | ⟨x, hx, e⟩
  ·exact .inl (.inl e)
  ·exact .inl (.inr (.inl e))
  ·exact .inl (.inr (.inr (.inl e)))
  ·exact .inl (.inr (.inr (.inr (.inl e))))
  ·rcases HD8.out with h8 | ⟨h8, _⟩
   ·exact .inl (.inr (.inr (.inr (.inr (.inl (h8 ▸ e))))))
   ·rw [h8] at e
    injection e with e
    subst e
    exact .inr (.inr (Nat.le_trans (Nat.le_trans (Nat.le_trans HB1q.out.size HB2.out.size) HGR.out.size) HB5.out.size))
  ·rcases List.mem_append.1 hx with hx | hx
   ·exact .inl (.inr (.inr (.inr (.inr (.inr ⟨x, hx, e⟩)))))
   ·rw [List.mem_singleton.1 hx] at e
    exact .inr (.inl e)
end Go.Proofs.YtmdgnjmhbjdlmaaGreat

/-! PoE -/
namespace Go.Proofs.YtmdgnjmhbjdlmaaGreat
open Go Go.RowKit Go.Maps
def usedW (w : World) (tb n : Nat) : Nat := (List.range n).countP fun i => match w.cell? ⟨tb, i * 5 + 4, none⟩ with
 | some (.bool b) => b
 | _ => false
theorem countP_range {α : Type} (p : α → Bool) (d : α) : ∀ (l : List α), (List.range l.length).countP (fun i => p (l.getD i d)) = l.countP p
 | [] => rfl
 | x :: l => by
  rw [List.length_cons, List.range_succ_eq_map, List.countP_cons, List.countP_cons, List.countP_map, ← countP_range p d l]
  rfl
theorem PS.snd {gp mb k : Nat} {F ok : Nat → Prop} {tv : Value} {q q' : List FV} (hq : q'.map Prod.snd = q.map Prod.snd) (h : PS gp F ok tv mb q' k) : PS gp F ok tv mb q k := by
 rcases h with h | h | h | h | h | ⟨x, hx, h⟩
 ·exact .inl h
 ·exact .inr (.inl h)
 ·exact .inr (.inr (.inl h))
 ·exact .inr (.inr (.inr (.inl h)))
 ·exact .inr (.inr (.inr (.inr (.inl h))))
 ·have : x.2 ∈ q.map Prod.snd := hq ▸ List.mem_map_of_mem hx
  obtain ⟨y, hy, e⟩ := List.mem_map.1 this
  exact .inr (.inr (.inr (.inr (.inr ⟨y, hy, by rw [e]; exact h⟩))))
section
variable {w w' : World} {b0 gp gd mb tb tc i : Nat} {wv : Value} {D : DiskS} {P : PoS} {F ok : Nat → Prop} {q : List FV}
theorem PX.usedW (h : PX w b0 gp gd wv D P F ok (.slice (some ⟨tb, 0, none⟩) q.length tc) mb q) : usedW w tb q.length = usedN P.fr := by
 unfold Go.Proofs.YtmdgnjmhbjdlmaaGreat.usedW usedN
 rw [← countP_range (fun f => f.used) fr0 P.fr, ← h.qf, List.length_map]
 refine List.countP_congr fun i hi => ?_
 have hi2 : i < q.length := List.mem_range.1 hi
 have hq : q[i]? = some q[i] := List.getElem?_eq_getElem hi2
 rw [(fr_cells h.tk hq).2.2.2.2, List.getD_eq_getElem?_getD, List.getElem?_map, hq]
 rfl
theorem usedN_set {fr : List FrS} {h : Nat} (hh : h < fr.length) (hu : (fr.getD h fr0).used = true) : usedN (fr.set h { fr.getD h fr0 with used := false }) + 1 = usedN fr := by
 unfold usedN
 have e : fr.getD h fr0 = fr[h] := by rw [List.getD_eq_getElem?_getD, List.getElem?_eq_getElem hh]; rfl
 rw [e] at hu ⊢
 rw [List.countP_set hh]
 have hpos : 0 < fr.countP (fun f => f.used) := List.countP_pos_iff.2 ⟨_, List.getElem_mem hh, hu⟩
 rw [if_pos hu, if_neg (by simp)]
 omega
theorem spin_step {m : Nat} {fr : List FrS} {h : Nat} (hh : h < fr.length) (hu : (fr.getD h fr0).used = true) : spinF m (usedN fr) fr h = spinF m (usedN (fr.set h { fr.getD h fr0 with used := false })) (fr.set h { fr.getD h fr0 with used := false }) ((h + 1) % m) := by
 have := usedN_set hh hu
 rw [← this]
 show spinF m (usedN _ + 1) fr h = _
 rw [spinF, if_pos hu]
theorem spin_stop {m : Nat} {fr : List FrS} {h : Nat} (hu : (fr.getD h fr0).used = false) : spinF m (usedN fr) fr h = (fr, h) := by
 cases usedN fr with
 | zero => rfl
 | succ k => rw [spinF, if_neg (by rw [hu]; decide)]
theorem PX.mark (h : PX w b0 gp gd wv D P F ok (.slice (some ⟨tb, 0, none⟩) q.length tc) mb q) {p : FV} (hi : q[i]? = some p) (u : Bool) :
  PX (w.setCell ⟨tb, i * 5 + 4, none⟩ (.bool u)) b0 gp gd wv D { P with fr := P.fr.set i { P.fr.getD i fr0 with used := u } } F ok (.slice (some ⟨tb, 0, none⟩) q.length tc) mb (q.set i ({ p.1 with used := u }, p.2)) := by
 have hil := (List.getElem?_eq_some_iff.1 hi).1
 have hlen : P.fr.length = q.length := by rw [← h.qf, List.length_map]
 have hpf : P.fr.getD i fr0 = p.1 := by
  rw [← h.qf, List.getD_eq_getElem?_getD, List.getElem?_map, hi]
  rfl
 have ho : Off (· = tb) w (w.setCell ⟨tb, i * 5 + 4, none⟩ (.bool u)) := (Off.refl _ w).setCell _ rfl
 have hpi := h.pi.use (i := i) (by omega) u (P.fr.getD i fr0).dirty
 have hx := h.frame hi (p' := ({ p.1 with used := u }, p.2)) rfl ho (fr_set4 h.tk hi u) ((h.pv p (List.mem_of_getElem? hi)).off ho (fun k e e2 => by
  subst e2
  obtain ⟨cur, hc⟩ := own_blk (h.pv p (List.mem_of_getElem? hi)) e
  obtain ⟨cur2, hc2⟩ := own_blk h.tk rfl
  exact cells_ne hc hc2 (by decide))) (by rw [hpf] at hpi; exact hpi)
 rw [hpf]
 exact hx
theorem PX.handed (h : PX w b0 gp gd wv D P F ok (.slice (some ⟨tb, 0, none⟩) q.length tc) mb q) {n : Nat} (hn : n < P.most) :
  PX (w.setCell ⟨gp, 10, none⟩ (.int .i64 (n : Int))) b0 gp gd wv D { P with hand := n } F ok (.slice (some ⟨tb, 0, none⟩) q.length tc) mb q :=
 h.own (P' := { P with hand := n }) ((Off.refl _ w).setCell _ rfl) (h.pb.s10 n) rfl (h.pi.alike (Alike.refl _) hn)
end
set_option maxRecDepth 100000 in
set_option maxHeartbeats 8000000 in
theorem phold_full {w : World} {b0 gp gd mb : Nat} {wv tv : Value} {D : DiskS} {P : PoS} {F ok : Nat → Prop} {q : List FV} {L : Option Int} (X : PX w b0 gp gd wv D P F ok tv mb q) (hl : LogV w wv L (PS gp F ok tv mb q)) (nf : FrS) (Av : Option Addr) (cv : Nat) (hf : NewF w b0 P nf (.slice Av 4080 cv)) (hdj : ∀ k, (Value.slice Av 4080 cv).ownBlock = some k → ¬ PS gp F ok tv mb q k) (hr : ¬ P.fr.length < P.most) (hpd : D.pending.length ≤ 900000) (hct : P.count ≤ 1152921504606846976) :
  Calls Tryz.prog 54 #[.pointer (some ⟨gp, 0, none⟩), .agg #[.int .i64 (nf.page : Int), .slice Av 4080 cv, .int .i64 nf.lsn, .bool nf.dirty, .bool nf.used]] w fun e w' => e = .returned (.int .i64 (holdR L D P nf).2.2) ∧ PStepV w b0 gp gd wv (PS gp F ok tv mb q) (.slice Av 4080 cv) (holdR L D P nf).1 (holdR L D P nf).2.1 w' := by
 have hlen : P.fr.length = q.length := by rw [← X.qf, List.length_map]
 have hmost := X.pi.m2
 have hm1 := X.pi.m1
 have hle := X.pi.len
 have hmq : q.length = P.most := by omega
 obtain ⟨tb, c, rfl, t1, t2, hA1, hA2⟩ := X.tk.block (by omega)
 have hb1 : Below w.heap.size w (w.alloc (.cells #[.int .i64 (nf.page : Int), .slice Av 4080 cv, .int .i64 nf.lsn, .bool nf.dirty, .bool nf.used] 101)) := gr_alloc (gr_refl w) _
 have HX := Lib.hid X
 have HX1 := Lib.hid (X.below hb1)
 have HF := Lib.hid hf
 have HDJ := Lib.hid hdj
 have HL := Lib.hid hl
 have HB1 := Lib.hid hb1
 have c8 := HX1.out.pb.c8
 have c4 := HX1.out.pb.c4
 have t1 : decide (q.length < P.most) = false := decide_eq_false (by omega)
 have t2 : decide ((q.length : Int) < (P.most : Int)) = false := decide_eq_false (by omega)
 have HMQ := Lib.hid hmq
 have hql : q.length ≤ 256 := by omega
 clear X hf hdj hb1 hl hmq hlen
 go_enter Tryz.func54, Tryz.ntmps54
 go_wp2_with (go_quiet (fail))
 have HX1q : Hid (PX ((w.alloc (.cells #[.int .i64 (nf.page : Int), .slice Av 4080 cv, .int .i64 nf.lsn, .bool nf.dirty, .bool nf.used] 101)).drewN nq) b0 gp gd wv D P F ok (.slice (some ⟨tb, 0, none⟩) q.length c) mb q) := Lib.hid (HX1.out.below (gr_drewN (gr_refl _) nq))
 have HB1q : Hid (Below w.heap.size w ((w.alloc (.cells #[.int .i64 (nf.page : Int), .slice Av 4080 cv, .int .i64 nf.lsn, .bool nf.dirty, .bool nf.used] 101)).drewN nq)) := Lib.hid (gr_drewN HB1.out nq)
 have HFR : Hid (((w.alloc (.cells #[.int .i64 (nf.page : Int), .slice Av 4080 cv, .int .i64 nf.lsn, .bool nf.dirty, .bool nf.used] 101)).drewN nq).heap[w.heap.size]? = some (.cells #[.int .i64 (nf.page : Int), .slice Av 4080 cv, .int .i64 nf.lsn, .bool nf.dirty, .bool nf.used] 101 (0, 0))) := Lib.hid (heap_alloc_new w _)
 generalize ((w.alloc (.cells #[.int .i64 (nf.page : Int), .slice Av 4080 cv, .int .i64 nf.lsn, .bool nf.dirty, .bool nf.used] 101)).drewN nq) = w1 at *
 clear c8 c4 HX1 HB1
 have HTB : Hid (tb < w.heap.size ∧ gp < w.heap.size ∧ mb < w.heap.size) := Lib.hid ⟨by omega, HX.out.pb.lt, HX.out.mp.lt⟩
 go_loopw [] (fun wr => ∃ (fr : List FrS) (hd : Nat) (q' : List FV), Hid (PX wr b0 gp gd wv D { P with fr := fr, hand := hd } F ok (.slice (some ⟨tb, 0, none⟩) q.length c) mb q') ∧ Hid (spinF P.most (usedN fr) fr hd = spinF P.most (usedN P.fr) P.fr P.hand) ∧ Hid (q'.map Prod.snd = q.map Prod.snd) ∧ Hid (Off (fun k => k = gp ∨ k = tb) w1 wr)) (fun wr => usedW wr tb q.length)
 case atStart => exact ⟨P.fr, P.hand, q, HX1q, Lib.hid rfl, Lib.hid rfl, Lib.hid (Off.refl _ _)⟩
 case round =>
  obtain ⟨fr, hd, q', HXr, HSP, HQ2, HO⟩ := hrel
  have HL2 : Hid (q'.length = q.length) := Lib.hid (by have := congrArg List.length HQ2.out; simpa using this)
  have hfl : fr.length = q'.length := by have := congrArg List.length HXr.out.qf; simpa using this.symm
  have hhd : hd < q.length := by have := HXr.out.pi.hd; have := HMQ.out; dsimp only at *; omega
  obtain ⟨p, hp⟩ : ∃ p, q'[hd]? = some p := ⟨_, List.getElem?_eq_getElem (by rw [HL2.out]; exact hhd)⟩
  have HP := Lib.hid hp
  have hpf : fr.getD hd fr0 = p.1 := by
   have := HXr.out.qf
   dsimp only at this
   rw [← this, List.getD_eq_getElem?_getD, List.getElem?_map, hp]
   rfl
  have HPF := Lib.hid hpf
  have c8 := HXr.out.pb.c8
  have c4 := HXr.out.pb.c4
  have c10 := HXr.out.pb.c10
  dsimp only at c4 c10
  have hXr2 : EO EF 5 101 wr b0 (.slice (some ⟨tb, 0, none⟩) q'.length c) q' := by rw [HL2.out]; exact HXr.out.tk
  have f4 := (fr_cells HXr.out.tk hp).2.2.2.2
  have i0 : (0 : Int) ≤ (hd : Int) := Int.natCast_nonneg _
  have i1 : (hd : Int) < (q.length : Int) := by omega
  have HFL := Lib.hid hfl
  have f3 := (fr_cells HXr.out.tk HP.out).2.2.2.1
  clear hp hpf hfl hXr2
  cases hu : p.1.used with
  | true =>
   rw [hu] at f4
   have HU : Hid ((fr.getD hd fr0).used = true) := Lib.hid (by rw [HPF.out]; exact hu)
   clear hu f3
   go_upto_region 6 with (go_quiet (fail))
   have HXd := Lib.hid (HXr.out.below (gr_drewN (gr_refl wr) nq))
   have HOd : Hid (Off (fun k => k = gp ∨ k = tb) w1 (wr.drewN nq)) := Lib.hid (HO.out.drewN nq)
   have HMW : Hid (usedW wr tb q.length = usedN fr) := Lib.hid (by
    have hx := HXr.out
    rw [← HL2.out] at hx
    rw [← HL2.out]
    exact hx.usedW)
   generalize (wr.drewN nq) = wd at *
   have k8 := Lib.hid HXd.out.pb.c8
   have k10 : Hid (wd.cell? ⟨gp, 10, none⟩ = some (.int .i64 (hd : Int))) := Lib.hid HXd.out.pb.c10
   clear c8 c4 c10 f4
   refine wp_region_any (by kernel_rfl) ?_
   refine' wpAny_to_tail (l0 := #[false, false, false, false, false, false, false, false, false, false, false]) (by kernel_rfl) (by kernel_rfl) (by kernel_rfl) (by kernel_rfl) (by kernel_rfl)
    [MP.is (.pointer (some ⟨gp, 0, none⟩)), MP.is (.pointer (some ⟨gp, 0, none⟩)), MP.is (.pointer (some ⟨gp, 8, none⟩)), MP.is (.slice (some ⟨tb, 0, none⟩) q.length c), MP.is (.pointer (some ⟨gp, 0, none⟩)), MP.is (.pointer (some ⟨gp, 0, none⟩)), MP.is (.pointer (some ⟨gp, 10, none⟩)), MP.is (.int .i64 (hd : Int)), MP.is (.pointer (some ⟨tb, hd * 5, none⟩)), MP.is (.pointer (some ⟨tb, hd * 5 + 4, none⟩)), MP.any]
    (fun j => j == 10) #[true, true, true, true, true, true, true, true, true, true, false] rfl (by kernel_rfl) rfl (by kernel_rfl) (by kernel_rfl) (by kernel_rfl) (by kernel_rfl) (fun _ => undef) (by rfl) ?hR01 ?hAA1 ?hst1 ?hend1
   case hR01 =>
    intro j hj
    have hj2 : j ∈ [] := hj
    cases hj2
   case hAA1 =>
    intro f
    conv => lhs; simp only [putA, dstOf, List.size_toArray, List.length_cons, List.length_nil, Nat.zero_add, Nat.reduceAdd, List.getElem?_toArray, List.getElem?_cons_zero, List.getElem?_cons_succ, Option.bind_some, Act.put, List.setIfInBounds_toArray, List.set_cons_zero, List.set_cons_succ]
    first | done | exact rfl
   case hst1 =>
    refine Steps.of_list (l' := [0, 1, 2, 3, 4, 5, 6, 7, 8, 9]) (by kernel_rfl) ?_
    refine Steps.cons rfl ?_ ?_
    ·intro f wz hB h K Q hK
     clear h
     try simp only [List.getElem_toArray, List.getElem_cons_zero]
     try rw [if_pos (by rfl)]
     go_simp
     exact hK _ _ (gr_refl _) rfl
    refine Steps.cons rfl ?_ ?_
    ·intro f wz hB h K Q hK
     have h0 : (MP.is (.pointer (some ⟨gp, 0, none⟩))).p (f 0) wz := h 0 (by kernel_rfl)
     have e0 : f 0 = (.pointer (some ⟨gp, 0, none⟩)) := h0
     simp only [e0] at hK ⊢
     clear e0
     clear h
     try rw [if_pos (by rfl)]
     go_simp
     exact hK _ _ (gr_refl _) rfl
    refine Steps.cons rfl ?_ ?_
    ·intro f wz hB h K Q hK
     have h1 : (MP.is (.pointer (some ⟨gp, 0, none⟩))).p (f 1) wz := h 1 (by kernel_rfl)
     have e1 : f 1 = (.pointer (some ⟨gp, 0, none⟩)) := h1
     simp only [e1] at hK ⊢
     clear e1
     clear h
     try rw [if_pos (by rfl)]
     go_simp
     exact hK _ _ (gr_refl _) rfl
    refine Steps.cons rfl ?_ ?_
    ·intro f wz hB h K Q hK
     have h2 : (MP.is (.pointer (some ⟨gp, 8, none⟩))).p (f 2) wz := h 2 (by kernel_rfl)
     have e2 : f 2 = (.pointer (some ⟨gp, 8, none⟩)) := h2
     simp only [e2] at hK ⊢
     clear e2
     clear h
     try rw [if_pos (by rfl)]
     have y0 := keep_of_below hB k8.out
     have y1 := keep_of_below hB k10.out
     go_simp
     exact hK _ _ (gr_refl _) rfl
    refine Steps.cons rfl ?_ ?_
    ·intro f wz hB h K Q hK
     clear h
     try rw [if_pos (by rfl)]
     go_simp
     exact hK _ _ (gr_refl _) rfl
    refine Steps.cons rfl ?_ ?_
    ·intro f wz hB h K Q hK
     have h4 : (MP.is (.pointer (some ⟨gp, 0, none⟩))).p (f 4) wz := h 4 (by kernel_rfl)
     have e4 : f 4 = (.pointer (some ⟨gp, 0, none⟩)) := h4
     simp only [e4] at hK ⊢
     clear e4
     clear h
     try rw [if_pos (by rfl)]
     go_simp
     exact hK _ _ (gr_refl _) rfl
    refine Steps.cons rfl ?_ ?_
    ·intro f wz hB h K Q hK
     have h5 : (MP.is (.pointer (some ⟨gp, 0, none⟩))).p (f 5) wz := h 5 (by kernel_rfl)
     have e5 : f 5 = (.pointer (some ⟨gp, 0, none⟩)) := h5
     simp only [e5] at hK ⊢
     clear e5
     clear h
     try rw [if_pos (by rfl)]
     go_simp
     exact hK _ _ (gr_refl _) rfl
    refine Steps.cons rfl ?_ ?_
    ·intro f wz hB h K Q hK
     have h6 : (MP.is (.pointer (some ⟨gp, 10, none⟩))).p (f 6) wz := h 6 (by kernel_rfl)
     have e6 : f 6 = (.pointer (some ⟨gp, 10, none⟩)) := h6
     simp only [e6] at hK ⊢
     clear e6
     clear h
     try rw [if_pos (by rfl)]
     have y0 := keep_of_below hB k8.out
     have y1 := keep_of_below hB k10.out
     go_simp
     exact hK _ _ (gr_refl _) rfl
    refine Steps.cons rfl ?_ ?_
    ·intro f wz hB h K Q hK
     have h3 : (MP.is (.slice (some ⟨tb, 0, none⟩) q.length c)).p (f 3) wz := h 3 (by kernel_rfl)
     have e3 : f 3 = (.slice (some ⟨tb, 0, none⟩) q.length c) := h3
     have h7 : (MP.is (.int .i64 (hd : Int))).p (f 7) wz := h 7 (by kernel_rfl)
     have e7 : f 7 = (.int .i64 (hd : Int)) := h7
     simp only [e3, e7] at hK ⊢
     clear e3 e7
     clear h
     try rw [if_pos (by rfl)]
     go_simp
     exact hK _ _ (gr_refl _) rfl
    refine Steps.cons rfl ?_ ?_
    ·intro f wz hB h K Q hK
     have h8 : (MP.is (.pointer (some ⟨tb, hd * 5, none⟩))).p (f 8) wz := h 8 (by kernel_rfl)
     have e8 : f 8 = (.pointer (some ⟨tb, hd * 5, none⟩)) := h8
     simp only [e8] at hK ⊢
     clear e8
     clear h
     try rw [if_pos (by rfl)]
     go_simp
     exact hK _ _ (gr_refl _) rfl
    exact Steps.nil
   intro f w2 hB2 hR
   conv => arg 7; simp only [putL, dstOf, List.size_toArray, List.length_cons, List.length_nil, Nat.zero_add, Nat.reduceAdd, List.getElem?_toArray, List.getElem?_cons_zero, List.getElem?_cons_succ, Option.bind_some, Act.put, List.setIfInBounds_toArray, List.set_cons_zero, List.set_cons_succ, Array.getD_eq_getD_getElem?, Option.getD_some, if_true, if_false, Bool.false_eq_true]
   have e0 : f 0 = (.pointer (some ⟨gp, 0, none⟩)) := hR 0 (by decide) rfl
   have e1 : f 1 = (.pointer (some ⟨gp, 0, none⟩)) := hR 1 (by decide) rfl
   have e2 : f 2 = (.pointer (some ⟨gp, 8, none⟩)) := hR 2 (by decide) rfl
   have e3 : f 3 = (.slice (some ⟨tb, 0, none⟩) q.length c) := hR 3 (by decide) rfl
   have e4 : f 4 = (.pointer (some ⟨gp, 0, none⟩)) := hR 4 (by decide) rfl
   have e5 : f 5 = (.pointer (some ⟨gp, 0, none⟩)) := hR 5 (by decide) rfl
   have e6 : f 6 = (.pointer (some ⟨gp, 10, none⟩)) := hR 6 (by decide) rfl
   have e7 : f 7 = (.int .i64 (hd : Int)) := hR 7 (by decide) rfl
   have e8 : f 8 = (.pointer (some ⟨tb, hd * 5, none⟩)) := hR 8 (by decide) rfl
   have e9 : f 9 = (.pointer (some ⟨tb, hd * 5 + 4, none⟩)) := hR 9 (by decide) rfl
   simp only [e0, e1, e2, e3, e4, e5, e6, e7, e8, e9]
   clear e0 e1 e2 e3 e4 e5 e6 e7 e8 e9 hR
   have HX2 : Hid (PX w2 b0 gp gd wv D { P with fr := fr, hand := hd } F ok (.slice (some ⟨tb, 0, none⟩) q.length c) mb q') := Lib.hid (HXd.out.below (Below.trans (gr_drewN (gr_refl wd) 1) hB2))
   have HO2 : Hid (Off (fun k => k = gp ∨ k = tb) w1 w2) := Lib.hid (HOd.out.trans (Off.of_below (Below.trans (gr_drewN (gr_refl wd) 1) hB2)))
   have z4 := own_frz HX2.out.tk (hd * 5 + 4)
   have y4 := (fr_cells HX2.out.tk HP.out).2.2.2.2
   have hx3 : PX (w2.setCell ⟨tb, hd * 5 + 4, none⟩ (.bool false)) b0 gp gd wv D { P with fr := fr.set hd { fr.getD hd fr0 with used := false }, hand := hd } F ok (.slice (some ⟨tb, 0, none⟩) q.length c) mb (q'.set hd ({ p.1 with used := false }, p.2)) := by
    have hx := HX2.out
    rw [← HL2.out] at hx ⊢
    exact hx.mark HP.out false
   have HX3 := Lib.hid hx3
   have HO3 : Hid (Off (fun k => k = gp ∨ k = tb) w1 (w2.setCell ⟨tb, hd * 5 + 4, none⟩ (.bool false))) := Lib.hid (HO2.out.setCell _ (.inr rfl))
   clear hx3 hB2 k8 k10 HXd HOd
   refine wpAny_of_held (S := fun _ => True) _ _ _ _ ?_
   refine wpAnyH_ready (rs := [10]) (by kernel_rfl) (by simp) ?_
   refine AllReadyH.cons rfl (fun KK hK => ?_) AllReadyH.nil
   rw [if_pos (by rfl)]
   go_simp
   refine hK.out _ _ trivial (fun _ => ?_)
   clear hK KK
   try simp only [List.setIfInBounds_toArray, List.set_cons_zero, List.set_cons_succ]
   refine wpAnyH_done (by kernel_rfl) ?_ _
   clear z4 y4
   generalize (w2.setCell ⟨tb, hd * 5 + 4, none⟩ (.bool false)) = w3 at *
   have k4 : Hid (w3.cell? ⟨gp, 4, none⟩ = some (.int .i64 (P.most : Int))) := Lib.hid HX3.out.pb.c4
   have k10 : Hid (w3.cell? ⟨gp, 10, none⟩ = some (.int .i64 (hd : Int))) := Lib.hid HX3.out.pb.c10
   have hwp : IntKind.i64.wrap ((hd : Int) + 1) = (hd : Int) + 1 := by rw [IntKind.wrap_i64]; omega
   have hm0 : ¬ P.most = 0 := by omega
   obtain ⟨nx, hnx⟩ : ∃ nx, nx = (hd + 1) % P.most := ⟨_, rfl⟩
   have hrem : ((hd : Int) + 1).tmod (P.most : Int) = (nx : Int) := by
    rw [Int.tmod_eq_emod_of_nonneg (by omega), hnx, Int.natCast_emod, Int.natCast_add]
    rfl
   have HNX := Lib.hid hnx
   have hnl : nx < P.most := by rw [hnx]; exact Nat.mod_lt _ (by omega)
   have hwn : IntKind.i64.wrap (nx : Int) = (nx : Int) := by rw [IntKind.wrap_i64]; omega
   clear hnx
   go_upto_region 7 with fail
   refine wp_region_any (by kernel_rfl) ?_
   refine' wpAny_to_tail (l0 := #[false, false, false, false, false, false, false, false, false, false, false, false, false, false]) (by kernel_rfl) (by kernel_rfl) (by kernel_rfl) (by kernel_rfl) (by kernel_rfl)
    [MP.is (.pointer (some ⟨gp, 0, none⟩)), MP.is (.pointer (some ⟨gp, 0, none⟩)), MP.is (.pointer (some ⟨gp, 0, none⟩)), MP.is (.pointer (some ⟨gp, 10, none⟩)), MP.is (.int .i64 (hd : Int)), MP.is (.int .i64 ((hd : Int) + 1)), MP.is (.pointer (some ⟨gp, 0, none⟩)), MP.is (.pointer (some ⟨gp, 0, none⟩)), MP.is (.pointer (some ⟨gp, 4, none⟩)), MP.is (.int .i64 (P.most : Int)), MP.is (.int .i64 (nx : Int)), MP.is (.pointer (some ⟨gp, 0, none⟩)), MP.is (.pointer (some ⟨gp, 10, none⟩)), MP.any]
    (fun j => j == 13) #[true, true, true, true, true, true, true, true, true, true, true, true, true, false] rfl (by kernel_rfl) rfl (by kernel_rfl) (by kernel_rfl) (by kernel_rfl) (by kernel_rfl) (fun _ => undef) (by rfl) ?hR02 ?hAA2 ?hst2 ?hend2
   case hR02 =>
    intro j hj
    have hj2 : j ∈ [] := hj
    cases hj2
   case hAA2 =>
    intro f
    conv => lhs; simp only [putA, dstOf, List.size_toArray, List.length_cons, List.length_nil, Nat.zero_add, Nat.reduceAdd, List.getElem?_toArray, List.getElem?_cons_zero, List.getElem?_cons_succ, Option.bind_some, Act.put, List.setIfInBounds_toArray, List.set_cons_zero, List.set_cons_succ]
    first | done | exact rfl
   case hst2 =>
    refine Steps.of_list (l' := [0, 1, 2, 3, 4, 5, 6, 7, 8, 9, 10, 11, 12]) (by kernel_rfl) ?_
    refine Steps.cons rfl ?_ ?_
    ·intro f wz hB h K Q hK
     clear h
     try simp only [List.getElem_toArray, List.getElem_cons_zero]
     try rw [if_pos (by rfl)]
     go_simp
     exact hK _ _ (gr_refl _) rfl
    refine Steps.cons rfl ?_ ?_
    ·intro f wz hB h K Q hK
     clear h
     try rw [if_pos (by rfl)]
     go_simp
     exact hK _ _ (gr_refl _) rfl
    refine Steps.cons rfl ?_ ?_
    ·intro f wz hB h K Q hK
     have h1 : (MP.is (.pointer (some ⟨gp, 0, none⟩))).p (f 1) wz := h 1 (by kernel_rfl)
     have e1 : f 1 = (.pointer (some ⟨gp, 0, none⟩)) := h1
     simp only [e1] at hK ⊢
     clear e1
     clear h
     try rw [if_pos (by rfl)]
     go_simp
     exact hK _ _ (gr_refl _) rfl
    refine Steps.cons rfl ?_ ?_
    ·intro f wz hB h K Q hK
     have h2 : (MP.is (.pointer (some ⟨gp, 0, none⟩))).p (f 2) wz := h 2 (by kernel_rfl)
     have e2 : f 2 = (.pointer (some ⟨gp, 0, none⟩)) := h2
     simp only [e2] at hK ⊢
     clear e2
     clear h
     try rw [if_pos (by rfl)]
     go_simp
     exact hK _ _ (gr_refl _) rfl
    refine Steps.cons rfl ?_ ?_
    ·intro f wz hB h K Q hK
     have h3 : (MP.is (.pointer (some ⟨gp, 10, none⟩))).p (f 3) wz := h 3 (by kernel_rfl)
     have e3 : f 3 = (.pointer (some ⟨gp, 10, none⟩)) := h3
     simp only [e3] at hK ⊢
     clear e3
     clear h
     try rw [if_pos (by rfl)]
     have y0 := keep_of_below hB k4.out
     have y1 := keep_of_below hB k10.out
     go_simp
     exact hK _ _ (gr_refl _) rfl
    refine Steps.cons rfl ?_ ?_
    ·intro f wz hB h K Q hK
     have h4 : (MP.is (.int .i64 (hd : Int))).p (f 4) wz := h 4 (by kernel_rfl)
     have e4 : f 4 = (.int .i64 (hd : Int)) := h4
     simp only [e4] at hK ⊢
     clear e4
     clear h
     try rw [if_pos (by rfl)]
     go_simp
     exact hK _ _ (gr_refl _) rfl
    refine Steps.cons rfl ?_ ?_
    ·intro f wz hB h K Q hK
     clear h
     try rw [if_pos (by rfl)]
     go_simp
     exact hK _ _ (gr_refl _) rfl
    refine Steps.cons rfl ?_ ?_
    ·intro f wz hB h K Q hK
     have h6 : (MP.is (.pointer (some ⟨gp, 0, none⟩))).p (f 6) wz := h 6 (by kernel_rfl)
     have e6 : f 6 = (.pointer (some ⟨gp, 0, none⟩)) := h6
     simp only [e6] at hK ⊢
     clear e6
     clear h
     try rw [if_pos (by rfl)]
     go_simp
     exact hK _ _ (gr_refl _) rfl
    refine Steps.cons rfl ?_ ?_
    ·intro f wz hB h K Q hK
     have h7 : (MP.is (.pointer (some ⟨gp, 0, none⟩))).p (f 7) wz := h 7 (by kernel_rfl)
     have e7 : f 7 = (.pointer (some ⟨gp, 0, none⟩)) := h7
     simp only [e7] at hK ⊢
     clear e7
     clear h
     try rw [if_pos (by rfl)]
     go_simp
     exact hK _ _ (gr_refl _) rfl
    refine Steps.cons rfl ?_ ?_
    ·intro f wz hB h K Q hK
     have h8 : (MP.is (.pointer (some ⟨gp, 4, none⟩))).p (f 8) wz := h 8 (by kernel_rfl)
     have e8 : f 8 = (.pointer (some ⟨gp, 4, none⟩)) := h8
     simp only [e8] at hK ⊢
     clear e8
     clear h
     try rw [if_pos (by rfl)]
     have y0 := keep_of_below hB k4.out
     have y1 := keep_of_below hB k10.out
     go_simp
     exact hK _ _ (gr_refl _) rfl
    refine Steps.cons rfl ?_ ?_
    ·intro f wz hB h K Q hK
     have h5 : (MP.is (.int .i64 ((hd : Int) + 1))).p (f 5) wz := h 5 (by kernel_rfl)
     have e5 : f 5 = (.int .i64 ((hd : Int) + 1)) := h5
     have h9 : (MP.is (.int .i64 (P.most : Int))).p (f 9) wz := h 9 (by kernel_rfl)
     have e9 : f 9 = (.int .i64 (P.most : Int)) := h9
     simp only [e5, e9] at hK ⊢
     clear e5 e9
     clear h
     try rw [if_pos (by rfl)]
     go_simp
     exact hK _ _ (gr_refl _) rfl
    refine Steps.cons rfl ?_ ?_
    ·intro f wz hB h K Q hK
     have h0 : (MP.is (.pointer (some ⟨gp, 0, none⟩))).p (f 0) wz := h 0 (by kernel_rfl)
     have e0 : f 0 = (.pointer (some ⟨gp, 0, none⟩)) := h0
     simp only [e0] at hK ⊢
     clear e0
     clear h
     try rw [if_pos (by rfl)]
     go_simp
     exact hK _ _ (gr_refl _) rfl
    refine Steps.cons rfl ?_ ?_
    ·intro f wz hB h K Q hK
     have h11 : (MP.is (.pointer (some ⟨gp, 0, none⟩))).p (f 11) wz := h 11 (by kernel_rfl)
     have e11 : f 11 = (.pointer (some ⟨gp, 0, none⟩)) := h11
     simp only [e11] at hK ⊢
     clear e11
     clear h
     try rw [if_pos (by rfl)]
     go_simp
     exact hK _ _ (gr_refl _) rfl
    exact Steps.nil
   intro f w5 hB5 hR
   conv => arg 7; simp only [putL, dstOf, List.size_toArray, List.length_cons, List.length_nil, Nat.zero_add, Nat.reduceAdd, List.getElem?_toArray, List.getElem?_cons_zero, List.getElem?_cons_succ, Option.bind_some, Act.put, List.setIfInBounds_toArray, List.set_cons_zero, List.set_cons_succ, Array.getD_eq_getD_getElem?, Option.getD_some, if_true, if_false, Bool.false_eq_true]
   have e0 : f 0 = (.pointer (some ⟨gp, 0, none⟩)) := hR 0 (by decide) rfl
   have e1 : f 1 = (.pointer (some ⟨gp, 0, none⟩)) := hR 1 (by decide) rfl
   have e2 : f 2 = (.pointer (some ⟨gp, 0, none⟩)) := hR 2 (by decide) rfl
   have e3 : f 3 = (.pointer (some ⟨gp, 10, none⟩)) := hR 3 (by decide) rfl
   have e4 : f 4 = (.int .i64 (hd : Int)) := hR 4 (by decide) rfl
   have e5 : f 5 = (.int .i64 ((hd : Int) + 1)) := hR 5 (by decide) rfl
   have e6 : f 6 = (.pointer (some ⟨gp, 0, none⟩)) := hR 6 (by decide) rfl
   have e7 : f 7 = (.pointer (some ⟨gp, 0, none⟩)) := hR 7 (by decide) rfl
   have e8 : f 8 = (.pointer (some ⟨gp, 4, none⟩)) := hR 8 (by decide) rfl
   have e9 : f 9 = (.int .i64 (P.most : Int)) := hR 9 (by decide) rfl
   have e10 : f 10 = (.int .i64 (nx : Int)) := hR 10 (by decide) rfl
   have e11 : f 11 = (.pointer (some ⟨gp, 0, none⟩)) := hR 11 (by decide) rfl
   have e12 : f 12 = (.pointer (some ⟨gp, 10, none⟩)) := hR 12 (by decide) rfl
   simp only [e0, e1, e2, e3, e4, e5, e6, e7, e8, e9, e10, e11, e12]
   clear e0 e1 e2 e3 e4 e5 e6 e7 e8 e9 e10 e11 e12 hR
   have HX5 : Hid (PX w5 b0 gp gd wv D { P with fr := fr.set hd { fr.getD hd fr0 with used := false }, hand := hd } F ok (.slice (some ⟨tb, 0, none⟩) q.length c) mb (q'.set hd ({ p.1 with used := false }, p.2))) := Lib.hid (HX3.out.below (Below.trans (gr_drewN (gr_refl w3) 1) hB5))
   have HO5 : Hid (Off (fun k => k = gp ∨ k = tb) w1 w5) := Lib.hid (HO3.out.trans (Off.of_below (Below.trans (gr_drewN (gr_refl w3) 1) hB5)))
   have z10 := HX5.out.pb.frozen 10
   have y10 : w5.cell? ⟨gp, 10, none⟩ = some (.int .i64 (hd : Int)) := HX5.out.pb.c10
   have hx6 : PX (w5.setCell ⟨gp, 10, none⟩ (.int .i64 (nx : Int))) b0 gp gd wv D { P with fr := fr.set hd { fr.getD hd fr0 with used := false }, hand := nx } F ok (.slice (some ⟨tb, 0, none⟩) q.length c) mb (q'.set hd ({ p.1 with used := false }, p.2)) := by
    have hx := HX5.out
    have e : (q'.set hd ({ p.1 with used := false }, p.2)).length = q.length := by rw [List.length_set, HL2.out]
    rw [← e] at hx ⊢
    exact hx.handed hnl
   have HX6 := Lib.hid hx6
   have HO6 : Hid (Off (fun k => k = gp ∨ k = tb) w1 (w5.setCell ⟨gp, 10, none⟩ (.int .i64 (nx : Int)))) := Lib.hid (HO5.out.setCell _ (.inl rfl))
   clear hx6 hB5 k4 k10
   refine wpAny_of_held (S := fun _ => True) _ _ _ _ ?_
   refine wpAnyH_ready (rs := [13]) (by kernel_rfl) (by simp) ?_
   refine AllReadyH.cons rfl (fun KK hK => ?_) AllReadyH.nil
   rw [if_pos (by rfl)]
   go_simp
   refine hK.out _ _ trivial (fun _ => ?_)
   clear hK KK
   try simp only [List.setIfInBounds_toArray, List.set_cons_zero, List.set_cons_succ]
   refine wpAnyH_done (by kernel_rfl) ?_ _
   go_wp2_with fail
   go_roundw
   case rel =>
    refine ⟨_, nx, _, HX6, Lib.hid ?_, Lib.hid ?_, HO6⟩
    ·rw [← HSP.out, spin_step (by rw [HFL.out, HL2.out]; exact hhd) HU.out, HNX.out]
    ·rw [List.map_set, ← HQ2.out]
     refine List.ext_getElem? fun j => ?_
     rw [List.getElem?_set]
     split
     ·rename_i e
      subst e
      rw [if_pos (by simp; rw [HL2.out]; exact hhd), List.getElem?_map, HP.out]
      rfl
     ·rfl
   case measure =>
    have hx := HX6.out
    have e : (q'.set hd ({ p.1 with used := false }, p.2)).length = q.length := by rw [List.length_set, HL2.out]
    rw [← e] at hx
    have h1 := hx.usedW
    rw [e] at h1
    rw [h1, HMW.out]
    have := usedN_set (fr := fr) (h := hd) (by rw [HFL.out, HL2.out]; exact hhd) HU.out
    show usedN (fr.set hd { fr.getD hd fr0 with used := false }) < usedN fr
    omega
  | false =>
   rw [hu] at f4
   have HU : Hid ((fr.getD hd fr0).used = false) := Lib.hid (by rw [HPF.out]; exact hu)
   have HSPN : Hid (spun P = { P with fr := fr, hand := hd }) := Lib.hid (by
    unfold spun
    rw [← HSP.out, spin_stop HU.out])
   have HHR := Lib.hid (show holdR L D P nf = _ from rfl)
   have HHE : Hid (holdR L D P nf = if (fr.getD hd fr0).dirty then (if (writeR L D { P with fr := fr, hand := hd } hd).2.2 ≠ 0 then writeR L D { P with fr := fr, hand := hd } hd else ((writeR L D { P with fr := fr, hand := hd } hd).1, putP (writeR L D { P with fr := fr, hand := hd } hd).2.1 nf, 0)) else (D, putP { P with fr := fr, hand := hd } nf, 0)) := Lib.hid (by
    unfold holdR
    rw [if_neg (by have := HMQ.out; omega), HSPN.out])
   obtain ⟨Ps, hPs⟩ : ∃ Ps : PoS, Ps = { P with fr := fr, hand := hd } := ⟨_, rfl⟩
   rw [← hPs] at HHE
   have HXs : Hid (PX wr b0 gp gd wv D Ps F ok (.slice (some ⟨tb, 0, none⟩) q.length c) mb q') := Lib.hid (by rw [hPs]; exact HXr.out)
   have HPs : Hid (Ps.hand = hd ∧ Ps.most = P.most ∧ Ps.pages = P.pages ∧ Ps.fr.map FrS.page = P.fr.map FrS.page ∧ Ps.count = P.count) := Lib.hid (by
    rw [hPs]
    refine ⟨rfl, rfl, rfl, ?_, rfl⟩
    have := spun_pages P
    rw [HSPN.out] at this
    exact this)
   have HD3 : Hid ((fr.getD hd fr0).dirty = p.1.dirty) := Lib.hid (by rw [HPF.out])
   have HOS : Hid (Off (PS gp F ok (.slice (some ⟨tb, 0, none⟩) q.length c) mb q) w wr) := Lib.hid ((Off.of_below HB1q.out).trans (HO.out.mono fun k _ e => by
    rcases e with e | e
    ·exact .inr (.inr (.inl e))
    ·subst e
     exact .inr (.inr (.inr (.inr (.inl rfl))))))
   have HPS : Hid (∀ (F' ok' : Nat → Prop) (q4 : List FV) (k : Nat), q4.map Prod.snd = q.map Prod.snd → PS gp F' ok' (.slice (some ⟨tb, 0, none⟩) q.length c) mb q4 k → PS gp F' ok' (.slice (some ⟨tb, 0, none⟩) q.length c) mb q k) := Lib.hid (fun F' ok' q4 k hq => PS.snd hq)
   have HFRr : Hid (wr.heap[w.heap.size]? = some (.cells #[.int .i64 (nf.page : Int), .slice Av 4080 cv, .int .i64 nf.lsn, .bool nf.dirty, .bool nf.used] 101 (0, 0))) := Lib.hid ((HO.out.block _ (Array.getElem?_eq_some_iff.1 HFR.out).1 (fun e => by
    have := HTB.out
    rcases e with e | e <;> omega)).trans HFR.out)
   have HQN : Hid (hd < q'.length ∧ q'.length = q.length) := Lib.hid ⟨by rw [HL2.out]; exact hhd, HL2.out⟩
   clear hu hPs HXr HSP
   cases hdt : p.1.dirty with
   | true =>
    rw [hdt] at f3
    have HDT : Hid ((fr.getD hd fr0).dirty = true) := Lib.hid (by rw [HPF.out]; exact hdt)
    clear hdt
    have HWC := Lib.hid (fun (n : Nat) => pwrite_any (HXs.out.below (gr_drewN (gr_refl wr) n)) ((HL.out.step HOS.out (fun k e => .inl (HPS.out F ok q' k HQ2.out e))).step (S' := PS gp F ok (.slice (some ⟨tb, 0, none⟩) q.length c) mb q') (Off.of_below (gr_drewN (gr_refl wr) n)) (fun k e => .inl e)) hd (by have := HXs.out.qf; rw [← this, List.length_map]; exact HQN.out.1) hpd (by rw [HPs.out.2.2.2.2]; exact hct))
    obtain ⟨r4, hr4⟩ : ∃ r, r = writeR L D Ps hd := ⟨_, rfl⟩
    have HSH := Lib.hid (writeR_shape L D Ps hd)
    have HWPG := Lib.hid (writeR_pages L D Ps hd)
    rw [← hr4] at HHE HWC HSH HWPG
    obtain ⟨D4, P4, e4⟩ := r4
    dsimp only at HSH HWPG HHE HWC
    go_upto_region 10 with (go_quiet (fail))
    go_wp2_with fail
    refine (HWC.out nq).mono ?_
    rintro e w4 ⟨rfl, F4, ok4, q4, hx4, hq4, ho4, hs4⟩
    have HX4 := Lib.hid hx4
    have HQ4 : Hid (q4.map Prod.snd = q.map Prod.snd) := Lib.hid (hq4.trans HQ2.out)
    have HOV : Hid (Off (PS gp F ok (.slice (some ⟨tb, 0, none⟩) q.length c) mb q) w w4) := Lib.hid ((HOS.out.drewN nq).trans (ho4.mono fun k _ e => HPS.out F ok q' k HQ2.out e))
    have HSV : Hid (∀ k, PS gp F4 ok4 (.slice (some ⟨tb, 0, none⟩) q.length c) mb q4 k → PS gp F ok (.slice (some ⟨tb, 0, none⟩) q.length c) mb q k ∨ w.heap.size ≤ k) := Lib.hid (fun k e => (hs4 k e).imp (HPS.out F ok q' k HQ2.out) (fun e => Nat.le_trans HOS.out.size e))
    have HFRt : Hid (w4.heap[w.heap.size]? = some (.cells #[.int .i64 (nf.page : Int), .slice Av 4080 cv, .int .i64 nf.lsn, .bool nf.dirty, .bool nf.used] 101 (0, 0))) := Lib.hid ((ho4.block _ (Array.getElem?_eq_some_iff.1 HFRr.out).1 (fun e => by
     have := HX.out.lt (HPS.out F ok q' _ HQ2.out e)
     omega)).trans HFRr.out)
    have HSZ : Hid (w.heap.size ≤ w4.heap.size) := Lib.hid HOV.out.size
    have HP4 : Hid (P4.hand = hd ∧ P4.most = P.most ∧ P4.pages = P.pages ∧ P4.fr.map FrS.page = P.fr.map FrS.page) := Lib.hid ⟨by rw [HSH.out.2.1]; exact HPs.out.1, by rw [HSH.out.1]; exact HPs.out.2.1, by rw [HSH.out.2.2.1]; exact HPs.out.2.2.1, by rw [HWPG.out]; exact HPs.out.2.2.2.1⟩
    clear hx4 hq4 ho4 hs4 hr4 HWC
    by_cases he4 : e4 = 0
    ·subst he4
     have HH4 : Hid (holdR L D P nf = (D4, putP P4 nf, 0)) := Lib.hid (by
      rw [HHE.out, if_pos HDT.out]
      exact if_neg (by decide))
     clear f3
     go_upto_region 13 with fail
     have HQN4 : Hid (q4.length = q.length) := Lib.hid (by have := congrArg List.length HQ4.out; simpa using this)
     have HPL4 : Hid (P4.fr.length = q.length) := Lib.hid (by have := congrArg List.length HX4.out.qf; rw [List.length_map] at this; rw [← this, HQN4.out])
     obtain ⟨p4, hp4⟩ : ∃ p4, q4[hd]? = some p4 := ⟨_, List.getElem?_eq_getElem (by rw [HQN4.out]; exact hhd)⟩
     have HP44 := Lib.hid hp4
     have k8 := Lib.hid HX4.out.pb.c8
     have k9 := Lib.hid HX4.out.pb.c9
     have kp := Lib.hid (fr_cells HX4.out.tk hp4).1
     clear hp4
     refine wp_region_any (by kernel_rfl) ?_
     refine' wpAny_to_tail (l0 := #[false, false, false, false, false, false, false, false, false, false, false, false, false]) (by kernel_rfl) (by kernel_rfl) (by kernel_rfl) (by kernel_rfl) (by kernel_rfl)
      [MP.is (.pointer (some ⟨gp, 0, none⟩)), MP.is (.pointer (some ⟨gp, 0, none⟩)), MP.is (.pointer (some ⟨gp, 9, none⟩)), MP.is (.map (some mb)), MP.is (.pointer (some ⟨gp, 0, none⟩)), MP.is (.pointer (some ⟨gp, 0, none⟩)), MP.is (.pointer (some ⟨gp, 8, none⟩)), MP.is (.slice (some ⟨tb, 0, none⟩) q.length c), MP.is (.int .i64 (hd : Int)), MP.is (.pointer (some ⟨tb, hd * 5, none⟩)), MP.is (.pointer (some ⟨tb, hd * 5, none⟩)), MP.is (.int .i64 (p4.1.page : Int)), MP.any]
      (fun j => j == 12) #[true, true, true, true, true, true, true, true, true, true, true, true, false] rfl (by kernel_rfl) rfl (by kernel_rfl) (by kernel_rfl) (by kernel_rfl) (by kernel_rfl) (fun _ => undef) (by rfl) ?hR03 ?hAA3 ?hst3 ?hend3
     case hR03 =>
      intro j hj
      have hj2 : j ∈ [] := hj
      cases hj2
     case hAA3 =>
      intro f
      conv => lhs; simp only [putA, dstOf, List.size_toArray, List.length_cons, List.length_nil, Nat.zero_add, Nat.reduceAdd, List.getElem?_toArray, List.getElem?_cons_zero, List.getElem?_cons_succ, Option.bind_some, Act.put, List.setIfInBounds_toArray, List.set_cons_zero, List.set_cons_succ]
      first | done | exact rfl
     case hst3 =>
      refine Steps.of_list (l' := [0, 1, 2, 3, 4, 5, 6, 7, 8, 9, 10, 11]) (by kernel_rfl) ?_
      refine Steps.cons rfl ?_ ?_
      ·intro f wz hB h K Q hK
       clear h
       try simp only [List.getElem_toArray, List.getElem_cons_zero]
       try rw [if_pos (by rfl)]
       go_simp
       exact hK _ _ (gr_refl _) rfl
      refine Steps.cons rfl ?_ ?_
      ·intro f wz hB h K Q hK
       have h0 : (MP.is (.pointer (some ⟨gp, 0, none⟩))).p (f 0) wz := h 0 (by kernel_rfl)
       have e0 : f 0 = (.pointer (some ⟨gp, 0, none⟩)) := h0
       simp only [e0] at hK ⊢
       clear e0
       clear h
       try rw [if_pos (by rfl)]
       go_simp
       exact hK _ _ (gr_refl _) rfl
      refine Steps.cons rfl ?_ ?_
      ·intro f wz hB h K Q hK
       have h1 : (MP.is (.pointer (some ⟨gp, 0, none⟩))).p (f 1) wz := h 1 (by kernel_rfl)
       have e1 : f 1 = (.pointer (some ⟨gp, 0, none⟩)) := h1
       simp only [e1] at hK ⊢
       clear e1
       clear h
       try rw [if_pos (by rfl)]
       go_simp
       exact hK _ _ (gr_refl _) rfl
      refine Steps.cons rfl ?_ ?_
      ·intro f wz hB h K Q hK
       have h2 : (MP.is (.pointer (some ⟨gp, 9, none⟩))).p (f 2) wz := h 2 (by kernel_rfl)
       have e2 : f 2 = (.pointer (some ⟨gp, 9, none⟩)) := h2
       simp only [e2] at hK ⊢
       clear e2
       clear h
       try rw [if_pos (by rfl)]
       have y0 := keep_of_below hB k8.out
       have y1 := keep_of_below hB k9.out
       have y2 := keep_of_below hB kp.out
       go_simp
       exact hK _ _ (gr_refl _) rfl
      refine Steps.cons rfl ?_ ?_
      ·intro f wz hB h K Q hK
       clear h
       try rw [if_pos (by rfl)]
       go_simp
       exact hK _ _ (gr_refl _) rfl
      refine Steps.cons rfl ?_ ?_
      ·intro f wz hB h K Q hK
       have h4 : (MP.is (.pointer (some ⟨gp, 0, none⟩))).p (f 4) wz := h 4 (by kernel_rfl)
       have e4 : f 4 = (.pointer (some ⟨gp, 0, none⟩)) := h4
       simp only [e4] at hK ⊢
       clear e4
       clear h
       try rw [if_pos (by rfl)]
       go_simp
       exact hK _ _ (gr_refl _) rfl
      refine Steps.cons rfl ?_ ?_
      ·intro f wz hB h K Q hK
       have h5 : (MP.is (.pointer (some ⟨gp, 0, none⟩))).p (f 5) wz := h 5 (by kernel_rfl)
       have e5 : f 5 = (.pointer (some ⟨gp, 0, none⟩)) := h5
       simp only [e5] at hK ⊢
       clear e5
       clear h
       try rw [if_pos (by rfl)]
       go_simp
       exact hK _ _ (gr_refl _) rfl
      refine Steps.cons rfl ?_ ?_
      ·intro f wz hB h K Q hK
       have h6 : (MP.is (.pointer (some ⟨gp, 8, none⟩))).p (f 6) wz := h 6 (by kernel_rfl)
       have e6 : f 6 = (.pointer (some ⟨gp, 8, none⟩)) := h6
       simp only [e6] at hK ⊢
       clear e6
       clear h
       try rw [if_pos (by rfl)]
       have y0 := keep_of_below hB k8.out
       have y1 := keep_of_below hB k9.out
       have y2 := keep_of_below hB kp.out
       go_simp
       exact hK _ _ (gr_refl _) rfl
      refine Steps.cons rfl ?_ ?_
      ·intro f wz hB h K Q hK
       clear h
       try rw [if_pos (by rfl)]
       go_simp
       exact hK _ _ (gr_refl _) rfl
      refine Steps.cons rfl ?_ ?_
      ·intro f wz hB h K Q hK
       have h7 : (MP.is (.slice (some ⟨tb, 0, none⟩) q.length c)).p (f 7) wz := h 7 (by kernel_rfl)
       have e7 : f 7 = (.slice (some ⟨tb, 0, none⟩) q.length c) := h7
       have h8 : (MP.is (.int .i64 (hd : Int))).p (f 8) wz := h 8 (by kernel_rfl)
       have e8 : f 8 = (.int .i64 (hd : Int)) := h8
       simp only [e7, e8] at hK ⊢
       clear e7 e8
       clear h
       try rw [if_pos (by rfl)]
       go_simp
       exact hK _ _ (gr_refl _) rfl
      refine Steps.cons rfl ?_ ?_
      ·intro f wz hB h K Q hK
       have h9 : (MP.is (.pointer (some ⟨tb, hd * 5, none⟩))).p (f 9) wz := h 9 (by kernel_rfl)
       have e9 : f 9 = (.pointer (some ⟨tb, hd * 5, none⟩)) := h9
       simp only [e9] at hK ⊢
       clear e9
       clear h
       try rw [if_pos (by rfl)]
       go_simp
       exact hK _ _ (gr_refl _) rfl
      refine Steps.cons rfl ?_ ?_
      ·intro f wz hB h K Q hK
       have h10 : (MP.is (.pointer (some ⟨tb, hd * 5, none⟩))).p (f 10) wz := h 10 (by kernel_rfl)
       have e10 : f 10 = (.pointer (some ⟨tb, hd * 5, none⟩)) := h10
       simp only [e10] at hK ⊢
       clear e10
       clear h
       try rw [if_pos (by rfl)]
       have y0 := keep_of_below hB k8.out
       have y1 := keep_of_below hB k9.out
       have y2 := keep_of_below hB kp.out
       go_simp
       exact hK _ _ (gr_refl _) rfl
      exact Steps.nil
     intro f w5 hB5 hR
     conv => arg 7; simp only [putL, dstOf, List.size_toArray, List.length_cons, List.length_nil, Nat.zero_add, Nat.reduceAdd, List.getElem?_toArray, List.getElem?_cons_zero, List.getElem?_cons_succ, Option.bind_some, Act.put, List.setIfInBounds_toArray, List.set_cons_zero, List.set_cons_succ, Array.getD_eq_getD_getElem?, Option.getD_some, if_true, if_false, Bool.false_eq_true]
     have e0 : f 0 = (.pointer (some ⟨gp, 0, none⟩)) := hR 0 (by decide) rfl
     have e1 : f 1 = (.pointer (some ⟨gp, 0, none⟩)) := hR 1 (by decide) rfl
     have e2 : f 2 = (.pointer (some ⟨gp, 9, none⟩)) := hR 2 (by decide) rfl
     have e3 : f 3 = (.map (some mb)) := hR 3 (by decide) rfl
     have e4 : f 4 = (.pointer (some ⟨gp, 0, none⟩)) := hR 4 (by decide) rfl
     have e5 : f 5 = (.pointer (some ⟨gp, 0, none⟩)) := hR 5 (by decide) rfl
     have e6 : f 6 = (.pointer (some ⟨gp, 8, none⟩)) := hR 6 (by decide) rfl
     have e7 : f 7 = (.slice (some ⟨tb, 0, none⟩) q.length c) := hR 7 (by decide) rfl
     have e8 : f 8 = (.int .i64 (hd : Int)) := hR 8 (by decide) rfl
     have e9 : f 9 = (.pointer (some ⟨tb, hd * 5, none⟩)) := hR 9 (by decide) rfl
     have e10 : f 10 = (.pointer (some ⟨tb, hd * 5, none⟩)) := hR 10 (by decide) rfl
     have e11 : f 11 = (.int .i64 (p4.1.page : Int)) := hR 11 (by decide) rfl
     simp only [e0, e1, e2, e3, e4, e5, e6, e7, e8, e9, e10, e11]
     clear e0 e1 e2 e3 e4 e5 e6 e7 e8 e9 e10 e11 hR
     have HB5 : Hid (Below w4.heap.size w4 w5) := Lib.hid (Below.trans (gr_drewN (gr_refl w4) 1) hB5)
     have HX5 := Lib.hid (HX4.out.below HB5.out)
     have HPA : Hid ((P4.fr.map FrS.page)[hd]? = some p4.1.page) := Lib.hid (by
      rw [← HX5.out.qf, List.getElem?_map, List.getElem?_map, HP44.out]
      rfl)
     have hpl4 : p4.1.page ≤ 4096 := by
      have h1 := HX5.out.pi.fit
      have h2 := HX5.out.pi.d2
      have h3 := (HX5.out.pi.ok p4.1 (by rw [← HX5.out.qf]; exact List.mem_map_of_mem (List.mem_of_getElem? HP44.out))).1
      omega
     obtain ⟨n4, hn4⟩ : ∃ n4, q.length = n4 + 1 := ⟨q.length - 1, by omega⟩
     have hmp5 := HX5.out.mp
     rw [HPL4.out, hn4] at hmp5
     have hat : idxF (P4.fr.map FrS.page) (p4.1.page : Int) = some (hd : Int) := by
      unfold idxF
      rw [if_neg (by omega), Int.toNat_natCast, (idx_some HX5.out.pi.nd).2 HPA.out]
      rfl
     obtain ⟨w6, hdel, hmq6, hgr6⟩ := hmp5.del (k := (p4.1.page : Int)) (by omega) (by omega) hat 0
     have HMQ6 := Lib.hid hmq6
     have HGR6 := Lib.hid hgr6
     have HN4 := Lib.hid hn4
     clear hmp5 hat hmq6 hgr6 hB5 k8 k9 kp hn4
     refine wpAny_of_held (S := fun _ => True) _ _ _ _ ?_
     refine wpAnyH_ready (rs := [12]) (by kernel_rfl) (by simp) ?_
     refine AllReadyH.cons rfl (fun KK hK => ?_) AllReadyH.nil
     rw [if_pos (by rfl)]
     go_simp
     refine hK.out _ _ trivial (fun _ => ?_)
     clear hK KK
     try simp only [List.setIfInBounds_toArray, List.set_cons_zero, List.set_cons_succ]
     refine wpAnyH_done (by kernel_rfl) ?_ _
     clear hdel
     have o56 : Hid (Off (· = mb) w5 w6) := Lib.hid (Off.of_grown HGR6.out (fun k e => by injection e with e; exact e.symm))
     have HPB6 : Hid (PB w6 gp gd wv false (.slice (some ⟨tb, 0, none⟩) q.length c) mb P4) := Lib.hid (HX5.out.pb.off o56.out (fun e => HX5.out.mp.notCells HX5.out.pb e.symm))
     have HTK6 : Hid (EO EF 5 101 w6 b0 (.slice (some ⟨tb, 0, none⟩) q.length c) q4) := Lib.hid (ownsRow_off HX5.out.tk o56.out (fun k hk e => by
      obtain ⟨cur, hc⟩ := own_blk HX5.out.tk hk
      exact HX5.out.mp.notCells hc e.symm))
     have HFV5 : Hid (OB w5 b0 (.slice Av 4080 cv) nf.pay) := Lib.hid ((HF.out.ow.off HOV.out (fun k e e2 => HDJ.out k e e2)).below HB5.out)
     have HDV5 : Hid (DV w5 b0 gd F4 ok4 D4 (q4 ++ [(nf, .slice Av 4080 cv)])) := Lib.hid ⟨HX5.out.dk, fun x hx => by
      rcases List.mem_append.1 hx with hx | hx
      ·exact HX5.out.pv x hx
      ·rw [List.mem_singleton.1 hx]
       exact HFV5.out⟩
     have HDV6 := Lib.hid (HDV5.out.nb o56.out (fun k e => by rw [e]; exact HX5.out.mp.nb))
     have HFR6 : Hid (w6.heap[w.heap.size]? = some (.cells #[.int .i64 (nf.page : Int), .slice Av 4080 cv, .int .i64 nf.lsn, .bool nf.dirty, .bool nf.used] 101 (0, 0))) := Lib.hid (by
      have h2 := (HB5.out.block _ (Array.getElem?_eq_some_iff.1 HFRt.out).1).trans HFRt.out
      exact (HGR6.out.block _ (Array.getElem?_eq_some_iff.1 h2).1 (fun e => HX5.out.mp.notCells h2 (Option.some.inj e).symm)).trans h2)
     have kf : ∀ j u, #[.int .i64 (nf.page : Int), .slice Av 4080 cv, .int .i64 nf.lsn, .bool nf.dirty, .bool nf.used][j]? = some u → w6.cell? ⟨w.heap.size, j, none⟩ = some u := fun j u hj => by rw [cell_of_row w6 _ j _ _ _ HFR6.out]; exact hj
     have kf0 := Lib.hid (kf 0 _ rfl)
     have kf1 := Lib.hid (kf 1 _ rfl)
     have kf2 := Lib.hid (kf 2 _ rfl)
     have kf3 := Lib.hid (kf 3 _ rfl)
     have kf4 := Lib.hid (kf 4 _ rfl)
     have k8 := Lib.hid HPB6.out.c8
     clear kf
     go_upto_region 14 with fail
     refine wp_region_any (by kernel_rfl) ?_
     refine' wpAny_to_tail (l0 := #[false, false, false, false, false, false, false, false]) (by kernel_rfl) (by kernel_rfl) (by kernel_rfl) (by kernel_rfl) (by kernel_rfl)
      [MP.is (.pointer (some ⟨gp, 0, none⟩)), MP.is (.pointer (some ⟨gp, 0, none⟩)), MP.is (.pointer (some ⟨gp, 8, none⟩)), MP.is (.slice (some ⟨tb, 0, none⟩) q.length c), MP.is (.int .i64 (hd : Int)), MP.is (.agg #[.int .i64 (nf.page : Int), .slice Av 4080 cv, .int .i64 nf.lsn, .bool nf.dirty, .bool nf.used]), MP.is (.pointer (some ⟨tb, hd * 5, none⟩)), MP.any]
      (fun j => j == 7) #[true, true, true, true, true, true, true, false] rfl (by kernel_rfl) rfl (by kernel_rfl) (by kernel_rfl) (by kernel_rfl) (by kernel_rfl) (fun _ => undef) (by rfl) ?hR04 ?hAA4 ?hst4 ?hend4
     case hR04 =>
      intro j hj
      have hj2 : j ∈ [] := hj
      cases hj2
     case hAA4 =>
      intro f
      conv => lhs; simp only [putA, dstOf, List.size_toArray, List.length_cons, List.length_nil, Nat.zero_add, Nat.reduceAdd, List.getElem?_toArray, List.getElem?_cons_zero, List.getElem?_cons_succ, Option.bind_some, Act.put, List.setIfInBounds_toArray, List.set_cons_zero, List.set_cons_succ]
      first | done | exact rfl
     case hst4 =>
      refine Steps.of_list (l' := [0, 1, 2, 3, 4, 5, 6]) (by kernel_rfl) ?_
      refine Steps.cons rfl ?_ ?_
      ·intro f wz hB h K Q hK
       clear h
       try simp only [List.getElem_toArray, List.getElem_cons_zero]
       try rw [if_pos (by rfl)]
       go_simp
       exact hK _ _ (gr_refl _) rfl
      refine Steps.cons rfl ?_ ?_
      ·intro f wz hB h K Q hK
       have h0 : (MP.is (.pointer (some ⟨gp, 0, none⟩))).p (f 0) wz := h 0 (by kernel_rfl)
       have e0 : f 0 = (.pointer (some ⟨gp, 0, none⟩)) := h0
       simp only [e0] at hK ⊢
       clear e0
       clear h
       try rw [if_pos (by rfl)]
       go_simp
       exact hK _ _ (gr_refl _) rfl
      refine Steps.cons rfl ?_ ?_
      ·intro f wz hB h K Q hK
       have h1 : (MP.is (.pointer (some ⟨gp, 0, none⟩))).p (f 1) wz := h 1 (by kernel_rfl)
       have e1 : f 1 = (.pointer (some ⟨gp, 0, none⟩)) := h1
       simp only [e1] at hK ⊢
       clear e1
       clear h
       try rw [if_pos (by rfl)]
       go_simp
       exact hK _ _ (gr_refl _) rfl
      refine Steps.cons rfl ?_ ?_
      ·intro f wz hB h K Q hK
       have h2 : (MP.is (.pointer (some ⟨gp, 8, none⟩))).p (f 2) wz := h 2 (by kernel_rfl)
       have e2 : f 2 = (.pointer (some ⟨gp, 8, none⟩)) := h2
       simp only [e2] at hK ⊢
       clear e2
       clear h
       try rw [if_pos (by rfl)]
       have y0 := keep_of_below hB k8.out
       have y1 := keep_of_below hB kf0.out
       have y2 := keep_of_below hB kf1.out
       have y3 := keep_of_below hB kf2.out
       have y4 := keep_of_below hB kf3.out
       have y5 := keep_of_below hB kf4.out
       go_simp
       exact hK _ _ (gr_refl _) rfl
      refine Steps.cons rfl ?_ ?_
      ·intro f wz hB h K Q hK
       clear h
       try rw [if_pos (by rfl)]
       go_simp
       exact hK _ _ (gr_refl _) rfl
      refine Steps.cons rfl ?_ ?_
      ·intro f wz hB h K Q hK
       clear h
       try rw [if_pos (by rfl)]
       have y0 := keep_of_below hB k8.out
       have y1 := keep_of_below hB kf0.out
       have y2 := keep_of_below hB kf1.out
       have y3 := keep_of_below hB kf2.out
       have y4 := keep_of_below hB kf3.out
       have y5 := keep_of_below hB kf4.out
       go_simp
       exact hK _ _ (gr_refl _) rfl
      refine Steps.cons rfl ?_ ?_
      ·intro f wz hB h K Q hK
       have h3 : (MP.is (.slice (some ⟨tb, 0, none⟩) q.length c)).p (f 3) wz := h 3 (by kernel_rfl)
       have e3 : f 3 = (.slice (some ⟨tb, 0, none⟩) q.length c) := h3
       have h4 : (MP.is (.int .i64 (hd : Int))).p (f 4) wz := h 4 (by kernel_rfl)
       have e4 : f 4 = (.int .i64 (hd : Int)) := h4
       simp only [e3, e4] at hK ⊢
       clear e3 e4
       clear h
       try rw [if_pos (by rfl)]
       go_simp
       exact hK _ _ (gr_refl _) rfl
      exact Steps.nil
     intro f w8 hB8 hR
     conv => arg 7; simp only [putL, dstOf, List.size_toArray, List.length_cons, List.length_nil, Nat.zero_add, Nat.reduceAdd, List.getElem?_toArray, List.getElem?_cons_zero, List.getElem?_cons_succ, Option.bind_some, Act.put, List.setIfInBounds_toArray, List.set_cons_zero, List.set_cons_succ, Array.getD_eq_getD_getElem?, Option.getD_some, if_true, if_false, Bool.false_eq_true]
     have e0 : f 0 = (.pointer (some ⟨gp, 0, none⟩)) := hR 0 (by decide) rfl
     have e1 : f 1 = (.pointer (some ⟨gp, 0, none⟩)) := hR 1 (by decide) rfl
     have e2 : f 2 = (.pointer (some ⟨gp, 8, none⟩)) := hR 2 (by decide) rfl
     have e3 : f 3 = (.slice (some ⟨tb, 0, none⟩) q.length c) := hR 3 (by decide) rfl
     have e4 : f 4 = (.int .i64 (hd : Int)) := hR 4 (by decide) rfl
     have e5 : f 5 = (.agg #[.int .i64 (nf.page : Int), .slice Av 4080 cv, .int .i64 nf.lsn, .bool nf.dirty, .bool nf.used]) := hR 5 (by decide) rfl
     have e6 : f 6 = (.pointer (some ⟨tb, hd * 5, none⟩)) := hR 6 (by decide) rfl
     simp only [e0, e1, e2, e3, e4, e5, e6]
     clear e0 e1 e2 e3 e4 e5 e6 hR
     have HB8 : Hid (Below w6.heap.size w6 w8) := Lib.hid (Below.trans (gr_drewN (gr_refl w6) 1) hB8)
     have HTK8 := Lib.hid (EO.below HTK6.out HB8.out)
     obtain ⟨x0, x1, x2, x3, x4⟩ := fr_cells HTK8.out HP44.out
     have y0 := own_frz HTK8.out (hd * 5)
     have y1 := own_frz HTK8.out (hd * 5 + 1)
     have y2 := own_frz HTK8.out (hd * 5 + 2)
     have y3 := own_frz HTK8.out (hd * 5 + 3)
     have y4 := own_frz HTK8.out (hd * 5 + 4)
     have HTK9 : Hid (EO EF 5 101 (((((w8.setCell ⟨tb, hd * 5, none⟩ (.int .i64 (nf.page : Int))).setCell ⟨tb, hd * 5 + 1, none⟩ (.slice Av 4080 cv)).setCell ⟨tb, hd * 5 + 2, none⟩ (.int .i64 nf.lsn)).setCell ⟨tb, hd * 5 + 3, none⟩ (.bool nf.dirty)).setCell ⟨tb, hd * 5 + 4, none⟩ (.bool nf.used)) b0 (.slice (some ⟨tb, 0, none⟩) q.length c) (q4.set hd (nf, .slice Av 4080 cv))) := Lib.hid (fr_setF HTK8.out HP44.out (nf, .slice Av 4080 cv))
     have o89 : Hid (Off (· = tb) w8 (((((w8.setCell ⟨tb, hd * 5, none⟩ (.int .i64 (nf.page : Int))).setCell ⟨tb, hd * 5 + 1, none⟩ (.slice Av 4080 cv)).setCell ⟨tb, hd * 5 + 2, none⟩ (.int .i64 nf.lsn)).setCell ⟨tb, hd * 5 + 3, none⟩ (.bool nf.dirty)).setCell ⟨tb, hd * 5 + 4, none⟩ (.bool nf.used))) := Lib.hid (fr_setF_off w8 tb hd (nf, .slice Av 4080 cv))
     clear k8 kf0 kf1 kf2 kf3 kf4 hB8
     refine wpAny_of_held (S := fun _ => True) _ _ _ _ ?_
     refine wpAnyH_ready (rs := [7]) (by kernel_rfl) (by simp) ?_
     refine AllReadyH.cons rfl (fun KK hK => ?_) AllReadyH.nil
     rw [if_pos (by rfl)]
     go_simp
     refine hK.out _ _ trivial (fun _ => ?_)
     clear hK KK
     try simp only [List.setIfInBounds_toArray, List.set_cons_zero, List.set_cons_succ]
     refine wpAnyH_done (by kernel_rfl) ?_ _
     clear x0 x1 x2 x3 x4 y0 y1 y2 y3 y4
     generalize (((((w8.setCell ⟨tb, hd * 5, none⟩ (.int .i64 (nf.page : Int))).setCell ⟨tb, hd * 5 + 1, none⟩ (.slice Av 4080 cv)).setCell ⟨tb, hd * 5 + 2, none⟩ (.int .i64 nf.lsn)).setCell ⟨tb, hd * 5 + 3, none⟩ (.bool nf.dirty)).setCell ⟨tb, hd * 5 + 4, none⟩ (.bool nf.used)) = w9 at *
     have hntb : ∀ (k : Nat) (cs : Array Value) (t : TypeId) (r : Nat × Nat), w8.heap[k]? = some (.cells cs t r) → t ≠ 101 → k ≠ tb := fun k cs t r hc hn e => by
      subst e
      obtain ⟨cur, hc2⟩ := own_blk HTK8.out rfl
      rw [hc] at hc2
      injection hc2 with hc2
      injection hc2 with _ hc2 _
      exact hn hc2
     have HPB8 := Lib.hid (HPB6.out.below HB8.out)
     have HPB9 : Hid (PB w9 gp gd wv false (.slice (some ⟨tb, 0, none⟩) q.length c) mb P4) := Lib.hid (HPB8.out.off o89.out (hntb _ _ _ _ HPB8.out (by decide)))
     have HMQ8 := Lib.hid (HMQ6.out.below HB8.out)
     have HMQ9 := Lib.hid (HMQ8.out.off o89.out (fun e => by obtain ⟨cur, hc2⟩ := own_blk HTK8.out rfl; exact HMQ8.out.notCells hc2 e))
     have HDV9 := Lib.hid ((HDV6.out.below HB8.out).nb o89.out (fun k e => by rw [e]; exact EO.nb HTK8.out rfl))
     have HFR9 : Hid (w9.heap[w.heap.size]? = some (.cells #[.int .i64 (nf.page : Int), .slice Av 4080 cv, .int .i64 nf.lsn, .bool nf.dirty, .bool nf.used] 101 (0, 0))) := Lib.hid (by
      have h2 := (HB8.out.block _ (Array.getElem?_eq_some_iff.1 HFR6.out).1).trans HFR6.out
      exact (o89.out.block _ (Array.getElem?_eq_some_iff.1 h2).1 (fun e => by have := HTB.out.1; omega)).trans h2)
     have kf0 : Hid (w9.cell? ⟨w.heap.size, 0, none⟩ = some (.int .i64 (nf.page : Int))) := Lib.hid (by rw [cell_of_row w9 _ 0 _ _ _ HFR9.out]; rfl)
     have k9 := Lib.hid HPB9.out.c9
     clear hntb
     go_upto_region 15 with fail
     refine wp_region_any (by kernel_rfl) ?_
     refine' wpAny_to_tail (l0 := #[false, false, false, false, false, false, false, false]) (by kernel_rfl) (by kernel_rfl) (by kernel_rfl) (by kernel_rfl) (by kernel_rfl)
      [MP.is (.pointer (some ⟨gp, 0, none⟩)), MP.is (.pointer (some ⟨gp, 0, none⟩)), MP.is (.pointer (some ⟨gp, 9, none⟩)), MP.is (.map (some mb)), MP.is (.pointer (some ⟨w.heap.size, 0, none⟩)), MP.is (.int .i64 (nf.page : Int)), MP.is (.int .i64 (hd : Int)), MP.any]
      (fun j => j == 7) #[true, true, true, true, true, true, true, false] rfl (by kernel_rfl) rfl (by kernel_rfl) (by kernel_rfl) (by kernel_rfl) (by kernel_rfl) (fun _ => undef) (by rfl) ?hR05 ?hAA5 ?hst5 ?hend5
     case hR05 =>
      intro j hj
      have hj2 : j ∈ [] := hj
      cases hj2
     case hAA5 =>
      intro f
      conv => lhs; simp only [putA, dstOf, List.size_toArray, List.length_cons, List.length_nil, Nat.zero_add, Nat.reduceAdd, List.getElem?_toArray, List.getElem?_cons_zero, List.getElem?_cons_succ, Option.bind_some, Act.put, List.setIfInBounds_toArray, List.set_cons_zero, List.set_cons_succ]
      first | done | exact rfl
     case hst5 =>
      refine Steps.of_list (l' := [0, 1, 2, 3, 4, 5, 6]) (by kernel_rfl) ?_
      refine Steps.cons rfl ?_ ?_
      ·intro f wz hB h K Q hK
       clear h
       try simp only [List.getElem_toArray, List.getElem_cons_zero]
       try rw [if_pos (by rfl)]
       go_simp
       exact hK _ _ (gr_refl _) rfl
      refine Steps.cons rfl ?_ ?_
      ·intro f wz hB h K Q hK
       have h0 : (MP.is (.pointer (some ⟨gp, 0, none⟩))).p (f 0) wz := h 0 (by kernel_rfl)
       have e0 : f 0 = (.pointer (some ⟨gp, 0, none⟩)) := h0
       simp only [e0] at hK ⊢
       clear e0
       clear h
       try rw [if_pos (by rfl)]
       go_simp
       exact hK _ _ (gr_refl _) rfl
      refine Steps.cons rfl ?_ ?_
      ·intro f wz hB h K Q hK
       have h1 : (MP.is (.pointer (some ⟨gp, 0, none⟩))).p (f 1) wz := h 1 (by kernel_rfl)
       have e1 : f 1 = (.pointer (some ⟨gp, 0, none⟩)) := h1
       simp only [e1] at hK ⊢
       clear e1
       clear h
       try rw [if_pos (by rfl)]
       go_simp
       exact hK _ _ (gr_refl _) rfl
      refine Steps.cons rfl ?_ ?_
      ·intro f wz hB h K Q hK
       have h2 : (MP.is (.pointer (some ⟨gp, 9, none⟩))).p (f 2) wz := h 2 (by kernel_rfl)
       have e2 : f 2 = (.pointer (some ⟨gp, 9, none⟩)) := h2
       simp only [e2] at hK ⊢
       clear e2
       clear h
       try rw [if_pos (by rfl)]
       have y0 := keep_of_below hB k9.out
       have y1 := keep_of_below hB kf0.out
       go_simp
       exact hK _ _ (gr_refl _) rfl
      refine Steps.cons rfl ?_ ?_
      ·intro f wz hB h K Q hK
       clear h
       try rw [if_pos (by rfl)]
       go_simp
       exact hK _ _ (gr_refl _) rfl
      refine Steps.cons rfl ?_ ?_
      ·intro f wz hB h K Q hK
       have h4 : (MP.is (.pointer (some ⟨w.heap.size, 0, none⟩))).p (f 4) wz := h 4 (by kernel_rfl)
       have e4 : f 4 = (.pointer (some ⟨w.heap.size, 0, none⟩)) := h4
       simp only [e4] at hK ⊢
       clear e4
       clear h
       try rw [if_pos (by rfl)]
       have y0 := keep_of_below hB k9.out
       have y1 := keep_of_below hB kf0.out
       go_simp
       exact hK _ _ (gr_refl _) rfl
      refine Steps.cons rfl ?_ ?_
      ·intro f wz hB h K Q hK
       clear h
       try rw [if_pos (by rfl)]
       go_simp
       exact hK _ _ (gr_refl _) rfl
      exact Steps.nil
     intro f w10 hB10 hR
     conv => arg 7; simp only [putL, dstOf, List.size_toArray, List.length_cons, List.length_nil, Nat.zero_add, Nat.reduceAdd, List.getElem?_toArray, List.getElem?_cons_zero, List.getElem?_cons_succ, Option.bind_some, Act.put, List.setIfInBounds_toArray, List.set_cons_zero, List.set_cons_succ, Array.getD_eq_getD_getElem?, Option.getD_some, if_true, if_false, Bool.false_eq_true]
     have e0 : f 0 = (.pointer (some ⟨gp, 0, none⟩)) := hR 0 (by decide) rfl
     have e1 : f 1 = (.pointer (some ⟨gp, 0, none⟩)) := hR 1 (by decide) rfl
     have e2 : f 2 = (.pointer (some ⟨gp, 9, none⟩)) := hR 2 (by decide) rfl
     have e3 : f 3 = (.map (some mb)) := hR 3 (by decide) rfl
     have e4 : f 4 = (.pointer (some ⟨w.heap.size, 0, none⟩)) := hR 4 (by decide) rfl
     have e5 : f 5 = (.int .i64 (nf.page : Int)) := hR 5 (by decide) rfl
     have e6 : f 6 = (.int .i64 (hd : Int)) := hR 6 (by decide) rfl
     simp only [e0, e1, e2, e3, e4, e5, e6]
     clear e0 e1 e2 e3 e4 e5 e6 hR
     have HB10 : Hid (Below w9.heap.size w9 w10) := Lib.hid (Below.trans (gr_drewN (gr_refl w9) 1) hB10)
     have HMQ10 := Lib.hid (HMQ9.out.below HB10.out)
     have HPB10 := Lib.hid (HPB9.out.below HB10.out)
     have HTK10 := Lib.hid (EO.below HTK9.out HB10.out)
     have hpl : nf.page ≤ 4096 := by
      have h1 := HX5.out.pi.fit
      have h2 := HX5.out.pi.d2
      have h3 := HF.out.pg
      have h4 := HP4.out.2.2.1
      omega
     have hno : remM (idxF (P4.fr.map FrS.page)) (p4.1.page : Int) (nf.page : Int) = none := by
      unfold remM
      split
      ·rfl
      ·rw [idxF_at, (findP_none P4 nf.page).2 (by rw [HP4.out.2.2.2]; exact HF.out.no)]
       rfl
     obtain ⟨w11, hput, hmq11, hgr11⟩ := HMQ10.out.put (k := (nf.page : Int)) (v := (hd : Int)) (by omega) (by omega) (by omega) (by omega) hno (by have := HN4.out; simp only [maxLen]; omega)
     have HMQ11 := Lib.hid hmq11
     have HGR11 := Lib.hid hgr11
     clear hno hmq11 hgr11 hB10 kf0 k9
     refine wpAny_of_held (S := fun _ => True) _ _ _ _ ?_
     refine wpAnyH_ready (rs := [7]) (by kernel_rfl) (by simp) ?_
     refine AllReadyH.cons rfl (fun KK hK => ?_) AllReadyH.nil
     rw [if_pos (by rfl)]
     go_simp
     refine hK.out _ _ trivial (fun _ => ?_)
     clear hK KK
     try simp only [List.setIfInBounds_toArray, List.set_cons_zero, List.set_cons_succ]
     refine wpAnyH_done (by kernel_rfl) ?_ _
     clear hput
     have o1011 : Hid (Off (· = mb) w10 w11) := Lib.hid (Off.of_grown HGR11.out (fun k e => by injection e with e; exact e.symm))
     have HPB11 : Hid (PB w11 gp gd wv false (.slice (some ⟨tb, 0, none⟩) q.length c) mb P4) := Lib.hid (HPB10.out.off o1011.out (fun e => HMQ10.out.notCells HPB10.out e.symm))
     have HTK11 : Hid (EO EF 5 101 w11 b0 (.slice (some ⟨tb, 0, none⟩) q.length c) (q4.set hd (nf, .slice Av 4080 cv))) := Lib.hid (ownsRow_off HTK10.out o1011.out (fun k hk e => by
      obtain ⟨cur, hc⟩ := own_blk HTK10.out hk
      exact HMQ10.out.notCells hc e.symm))
     have HDV11 := Lib.hid ((HDV9.out.below HB10.out).nb o1011.out (fun k e => by rw [e]; exact HMQ10.out.nb))
     have k4 : w11.cell? ⟨gp, 4, none⟩ = some (.int .i64 (P.most : Int)) := by have := HPB11.out.c4; rwa [HP4.out.2.1] at this
     have k10 := HPB11.out.c10
     have z10 := HPB11.out.frozen 10
     have hwp : IntKind.i64.wrap ((hd : Int) + 1) = (hd : Int) + 1 := by rw [IntKind.wrap_i64]; omega
     have hm0 : ¬ P.most = 0 := by omega
     obtain ⟨nx, hnx⟩ : ∃ nx, nx = (hd + 1) % P.most := ⟨_, rfl⟩
     have hrem : ((hd : Int) + 1).tmod (P.most : Int) = (nx : Int) := by
      rw [Int.tmod_eq_emod_of_nonneg (by omega), hnx, Int.natCast_emod, Int.natCast_add]
      rfl
     have hnl : nx < P.most := by rw [hnx]; exact Nat.mod_lt _ (by omega)
     have hwn : IntKind.i64.wrap (nx : Int) = (nx : Int) := by rw [IntKind.wrap_i64]; omega
     have HNX := Lib.hid hnx
     clear hnx
     go_wp2_with fail
     go_ret
     have hpq : putP P4 nf = { P4 with fr := P4.fr.set hd nf, hand := nx } := by
      unfold putP
      rw [HP4.out.1, HP4.out.2.1, ← HNX.out]
     have hpi := HX4.out.pi.put (f := nf) (by rw [HPL4.out, HP4.out.2.1]; exact HMQ.out) (by rw [HP4.out.2.2.1]; exact HF.out.pg) HF.out.len HF.out.l1 HF.out.l2 (by rw [HP4.out.2.2.2]; exact HF.out.no)
     rw [hpq] at hpi
     have o12 : Off (· = gp) w11 (w11.setCell ⟨gp, 10, none⟩ (.int .i64 (nx : Int))) := (Off.refl _ w11).setCell _ rfl
     have hdv := HDV11.out.nb o12 (fun k e => by rw [e]; exact HPB11.out.nb)
     have hmq12 := HMQ11.out.off o12 (HMQ11.out.notCells HPB11.out)
     rw [idxF_swap HX4.out.pi.nd (by rw [HP4.out.2.2.2]; exact HF.out.no) HPA.out, ← HN4.out, ← HPL4.out] at hmq12
     have htk12 : EO EF 5 101 (w11.setCell ⟨gp, 10, none⟩ (.int .i64 (nx : Int))) b0 (.slice (some ⟨tb, 0, none⟩) q.length c) (q4.set hd (nf, .slice Av 4080 cv)) := ownsRow_off HTK11.out o12 (fun k e e2 => by
      obtain ⟨cur, hc⟩ := own_blk HTK11.out e
      subst e2
      exact cells_ne HPB11.out hc (by decide))
     rw [HH4.out, hpq]
     refine ⟨rfl, F4, ok4, _, mb, q4.set hd (nf, .slice Av 4080 cv), ⟨hdv.1, HPB11.out.s10 nx, htk12, ?_, fun x hx => ?_, ?_, hpi, HX4.out.bp, HX4.out.bm, fun k e => ?_⟩, ?_, fun k e => ?_⟩
     ·rw [List.map_set, HX4.out.qf]
     ·rcases List.mem_or_eq_of_mem_set hx with hx | hx
      ·exact hdv.2 x (List.mem_append.2 (.inl hx))
      ·exact hdv.2 x (List.mem_append.2 (.inr (List.mem_singleton.2 hx)))
     ·show MQ _ mb (P4.fr.set hd nf).length (idxF ((P4.fr.set hd nf).map FrS.page))
      rw [List.length_set, List.map_set]
      exact hmq12
     ·exact Nat.lt_of_lt_of_le (HX4.out.os k e) (Nat.le_trans HB5.out.size (Nat.le_trans o56.out.size (Nat.le_trans HB8.out.size (Nat.le_trans o89.out.size (Nat.le_trans HB10.out.size (Nat.le_trans o1011.out.size o12.size))))))
     ·have tbS : ∀ k, k = tb → PS gp F ok (.slice (some ⟨tb, 0, none⟩) q.length c) mb q k := fun k e => by
       subst e
       exact .inr (.inr (.inr (.inr (.inl rfl))))
      exact HOV.out.trans ((Off.of_below HB5.out).trans ((o56.out.mono fun k _ e => .inr (.inr (.inr (.inl e)))).trans ((Off.of_below HB8.out).trans ((o89.out.mono fun k _ e => tbS k e).trans ((Off.of_below HB10.out).trans ((o1011.out.mono fun k _ e => .inr (.inr (.inr (.inl e)))).trans (o12.mono fun k _ e => .inr (.inr (.inl e)))))))))
     ·rcases e with e | e | e | e | e | ⟨x, hx, e⟩
      ·exact (HSV.out k (.inl e)).imp id .inr
      ·exact (HSV.out k (.inr (.inl e))).imp id .inr
      ·exact .inl (.inr (.inr (.inl e)))
      ·exact .inl (.inr (.inr (.inr (.inl e))))
      ·exact .inl (.inr (.inr (.inr (.inr (.inl e)))))
      ·rcases List.mem_or_eq_of_mem_set hx with hx | hx
       ·exact (HSV.out k (.inr (.inr (.inr (.inr (.inr ⟨x, hx, e⟩)))))).imp id .inr
       ·subst hx
        exact .inr (.inl e)
    ·have hx : (e4 != 0) = true := by rw [bne_iff_ne]; exact he4
     have HH4 : Hid (holdR L D P nf = (D4, P4, e4)) := Lib.hid (by
      rw [HHE.out, if_pos HDT.out]
      exact if_pos he4)
     clear he4
     go_wp2_with fail
     go_ret
     rw [HH4.out]
     exact ⟨rfl, F4, ok4, _, mb, q4, HX4.out, HOV.out, fun k e => (HSV.out k e).imp id .inr⟩
   | false =>
    rw [hdt] at f3
    have HDT : Hid ((fr.getD hd fr0).dirty = false) := Lib.hid (by rw [HPF.out]; exact hdt)
    clear hdt
    go_upto_region 13 with (go_quiet (fail))
    have HX4 : Hid (PX (wr.drewN nq) b0 gp gd wv D Ps F ok (.slice (some ⟨tb, 0, none⟩) q.length c) mb q') := Lib.hid (HXs.out.below (gr_drewN (gr_refl wr) nq))
    have HQ4 := HQ2
    have HOV : Hid (Off (PS gp F ok (.slice (some ⟨tb, 0, none⟩) q.length c) mb q) w (wr.drewN nq)) := Lib.hid (HOS.out.drewN nq)
    have HSV : Hid (∀ k, PS gp F ok (.slice (some ⟨tb, 0, none⟩) q.length c) mb q' k → PS gp F ok (.slice (some ⟨tb, 0, none⟩) q.length c) mb q k ∨ w.heap.size ≤ k) := Lib.hid (fun k e => .inl (HPS.out F ok q' k HQ2.out e))
    have HFRt : Hid ((wr.drewN nq).heap[w.heap.size]? = some (.cells #[.int .i64 (nf.page : Int), .slice Av 4080 cv, .int .i64 nf.lsn, .bool nf.dirty, .bool nf.used] 101 (0, 0))) := Lib.hid HFRr.out
    have HSZ : Hid (w.heap.size ≤ (wr.drewN nq).heap.size) := Lib.hid HOV.out.size
    have HP4 : Hid (Ps.hand = hd ∧ Ps.most = P.most ∧ Ps.pages = P.pages ∧ Ps.fr.map FrS.page = P.fr.map FrS.page) := Lib.hid ⟨HPs.out.1, HPs.out.2.1, HPs.out.2.2.1, HPs.out.2.2.2.1⟩
    have HH4 : Hid (holdR L D P nf = (D, putP Ps nf, 0)) := Lib.hid (by rw [HHE.out, if_neg (by rw [HDT.out]; decide)])
    clear c8 c4 c10 f3 f4
    generalize (wr.drewN nq) = w4 at *
    have HQN4 : Hid (q'.length = q.length) := Lib.hid (by have := congrArg List.length HQ4.out; simpa using this)
    have HPL4 : Hid (Ps.fr.length = q.length) := Lib.hid (by have := congrArg List.length HX4.out.qf; rw [List.length_map] at this; rw [← this, HQN4.out])
    obtain ⟨p4, hp4⟩ : ∃ p4, q'[hd]? = some p4 := ⟨_, List.getElem?_eq_getElem (by rw [HQN4.out]; exact hhd)⟩
    have HP44 := Lib.hid hp4
    have k8 := Lib.hid HX4.out.pb.c8
    have k9 := Lib.hid HX4.out.pb.c9
    have kp := Lib.hid (fr_cells HX4.out.tk hp4).1
    clear hp4
    refine wp_region_any (by kernel_rfl) ?_
    refine' wpAny_to_tail (l0 := #[false, false, false, false, false, false, false, false, false, false, false, false, false]) (by kernel_rfl) (by kernel_rfl) (by kernel_rfl) (by kernel_rfl) (by kernel_rfl)
     [MP.is (.pointer (some ⟨gp, 0, none⟩)), MP.is (.pointer (some ⟨gp, 0, none⟩)), MP.is (.pointer (some ⟨gp, 9, none⟩)), MP.is (.map (some mb)), MP.is (.pointer (some ⟨gp, 0, none⟩)), MP.is (.pointer (some ⟨gp, 0, none⟩)), MP.is (.pointer (some ⟨gp, 8, none⟩)), MP.is (.slice (some ⟨tb, 0, none⟩) q.length c), MP.is (.int .i64 (hd : Int)), MP.is (.pointer (some ⟨tb, hd * 5, none⟩)), MP.is (.pointer (some ⟨tb, hd * 5, none⟩)), MP.is (.int .i64 (p4.1.page : Int)), MP.any]
     (fun j => j == 12) #[true, true, true, true, true, true, true, true, true, true, true, true, false] rfl (by kernel_rfl) rfl (by kernel_rfl) (by kernel_rfl) (by kernel_rfl) (by kernel_rfl) (fun _ => undef) (by rfl) ?hR06 ?hAA6 ?hst6 ?hend6
    case hR06 =>
     intro j hj
     have hj2 : j ∈ [] := hj
     cases hj2
    case hAA6 =>
     intro f
     conv => lhs; simp only [putA, dstOf, List.size_toArray, List.length_cons, List.length_nil, Nat.zero_add, Nat.reduceAdd, List.getElem?_toArray, List.getElem?_cons_zero, List.getElem?_cons_succ, Option.bind_some, Act.put, List.setIfInBounds_toArray, List.set_cons_zero, List.set_cons_succ]
     first | done | exact rfl
    case hst6 =>
     refine Steps.of_list (l' := [0, 1, 2, 3, 4, 5, 6, 7, 8, 9, 10, 11]) (by kernel_rfl) ?_
     refine Steps.cons rfl ?_ ?_
     ·intro f wz hB h K Q hK
      clear h
      try simp only [List.getElem_toArray, List.getElem_cons_zero]
      try rw [if_pos (by rfl)]
      go_simp
      exact hK _ _ (gr_refl _) rfl
     refine Steps.cons rfl ?_ ?_
     ·intro f wz hB h K Q hK
      have h0 : (MP.is (.pointer (some ⟨gp, 0, none⟩))).p (f 0) wz := h 0 (by kernel_rfl)
      have e0 : f 0 = (.pointer (some ⟨gp, 0, none⟩)) := h0
      simp only [e0] at hK ⊢
      clear e0
      clear h
      try rw [if_pos (by rfl)]
      go_simp
      exact hK _ _ (gr_refl _) rfl
     refine Steps.cons rfl ?_ ?_
     ·intro f wz hB h K Q hK
      have h1 : (MP.is (.pointer (some ⟨gp, 0, none⟩))).p (f 1) wz := h 1 (by kernel_rfl)
      have e1 : f 1 = (.pointer (some ⟨gp, 0, none⟩)) := h1
      simp only [e1] at hK ⊢
      clear e1
      clear h
      try rw [if_pos (by rfl)]
      go_simp
      exact hK _ _ (gr_refl _) rfl
     refine Steps.cons rfl ?_ ?_
     ·intro f wz hB h K Q hK
      have h2 : (MP.is (.pointer (some ⟨gp, 9, none⟩))).p (f 2) wz := h 2 (by kernel_rfl)
      have e2 : f 2 = (.pointer (some ⟨gp, 9, none⟩)) := h2
      simp only [e2] at hK ⊢
      clear e2
      clear h
      try rw [if_pos (by rfl)]
      have y0 := keep_of_below hB k8.out
      have y1 := keep_of_below hB k9.out
      have y2 := keep_of_below hB kp.out
      go_simp
      exact hK _ _ (gr_refl _) rfl
     refine Steps.cons rfl ?_ ?_
     ·intro f wz hB h K Q hK
      clear h
      try rw [if_pos (by rfl)]
      go_simp
      exact hK _ _ (gr_refl _) rfl
     refine Steps.cons rfl ?_ ?_
     ·intro f wz hB h K Q hK
      have h4 : (MP.is (.pointer (some ⟨gp, 0, none⟩))).p (f 4) wz := h 4 (by kernel_rfl)
      have e4 : f 4 = (.pointer (some ⟨gp, 0, none⟩)) := h4
      simp only [e4] at hK ⊢
      clear e4
      clear h
      try rw [if_pos (by rfl)]
      go_simp
      exact hK _ _ (gr_refl _) rfl
     refine Steps.cons rfl ?_ ?_
     ·intro f wz hB h K Q hK
      have h5 : (MP.is (.pointer (some ⟨gp, 0, none⟩))).p (f 5) wz := h 5 (by kernel_rfl)
      have e5 : f 5 = (.pointer (some ⟨gp, 0, none⟩)) := h5
      simp only [e5] at hK ⊢
      clear e5
      clear h
      try rw [if_pos (by rfl)]
      go_simp
      exact hK _ _ (gr_refl _) rfl
     refine Steps.cons rfl ?_ ?_
     ·intro f wz hB h K Q hK
      have h6 : (MP.is (.pointer (some ⟨gp, 8, none⟩))).p (f 6) wz := h 6 (by kernel_rfl)
      have e6 : f 6 = (.pointer (some ⟨gp, 8, none⟩)) := h6
      simp only [e6] at hK ⊢
      clear e6
      clear h
      try rw [if_pos (by rfl)]
      have y0 := keep_of_below hB k8.out
      have y1 := keep_of_below hB k9.out
      have y2 := keep_of_below hB kp.out
      go_simp
      exact hK _ _ (gr_refl _) rfl
     refine Steps.cons rfl ?_ ?_
     ·intro f wz hB h K Q hK
      clear h
      try rw [if_pos (by rfl)]
      go_simp
      exact hK _ _ (gr_refl _) rfl
     refine Steps.cons rfl ?_ ?_
     ·intro f wz hB h K Q hK
      have h7 : (MP.is (.slice (some ⟨tb, 0, none⟩) q.length c)).p (f 7) wz := h 7 (by kernel_rfl)
      have e7 : f 7 = (.slice (some ⟨tb, 0, none⟩) q.length c) := h7
      have h8 : (MP.is (.int .i64 (hd : Int))).p (f 8) wz := h 8 (by kernel_rfl)
      have e8 : f 8 = (.int .i64 (hd : Int)) := h8
      simp only [e7, e8] at hK ⊢
      clear e7 e8
      clear h
      try rw [if_pos (by rfl)]
      go_simp
      exact hK _ _ (gr_refl _) rfl
     refine Steps.cons rfl ?_ ?_
     ·intro f wz hB h K Q hK
      have h9 : (MP.is (.pointer (some ⟨tb, hd * 5, none⟩))).p (f 9) wz := h 9 (by kernel_rfl)
      have e9 : f 9 = (.pointer (some ⟨tb, hd * 5, none⟩)) := h9
      simp only [e9] at hK ⊢
      clear e9
      clear h
      try rw [if_pos (by rfl)]
      go_simp
      exact hK _ _ (gr_refl _) rfl
     refine Steps.cons rfl ?_ ?_
     ·intro f wz hB h K Q hK
      have h10 : (MP.is (.pointer (some ⟨tb, hd * 5, none⟩))).p (f 10) wz := h 10 (by kernel_rfl)
      have e10 : f 10 = (.pointer (some ⟨tb, hd * 5, none⟩)) := h10
      simp only [e10] at hK ⊢
      clear e10
      clear h
      try rw [if_pos (by rfl)]
      have y0 := keep_of_below hB k8.out
      have y1 := keep_of_below hB k9.out
      have y2 := keep_of_below hB kp.out
      go_simp
      exact hK _ _ (gr_refl _) rfl
     exact Steps.nil
    intro f w5 hB5 hR
    conv => arg 7; simp only [putL, dstOf, List.size_toArray, List.length_cons, List.length_nil, Nat.zero_add, Nat.reduceAdd, List.getElem?_toArray, List.getElem?_cons_zero, List.getElem?_cons_succ, Option.bind_some, Act.put, List.setIfInBounds_toArray, List.set_cons_zero, List.set_cons_succ, Array.getD_eq_getD_getElem?, Option.getD_some, if_true, if_false, Bool.false_eq_true]
    have e0 : f 0 = (.pointer (some ⟨gp, 0, none⟩)) := hR 0 (by decide) rfl
    have e1 : f 1 = (.pointer (some ⟨gp, 0, none⟩)) := hR 1 (by decide) rfl
    have e2 : f 2 = (.pointer (some ⟨gp, 9, none⟩)) := hR 2 (by decide) rfl
    have e3 : f 3 = (.map (some mb)) := hR 3 (by decide) rfl
    have e4 : f 4 = (.pointer (some ⟨gp, 0, none⟩)) := hR 4 (by decide) rfl
    have e5 : f 5 = (.pointer (some ⟨gp, 0, none⟩)) := hR 5 (by decide) rfl
    have e6 : f 6 = (.pointer (some ⟨gp, 8, none⟩)) := hR 6 (by decide) rfl
    have e7 : f 7 = (.slice (some ⟨tb, 0, none⟩) q.length c) := hR 7 (by decide) rfl
    have e8 : f 8 = (.int .i64 (hd : Int)) := hR 8 (by decide) rfl
    have e9 : f 9 = (.pointer (some ⟨tb, hd * 5, none⟩)) := hR 9 (by decide) rfl
    have e10 : f 10 = (.pointer (some ⟨tb, hd * 5, none⟩)) := hR 10 (by decide) rfl
    have e11 : f 11 = (.int .i64 (p4.1.page : Int)) := hR 11 (by decide) rfl
    simp only [e0, e1, e2, e3, e4, e5, e6, e7, e8, e9, e10, e11]
    clear e0 e1 e2 e3 e4 e5 e6 e7 e8 e9 e10 e11 hR
    have HB5 : Hid (Below w4.heap.size w4 w5) := Lib.hid (Below.trans (gr_drewN (gr_refl w4) 1) hB5)
    have HX5 := Lib.hid (HX4.out.below HB5.out)
    have HPA : Hid ((Ps.fr.map FrS.page)[hd]? = some p4.1.page) := Lib.hid (by
     rw [← HX5.out.qf, List.getElem?_map, List.getElem?_map, HP44.out]
     rfl)
    have hpl4 : p4.1.page ≤ 4096 := by
     have h1 := HX5.out.pi.fit
     have h2 := HX5.out.pi.d2
     have h3 := (HX5.out.pi.ok p4.1 (by rw [← HX5.out.qf]; exact List.mem_map_of_mem (List.mem_of_getElem? HP44.out))).1
     omega
    obtain ⟨n4, hn4⟩ : ∃ n4, q.length = n4 + 1 := ⟨q.length - 1, by omega⟩
    have hmp5 := HX5.out.mp
    rw [HPL4.out, hn4] at hmp5
    have hat : idxF (Ps.fr.map FrS.page) (p4.1.page : Int) = some (hd : Int) := by
     unfold idxF
     rw [if_neg (by omega), Int.toNat_natCast, (idx_some HX5.out.pi.nd).2 HPA.out]
     rfl
    obtain ⟨w6, hdel, hmq6, hgr6⟩ := hmp5.del (k := (p4.1.page : Int)) (by omega) (by omega) hat 0
    have HMQ6 := Lib.hid hmq6
    have HGR6 := Lib.hid hgr6
    have HN4 := Lib.hid hn4
    clear hmp5 hat hmq6 hgr6 hB5 k8 k9 kp hn4
    refine wpAny_of_held (S := fun _ => True) _ _ _ _ ?_
    refine wpAnyH_ready (rs := [12]) (by kernel_rfl) (by simp) ?_
    refine AllReadyH.cons rfl (fun KK hK => ?_) AllReadyH.nil
    rw [if_pos (by rfl)]
    go_simp
    refine hK.out _ _ trivial (fun _ => ?_)
    clear hK KK
    try simp only [List.setIfInBounds_toArray, List.set_cons_zero, List.set_cons_succ]
    refine wpAnyH_done (by kernel_rfl) ?_ _
    clear hdel
    have o56 : Hid (Off (· = mb) w5 w6) := Lib.hid (Off.of_grown HGR6.out (fun k e => by injection e with e; exact e.symm))
    have HPB6 : Hid (PB w6 gp gd wv false (.slice (some ⟨tb, 0, none⟩) q.length c) mb Ps) := Lib.hid (HX5.out.pb.off o56.out (fun e => HX5.out.mp.notCells HX5.out.pb e.symm))
    have HTK6 : Hid (EO EF 5 101 w6 b0 (.slice (some ⟨tb, 0, none⟩) q.length c) q') := Lib.hid (ownsRow_off HX5.out.tk o56.out (fun k hk e => by
     obtain ⟨cur, hc⟩ := own_blk HX5.out.tk hk
     exact HX5.out.mp.notCells hc e.symm))
    have HFV5 : Hid (OB w5 b0 (.slice Av 4080 cv) nf.pay) := Lib.hid ((HF.out.ow.off HOV.out (fun k e e2 => HDJ.out k e e2)).below HB5.out)
    have HDV5 : Hid (DV w5 b0 gd F ok D (q' ++ [(nf, .slice Av 4080 cv)])) := Lib.hid ⟨HX5.out.dk, fun x hx => by
     rcases List.mem_append.1 hx with hx | hx
     ·exact HX5.out.pv x hx
     ·rw [List.mem_singleton.1 hx]
      exact HFV5.out⟩
    have HDV6 := Lib.hid (HDV5.out.nb o56.out (fun k e => by rw [e]; exact HX5.out.mp.nb))
    have HFR6 : Hid (w6.heap[w.heap.size]? = some (.cells #[.int .i64 (nf.page : Int), .slice Av 4080 cv, .int .i64 nf.lsn, .bool nf.dirty, .bool nf.used] 101 (0, 0))) := Lib.hid (by
     have h2 := (HB5.out.block _ (Array.getElem?_eq_some_iff.1 HFRt.out).1).trans HFRt.out
     exact (HGR6.out.block _ (Array.getElem?_eq_some_iff.1 h2).1 (fun e => HX5.out.mp.notCells h2 (Option.some.inj e).symm)).trans h2)
    have kf : ∀ j u, #[.int .i64 (nf.page : Int), .slice Av 4080 cv, .int .i64 nf.lsn, .bool nf.dirty, .bool nf.used][j]? = some u → w6.cell? ⟨w.heap.size, j, none⟩ = some u := fun j u hj => by rw [cell_of_row w6 _ j _ _ _ HFR6.out]; exact hj
    have kf0 := Lib.hid (kf 0 _ rfl)
    have kf1 := Lib.hid (kf 1 _ rfl)
    have kf2 := Lib.hid (kf 2 _ rfl)
    have kf3 := Lib.hid (kf 3 _ rfl)
    have kf4 := Lib.hid (kf 4 _ rfl)
    have k8 := Lib.hid HPB6.out.c8
    clear kf
    go_upto_region 14 with fail
    refine wp_region_any (by kernel_rfl) ?_
    refine' wpAny_to_tail (l0 := #[false, false, false, false, false, false, false, false]) (by kernel_rfl) (by kernel_rfl) (by kernel_rfl) (by kernel_rfl) (by kernel_rfl)
     [MP.is (.pointer (some ⟨gp, 0, none⟩)), MP.is (.pointer (some ⟨gp, 0, none⟩)), MP.is (.pointer (some ⟨gp, 8, none⟩)), MP.is (.slice (some ⟨tb, 0, none⟩) q.length c), MP.is (.int .i64 (hd : Int)), MP.is (.agg #[.int .i64 (nf.page : Int), .slice Av 4080 cv, .int .i64 nf.lsn, .bool nf.dirty, .bool nf.used]), MP.is (.pointer (some ⟨tb, hd * 5, none⟩)), MP.any]
     (fun j => j == 7) #[true, true, true, true, true, true, true, false] rfl (by kernel_rfl) rfl (by kernel_rfl) (by kernel_rfl) (by kernel_rfl) (by kernel_rfl) (fun _ => undef) (by rfl) ?hR07 ?hAA7 ?hst7 ?hend7
    case hR07 =>
     intro j hj
     have hj2 : j ∈ [] := hj
     cases hj2
    case hAA7 =>
     intro f
     conv => lhs; simp only [putA, dstOf, List.size_toArray, List.length_cons, List.length_nil, Nat.zero_add, Nat.reduceAdd, List.getElem?_toArray, List.getElem?_cons_zero, List.getElem?_cons_succ, Option.bind_some, Act.put, List.setIfInBounds_toArray, List.set_cons_zero, List.set_cons_succ]
     first | done | exact rfl
    case hst7 =>
     refine Steps.of_list (l' := [0, 1, 2, 3, 4, 5, 6]) (by kernel_rfl) ?_
     refine Steps.cons rfl ?_ ?_
     ·intro f wz hB h K Q hK
      clear h
      try simp only [List.getElem_toArray, List.getElem_cons_zero]
      try rw [if_pos (by rfl)]
      go_simp
      exact hK _ _ (gr_refl _) rfl
     refine Steps.cons rfl ?_ ?_
     ·intro f wz hB h K Q hK
      have h0 : (MP.is (.pointer (some ⟨gp, 0, none⟩))).p (f 0) wz := h 0 (by kernel_rfl)
      have e0 : f 0 = (.pointer (some ⟨gp, 0, none⟩)) := h0
      simp only [e0] at hK ⊢
      clear e0
      clear h
      try rw [if_pos (by rfl)]
      go_simp
      exact hK _ _ (gr_refl _) rfl
     refine Steps.cons rfl ?_ ?_
     ·intro f wz hB h K Q hK
      have h1 : (MP.is (.pointer (some ⟨gp, 0, none⟩))).p (f 1) wz := h 1 (by kernel_rfl)
      have e1 : f 1 = (.pointer (some ⟨gp, 0, none⟩)) := h1
      simp only [e1] at hK ⊢
      clear e1
      clear h
      try rw [if_pos (by rfl)]
      go_simp
      exact hK _ _ (gr_refl _) rfl
     refine Steps.cons rfl ?_ ?_
     ·intro f wz hB h K Q hK
      have h2 : (MP.is (.pointer (some ⟨gp, 8, none⟩))).p (f 2) wz := h 2 (by kernel_rfl)
      have e2 : f 2 = (.pointer (some ⟨gp, 8, none⟩)) := h2
      simp only [e2] at hK ⊢
      clear e2
      clear h
      try rw [if_pos (by rfl)]
      have y0 := keep_of_below hB k8.out
      have y1 := keep_of_below hB kf0.out
      have y2 := keep_of_below hB kf1.out
      have y3 := keep_of_below hB kf2.out
      have y4 := keep_of_below hB kf3.out
      have y5 := keep_of_below hB kf4.out
      go_simp
      exact hK _ _ (gr_refl _) rfl
     refine Steps.cons rfl ?_ ?_
     ·intro f wz hB h K Q hK
      clear h
      try rw [if_pos (by rfl)]
      go_simp
      exact hK _ _ (gr_refl _) rfl
     refine Steps.cons rfl ?_ ?_
     ·intro f wz hB h K Q hK
      clear h
      try rw [if_pos (by rfl)]
      have y0 := keep_of_below hB k8.out
      have y1 := keep_of_below hB kf0.out
      have y2 := keep_of_below hB kf1.out
      have y3 := keep_of_below hB kf2.out
      have y4 := keep_of_below hB kf3.out
      have y5 := keep_of_below hB kf4.out
      go_simp
      exact hK _ _ (gr_refl _) rfl
     refine Steps.cons rfl ?_ ?_
     ·intro f wz hB h K Q hK
      have h3 : (MP.is (.slice (some ⟨tb, 0, none⟩) q.length c)).p (f 3) wz := h 3 (by kernel_rfl)
      have e3 : f 3 = (.slice (some ⟨tb, 0, none⟩) q.length c) := h3
      have h4 : (MP.is (.int .i64 (hd : Int))).p (f 4) wz := h 4 (by kernel_rfl)
      have e4 : f 4 = (.int .i64 (hd : Int)) := h4
      simp only [e3, e4] at hK ⊢
      clear e3 e4
      clear h
      try rw [if_pos (by rfl)]
      go_simp
      exact hK _ _ (gr_refl _) rfl
     exact Steps.nil
    intro f w8 hB8 hR
    conv => arg 7; simp only [putL, dstOf, List.size_toArray, List.length_cons, List.length_nil, Nat.zero_add, Nat.reduceAdd, List.getElem?_toArray, List.getElem?_cons_zero, List.getElem?_cons_succ, Option.bind_some, Act.put, List.setIfInBounds_toArray, List.set_cons_zero, List.set_cons_succ, Array.getD_eq_getD_getElem?, Option.getD_some, if_true, if_false, Bool.false_eq_true]
    have e0 : f 0 = (.pointer (some ⟨gp, 0, none⟩)) := hR 0 (by decide) rfl
    have e1 : f 1 = (.pointer (some ⟨gp, 0, none⟩)) := hR 1 (by decide) rfl
    have e2 : f 2 = (.pointer (some ⟨gp, 8, none⟩)) := hR 2 (by decide) rfl
    have e3 : f 3 = (.slice (some ⟨tb, 0, none⟩) q.length c) := hR 3 (by decide) rfl
    have e4 : f 4 = (.int .i64 (hd : Int)) := hR 4 (by decide) rfl
    have e5 : f 5 = (.agg #[.int .i64 (nf.page : Int), .slice Av 4080 cv, .int .i64 nf.lsn, .bool nf.dirty, .bool nf.used]) := hR 5 (by decide) rfl
    have e6 : f 6 = (.pointer (some ⟨tb, hd * 5, none⟩)) := hR 6 (by decide) rfl
    simp only [e0, e1, e2, e3, e4, e5, e6]
    clear e0 e1 e2 e3 e4 e5 e6 hR
    have HB8 : Hid (Below w6.heap.size w6 w8) := Lib.hid (Below.trans (gr_drewN (gr_refl w6) 1) hB8)
    have HTK8 := Lib.hid (EO.below HTK6.out HB8.out)
    obtain ⟨x0, x1, x2, x3, x4⟩ := fr_cells HTK8.out HP44.out
    have y0 := own_frz HTK8.out (hd * 5)
    have y1 := own_frz HTK8.out (hd * 5 + 1)
    have y2 := own_frz HTK8.out (hd * 5 + 2)
    have y3 := own_frz HTK8.out (hd * 5 + 3)
    have y4 := own_frz HTK8.out (hd * 5 + 4)
    have HTK9 : Hid (EO EF 5 101 (((((w8.setCell ⟨tb, hd * 5, none⟩ (.int .i64 (nf.page : Int))).setCell ⟨tb, hd * 5 + 1, none⟩ (.slice Av 4080 cv)).setCell ⟨tb, hd * 5 + 2, none⟩ (.int .i64 nf.lsn)).setCell ⟨tb, hd * 5 + 3, none⟩ (.bool nf.dirty)).setCell ⟨tb, hd * 5 + 4, none⟩ (.bool nf.used)) b0 (.slice (some ⟨tb, 0, none⟩) q.length c) (q'.set hd (nf, .slice Av 4080 cv))) := Lib.hid (fr_setF HTK8.out HP44.out (nf, .slice Av 4080 cv))
    have o89 : Hid (Off (· = tb) w8 (((((w8.setCell ⟨tb, hd * 5, none⟩ (.int .i64 (nf.page : Int))).setCell ⟨tb, hd * 5 + 1, none⟩ (.slice Av 4080 cv)).setCell ⟨tb, hd * 5 + 2, none⟩ (.int .i64 nf.lsn)).setCell ⟨tb, hd * 5 + 3, none⟩ (.bool nf.dirty)).setCell ⟨tb, hd * 5 + 4, none⟩ (.bool nf.used))) := Lib.hid (fr_setF_off w8 tb hd (nf, .slice Av 4080 cv))
    clear k8 kf0 kf1 kf2 kf3 kf4 hB8
    refine wpAny_of_held (S := fun _ => True) _ _ _ _ ?_
    refine wpAnyH_ready (rs := [7]) (by kernel_rfl) (by simp) ?_
    refine AllReadyH.cons rfl (fun KK hK => ?_) AllReadyH.nil
    rw [if_pos (by rfl)]
    go_simp
    refine hK.out _ _ trivial (fun _ => ?_)
    clear hK KK
    try simp only [List.setIfInBounds_toArray, List.set_cons_zero, List.set_cons_succ]
    refine wpAnyH_done (by kernel_rfl) ?_ _
    clear x0 x1 x2 x3 x4 y0 y1 y2 y3 y4
    generalize (((((w8.setCell ⟨tb, hd * 5, none⟩ (.int .i64 (nf.page : Int))).setCell ⟨tb, hd * 5 + 1, none⟩ (.slice Av 4080 cv)).setCell ⟨tb, hd * 5 + 2, none⟩ (.int .i64 nf.lsn)).setCell ⟨tb, hd * 5 + 3, none⟩ (.bool nf.dirty)).setCell ⟨tb, hd * 5 + 4, none⟩ (.bool nf.used)) = w9 at *
    have hntb : ∀ (k : Nat) (cs : Array Value) (t : TypeId) (r : Nat × Nat), w8.heap[k]? = some (.cells cs t r) → t ≠ 101 → k ≠ tb := fun k cs t r hc hn e => by
     subst e
     obtain ⟨cur, hc2⟩ := own_blk HTK8.out rfl
     rw [hc] at hc2
     injection hc2 with hc2
     injection hc2 with _ hc2 _
     exact hn hc2
    have HPB8 := Lib.hid (HPB6.out.below HB8.out)
    have HPB9 : Hid (PB w9 gp gd wv false (.slice (some ⟨tb, 0, none⟩) q.length c) mb Ps) := Lib.hid (HPB8.out.off o89.out (hntb _ _ _ _ HPB8.out (by decide)))
    have HMQ8 := Lib.hid (HMQ6.out.below HB8.out)
    have HMQ9 := Lib.hid (HMQ8.out.off o89.out (fun e => by obtain ⟨cur, hc2⟩ := own_blk HTK8.out rfl; exact HMQ8.out.notCells hc2 e))
    have HDV9 := Lib.hid ((HDV6.out.below HB8.out).nb o89.out (fun k e => by rw [e]; exact EO.nb HTK8.out rfl))
    have HFR9 : Hid (w9.heap[w.heap.size]? = some (.cells #[.int .i64 (nf.page : Int), .slice Av 4080 cv, .int .i64 nf.lsn, .bool nf.dirty, .bool nf.used] 101 (0, 0))) := Lib.hid (by
     have h2 := (HB8.out.block _ (Array.getElem?_eq_some_iff.1 HFR6.out).1).trans HFR6.out
     exact (o89.out.block _ (Array.getElem?_eq_some_iff.1 h2).1 (fun e => by have := HTB.out.1; omega)).trans h2)
    have kf0 : Hid (w9.cell? ⟨w.heap.size, 0, none⟩ = some (.int .i64 (nf.page : Int))) := Lib.hid (by rw [cell_of_row w9 _ 0 _ _ _ HFR9.out]; rfl)
    have k9 := Lib.hid HPB9.out.c9
    clear hntb
    go_upto_region 15 with fail
    refine wp_region_any (by kernel_rfl) ?_
    refine' wpAny_to_tail (l0 := #[false, false, false, false, false, false, false, false]) (by kernel_rfl) (by kernel_rfl) (by kernel_rfl) (by kernel_rfl) (by kernel_rfl)
     [MP.is (.pointer (some ⟨gp, 0, none⟩)), MP.is (.pointer (some ⟨gp, 0, none⟩)), MP.is (.pointer (some ⟨gp, 9, none⟩)), MP.is (.map (some mb)), MP.is (.pointer (some ⟨w.heap.size, 0, none⟩)), MP.is (.int .i64 (nf.page : Int)), MP.is (.int .i64 (hd : Int)), MP.any]
     (fun j => j == 7) #[true, true, true, true, true, true, true, false] rfl (by kernel_rfl) rfl (by kernel_rfl) (by kernel_rfl) (by kernel_rfl) (by kernel_rfl) (fun _ => undef) (by rfl) ?hR08 ?hAA8 ?hst8 ?hend8
    case hR08 =>
     intro j hj
     have hj2 : j ∈ [] := hj
     cases hj2
    case hAA8 =>
     intro f
     conv => lhs; simp only [putA, dstOf, List.size_toArray, List.length_cons, List.length_nil, Nat.zero_add, Nat.reduceAdd, List.getElem?_toArray, List.getElem?_cons_zero, List.getElem?_cons_succ, Option.bind_some, Act.put, List.setIfInBounds_toArray, List.set_cons_zero, List.set_cons_succ]
     first | done | exact rfl
    case hst8 =>
     refine Steps.of_list (l' := [0, 1, 2, 3, 4, 5, 6]) (by kernel_rfl) ?_
     refine Steps.cons rfl ?_ ?_
     ·intro f wz hB h K Q hK
      clear h
      try simp only [List.getElem_toArray, List.getElem_cons_zero]
      try rw [if_pos (by rfl)]
      go_simp
      exact hK _ _ (gr_refl _) rfl
     refine Steps.cons rfl ?_ ?_
     ·intro f wz hB h K Q hK
      have h0 : (MP.is (.pointer (some ⟨gp, 0, none⟩))).p (f 0) wz := h 0 (by kernel_rfl)
      have e0 : f 0 = (.pointer (some ⟨gp, 0, none⟩)) := h0
      simp only [e0] at hK ⊢
      clear e0
      clear h
      try rw [if_pos (by rfl)]
      go_simp
      exact hK _ _ (gr_refl _) rfl
     refine Steps.cons rfl ?_ ?_
     ·intro f wz hB h K Q hK
      have h1 : (MP.is (.pointer (some ⟨gp, 0, none⟩))).p (f 1) wz := h 1 (by kernel_rfl)
      have e1 : f 1 = (.pointer (some ⟨gp, 0, none⟩)) := h1
      simp only [e1] at hK ⊢
      clear e1
      clear h
      try rw [if_pos (by rfl)]
      go_simp
      exact hK _ _ (gr_refl _) rfl
     refine Steps.cons rfl ?_ ?_
     ·intro f wz hB h K Q hK
      have h2 : (MP.is (.pointer (some ⟨gp, 9, none⟩))).p (f 2) wz := h 2 (by kernel_rfl)
      have e2 : f 2 = (.pointer (some ⟨gp, 9, none⟩)) := h2
      simp only [e2] at hK ⊢
      clear e2
      clear h
      try rw [if_pos (by rfl)]
      have y0 := keep_of_below hB k9.out
      have y1 := keep_of_below hB kf0.out
      go_simp
      exact hK _ _ (gr_refl _) rfl
     refine Steps.cons rfl ?_ ?_
     ·intro f wz hB h K Q hK
      clear h
      try rw [if_pos (by rfl)]
      go_simp
      exact hK _ _ (gr_refl _) rfl
     refine Steps.cons rfl ?_ ?_
     ·intro f wz hB h K Q hK
      have h4 : (MP.is (.pointer (some ⟨w.heap.size, 0, none⟩))).p (f 4) wz := h 4 (by kernel_rfl)
      have e4 : f 4 = (.pointer (some ⟨w.heap.size, 0, none⟩)) := h4
      simp only [e4] at hK ⊢
      clear e4
      clear h
      try rw [if_pos (by rfl)]
      have y0 := keep_of_below hB k9.out
      have y1 := keep_of_below hB kf0.out
      go_simp
      exact hK _ _ (gr_refl _) rfl
     refine Steps.cons rfl ?_ ?_
     ·intro f wz hB h K Q hK
      clear h
      try rw [if_pos (by rfl)]
      go_simp
      exact hK _ _ (gr_refl _) rfl
     exact Steps.nil
    intro f w10 hB10 hR
    conv => arg 7; simp only [putL, dstOf, List.size_toArray, List.length_cons, List.length_nil, Nat.zero_add, Nat.reduceAdd, List.getElem?_toArray, List.getElem?_cons_zero, List.getElem?_cons_succ, Option.bind_some, Act.put, List.setIfInBounds_toArray, List.set_cons_zero, List.set_cons_succ, Array.getD_eq_getD_getElem?, Option.getD_some, if_true, if_false, Bool.false_eq_true]
    have e0 : f 0 = (.pointer (some ⟨gp, 0, none⟩)) := hR 0 (by decide) rfl
    have e1 : f 1 = (.pointer (some ⟨gp, 0, none⟩)) := hR 1 (by decide) rfl
    have e2 : f 2 = (.pointer (some ⟨gp, 9, none⟩)) := hR 2 (by decide) rfl
    have e3 : f 3 = (.map (some mb)) := hR 3 (by decide) rfl
    have e4 : f 4 = (.pointer (some ⟨w.heap.size, 0, none⟩)) := hR 4 (by decide) rfl
    have e5 : f 5 = (.int .i64 (nf.page : Int)) := hR 5 (by decide) rfl
    have e6 : f 6 = (.int .i64 (hd : Int)) := hR 6 (by decide) rfl
    simp only [e0, e1, e2, e3, e4, e5, e6]
    clear e0 e1 e2 e3 e4 e5 e6 hR
    have HB10 : Hid (Below w9.heap.size w9 w10) := Lib.hid (Below.trans (gr_drewN (gr_refl w9) 1) hB10)
    have HMQ10 := Lib.hid (HMQ9.out.below HB10.out)
    have HPB10 := Lib.hid (HPB9.out.below HB10.out)
    have HTK10 := Lib.hid (EO.below HTK9.out HB10.out)
    have hpl : nf.page ≤ 4096 := by
     have h1 := HX5.out.pi.fit
     have h2 := HX5.out.pi.d2
     have h3 := HF.out.pg
     have h4 := HP4.out.2.2.1
     omega
    have hno : remM (idxF (Ps.fr.map FrS.page)) (p4.1.page : Int) (nf.page : Int) = none := by
     unfold remM
     split
     ·rfl
     ·rw [idxF_at, (findP_none Ps nf.page).2 (by rw [HP4.out.2.2.2]; exact HF.out.no)]
      rfl
    obtain ⟨w11, hput, hmq11, hgr11⟩ := HMQ10.out.put (k := (nf.page : Int)) (v := (hd : Int)) (by omega) (by omega) (by omega) (by omega) hno (by have := HN4.out; simp only [maxLen]; omega)
    have HMQ11 := Lib.hid hmq11
    have HGR11 := Lib.hid hgr11
    clear hno hmq11 hgr11 hB10 kf0 k9
    refine wpAny_of_held (S := fun _ => True) _ _ _ _ ?_
    refine wpAnyH_ready (rs := [7]) (by kernel_rfl) (by simp) ?_
    refine AllReadyH.cons rfl (fun KK hK => ?_) AllReadyH.nil
    rw [if_pos (by rfl)]
    go_simp
    refine hK.out _ _ trivial (fun _ => ?_)
    clear hK KK
    try simp only [List.setIfInBounds_toArray, List.set_cons_zero, List.set_cons_succ]
    refine wpAnyH_done (by kernel_rfl) ?_ _
    clear hput
    have o1011 : Hid (Off (· = mb) w10 w11) := Lib.hid (Off.of_grown HGR11.out (fun k e => by injection e with e; exact e.symm))
    have HPB11 : Hid (PB w11 gp gd wv false (.slice (some ⟨tb, 0, none⟩) q.length c) mb Ps) := Lib.hid (HPB10.out.off o1011.out (fun e => HMQ10.out.notCells HPB10.out e.symm))
    have HTK11 : Hid (EO EF 5 101 w11 b0 (.slice (some ⟨tb, 0, none⟩) q.length c) (q'.set hd (nf, .slice Av 4080 cv))) := Lib.hid (ownsRow_off HTK10.out o1011.out (fun k hk e => by
     obtain ⟨cur, hc⟩ := own_blk HTK10.out hk
     exact HMQ10.out.notCells hc e.symm))
    have HDV11 := Lib.hid ((HDV9.out.below HB10.out).nb o1011.out (fun k e => by rw [e]; exact HMQ10.out.nb))
    have k4 : w11.cell? ⟨gp, 4, none⟩ = some (.int .i64 (P.most : Int)) := by have := HPB11.out.c4; rwa [HP4.out.2.1] at this
    have k10 := HPB11.out.c10
    have z10 := HPB11.out.frozen 10
    have hwp : IntKind.i64.wrap ((hd : Int) + 1) = (hd : Int) + 1 := by rw [IntKind.wrap_i64]; omega
    have hm0 : ¬ P.most = 0 := by omega
    obtain ⟨nx, hnx⟩ : ∃ nx, nx = (hd + 1) % P.most := ⟨_, rfl⟩
    have hrem : ((hd : Int) + 1).tmod (P.most : Int) = (nx : Int) := by
     rw [Int.tmod_eq_emod_of_nonneg (by omega), hnx, Int.natCast_emod, Int.natCast_add]
     rfl
    have hnl : nx < P.most := by rw [hnx]; exact Nat.mod_lt _ (by omega)
    have hwn : IntKind.i64.wrap (nx : Int) = (nx : Int) := by rw [IntKind.wrap_i64]; omega
    have HNX := Lib.hid hnx
    clear hnx
    go_wp2_with fail
    go_ret
    have hpq : putP Ps nf = { Ps with fr := Ps.fr.set hd nf, hand := nx } := by
     unfold putP
     rw [HP4.out.1, HP4.out.2.1, ← HNX.out]
    have hpi := HX4.out.pi.put (f := nf) (by rw [HPL4.out, HP4.out.2.1]; exact HMQ.out) (by rw [HP4.out.2.2.1]; exact HF.out.pg) HF.out.len HF.out.l1 HF.out.l2 (by rw [HP4.out.2.2.2]; exact HF.out.no)
    rw [hpq] at hpi
    have o12 : Off (· = gp) w11 (w11.setCell ⟨gp, 10, none⟩ (.int .i64 (nx : Int))) := (Off.refl _ w11).setCell _ rfl
    have hdv := HDV11.out.nb o12 (fun k e => by rw [e]; exact HPB11.out.nb)
    have hmq12 := HMQ11.out.off o12 (HMQ11.out.notCells HPB11.out)
    rw [idxF_swap HX4.out.pi.nd (by rw [HP4.out.2.2.2]; exact HF.out.no) HPA.out, ← HN4.out, ← HPL4.out] at hmq12
    have htk12 : EO EF 5 101 (w11.setCell ⟨gp, 10, none⟩ (.int .i64 (nx : Int))) b0 (.slice (some ⟨tb, 0, none⟩) q.length c) (q'.set hd (nf, .slice Av 4080 cv)) := ownsRow_off HTK11.out o12 (fun k e e2 => by
     obtain ⟨cur, hc⟩ := own_blk HTK11.out e
     subst e2
     exact cells_ne HPB11.out hc (by decide))
    rw [HH4.out, hpq]
    refine ⟨rfl, F, ok, _, mb, q'.set hd (nf, .slice Av 4080 cv), ⟨hdv.1, HPB11.out.s10 nx, htk12, ?_, fun x hx => ?_, ?_, hpi, HX4.out.bp, HX4.out.bm, fun k e => ?_⟩, ?_, fun k e => ?_⟩
    ·rw [List.map_set, HX4.out.qf]
    ·rcases List.mem_or_eq_of_mem_set hx with hx | hx
     ·exact hdv.2 x (List.mem_append.2 (.inl hx))
     ·exact hdv.2 x (List.mem_append.2 (.inr (List.mem_singleton.2 hx)))
    ·show MQ _ mb (Ps.fr.set hd nf).length (idxF ((Ps.fr.set hd nf).map FrS.page))
     rw [List.length_set, List.map_set]
     exact hmq12
    ·exact Nat.lt_of_lt_of_le (HX4.out.os k e) (Nat.le_trans HB5.out.size (Nat.le_trans o56.out.size (Nat.le_trans HB8.out.size (Nat.le_trans o89.out.size (Nat.le_trans HB10.out.size (Nat.le_trans o1011.out.size o12.size))))))
    ·have tbS : ∀ k, k = tb → PS gp F ok (.slice (some ⟨tb, 0, none⟩) q.length c) mb q k := fun k e => by
      subst e
      exact .inr (.inr (.inr (.inr (.inl rfl))))
     exact HOV.out.trans ((Off.of_below HB5.out).trans ((o56.out.mono fun k _ e => .inr (.inr (.inr (.inl e)))).trans ((Off.of_below HB8.out).trans ((o89.out.mono fun k _ e => tbS k e).trans ((Off.of_below HB10.out).trans ((o1011.out.mono fun k _ e => .inr (.inr (.inr (.inl e)))).trans (o12.mono fun k _ e => .inr (.inr (.inl e)))))))))
    ·rcases e with e | e | e | e | e | ⟨x, hx, e⟩
     ·exact (HSV.out k (.inl e)).imp id .inr
     ·exact (HSV.out k (.inr (.inl e))).imp id .inr
     ·exact .inl (.inr (.inr (.inl e)))
     ·exact .inl (.inr (.inr (.inr (.inl e))))
     ·exact .inl (.inr (.inr (.inr (.inr (.inl e)))))
     ·rcases List.mem_or_eq_of_mem_set hx with hx | hx
      ·exact (HSV.out k (.inr (.inr (.inr (.inr (.inr ⟨x, hx, e⟩)))))).imp id .inr
      ·subst hx
       exact .inr (.inl e)
end Go.Proofs.YtmdgnjmhbjdlmaaGreat

/-! PoF -/
namespace Go.Proofs.YtmdgnjmhbjdlmaaGreat
open Go Go.RowKit Go.Maps
theorem lastL_len {bs : List (List UInt8)} {b n : Nat} : ∀ {ps : List (Nat × List UInt8)}, (bs.getD b []).length = n → (∀ p ∈ ps, p.2.length = n) → (lastL bs ps b).length = n := by
 intro ps h0 h
 unfold lastL
 generalize bs.getD b [] = z at h0
 induction ps generalizing z with
 | nil => exact h0
 | cons p ps ih =>
  simp only [List.foldl_cons]
  refine ih (fun q hq => h q (by simp [hq])) _ ?_
  split
  ·exact h p (by simp)
  ·exact h0
theorem IsD.lens {w : World} {ok : Nat → Prop} {base g : Nat} {F : Nat → Prop} {D : DiskS} (h : IsD w ok base g F D) : (∀ b, b < D.blocks.length → (D.blocks.getD b []).length = 4096) ∧ ∀ p ∈ D.pending, p.2.length = 4096 ∧ p.1 < D.blocks.length := by
 obtain ⟨dr, dc, pv, dvs, pvs, hd, _⟩ := h
 constructor
 ·intro b hb
  have h1 : b < dvs.length := by rw [hd.dl]; exact hb
  have := (hd.dv b dvs[b] D.blocks[b] (List.getElem?_eq_getElem h1) (List.getElem?_eq_getElem hb)).1
  rw [List.getD_eq_getElem?_getD, List.getElem?_eq_getElem hb]
  exact this
 ·intro p hp
  obtain ⟨i, hi, rfl⟩ := List.getElem_of_mem hp
  have h1 : i < pvs.length := by rw [hd.pl]; exact hi
  have := hd.pw i pvs[i] D.pending[i] (List.getElem?_eq_getElem h1) (List.getElem?_eq_getElem hi)
  exact ⟨this.2.2.1, this.2.1⟩
theorem IsD.blk_len {w : World} {ok : Nat → Prop} {base g : Nat} {F : Nat → Prop} {D : DiskS} (h : IsD w ok base g F D) {b : Nat} (hb : b < D.blocks.length) : (lastL D.blocks D.pending b).length = 4096 :=
 lastL_len (h.lens.1 b hb) (fun p hp => (h.lens.2 p hp).1)
theorem phold_any {w : World} {b0 gp gd mb : Nat} {wv tv : Value} {D : DiskS} {P : PoS} {F ok : Nat → Prop} {q : List FV} {L : Option Int} (X : PX w b0 gp gd wv D P F ok tv mb q) (hl : LogV w wv L (PS gp F ok tv mb q)) (nf : FrS) (Av : Option Addr) (cv : Nat) (hf : NewF w b0 P nf (.slice Av 4080 cv)) (hdj : ∀ k, (Value.slice Av 4080 cv).ownBlock = some k → ¬ PS gp F ok tv mb q k) (hpd : D.pending.length ≤ 900000) (hct : P.count ≤ 1152921504606846976) (hbs : b0 ≤ w.heap.size) :
  Calls Tryz.prog 54 #[.pointer (some ⟨gp, 0, none⟩), .agg #[.int .i64 (nf.page : Int), .slice Av 4080 cv, .int .i64 nf.lsn, .bool nf.dirty, .bool nf.used]] w fun e w' => e = .returned (.int .i64 (holdR L D P nf).2.2) ∧ PStepV w b0 gp gd wv (PS gp F ok tv mb q) (.slice Av 4080 cv) (holdR L D P nf).1 (holdR L D P nf).2.1 w' := by
 by_cases hr : P.fr.length < P.most
 ·have e : holdR L D P nf = (D, pushP P nf, 0) := by
   unfold holdR
   rw [if_pos hr]
  rw [e]
  exact phold_room X nf _ hf hr hbs
 ·exact phold_full X hl nf Av cv hf hdj hr hpd hct
def GPost (w : World) (b0 gp gd : Nat) (wv : Value) (S : Nat → Prop) (r : Res) (l : List UInt8) (e : Ending) (w' : World) : Prop :=
 ∃ v, e = .returned (.tuple #[v, .int .i64 r.2.2]) ∧ OB w' w.heap.size v l ∧ ∃ F ok tv mb q, PX w' b0 gp gd wv r.1 r.2.1 F ok tv mb q ∧ Off S w w' ∧ (∀ k, PS gp F ok tv mb q k → S k ∨ w.heap.size ≤ k) ∧ ∀ k, v.ownBlock = some k → ¬ PS gp F ok tv mb q k
def MP.rt (base n : Nat) (r : Int) (l : List UInt8) : MP := ⟨fun v w => ∃ A c, v = .tuple #[.slice A n c, .int .i64 r] ∧ OB w base (.slice A n c) l, fun _ _ _ hb ⟨A, c, e, h⟩ => ⟨A, c, e, h.below hb⟩⟩
def MP.rs (base n : Nat) (l : List UInt8) : MP := ⟨fun v w => ∃ A c, v = .slice A n c ∧ OB w base (.slice A n c) l, fun _ _ _ hb ⟨A, c, e, h⟩ => ⟨A, c, e, h.below hb⟩⟩
set_option maxRecDepth 100000 in
set_option maxHeartbeats 4000000 in
theorem Get_bad {w : World} {b0 gp gd mb : Nat} {wv tv : Value} {D : DiskS} {P : PoS} {F ok : Nat → Prop} {q : List FV} {L : Option Int} (X : PX w b0 gp gd wv D P F ok tv mb q) (page : Int) (hp : askP P page ≠ 0) :
  Calls Tryz.prog 24 #[.pointer (some ⟨gp, 0, none⟩), .int .i64 page] w (GPost w b0 gp gd wv (PS gp F ok tv mb q) (getR L D P page) (getL L D P page)) := by
 have HA := Lib.hid (pasked_any X.pb page)
 have hx : (askP P page != 0) = true := by rw [bne_iff_ne]; exact hp
 have HR : Hid (getR L D P page = (D, P, askP P page)) := Lib.hid (by unfold getR; rw [if_pos hp])
 have HLL : Hid (getL L D P page = []) := Lib.hid (by unfold getL; rw [HR.out]; exact if_pos hp)
 have HX := Lib.hid X
 clear X hp
 generalize askP P page = r at *
 go_enter Tryz.func24, Tryz.ntmps24
 go_wp2_with fail
 refine HA.out.mono ?_
 rintro e w1 ⟨rfl, rfl⟩
 go_wp2_with fail
 go_ret2
 rw [HR.out, HLL.out]
 exact ⟨_, rfl, OB.nil _ _, F, ok, tv, mb, q, HX.out, Off.refl _ _, fun _ e => .inl e, fun k e => by simp [Value.ownBlock] at e⟩
set_option maxRecDepth 100000 in
set_option maxHeartbeats 4000000 in
theorem Get_held {w : World} {b0 gp gd mb : Nat} {wv tv : Value} {D : DiskS} {P : PoS} {F ok : Nat → Prop} {q : List FV} {L : Option Int} (X : PX w b0 gp gd wv D P F ok tv mb q) (pg i : Nat) (hp : askP P (pg : Int) = 0) (hi : findP P pg = some i) :
  Calls Tryz.prog 24 #[.pointer (some ⟨gp, 0, none⟩), .int .i64 (pg : Int)] w (GPost w b0 gp gd wv (PS gp F ok tv mb q) (getR L D P (pg : Int)) (getL L D P (pg : Int))) := by
 have HA := Lib.hid (pasked_any X.pb (pg : Int))
 have HR : Hid (getR L D P (pg : Int) = (D, useP P i, 0)) := Lib.hid (by unfold getR; rw [if_neg (by rw [hp]; decide), Int.toNat_natCast, hi])
 have HLL : Hid (getL L D P (pg : Int) = (P.fr.getD i fr0).pay) := Lib.hid (by unfold getL; rw [HR.out, if_neg (show ¬ ((0 : Int) ≠ 0) by decide), Int.toNat_natCast, hi])
 have hlen : P.fr.length = q.length := by rw [← X.qf, List.length_map]
 have hil := (findP_some hi).1
 have hm2 := X.pi.m2
 have hle := X.pi.len
 obtain ⟨p, hpq⟩ : ∃ p, q[i]? = some p := ⟨_, List.getElem?_eq_getElem (by omega)⟩
 have hpf : P.fr.getD i fr0 = p.1 := by
  rw [← X.qf, List.getD_eq_getElem?_getD, List.getElem?_map, hpq]
  rfl
 obtain ⟨tb, tc, rfl, t1, t2, t3, t4⟩ := X.tk.block (by omega)
 have hpl : pg ≤ 4096 := by
  have h1 := X.pi.fit
  have h2 := X.pi.d2
  have : (pg : Int) < P.pages := by
   unfold askP at hp
   split at hp
   ·cases hp
   ·omega
  omega
 have hlook := X.mp.look (k := (pg : Int)) (by omega) (by omega)
 rw [idxF_at, hi] at hlook
 have hlook2 : (Instr.lookup 67 (.map (some mb)) (.int .i64 (pg : Int)) true).run Tryz.prog w = .ok (.tuple #[.int .i64 (i : Int), .bool true]) w := hlook
 have c9 := X.pb.c9
 have c8 := X.pb.c8
 have z4 := own_frz X.tk (i * 5 + 4)
 obtain ⟨_, _, _, _, f4⟩ := fr_cells X.tk hpq
 have hx2 := X.mark hpq true
 have f1 := (fr_cells hx2.tk (List.getElem?_set_self (a := (({ p.1 with used := true }, p.2) : FV)) (List.getElem?_eq_some_iff.1 hpq).1)).2.1
 obtain ⟨Ap, cp, hpv, hbr, hcp, hcm⟩ := (hx2.pv ({ p.1 with used := true }, p.2) (List.mem_of_getElem? (List.getElem?_set_self (a := (({ p.1 with used := true }, p.2) : FV)) (List.getElem?_eq_some_iff.1 hpq).1))).form
 have hpay : p.1.pay.length = 4080 := by rw [← hpf]; exact (X.pi.ok _ (getD_mem hil)).2.1
 dsimp only at hpv hbr hcp f1
 rw [hpay] at hpv hbr hcp
 rw [hpv] at f1
 have d8 := hx2.pb.c8
 have HCL := Lib.hid (Clone_any Ap 4080 cp p.1.pay _ hbr (by omega))
 have HX := Lib.hid X
 have HX2 := Lib.hid hx2
 have HPF := Lib.hid hpf
 have HPQ := Lib.hid hpq
 have hiq : i < q.length := by omega
 have i0 : (0 : Int) ≤ (i : Int) := Int.natCast_nonneg _
 have i1 : (i : Int) < (q.length : Int) := by omega
 have hql : q.length ≤ 256 := by omega
 clear X hx2 hlook hpq hpf hpv hbr hi hil
 rw [hp] at HA
 clear hp
 go_enter Tryz.func24, Tryz.ntmps24
 go_wp2_with fail
 refine HA.out.mono ?_
 rintro e w1 ⟨rfl, rfl⟩
 go_wp2_with fail
 refine HCL.out.mono ?_
 rintro e w2 ⟨v, rfl, ob2, hb2⟩
 obtain ⟨A2, c2, rfl, _, _⟩ := own_form ob2
 rw [hpay] at ob2
 have OB2 := Lib.hid ob2
 have HB2 := Lib.hid hb2
 clear ob2 hb2
 go_wp2_with fail
 go_ret2
 rw [HR.out, HLL.out, HPF.out]
 have hx := HX2.out.below HB2.out
 have o2 : Off (· = tb) w (w.setCell ⟨tb, i * 5 + 4, none⟩ (.bool true)) := (Off.refl _ w).setCell _ rfl
 refine ⟨.slice A2 4080 c2, rfl, own_lower OB2.out o2.size, F, ok, _, mb, _, hx, ?_, fun k e => .inl (PS.setv HPQ.out (p' := ({ p.1 with used := true }, p.2)) rfl e), fun k e e2 => ?_⟩
 ·refine (o2.mono fun k _ e => ?_).trans (Off.of_below HB2.out)
  subst e
  exact .inr (.inr (.inr (.inr (.inl rfl))))
 ·have h1 := (OB2.out.lt k e).1
  have h2 := HX2.out.lt e2
  omega
set_option maxRecDepth 100000 in
set_option maxHeartbeats 8000000 in
theorem Get_new {w : World} {b0 gp gd mb : Nat} {wv tv : Value} {D : DiskS} {P : PoS} {F ok : Nat → Prop} {q : List FV} {L : Option Int} (X : PX w b0 gp gd wv D P F ok tv mb q) (hl : LogV w wv L (PS gp F ok tv mb q)) (pg : Nat) (hp : askP P (pg : Int) = 0) (hi : findP P pg = none) (hpd : D.pending.length ≤ 900000) (hct : P.count ≤ 1152921504606846976) (hbs : b0 ≤ w.heap.size) :
  Calls Tryz.prog 24 #[.pointer (some ⟨gp, 0, none⟩), .int .i64 (pg : Int)] w (GPost w b0 gp gd wv (PS gp F ok tv mb q) (getR L D P (pg : Int)) (getL L D P (pg : Int))) := by
 have HA := Lib.hid (pasked_any X.pb (pg : Int))
 have hpp : pg < P.pages := by
  unfold askP at hp
  split at hp
  ·cases hp
  ·omega
 have hfit := X.pi.fit
 have hd2 := X.pi.d2
 have hlook := X.mp.look (k := (pg : Int)) (by omega) (by omega)
 rw [idxF_at, hi] at hlook
 have hlook2 : (Instr.lookup 67 (.map (some mb)) (.int .i64 (pg : Int)) true).run Tryz.prog w = .ok (.tuple #[.int .i64 0, .bool false]) w := hlook
 have c9 := X.pb.c9
 obtain ⟨R, hR⟩ : ∃ R, R = getR L D P (pg : Int) := ⟨_, rfl⟩
 obtain ⟨LL, hLL⟩ : ∃ LL, LL = getL L D P (pg : Int) := ⟨_, rfl⟩
 have HR : Hid (R = if readE D ((P.base + pg : Nat) : Int) ≠ 0 then (D, P, readE D ((P.base + pg : Nat) : Int)) else if openE (readL D ((P.base + pg : Nat) : Int)) ≠ 0 then (D, P, openE (readL D ((P.base + pg : Nat) : Int))) else holdR L D P ⟨pg, openP (readL D ((P.base + pg : Nat) : Int)), 0, false, true⟩) := Lib.hid (by
  rw [hR]
  unfold getR
  rw [if_neg (by rw [hp]; decide), Int.toNat_natCast, hi])
 have HLL : Hid (LL = if R.2.2 ≠ 0 then [] else openP (readL D ((P.base + pg : Nat) : Int))) := Lib.hid (by
  rw [hLL, hR]
  unfold getL
  rw [Int.toNat_natCast, hi])
 rw [← hR, ← hLL]
 have HX := Lib.hid X
 have HLV := Lib.hid hl
 have HNO := Lib.hid ((findP_none P pg).1 hi)
 have HPP := Lib.hid hpp
 obtain ⟨rl, hrl⟩ : ∃ rl, rl = readL D ((P.base + pg : Nat) : Int) := ⟨_, rfl⟩
 obtain ⟨re, hre⟩ : ∃ re, re = readE D ((P.base + pg : Nat) : Int) := ⟨_, rfl⟩
 have HRD : Hid (∀ W, Below w.heap.size w W → Calls Tryz.prog 25 #[.pointer (some ⟨gd, 0, none⟩), .int .i64 ((P.base : Int) + (pg : Int))] W fun e w' => (∃ A c, e = .returned (.tuple #[.slice A rl.length c, .int .i64 re]) ∧ OB w' w.heap.size (.slice A rl.length c) rl) ∧ Below W.heap.size W w') := Lib.hid (fun W hW => (Read_any W ok b0 gd F D ((P.base : Int) + (pg : Int)) (HX.out.dk.below hW) (by omega)).mono (by
  rintro e w' ⟨v, rfl, h1, h2⟩
  rw [← Int.natCast_add, ← hrl] at h1
  rw [← Int.natCast_add, ← hre]
  obtain ⟨A, c, rfl, _, _⟩ := own_form h1
  exact ⟨⟨A, c, rfl, own_lower h1 hW.size⟩, h2⟩))
 have HRL : Hid (re = 0 → rl.length = 4096) := Lib.hid (fun h0 => by
  rw [hrl]
  unfold readL
  rw [if_neg (by rw [← hre, h0]; decide), Int.toNat_natCast]
  exact HX.out.dk.blk_len (by omega))
 rw [← hrl, ← hre] at HR
 rw [← hrl] at HLL
 have hsum : IntKind.i64.wrap ((P.base : Int) + (pg : Int)) = (P.base : Int) + (pg : Int) := by rw [IntKind.wrap_i64]; omega
 have hsum2 : IntKind.i64.wrap (P.base : Int) = (P.base : Int) := by rw [IntKind.wrap_i64]; omega
 have HF2 := Lib.hid hfit
 clear X hl hlook hR hLL hpp hi hrl hre hfit
 rw [hp] at HA
 clear hp
 go_enter Tryz.func24, Tryz.ntmps24
 go_wp2_with fail
 refine HA.out.mono ?_
 rintro e w1 ⟨rfl, rfl⟩
 go_upto_region 8 with fail
 have d1 := Lib.hid HX.out.pb.c1
 have d2 := Lib.hid HX.out.pb.c2
 clear c9 hlook2
 refine' wp_region_mono (by kernel_rfl) (by kernel_rfl) (by kernel_rfl) (by kernel_rfl) (by kernel_rfl) (by kernel_rfl)
  [MP.is (.pointer (some ⟨gp, 0, none⟩)), MP.is (.pointer (some ⟨gp, 0, none⟩)), MP.is (.pointer (some ⟨gp, 1, none⟩)), MP.is (.pointer (some ⟨gd, 0, none⟩)), MP.is (.pointer (some ⟨gp, 0, none⟩)), MP.is (.pointer (some ⟨gp, 0, none⟩)), MP.is (.pointer (some ⟨gp, 2, none⟩)), MP.is (.int .i64 (P.base : Int)), MP.is (.int .i64 (pg : Int)), MP.is (.int .i64 ((P.base : Int) + (pg : Int))), MP.rt w.heap.size rl.length re rl, MP.rt w.heap.size rl.length re rl, MP.rs w.heap.size rl.length rl, MP.is (.int .i64 re), MP.rs w.heap.size rl.length rl, MP.is (.int .i64 re)] ?hAA1 ?hst1 ?hend1
 case hAA1 =>
  intro f
  conv => lhs; simp only [putA, dstOf, List.size_toArray, List.length_cons, List.length_nil, Nat.zero_add, Nat.reduceAdd, List.getElem?_toArray, List.getElem?_cons_zero, List.getElem?_cons_succ, Option.bind_some, Act.put, List.setIfInBounds_toArray, List.set_cons_zero, List.set_cons_succ]
  first | done | exact rfl
 case hst1 =>
  change Steps _ _ _ _ _ [0, 1, 2, 3, 4, 5, 6, 7, 8, 9, 10, 11, 12, 13, 14, 15]
  refine Steps.cons rfl ?_ ?_
  ·intro f wz hB h K Q hK
   clear h
   try simp only [List.getElem_toArray, List.getElem_cons_zero]
   try rw [if_pos (by rfl)]
   go_simp
   exact hK _ _ (gr_refl _) rfl
  refine Steps.cons rfl ?_ ?_
  ·intro f wz hB h K Q hK
   have h0 : (MP.is (.pointer (some ⟨gp, 0, none⟩))).p (f 0) wz := h 0 (by kernel_rfl)
   have e0 : f 0 = (.pointer (some ⟨gp, 0, none⟩)) := h0
   simp only [e0] at hK ⊢
   clear e0
   clear h
   try rw [if_pos (by rfl)]
   go_simp
   exact hK _ _ (gr_refl _) rfl
  refine Steps.cons rfl ?_ ?_
  ·intro f wz hB h K Q hK
   have h1 : (MP.is (.pointer (some ⟨gp, 0, none⟩))).p (f 1) wz := h 1 (by kernel_rfl)
   have e1 : f 1 = (.pointer (some ⟨gp, 0, none⟩)) := h1
   simp only [e1] at hK ⊢
   clear e1
   clear h
   try rw [if_pos (by rfl)]
   go_simp
   exact hK _ _ (gr_refl _) rfl
  refine Steps.cons rfl ?_ ?_
  ·intro f wz hB h K Q hK
   have h2 : (MP.is (.pointer (some ⟨gp, 1, none⟩))).p (f 2) wz := h 2 (by kernel_rfl)
   have e2 : f 2 = (.pointer (some ⟨gp, 1, none⟩)) := h2
   simp only [e2] at hK ⊢
   clear e2
   clear h
   try rw [if_pos (by rfl)]
   have y0 := keep_of_below (bel_drew hB) d1.out
   have y1 := keep_of_below (bel_drew hB) d2.out
   go_simp
   exact hK _ _ (gr_refl _) rfl
  refine Steps.cons rfl ?_ ?_
  ·intro f wz hB h K Q hK
   clear h
   try rw [if_pos (by rfl)]
   go_simp
   exact hK _ _ (gr_refl _) rfl
  refine Steps.cons rfl ?_ ?_
  ·intro f wz hB h K Q hK
   have h4 : (MP.is (.pointer (some ⟨gp, 0, none⟩))).p (f 4) wz := h 4 (by kernel_rfl)
   have e4 : f 4 = (.pointer (some ⟨gp, 0, none⟩)) := h4
   simp only [e4] at hK ⊢
   clear e4
   clear h
   try rw [if_pos (by rfl)]
   go_simp
   exact hK _ _ (gr_refl _) rfl
  refine Steps.cons rfl ?_ ?_
  ·intro f wz hB h K Q hK
   have h5 : (MP.is (.pointer (some ⟨gp, 0, none⟩))).p (f 5) wz := h 5 (by kernel_rfl)
   have e5 : f 5 = (.pointer (some ⟨gp, 0, none⟩)) := h5
   simp only [e5] at hK ⊢
   clear e5
   clear h
   try rw [if_pos (by rfl)]
   go_simp
   exact hK _ _ (gr_refl _) rfl
  refine Steps.cons rfl ?_ ?_
  ·intro f wz hB h K Q hK
   have h6 : (MP.is (.pointer (some ⟨gp, 2, none⟩))).p (f 6) wz := h 6 (by kernel_rfl)
   have e6 : f 6 = (.pointer (some ⟨gp, 2, none⟩)) := h6
   simp only [e6] at hK ⊢
   clear e6
   clear h
   try rw [if_pos (by rfl)]
   have y0 := keep_of_below (bel_drew hB) d1.out
   have y1 := keep_of_below (bel_drew hB) d2.out
   go_simp
   exact hK _ _ (gr_refl _) rfl
  refine Steps.cons rfl ?_ ?_
  ·intro f wz hB h K Q hK
   clear h
   try rw [if_pos (by rfl)]
   go_simp
   exact hK _ _ (gr_refl _) rfl
  refine Steps.cons rfl ?_ ?_
  ·intro f wz hB h K Q hK
   have h7 : (MP.is (.int .i64 (P.base : Int))).p (f 7) wz := h 7 (by kernel_rfl)
   have e7 : f 7 = (.int .i64 (P.base : Int)) := h7
   have h8 : (MP.is (.int .i64 (pg : Int))).p (f 8) wz := h 8 (by kernel_rfl)
   have e8 : f 8 = (.int .i64 (pg : Int)) := h8
   simp only [e7, e8] at hK ⊢
   clear e7 e8
   clear h
   try rw [if_pos (by rfl)]
   go_simp
   exact hK _ _ (gr_refl _) rfl
  refine Steps.cons rfl ?_ ?_
  ·intro f wz hB h K Q hK
   have h3 : (MP.is (.pointer (some ⟨gd, 0, none⟩))).p (f 3) wz := h 3 (by kernel_rfl)
   have e3 : f 3 = (.pointer (some ⟨gd, 0, none⟩)) := h3
   have h9 : (MP.is (.int .i64 ((P.base : Int) + (pg : Int)))).p (f 9) wz := h 9 (by kernel_rfl)
   have e9 : f 9 = (.int .i64 ((P.base : Int) + (pg : Int))) := h9
   simp only [e3, e9] at hK ⊢
   clear e3 e9
   clear h
   try rw [if_pos (by rfl)]
   go_simp
   refine (HRD.out _ (bel_drew hB)).mono ?_
   rintro e w5 ⟨⟨A, c, rfl, h5⟩, hb5⟩
   exact hK _ _ hb5 ⟨A, c, rfl, h5⟩
  refine Steps.cons rfl ?_ ?_
  ·intro f wz hB h K Q hK
   have h10 : (MP.rt w.heap.size rl.length re rl).p (f 10) wz := h 10 (by kernel_rfl)
   obtain ⟨A10, c10, e10, q10⟩ := h10
   simp only [e10] at hK ⊢
   clear e10
   clear h
   try rw [if_pos (by rfl)]
   go_simp
   exact hK _ _ (gr_refl _) ⟨A10, c10, rfl, q10⟩
  refine Steps.cons rfl ?_ ?_
  ·intro f wz hB h K Q hK
   have h11 : (MP.rt w.heap.size rl.length re rl).p (f 11) wz := h 11 (by kernel_rfl)
   obtain ⟨A11, c11, e11, q11⟩ := h11
   simp only [e11] at hK ⊢
   clear e11
   clear h
   try rw [if_pos (by rfl)]
   go_simp
   exact hK _ _ (gr_refl _) ⟨A11, c11, rfl, q11⟩
  refine Steps.cons rfl ?_ ?_
  ·intro f wz hB h K Q hK
   have h11 : (MP.rt w.heap.size rl.length re rl).p (f 11) wz := h 11 (by kernel_rfl)
   obtain ⟨A11, c11, e11, q11⟩ := h11
   simp only [e11] at hK ⊢
   clear e11
   clear h
   try rw [if_pos (by rfl)]
   go_simp
   exact hK _ _ (gr_refl _) rfl
  refine Steps.cons rfl ?_ ?_
  ·intro f wz hB h K Q hK
   have h12 : (MP.rs w.heap.size rl.length rl).p (f 12) wz := h 12 (by kernel_rfl)
   obtain ⟨A12, c12, e12, q12⟩ := h12
   simp only [e12] at hK ⊢
   clear e12
   clear h
   try rw [if_pos (by rfl)]
   go_simp
   exact hK _ _ (gr_refl _) ⟨A12, c12, rfl, q12⟩
  refine Steps.cons rfl ?_ ?_
  ·intro f wz hB h K Q hK
   have h13 : (MP.is (.int .i64 re)).p (f 13) wz := h 13 (by kernel_rfl)
   have e13 : f 13 = (.int .i64 re) := h13
   simp only [e13] at hK ⊢
   clear e13
   clear h
   try rw [if_pos (by rfl)]
   go_simp
   exact hK _ _ (gr_refl _) rfl
  exact Steps.nil
 intro f w2 hB2 hR
 have e0 : f 0 = (.pointer (some ⟨gp, 0, none⟩)) := hR 0 (by decide)
 have e1 : f 1 = (.pointer (some ⟨gp, 0, none⟩)) := hR 1 (by decide)
 have e2 : f 2 = (.pointer (some ⟨gp, 1, none⟩)) := hR 2 (by decide)
 have e3 : f 3 = (.pointer (some ⟨gd, 0, none⟩)) := hR 3 (by decide)
 have e4 : f 4 = (.pointer (some ⟨gp, 0, none⟩)) := hR 4 (by decide)
 have e5 : f 5 = (.pointer (some ⟨gp, 0, none⟩)) := hR 5 (by decide)
 have e6 : f 6 = (.pointer (some ⟨gp, 2, none⟩)) := hR 6 (by decide)
 have e7 : f 7 = (.int .i64 (P.base : Int)) := hR 7 (by decide)
 have e8 : f 8 = (.int .i64 (pg : Int)) := hR 8 (by decide)
 have e9 : f 9 = (.int .i64 ((P.base : Int) + (pg : Int))) := hR 9 (by decide)
 obtain ⟨A102, c102, e10, q102⟩ := (show (MP.rt w.heap.size rl.length re rl).p (f 10) w2 from hR 10 (by decide))
 obtain ⟨A112, c112, e11, q112⟩ := (show (MP.rt w.heap.size rl.length re rl).p (f 11) w2 from hR 11 (by decide))
 obtain ⟨A122, c122, e12, q122⟩ := (show (MP.rs w.heap.size rl.length rl).p (f 12) w2 from hR 12 (by decide))
 have e13 : f 13 = (.int .i64 re) := hR 13 (by decide)
 obtain ⟨A142, c142, e14, q142⟩ := (show (MP.rs w.heap.size rl.length rl).p (f 14) w2 from hR 14 (by decide))
 have e15 : f 15 = (.int .i64 re) := hR 15 (by decide)
 simp only [e0, e1, e2, e3, e4, e5, e6, e7, e8, e9, e10, e11, e12, e13, e14, e15]
 clear e0 e1 e2 e3 e4 e5 e6 e7 e8 e9 e10 e11 e12 e13 e14 e15 hR
 have HB2 : Hid (Below w.heap.size w w2) := Lib.hid (Below.trans (gr_drewN (gr_refl w) 1) hB2)
 have HX2 := Lib.hid (HX.out.below HB2.out)
 have HQ2 := Lib.hid q142
 clear q102 q112 q122 q142 hB2 d1 d2
 by_cases hre0 : re = 0
 ·have h4 := HRL.out hre0
  have HL4 := Lib.hid h4
  have hq2 := HQ2.out
  rw [h4] at hq2
  have HR2 : Hid (R = if openE rl ≠ 0 then (D, P, openE rl) else holdR L D P ⟨pg, openP rl, 0, false, true⟩) := Lib.hid (by rw [HR.out, if_neg (by rw [hre0]; decide)])
  rw [h4]
  subst hre0
  clear h4 HQ2 HR HRD HRL
  obtain ⟨A3, c3, e3, hbr, hc3, _⟩ := hq2.form
  rw [HL4.out] at e3 hbr hc3
  injection e3 with e31 _ e33
  subst e31 e33
  have HOP := Lib.hid (Open_any A142 c142 rl w2 hbr hc3)
  clear hbr hc3 hq2
  obtain ⟨oe, hoe⟩ : ∃ oe, oe = openE rl := ⟨_, rfl⟩
  have HOE := Lib.hid hoe
  have HPL : Hid (oe = 0 → (openP rl).length = 4080) := Lib.hid (fun h0 => by
   rw [hoe] at h0
   unfold openE at h0
   split at h0
   ·rename_i hs
    unfold openP
    rw [if_pos hs, List.length_take, List.length_drop, HL4.out]
    rfl
   ·cases h0)
  rw [← hoe] at HOP HR2
  obtain ⟨pl, hpl⟩ : ∃ pl, pl = openP rl := ⟨_, rfl⟩
  rw [← hpl] at HOP HR2 HLL HPL
  clear hoe hpl
  go_wp2_with fail
  refine HOP.out.mono ?_
  rintro e w3 ⟨r, rfl, hob, hb3⟩
  obtain ⟨A5, c5, rfl, _, _⟩ := own_form hob
  have HOB := Lib.hid hob
  have HB3 := Lib.hid hb3
  clear hob hb3 HOP
  by_cases hoe0 : oe = 0
  ·have h48 := HPL.out hoe0
   have HP48 := Lib.hid h48
   have HOB4 : Hid (OB w3 w2.heap.size (.slice A5 4080 c5) pl) := Lib.hid (by have := HOB.out; rwa [h48] at this)
   have HR3 : Hid (R = holdR L D P ⟨pg, pl, 0, false, true⟩) := Lib.hid (by rw [HR2.out, if_neg (by rw [hoe0]; decide)])
   rw [h48]
   subst hoe0
   clear h48 HOB HPL HR2
   have HX3 := Lib.hid (HX2.out.below HB3.out)
   have HB13 := Lib.hid (HB2.out.trans (HB3.out.mono HB2.out.size))
   have hb0 : b0 ≤ w2.heap.size := Nat.le_trans hbs HB2.out.size
   have HHD := Lib.hid (phold_any HX3.out (HLV.out.step (Off.of_below HB13.out) (fun k e => .inl e)) ⟨pg, pl, 0, false, true⟩ A5 c5 ⟨own_lower HOB4.out hb0, HPP.out, HP48.out, Int.le_refl _, by show (0 : Int) ≤ _; omega, HNO.out⟩ (fun k e e2 => by
    have h1 := (HOB4.out.lt k e).1
    have h2 := HX.out.lt e2
    have := HB2.out.size
    omega) hpd hct (Nat.le_trans hb0 HB3.out.size))
   rw [← HR3.out] at HHD
   obtain ⟨D4, P4, r4⟩ := R
   dsimp only at HHD
   have HLL3 : Hid (LL = if r4 ≠ 0 then [] else pl) := Lib.hid HLL.out
   clear HR3 HLL
   go_wp2_with fail
   refine HHD.out.mono ?_
   rintro e w4 ⟨rfl, F4, ok4, tv4, mb4, q4, hx4, ho4, hs4⟩
   have HX4 := Lib.hid hx4
   have HO4 := Lib.hid ho4
   have HS4 := Lib.hid hs4
   clear hx4 ho4 hs4 HHD
   have HSV : Hid (∀ k, PS gp F4 ok4 tv4 mb4 q4 k → PS gp F ok tv mb q k ∨ w.heap.size ≤ k) := Lib.hid (fun k e => by
    rcases HS4.out k e with e | e | e
    ·exact .inl e
    ·exact .inr (Nat.le_trans HB2.out.size (HOB4.out.lt k e).1)
    ·exact .inr (Nat.le_trans HB13.out.size e))
   by_cases hr4 : r4 = 0
   ·subst hr4
    have HL5 : Hid (LL = pl) := Lib.hid (by rw [HLL3.out, if_neg (by decide)])
    have hob4 := HOB4.out.off HO4.out (fun k e e2 => by
     have h1 := (HOB4.out.lt k e).1
     have h2 := HX.out.lt e2
     have := HB2.out.size
     omega)
    obtain ⟨A6, c6, e6, hbr6, _, _⟩ := hob4.form
    rw [HP48.out] at e6 hbr6
    injection e6 with e61 _ e63
    subst e61 e63
    have HCL := Lib.hid (Clone_any A5 4080 c5 pl w4 hbr6 (by omega))
    clear hob4 hbr6
    go_wp2_with fail
    refine HCL.out.mono ?_
    rintro e w5 ⟨v, rfl, ob5, hb5⟩
    obtain ⟨A7, c7, rfl, _, _⟩ := own_form ob5
    have OB5 := Lib.hid ob5
    have HB5 := Lib.hid hb5
    clear ob5 hb5
    rw [HP48.out]
    go_wp2_with fail
    go_ret2
    rw [HL5.out]
    refine ⟨.slice A7 4080 c7, rfl, ?_, F4, ok4, tv4, mb4, q4, HX4.out.below HB5.out, ((Off.of_below HB13.out).trans HO4.out).trans (Off.of_below HB5.out), HSV.out, fun k e e2 => ?_⟩
    ·have h5 := OB5.out
     rw [HP48.out] at h5
     exact own_lower h5 (Nat.le_trans HB13.out.size HO4.out.size)
    ·have h5 := OB5.out
     rw [HP48.out] at h5
     have h1 := (h5.lt k e).1
     have h2 := HX4.out.lt e2
     omega
   ·have hx : (r4 != 0) = true := by rw [bne_iff_ne]; exact hr4
    have HL5 : Hid (LL = []) := Lib.hid (by rw [HLL3.out, if_pos hr4])
    clear hr4
    go_wp2_with fail
    go_ret2
    rw [HL5.out]
    exact ⟨_, rfl, OB.nil _ _, F4, ok4, tv4, mb4, q4, HX4.out, (Off.of_below HB13.out).trans HO4.out, HSV.out, fun k e => by simp [Value.ownBlock] at e⟩
  ·have hx : (oe != 0) = true := by rw [bne_iff_ne]; exact hoe0
   have HR3 : Hid (R = (D, P, oe)) := Lib.hid (by rw [HR2.out, if_pos hoe0])
   have HL5 : Hid (LL = []) := Lib.hid (by rw [HLL.out, HR3.out]; exact if_pos hoe0)
   clear hoe0
   go_wp2_with fail
   go_ret2
   rw [HL5.out, HR3.out]
   exact ⟨_, rfl, OB.nil _ _, F, ok, tv, mb, q, HX2.out.below HB3.out, Off.of_below (HB2.out.trans (HB3.out.mono HB2.out.size)), fun _ e => .inl e, fun k e => by simp [Value.ownBlock] at e⟩
 ·have hx : (re != 0) = true := by rw [bne_iff_ne]; exact hre0
  have HR3 : Hid (R = (D, P, re)) := Lib.hid (by rw [HR.out, if_pos hre0])
  have HL5 : Hid (LL = []) := Lib.hid (by rw [HLL.out, HR3.out]; exact if_pos hre0)
  clear hre0
  go_wp2_with fail
  go_ret2
  rw [HL5.out, HR3.out]
  exact ⟨_, rfl, OB.nil _ _, F, ok, tv, mb, q, HX2.out, Off.of_below HB2.out, fun _ e => .inl e, fun k e => by simp [Value.ownBlock] at e⟩
theorem Get_any {w : World} {b0 gp gd mb : Nat} {wv tv : Value} {D : DiskS} {P : PoS} {F ok : Nat → Prop} {q : List FV} {L : Option Int} (X : PX w b0 gp gd wv D P F ok tv mb q) (hl : LogV w wv L (PS gp F ok tv mb q)) (page : Int) (hpd : D.pending.length ≤ 900000) (hct : P.count ≤ 1152921504606846976) (hbs : b0 ≤ w.heap.size) :
  Calls Tryz.prog 24 #[.pointer (some ⟨gp, 0, none⟩), .int .i64 page] w (GPost w b0 gp gd wv (PS gp F ok tv mb q) (getR L D P page) (getL L D P page)) := by
 by_cases hp : askP P page = 0
 ·obtain ⟨pg, rfl⟩ : ∃ pg : Nat, page = (pg : Int) := by
   unfold askP at hp
   split at hp
   ·cases hp
   ·exact ⟨page.toNat, by omega⟩
  cases hi : findP P pg with
  | some i => exact Get_held X pg i hp hi
  | none => exact Get_new X hl pg hp hi hpd hct hbs
 ·exact Get_bad X page hp
end Go.Proofs.YtmdgnjmhbjdlmaaGreat
