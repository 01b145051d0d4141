/-
  Texts of this claim, joined: DkI, DkJ, Apt, DkK, ApO, DkM, DkN, DkL, Pc, RecA, RcP, RefA, Reg, Rgm, Mpb, RdA. No statement of the program is proved here.
-/
import Derived.Test.YtnkeclpgpiogoaaGreatPkE1
import Derived.Laws.EntriesVeiled
import Derived.Shelf.Abstract
import Derived.Stop.RegionWithIn
import Derived.RangeFuncBox
import Derived.RangeFuncNested
/-! DkI -/
namespace Go.Proofs.YtnkeclpgpiogoaaGreat
open Go.RowKit Go.Shelf
attribute [local go_sem] Oper.semAt_some
def lastL (bs : List (List UInt8)) (ps : List (Nat × List UInt8)) (b : Nat) : List UInt8 := ps.foldl (fun l p => if p.1 = b then p.2 else l) (bs.getD b [])
def readE (D : DiskS) (b : Int) : Int := if askE D b ≠ 0 then askE D b else if D.down then 6 else 0
def readL (D : DiskS) (b : Int) : List UInt8 := if readE D b ≠ 0 then [] else lastL D.blocks D.pending b.toNat
set_option maxRecDepth 100000 in
theorem lastL_none {bs : List (List UInt8)} {ps : List (Nat × List UInt8)} {b : Nat} (h : ∀ p ∈ ps, p.1 ≠ b) : lastL bs ps b = bs.getD b [] := by
 unfold lastL
 generalize bs.getD b [] = l
 induction ps generalizing l with
 | nil => rfl
 | cons p ps ih =>
  rw [List.foldl_cons, if_neg (h p (List.mem_cons_self ..))]
  exact ih (fun q hq => h q (List.mem_cons_of_mem _ hq)) l
set_option maxRecDepth 100000 in
theorem lastL_at {bs : List (List UInt8)} {ps : List (Nat × List UInt8)} {b i : Nat} {p : Nat × List UInt8} (hi : ps[i]? = some p) (hp : p.1 = b) (h : ∀ j q, i < j → ps[j]? = some q → q.1 ≠ b) : lastL bs ps b = p.2 := by
 obtain ⟨hl, e⟩ := List.getElem?_eq_some_iff.1 hi
 have hs : ps = ps.take i ++ p :: ps.drop (i + 1) := by rw [← e, ← List.drop_eq_getElem_cons hl, List.take_append_drop]
 unfold lastL
 rw [hs, List.foldl_append, List.foldl_cons, if_pos hp]
 have := lastL_none (bs := [p.2]) (b := 0) (ps := (ps.drop (i + 1)).map fun q => (if q.1 = b then 0 else 1, q.2)) (fun q hq => by
  obtain ⟨r, hr, rfl⟩ := List.mem_map.1 hq
  obtain ⟨j, hj, rfl⟩ := List.getElem_of_mem hr
  have := h (i + 1 + j) _ (by omega) (by rw [← List.getElem?_drop]; exact List.getElem?_eq_getElem hj)
  dsimp only
  rw [if_neg this]
  omega)
 unfold lastL at this
 rw [List.foldl_map] at this
 have e2 : ∀ (l : List UInt8) (q : Nat × List UInt8), (if (if q.1 = b then 0 else 1) = 0 then q.2 else l) = if q.1 = b then q.2 else l := by
  intro l q
  by_cases hq : q.1 = b <;> simp [hq]
 simp only [e2] at this
 exact this
set_option maxRecDepth 100000 in
set_option maxHeartbeats 1000000 in
theorem Read_bad (w : World) (ok : Nat → Prop) (base g : Nat) (F : Nat → Prop) (D : DiskS) (b : Int) (h : IsD w ok base g F D) (hr : readE D b ≠ 0) :
  Calls Tryz.prog 75 #[.pointer (some ⟨g, 0, none⟩), .int .i64 b] w fun e w' => e = .returned (.tuple #[.slice none 0 0, .int .i64 (readE D b)]) ∧ Below w.heap.size w w' := by
 have hb3 : Below w.heap.size w (((w.alloc (.cells #[.int .i64 b] 3)).alloc (.cells #[.slice none 0 0] 35)).alloc (.cells #[.int .i64 0] 29)) := gr_alloc (gr_alloc (gr_alloc (gr_refl w) _) _) _
 have h3 := h.below hb3
 have HA := Lib.hid (asked_any _ ok base g F D b h3)
 by_cases h0 : askE D b = 0
 ·have hE : readE D b = 6 ∧ D.down = true := by
   unfold readE at hr ⊢
   rw [if_neg (by rw [h0]; simp)] at hr ⊢
   cases hd : D.down with
   | true => simp
   | false => rw [hd] at hr; simp at hr
  rw [h0] at HA
  rw [hE.1]
  obtain ⟨dr, dc, pv, dvs, pvs, hd, hF⟩ := h3
  have c3 := hd.db.c3
  rw [hE.2] at c3
  clear hd hF h hr h0 hE
  go_enter Tryz.func75, Tryz.ntmps75
  go_wp2_with fail
  refine HA.out.mono ?_
  rintro e w' ⟨rfl, rfl⟩
  go_wp2_with fail
  exact bodyPost_ret (v := .tuple #[.slice none 0 0, .int .i64 6]) (by simp [results, Tryz.results75, go_sem]) rfl ⟨rfl, gr_alloc (gr_alloc (gr_alloc (gr_refl w) _) _) _⟩
 ·have hE : readE D b = askE D b := by unfold readE; rw [if_pos h0]
  rw [hE]
  have t1 : (askE D b != 0) = true := by rw [bne_iff_ne]; exact h0
  clear h3 hr hE h0
  generalize askE D b = ae at *
  go_enter Tryz.func75, Tryz.ntmps75
  go_wp2_with fail
  refine HA.out.mono ?_
  rintro e w' ⟨rfl, rfl⟩
  go_wp2_with fail
  exact bodyPost_ret (v := .tuple #[.slice none 0 0, .int .i64 ae]) (by simp [results, Tryz.results75, go_sem]) rfl ⟨rfl, gr_alloc (gr_alloc (gr_alloc (gr_refl w) _) _) _⟩
set_option maxRecDepth 100000 in
theorem keepsO {w w' : World} (h : Below w.heap.size w w') : KeepsOthers w w' := ⟨h.size, fun k _ hk _ => (h.block k (Array.getElem?_eq_some_iff.1 hk).1).trans hk⟩
def noW (ps : List (Nat × List UInt8)) (b np k : Nat) : Prop := ∀ j p, np - k ≤ j → ps[j]? = some p → p.1 ≠ b
structure RI (n₀ : Nat) (w : World) (b : Nat) (v4 : Value) (Av : Value) (W : World) : Prop where
 b3 : Boxed W n₀ 3 (.int .i64 (b : Int))
 b4 : Boxed W (n₀ + 1) 35 v4
 b5 : Boxed W (n₀ + 1 + 1) 29 (.int .i64 0)
 bb : Boxed W (n₀ + 1 + 1 + 1) 181 Av
 below : Below n₀ w W
set_option maxRecDepth 100000 in
theorem RI.ck {n₀ : Nat} {w : World} {b : Nat} {v4 Av : Value} {W W' : World} {row : Option Nat} (h : RI n₀ w b v4 Av W) (hg : W.grownBy W' row) (hr : ∀ r, row = some r → ∃ o : Obj, W.heap[r]? = some o ∧ o.isCells = false) (hb : Below n₀ w W') : RI n₀ w b v4 Av W' := by
 have hk : ∀ {k : Nat} {t : TypeId} {v : Value}, Boxed W k t v → Boxed W' k t v := fun {k t v} hB => hB.kept hg (fun e => by
  obtain ⟨o, ho, hc⟩ := hr k e.symm
  rw [show W.heap[k]? = _ from hB] at ho
  cases ho
  cases hc)
 exact ⟨hk h.b3, hk h.b4, hk h.b5, hk h.bb, hb⟩
def onlyN (K : Act → World → Prop) : Exit → Act → World → Prop
 | .normal, a, w => K a w
 | _, _, _ => False
set_option maxRecDepth 100000 in
theorem wpIn_onlyN {F : Fence} {n : Nat} {P : Program} {c : Code} {K : Act → World → Prop} {Q' : Exit → Act → World → Prop} {a : Act} {w : World} (h : c.wpIn F n P (onlyN K) a w) : c.wpIn F n P (Exit.then K Q') a w :=
 wpIn_mono h (fun e a w hp => by cases e <;> first | exact hp | exact hp.elim)
set_option maxRecDepth 100000 in
theorem RI.drawn {n₀ : Nat} {w : World} {b : Nat} {v4 Av : Value} {W : World} (h : RI n₀ w b v4 Av W) : RI n₀ w b v4 Av W.drew := ⟨h.b3, h.b4, h.b5, h.bb, ⟨h.below.os, h.below.tape, h.below.output, h.below.size, h.below.block⟩⟩
set_option maxRecDepth 100000 in
theorem RI.laid {n₀ : Nat} {w : World} {b : Nat} {v4 Av : Value} {W W1 : World} (h : RI n₀ w b v4 Av W) (hb1 : Below W.heap.size W W1) (x : Value) :
  W1.cell? ⟨n₀ + 1, 0, none⟩ = some v4 ∧ W1.frozen? ⟨n₀ + 1, 0, none⟩ = false ∧ (W1.setCell ⟨n₀ + 1, 0, none⟩ x).cell? ⟨n₀ + 1 + 1, 0, none⟩ = some (.int .i64 0) ∧ (W1.setCell ⟨n₀ + 1, 0, none⟩ x).frozen? ⟨n₀ + 1 + 1, 0, none⟩ = false ∧
  (n₀ ≤ W.heap.size → RI n₀ w b x Av ((W1.setCell ⟨n₀ + 1, 0, none⟩ x).setCell ⟨n₀ + 1 + 1, 0, none⟩ (.int .i64 0))) := by
 have kp : ∀ {k : Nat} {t : TypeId} {v : Value}, Boxed W k t v → Boxed W1 k t v := fun {k t v} hB => Boxed.kept hB (row := none) ⟨hb1.os, hb1.tape, hb1.output, hb1.size, fun k hk _ => hb1.block k hk⟩ (by simp)
 have b3 := kp h.b3
 have b4 := kp h.b4
 have b5 := kp h.b5
 have bb := kp h.bb
 have g4 := grownBy_setCell' W1 (n₀ + 1) x
 have g5 := grownBy_setCell' (W1.setCell ⟨n₀ + 1, 0, none⟩ x) (n₀ + 1 + 1) (.int .i64 0)
 have c5 := b5.kept g4 (by simp)
 refine ⟨b4.cell, b4.frozen, c5.cell, c5.frozen, fun hle => ⟨?_, ?_, ?_, ?_, ?_⟩⟩
 ·exact (b3.kept g4 (by simp; try omega)).kept g5 (by simp; try omega)
 ·exact (b4.set _).kept g5 (by simp; try omega)
 ·exact c5.set _
 ·exact (bb.kept g4 (by simp; try omega)).kept g5 (by simp; try omega)
 ·exact ((h.below.trans (hb1.mono hle)).setCell (p := ⟨n₀ + 1, 0, none⟩) (by dsimp only; omega) _).setCell (p := ⟨n₀ + 1 + 1, 0, none⟩) (by dsimp only; omega) _
set_option maxRecDepth 100000 in
set_option maxHeartbeats 2000000 in
theorem Read_good (w : World) (ok : Nat → Prop) (base g : Nat) (F : Nat → Prop) (D : DiskS) (b : Nat) (h : IsD w ok base g F D) (hb : b < D.blocks.length) (hdn : D.down = false) (hpl : D.pending.length ≤ 1000000) :
  Calls Tryz.prog 75 #[.pointer (some ⟨g, 0, none⟩), .int .i64 (b : Int)] w fun e w' => ∃ v, e = .returned (.tuple #[v, .int .i64 0]) ∧ OB w' w.heap.size v (lastL D.blocks D.pending b) ∧ Below w.heap.size w w' := by
 have h0 : askE D (b : Int) = 0 := by unfold askE; rw [if_neg (by omega)]
 have hb3 : Below w.heap.size w (((w.alloc (.cells #[.int .i64 (b : Int)] 3)).alloc (.cells #[.slice none 0 0] 35)).alloc (.cells #[.int .i64 0] 29)) := gr_alloc (gr_alloc (gr_alloc (gr_refl w) _) _) _
 have h3 := h.below hb3
 have HA := Lib.hid (asked_any _ ok base g F D (b : Int) h3)
 rw [h0] at HA
 obtain ⟨dr, dc, pv, dvs, pvs, hdw, hF⟩ := h
 have hd := hdw.below hb3
 have c3 := hd.db.c3
 have c2 := hd.db.c2
 rw [hdn] at c3
 obtain ⟨Ap, cp, rfl, _, _⟩ := own_form hd.pen
 refine (callsIn_wide (n := 9)).1 ?_
 refine callsIn_of_wp_marks Tryz.func75 rfl trivial ?_ rfl
 simp only [Tryz.ntmps75, List.size_toArray, List.length_cons, List.length_nil, Nat.reduceAdd, Nat.reduceSub, Array.replicate_succ, Array.replicate_zero, List.push_toArray, List.append_toArray, List.nil_append, List.cons_append]
 gi_wp2_with fail
 refine ⟨trivial, ?_⟩
 refine (callsIn_wide.2 HA.out).mono ?_
 rintro e w' ⟨rfl, rfl⟩
 gi_wp2_with fail
 refine ⟨trivial, ?_⟩
 refine (callsIn_wide.2 (Backward_any Ap _ cp _)).mono ?_
 rintro e w' ⟨rfl, rfl⟩
 gi_wp2_with fail
 have hRI : RI w.heap.size w b (.slice none 0 0) (.slice Ap D.pending.length cp) ((((w.alloc (.cells #[.int .i64 (b : Int)] 3)).alloc (.cells #[.slice none 0 0] 35)).alloc (.cells #[.int .i64 0] 29)).alloc (.cells #[.slice Ap D.pending.length cp] 181)) := by
  have hnew : ∀ (W : World) (t : TypeId) (v : Value) (k : Nat), W.heap.size = k → Boxed (W.alloc (.cells #[v] t)) k t v := fun W t v k e => e ▸ Boxed.new W t v
  exact ⟨(((hnew _ _ _ _ rfl).alloc _).alloc _).alloc _, ((hnew _ _ _ _ (by simp)).alloc _).alloc _, (hnew _ _ _ _ (by simp)).alloc _, hnew _ _ _ _ (by simp), gr_alloc hb3 _⟩
 have hd4 := hd.below (gr_alloc (gr_refl _) (.cells #[.slice Ap D.pending.length cp] 181))
 have hsz : ((((w.alloc (.cells #[.int .i64 (b : Int)] 3)).alloc (.cells #[.slice none 0 0] 35)).alloc (.cells #[.int .i64 0] 29)).alloc (.cells #[.slice Ap D.pending.length cp] 181)).heap.size = w.heap.size + 4 := by simp
 generalize ((((w.alloc (.cells #[.int .i64 (b : Int)] 3)).alloc (.cells #[.slice none 0 0] 35)).alloc (.cells #[.int .i64 0] 29)).alloc (.cells #[.slice Ap D.pending.length cp] 181)) = W0 at *
 generalize hn₀ : w.heap.size = n₀ at *
 have HN := Lib.hid hn₀
 have HZ := Lib.hid hsz
 generalize hnp : D.pending.length = np at *
 have HNP := Lib.hid hnp
 clear hn₀ hsz hnp c2 c3 HA h0 hb3 hd
 have hle : n₀ ≤ W0.heap.size := by have := HZ.out; omega
 have HDW := Lib.hid hdw
 have HPW : Hid (∀ k, k < np → ∃ p q : _ × _, D.pending[np - 1 - k]? = some p ∧ pvs.getD (np - 1 - k) (0, .slice none 0 0) = ((p.1 : Int), q.2) ∧ BW ok w q.2 p.2) := Lib.hid (fun k hk => by
  have hi : np - 1 - k < D.pending.length := by rw [HNP.out]; omega
  have hil : np - 1 - k < pvs.length := by rw [hdw.pl]; exact hi
  obtain ⟨a1, a2, a3⟩ := hdw.pw _ _ _ (List.getElem?_eq_getElem hil) (List.getElem?_eq_getElem hi)
  refine ⟨D.pending[np - 1 - k], pvs[np - 1 - k], List.getElem?_eq_getElem hi, ?_, a3⟩
  rw [List.getD, List.getElem?_eq_getElem hil]
  show pvs[np - 1 - k] = _
  rw [← a1])
 refine rangeFunc_stops rfl (by omega) (gf := 135) (lb := #[.pointer (some ⟨n₀ + 1 + 1 + 1, 0, none⟩)]) rfl trivial (enters_of Tryz.func135 (by kernel_rfl) rfl)
  (encs := backV pvs) (backL np) (Kp := Kp1 n₀ (n₀ + 1 + 1 + 1)) Kp1.trans ?put ?seq (fun _ => rfl)
  (fun k W => RI n₀ w b (.slice none 0 0) (.slice Ap np cp) W ∧ noW D.pending b np k) ?own (fun W => ∃ v, RI n₀ w b v (.slice Ap np cp) W ∧ OB W n₀ v (lastL D.blocks D.pending b)) ?ownx ⟨hRI, fun j p hj hp => by
   have := (List.getElem?_eq_some_iff.1 hp).1
   rw [HNP.out] at this
   omega⟩
  (fun k a' W => ∃ Bx, n₀ + 3 < Bx ∧ W.heap[Bx]? = some (.cells #[.int .i64 (pvs.getD (np - 1 - k) (0, .slice none 0 0)).1, (pvs.getD (np - 1 - k) (0, .slice none 0 0)).2] 186 (0, 0)) ∧ a' = { tmps := #[.pointer (some ⟨g, 0, none⟩), .int .i64 (b : Int), undef, .pointer (some ⟨n₀, 0, none⟩), .pointer (some ⟨n₀ + 1, 0, none⟩), .pointer (some ⟨n₀ + 1 + 1, 0, none⟩), .int .i64 0, undef, .pointer (some ⟨Bx, 0, none⟩), .pointer (some ⟨g, 0, none⟩), .int .i64 (b : Int), .int .i64 0, .int .i64 0, .bool false, undef, .pointer (some ⟨g, 0, none⟩),
   .pointer (some ⟨g, 0, none⟩), .pointer (some ⟨g, 3, none⟩), .bool false, .pointer (some ⟨g, 0, none⟩), .pointer (some ⟨g, 0, none⟩), .pointer (some ⟨g, 2, none⟩), .slice Ap np cp, .func (.func 135) #[] #[.pointer (some ⟨n₀ + 1 + 1 + 1, 0, none⟩)],
   .int .i64 (((np - 1 - k : Nat)) : Int), .agg #[.int .i64 (pvs.getD (np - 1 - k) (0, .slice none 0 0)).1, (pvs.getD (np - 1 - k) (0, .slice none 0 0)).2], undef, undef, undef, undef, undef, undef, undef, undef, undef, undef, undef, undef, undef, undef, undef], defers := [] }) ?ownA ?assign ?body ?done ?stop
 case put =>
  intro W l o o' hl ho hc
  have hz := HZ.out
  exact ⟨(Below.refl n₀ W).grown (grownBy_putObj' W l o') (by have := (Array.getElem?_eq_some_iff.1 ho).1; omega) (fun k e => by cases e; omega), fun u e => (World.putObj_heap_other (by omega)).trans e⟩
 case seq =>
  intro l J Jx W hB hJ hJx hY hJ0
  have hz := HN.out
  subst hz
  have hW : Below w.heap.size w W := hRI.below.trans (hB.mono hle)
  rw [backL_len]
  refine back1_in 8 l _ w Ap np cp pvs (by have := hdw.pen; rw [HNP.out] at this; exact own_rd this) (hdw.pl.trans HNP.out) hpl (fun q hq => ?_) J Jx hJ hJx hY W hW ((hB.block _ hRI.bb.lt).trans hRI.bb) hJ0
  obtain ⟨j, hj, rfl⟩ := List.getElem_of_mem hq
  have hj' : j < D.pending.length := by rw [← hdw.pl]; exact hj
  obtain ⟨_, gq, e, _⟩ := (hdw.pw j _ _ (List.getElem?_eq_getElem hj) (List.getElem?_eq_getElem hj')).2.2
  exact ⟨_, _, _, e⟩
 case own =>
  rintro k X Y row ⟨h1, h2⟩ hg hr
  have hz := HN.out
  subst hz
  exact ⟨h1.ck hg (fun r e => (hr r e).2) ((ownFrom_below (Nat.le_refl _) hle : OwnFrom W0.heap.size (fun (_ : Nat) W => Below w.heap.size w W)) k X Y row h1.below hg hr), h2⟩
 case ownx =>
  rintro _ X Y row ⟨v, h1, h2⟩ hg hr
  have hz := HN.out
  subst hz
  refine ⟨v, h1.ck hg (fun r e => (hr r e).2) ((ownFrom_below (Nat.le_refl _) hle : OwnFrom W0.heap.size (fun (_ : Nat) W => Below w.heap.size w W)) 0 X Y row h1.below hg hr), World.ownsRow.kept h2 hg ?_⟩
  rcases h2.2 with ⟨rfl, _⟩ | ⟨q, cap, cur, rfl, _, hq, _⟩
  ·exact .inl rfl
  ·refine .inr fun e => ?_
   obtain ⟨_, o, ho, hc⟩ := hr q (by simpa [Value.ownBlock] using e.symm)
   rw [hq] at ho
   cases ho
   cases hc
 case ownA =>
  rintro a' k X Y row ⟨Bx, h1, h2, h3⟩ hg hr
  refine ⟨Bx, h1, (hg.block Bx (Array.getElem?_eq_some_iff.1 h2).1 (fun e => ?_)).trans h2, h3⟩
  obtain ⟨_, o, ho, hc⟩ := hr Bx e.symm
  rw [h2] at ho
  cases ho
  cases hc
 case assign =>
  intro l k x W K hx hI hK
  have hkn : k < np := by have := (List.getElem?_eq_some_iff.1 hx).1; rwa [backL_len] at this
  rw [backL_at hkn] at hx
  injection hx with hx
  subst hx
  obtain ⟨p, q, e1, e2, _, gq, e3, _⟩ := HPW.out k hkn
  obtain ⟨hI1, hI2⟩ := hI
  have hbl := hI1.bb.lt
  unfold backV
  have HAX := Lib.hid (fun a' => hK a' (W.alloc (.cells #[.int .i64 (pvs.getD (np - 1 - k) (0, .slice none 0 0)).1, (pvs.getD (np - 1 - k) (0, .slice none 0 0)).2] 186)) ((KeepsOthers.alloc _ _).from _) ⟨(Below.refl n₀ W).alloc (by omega) _, fun o h => (Below.heap_alloc W _ _ (Array.getElem?_eq_some_iff.1 h).1).trans h⟩
   ⟨⟨hI1.b3.alloc _, hI1.b4.alloc _, hI1.b5.alloc _, hI1.bb.alloc _, hI1.below.alloc (by omega) _⟩, hI2⟩)
  clear hK
  rw [e2] at HAX ⊢
  dsimp only at HAX ⊢
  rw [e3] at HAX ⊢
  gi_wp2
  refine HAX.out _ ⟨W.heap.size, by omega, heap_alloc_new W _, ?_⟩
  rfl
 case body =>
  rintro l k x a' W hx ⟨hI1, hI2⟩ ⟨Bx, hBx, hcell, rfl⟩
  have hkn : k < np := by have := (List.getElem?_eq_some_iff.1 hx).1; rwa [backL_len] at this
  clear hx
  obtain ⟨⟨p1, p2⟩, q, e1, e2, hbw⟩ := HPW.out k hkn
  dsimp only at e2 hbw
  have hz := HN.out
  subst hz
  have hbw' := hbw.below hI1.below
  obtain ⟨hl2, gq, e3, hBq, _⟩ := hbw'
  rw [e2, e3] at hcell
  dsimp only at hcell
  have k0 : W.cell? ⟨Bx, 0, none⟩ = some (.int .i64 (p1 : Int)) := by rw [cell_of_row W Bx 0 _ _ _ hcell]; rfl
  have k1 : W.cell? ⟨Bx, 1, none⟩ = some (.slice (some ⟨gq, 0, none⟩) 4096 4096) := by rw [cell_of_row W Bx 1 _ _ _ hcell]; rfl
  have k3 := hI1.b3.cell
  by_cases hpb : p1 = b
  ·subst hpb
   have hr := hBq.readsAll
   rw [hl2] at hr
   have HWH := Lib.hid (whole_any _ 4096 4096 p2 W hr (Nat.le_refl _))
   rw [splice_zer p2 hl2] at HWH
   have HLL := Lib.hid (lastL_at (bs := D.blocks) e1 rfl (fun j q' hj hq' => hI2 j q' (by omega) hq'))
   have HI1 := Lib.hid hI1
   have HL2 := Lib.hid hl2
   have hWs := hI1.below.size
   clear hbw e1 e2 e3 hBq hcell hr hI2 hI1 hl2
   gi_wp2_with fail
   refine ⟨trivial, ?_⟩
   refine (CallsIn.inRound l (callsIn_wide.2 HWH.out)).mono ?_
   rintro e W1 ⟨rfl, hB1, hb1⟩
   have b4 := Boxed.kept HI1.out.b4 (row := none) ⟨hb1.os, hb1.tape, hb1.output, hb1.size, fun k hk _ => hb1.block k hk⟩ (by simp)
   have b5 := Boxed.kept HI1.out.b5 (row := none) ⟨hb1.os, hb1.tape, hb1.output, hb1.size, fun k hk _ => hb1.block k hk⟩ (by simp)
   have b3 := Boxed.kept HI1.out.b3 (row := none) ⟨hb1.os, hb1.tape, hb1.output, hb1.size, fun k hk _ => hb1.block k hk⟩ (by simp)
   have bb := Boxed.kept HI1.out.bb (row := none) ⟨hb1.os, hb1.tape, hb1.output, hb1.size, fun k hk _ => hb1.block k hk⟩ (by simp)
   have y4 := b4.cell
   have z4 := b4.frozen
   have y5 := (b5.kept (grownBy_setCell' W1 (w.heap.size + 1) (.slice (some ⟨W.heap.size, 0, none⟩) 4096 4096)) (by simp)).cell
   have z5 := (b5.kept (grownBy_setCell' W1 (w.heap.size + 1) (.slice (some ⟨W.heap.size, 0, none⟩) 4096 4096)) (by simp)).frozen
   clear k0 k1 k3
   gi_wp2_with fail
   have g4 := grownBy_setCell' W1 (w.heap.size + 1) (.slice (some ⟨W.heap.size, 0, none⟩) 4096 4096)
   have g5 := grownBy_setCell' (W1.setCell ⟨w.heap.size + 1, 0, none⟩ (.slice (some ⟨W.heap.size, 0, none⟩) 4096 4096)) (w.heap.size + 1 + 1) (.int .i64 0)
   have hbl := HI1.out.bb.lt
   have hob := hB1.own (base := w.heap.size) hWs (by rw [HL2.out]; simp [maxLen])
   rw [HL2.out] at hob
   refine ⟨(((keepsO hb1).trans (KeepsOthers.setCell _ _ _)).trans (KeepsOthers.setCell _ _ _)).from _, .slice (some ⟨W.heap.size, 0, none⟩) 4096 4096, ⟨?_, ?_, ?_, ?_, ?_⟩, ?_⟩
   ·exact (b3.kept g4 (by simp; try omega)).kept g5 (by simp; try omega)
   ·exact (b4.set _).kept g5 (by simp; try omega)
   ·exact (b5.kept g4 (by simp; try omega)).set _
   ·exact (bb.kept g4 (by simp; try omega)).kept g5 (by simp; try omega)
   ·exact (((HI1.out.below.trans (hb1.mono hWs)).setCell (p := ⟨w.heap.size + 1, 0, none⟩) (by dsimp only; omega) _).setCell (p := ⟨w.heap.size + 1 + 1, 0, none⟩) (by dsimp only; omega) _)
   ·rw [HLL.out]
    exact World.ownsRow.kept (World.ownsRow.kept hob g4 (.inr (by simp [Value.ownBlock]; omega))) g5 (.inr (by simp [Value.ownBlock]; omega))
  ·have t1 : ((p1 : Int) == (b : Int)) = false := beq_eq_false_iff_ne.2 (by omega)
   have t1' : (p1 == b) = false := beq_eq_false_iff_ne.2 hpb
   have HI : Hid (RI w.heap.size w b (.slice none 0 0) (.slice Ap np cp) W ∧ noW D.pending b np (k + 1)) := Lib.hid ⟨hI1, fun j p hj hp => by
    by_cases e : j = np - 1 - k
    ·rw [e, e1] at hp
     cases hp
     exact hpb
    ·exact hI2 j p (by omega) hp⟩
   clear hbw e1 e2 e3 hBq hcell hI2 hI1
   gi_wp2_with fail
   exact ⟨KeepsFrom.refl _ _, ⟨Below.refl _ _, fun o h => h⟩, HI.out⟩
 case done =>
  intro l W hD hI hK
  obtain ⟨hI1, hI2⟩ := hI
  have hz := HN.out
  subst hz
  have hdW := HDW.out.below hI1.below
  have c1 := hdW.db.c1
  obtain ⟨uo, co, _, hbo⟩ := hdW.at_ hb
  obtain ⟨Ao, no, co', mo, rfl, hro, hno, hso⟩ := hbo.read
  have HWH := Lib.hid (whole_any Ao no co' mo W.drew (hro.below (gr_drewN (gr_refl W) 1)) hno)
  have HI := Lib.hid hI1.drawn
  have HLL := Lib.hid ((lastL_none (bs := D.blocks) (fun p hp => by
   obtain ⟨j, hj, rfl⟩ := List.getElem_of_mem hp
   exact hI2 j _ (by rw [backL_len]; omega) (List.getElem?_eq_getElem hj))).trans hso.symm)
  have HK := Lib.hid hK
  have HD := Lib.hid hD
  have HSL : Hid ((splice zer 0 mo).length = 4096) := Lib.hid (by rw [hso]; exact hbo.1)
  have hWs := hI1.below.size
  have k3 := hI1.b3.cell
  have hi0' : (0 : Int) ≤ (b : Int) := Int.natCast_nonneg _
  have hi1' : (b : Int) < (D.blocks.length : Int) := by omega
  clear hbo hro hI1 hI2 hdW hK hD hso
  gi_wp2_with fail
  refine wpIn_onlyN ?_
  gi_region_with (refine ⟨trivial, ?_⟩; (with_reducible refine (callsIn_wide.2 HWH.out).mono ?_); rintro e W1 ⟨rfl, hB1, hb1⟩; obtain ⟨y4, z4, y5, z5, hRI1⟩ := HI.out.laid hb1 (.slice (some ⟨W.heap.size, 0, none⟩) 4096 4096))
  all_goals
   rename_i hKK
   refine hKK _ _ ?_
   have hzs := HZ.out
   have hDl := HD.out
   have hll := (Array.getElem?_eq_some_iff.1 HK.out).1
   have hRI2 := hRI1 hWs
   have hKW : ((W1.setCell ⟨w.heap.size + 1, 0, none⟩ (.slice (some ⟨W.heap.size, 0, none⟩) 4096 4096)).setCell ⟨w.heap.size + 1 + 1, 0, none⟩ (.int .i64 0)).heap[l]? = some (.deferred (some [])) := by
    rw [Below.heap_setCell _ _ _ l (by dsimp only; omega), Below.heap_setCell _ _ _ l (by dsimp only; omega), hb1.block l hll]
    exact HK.out
   have hob := hB1.own (base := w.heap.size) hWs (by rw [HSL.out]; simp [maxLen])
   rw [HSL.out, ← HLL.out] at hob
   have hob2 : OB ((W1.setCell ⟨w.heap.size + 1, 0, none⟩ (.slice (some ⟨W.heap.size, 0, none⟩) 4096 4096)).setCell ⟨w.heap.size + 1 + 1, 0, none⟩ (.int .i64 0)) w.heap.size (.slice (some ⟨W.heap.size, 0, none⟩) 4096 4096) (lastL D.blocks D.pending b) :=
    World.ownsRow.kept (World.ownsRow.kept hob (grownBy_setCell' _ _ _) (.inr (by simp [Value.ownBlock]; omega))) (grownBy_setCell' _ _ _) (.inr (by simp [Value.ownBlock]; omega))
   clear hb1 hB1 y4 z4 y5 z5 hRI1 hob
   generalize ((W1.setCell ⟨w.heap.size + 1, 0, none⟩ (.slice (some ⟨W.heap.size, 0, none⟩) 4096 4096)).setCell ⟨w.heap.size + 1 + 1, 0, none⟩ (.int .i64 0)) = W2 at *
   generalize Value.slice (some ⟨W.heap.size, 0, none⟩) 4096 4096 = v at *
   have HI := Lib.hid hRI2
   have HO := Lib.hid hob2
   have k4 := hRI2.b4.cell
   have k5 := hRI2.b5.cell
   have hK := Lib.hid hKW
   clear hob2 hRI2 hKW
   gi_wp2_with fail
   refine ⟨by simp, .inl ⟨_, _, rfl, run_takeDeferred hK.out, ?_⟩⟩
   have hg := grownBy_putObj' W2 l (.deferred none)
   have hbb : Below w.heap.size W2 (W2.putObj l (.deferred none)) := (Below.refl _ W2).grown hg (by have := (Array.getElem?_eq_some_iff.1 hK.out).1; omega) (fun k e => by cases e; omega)
   have q4 := (HI.out.b4.kept hg (by simp; omega)).cell
   have q5 := (HI.out.b5.kept hg (by simp; omega)).cell
   have hoo : OB (W2.putObj l (.deferred none)) w.heap.size v (lastL D.blocks D.pending b) := World.ownsRow.kept HO.out hg (by
    rcases HO.out.2 with ⟨rfl, _⟩ | ⟨q, cap, cur, rfl, _, hq, _⟩
    ·exact .inl rfl
    ·refine .inr fun e => ?_
     have e' : q = l := by simpa [Value.ownBlock] using e
     rw [e', hK.out] at hq
     cases hq)
   exact ⟨_, (by simp [results, Tryz.results75, go_sem, q4, q5]), v, rfl, hoo, HI.out.below.trans hbb⟩
 case stop =>
  rintro l W hl ⟨v, hI1, hO⟩ hK
  have HI := Lib.hid hI1
  have HO := Lib.hid hO
  have k4 := hI1.b4.cell
  have k5 := hI1.b5.cell
  clear hO hI1
  gi_wp2_with fail
  refine ⟨by simp, .inl ⟨_, _, rfl, run_takeDeferred hK, ?_⟩⟩
  have hz := HN.out
  subst hz
  have hzs := HZ.out
  have hg := grownBy_putObj' W l (.deferred none)
  have hbb : Below w.heap.size W (W.putObj l (.deferred none)) := (Below.refl _ W).grown hg (by have := (Array.getElem?_eq_some_iff.1 hK).1; omega) (fun k e => by cases e; omega)
  have q4 := (HI.out.b4.kept hg (by simp; omega)).cell
  have q5 := (HI.out.b5.kept hg (by simp; omega)).cell
  have hoo : OB (W.putObj l (.deferred none)) w.heap.size v (lastL D.blocks D.pending b) := World.ownsRow.kept HO.out hg (by
   rcases HO.out.2 with ⟨rfl, _⟩ | ⟨q, cap, cur, rfl, _, hq, _⟩
   ·exact .inl rfl
   ·refine .inr fun e => ?_
    have e' : q = l := by simpa [Value.ownBlock] using e
    rw [e', hK] at hq
    cases hq)
  exact ⟨_, (by simp [results, Tryz.results75, go_sem, q4, q5]), v, rfl, hoo, HI.out.below.trans hbb⟩
end Go.Proofs.YtnkeclpgpiogoaaGreat

/-! DkJ -/
namespace Go.Proofs.YtnkeclpgpiogoaaGreat
open Go.RowKit
set_option maxRecDepth 100000 in
theorem readE_cases (D : DiskS) (b : Int) : (readE D b = 0 ∧ ∃ k : Nat, b = k ∧ k < D.blocks.length ∧ D.down = false ∧ readL D b = lastL D.blocks D.pending k) ∨ (readE D b ≠ 0 ∧ readL D b = []) := by
 by_cases h : readE D b = 0
 ·refine .inl ⟨h, ?_⟩
  have ha : askE D b = 0 := by
   unfold readE at h
   by_cases h0 : askE D b = 0
   ·exact h0
   ·rw [if_pos h0] at h; exact absurd h h0
  have hd : D.down = false := by
   unfold readE at h
   rw [if_neg (by rw [ha]; simp)] at h
   cases hd : D.down with
   | false => rfl
   | true => rw [hd] at h; simp at h
  obtain ⟨h1, h2⟩ := ask_in ha
  obtain ⟨k, rfl⟩ := Int.eq_ofNat_of_zero_le h1
  refine ⟨k, rfl, by omega, hd, ?_⟩
  unfold readL
  rw [if_neg (by rw [h]; simp)]
  rfl
 ·exact .inr ⟨h, by unfold readL; rw [if_pos h]⟩
set_option maxRecDepth 100000 in
theorem Read_any (w : World) (ok : Nat → Prop) (base g : Nat) (F : Nat → Prop) (D : DiskS) (b : Int) (h : IsD w ok base g F D) (hpl : D.pending.length ≤ 1000000) :
  Calls Tryz.prog 75 #[.pointer (some ⟨g, 0, none⟩), .int .i64 b] w fun e w' => ∃ v, e = .returned (.tuple #[v, .int .i64 (readE D b)]) ∧ OB w' w.heap.size v (readL D b) ∧ Below w.heap.size w w' := by
 rcases readE_cases D b with ⟨h0, k, rfl, hk, hd, hL⟩ | ⟨h0, hL⟩
 ·rw [h0, hL]
  exact Read_good w ok base g F D k h hk hd hpl
 ·rw [hL]
  refine (Read_bad w ok base g F D b h h0).mono ?_
  rintro e w' ⟨rfl, hb⟩
  exact ⟨_, rfl, OB.nil _ _, hb⟩
def Foreign (t : TypeId) : Prop := t ≠ 183 ∧ t ≠ 35 ∧ t ≠ 186
set_option maxRecDepth 100000 in
theorem foreign_u8 : Foreign 5 := ⟨by decide, by decide, by decide⟩
def KB (w w' : World) : Prop := w.heap.size ≤ w'.heap.size ∧ ∀ (k : Nat) (cs : Array Value) (t : TypeId) (fr : Nat × Nat), Foreign t → w.heap[k]? = some (.cells cs t fr) → w'.heap[k]? = some (.cells cs t fr)
section
variable {w w' w'' : World} {base g : Nat} {v : Value} {l : List UInt8}
set_option maxRecDepth 100000 in
theorem KB.refl (w : World) : KB w w := ⟨Nat.le_refl _, fun _ _ _ _ _ h => h⟩
set_option maxRecDepth 100000 in
theorem KB.trans (h : KB w w') (k : KB w' w'') : KB w w'' := ⟨Nat.le_trans h.1 k.1, fun i cs t fr ht hi => k.2 i cs t fr ht (h.2 i cs t fr ht hi)⟩
set_option maxRecDepth 100000 in
theorem KB.of_below (h : Below w.heap.size w w') : KB w w' := ⟨h.size, fun i _ _ _ _ hi => (h.block i (Array.getElem?_eq_some_iff.1 hi).1).trans hi⟩
set_option maxRecDepth 100000 in
theorem KB.row {e : TypeId} {size n : Nat} {xs : List Value} (h : KB w w') (he : Foreign e) (hO : w.ownsRow base e size v n xs) : w'.ownsRow base e size v n xs := by
 refine ⟨hO.1, ?_⟩
 rcases hO.2 with h0 | ⟨q, cap, cur, rfl, hb, hg, r⟩
 ·exact .inl h0
 ·exact .inr ⟨q, cap, cur, rfl, hb, h.2 q _ _ _ he hg, r⟩
set_option maxRecDepth 100000 in
theorem KB.ob (h : KB w w') (hO : OB w base v l) : OB w' base v l := h.row foreign_u8 hO
end
section
variable {w w' : World} {ok ok' : Nat → Prop} {base g : Nat} {F : Nat → Prop} {D : DiskS}
set_option maxRecDepth 100000 in
theorem IsD.lower {b : Nat} (h : IsD w ok base g F D) (hb : b ≤ base) : IsD w ok b g F D := by
 obtain ⟨dr, dc, pv, dvs, pvs, hd, hF⟩ := h
 exact ⟨dr, dc, pv, dvs, pvs, ⟨hd.db, own_low hd.dur hb, own_low hd.pen hb, hd.pl, hd.dv, hd.pw, hd.n1, hd.n2, hd.p1, hd.p2, hd.f1, hd.f2, Nat.le_trans hb hd.gb⟩, hF⟩
set_option maxRecDepth 100000 in
theorem IsD.foot_for (h : IsD w ok base g F D) : ∀ (k : Nat) (cs : Array Value) (t : TypeId) (fr : Nat × Nat), Foreign t → F k → w.heap[k]? = some (.cells cs t fr) → False := by
 obtain ⟨dr, dc, pv, dvs, pvs, hd, hF⟩ := h
 intro k cs t fr ht hk hB
 rcases (hF k).1 hk with rfl | rfl | hk
 ·exact cells_ne hB hd.db ht.1
 ·rcases hd.dur.2 with ⟨e, _⟩ | ⟨q, cap, cur, e, _, hq, _⟩
  ·cases e
  ·cases e; exact cells_ne hB hq ht.2.1
 ·rcases hd.pen.2 with ⟨rfl, _⟩ | ⟨q, cap, cur, rfl, _, hq, _⟩
  ·simp [Value.ownBlock] at hk
  ·simp [Value.ownBlock] at hk; subst hk; exact cells_ne hB hq ht.2.2
set_option maxRecDepth 100000 in
theorem IsD.foot_ty (h : IsD w ok base g F D) : ∀ (k : Nat) (cs : Array Value) (fr : Nat × Nat), F k → w.heap[k]? = some (.cells cs 5 fr) → False := fun k cs fr => h.foot_for k cs _ fr foreign_u8
set_option maxRecDepth 100000 in
theorem IsD.kb (h : IsD w ok base g F D) (ho : Off F w w') : KB w w' := ⟨ho.size, fun k cs t fr ht hk => (ho.block k (Array.getElem?_eq_some_iff.1 hk).1 (fun hf => h.foot_for k cs t fr ht hf hk)).trans hk⟩
end
def St (w0 w : World) (g : Nat) (D : DiskS) : Prop := Below w0.heap.size w0 w ∧ ∃ F, IsD w (fun k => w0.heap.size ≤ k) w0.heap.size g F D
section
variable {w0 w w' : World} {g : Nat} {D D' : DiskS}
set_option maxRecDepth 100000 in
theorem St.below (h : St w0 w g D) (hb : Below w.heap.size w w') : St w0 w' g D := by
 obtain ⟨h1, F, h2⟩ := h
 exact ⟨gr_trans h1 hb, F, h2.below hb⟩
set_option maxRecDepth 100000 in
theorem St.post {F : Nat → Prop} (h1 : Below w0.heap.size w0 w) (h2 : IsD w (fun k => w0.heap.size ≤ k) w0.heap.size g F D) (hp : DPost w (fun k => w0.heap.size ≤ k) w0.heap.size g F D' w') : St w0 w' g D' ∧ KB w w' := by
 obtain ⟨ho, F', h3, h4⟩ := hp
 refine ⟨⟨h1.trans (ho.below (fun k hk => (h2.foot_lt k hk).1) h1.size), F', h3.mono (fun k _ hk => ?_)⟩, h2.kb ho⟩
 rcases hk with hk | hk
 ·exact hk
 ·exact Nat.le_trans h1.size hk
end
end Go.Proofs.YtnkeclpgpiogoaaGreat

/-! Apt -/
namespace Go.Proofs.YtnkeclpgpiogoaaGreat
open Go.RowKit
def mkI (k i : Int) : Int := IntKind.u64.wrap (IntKind.u64.wrap (wrap64 (wrap64 (1000003 * wrap64 (k + 7)) + i)) * 11400714819323198485) / 72057594037927936 % 256
def mkB (k i : Nat) : UInt8 := UInt8.ofNat (mkI k i).toNat
def marks (k n : Nat) : List UInt8 := (List.range n).map (mkB k)
section
variable {w w' : World} {base g n cap : Nat} {l : List UInt8} {A : Option Addr}
set_option maxRecDepth 100000 in
theorem obA_some (h : OB w base (.slice A n cap) l) (hn : l.length = n) (h0 : 0 < n) : ∃ g, A = some ⟨g, 0, none⟩ ∧ n ≤ cap ∧ cap ≤ maxLen ∧ base ≤ g := by
 rcases h.2 with ⟨_, e⟩ | ⟨g', cap', cur, e, hb, hgb, h1, h2, _⟩
 ·omega
 ·injection e with e1 e2 e3
  subst e1 e3
  exact ⟨g', rfl, by omega, h2, hb⟩
set_option maxRecDepth 100000 in
theorem grown_set (w : World) (b j : Nat) (v : Value) : w.grownBy (w.setCell ⟨b, j, none⟩ v) (some b) :=
 ⟨rfl, rfl, rfl, (KeepsWalks.setCell w _ v).size, fun k _ hk => Below.heap_setCell _ _ _ k (fun e => hk (by rw [e]))⟩
set_option maxRecDepth 100000 in
theorem ob_kept {v : Value} {row : Option Nat} (h : OB w base v l) (hg : w.grownBy w' row) (hne : v.ownBlock = none ∨ v.ownBlock ≠ row) : OB w' base v l := World.ownsRow.kept h hg hne
end
set_option maxRecDepth 100000 in
theorem obn_cur {w : World} {base g n cap : Nat} {l : List UInt8} (h : OB w base (.slice (some ⟨g, 0, none⟩) n cap) l) (hn : l.length = n) : ∃ cur : Array Value, w.heap[g]? = some (.cells cur 5 (0, 0)) ∧ base ≤ g ∧ n ≤ cap ∧ cap ≤ maxLen ∧ cur.size = cap ∧ cur.toList.take n = l.map bv := by
 rcases h.2 with ⟨e, _⟩ | ⟨g', cap', cur, e, hb, hg, hnc, hm, hcu, ht⟩
 ·cases e
 ·injection e with e1 e2 e3
  injection e1 with e1
  injection e1 with e1
  subst e1 e3
  exact ⟨cur, hg, hb, by omega, hm, by simpa using hcu, by rw [← ht, hn]; simp⟩
set_option maxRecDepth 100000 in
theorem obn_set {w : World} {base g n cap : Nat} {l : List UInt8} (h : OB w base (.slice (some ⟨g, 0, none⟩) n cap) l) (hn : l.length = n) (j : Nat) (x : UInt8) : OB (w.setCell ⟨g, j, none⟩ (bv x)) base (.slice (some ⟨g, 0, none⟩) n cap) (l.set j x) := by
 obtain ⟨cur, hg, hb, hnc, hm, hz, ht⟩ := obn_cur h hn
 refine ⟨by simp, .inr ⟨g, cap, cur.setIfInBounds j (bv x), ?_, hb, ?_, ?_, hm, ?_, ?_⟩⟩
 ·rw [List.length_set, hn]
 ·simp only [World.setCell, Array.getElem?_modify, if_pos, hg]
  simp
 ·rw [List.length_set]; omega
 ·simp [hz]
 ·rw [List.length_set, hn, Nat.mul_one, Array.toList_setIfInBounds, List.take_set, ht, List.map_set]
abbrev apV (A : Nat → Option Addr) (N C : Nat → Nat) (j : Nat) : Value := .slice (A j) (N j) (C j)
structure Ap1 (w : World) (base n : Nat) (A : Nat → Option Addr) (N C : Nat → Nat) (L : Nat → List UInt8) : Prop where
 ob : ∀ j, j < n → OB w base (apV A N C j) (L j)
 len : ∀ j, j < n → (L j).length = N j
def ApD (n : Nat) (A : Nat → Option Addr) (N C : Nat → Nat) : Prop := ∀ i j, i < n → j < n → i ≠ j → (apV A N C j).ownBlock = none ∨ (apV A N C j).ownBlock ≠ (apV A N C i).ownBlock
set_option maxRecDepth 100000 in
theorem Ap1.set {w : World} {base n : Nat} {A : Nat → Option Addr} {N C : Nat → Nat} {L : Nat → List UInt8} (h : Ap1 w base n A N C L) (hd : ApD n A N C) {k i g : Nat} (hk : k < n) (hA : A k = some ⟨g, 0, none⟩) (x : UInt8) :
  Ap1 (w.setCell ⟨g, i, none⟩ (bv x)) base n A N C (fun j => if j = k then (L k).set i x else L j) := by
 refine ⟨fun j hj => ?_, fun j hj => ?_⟩
 ·by_cases e : j = k
  ·subst e
   rw [if_pos rfl]
   have := h.ob j hj
   unfold apV at this ⊢
   rw [hA] at this ⊢
   exact obn_set this (h.len j hj) i x
  ·rw [if_neg e]
   refine ob_kept (h.ob j hj) (grown_set w g i _) ?_
   have := hd k j hk hj (Ne.symm e)
   unfold apV at this ⊢
   rw [hA] at this
   simpa [Value.ownBlock] using this
 ·by_cases e : j = k
  ·subst e
   rw [if_pos rfl, List.length_set]
   exact h.len j hj
  ·rw [if_neg e]
   exact h.len j hj
end Go.Proofs.YtnkeclpgpiogoaaGreat

/-! DkK -/
namespace Go.Proofs.YtnkeclpgpiogoaaGreat
open Go.RowKit
end Go.Proofs.YtnkeclpgpiogoaaGreat

/-! ApO -/
namespace Go.Proofs.YtnkeclpgpiogoaaGreat
open Go.RowKit
end Go.Proofs.YtnkeclpgpiogoaaGreat

/-! DkM -/
namespace Go.Proofs.YtnkeclpgpiogoaaGreat
open Go.RowKit
section
variable {ok ok' : Nat → Prop} {w w' : World} {u : Value} {l : List UInt8} {base g dr dc : Nat} {F : Nat → Prop} {pv : Value} {dvs : List Value} {pvs : List (Int × Value)} {D : DiskS}
set_option maxRecDepth 100000 in
theorem BV.offO {S : Nat → Prop} (h : BV ok w u l) (ho : Off S w w') (hS : ∀ k, S k → ok k → False) : BV ok w' u l := by
 obtain ⟨hl, h | ⟨g, e, hB, hg⟩⟩ := h
 ·exact ⟨hl, .inl h⟩
 ·exact ⟨hl, .inr ⟨g, e, (ho.block g hB.lt (fun hs => hS g hs hg)).trans hB, hg⟩⟩
set_option maxRecDepth 100000 in
theorem BW.offO {S : Nat → Prop} (h : BW ok w u l) (ho : Off S w w') (hS : ∀ k, S k → ok k → False) : BW ok w' u l := by
 obtain ⟨hl, g, e, hB, hg⟩ := h
 exact ⟨hl, g, e, (ho.block g hB.lt (fun hs => hS g hs hg)).trans hB, hg⟩
set_option maxRecDepth 100000 in
theorem DK.offO {S : Nat → Prop} (h : DK w ok base g dr dc pv dvs pvs D) (ho : Off S w w') (hS : ∀ k, foot g dr pv k → ¬ S k) (hB : ∀ k, S k → ok k → False) : DK w' ok base g dr dc pv dvs pvs D :=
 ⟨h.db.off ho (hS g (.inl rfl)), ownsRow_off h.dur ho (fun k e => hS k (by cases e; exact .inr (.inl rfl))), ownsRow_off h.pen ho (fun k e => hS k (.inr (.inr e))), h.pl,
  fun i u l h1 h2 => (h.dv i u l h1 h2).offO ho hB, fun i q p h1 h2 => ⟨(h.pw i q p h1 h2).1, (h.pw i q p h1 h2).2.1, (h.pw i q p h1 h2).2.2.offO ho hB⟩, h.n1, h.n2, h.p1, h.p2, h.f1, h.f2, h.gb⟩
set_option maxRecDepth 100000 in
theorem IsD.offO {S : Nat → Prop} (h : IsD w ok base g F D) (ho : Off S w w') (hS : ∀ k, F k → ¬ S k) (hB : ∀ k, S k → ok k → False) : IsD w' ok base g F D := by
 obtain ⟨dr, dc, pv, dvs, pvs, hd, hF⟩ := h
 exact ⟨dr, dc, pv, dvs, pvs, hd.offO ho (fun k hk => hS k ((hF k).2 hk)) hB, hF⟩
set_option maxRecDepth 100000 in
theorem IsD.sharp (h : IsD w ok base g F D) : IsD w (fun k => ok k ∧ k < w.heap.size) base g F D := h.mono (fun _ hk ho => ⟨ho, hk⟩)
end
set_option maxRecDepth 100000 in
theorem OB.full {w : World} {base : Nat} {v : Value} {l : List UInt8} (h : OB w base v l) (hl : l.length = 4096) : ∃ q c, v = .slice (some ⟨q, 0, none⟩) 4096 c ∧ base ≤ q ∧ q < w.heap.size ∧ c ≤ maxLen := by
 obtain ⟨A, c, rfl, hr, hc, hm⟩ := h.formN hl
 obtain ⟨q, rfl, _, _, hb⟩ := obA_some h hl (by omega)
 exact ⟨q, c, rfl, hb, (h.lt q rfl).2, hm⟩
end Go.Proofs.YtnkeclpgpiogoaaGreat

/-! DkN -/
namespace Go.Proofs.YtnkeclpgpiogoaaGreat
open Go.RowKit
def Fresh (w : World) (e : Ending) (w' : World) : Prop := ∃ L : List UInt8, L.length = 4096 ∧ e = .returned (.slice (some ⟨w.heap.size, 0, none⟩) 4096 4096) ∧ BB w' w.heap.size L ∧ Below w.heap.size w w'
set_option maxRecDepth 100000 in
theorem carry_at (ps : List (Nat × List UInt8)) : ∀ (bs : List (List UInt8)) (b : Nat), b < bs.length → (carry bs ps).getD b [] = lastL bs ps b := by
 induction ps with
 | nil => intro bs b _; rfl
 | cons p ps ih =>
  intro bs b hb
  have h := ih (bs.set p.1 p.2) b (by rw [List.length_set]; exact hb)
  have e1 : carry bs (p :: ps) = carry (bs.set p.1 p.2) ps := rfl
  have e2 : lastL bs (p :: ps) b = lastL (bs.set p.1 p.2) ps b := by
   unfold lastL
   rw [List.foldl_cons]
   congr 1
   simp only [List.getD, List.getElem?_set]
   by_cases e : p.1 = b
   ·rw [if_pos e, if_pos e, if_pos (by omega)]
    rfl
   ·rw [if_neg e, if_neg e]
  rw [e1, e2, h]
set_option maxRecDepth 100000 in
theorem own_at {w : World} {base n c : Nat} {A : Option Addr} {e : TypeId} {size : Nat} {xs : List Value} (h : w.ownsRow base e size (.slice A n c) n xs) {ad : Addr} (ea : A = some ad) : ∃ cur fr, w.heap[ad.block]? = some (.cells cur e fr) := by
 subst ea
 rcases h.2 with ⟨e, _⟩ | ⟨q, cap, cur, e, _, hq, _⟩
 ·cases e
 ·injection e with e
  injection e with e
  subst e
  exact ⟨_, _, hq⟩
end Go.Proofs.YtnkeclpgpiogoaaGreat

/-! DkL -/
namespace Go.Proofs.YtnkeclpgpiogoaaGreat
open Go.RowKit
def Unm (p : Option Addr) (w : World) : Prop := p = none ∨ ∃ g, p = some ⟨g, 0, none⟩ ∧ w.cell? ⟨g, 0, none⟩ = some (.pointer none)
set_option maxRecDepth 100000 in
theorem Unm.below {p : Option Addr} {w w' : World} (h : Unm p w) (hb : Below w.heap.size w w') : Unm p w' := by
 rcases h with h | ⟨g, e, h⟩
 ·exact .inl h
 ·exact .inr ⟨g, e, keep_of_below hb h⟩
end Go.Proofs.YtnkeclpgpiogoaaGreat

/-! Pc -/
namespace Go.Proofs.YtnkeclpgpiogoaaGreat
open Go.RowKit
def CK (w w' : World) : Prop := ∀ (k : Nat) (c : Array Value) (t : TypeId) (f : Nat × Nat), w.heap[k]? = some (.cells c t f) → w'.heap[k]? = some (.cells c t f)
section
variable {w w' w'' : World}
set_option maxRecDepth 100000 in
theorem CK.refl (w : World) : CK w w := fun _ _ _ _ h => h
set_option maxRecDepth 100000 in
theorem CK.trans (h : CK w w') (k : CK w' w'') : CK w w'' := fun _ _ _ _ e => k _ _ _ _ (h _ _ _ _ e)
set_option maxRecDepth 100000 in
theorem CK.of_grownBy {row : Option Nat} (hg : w.grownBy w' row) (hr : ∀ r, row = some r → ∃ o : Obj, w.heap[r]? = some o ∧ o.isCells = false) : CK w w' := by
 intro k c t f h
 have hlt : k < w.heap.size := (Array.getElem?_eq_some_iff.1 h).1
 rw [hg.block k hlt (fun e => by
  obtain ⟨o, ho, hc⟩ := hr k e.symm
  rw [h] at ho
  cases ho
  cases hc), h]
set_option maxRecDepth 100000 in
theorem CK.of_below (hb : Below w.heap.size w w') : CK w w' := fun k _ _ _ h => (hb.block k (Array.getElem?_eq_some_iff.1 h).1).trans h
set_option maxRecDepth 100000 in
theorem CK.cell (h : CK w w') {p : Addr} {u : Value} (hc : w.cell? p = some u) : w'.cell? p = some u := by
 unfold World.cell? at hc ⊢
 cases ho : w.heap[p.block]? with
 | none => rw [ho] at hc; cases hc
 | some o =>
  rw [ho] at hc
  cases o with
  | cells c t f => rw [h _ _ _ _ ho]; exact hc
  | _ => cases hc
set_option maxRecDepth 100000 in
theorem CK.rd (h : CK w w') {size n : Nat} {A : Option Addr} {xs : List Value} (hr : Rd w size A n xs) : Rd w' size A n xs := hr.keep fun _ _ hc => h.cell hc
set_option maxRecDepth 100000 in
theorem CK.br (h : CK w w') {n : Nat} {A : Option Addr} {l : List UInt8} (hr : BR w A n l) : BR w' A n l := h.rd hr
set_option maxRecDepth 100000 in
theorem CK.own (h : CK w w') {base : Nat} {e : TypeId} {size : Nat} {v : Value} {n : Nat} {xs : List Value} (ho : w.ownsRow base e size v n xs) : w'.ownsRow base e size v n xs := by
 refine ⟨ho.1, ?_⟩
 rcases ho.2 with h0 | ⟨g, cap, cur, hv, hb, hg, r⟩
 ·exact .inl h0
 ·exact .inr ⟨g, cap, cur, hv, hb, h _ _ _ _ hg, r⟩
set_option maxRecDepth 100000 in
theorem CK.ob (h : CK w w') {base : Nat} {v : Value} {l : List UInt8} (ho : OB w base v l) : OB w' base v l := CK.own h ho
end
def pcs : List (Int × Value) → List Value
 | [] => []
 | p :: ps => .int .i64 p.1 :: p.2 :: pcs ps
set_option maxRecDepth 100000 in
theorem pcs_length (ps : List (Int × Value)) : (pcs ps).length = ps.length * 2 := by
 induction ps with
 | nil => rfl
 | cons p ps ih => simp only [pcs, List.length_cons, ih]; omega
set_option maxRecDepth 100000 in
theorem pcs_append (ps qs : List (Int × Value)) : pcs (ps ++ qs) = pcs ps ++ pcs qs := by
 induction ps with
 | nil => rfl
 | cons p ps ih => simp only [pcs, List.cons_append, ih]
set_option maxRecDepth 100000 in
theorem pcs_at : ∀ (ps : List (Int × Value)) (i : Nat) (p : Int × Value), ps[i]? = some p → (pcs ps)[i * 2]? = some (.int .i64 p.1) ∧ (pcs ps)[i * 2 + 1]? = some p.2
 | [], i, p, h => by simp at h
 | q :: ps, 0, p, h => by
  simp at h
  subst h
  exact ⟨rfl, rfl⟩
 | q :: ps, i + 1, p, h => by
  have ih := pcs_at ps i p (by simpa using h)
  have e1 : (i + 1) * 2 = i * 2 + 2 := by omega
  have e2 : (i + 1) * 2 + 1 = i * 2 + 1 + 2 := by omega
  rw [e2, e1]
  simpa [pcs] using ih
def VB (w : World) (u : Value) (l : List UInt8) : Prop := ∃ A c, u = .slice A l.length c ∧ BR w A l.length l ∧ l.length ≤ c ∧ c ≤ maxLen
set_option maxRecDepth 100000 in
theorem VB.ck {w w' : World} {u : Value} {l : List UInt8} (h : VB w u l) (hk : CK w w') : VB w' u l := by
 obtain ⟨A, c, e, r, h1, h2⟩ := h
 exact ⟨A, c, e, hk.br r, h1, h2⟩
set_option maxRecDepth 100000 in
theorem VB.below {w w' : World} {u : Value} {l : List UInt8} (h : VB w u l) (hb : Below w.heap.size w w') : VB w' u l := h.ck (CK.of_below hb)
set_option maxRecDepth 100000 in
theorem OB.vb {w : World} {base : Nat} {u : Value} {l : List UInt8} (h : OB w base u l) : VB w u l := by
 obtain ⟨A, c, e, r, h1, h2⟩ := h.form
 exact ⟨A, c, e, r, h1, h2⟩
abbrev Pc := Int × List UInt8
def PR (w : World) (A : Option Addr) (n : Nat) (ps : List Pc) : Prop :=
 ∃ us : List (Int × Value), Rd w 2 A n (pcs us) ∧ us.length = ps.length ∧ ∀ (i : Nat) (p : Pc) (q : Int × Value), ps[i]? = some p → us[i]? = some q → q.1 = p.1 ∧ VB w q.2 p.2
section
variable {w w' : World} {A : Option Addr} {n : Nat} {ps : List Pc}
set_option maxRecDepth 100000 in
theorem PR.len (h : PR w A n ps) : ps.length = n := by
 obtain ⟨us, hr, hl, _⟩ := h
 have := hr.1
 rw [pcs_length] at this
 omega
set_option maxRecDepth 100000 in
theorem PR.ck (h : PR w A n ps) (hk : CK w w') : PR w' A n ps := by
 obtain ⟨us, hr, hl, hv⟩ := h
 exact ⟨us, hk.rd hr, hl, fun i p q hp hq => ⟨(hv i p q hp hq).1, (hv i p q hp hq).2.ck hk⟩⟩
set_option maxRecDepth 100000 in
theorem PR.below (h : PR w A n ps) (hb : Below w.heap.size w w') : PR w' A n ps := h.ck (CK.of_below hb)
set_option maxRecDepth 100000 in
theorem PR.none_ (w : World) (A : Option Addr) : PR w A 0 [] := ⟨[], ⟨rfl, fun h => absurd h (by omega)⟩, rfl, fun i p q h => by simp at h⟩
set_option maxRecDepth 100000 in
theorem PR.at_ (h : PR w A n ps) {i : Nat} (hi : i < n) : ∃ g o B c, A = some ⟨g, o, none⟩ ∧ w.cell? ⟨g, o + i * 2, none⟩ = some (.int .i64 (ps.getD i (0, [])).1) ∧
  w.cell? ⟨g, o + i * 2 + 1, none⟩ = some (.slice B (ps.getD i (0, [])).2.length c) ∧ BR w B (ps.getD i (0, [])).2.length (ps.getD i (0, [])).2 ∧ (ps.getD i (0, [])).2.length ≤ c ∧ c ≤ maxLen := by
 have hn := h.len
 obtain ⟨us, hr, hl, hv⟩ := h
 obtain ⟨g, o, e, hc⟩ := Rd.plain hr (by omega) (by omega)
 have hip : ps[i]? = some (ps.getD i (0, [])) := by simp [List.getD, List.getElem?_eq_getElem (show i < ps.length by omega)]
 have hiu : us[i]? = some (us[i]'(by omega)) := List.getElem?_eq_getElem (by omega)
 obtain ⟨e1, B, c, e2, r, h1, h2⟩ := hv i _ _ hip hiu
 obtain ⟨c1, c2⟩ := pcs_at us i _ hiu
 refine ⟨g, o, B, c, e, ?_, ?_, r, h1, h2⟩
 ·rw [← e1]; exact hc _ _ c1
 ·rw [← e2]; exact hc _ _ c2
end
def OP (w : World) (base : Nat) (v : Value) (ps : List Pc) : Prop :=
 ∃ us : List (Int × Value), w.ownsRow base 199 2 v ps.length (pcs us) ∧ us.length = ps.length ∧ (∀ (i : Nat) (p : Pc) (q : Int × Value), ps[i]? = some p → us[i]? = some q → q.1 = p.1 ∧ OB w base q.2 p.2) ∧
  us.Pairwise (fun q r => ∀ k, q.2.ownBlock = some k → r.2.ownBlock ≠ some k)
section
variable {w w' : World} {base : Nat} {v : Value} {ps : List Pc}
set_option maxRecDepth 100000 in
theorem OP.nil (w : World) (base : Nat) : OP w base (.slice none 0 0) [] := ⟨[], ⟨rfl, .inl ⟨rfl, rfl⟩⟩, rfl, fun i p q h => by simp at h, List.Pairwise.nil⟩
set_option maxRecDepth 100000 in
theorem OP.ck (h : OP w base v ps) (hk : CK w w') : OP w' base v ps := by
 obtain ⟨us, ho, hl, hv, hd⟩ := h
 exact ⟨us, hk.own ho, hl, fun i p q hp hq => ⟨(hv i p q hp hq).1, hk.ob (hv i p q hp hq).2⟩, hd⟩
set_option maxRecDepth 100000 in
theorem OP.below (h : OP w base v ps) (hb : Below w.heap.size w w') : OP w' base v ps := h.ck (CK.of_below hb)
set_option maxRecDepth 100000 in
theorem OP.form (h : OP w base v ps) {n : Nat} (hn : ps.length = n) : ∃ A c, v = .slice A n c ∧ PR w A n ps ∧ n ≤ c ∧ c ≤ maxLen := by
 subst hn
 obtain ⟨us, ho, hl, hv, _⟩ := h
 have hvv : ∀ (i : Nat) (p : Pc) (q : Int × Value), ps[i]? = some p → us[i]? = some q → q.1 = p.1 ∧ VB w q.2 p.2 := fun i p q hp hq => ⟨(hv i p q hp hq).1, (hv i p q hp hq).2.vb⟩
 rcases ho.2 with ⟨rfl, h0⟩ | ⟨g, cap, cur, rfl, hb, hg, hn, hm, hc, ht⟩
 ·exact ⟨none, 0, by rw [h0], ⟨us, ⟨ho.1, fun h => by omega⟩, hl, hvv⟩, by omega, Nat.zero_le _⟩
 ·exact ⟨_, cap, rfl, ⟨us, ⟨ho.1, fun _ => ⟨_, rfl, ho.cells (g := g) rfl⟩⟩, hl, hvv⟩, hn, hm⟩
end
set_option maxRecDepth 100000 in
theorem info_piece : (Tryz.prog.info? 199).map (fun i => (i.zero, i.size, i.bytes)) = some (some (.agg #[.int .i64 0, .slice none 0 0]), 2, 32) := by kernel_rfl
end Go.Proofs.YtnkeclpgpiogoaaGreat

/-! RecA -/
namespace Go.Proofs.YtnkeclpgpiogoaaGreat
open Go.RowKit
def VP (w : World) (u : Value) (ps : List Pc) : Prop := ∃ A c, u = .slice A ps.length c ∧ PR w A ps.length ps ∧ ps.length ≤ c ∧ c ≤ maxLen
set_option maxRecDepth 100000 in
theorem VP.below {w w' : World} {u : Value} {ps : List Pc} (h : VP w u ps) (hb : Below w.heap.size w w') : VP w' u ps := by
 obtain ⟨A, c, e, r, h1, h2⟩ := h
 exact ⟨A, c, e, r.below hb, h1, h2⟩
set_option maxRecDepth 100000 in
theorem OP.vp {w : World} {base : Nat} {u : Value} {ps : List Pc} (h : OP w base u ps) : VP w u ps := by
 obtain ⟨A, c, e, r, h1, h2⟩ := h.form rfl
 exact ⟨A, c, e, r, h1, h2⟩
abbrev Ch := Int × List UInt8 × List Pc
def chs : List (Int × Value × Value) → List Value
 | [] => []
 | p :: ps => .int .i64 p.1 :: p.2.1 :: p.2.2 :: chs ps
set_option maxRecDepth 100000 in
theorem chs_length (ps : List (Int × Value × Value)) : (chs ps).length = ps.length * 3 := by
 induction ps with
 | nil => rfl
 | cons p ps ih => simp only [chs, List.length_cons, ih]; omega
set_option maxRecDepth 100000 in
theorem chs_append (ps qs : List (Int × Value × Value)) : chs (ps ++ qs) = chs ps ++ chs qs := by
 induction ps with
 | nil => rfl
 | cons p ps ih => simp only [chs, List.cons_append, ih]
set_option maxRecDepth 100000 in
theorem chs_at : ∀ (ps : List (Int × Value × Value)) (i : Nat) (p : Int × Value × Value), ps[i]? = some p → (chs ps)[i * 3]? = some (.int .i64 p.1) ∧ (chs ps)[i * 3 + 1]? = some p.2.1 ∧ (chs ps)[i * 3 + 2]? = some p.2.2
 | [], i, p, h => by simp at h
 | q :: ps, 0, p, h => by
  simp at h
  subst h
  exact ⟨rfl, rfl, rfl⟩
 | q :: ps, i + 1, p, h => by
  have ih := chs_at ps i p (by simpa using h)
  have e1 : (i + 1) * 3 = i * 3 + 3 := by omega
  have e2 : (i + 1) * 3 + 1 = i * 3 + 1 + 3 := by omega
  have e3 : (i + 1) * 3 + 2 = i * 3 + 2 + 3 := by omega
  rw [e3, e2, e1]
  simpa [chs] using ih
def CR (w : World) (A : Option Addr) (n : Nat) (cs : List Ch) : Prop :=
 ∃ us : List (Int × Value × Value), Rd w 3 A n (chs us) ∧ us.length = cs.length ∧ ∀ (i : Nat) (p : Ch) (q : Int × Value × Value), cs[i]? = some p → us[i]? = some q → q.1 = p.1 ∧ VB w q.2.1 p.2.1 ∧ VP w q.2.2 p.2.2
section
variable {w w' : World} {A : Option Addr} {n : Nat} {cs : List Ch}
set_option maxRecDepth 100000 in
theorem CR.len (h : CR w A n cs) : cs.length = n := by
 obtain ⟨us, hr, hl, _⟩ := h
 have := hr.1
 rw [chs_length] at this
 omega
set_option maxRecDepth 100000 in
theorem CR.below (h : CR w A n cs) (hb : Below w.heap.size w w') : CR w' A n cs := by
 obtain ⟨us, hr, hl, hv⟩ := h
 exact ⟨us, hr.below hb, hl, fun i p q hp hq => ⟨(hv i p q hp hq).1, (hv i p q hp hq).2.1.below hb, (hv i p q hp hq).2.2.below hb⟩⟩
set_option maxRecDepth 100000 in
theorem CR.none_ (w : World) (A : Option Addr) : CR w A 0 [] := ⟨[], ⟨rfl, fun h => absurd h (by omega)⟩, rfl, fun i p q h => by simp at h⟩
abbrev ch0 : Ch := (0, [], [])
set_option maxRecDepth 100000 in
theorem CR.at_ (h : CR w A n cs) {i : Nat} (hi : i < n) : ∃ g o B c D d, A = some ⟨g, o, none⟩ ∧ w.cell? ⟨g, o + i * 3, none⟩ = some (.int .i64 (cs.getD i ch0).1) ∧
  w.cell? ⟨g, o + i * 3 + 1, none⟩ = some (.slice B (cs.getD i ch0).2.1.length c) ∧ w.cell? ⟨g, o + i * 3 + 1 + 1, none⟩ = some (.slice D (cs.getD i ch0).2.2.length d) ∧
  BR w B (cs.getD i ch0).2.1.length (cs.getD i ch0).2.1 ∧ (cs.getD i ch0).2.1.length ≤ c ∧ c ≤ maxLen ∧
  PR w D (cs.getD i ch0).2.2.length (cs.getD i ch0).2.2 ∧ (cs.getD i ch0).2.2.length ≤ d ∧ d ≤ maxLen := by
 have hn := h.len
 obtain ⟨us, hr, hl, hv⟩ := h
 obtain ⟨g, o, e, hc⟩ := Rd.plain hr (by omega) (by omega)
 have hip : cs[i]? = some (cs.getD i ch0) := by simp [List.getD, List.getElem?_eq_getElem (show i < cs.length by omega)]
 have hiu : us[i]? = some (us[i]'(by omega)) := List.getElem?_eq_getElem (by omega)
 obtain ⟨e1, ⟨B, c, e2, r, h1, h2⟩, ⟨D, d, e3, r', h3, h4⟩⟩ := hv i _ _ hip hiu
 obtain ⟨c1, c2, c3⟩ := chs_at us i _ hiu
 refine ⟨g, o, B, c, D, d, e, ?_, ?_, ?_, r, h1, h2, r', h3, h4⟩
 ·rw [← e1]; exact hc _ _ c1
 ·rw [← e2]; exact hc _ _ c2
 ·rw [← e3]; exact hc _ _ c3
end
set_option maxRecDepth 100000 in
theorem pc_getD' {ps : List Pc} {k : Nat} (hk : k < ps.length) : ps[k] = ps.getD k (0, []) := by simp [List.getD, List.getElem?_eq_getElem hk]
set_option maxRecDepth 100000 in
theorem pc_drop {ps : List Pc} {k : Nat} (hk : k < ps.length) : ps.drop k = ps.getD k (0, []) :: ps.drop (k + 1) := by rw [List.drop_eq_getElem_cons hk, pc_getD' hk]
set_option maxRecDepth 100000 in
theorem ch_drop {cs : List Ch} {k : Nat} (hk : k < cs.length) : cs.drop k = cs.getD k ch0 :: cs.drop (k + 1) := by
 rw [List.drop_eq_getElem_cons hk]
 simp [List.getD, List.getElem?_eq_getElem hk]
set_option maxRecDepth 100000 in
theorem pc_mem {ps : List Pc} {k : Nat} (hk : k < ps.length) : ps.getD k (0, []) ∈ ps := by rw [← pc_getD' hk]; exact List.getElem_mem _
set_option maxRecDepth 100000 in
theorem ch_mem {cs : List Ch} {k : Nat} (hk : k < cs.length) : cs.getD k ch0 ∈ cs := by
 have : cs[k] = cs.getD k ch0 := by simp [List.getD, List.getElem?_eq_getElem hk]
 rw [← this]; exact List.getElem_mem _
def rpFrom : Int → List Pc → Bool
 | _, [] => true
 | e, p :: ps => if p.1 < e ∨ p.2.length = 0 ∨ 4080 - p.1 < p.2.length then false else rpFrom (p.1 + p.2.length) ps
set_option maxRecDepth 100000 in
theorem ret_bl {a b : Bool} (h : a = b) : Ending.returned (.bool a) = .returned (.bool b) := by rw [h]
set_option maxRecDepth 100000 in
set_option maxHeartbeats 1000000 in
theorem rightPieces_any (B : Option Addr) (n d : Nat) (ps : List Pc) (w : World) (hp : PR w B n ps) (hn : n ≤ 9223372036854775807) (hpb : ∀ p ∈ ps, p.1 ≤ 9223372036854775807) :
  Calls Tryz.prog 174 #[.slice B n d] w fun r w' => r = .returned (.bool (rpFrom 0 ps)) ∧ Below w.heap.size w w' := by
 have HPN := Lib.hid hp.len
 have HPB := Lib.hid hpb
 clear hpb
 go_enter Tryz.func174, Tryz.ntmps174
 go_wp2_with fail
 go_loopw [3, 8] (fun s i wr => ∃ (k : Nat) (e : Int), k ≤ n ∧ i = .int .i64 k ∧ s = .int .i64 e ∧ 0 ≤ e ∧ e ≤ 4080 ∧ Hid (rpFrom 0 ps = rpFrom e (ps.drop k)) ∧ Below w.heap.size w wr) (fun _ i _ => n - (intOf i).toNat)
 case atStart => exact ⟨0, 0, Nat.zero_le _, rfl, rfl, Int.le_refl _, by omega, Lib.hid rfl, gr_refl w⟩
 case round =>
  obtain ⟨k, e, hk, rfl, rfl, he0, he1, HR, hb⟩ := hrel
  by_cases hlt : k < n
  ·obtain ⟨gp, op, Bp, cp, rfl, q1, q2, q3, q4, q5⟩ := (hp.below hb).at_ (i := k) hlt
   have hkl : k < ps.length := by rw [HPN.out]; exact hlt
   have hub := HPB.out _ (pc_mem hkl)
   have HS := Lib.hid (HR.out.trans (by rw [pc_drop hkl]))
   clear HR hkl
   obtain ⟨⟨pa, pb⟩, HE⟩ : ∃ p, p = ps.getD k (0, []) := ⟨_, rfl⟩
   rw [← HE] at q1 q2 q3 q4 HS hub
   clear HE
   dsimp only at q1 q2 q3 q4 hub
   obtain ⟨pn, hpn⟩ : ∃ pn, pn = pb.length := ⟨_, rfl⟩
   rw [← hpn] at q2 q3 q4
   have HPL := Lib.hid hpn
   clear hpn
   unfold maxLen at q5
   have hbad : (pa < e ∨ pn = 0 ∨ 4080 - pa < (pn : Int)) → rpFrom 0 ps = false := fun h => by
    rw [HS.out]
    unfold rpFrom
    rw [← HPL.out, if_pos h]
   have hgood : ¬ (pa < e ∨ pn = 0 ∨ 4080 - pa < (pn : Int)) → rpFrom 0 ps = rpFrom (pa + pn) (ps.drop (k + 1)) := fun h => by
    rw [HS.out]
    conv => lhs; unfold rpFrom
    rw [← HPL.out, if_neg h]
   have HB := Lib.hid hbad
   have HG := Lib.hid hgood
   clear hbad hgood HS
   by_cases h1 : pa < e
   ·have t1 : decide (pa < e) = true := by simpa using h1
    go_wp2_with fail
    go_ret
    exact ⟨ret_bl (HB.out (.inl h1)).symm, gr_alloc hb _⟩
   ·have t1 : decide (pa < e) = false := by simpa using h1
    by_cases h2 : pn = 0
    ·subst h2
     go_wp2_with fail
     go_ret
     exact ⟨ret_bl (HB.out (by simp)).symm, gr_alloc hb _⟩
    ·have t2 : ((pn : Int) == 0) = false := beq_eq_false_iff_ne.2 (by omega)
     have t2' : (pn == 0) = false := beq_eq_false_iff_ne.2 h2
     have hpa : 0 ≤ pa := by omega
     by_cases h3 : 4080 - pa < (pn : Int)
     ·have t3 : decide (4080 - pa < (pn : Int)) = true := by simpa using h3
      go_wp2_with fail
      go_ret
      exact ⟨ret_bl (HB.out (.inr (.inr h3))).symm, gr_alloc hb _⟩
     ·have t3 : decide (4080 - pa < (pn : Int)) = false := by simpa using h3
      have HG' := Lib.hid (HG.out (by omega))
      clear HB HG
      have hs1 : pa + (pn : Int) ≤ 4080 := by omega
      go_wp2_with fail
      go_roundw
      case rel => exact ⟨k + 1, pa + pn, by omega, by go_num, rfl, by omega, by omega, HG', gr_alloc hb _⟩
      case measure => simp [intOf]; omega
  ·obtain rfl : k = n := by omega
   go_wp2_with fail
   go_ret
   refine ⟨ret_bl ?_, hb⟩
   rw [HR.out, List.drop_eq_nil_of_le (Nat.le_of_eq HPN.out)]
   rfl
def rcFrom : Int → List Ch → Bool
 | _, [] => true
 | last, c :: cs => if c.1 ≤ last ∨ 4096 ≤ c.1 then false else
   if 0 < c.2.1.length then (if c.2.1.length ≠ 4080 ∨ 0 < c.2.2.length then false else rcFrom c.1 cs) else (if rpFrom 0 c.2.2 = true then rcFrom c.1 cs else false)
set_option maxRecDepth 100000 in
set_option maxHeartbeats 2000000 in
theorem rightChanges_any (A : Option Addr) (n d : Nat) (cs : List Ch) (w : World) (hc : CR w A n cs) (hn : n ≤ 9223372036854775807) (hpb : ∀ c ∈ cs, ∀ p ∈ c.2.2, p.1 ≤ 9223372036854775807) :
  Calls Tryz.prog 153 #[.slice A n d] w fun r w' => r = .returned (.bool (rcFrom (-1) cs)) ∧ Below w.heap.size w w' := by
 have HCN := Lib.hid hc.len
 have HPB := Lib.hid hpb
 clear hpb
 go_enter Tryz.func153, Tryz.ntmps153
 go_wp2_with fail
 go_loopw [3, 8] (fun s i wr => ∃ (k : Nat) (e : Int), k ≤ n ∧ i = .int .i64 k ∧ s = .int .i64 e ∧ Hid (rcFrom (-1) cs = rcFrom e (cs.drop k)) ∧ Below w.heap.size w wr) (fun _ i _ => n - (intOf i).toNat)
 case atStart => exact ⟨0, -1, Nat.zero_le _, rfl, rfl, Lib.hid rfl, gr_refl w⟩
 case round =>
  obtain ⟨k, e, hk, rfl, rfl, HR, hb⟩ := hrel
  by_cases hlt : k < n
  ·obtain ⟨g, o, B, c, D, d', rfl, q1, q2, q3, r1, r2, r3, r4, r5, r6⟩ := (hc.below hb).at_ (i := k) hlt
   have hkl : k < cs.length := by rw [HCN.out]; exact hlt
   have hub := HPB.out _ (ch_mem hkl)
   have HS := Lib.hid (HR.out.trans (by rw [ch_drop hkl]))
   clear HR hkl
   obtain ⟨⟨pg, im, qs⟩, HE⟩ : ∃ p, p = cs.getD k ch0 := ⟨_, rfl⟩
   rw [← HE] at q1 q2 q3 r1 r2 r4 r5 HS hub
   clear HE
   dsimp only at q1 q2 q3 r1 r2 r4 r5 hub
   obtain ⟨ni, hni⟩ : ∃ ni, ni = im.length := ⟨_, rfl⟩
   obtain ⟨nq, hnq⟩ : ∃ nq, nq = qs.length := ⟨_, rfl⟩
   rw [← hni] at q2 r1 r2
   rw [← hnq] at q3 r4 r5
   have HNI := Lib.hid hni
   have HNQ := Lib.hid hnq
   clear hni hnq r1 r2
   unfold maxLen at r3 r6
   have HU := Lib.hid hub
   clear hub
   have hbad : (pg ≤ e ∨ 4096 ≤ pg) → rcFrom (-1) cs = false := fun h => by
    rw [HS.out]; unfold rcFrom; rw [if_pos h]
   have himg : ¬ (pg ≤ e ∨ 4096 ≤ pg) → 0 < ni → rcFrom (-1) cs = if ni ≠ 4080 ∨ 0 < nq then false else rcFrom pg (cs.drop (k + 1)) := fun h h2 => by
    rw [HS.out]; conv => lhs; unfold rcFrom
    rw [if_neg h]; dsimp only; rw [← HNI.out, ← HNQ.out, if_pos h2]
   have hpcs : ¬ (pg ≤ e ∨ 4096 ≤ pg) → ni = 0 → rcFrom (-1) cs = if rpFrom 0 qs = true then rcFrom pg (cs.drop (k + 1)) else false := fun h h2 => by
    rw [HS.out]; conv => lhs; unfold rcFrom
    rw [if_neg h]; dsimp only; rw [← HNI.out, if_neg (by omega)]
   have HB := Lib.hid hbad
   have HI := Lib.hid himg
   have HP := Lib.hid hpcs
   clear hbad himg hpcs HS
   by_cases h1 : pg ≤ e
   ·have t1 : decide (pg ≤ e) = true := by simpa using h1
    go_wp2_with fail
    go_ret
    exact ⟨ret_bl (HB.out (.inl h1)).symm, gr_alloc hb _⟩
   ·have t1 : decide (pg ≤ e) = false := by simpa using h1
    by_cases h2 : 4096 ≤ pg
    ·have t2 : decide (4096 ≤ pg) = true := by simpa using h2
     go_wp2_with fail
     go_ret
     exact ⟨ret_bl (HB.out (.inr h2)).symm, gr_alloc hb _⟩
    ·have t2 : decide (4096 ≤ pg) = false := by simpa using h2
     have hok : ¬ (pg ≤ e ∨ 4096 ≤ pg) := by omega
     by_cases h3 : 0 < ni
     ·have t3 : decide ((0 : Int) < (ni : Int)) = true := by simp; omega
      have t3' : decide (0 < ni) = true := by simpa using h3
      have HI' := Lib.hid (HI.out hok h3)
      clear HI HP HB
      by_cases h4 : ni = 4080
      ·subst h4
       by_cases h5 : 0 < nq
       ·have t5 : decide ((0 : Int) < (nq : Int)) = true := by simp; omega
        have t5' : decide (0 < nq) = true := by simpa using h5
        go_wp2_with fail
        go_ret
        exact ⟨ret_bl (by rw [HI'.out, if_pos (.inr h5)]), gr_alloc hb _⟩
       ·have t5 : decide ((0 : Int) < (nq : Int)) = false := by simp; omega
        have t5' : decide (0 < nq) = false := by simpa using h5
        have HI2 := Lib.hid (HI'.out.trans (if_neg (by omega)))
        clear HI'
        go_wp2_with fail
        go_roundw
        case rel => exact ⟨k + 1, pg, by omega, by go_num, rfl, HI2, gr_alloc hb _⟩
        case measure => simp [intOf]; omega
      ·have t4 : ((ni : Int) != 4080) = true := by rw [bne_iff_ne]; omega
       have t4' : (ni != 4080) = true := by rw [bne_iff_ne]; exact h4
       go_wp2_with fail
       go_ret
       exact ⟨ret_bl (by rw [HI'.out, if_pos (.inl h4)]), gr_alloc hb _⟩
     ·obtain rfl : ni = 0 := by omega
      have HP' := Lib.hid (HP.out hok rfl)
      clear HI HP HB
      go_wp2_with fail
      refine (rightPieces_any D nq d' qs _ (r4.below (gr_alloc (gr_refl wr) _)) (by omega) HU.out).mono ?_
      rintro r w2 ⟨rfl, hb2⟩
      have hb3 := gr_trans (gr_alloc hb _) hb2
      cases hq : rpFrom 0 qs with
      | true =>
       have HP2 := Lib.hid (HP'.out.trans (if_pos hq))
       clear HP' hq
       go_wp2_with fail
       go_roundw
       case rel => exact ⟨k + 1, pg, by omega, by go_num, rfl, HP2, hb3⟩
       case measure => simp [intOf]; omega
      | false =>
       have HP2 := Lib.hid (HP'.out.trans (if_neg (by rw [hq]; simp)))
       clear HP' hq
       go_wp2_with fail
       go_ret
       exact ⟨ret_bl HP2.out.symm, hb3⟩
  ·obtain rfl : k = n := by omega
   go_wp2_with fail
   go_ret
   refine ⟨ret_bl ?_, hb⟩
   rw [HR.out, List.drop_eq_nil_of_le (Nat.le_of_eq HCN.out)]
   rfl
def rightR (k tx : Int) (cs : List Ch) : Bool :=
 if tx < 0 ∨ 4611686018427387904 < tx then false else if k = 2 ∨ k = 3 then decide (cs.length = 0) else if k = 1 then (decide (1 ≤ cs.length ∧ cs.length ≤ 16) && rcFrom (-1) cs) else false
set_option maxRecDepth 100000 in
set_option maxHeartbeats 2000000 in
theorem Right_any (k tx : Int) (A : Option Addr) (n d : Nat) (cs : List Ch) (w : World) (hc : CR w A n cs) (hn : n ≤ 9223372036854775807) (hpb : ∀ c ∈ cs, ∀ p ∈ c.2.2, p.1 ≤ 9223372036854775807) :
  Calls Tryz.prog 131 #[.agg #[.int .u8 k, .int .i64 tx, .slice A n d]] w fun r w' => r = .returned (.bool (rightR k tx cs)) ∧ Below w.heap.size w w' := by
 have hl := hc.len
 have HPB := Lib.hid hpb
 have HR : Hid (rightR k tx cs = if tx < 0 ∨ 4611686018427387904 < tx then false else if k = 2 ∨ k = 3 then decide (n = 0) else if k = 1 then (decide (1 ≤ n ∧ n ≤ 16) && rcFrom (-1) cs) else false) := Lib.hid (by unfold rightR; rw [hl])
 clear hl hpb
 have hb1 := gr_alloc (gr_refl w) (.cells #[.int .u8 k, .int .i64 tx, .slice A n d] 114)
 by_cases h1 : tx < 0
 ·have t1 : decide (tx < 0) = true := by simpa using h1
  go_enter Tryz.func131, Tryz.ntmps131
  go_wp2_with fail
  go_ret
  exact ⟨ret_bl (by rw [HR.out, if_pos (.inl h1)]), hb1⟩
 have t1 : decide (tx < 0) = false := by simpa using h1
 by_cases h2 : 4611686018427387904 < tx
 ·have t2 : decide (4611686018427387904 < tx) = true := by simpa using h2
  go_enter Tryz.func131, Tryz.ntmps131
  go_wp2_with fail
  go_ret
  exact ⟨ret_bl (by rw [HR.out, if_pos (.inr h2)]), hb1⟩
 have t2 : decide (4611686018427387904 < tx) = false := by simpa using h2
 have HR2 := Lib.hid (HR.out.trans (if_neg (by omega)))
 clear HR
 by_cases k2 : k = 2
 ·subst k2
  have HR3 := Lib.hid (HR2.out.trans (if_pos (.inl rfl)))
  clear HR2
  by_cases hz : n = 0
  ·subst hz
   go_enter Tryz.func131, Tryz.ntmps131
   go_wp2_with fail
   go_ret
   exact ⟨ret_bl (by rw [HR3.out]; simp), hb1⟩
  ·have tz : ((n : Int) == 0) = false := beq_eq_false_iff_ne.2 (by omega)
   have tz' : (n == 0) = false := beq_eq_false_iff_ne.2 hz
   go_enter Tryz.func131, Tryz.ntmps131
   go_wp2_with fail
   go_ret
   exact ⟨ret_bl (by rw [HR3.out]; simp [hz]), hb1⟩
 have u2 : (k == 2) = false := beq_eq_false_iff_ne.2 k2
 by_cases k3 : k = 3
 ·subst k3
  have HR3 := Lib.hid (HR2.out.trans (if_pos (.inr rfl)))
  clear HR2
  by_cases hz : n = 0
  ·subst hz
   go_enter Tryz.func131, Tryz.ntmps131
   go_wp2_with fail
   go_ret
   exact ⟨ret_bl (by rw [HR3.out]; simp), hb1⟩
  ·have tz : ((n : Int) == 0) = false := beq_eq_false_iff_ne.2 (by omega)
   have tz' : (n == 0) = false := beq_eq_false_iff_ne.2 hz
   go_enter Tryz.func131, Tryz.ntmps131
   go_wp2_with fail
   go_ret
   exact ⟨ret_bl (by rw [HR3.out]; simp [hz]), hb1⟩
 have u3 : (k == 3) = false := beq_eq_false_iff_ne.2 k3
 have HR3 := Lib.hid (HR2.out.trans (if_neg (by omega)))
 clear HR2
 by_cases k1 : k = 1
 ·subst k1
  have HR4 := Lib.hid (HR3.out.trans (if_pos rfl))
  clear HR3
  by_cases n1 : 1 ≤ n
  ·have m1 : decide ((1 : Int) ≤ (n : Int)) = true := by simp; omega
   have m1' : decide (1 ≤ n) = true := by simpa using n1
   by_cases n2 : n ≤ 16
   ·have m2 : decide ((n : Int) ≤ 16) = true := by simp; omega
    have m2' : decide (n ≤ 16) = true := by simpa using n2
    have HC := Lib.hid (rightChanges_any A n d cs _ (hc.below hb1) hn HPB.out)
    go_enter Tryz.func131, Tryz.ntmps131
    go_wp2_with fail
    refine HC.out.mono ?_
    rintro r w2 ⟨rfl, hb2⟩
    go_wp2_with fail
    go_ret
    refine ⟨ret_bl ?_, gr_trans hb1 hb2⟩
    rw [HR4.out]
    simp [n1, n2]
   ·have m2 : decide ((n : Int) ≤ 16) = false := by simp; omega
    have m2' : decide (n ≤ 16) = false := by simpa using n2
    go_enter Tryz.func131, Tryz.ntmps131
    go_wp2_with fail
    go_ret
    exact ⟨ret_bl (by rw [HR4.out]; simp; omega), hb1⟩
  ·have m1 : decide ((1 : Int) ≤ (n : Int)) = false := by simp; omega
   have m1' : decide (1 ≤ n) = false := by simpa using n1
   go_enter Tryz.func131, Tryz.ntmps131
   go_wp2_with fail
   go_ret
   exact ⟨ret_bl (by rw [HR4.out]; simp; omega), hb1⟩
 ·have u1 : (k == 1) = false := beq_eq_false_iff_ne.2 k1
  go_enter Tryz.func131, Tryz.ntmps131
  go_wp2_with fail
  go_ret
  exact ⟨ret_bl (by rw [HR3.out, if_neg k1]), hb1⟩
end Go.Proofs.YtnkeclpgpiogoaaGreat

/-! RcP -/
namespace Go.Proofs.YtnkeclpgpiogoaaGreat
structure Rec where
 kind : Nat
 tx : Int
 cs : List Ch
def encP (p : Pc) : List UInt8 := leB p.1.toNat 2 ++ (leB p.2.length 2 ++ p.2)
def encPs : List Pc → List UInt8
 | [] => []
 | p :: ps => encP p ++ encPs ps
def encC (c : Ch) : List UInt8 := leB c.1.toNat 4 ++ (if 0 < c.2.1.length then 1 :: c.2.1 else 0 :: (leB c.2.2.length 2 ++ encPs c.2.2))
def encCs : List Ch → List UInt8
 | [] => []
 | c :: cs => encC c ++ encCs cs
def encB (r : Rec) : List UInt8 := UInt8.ofNat r.kind :: (leB r.tx.toNat 8 ++ (leB r.cs.length 2 ++ encCs r.cs))
def encR (r : Rec) : List UInt8 := leB (encB r).length 4 ++ encB r
def Rec.right (r : Rec) : Bool := rightR (r.kind : Int) r.tx r.cs
/-! Reading: the place, or none from the first field on that is not there. -/
def pNum (b : List UInt8) (k : Nat) : Option Nat → Nat × Option Nat
 | none => (0, none)
 | some a => if a + k ≤ b.length then (leN ((b.drop a).take k), some (a + k)) else (0, none)
def pImage (b : List UInt8) : Option Nat → List UInt8 × Option Nat
 | none => ([], none)
 | some a => if a + 4080 ≤ b.length then ((b.drop a).take 4080, some (a + 4080)) else ([], none)
def pPart (b : List UInt8) : Option Nat → List UInt8 × Option Nat
 | none => ([], none)
 | some a => match partAt b (a : Int) with
  | none => ([], none)
  | some (l, e) => (l, some e)
def toI (v : Nat) : Int := if v < 9223372036854775808 then v else (v : Int) - 18446744073709551616
def pPieces (b : List UInt8) : Nat → List Pc → Option Nat → List Pc × Option Nat
 | 0, acc, s => (acc, s)
 | _ + 1, acc, none => (acc, none)
 | n + 1, acc, some a => pPieces b n (acc ++ [(((pNum b 2 (some a)).1 : Int), (pPart b (pNum b 2 (some a)).2).1)]) (pPart b (pNum b 2 (some a)).2).2
def pChange (b : List UInt8) (s : Option Nat) : Ch × Option Nat :=
 let p := pNum b 4 s
 let f := pNum b 1 p.2
 if f.1 = 1 then (((p.1 : Int), (pImage b f.2).1, []), (pImage b f.2).2)
 else if f.1 = 0 then
  let m := pNum b 2 f.2
  (((p.1 : Int), [], (pPieces b m.1 [] m.2).1), (pPieces b m.1 [] m.2).2)
 else (((p.1 : Int), [], []), none)
def pChanges (b : List UInt8) : Nat → List Ch → Option Nat → List Ch × Option Nat
 | 0, acc, s => (acc, s)
 | _ + 1, acc, none => (acc, none)
 | n + 1, acc, some a => pChanges b n (acc ++ [(pChange b (some a)).1]) (pChange b (some a)).2
def pRecord (b : List UInt8) : Rec × Option Nat :=
 let k := pNum b 1 (some 0)
 let t := pNum b 8 k.2
 let n := pNum b 2 t.2
 (⟨k.1, toI t.1, (pChanges b n.1 [] n.2).1⟩, (pChanges b n.1 [] n.2).2)
/-! What is read is what was written. -/
def Seg (b : List UInt8) (a e : Nat) (l : List UInt8) : Prop := e = a + l.length ∧ e ≤ b.length ∧ (b.drop a).take l.length = l
set_option maxRecDepth 100000 in
theorem Seg.app {b l m : List UInt8} {a e f : Nat} (h : Seg b a e l) (k : Seg b e f m) : Seg b a f (l ++ m) := by
 obtain ⟨h1, h2, h3⟩ := h
 obtain ⟨k1, k2, k3⟩ := k
 refine ⟨by rw [List.length_append]; omega, k2, ?_⟩
 rw [List.length_append, List.take_add, h3, List.drop_drop, ← h1, k3]
set_option maxRecDepth 100000 in
theorem Seg.split {b l m : List UInt8} {a f : Nat} (h : Seg b a f (l ++ m)) : Seg b a (a + l.length) l ∧ Seg b (a + l.length) f m := by
 obtain ⟨h1, h2, h3⟩ := h
 rw [List.length_append] at h1 h3
 rw [List.take_add, List.drop_drop] at h3
 have hl : ((b.drop a).take l.length).length = l.length := by rw [List.length_take, List.length_drop]; omega
 have h4 := List.append_inj h3 hl
 exact ⟨⟨rfl, by omega, h4.1⟩, ⟨by omega, h2, h4.2⟩⟩
set_option maxRecDepth 100000 in
theorem Seg.all (b : List UInt8) : Seg b 0 b.length b := ⟨by simp, Nat.le_refl _, by simp⟩
set_option maxRecDepth 100000 in
theorem Seg.le {b l : List UInt8} {a e : Nat} (h : Seg b a e l) : e ≤ b.length := h.2.1
set_option maxRecDepth 100000 in
theorem leB_leN : ∀ (l : List UInt8), leB (leN l) l.length = l
 | [] => rfl
 | x :: l => by
  show UInt8.ofNat (x.toNat + 256 * leN l) :: leB ((x.toNat + 256 * leN l) / 256) l.length = x :: l
  have h1 : (x.toNat + 256 * leN l) / 256 = leN l := by have := x.toNat_lt; omega
  have h2 : UInt8.ofNat (x.toNat + 256 * leN l) = x := by
   apply UInt8.toNat_inj.1
   rw [UInt8.toNat_ofNat']
   have := x.toNat_lt
   omega
  rw [h1, h2, leB_leN l]
set_option maxRecDepth 100000 in
theorem pNum_c {b : List UInt8} {a e v k : Nat} (h : Seg b a e (leB v k)) (hv : v < 256 ^ k) : pNum b k (some a) = (v, some e) := by
 obtain ⟨h1, h2, h3⟩ := h
 rw [leB_length] at h1 h3
 unfold pNum
 simp only
 rw [if_pos (by omega), h3, leN_leB, Nat.mod_eq_of_lt hv, h1]
set_option maxRecDepth 100000 in
theorem pNum_lt (b : List UInt8) (k : Nat) (s : Option Nat) : (pNum b k s).1 < 256 ^ k := by
 cases s with
 | none => exact Nat.pos_of_ne_zero (by have := Nat.pow_pos (n := k) (show 0 < 256 by omega); omega)
 | some a =>
  unfold pNum
  simp only
  split
  ·rename_i hle
   have hl : ((b.drop a).take k).length = k := by rw [List.length_take, List.length_drop]; omega
   have h6 := leN_lt ((b.drop a).take k)
   rw [hl] at h6
   exact h6
  ·exact Nat.pow_pos (by omega)
set_option maxRecDepth 100000 in
theorem partAt_eq (b : List UInt8) (a : Nat) : partAt b (a : Int) = if a + 2 ≤ b.length ∧ a + 2 + leN ((b.drop a).take 2) ≤ b.length then some ((b.drop (a + 2)).take (leN ((b.drop a).take 2)), a + 2 + leN ((b.drop a).take 2)) else none := by
 unfold partAt numAt
 rw [Int.toNat_natCast]
 by_cases h : a + 2 ≤ b.length
 ·rw [if_neg (by omega)]
  simp only
  by_cases h2 : a + 2 + leN ((b.drop a).take 2) ≤ b.length
  ·rw [if_neg (by omega), if_pos ⟨h, h2⟩]
  ·rw [if_pos (by omega), if_neg (fun hh => h2 hh.2)]
 ·rw [if_pos (by omega), if_neg (fun hh => h hh.1)]
set_option maxRecDepth 100000 in
theorem pPart_c {b l : List UInt8} {a e : Nat} (h : Seg b a e (leB l.length 2 ++ l)) (hl : l.length < 65536) : pPart b (some a) = (l, some e) := by
 obtain ⟨h1, h2⟩ := h.split
 obtain ⟨a1, a2, a3⟩ := h1
 rw [leB_length] at a1 a2 a3 h2
 obtain ⟨b1, b2, b3⟩ := h2
 unfold pPart
 simp only
 have e1 : leN ((b.drop a).take 2) = l.length := by rw [a3, leN_leB, Nat.mod_eq_of_lt (by omega)]
 rw [partAt_eq, e1, if_pos ⟨a2, by omega⟩]
 simp only
 rw [b3, b1]
set_option maxRecDepth 100000 in
theorem pPart_s {b : List UInt8} {a e : Nat} (h : (pPart b (some a)).2 = some e) : Seg b a e (leB (pPart b (some a)).1.length 2 ++ (pPart b (some a)).1) ∧ (pPart b (some a)).1.length < 65536 := by
 unfold pPart at h ⊢
 simp only at h ⊢
 rw [partAt_eq] at h ⊢
 split at h
 ·cases h
 ·rename_i l e' he
  split at he
  ·rename_i hc
   injection he with he
   injection he with he1 he2
   injection h with h
   subst h
   subst he1 he2
   simp only
   have hl : ((b.drop a).take 2).length = 2 := by rw [List.length_take, List.length_drop]; omega
   have h6 := leN_lt ((b.drop a).take 2)
   rw [hl] at h6
   have h7 : ((b.drop (a + 2)).take (leN ((b.drop a).take 2))).length = leN ((b.drop a).take 2) := by rw [List.length_take, List.length_drop]; omega
   have h5 := leB_leN ((b.drop a).take 2)
   rw [hl] at h5
   refine ⟨Seg.app (e := a + 2) ⟨by rw [leB_length], hc.1, ?_⟩ ⟨?_, by omega, ?_⟩, by omega⟩
   ·rw [leB_length, h7, h5]
   ·omega
   ·rw [h7]
  ·cases he
set_option maxRecDepth 100000 in
theorem pImage_c {b l : List UInt8} {a e : Nat} (h : Seg b a e l) (hl : l.length = 4080) : pImage b (some a) = (l, some e) := by
 obtain ⟨h1, h2, h3⟩ := h
 rw [hl] at h1 h3
 unfold pImage
 simp only
 rw [if_pos (by omega), h3, h1]
def pcG (p : Pc) : Prop := 0 ≤ p.1 ∧ p.1 < 65536 ∧ p.2.length < 65536
set_option maxRecDepth 100000 in
theorem pPieces_c {b : List UInt8} : ∀ (ps : List Pc) (acc : List Pc) (a e : Nat), Seg b a e (encPs ps) → (∀ p ∈ ps, pcG p) → pPieces b ps.length acc (some a) = (acc ++ ps, some e)
 | [], acc, a, e, h, _ => by
  have := h.1
  unfold encPs at this
  simp at this
  simp [pPieces, this]
 | p :: ps, acc, a, e, h, hg => by
  obtain ⟨h1, h2⟩ := h.split
  have g := hg p (by simp)
  obtain ⟨h3, h4⟩ := h1.split
  have n1 := pNum_c h3 (show p.1.toNat < 256 ^ 2 by have := g.1; have := g.2.1; omega)
  have n2 := pPart_c h4 g.2.2
  show pPieces b (ps.length + 1) acc (some a) = _
  unfold pPieces
  rw [n1]
  simp only
  rw [n2]
  simp only
  have hp : ((((p.1.toNat : Nat) : Int), p.2) : Pc) = p := by
   rw [Int.toNat_of_nonneg g.1]
  rw [hp, pPieces_c ps _ _ e h2 (fun q hq => hg q (by simp [hq]))]
  simp
def chG (c : Ch) : Prop := 0 ≤ c.1 ∧ c.1 < 4294967296 ∧ (0 < c.2.1.length → c.2.1.length = 4080 ∧ c.2.2 = []) ∧ c.2.2.length < 65536 ∧ ∀ p ∈ c.2.2, pcG p
set_option maxRecDepth 100000 in
theorem pChange_c {b : List UInt8} {c : Ch} {a e : Nat} (h : Seg b a e (encC c)) (hg : chG c) : pChange b (some a) = (c, some e) := by
 obtain ⟨g1, g2, g3, g4, g5⟩ := hg
 obtain ⟨h1, h2⟩ := h.split
 have n1 := pNum_c h1 (show c.1.toNat < 256 ^ 4 by omega)
 unfold pChange
 simp only
 rw [n1]
 simp only
 have hpg : ((c.1.toNat : Nat) : Int) = c.1 := Int.toNat_of_nonneg g1
 rw [hpg]
 by_cases hi : 0 < c.2.1.length
 ·rw [if_pos hi] at h2
  obtain ⟨g6, g7⟩ := g3 hi
  have h2' : Seg b (a + (leB c.1.toNat 4).length) e (leB 1 1 ++ c.2.1) := h2
  obtain ⟨h3, h4⟩ := h2'.split
  rw [pNum_c h3 (by omega)]
  simp only
  rw [if_pos trivial, pImage_c h4 g6, ← g7]
 ·rw [if_neg hi] at h2
  have h2' : Seg b (a + (leB c.1.toNat 4).length) e (leB 0 1 ++ (leB c.2.2.length 2 ++ encPs c.2.2)) := h2
  obtain ⟨h3, h4⟩ := h2'.split
  obtain ⟨h5, h6⟩ := h4.split
  rw [pNum_c h3 (by omega)]
  simp only
  rw [if_neg (by omega), if_pos trivial, pNum_c h5 (by omega)]
  simp only
  rw [pPieces_c c.2.2 [] _ e h6 g5]
  have h0 : c.2.1 = [] := List.eq_nil_of_length_eq_zero (by omega)
  rw [← h0]
  rfl
set_option maxRecDepth 100000 in
theorem pChanges_c {b : List UInt8} : ∀ (cs : List Ch) (acc : List Ch) (a e : Nat), Seg b a e (encCs cs) → (∀ c ∈ cs, chG c) → pChanges b cs.length acc (some a) = (acc ++ cs, some e)
 | [], acc, a, e, h, _ => by
  have := h.1
  unfold encCs at this
  simp at this
  simp [pChanges, this]
 | c :: cs, acc, a, e, h, hg => by
  obtain ⟨h1, h2⟩ := h.split
  have n1 := pChange_c h1 (hg c (by simp))
  show pChanges b (cs.length + 1) acc (some a) = _
  unfold pChanges
  rw [n1]
  simp only
  rw [pChanges_c cs _ _ e h2 (fun q hq => hg q (by simp [hq]))]
  simp
set_option maxRecDepth 100000 in
theorem rpFrom_good : ∀ (ps : List Pc) (s : Int), 0 ≤ s → rpFrom s ps = true → (∀ p ∈ ps, pcG p) ∧ (ps = [] ∨ s + ps.length ≤ 4080)
 | [], _, _, _ => ⟨by simp, .inl rfl⟩
 | p :: ps, s, hs, h => by
  unfold rpFrom at h
  split at h
  ·cases h
  ·rename_i hc
   obtain ⟨h1, h2⟩ := rpFrom_good ps (p.1 + p.2.length) (by omega) h
   refine ⟨fun q hq => ?_, .inr ?_⟩
   ·rcases List.mem_cons.1 hq with rfl | hq
    ·exact ⟨by omega, by omega, by omega⟩
    ·exact h1 q hq
   ·rw [List.length_cons]
    rcases h2 with rfl | h2
    ·simp
     omega
    ·omega
set_option maxRecDepth 100000 in
theorem rcFrom_good : ∀ (cs : List Ch) (s : Int), -1 ≤ s → rcFrom s cs = true → ∀ c ∈ cs, chG c
 | [], _, _, _ => by simp
 | c :: cs, s, hs, h => by
  unfold rcFrom at h
  split at h
  ·cases h
  ·rename_i hc
   split at h
   ·rename_i hi
    split at h
    ·cases h
    ·rename_i hn
     intro q hq
     rcases List.mem_cons.1 hq with rfl | hq
     ·have h0 : q.2.2 = [] := List.eq_nil_of_length_eq_zero (by omega)
      exact ⟨by omega, by omega, fun _ => ⟨by omega, h0⟩, by rw [h0]; simp, by rw [h0]; simp⟩
     ·exact rcFrom_good cs c.1 (by omega) h q hq
   ·rename_i hi
    split at h
    ·rename_i hr
     obtain ⟨g1, g2⟩ := rpFrom_good _ 0 (Int.le_refl _) hr
     intro q hq
     rcases List.mem_cons.1 hq with rfl | hq
     ·refine ⟨by omega, by omega, fun hh => absurd hh hi, ?_, g1⟩
      rcases g2 with e | g2
      ·rw [e]; simp
      ·omega
     ·exact rcFrom_good cs c.1 (by omega) h q hq
    ·cases h
set_option maxRecDepth 100000 in
theorem right_good {r : Rec} (h : r.right = true) : r.kind < 4 ∧ 0 ≤ r.tx ∧ r.tx ≤ 4611686018427387904 ∧ r.cs.length ≤ 16 ∧ ∀ c ∈ r.cs, chG c := by
 unfold Rec.right rightR at h
 split at h
 ·cases h
 ·rename_i ht
  split at h
  ·rename_i hk
   have h0 : r.cs = [] := List.eq_nil_of_length_eq_zero (of_decide_eq_true h)
   exact ⟨by omega, by omega, by omega, by rw [h0]; simp, by rw [h0]; simp⟩
  ·split at h
   ·rename_i hk
    rw [Bool.and_eq_true] at h
    have := of_decide_eq_true h.1
    exact ⟨by omega, by omega, by omega, this.2, rcFrom_good _ _ (Int.le_refl _) h.2⟩
   ·cases h
set_option maxRecDepth 100000 in
theorem pRecord_c {r : Rec} (h : r.right = true) : pRecord (encB r) = (r, some (encB r).length) := by
 obtain ⟨g1, g2, g3, g4, g5⟩ := right_good h
 have h0 : Seg (encB r) 0 (encB r).length (leB r.kind 1 ++ (leB r.tx.toNat 8 ++ (leB r.cs.length 2 ++ encCs r.cs))) := Seg.all _
 obtain ⟨h1, h2⟩ := h0.split
 obtain ⟨h3, h4⟩ := h2.split
 obtain ⟨h5, h6⟩ := h4.split
 unfold pRecord
 simp only
 rw [pNum_c h1 (by omega)]
 simp only
 rw [pNum_c h3 (by omega)]
 simp only
 rw [pNum_c h5 (by omega)]
 simp only
 rw [pChanges_c r.cs [] _ _ h6 g5]
 have ht : toI r.tx.toNat = r.tx := by
  unfold toI
  rw [if_pos (by omega)]
  omega
 rw [ht]
 rfl
/-! What Decode and All tell. -/
noncomputable def bodyR (b : List UInt8) : Option Rec := @ite _ (∃ r : Rec, r.right = true ∧ b = encB r) (Classical.propDecidable _) (some (pRecord b).1) none
end Go.Proofs.YtnkeclpgpiogoaaGreat

/-! RefA -/
namespace Go.Proofs.YtnkeclpgpiogoaaGreat
open Go.RowKit
set_option maxRecDepth 100000 in
theorem drop_head (l : List UInt8) (j : Nat) (h : j < l.length) : l.drop j = l.getD j 0 :: l.drop (j + 1) := by
 rw [List.drop_eq_getElem_cons h]; simp [List.getD, List.getElem?_eq_getElem h]
end Go.Proofs.YtnkeclpgpiogoaaGreat

/-! Reg -/
namespace Go.Proofs.YtnkeclpgpiogoaaGreat
open Go
def edgesBack (md : Region.Mode) (ops : Array Oper) : Bool :=
 (List.range ops.size).all fun j => match ops[j]? with
  | some o => (o.after.all fun e => !Region.binds md e || decide (e.on < j)) && (match o.guard with | some (g, _) => decide (g < j) | none => true)
  | none => true
def needs (md : Region.Mode) (ops : Array Oper) : Nat → List Nat → List Nat
 | 0, s => s
 | j + 1, s => needs md ops j (if s.contains j then s ++ (match ops[j]? with | some o => (o.after.toList.filter (Region.binds md)).map (·.on) | none => []) else s)
def lastWaits (md : Region.Mode) (ops : Array Oper) : Bool := (List.range ops.size).all fun j => (needs md ops ops.size [ops.size - 1]).contains j
section
variable {P : Program} {md : Region.Mode} {ops : Array Oper}
def closedL (md : Region.Mode) (ops : Array Oper) (listed : Array Bool) : Prop :=
 ∀ j o, ops[j]? = some o → listed.getD j true = true → ∀ e ∈ o.after, Region.binds md e = true → listed.getD e.on false = true
set_option maxRecDepth 100000 in
theorem edgesBack_spec (h : edgesBack md ops = true) {j : Nat} {o : Oper} (hj : ops[j]? = some o) : (∀ e ∈ o.after, Region.binds md e = true → e.on < j) ∧ ∀ g b, o.guard = some (g, b) → g < j := by
 unfold edgesBack at h
 rw [List.all_eq_true] at h
 have hlt := (Array.getElem?_eq_some_iff.1 hj).1
 have h1 := h j (List.mem_range.2 hlt)
 rw [hj] at h1
 simp only [Bool.and_eq_true] at h1
 refine ⟨fun e he hbd => ?_, fun g b hg => ?_⟩
 ·have := Array.all_eq_true_iff_forall_mem.1 h1.1 e he
  rw [hbd] at this
  simpa using this
 ·have := h1.2
  rw [hg] at this
  simpa using this
set_option maxRecDepth 100000 in
theorem needs_listed {listed : Array Bool} (hc : closedL md ops listed) (hs : listed.size = ops.size) : ∀ (n : Nat) (s : List Nat), (∀ i ∈ s, listed.getD i false = true) → ∀ i ∈ needs md ops n s, listed.getD i false = true
 | 0, _, h => h
 | n + 1, s, h => by
  unfold needs
  refine needs_listed hc hs n _ ?_
  split
  ·rename_i hcon
   intro i hi
   rcases List.mem_append.1 hi with hi | hi
   ·exact h i hi
   ·cases ho : ops[n]? with
    | none => rw [ho] at hi; simp at hi
    | some o =>
     rw [ho] at hi
     simp only [List.mem_map, List.mem_filter, Array.mem_toList_iff] at hi
     obtain ⟨e, ⟨he, hb⟩, rfl⟩ := hi
     have hn : listed.getD n false = true := h n (by simpa using hcon)
     refine hc n o ho ?_ e he hb
     have hlt := (Array.getElem?_eq_some_iff.1 ho).1
     rw [← hs] at hlt
     rw [Array.getD_eq_getD_getElem?, Array.getElem?_eq_getElem hlt] at hn ⊢
     exact hn
  ·exact h
set_option maxRecDepth 100000 in
theorem all_listed (hb : edgesBack md ops = true) {listed : Array Bool} (hs : listed.size = ops.size) (hr : Region.ready md ops listed = []) : ∀ n, n ≤ ops.size → ∀ j, j < n → listed.getD j false = true
 | 0, _, j, hj => by omega
 | n + 1, hn, j, hj => by
  have ih := all_listed hb hs hr n (by omega)
  rcases Nat.lt_or_ge j n with h | h
  ·exact ih j h
  ·obtain rfl : j = n := by omega
   have hlt : j < listed.size := by omega
   cases hv : listed.getD j false with
   | true => rfl
   | false =>
    have hmem : j ∈ Region.ready md ops listed := by
     refine mem_ready.2 ⟨?_, ops[j], Array.getElem?_eq_getElem (by omega), fun e he hbd => ?_⟩
     ·rw [Array.getD_eq_getD_getElem?, Array.getElem?_eq_getElem hlt] at hv ⊢
      exact hv
     ·exact ih e.on ((edgesBack_spec hb (Array.getElem?_eq_getElem (by omega))).1 e he hbd)
    rw [hr] at hmem
    cases hmem
def lastQ (P : Program) (ops : Array Oper) (Q : Exit → Act → World → Prop) (n : Nat) : Exit → Act → World → Prop
 | .normal, a, w => wpOp P ops Q n (Q .normal) a w
 | e, a, w => Q e a w
end
section
variable {P : Program} {md : Region.Mode} {ops : Array Oper} {Q : Exit → Act → World → Prop}
set_option maxRecDepth 100000 in
theorem push_get {o : Oper} {i : Nat} (h : i < ops.size) : (ops.push o)[i]? = ops[i]? := by
 rw [Array.getElem?_push, if_neg (by omega)]
set_option maxRecDepth 100000 in
theorem lastQ_lets {n : Nat} (h : LetsOut (lastQ P ops Q n)) : LetsOut Q := h
set_option maxRecDepth 100000 in
theorem Oper.wp_lastQ {O : Array Oper} {n : Nat} {o : Oper} {a : Act} {w : World} {K : Act → World → Prop} (h : o.wp P a w K (lastQ P O Q n)) : o.wp P a w K Q := by
 unfold Oper.wp at *
 generalize (execOp a.eval o).run P w = r at *
 cases r with
 | ok n w' =>
  cases n <;> simp only [Oper.upon] at h ⊢ <;>
   first
    | exact h
    | exact Calls.mono h (fun e w'' he => by cases e <;> exact he)
 | halt x w' => cases x <;> simp only [Oper.upon] at h ⊢ <;> exact h
set_option maxRecDepth 100000 in
theorem wpOp_last {O : Array Oper} {n : Nat} {o : Oper} (hb : edgesBack md (ops.push o) = true) {i : Nat} (hi : i < ops.size) {a : Act} {w : World} {K : Act → World → Prop} (h : wpOp P ops (lastQ P O Q n) i K a w) : wpOp P (ops.push o) Q i K a w := by
 unfold wpOp at *
 rw [push_get hi]
 cases ho : ops[i]? with
 | none => rw [ho] at h; exact h
 | some x =>
  rw [ho] at h
  simp only at h ⊢
  have hg := (edgesBack_spec hb (by rw [push_get hi]; exact ho)).2
  have hw : Region.wanted x (yielded (ops.push o) a.tmps) = Region.wanted x (yielded ops a.tmps) := by
   unfold Region.wanted
   cases hgd : x.guard with
   | none => rfl
   | some gb =>
    obtain ⟨g, b⟩ := gb
    have := hg g b hgd
    simp only
    unfold yielded
    rw [push_get (by omega)]
  rw [hw]
  split
  ·rename_i hwt
   rw [if_pos hwt] at h
   rcases h with h | ⟨h1, h2⟩
   ·exact .inl (Oper.wp_lastQ h)
   ·exact .inr ⟨h1, lastQ_lets h2⟩
  ·rename_i hwt
   rw [if_neg hwt] at h
   exact h
set_option maxRecDepth 100000 in
theorem wpAny_last {o : Oper} (hb : edgesBack md (ops.push o) = true) (hl : lastWaits md (ops.push o) = true) :
  ∀ (fuel : Nat) (listed : Array Bool) (a : Act) (w : World), listed.size = ops.size → closedL md ops listed →
   wpAny P md ops (lastQ P (ops.push o) Q ops.size) fuel listed a w → wpAny P md (ops.push o) Q (fuel + 1) (listed.push false) a w := by
 have hb' : edgesBack md ops = true := by
  unfold edgesBack at hb ⊢
  rw [List.all_eq_true] at hb ⊢
  intro j hj
  have hlt := List.mem_range.1 hj
  have := hb j (List.mem_range.2 (by rw [Array.size_push]; omega))
  rw [push_get hlt] at this
  exact this
 have rdy : ∀ (listed : Array Bool), listed.size = ops.size → ∀ i, i < ops.size → (i ∈ Region.ready md (ops.push o) (listed.push false) ↔ i ∈ Region.ready md ops listed) := by
  intro listed hs i hi
  rw [mem_ready, mem_ready, push_get hi]
  have g : ∀ k d, k < ops.size → (listed.push false).getD k d = listed.getD k d := fun k d hk => by
   rw [Array.getD_eq_getD_getElem?, Array.getD_eq_getD_getElem?, Array.getElem?_push, if_neg (by omega)]
  rw [g i true hi]
  refine and_congr_right fun _ => exists_congr fun x => and_congr_right fun hx => forall_congr' fun e => forall_congr' fun he => forall_congr' fun hbd => ?_
  rw [g e.on false (by have := (edgesBack_spec hb' hx).1 e he hbd; omega)]
 -- the last one comes up when all have
 have lst : ∀ (listed : Array Bool), listed.size = ops.size → closedL md ops listed → ops.size ∈ Region.ready md (ops.push o) (listed.push false) → ∀ i, i < ops.size → listed.getD i false = true := by
  intro listed hs hc hm i hi
  obtain ⟨_, x, hx, hall⟩ := mem_ready.1 hm
  have hL : closedL md (ops.push o) ((listed.push true)) := by
   intro j y hy hj e he hbd
   rcases Nat.lt_or_ge j ops.size with hjl | hjl
   ·rw [push_get hjl] at hy
    have e1 : (listed.push true).getD j true = listed.getD j true := by
     rw [Array.getD_eq_getD_getElem?, Array.getD_eq_getD_getElem?, Array.getElem?_push, if_neg (by omega)]
    rw [e1] at hj
    have := hc j y hy hj e he hbd
    have hlt : e.on < listed.size := by have := (edgesBack_spec hb' hy).1 e he hbd; omega
    rw [Array.getD_eq_getD_getElem?, Array.getElem?_push, if_neg (by omega), ← Array.getD_eq_getD_getElem?]
    exact this
   ·have hjl2 : j < (ops.push o).size := (Array.getElem?_eq_some_iff.1 hy).1
    rw [Array.size_push] at hjl2
    obtain rfl : j = ops.size := by omega
    rw [hx] at hy
    cases hy
    have h1 := hall e he hbd
    have hlt : e.on < ops.size := (edgesBack_spec hb hx).1 e he hbd
    rw [Array.getD_eq_getD_getElem?, Array.getElem?_push, if_neg (by omega), ← Array.getD_eq_getD_getElem?] at h1 ⊢
    exact h1
  have hN := needs_listed hL (by rw [Array.size_push, Array.size_push, hs]) (ops.push o).size [(ops.push o).size - 1] (fun k hk => by
   simp only [Array.size_push, Nat.add_sub_cancel, List.mem_singleton] at hk
   subst hk
   rw [Array.getD_eq_getD_getElem?, Array.getElem?_push, if_pos hs.symm]
   rfl)
  unfold lastWaits at hl
  rw [List.all_eq_true] at hl
  have := hN i (by simpa using hl i (List.mem_range.2 (by rw [Array.size_push]; omega)))
  rw [Array.getD_eq_getD_getElem?, Array.getElem?_push, if_neg (by omega), ← Array.getD_eq_getD_getElem?] at this
  exact this
 -- all but the last one have come up
 have fin : ∀ (fuel : Nat) (listed : Array Bool) (a : Act) (w : World), listed.size = ops.size → Region.ready md ops listed = [] → wpOp P (ops.push o) Q ops.size (Q .normal) a w → wpAny P md (ops.push o) Q (fuel + 1) (listed.push false) a w := by
  intro fuel listed a w hs hr h
  have hall := all_listed hb' hs hr ops.size (Nat.le_refl _)
  have hend : Region.ready md (ops.push o) ((listed.push false).setIfInBounds ops.size true) = [] := by
   rcases hq : Region.ready md (ops.push o) ((listed.push false).setIfInBounds ops.size true) with _ | ⟨x, xs⟩
   ·rfl
   ·exfalso
    have hx : x ∈ Region.ready md (ops.push o) ((listed.push false).setIfInBounds ops.size true) := by rw [hq]; simp
    obtain ⟨h1, y, hy, _⟩ := mem_ready.1 hx
    have hlt : x < (ops.push o).size := (Array.getElem?_eq_some_iff.1 hy).1
    rw [Array.size_push] at hlt
    by_cases e : x = ops.size
    ·subst e
     rw [Array.getD_eq_getD_getElem?, Array.getElem?_setIfInBounds_self_of_lt (by rw [Array.size_push]; omega)] at h1
     cases h1
    ·have := hall x (by omega)
     rw [getD_set_ne true (Ne.symm e)] at h1
     rw [Array.getD_eq_getD_getElem?, Array.getElem?_push, if_neg (by omega)] at h1
     rw [Array.getD_eq_getD_getElem?, Array.getElem?_eq_getElem (show x < listed.size by omega)] at this
     rw [Array.getElem?_eq_getElem (show x < listed.size by omega)] at h1
     simp only [Option.getD_some] at h1 this
     rw [h1] at this
     cases this
  have hin : ops.size ∈ Region.ready md (ops.push o) (listed.push false) := by
   refine mem_ready.2 ⟨?_, o, by simp, fun e he hbd => ?_⟩
   ·rw [Array.getD_eq_getD_getElem?, Array.getElem?_push, if_pos hs.symm]
    rfl
   ·have hlt : e.on < ops.size := (edgesBack_spec hb (j := ops.size) (o := o) (by simp)).1 e he hbd
    have := hall e.on hlt
    rw [Array.getD_eq_getD_getElem?, Array.getElem?_push, if_neg (by omega), ← Array.getD_eq_getD_getElem?]
    exact this
  refine ⟨fun h0 => (by rw [h0] at hin; cases hin), fun i hi => ?_⟩
  have hi2 : i = ops.size := by
   obtain ⟨h1, y, hy, _⟩ := mem_ready.1 hi
   have hlt : i < (ops.push o).size := (Array.getElem?_eq_some_iff.1 hy).1
   rw [Array.size_push] at hlt
   rcases Nat.lt_or_ge i ops.size with hlt2 | hge
   ·have := (rdy listed hs i hlt2).1 hi
    rw [hr] at this
    cases this
   ·omega
  subst hi2
  exact wpOp_mono (fun a w hq => wpAny_done hend hq _) h
 intro fuel
 induction fuel with
 | zero =>
  intro listed a w hs hc h
  exact fin 0 listed a w hs h.1 h.2
 | succ fuel ih =>
  intro listed a w hs hc h
  by_cases hr : Region.ready md ops listed = []
  ·exact fin (fuel + 1) listed a w hs hr (h.1 hr)
  ·have hne : ∀ i, i ∈ Region.ready md (ops.push o) (listed.push false) → i < ops.size := by
    intro i hi
    obtain ⟨_, y, hy, _⟩ := mem_ready.1 hi
    have hlt : i < (ops.push o).size := (Array.getElem?_eq_some_iff.1 hy).1
    rw [Array.size_push] at hlt
    rcases Nat.lt_or_ge i ops.size with hlt2 | hge
    ·exact hlt2
    ·exfalso
     obtain rfl : i = ops.size := by omega
     have hall := lst listed hs hc hi
     apply hr
     rcases hq : Region.ready md ops listed with _ | ⟨x, xs⟩
     ·rfl
     ·exfalso
      have hx : x ∈ Region.ready md ops listed := by rw [hq]; simp
      obtain ⟨h1, z, hz, _⟩ := mem_ready.1 hx
      have hxl : x < ops.size := (Array.getElem?_eq_some_iff.1 hz).1
      have := hall x hxl
      rw [Array.getD_eq_getD_getElem?, Array.getElem?_eq_getElem (show x < listed.size by omega)] at h1 this
      simp only [Option.getD_some] at h1 this
      rw [h1] at this
      cases this
   refine ⟨fun h0 => ?_, fun i hi => ?_⟩
   ·exfalso
    apply hr
    rcases hq : Region.ready md ops listed with _ | ⟨x, xs⟩
    ·rfl
    ·exfalso
     have hx : x ∈ Region.ready md ops listed := by rw [hq]; simp
     obtain ⟨_, z, hz, _⟩ := mem_ready.1 hx
     have := (rdy listed hs x (Array.getElem?_eq_some_iff.1 hz).1).2 hx
     rw [h0] at this
     cases this
   ·have hil := hne i hi
    have hi2 := (rdy listed hs i hil).1 hi
    refine wpOp_mono (fun a w hq => ?_) (wpOp_last hb hil (h.2 i hi2))
    have e1 : (listed.push false).setIfInBounds i true = (listed.setIfInBounds i true).push false := by
     apply Array.ext_getElem?
     intro k
     rw [Array.getElem?_setIfInBounds, Array.getElem?_push, Array.getElem?_push, Array.getElem?_setIfInBounds, Array.size_setIfInBounds, Array.size_push]
     by_cases e : i = k
     ·subst e
      rw [if_pos rfl, if_pos (by omega), if_neg (by omega), if_pos rfl, if_pos (by omega)]
     ·rw [if_neg e, if_neg e]
    rw [e1]
    refine ih (listed.setIfInBounds i true) a w (by simp [hs]) (fun j x hx hj e he hbd => ?_) hq
    by_cases e0 : i = j
    ·subst e0
     obtain ⟨_, y, hy, hall⟩ := mem_ready.1 hi2
     rw [hx] at hy
     cases hy
     exact getD_set_true (hall e he hbd)
    ·rw [getD_set_ne true e0] at hj
     exact getD_set_true (hc j x hx hj e he hbd)
set_option maxRecDepth 100000 in
theorem wp_region_last {id : Nat} {o : Oper} {a : Act} {w : World} (hm : P.follows .mixedOrders = true) (hb : edgesBack .any (ops.push o) = true) (hl : lastWaits .any (ops.push o) = true)
  (h : wpAny P .any ops (lastQ P (ops.push o) Q ops.size) ops.size (Array.replicate ops.size false) a w.drew) : (Code.region id (ops.push o) true).wp P Q a w := by
 refine wp_region_any hm ?_
 have := wpAny_last hb hl ops.size (Array.replicate ops.size false) a w.drew (by simp) (fun j x hx hj => ?_) h
 ·rw [Array.size_push, show Array.replicate (ops.size + 1) false = (Array.replicate ops.size false).push false from by simp [Array.replicate_succ]]
  exact this
 ·have hlt := (Array.getElem?_eq_some_iff.1 hx).1
  rw [Array.getD_eq_getD_getElem?, Array.getElem?_eq_getElem (by simpa using hlt)] at hj
  simp at hj
end
set_option maxRecDepth 100000 in
theorem lastQ_step {P : Program} {ops : Array Oper} {Q : Exit → Act → World → Prop} {n : Nat} {o : Oper} {a : Act} {w : World} (ho : ops[n]? = some o)
  (h : ∀ K' : Act → World → Prop, (∀ a w, Q .normal a w → K' a w) → if Region.wanted o (yielded ops a.tmps) = true then Oper.wp P o a w K' Q else K' (a.put o.dst undef) w) : lastQ P ops Q n .normal a w := by
 show wpOp P ops Q n (Q .normal) a w
 exact wpOp_step ho h
set_option maxRecDepth 100000 in
theorem wp_region_lastL {P : Program} {Q : Exit → Act → World → Prop} {id : Nat} {l : List Oper} {a : Act} {w : World} (hm : P.follows .mixedOrders = true) (hne : l ≠ []) (hb : edgesBack .any l.toArray = true) (hl : lastWaits .any l.toArray = true)
  (h : wpAny P .any l.dropLast.toArray (lastQ P l.toArray Q l.dropLast.length) l.dropLast.length (Array.replicate l.dropLast.length false) a w.drew) : (Code.region id l.toArray true).wp P Q a w := by
 have e : l.toArray = l.dropLast.toArray.push (l.getLast hne) := by
  rw [List.push_toArray, List.dropLast_concat_getLast]
 rw [e] at hb hl h ⊢
 exact wp_region_last hm hb hl h
end Go.Proofs.YtnkeclpgpiogoaaGreat

/-! Rgm -/
namespace Go.Proofs.YtnkeclpgpiogoaaGreat
open Go Go.RowKit
structure MP where
 p : Value → World → Prop
 mono : ∀ v w w', Below w.heap.size w w' → p v w → p v w'
def MP.any : MP := ⟨fun _ _ => True, fun _ _ _ _ _ => trivial⟩
def MP.is (c : Value) : MP := ⟨fun v _ => v = c, fun _ _ _ _ h => h⟩
def dstOf (ops : Array Oper) (i : Nat) : Option Tmp := (ops[i]?).bind (·.dst)
def putL (ops : Array Oper) (listed : Array Bool) (f : Nat → Value) (a : Act) : Nat → Act
 | 0 => a
 | n + 1 => if listed.getD n false = true then (putL ops listed f a n).put (dstOf ops n) (f n) else putL ops listed f a n
def putA (ops : Array Oper) (f : Nat → Value) (a : Act) : Nat → Act
 | 0 => a
 | n + 1 => (putA ops f a n).put (dstOf ops n) (f n)
def dstsApart (ops : Array Oper) : Bool := (List.range ops.size).all fun i => (List.range i).all fun j => (dstOf ops i).isNone || dstOf ops i != dstOf ops j
def depsOf (md : Region.Mode) (ops : Array Oper) (i : Nat) : List Nat := match ops[i]? with | some o => (o.after.toList.filter (Region.binds md)).map (·.on) | none => []
def needsOf (md : Region.Mode) (ops : Array Oper) (i : Nat) : List Nat := needs md ops ops.size (depsOf md ops i)
def looksBack (md : Region.Mode) (ops : Array Oper) : Bool :=
 (List.range ops.size).all fun i => match ops[i]? with
  | some o => (o.looksAt ops).all fun x => (List.range ops.size).all fun j => dstOf ops j != some x || (needsOf md ops i).contains j
  | none => true
section
variable {P : Program} {md : Region.Mode} {ops : Array Oper} {Q : Exit → Act → World → Prop} {f : Nat → Value} {a : Act} {listed : Array Bool}
set_option maxRecDepth 100000 in
theorem put_size (a : Act) (d : Option Tmp) (v : Value) : (a.put d v).tmps.size = a.tmps.size := by cases d <;> simp [Act.put]
set_option maxRecDepth 100000 in
theorem put_defers (a : Act) (d : Option Tmp) (v : Value) : (a.put d v).defers = a.defers := by cases d <;> rfl
set_option maxRecDepth 100000 in
theorem putL_size : ∀ n, (putL ops listed f a n).tmps.size = a.tmps.size
 | 0 => rfl
 | n + 1 => by
  unfold putL
  split
  ·rw [put_size, putL_size n]
  ·exact putL_size n
set_option maxRecDepth 100000 in
theorem putA_size : ∀ n, (putA ops f a n).tmps.size = a.tmps.size
 | 0 => rfl
 | n + 1 => by
  unfold putA
  rw [put_size, putA_size n]
set_option maxRecDepth 100000 in
theorem putL_defers : ∀ n, (putL ops listed f a n).defers = a.defers
 | 0 => rfl
 | n + 1 => by
  unfold putL
  split
  ·rw [put_defers, putL_defers n]
  ·exact putL_defers n
set_option maxRecDepth 100000 in
theorem putA_defers : ∀ n, (putA ops f a n).defers = a.defers
 | 0 => rfl
 | n + 1 => by
  unfold putA
  rw [put_defers, putA_defers n]
set_option maxRecDepth 100000 in
theorem dstsApart_spec (h : dstsApart ops = true) {i j : Nat} (hi : i < ops.size) (hj : j < i) : ∀ d, dstOf ops i = some d → dstOf ops j ≠ some d := by
 unfold dstsApart at h
 rw [List.all_eq_true] at h
 have h1 := h i (List.mem_range.2 hi)
 rw [List.all_eq_true] at h1
 have h2 := h1 j (List.mem_range.2 hj)
 intro d hd he
 rw [hd, he] at h2
 simp at h2
def upd (f : Nat → Value) (i : Nat) (v : Value) : Nat → Value := fun k => if k = i then v else f k
set_option maxRecDepth 100000 in
theorem putL_same {g : Nat → Value} {listed2 : Array Bool} : ∀ n, (∀ k, k < n → listed.getD k false = listed2.getD k false ∧ f k = g k) → putL ops listed f a n = putL ops listed2 g a n
 | 0, _ => rfl
 | n + 1, h => by
  unfold putL
  rw [putL_same n (fun k hk => h k (by omega)), (h n (by omega)).1, (h n (by omega)).2]
set_option maxRecDepth 100000 in
theorem putL_set (hd : dstsApart ops = true) {i : Nat} {v : Value} (hs : listed.size = ops.size) (hl : listed.getD i true = false) : ∀ n, n ≤ ops.size → i < n → putL ops (listed.setIfInBounds i true) (upd f i v) a n = (putL ops listed f a n).put (dstOf ops i) v
 | 0, _, h => by omega
 | n + 1, hn, h => by
  have hset : ∀ k, k ≠ i → (listed.setIfInBounds i true).getD k false = listed.getD k false := fun k hk => getD_set_ne false (Ne.symm hk)
  unfold putL
  by_cases e : i = n
  ·subst e
   have h1 : (listed.setIfInBounds i true).getD i false = true := by
    rw [Array.getD_eq_getD_getElem?, Array.getElem?_setIfInBounds_self_of_lt (by omega)]
    rfl
   have h2 : listed.getD i false = false := by
    rw [Array.getD_eq_getD_getElem?, Array.getElem?_eq_getElem (show i < listed.size by omega)] at hl ⊢
    exact hl
   rw [if_pos h1, if_neg (by rw [h2]; exact Bool.false_ne_true)]
   have e1 : upd f i v i = v := by unfold upd; rw [if_pos rfl]
   rw [e1]
   congr 1
   exact putL_same i (fun k hk => ⟨hset k (by omega), by unfold upd; rw [if_neg (by omega)]⟩)
  ·have ih := putL_set hd hs hl n (by omega) (by omega) (v := v)
   have e1 : upd f i v n = f n := by unfold upd; rw [if_neg (fun h => e h.symm)]
   rw [hset n (fun h => e h.symm), ih, e1]
   split
   ·exact Act.put_comm _ v (f n) (fun d h1 h2 => dstsApart_spec hd (i := n) (j := i) (by omega) (by omega) d h2 h1)
   ·rfl
set_option maxRecDepth 100000 in
theorem putL_at {x : Tmp} : ∀ n, (∀ j, j < n → dstOf ops j = some x → listed.getD j false = true) → (putL ops listed f a n).tmps[x]? = (putA ops f a n).tmps[x]?
 | 0, _ => rfl
 | n + 1, h => by
  have ih := putL_at (x := x) n (fun j hj => h j (by omega))
  unfold putL putA
  have sz : (putL ops listed f a n).tmps.size = (putA ops f a n).tmps.size := by rw [putL_size, putA_size]
  cases hd : dstOf ops n with
  | none => simpa [Act.put] using ih
  | some d =>
   by_cases e : d = x
   ·subst e
    rw [if_pos (h n (by omega) hd)]
    simp only [Act.put, Array.getElem?_setIfInBounds, sz, if_true]
   ·split
    ·simp only [Act.put]
     rw [Array.getElem?_setIfInBounds_ne e, Array.getElem?_setIfInBounds_ne e]
     exact ih
    ·simp only [Act.put]
     rw [Array.getElem?_setIfInBounds_ne e]
     exact ih
set_option maxRecDepth 100000 in
theorem putL_none (hl : ∀ k, k < ops.size → listed.getD k false = false) : ∀ n, n ≤ ops.size → putL ops listed f a n = a
 | 0, _ => rfl
 | n + 1, hn => by
  unfold putL
  rw [if_neg (by rw [hl n (by omega)]; exact Bool.false_ne_true)]
  exact putL_none hl n (by omega)
set_option maxRecDepth 100000 in
theorem putL_all (hl : ∀ k, k < ops.size → listed.getD k false = true) : ∀ n, n ≤ ops.size → putL ops listed f a n = putA ops f a n
 | 0, _ => rfl
 | n + 1, hn => by
  unfold putL putA
  rw [if_pos (hl n (by omega)), putL_all hl n (by omega)]
set_option maxRecDepth 100000 in
theorem eval_at {a b : Act} {x : Operand} (h : ∀ t, x = .tmp t → a.tmps[t]? = b.tmps[t]?) : a.eval x = b.eval x := by
 cases x with
 | tmp t => simp [Act.eval, h t rfl]
 | _ => rfl
set_option maxRecDepth 100000 in
theorem put_turn {a b : Act} {d : Option Tmp} {u v : Value} (hs : a.tmps.size = b.tmps.size) (h : a.put d u = a.put d v) : b.put d u = b.put d v := by
 cases d with
 | none => rfl
 | some t =>
  simp only [Act.put] at h ⊢
  by_cases hlt : t < a.tmps.size
  ·have h1 : (a.tmps.setIfInBounds t u)[t]? = (a.tmps.setIfInBounds t v)[t]? := by
    injection h with h1 h2
    rw [h1]
   rw [Array.getElem?_setIfInBounds_self_of_lt hlt, Array.getElem?_setIfInBounds_self_of_lt hlt] at h1
   injection h1 with h1
   rw [h1]
  ·have e : ∀ z : Value, b.tmps.setIfInBounds t z = b.tmps := fun z => by
    apply Array.ext_getElem?
    intro k
    rw [Array.getElem?_setIfInBounds]
    by_cases e : t = k
    ·rw [if_pos e, ← e, if_neg (show ¬ t < b.tmps.size from by rw [← hs]; exact hlt), Array.getElem?_eq_none (show b.tmps.size ≤ t from by rw [← hs]; exact Nat.le_of_not_lt hlt)]
    ·rw [if_neg e]
   rw [e u, e v]
end
def StepOK (P : Program) (ops : Array Oper) (Rs : List MP) (w0 : World) (AA : (Nat → Value) → Act) (i : Nat) (o : Oper) : Prop :=
 ∀ (f : Nat → Value) (w : World), Below w0.heap.size w0 w → (∀ j, (needsOf .any ops i).contains j = true → (Rs.getD j MP.any).p (f j) w) →
  ∀ (K : Act → World → Prop) (Q : Exit → Act → World → Prop), (∀ v w', Below w.heap.size w w' → (Rs.getD i MP.any).p v w' → K ((AA f).put o.dst v) w') →
   if Region.wanted o (yielded ops (AA f).tmps) = true then Oper.wp P o (AA f) w K Q else K ((AA f).put o.dst undef) w
def Steps (P : Program) (ops : Array Oper) (Rs : List MP) (w0 : World) (AA : (Nat → Value) → Act) (l : List Nat) : Prop := ∀ i ∈ l, ∀ o, ops[i]? = some o → StepOK P ops Rs w0 AA i o
section
variable {P : Program} {ops : Array Oper} {Q : Exit → Act → World → Prop} {Rs : List MP} {w0 : World} {AA : (Nat → Value) → Act}
set_option maxRecDepth 100000 in
theorem Steps.nil : Steps P ops Rs w0 AA [] := fun _ h => by cases h
set_option maxRecDepth 100000 in
theorem Steps.cons {i : Nat} {l : List Nat} {o : Oper} (ho : ops[i]? = some o) (h : StepOK P ops Rs w0 AA i o) (hs : Steps P ops Rs w0 AA l) : Steps P ops Rs w0 AA (i :: l) := fun j hj x hx => by
 rcases List.mem_cons.1 hj with rfl | hj
 ·rw [ho] at hx
  cases hx
  exact h
 ·exact hs j hj x hx
set_option maxRecDepth 100000 in
theorem mono_step {i : Nat} {o : Oper} {a : Act} {w : World} {f : Nat → Value} {listed : Array Bool} (ho : ops[i]? = some o) (hAA : ∀ f, putA ops f a ops.size = AA f) (hd : dstsApart ops = true) (hk : looksBack .any ops = true) (hsel : Region.noSelect ops = true)
  (hs : listed.size = ops.size) (hl : listed.getD i true = false) (hn : ∀ j, (needsOf .any ops i).contains j = true → listed.getD j false = true)
  (hB : Below w0.heap.size w0 w) (hR : ∀ j, j < ops.size → listed.getD j false = true → (Rs.getD j MP.any).p (f j) w) (hst : StepOK P ops Rs w0 AA i o)
  (hnlt : ∀ j, (needsOf .any ops i).contains j = true → j < ops.size) :
  wpOp P ops Q i (fun a' w' => ∃ f', a' = putL ops (listed.setIfInBounds i true) f' a ops.size ∧ Below w0.heap.size w0 w' ∧ ∀ j, j < ops.size → (listed.setIfInBounds i true).getD j false = true → (Rs.getD j MP.any).p (f' j) w') (putL ops listed f a ops.size) w := by
 have hi : i < ops.size := (Array.getElem?_eq_some_iff.1 ho).1
 have hlook : ∀ x ∈ o.looksAt ops, (putL ops listed f a ops.size).tmps[x]? = (AA f).tmps[x]? := by
  intro x hx
  rw [← hAA f]
  refine putL_at _ (fun j hj he => ?_)
  unfold looksBack at hk
  rw [List.all_eq_true] at hk
  have h1 := hk i (List.mem_range.2 hi)
  rw [ho] at h1
  simp only [List.all_eq_true] at h1
  have h2 := h1 x hx j (List.mem_range.2 hj)
  simp only [Bool.or_eq_true] at h2
  rcases h2 with h2 | h2
  ·rw [he] at h2
   simp at h2
  ·exact hn j h2
 have hex : execOp (putL ops listed f a ops.size).eval o = execOp (AA f).eval o := execOp_congr o (fun cs b => Region.noSelect_spec hsel i o cs b ho) (fun x hx => eval_at (fun t e => hlook t (by
  subst e
  exact List.mem_append_left _ (List.mem_filterMap.2 ⟨.tmp t, by simpa using hx, rfl⟩))))
 have hwt : Region.wanted o (yielded ops (putL ops listed f a ops.size).tmps) = Region.wanted o (yielded ops (AA f).tmps) := by
  unfold Region.wanted
  cases hg : o.guard with
  | none => rfl
  | some gw =>
   obtain ⟨g, want⟩ := gw
   simp only
   have hy : yielded ops (putL ops listed f a ops.size).tmps g = yielded ops (AA f).tmps g := by
    unfold yielded
    cases ht : (ops[g]?).bind (·.dst) with
    | none => rfl
    | some t =>
     simp only [Option.bind_some]
     rw [hlook t (by simp [Oper.looksAt, hg, ht])]
   rw [hy]
 have hdef : (AA f).defers = (putL ops listed f a ops.size).defers := by rw [← hAA f, putA_defers, putL_defers]
 have hsz : (AA f).tmps.size = (putL ops listed f a ops.size).tmps.size := by rw [← hAA f, putA_size, putL_size]
 -- the way on
 have fin : ∀ v w', (∃ v2, (AA f).put o.dst v = (AA f).put o.dst v2 ∧ Below w.heap.size w w' ∧ (Rs.getD i MP.any).p v2 w') → ∃ f', (putL ops listed f a ops.size).put o.dst v = putL ops (listed.setIfInBounds i true) f' a ops.size ∧ Below w0.heap.size w0 w' ∧ ∀ j, j < ops.size → (listed.setIfInBounds i true).getD j false = true → (Rs.getD j MP.any).p (f' j) w' := by
  rintro v w' ⟨v2, e, hb, hr⟩
  have hdst : dstOf ops i = o.dst := by unfold dstOf; rw [ho]; rfl
  refine ⟨upd f i v2, ?_, ⟨hb.os.trans hB.os, hb.tape.trans hB.tape, hb.output.trans hB.output, Nat.le_trans hB.size hb.size, fun k hk => (hb.block k (Nat.lt_of_lt_of_le hk hB.size)).trans (hB.block k hk)⟩, fun j hj hlj => ?_⟩
  ·rw [putL_set hd hs hl ops.size (Nat.le_refl _) hi, hdst]
   exact put_turn hsz e
  ·by_cases e2 : j = i
   ·subst e2
    unfold upd
    rw [if_pos rfl]
    exact hr
   ·unfold upd
    rw [if_neg e2]
    rw [getD_set_ne false (Ne.symm e2)] at hlj
    exact (Rs.getD j MP.any).mono _ _ _ hb (hR j hj hlj)
 have hK := hst f w hB (fun j hj => hR j (hnlt j hj) (hn j hj)) (fun a' w' => ∃ v2, a' = (AA f).put o.dst v2 ∧ Below w.heap.size w w' ∧ (Rs.getD i MP.any).p v2 w') (fun _ _ _ => False) (fun v w' hb hr => ⟨v, rfl, hb, hr⟩)
 unfold wpOp
 rw [ho]
 simp only
 rw [hwt]
 split
 ·rename_i hw
  rw [if_pos hw] at hK
  refine .inl ?_
  unfold Oper.wp at hK ⊢
  rw [hex]
  generalize (execOp (AA f).eval o).run P w = r at *
  cases r with
  | ok n w' =>
   cases n <;> simp only [Oper.upon] at hK ⊢
   case value v => exact fin v w' hK
   case skip => exact fin _ w' hK
   case defer d =>
    exfalso
    obtain ⟨v2, e, _⟩ := hK
    have h1 := congrArg Act.defers e
    rw [put_defers, put_defers] at h1
    have h2 := congrArg List.length h1
    simp at h2
   case enter fn args =>
    refine Calls.mono hK fun e w'' he => ?_
    cases e with
    | returned v => exact fin v w'' he
    | panicked c => exact he.elim
    | outgrown => obtain ⟨_, _, h⟩ := he; exact h.elim
   case row row args => exact Rows.mono hK fun v w'' he => fin v w'' he
  | halt x w' => cases x <;> simp only [Oper.upon] at hK
 ·rename_i hw
  rw [if_neg hw] at hK
  exact fin _ w hK
set_option maxRecDepth 100000 in
theorem wpAny_mono (hb : edgesBack .any ops = true) {a : Act} (hAA : ∀ f, putA ops f a ops.size = AA f) (hd : dstsApart ops = true) (hk : looksBack .any ops = true) (hsel : Region.noSelect ops = true)
  (hst : Steps P ops Rs w0 AA (List.range ops.size)) (hend : ∀ f w, Below w0.heap.size w0 w → (∀ j, j < ops.size → (Rs.getD j MP.any).p (f j) w) → Q .normal (AA f) w)
  (hnlt : ∀ i j, i < ops.size → (needsOf .any ops i).contains j = true → j < ops.size) :
  ∀ (fuel : Nat) (listed : Array Bool) (f : Nat → Value) (w : World), listed.size = ops.size → closedL .any ops listed → Below w0.heap.size w0 w → (∀ j, j < ops.size → listed.getD j false = true → (Rs.getD j MP.any).p (f j) w) → ((List.range ops.size).filter (fun j => !listed.getD j false)).length ≤ fuel →
   wpAny P .any ops Q fuel listed (putL ops listed f a ops.size) w := by
 have done : ∀ (listed : Array Bool) (f : Nat → Value) (w : World), listed.size = ops.size → Below w0.heap.size w0 w → (∀ j, j < ops.size → listed.getD j false = true → (Rs.getD j MP.any).p (f j) w) → Region.ready .any ops listed = [] → Q .normal (putL ops listed f a ops.size) w := by
  intro listed f w hs hB hR hr
  have hall := all_listed hb hs hr ops.size (Nat.le_refl _)
  rw [putL_all hall ops.size (Nat.le_refl _), hAA]
  exact hend f w hB (fun j hj => hR j hj (hall j hj))
 intro fuel
 induction fuel with
 | zero =>
  intro listed f w hs hc hB hR hf
  have hr : Region.ready .any ops listed = [] := by
   rcases hq : Region.ready .any ops listed with _ | ⟨x, xs⟩
   ·rfl
   ·exfalso
    have hx : x ∈ Region.ready .any ops listed := by rw [hq]; simp
    obtain ⟨h1, z, hz, _⟩ := mem_ready.1 hx
    have hxl : x < ops.size := (Array.getElem?_eq_some_iff.1 hz).1
    have hx2 : x ∈ (List.range ops.size).filter (fun j => !listed.getD j false) := by
     rw [List.mem_filter]
     refine ⟨List.mem_range.2 hxl, ?_⟩
     rw [Array.getD_eq_getD_getElem?, Array.getElem?_eq_getElem (show x < listed.size by omega)] at h1 ⊢
     simp only [Option.getD_some] at h1 ⊢
     rw [h1]
     rfl
    rw [List.length_eq_zero_iff.1 (Nat.le_zero.1 hf)] at hx2
    cases hx2
  exact ⟨hr, done listed f w hs hB hR hr⟩
 | succ fuel ih =>
  intro listed f w hs hc hB hR hf
  refine ⟨done listed f w hs hB hR, fun i hi => ?_⟩
  obtain ⟨h1, o, ho, hall⟩ := mem_ready.1 hi
  have hil : i < ops.size := (Array.getElem?_eq_some_iff.1 ho).1
  have hneed : ∀ j, (needsOf .any ops i).contains j = true → listed.getD j false = true := by
   intro j hj
   refine needs_listed hc hs ops.size (depsOf .any ops i) (fun k hk2 => ?_) j (by simpa [needsOf] using hj)
   unfold depsOf at hk2
   rw [ho] at hk2
   simp only [List.mem_map, List.mem_filter, Array.mem_toList_iff] at hk2
   obtain ⟨e, ⟨he, hbd⟩, rfl⟩ := hk2
   exact hall e he hbd
  refine wpOp_mono (fun a' w' => ?_) (mono_step ho hAA hd hk hsel hs h1 hneed hB hR (hst i (List.mem_range.2 hil) o ho) (fun j => hnlt i j hil))
  rintro ⟨f', rfl, hB', hR'⟩
  refine ih (listed.setIfInBounds i true) f' w' (by simp [hs]) (fun j x hx hj e he hbd => ?_) hB' hR' ?_
  ·by_cases e0 : i = j
   ·subst e0
    rw [ho] at hx
    cases hx
    exact getD_set_true (hall e he hbd)
   ·rw [getD_set_ne true e0] at hj
    exact getD_set_true (hc j x hx hj e he hbd)
  ·-- one fewer
   have hlt : ((List.range ops.size).filter (fun j => !(listed.setIfInBounds i true).getD j false)).length < ((List.range ops.size).filter (fun j => !listed.getD j false)).length := by
    have e1 : (List.range ops.size).filter (fun j => !(listed.setIfInBounds i true).getD j false) = ((List.range ops.size).filter (fun j => !listed.getD j false)).filter (fun j => decide (j ≠ i)) := by
     rw [List.filter_filter]
     refine List.filter_congr (fun j hj => ?_)
     by_cases e : j = i
     ·subst e
      have : (listed.setIfInBounds j true).getD j false = true := by
       rw [Array.getD_eq_getD_getElem?, Array.getElem?_setIfInBounds_self_of_lt (by omega)]
       rfl
      rw [this]
      simp
     ·rw [getD_set_ne false (Ne.symm e)]
      simp [e]
    rw [e1]
    refine List.length_filter_lt_length_iff_exists.2 ⟨i, ?_, by simp⟩
    rw [List.mem_filter]
    refine ⟨List.mem_range.2 hil, ?_⟩
    rw [Array.getD_eq_getD_getElem?, Array.getElem?_eq_getElem (show i < listed.size by omega)] at h1 ⊢
    simp only [Option.getD_some] at h1 ⊢
    rw [h1]
    rfl
   omega
set_option maxRecDepth 100000 in
theorem wp_region_mono {id : Nat} {a : Act} {w : World} (hm : P.follows .mixedOrders = true) (hb : edgesBack .any ops = true) (hd : dstsApart ops = true) (hk : looksBack .any ops = true) (hsel : Region.noSelect ops = true)
  (hnl : ((List.range ops.size).all fun i => (needsOf .any ops i).all fun j => decide (j < ops.size)) = true) (Rs : List MP) (hAA : ∀ f, putA ops f a ops.size = AA f)
  (hst : Steps P ops Rs w.drew AA (List.range ops.size)) (hend : ∀ f w', Below w.drew.heap.size w.drew w' → (∀ j, j < ops.size → (Rs.getD j MP.any).p (f j) w') → Q .normal (AA f) w') : (Code.region id ops true).wp P Q a w := by
 refine wp_region_any hm ?_
 have hl0 : ∀ k, k < ops.size → (Array.replicate ops.size false).getD k false = false := fun k hk => by
  rw [Array.getD_eq_getD_getElem?, Array.getElem?_eq_getElem (by simpa using hk)]
  simp
 have h := wpAny_mono (Q := Q) hb hAA hd hk hsel hst hend (fun i j hi hj => by
  rw [List.all_eq_true] at hnl
  have h1 := hnl i (List.mem_range.2 hi)
  rw [List.all_eq_true] at h1
  simpa using h1 j (by simpa using hj)) ops.size (Array.replicate ops.size false) (fun _ => undef) w.drew (by simp) (fun j x hx hj => by
  have hlt := (Array.getElem?_eq_some_iff.1 hx).1
  rw [Array.getD_eq_getD_getElem?, Array.getElem?_eq_getElem (by simpa using hlt)] at hj
  simp at hj) ⟨rfl, rfl, rfl, Nat.le_refl _, fun _ _ => rfl⟩ (fun j hj h => by rw [hl0 j hj] at h; cases h) (by
  refine Nat.le_trans (List.length_filter_le _ _) ?_
  simp)
 rw [putL_none hl0 ops.size (Nat.le_refl _)] at h
 exact h
end
set_option maxRecDepth 100000 in
theorem bel_drew {w w2 : World} (h : Below w.drew.heap.size w.drew w2) : Below w.heap.size w w2 := ⟨h.os, h.tape, h.output, h.size, h.block⟩
end Go.Proofs.YtnkeclpgpiogoaaGreat

/-! Mpb -/
namespace Go.Proofs.YtnkeclpgpiogoaaGreat
open Go Go.RowKit
def VN (w : World) (v : Value) (n : Nat) (l : List UInt8) : Prop := ∃ A c, v = .slice A n c ∧ BR w A n l ∧ n ≤ c ∧ c ≤ maxLen
set_option maxRecDepth 100000 in
theorem VN.below {w w' : World} {v : Value} {n : Nat} {l : List UInt8} (h : VN w v n l) (hb : Below w.heap.size w w') : VN w' v n l := by
 obtain ⟨A, c, e, h1, h2⟩ := h
 exact ⟨A, c, e, h1.below hb, h2⟩
def PV (w : World) (v : Value) (a : Int) (n : Nat) (l : List UInt8) : Prop := ∃ u, v = .agg #[.int .i64 a, u] ∧ VN w u n l
set_option maxRecDepth 100000 in
theorem PV.below {w w' : World} {v : Value} {a : Int} {n : Nat} {l : List UInt8} (h : PV w v a n l) (hb : Below w.heap.size w w') : PV w' v a n l := by
 obtain ⟨u, e, h1⟩ := h
 exact ⟨u, e, h1.below hb⟩
def PN (w : World) (v : Value) (n : Nat) (ps : List Pc) : Prop := ∃ A c, v = .slice A n c ∧ PR w A n ps ∧ n ≤ c ∧ c ≤ maxLen
set_option maxRecDepth 100000 in
theorem PN.below {w w' : World} {v : Value} {n : Nat} {ps : List Pc} (h : PN w v n ps) (hb : Below w.heap.size w w') : PN w' v n ps := by
 obtain ⟨A, c, e, h1, h2⟩ := h
 exact ⟨A, c, e, h1.below hb, h2⟩
end Go.Proofs.YtnkeclpgpiogoaaGreat

/-! RdA -/
namespace Go.Proofs.YtnkeclpgpiogoaaGreat
open Go.RowKit
def RB (w : World) (rb : Nat) (A : Option Addr) (n c : Nat) (a : Nat) (bad : Bool) : Prop :=
 w.heap[rb]? = some (.cells #[.slice A n c, .int .i64 (a : Int), .bool bad] 243 (0, 0))
section
variable {w w' : World} {rb : Nat} {A : Option Addr} {n c a : Nat} {bad : Bool}
set_option maxRecDepth 100000 in
theorem RB.lt (h : RB w rb A n c a bad) : rb < w.heap.size := (Array.getElem?_eq_some_iff.1 h).1
set_option maxRecDepth 100000 in
theorem RB.c0 (h : RB w rb A n c a bad) : w.cell? ⟨rb, 0, none⟩ = some (.slice A n c) := by rw [cell_of_row w rb 0 _ _ _ h]; rfl
set_option maxRecDepth 100000 in
theorem RB.c1 (h : RB w rb A n c a bad) : w.cell? ⟨rb, 1, none⟩ = some (.int .i64 (a : Int)) := by rw [cell_of_row w rb 1 _ _ _ h]; rfl
set_option maxRecDepth 100000 in
theorem RB.c2 (h : RB w rb A n c a bad) : w.cell? ⟨rb, 2, none⟩ = some (.bool bad) := by rw [cell_of_row w rb 2 _ _ _ h]; rfl
set_option maxRecDepth 100000 in
theorem RB.frozen (h : RB w rb A n c a bad) (j : Nat) : w.frozen? ⟨rb, j, none⟩ = false := by unfold RB at h; simp [World.frozen?, h]
set_option maxRecDepth 100000 in
theorem RB.s1 (h : RB w rb A n c a bad) (x : Nat) : RB (w.setCell ⟨rb, 1, none⟩ (.int .i64 (x : Int))) rb A n c x bad := by
 unfold RB at h ⊢
 simp only [World.setCell, Array.getElem?_modify, if_pos, h]
 rfl
set_option maxRecDepth 100000 in
theorem RB.s2 (h : RB w rb A n c a bad) (b : Bool) : RB (w.setCell ⟨rb, 2, none⟩ (.bool b)) rb A n c a b := by
 unfold RB at h ⊢
 simp only [World.setCell, Array.getElem?_modify, if_pos, h]
 rfl
set_option maxRecDepth 100000 in
theorem RB.below (h : RB w rb A n c a bad) (hb : Below w.heap.size w w') : RB w' rb A n c a bad := (hb.block rb h.lt).trans h
set_option maxRecDepth 100000 in
theorem RB.off {S : Nat → Prop} (h : RB w rb A n c a bad) (ho : Off S w w') (hs : ¬ S rb) : RB w' rb A n c a bad := (ho.block rb h.lt hs).trans h
end
section
variable {w : World} {rb : Nat} {A : Option Addr} {n c a : Nat} {bad : Bool}
set_option maxRecDepth 100000 in
theorem RB.s1i (h : RB w rb A n c a bad) {v : Int} {x : Nat} (hv : v = (x : Int)) : RB (w.setCell ⟨rb, 1, none⟩ (.int .i64 v)) rb A n c x bad := by
 subst hv
 exact h.s1 x
set_option maxRecDepth 100000 in
theorem RB.drewN (h : RB w rb A n c a bad) (k : Nat) : RB (w.drewN k) rb A n c a bad := h
end
def RSt (w : World) (rb : Nat) (A : Option Addr) (n c : Nat) (s : Option Nat) : Prop := ∃ a, a ≤ n ∧ RB w rb A n c a s.isNone ∧ ∀ x, s = some x → x = a
set_option maxRecDepth 100000 in
theorem RSt.some_ {w : World} {rb : Nat} {A : Option Addr} {n c a : Nat} (h : RB w rb A n c a false) (ha : a ≤ n) : RSt w rb A n c (some a) := ⟨a, ha, h, fun x e => by injection e with e; exact e.symm⟩
set_option maxRecDepth 100000 in
theorem RSt.none_ {w : World} {rb : Nat} {A : Option Addr} {n c a : Nat} (h : RB w rb A n c a true) (ha : a ≤ n) : RSt w rb A n c none := ⟨a, ha, h, fun x e => by cases e⟩
set_option maxRecDepth 100000 in
theorem RSt.below {w w' : World} {rb : Nat} {A : Option Addr} {n c : Nat} {s : Option Nat} (h : RSt w rb A n c s) (hb : Below w.heap.size w w') : RSt w' rb A n c s := by
 obtain ⟨a, h1, h2, h3⟩ := h
 exact ⟨a, h1, h2.below hb, h3⟩
set_option maxRecDepth 100000 in
theorem RSt.off {w w' : World} {rb : Nat} {A : Option Addr} {n c : Nat} {s : Option Nat} {S : Nat → Prop} (h : RSt w rb A n c s) (ho : Off S w w') (hs : ¬ S rb) : RSt w' rb A n c s := by
 obtain ⟨a, h1, h2, h3⟩ := h
 exact ⟨a, h1, h2.off ho hs, h3⟩
set_option maxRecDepth 100000 in
theorem RSt.lt {w : World} {rb : Nat} {A : Option Addr} {n c : Nat} {s : Option Nat} (h : RSt w rb A n c s) : rb < w.heap.size := by
 obtain ⟨a, h1, h2, h3⟩ := h
 exact h2.lt
set_option maxRecDepth 100000 in
theorem next_fits (w : World) (rb : Nat) (A : Option Addr) (n c a k : Nat) (h : RB w rb A n c a false) (hf : a + k ≤ n) (hn : n ≤ 9223372036854775807) :
  Calls Tryz.prog 194 #[.pointer (some ⟨rb, 0, none⟩), .int .i64 (k : Int)] w fun e w' => e = .returned (.tuple #[.int .i64 (a : Int), .bool true]) ∧ RB w' rb A n c (a + k) false ∧ Off (· = rb) w w' := by
 have k0 := h.c0
 have k1 := h.c1
 have k2 := h.c2
 have z1 := h.frozen 1
 have b1 : (0 : Int) ≤ (a : Int) := Int.natCast_nonneg _
 have b2 : (a : Int) ≤ 9223372036854775807 := by omega
 have b3 : (n : Int) ≤ 9223372036854775807 := by omega
 have b4 : (0 : Int) ≤ (k : Int) := Int.natCast_nonneg _
 have b5 : (a : Int) + (k : Int) ≤ 9223372036854775807 := by omega
 have b6 : (0 : Int) ≤ (n : Int) := Int.natCast_nonneg _
 have t1 : decide ((n : Int) - (a : Int) < (k : Int)) = false := by simp; omega
 have HR := Lib.hid h
 clear h
 go_enter Tryz.func194, Tryz.ntmps194
 go_wp2_with fail
 go_quiet (fail)
 go_wp2_with fail
 go_ret2
 exact ⟨rfl, (HR.out.drewN nq).s1i (by omega), ((Off.refl (· = rb) w).drewN nq).setCell _ rfl⟩
set_option maxRecDepth 100000 in
theorem next_short (w : World) (rb : Nat) (A : Option Addr) (n c a k : Nat) (h : RB w rb A n c a false) (ha : a ≤ n) (hf : n < a + k) (hn : n ≤ 9223372036854775807) :
  Calls Tryz.prog 194 #[.pointer (some ⟨rb, 0, none⟩), .int .i64 (k : Int)] w fun e w' => e = .returned (.tuple #[.int .i64 0, .bool false]) ∧ RB w' rb A n c a true ∧ Off (· = rb) w w' := by
 have k0 := h.c0
 have k1 := h.c1
 have k2 := h.c2
 have z1 := h.frozen 2
 have b1 : (0 : Int) ≤ (a : Int) := Int.natCast_nonneg _
 have b2 : (a : Int) ≤ 9223372036854775807 := by omega
 have b3 : (n : Int) ≤ 9223372036854775807 := by omega
 have b6 : (0 : Int) ≤ (n : Int) := Int.natCast_nonneg _
 have t1 : decide ((n : Int) - (a : Int) < (k : Int)) = true := by simp; omega
 have HR := Lib.hid h
 clear h
 go_enter Tryz.func194, Tryz.ntmps194
 go_wp2_with fail
 go_quiet (fail)
 go_wp2_with fail
 go_ret2
 exact ⟨rfl, (HR.out.drewN nq).s2 true, ((Off.refl (· = rb) w).drewN nq).setCell _ rfl⟩
set_option maxRecDepth 100000 in
theorem next_bad (w : World) (rb : Nat) (A : Option Addr) (n c a : Nat) (v : Value) (h : RB w rb A n c a true) :
  Calls Tryz.prog 194 #[.pointer (some ⟨rb, 0, none⟩), v] w fun e w' => e = .returned (.tuple #[.int .i64 0, .bool false]) ∧ RB w' rb A n c a true ∧ Off (· = rb) w w' := by
 have k0 := h.c0
 have k1 := h.c1
 have k2 := h.c2
 have z1 := h.frozen 2
 have HR := Lib.hid h
 clear h
 go_enter Tryz.func194, Tryz.ntmps194
 go_wp2_with fail
 go_quiet (fail)
 go_wp2_with fail
 go_ret2
 exact ⟨rfl, (HR.out.drewN nq).s2 true, ((Off.refl (· = rb) w).drewN nq).setCell _ rfl⟩
def pNext (n k : Nat) : Option Nat → Option Nat
 | none => none
 | some a => if a + k ≤ n then some a else none
set_option maxRecDepth 100000 in
theorem next_no (w : World) (rb : Nat) (A : Option Addr) (n c k : Nat) (s : Option Nat) (h : RSt w rb A n c s) (hp : pNext n k s = none) (hn : n ≤ 9223372036854775807) :
  Calls Tryz.prog 194 #[.pointer (some ⟨rb, 0, none⟩), .int .i64 (k : Int)] w fun e w' => e = .returned (.tuple #[.int .i64 0, .bool false]) ∧ RSt w' rb A n c none ∧ Off (· = rb) w w' := by
 obtain ⟨a, ha, hr, hx⟩ := h
 cases s with
 | none =>
  refine (next_bad w rb A n c a _ hr).mono ?_
  rintro e w' ⟨rfl, h1, h2⟩
  exact ⟨rfl, RSt.none_ h1 ha, h2⟩
 | some x =>
  obtain rfl := hx x rfl
  unfold pNext at hp
  simp only at hp
  split at hp
  ·cases hp
  ·refine (next_short w rb A n c x k hr ha (by omega) hn).mono ?_
   rintro e w' ⟨rfl, h1, h2⟩
   exact ⟨rfl, RSt.none_ h1 ha, h2⟩
set_option maxRecDepth 100000 in
set_option maxHeartbeats 400000 in
theorem one_any (w : World) (rb : Nat) (A : Option Addr) (n c : Nat) (b : List UInt8) (s : Option Nat) (h : RSt w rb A n c s) (hb : BR w A n b) (hA : ∀ ad, A = some ad → 0 < n → ad.block ≠ rb) (hn : n ≤ 9223372036854775807) :
  Calls Tryz.prog 176 #[.pointer (some ⟨rb, 0, none⟩)] w fun e w' => e = .returned (.int .i64 ((pNum b 1 s).1 : Int)) ∧ RSt w' rb A n c (pNum b 1 s).2 ∧ Off (· = rb) w w' := by
 have HL := Lib.hid hb.len
 rcases hp : pNext n 1 s with _ | x
 ·have e1 : pNum b 1 s = (0, none) := by
   cases s with
   | none => rfl
   | some a =>
    unfold pNext at hp
    simp only at hp
    unfold pNum
    simp only
    rw [HL.out]
    split at hp
    ·cases hp
    ·rename_i hh
     rw [if_neg hh]
  rw [e1]
  have HX := Lib.hid (next_no w rb A n c 1 s h hp hn)
  clear hp e1 h
  go_enter Tryz.func176, Tryz.ntmps176
  go_wp2_with fail
  refine HX.out.mono ?_
  rintro e w1 ⟨rfl, h1, h2⟩
  go_wp2_with fail
  go_ret
  exact ⟨rfl, h1, h2⟩
 ·obtain ⟨a, ha, hr, hx⟩ := h
  obtain ⟨rfl, hf⟩ : s = some x ∧ x + 1 ≤ n := by
   cases s with
   | none => cases hp
   | some a' =>
    unfold pNext at hp
    simp only at hp
    split at hp
    ·rename_i hh
     injection hp with hp
     subst hp
     exact ⟨rfl, hh⟩
    ·cases hp
  obtain rfl := hx x rfl
  have e1 : pNum b 1 (some x) = (leN ((b.drop x).take 1), some (x + 1)) := by
   unfold pNum
   simp only
   rw [if_pos (by rw [HL.out]; exact hf)]
  rw [e1]
  have HX := Lib.hid (next_fits w rb A n c x 1 hr hf hn)
  have HB := Lib.hid hb
  obtain ⟨g, o, rfl, kc⟩ := hb.at_ (k := x) (by omega)
  have hne := hA _ rfl (by omega)
  obtain ⟨v, hv, hv2⟩ : ∃ v : Nat, (b.getD x 0).toNat = v ∧ v < 256 := ⟨_, rfl, (b.getD x 0).toNat_lt⟩
  rw [hv] at kc
  have HK : Hid (∀ w', Off (· = rb) w w' → w'.cell? ⟨g, o + x, none⟩ = some (.int .u8 (v : Int))) := Lib.hid (fun w' ho => by
   have : g < w.heap.size := World.block_lt_of_cell? w _ kc
   rw [World.cell?_of_block (ho.block g this (fun e => hne (by simpa using e)))]
   exact kc)
  have E2 : Hid (leN ((b.drop x).take 1) = v) := Lib.hid (by
   rw [drop_head b x (by rw [HL.out]; omega)]
   simp [leN]
   exact hv)
  have b1 : (0 : Int) ≤ (x : Int) := Int.natCast_nonneg _
  have b2 : (x : Int) < (n : Int) := by omega
  have b3 : (0 : Int) ≤ (v : Int) := Int.natCast_nonneg _
  have b4 : (v : Int) ≤ 255 := by omega
  clear hp e1 kc hr hb hA hx hv hv2
  go_enter Tryz.func176, Tryz.ntmps176
  go_wp2_with fail
  refine HX.out.mono ?_
  rintro e w1 ⟨rfl, h1, h2⟩
  have q0 := h1.c0
  have q1 := HK.out w1 h2
  have HR := Lib.hid h1
  clear h1
  go_wp2_with fail
  go_ret
  exact ⟨ret_i (by rw [E2.out]), RSt.some_ HR.out hf, h2⟩
end Go.Proofs.YtnkeclpgpiogoaaGreat
