/-
  Texts of this claim, joined: DkI, DkJ, Apt, DkK, ApO, DkM, DkN, DkL, Pc, RecA, RcP, RefA, Reg, Rgm, Mpb, RdA, RdB, RdC, RdD, RdE. No statement of the program is proved here.
-/
import Derived.Test.YtnkeclpgpiogoaaPkA1
import Derived.Laws.EntriesVeiled
import Derived.Shelf.Abstract
import Derived.Stop.RegionWithIn
import Derived.RangeFuncBox
import Derived.RangeFuncNested
/-! DkI -/
namespace Go.Proofs.Ytnkeclpgpiogoaa
open Go.RowKit Go.Shelf
attribute [local go_sem] Oper.semAt_some
def lastL (bs : List (List UInt8)) (ps : List (Nat × List UInt8)) (b : Nat) : List UInt8 := ps.foldl (fun l p => if p.1 = b then p.2 else l) (bs.getD b [])
def readE (D : DiskS) (b : Int) : Int := if askE D b ≠ 0 then askE D b else if D.down then 6 else 0
def readL (D : DiskS) (b : Int) : List UInt8 := if readE D b ≠ 0 then [] else lastL D.blocks D.pending b.toNat
theorem lastL_none {bs : List (List UInt8)} {ps : List (Nat × List UInt8)} {b : Nat} (h : ∀ p ∈ ps, p.1 ≠ b) : lastL bs ps b = bs.getD b [] := by
 unfold lastL
 generalize bs.getD b [] = l
 induction ps generalizing l with
 | nil => rfl
 | cons p ps ih =>
  rw [List.foldl_cons, if_neg (h p (List.mem_cons_self ..))]
  exact ih (fun q hq => h q (List.mem_cons_of_mem _ hq)) l
theorem lastL_at {bs : List (List UInt8)} {ps : List (Nat × List UInt8)} {b i : Nat} {p : Nat × List UInt8} (hi : ps[i]? = some p) (hp : p.1 = b) (h : ∀ j q, i < j → ps[j]? = some q → q.1 ≠ b) : lastL bs ps b = p.2 := by
 obtain ⟨hl, e⟩ := List.getElem?_eq_some_iff.1 hi
 have hs : ps = ps.take i ++ p :: ps.drop (i + 1) := by rw [← e, ← List.drop_eq_getElem_cons hl, List.take_append_drop]
 unfold lastL
 rw [hs, List.foldl_append, List.foldl_cons, if_pos hp]
 have := lastL_none (bs := [p.2]) (b := 0) (ps := (ps.drop (i + 1)).map fun q => (if q.1 = b then 0 else 1, q.2)) (fun q hq => by
  obtain ⟨r, hr, rfl⟩ := List.mem_map.1 hq
  obtain ⟨j, hj, rfl⟩ := List.getElem_of_mem hr
  have := h (i + 1 + j) _ (by omega) (by rw [← List.getElem?_drop]; exact List.getElem?_eq_getElem hj)
  dsimp only
  rw [if_neg this]
  omega)
 unfold lastL at this
 rw [List.foldl_map] at this
 have e2 : ∀ (l : List UInt8) (q : Nat × List UInt8), (if (if q.1 = b then 0 else 1) = 0 then q.2 else l) = if q.1 = b then q.2 else l := by
  intro l q
  by_cases hq : q.1 = b <;> simp [hq]
 simp only [e2] at this
 exact this
set_option maxRecDepth 100000 in
set_option maxHeartbeats 1000000 in
theorem Read_bad (w : World) (ok : Nat → Prop) (base g : Nat) (F : Nat → Prop) (D : DiskS) (b : Int) (h : IsD w ok base g F D) (hr : readE D b ≠ 0) :
  Calls Try.prog 41 #[.pointer (some ⟨g, 0, none⟩), .int .i64 b] w fun e w' => e = .returned (.tuple #[.slice none 0 0, .int .i64 (readE D b)]) ∧ Below w.heap.size w w' := by
 have hb3 : Below w.heap.size w (((w.alloc (.cells #[.int .i64 b] 3)).alloc (.cells #[.slice none 0 0] 37)).alloc (.cells #[.int .i64 0] 27)) := gr_alloc (gr_alloc (gr_alloc (gr_refl w) _) _) _
 have h3 := h.below hb3
 have HA := Lib.hid (asked_any _ ok base g F D b h3)
 by_cases h0 : askE D b = 0
 ·have hE : readE D b = 6 ∧ D.down = true := by
   unfold readE at hr ⊢
   rw [if_neg (by rw [h0]; simp)] at hr ⊢
   cases hd : D.down with
   | true => simp
   | false => rw [hd] at hr; simp at hr
  rw [h0] at HA
  rw [hE.1]
  obtain ⟨dr, dc, pv, dvs, pvs, hd, hF⟩ := h3
  have c3 := hd.db.c3
  rw [hE.2] at c3
  clear hd hF h hr h0 hE
  go_enter Try.func41, Try.ntmps41
  go_wp2_with fail
  refine HA.out.mono ?_
  rintro e w' ⟨rfl, rfl⟩
  go_wp2_with fail
  exact bodyPost_ret (v := .tuple #[.slice none 0 0, .int .i64 6]) (by simp [results, Try.results41, go_sem]) rfl ⟨rfl, gr_alloc (gr_alloc (gr_alloc (gr_refl w) _) _) _⟩
 ·have hE : readE D b = askE D b := by unfold readE; rw [if_pos h0]
  rw [hE]
  have t1 : (askE D b != 0) = true := by rw [bne_iff_ne]; exact h0
  clear h3 hr hE h0
  generalize askE D b = ae at *
  go_enter Try.func41, Try.ntmps41
  go_wp2_with fail
  refine HA.out.mono ?_
  rintro e w' ⟨rfl, rfl⟩
  go_wp2_with fail
  exact bodyPost_ret (v := .tuple #[.slice none 0 0, .int .i64 ae]) (by simp [results, Try.results41, go_sem]) rfl ⟨rfl, gr_alloc (gr_alloc (gr_alloc (gr_refl w) _) _) _⟩
theorem keepsO {w w' : World} (h : Below w.heap.size w w') : KeepsOthers w w' := ⟨h.size, fun k _ hk _ => (h.block k (Array.getElem?_eq_some_iff.1 hk).1).trans hk⟩
def noW (ps : List (Nat × List UInt8)) (b np k : Nat) : Prop := ∀ j p, np - k ≤ j → ps[j]? = some p → p.1 ≠ b
structure RI (n₀ : Nat) (w : World) (b : Nat) (v4 : Value) (Av : Value) (W : World) : Prop where
 b3 : Boxed W n₀ 3 (.int .i64 (b : Int))
 b4 : Boxed W (n₀ + 1) 37 v4
 b5 : Boxed W (n₀ + 1 + 1) 27 (.int .i64 0)
 bb : Boxed W (n₀ + 1 + 1 + 1) 107 Av
 below : Below n₀ w W
theorem RI.ck {n₀ : Nat} {w : World} {b : Nat} {v4 Av : Value} {W W' : World} {row : Option Nat} (h : RI n₀ w b v4 Av W) (hg : W.grownBy W' row) (hr : ∀ r, row = some r → ∃ o : Obj, W.heap[r]? = some o ∧ o.isCells = false) (hb : Below n₀ w W') : RI n₀ w b v4 Av W' := by
 have hk : ∀ {k : Nat} {t : TypeId} {v : Value}, Boxed W k t v → Boxed W' k t v := fun {k t v} hB => hB.kept hg (fun e => by
  obtain ⟨o, ho, hc⟩ := hr k e.symm
  rw [show W.heap[k]? = _ from hB] at ho
  cases ho
  cases hc)
 exact ⟨hk h.b3, hk h.b4, hk h.b5, hk h.bb, hb⟩
def onlyN (K : Act → World → Prop) : Exit → Act → World → Prop
 | .normal, a, w => K a w
 | _, _, _ => False
theorem wpIn_onlyN {F : Fence} {n : Nat} {P : Program} {c : Code} {K : Act → World → Prop} {Q' : Exit → Act → World → Prop} {a : Act} {w : World} (h : c.wpIn F n P (onlyN K) a w) : c.wpIn F n P (Exit.then K Q') a w :=
 wpIn_mono h (fun e a w hp => by cases e <;> first | exact hp | exact hp.elim)
theorem RI.drawn {n₀ : Nat} {w : World} {b : Nat} {v4 Av : Value} {W : World} (h : RI n₀ w b v4 Av W) : RI n₀ w b v4 Av W.drew := ⟨h.b3, h.b4, h.b5, h.bb, ⟨h.below.os, h.below.tape, h.below.output, h.below.size, h.below.block⟩⟩
theorem RI.laid {n₀ : Nat} {w : World} {b : Nat} {v4 Av : Value} {W W1 : World} (h : RI n₀ w b v4 Av W) (hb1 : Below W.heap.size W W1) (x : Value) :
  W1.cell? ⟨n₀ + 1, 0, none⟩ = some v4 ∧ W1.frozen? ⟨n₀ + 1, 0, none⟩ = false ∧ (W1.setCell ⟨n₀ + 1, 0, none⟩ x).cell? ⟨n₀ + 1 + 1, 0, none⟩ = some (.int .i64 0) ∧ (W1.setCell ⟨n₀ + 1, 0, none⟩ x).frozen? ⟨n₀ + 1 + 1, 0, none⟩ = false ∧
  (n₀ ≤ W.heap.size → RI n₀ w b x Av ((W1.setCell ⟨n₀ + 1, 0, none⟩ x).setCell ⟨n₀ + 1 + 1, 0, none⟩ (.int .i64 0))) := by
 have kp : ∀ {k : Nat} {t : TypeId} {v : Value}, Boxed W k t v → Boxed W1 k t v := fun {k t v} hB => Boxed.kept hB (row := none) ⟨hb1.os, hb1.tape, hb1.output, hb1.size, fun k hk _ => hb1.block k hk⟩ (by simp)
 have b3 := kp h.b3
 have b4 := kp h.b4
 have b5 := kp h.b5
 have bb := kp h.bb
 have g4 := grownBy_setCell' W1 (n₀ + 1) x
 have g5 := grownBy_setCell' (W1.setCell ⟨n₀ + 1, 0, none⟩ x) (n₀ + 1 + 1) (.int .i64 0)
 have c5 := b5.kept g4 (by simp)
 refine ⟨b4.cell, b4.frozen, c5.cell, c5.frozen, fun hle => ⟨?_, ?_, ?_, ?_, ?_⟩⟩
 ·exact (b3.kept g4 (by simp; try omega)).kept g5 (by simp; try omega)
 ·exact (b4.set _).kept g5 (by simp; try omega)
 ·exact c5.set _
 ·exact (bb.kept g4 (by simp; try omega)).kept g5 (by simp; try omega)
 ·exact ((h.below.trans (hb1.mono hle)).setCell (p := ⟨n₀ + 1, 0, none⟩) (by dsimp only; omega) _).setCell (p := ⟨n₀ + 1 + 1, 0, none⟩) (by dsimp only; omega) _
set_option maxRecDepth 100000 in
set_option maxHeartbeats 2000000 in
theorem Read_good (w : World) (ok : Nat → Prop) (base g : Nat) (F : Nat → Prop) (D : DiskS) (b : Nat) (h : IsD w ok base g F D) (hb : b < D.blocks.length) (hdn : D.down = false) (hpl : D.pending.length ≤ 1000000) :
  Calls Try.prog 41 #[.pointer (some ⟨g, 0, none⟩), .int .i64 (b : Int)] w fun e w' => ∃ v, e = .returned (.tuple #[v, .int .i64 0]) ∧ OB w' w.heap.size v (lastL D.blocks D.pending b) ∧ Below w.heap.size w w' := by
 have h0 : askE D (b : Int) = 0 := by unfold askE; rw [if_neg (by omega)]
 have hb3 : Below w.heap.size w (((w.alloc (.cells #[.int .i64 (b : Int)] 3)).alloc (.cells #[.slice none 0 0] 37)).alloc (.cells #[.int .i64 0] 27)) := gr_alloc (gr_alloc (gr_alloc (gr_refl w) _) _) _
 have h3 := h.below hb3
 have HA := Lib.hid (asked_any _ ok base g F D (b : Int) h3)
 rw [h0] at HA
 obtain ⟨dr, dc, pv, dvs, pvs, hdw, hF⟩ := h
 have hd := hdw.below hb3
 have c3 := hd.db.c3
 have c2 := hd.db.c2
 rw [hdn] at c3
 obtain ⟨Ap, cp, rfl, _, _⟩ := own_form hd.pen
 refine (callsIn_wide (n := 9)).1 ?_
 refine callsIn_of_wp_marks Try.func41 rfl trivial ?_ rfl
 simp only [Try.ntmps41, List.size_toArray, List.length_cons, List.length_nil, Nat.reduceAdd, Nat.reduceSub, Array.replicate_succ, Array.replicate_zero, List.push_toArray, List.append_toArray, List.nil_append, List.cons_append]
 gi_wp2_with fail
 refine ⟨trivial, ?_⟩
 refine (callsIn_wide.2 HA.out).mono ?_
 rintro e w' ⟨rfl, rfl⟩
 gi_wp2_with fail
 refine ⟨trivial, ?_⟩
 refine (callsIn_wide.2 (Backward_any Ap _ cp _)).mono ?_
 rintro e w' ⟨rfl, rfl⟩
 gi_wp2_with fail
 have hRI : RI w.heap.size w b (.slice none 0 0) (.slice Ap D.pending.length cp) ((((w.alloc (.cells #[.int .i64 (b : Int)] 3)).alloc (.cells #[.slice none 0 0] 37)).alloc (.cells #[.int .i64 0] 27)).alloc (.cells #[.slice Ap D.pending.length cp] 107)) := by
  have hnew : ∀ (W : World) (t : TypeId) (v : Value) (k : Nat), W.heap.size = k → Boxed (W.alloc (.cells #[v] t)) k t v := fun W t v k e => e ▸ Boxed.new W t v
  exact ⟨(((hnew _ _ _ _ rfl).alloc _).alloc _).alloc _, ((hnew _ _ _ _ (by simp)).alloc _).alloc _, (hnew _ _ _ _ (by simp)).alloc _, hnew _ _ _ _ (by simp), gr_alloc hb3 _⟩
 have hd4 := hd.below (gr_alloc (gr_refl _) (.cells #[.slice Ap D.pending.length cp] 107))
 have hsz : ((((w.alloc (.cells #[.int .i64 (b : Int)] 3)).alloc (.cells #[.slice none 0 0] 37)).alloc (.cells #[.int .i64 0] 27)).alloc (.cells #[.slice Ap D.pending.length cp] 107)).heap.size = w.heap.size + 4 := by simp
 generalize ((((w.alloc (.cells #[.int .i64 (b : Int)] 3)).alloc (.cells #[.slice none 0 0] 37)).alloc (.cells #[.int .i64 0] 27)).alloc (.cells #[.slice Ap D.pending.length cp] 107)) = W0 at *
 generalize hn₀ : w.heap.size = n₀ at *
 have HN := Lib.hid hn₀
 have HZ := Lib.hid hsz
 generalize hnp : D.pending.length = np at *
 have HNP := Lib.hid hnp
 clear hn₀ hsz hnp c2 c3 HA h0 hb3 hd
 have hle : n₀ ≤ W0.heap.size := by have := HZ.out; omega
 have HDW := Lib.hid hdw
 have HPW : Hid (∀ k, k < np → ∃ p q : _ × _, D.pending[np - 1 - k]? = some p ∧ pvs.getD (np - 1 - k) (0, .slice none 0 0) = ((p.1 : Int), q.2) ∧ BW ok w q.2 p.2) := Lib.hid (fun k hk => by
  have hi : np - 1 - k < D.pending.length := by rw [HNP.out]; omega
  have hil : np - 1 - k < pvs.length := by rw [hdw.pl]; exact hi
  obtain ⟨a1, a2, a3⟩ := hdw.pw _ _ _ (List.getElem?_eq_getElem hil) (List.getElem?_eq_getElem hi)
  refine ⟨D.pending[np - 1 - k], pvs[np - 1 - k], List.getElem?_eq_getElem hi, ?_, a3⟩
  rw [List.getD, List.getElem?_eq_getElem hil]
  show pvs[np - 1 - k] = _
  rw [← a1])
 refine rangeFunc_stops rfl (by omega) (gf := 64) (lb := #[.pointer (some ⟨n₀ + 1 + 1 + 1, 0, none⟩)]) rfl trivial (enters_of Try.func64 (by kernel_rfl) rfl)
  (encs := backV pvs) (backL np) (Kp := Kp1 n₀ (n₀ + 1 + 1 + 1)) Kp1.trans ?put ?seq (fun _ => rfl)
  (fun k W => RI n₀ w b (.slice none 0 0) (.slice Ap np cp) W ∧ noW D.pending b np k) ?own (fun W => ∃ v, RI n₀ w b v (.slice Ap np cp) W ∧ OB W n₀ v (lastL D.blocks D.pending b)) ?ownx ⟨hRI, fun j p hj hp => by
   have := (List.getElem?_eq_some_iff.1 hp).1
   rw [HNP.out] at this
   omega⟩
  (fun k a' W => ∃ Bx, n₀ + 3 < Bx ∧ W.heap[Bx]? = some (.cells #[.int .i64 (pvs.getD (np - 1 - k) (0, .slice none 0 0)).1, (pvs.getD (np - 1 - k) (0, .slice none 0 0)).2] 123 (0, 0)) ∧ a' = { tmps := #[.pointer (some ⟨g, 0, none⟩), .int .i64 (b : Int), undef, .pointer (some ⟨n₀, 0, none⟩), .pointer (some ⟨n₀ + 1, 0, none⟩), .pointer (some ⟨n₀ + 1 + 1, 0, none⟩), .int .i64 0, undef, .pointer (some ⟨Bx, 0, none⟩), .pointer (some ⟨g, 0, none⟩), .int .i64 (b : Int), .int .i64 0, .int .i64 0, .bool false, undef, .pointer (some ⟨g, 0, none⟩),
   .pointer (some ⟨g, 0, none⟩), .pointer (some ⟨g, 3, none⟩), .bool false, .pointer (some ⟨g, 0, none⟩), .pointer (some ⟨g, 0, none⟩), .pointer (some ⟨g, 2, none⟩), .slice Ap np cp, .func (.func 64) #[] #[.pointer (some ⟨n₀ + 1 + 1 + 1, 0, none⟩)],
   .int .i64 (((np - 1 - k : Nat)) : Int), .agg #[.int .i64 (pvs.getD (np - 1 - k) (0, .slice none 0 0)).1, (pvs.getD (np - 1 - k) (0, .slice none 0 0)).2], undef, undef, undef, undef, undef, undef, undef, undef, undef, undef, undef, undef, undef, undef, undef], defers := [] }) ?ownA ?assign ?body ?done ?stop
 case put =>
  intro W l o o' hl ho hc
  have hz := HZ.out
  exact ⟨(Below.refl n₀ W).grown (grownBy_putObj' W l o') (by have := (Array.getElem?_eq_some_iff.1 ho).1; omega) (fun k e => by cases e; omega), fun u e => (World.putObj_heap_other (by omega)).trans e⟩
 case seq =>
  intro l J Jx W hB hJ hJx hY hJ0
  have hz := HN.out
  subst hz
  have hW : Below w.heap.size w W := hRI.below.trans (hB.mono hle)
  rw [backL_len]
  refine back1_in 8 l _ w Ap np cp pvs (by have := hdw.pen; rw [HNP.out] at this; exact own_rd this) (hdw.pl.trans HNP.out) hpl (fun q hq => ?_) J Jx hJ hJx hY W hW ((hB.block _ hRI.bb.lt).trans hRI.bb) hJ0
  obtain ⟨j, hj, rfl⟩ := List.getElem_of_mem hq
  have hj' : j < D.pending.length := by rw [← hdw.pl]; exact hj
  obtain ⟨_, gq, e, _⟩ := (hdw.pw j _ _ (List.getElem?_eq_getElem hj) (List.getElem?_eq_getElem hj')).2.2
  exact ⟨_, _, _, e⟩
 case own =>
  rintro k X Y row ⟨h1, h2⟩ hg hr
  have hz := HN.out
  subst hz
  exact ⟨h1.ck hg (fun r e => (hr r e).2) ((ownFrom_below (Nat.le_refl _) hle : OwnFrom W0.heap.size (fun (_ : Nat) W => Below w.heap.size w W)) k X Y row h1.below hg hr), h2⟩
 case ownx =>
  rintro _ X Y row ⟨v, h1, h2⟩ hg hr
  have hz := HN.out
  subst hz
  refine ⟨v, h1.ck hg (fun r e => (hr r e).2) ((ownFrom_below (Nat.le_refl _) hle : OwnFrom W0.heap.size (fun (_ : Nat) W => Below w.heap.size w W)) 0 X Y row h1.below hg hr), World.ownsRow.kept h2 hg ?_⟩
  rcases h2.2 with ⟨rfl, _⟩ | ⟨q, cap, cur, rfl, _, hq, _⟩
  ·exact .inl rfl
  ·refine .inr fun e => ?_
   obtain ⟨_, o, ho, hc⟩ := hr q (by simpa [Value.ownBlock] using e.symm)
   rw [hq] at ho
   cases ho
   cases hc
 case ownA =>
  rintro a' k X Y row ⟨Bx, h1, h2, h3⟩ hg hr
  refine ⟨Bx, h1, (hg.block Bx (Array.getElem?_eq_some_iff.1 h2).1 (fun e => ?_)).trans h2, h3⟩
  obtain ⟨_, o, ho, hc⟩ := hr Bx e.symm
  rw [h2] at ho
  cases ho
  cases hc
 case assign =>
  intro l k x W K hx hI hK
  have hkn : k < np := by have := (List.getElem?_eq_some_iff.1 hx).1; rwa [backL_len] at this
  rw [backL_at hkn] at hx
  injection hx with hx
  subst hx
  obtain ⟨p, q, e1, e2, _, gq, e3, _⟩ := HPW.out k hkn
  obtain ⟨hI1, hI2⟩ := hI
  have hbl := hI1.bb.lt
  unfold backV
  have HAX := Lib.hid (fun a' => hK a' (W.alloc (.cells #[.int .i64 (pvs.getD (np - 1 - k) (0, .slice none 0 0)).1, (pvs.getD (np - 1 - k) (0, .slice none 0 0)).2] 123)) ((KeepsOthers.alloc _ _).from _) ⟨(Below.refl n₀ W).alloc (by omega) _, fun o h => (Below.heap_alloc W _ _ (Array.getElem?_eq_some_iff.1 h).1).trans h⟩
   ⟨⟨hI1.b3.alloc _, hI1.b4.alloc _, hI1.b5.alloc _, hI1.bb.alloc _, hI1.below.alloc (by omega) _⟩, hI2⟩)
  clear hK
  rw [e2] at HAX ⊢
  dsimp only at HAX ⊢
  rw [e3] at HAX ⊢
  gi_wp2
  refine HAX.out _ ⟨W.heap.size, by omega, heap_alloc_new W _, ?_⟩
  rfl
 case body =>
  rintro l k x a' W hx ⟨hI1, hI2⟩ ⟨Bx, hBx, hcell, rfl⟩
  have hkn : k < np := by have := (List.getElem?_eq_some_iff.1 hx).1; rwa [backL_len] at this
  clear hx
  obtain ⟨⟨p1, p2⟩, q, e1, e2, hbw⟩ := HPW.out k hkn
  dsimp only at e2 hbw
  have hz := HN.out
  subst hz
  have hbw' := hbw.below hI1.below
  obtain ⟨hl2, gq, e3, hBq, _⟩ := hbw'
  rw [e2, e3] at hcell
  dsimp only at hcell
  have k0 : W.cell? ⟨Bx, 0, none⟩ = some (.int .i64 (p1 : Int)) := by rw [cell_of_row W Bx 0 _ _ _ hcell]; rfl
  have k1 : W.cell? ⟨Bx, 1, none⟩ = some (.slice (some ⟨gq, 0, none⟩) 4096 4096) := by rw [cell_of_row W Bx 1 _ _ _ hcell]; rfl
  have k3 := hI1.b3.cell
  by_cases hpb : p1 = b
  ·subst hpb
   have hr := hBq.readsAll
   rw [hl2] at hr
   have HWH := Lib.hid (whole_any _ 4096 4096 p2 W hr (Nat.le_refl _))
   rw [splice_zer p2 hl2] at HWH
   have HLL := Lib.hid (lastL_at (bs := D.blocks) e1 rfl (fun j q' hj hq' => hI2 j q' (by omega) hq'))
   have HI1 := Lib.hid hI1
   have HL2 := Lib.hid hl2
   have hWs := hI1.below.size
   clear hbw e1 e2 e3 hBq hcell hr hI2 hI1 hl2
   gi_wp2_with fail
   refine ⟨trivial, ?_⟩
   refine (CallsIn.inRound l (callsIn_wide.2 HWH.out)).mono ?_
   rintro e W1 ⟨rfl, hB1, hb1⟩
   have b4 := Boxed.kept HI1.out.b4 (row := none) ⟨hb1.os, hb1.tape, hb1.output, hb1.size, fun k hk _ => hb1.block k hk⟩ (by simp)
   have b5 := Boxed.kept HI1.out.b5 (row := none) ⟨hb1.os, hb1.tape, hb1.output, hb1.size, fun k hk _ => hb1.block k hk⟩ (by simp)
   have b3 := Boxed.kept HI1.out.b3 (row := none) ⟨hb1.os, hb1.tape, hb1.output, hb1.size, fun k hk _ => hb1.block k hk⟩ (by simp)
   have bb := Boxed.kept HI1.out.bb (row := none) ⟨hb1.os, hb1.tape, hb1.output, hb1.size, fun k hk _ => hb1.block k hk⟩ (by simp)
   have y4 := b4.cell
   have z4 := b4.frozen
   have y5 := (b5.kept (grownBy_setCell' W1 (w.heap.size + 1) (.slice (some ⟨W.heap.size, 0, none⟩) 4096 4096)) (by simp)).cell
   have z5 := (b5.kept (grownBy_setCell' W1 (w.heap.size + 1) (.slice (some ⟨W.heap.size, 0, none⟩) 4096 4096)) (by simp)).frozen
   clear k0 k1 k3
   gi_wp2_with fail
   have g4 := grownBy_setCell' W1 (w.heap.size + 1) (.slice (some ⟨W.heap.size, 0, none⟩) 4096 4096)
   have g5 := grownBy_setCell' (W1.setCell ⟨w.heap.size + 1, 0, none⟩ (.slice (some ⟨W.heap.size, 0, none⟩) 4096 4096)) (w.heap.size + 1 + 1) (.int .i64 0)
   have hbl := HI1.out.bb.lt
   have hob := hB1.own (base := w.heap.size) hWs (by rw [HL2.out]; simp [maxLen])
   rw [HL2.out] at hob
   refine ⟨(((keepsO hb1).trans (KeepsOthers.setCell _ _ _)).trans (KeepsOthers.setCell _ _ _)).from _, .slice (some ⟨W.heap.size, 0, none⟩) 4096 4096, ⟨?_, ?_, ?_, ?_, ?_⟩, ?_⟩
   ·exact (b3.kept g4 (by simp; try omega)).kept g5 (by simp; try omega)
   ·exact (b4.set _).kept g5 (by simp; try omega)
   ·exact (b5.kept g4 (by simp; try omega)).set _
   ·exact (bb.kept g4 (by simp; try omega)).kept g5 (by simp; try omega)
   ·exact (((HI1.out.below.trans (hb1.mono hWs)).setCell (p := ⟨w.heap.size + 1, 0, none⟩) (by dsimp only; omega) _).setCell (p := ⟨w.heap.size + 1 + 1, 0, none⟩) (by dsimp only; omega) _)
   ·rw [HLL.out]
    exact World.ownsRow.kept (World.ownsRow.kept hob g4 (.inr (by simp [Value.ownBlock]; omega))) g5 (.inr (by simp [Value.ownBlock]; omega))
  ·have t1 : ((p1 : Int) == (b : Int)) = false := beq_eq_false_iff_ne.2 (by omega)
   have t1' : (p1 == b) = false := beq_eq_false_iff_ne.2 hpb
   have HI : Hid (RI w.heap.size w b (.slice none 0 0) (.slice Ap np cp) W ∧ noW D.pending b np (k + 1)) := Lib.hid ⟨hI1, fun j p hj hp => by
    by_cases e : j = np - 1 - k
    ·rw [e, e1] at hp
     cases hp
     exact hpb
    ·exact hI2 j p (by omega) hp⟩
   clear hbw e1 e2 e3 hBq hcell hI2 hI1
   gi_wp2_with fail
   exact ⟨KeepsFrom.refl _ _, ⟨Below.refl _ _, fun o h => h⟩, HI.out⟩
 case done =>
  intro l W hD hI hK
  obtain ⟨hI1, hI2⟩ := hI
  have hz := HN.out
  subst hz
  have hdW := HDW.out.below hI1.below
  have c1 := hdW.db.c1
  obtain ⟨uo, co, _, hbo⟩ := hdW.at_ hb
  obtain ⟨Ao, no, co', mo, rfl, hro, hno, hso⟩ := hbo.read
  have HWH := Lib.hid (whole_any Ao no co' mo W.drew (hro.below (gr_drewN (gr_refl W) 1)) hno)
  have HI := Lib.hid hI1.drawn
  have HLL := Lib.hid ((lastL_none (bs := D.blocks) (fun p hp => by
   obtain ⟨j, hj, rfl⟩ := List.getElem_of_mem hp
   exact hI2 j _ (by rw [backL_len]; omega) (List.getElem?_eq_getElem hj))).trans hso.symm)
  have HK := Lib.hid hK
  have HD := Lib.hid hD
  have HSL : Hid ((splice zer 0 mo).length = 4096) := Lib.hid (by rw [hso]; exact hbo.1)
  have hWs := hI1.below.size
  have k3 := hI1.b3.cell
  have hi0' : (0 : Int) ≤ (b : Int) := Int.natCast_nonneg _
  have hi1' : (b : Int) < (D.blocks.length : Int) := by omega
  clear hbo hro hI1 hI2 hdW hK hD hso
  gi_wp2_with fail
  refine wpIn_onlyN ?_
  gi_region_with (refine ⟨trivial, ?_⟩; (with_reducible refine (callsIn_wide.2 HWH.out).mono ?_); rintro e W1 ⟨rfl, hB1, hb1⟩; obtain ⟨y4, z4, y5, z5, hRI1⟩ := HI.out.laid hb1 (.slice (some ⟨W.heap.size, 0, none⟩) 4096 4096))
  all_goals
   rename_i hKK
   refine hKK _ _ ?_
   have hzs := HZ.out
   have hDl := HD.out
   have hll := (Array.getElem?_eq_some_iff.1 HK.out).1
   have hRI2 := hRI1 hWs
   have hKW : ((W1.setCell ⟨w.heap.size + 1, 0, none⟩ (.slice (some ⟨W.heap.size, 0, none⟩) 4096 4096)).setCell ⟨w.heap.size + 1 + 1, 0, none⟩ (.int .i64 0)).heap[l]? = some (.deferred (some [])) := by
    rw [Below.heap_setCell _ _ _ l (by dsimp only; omega), Below.heap_setCell _ _ _ l (by dsimp only; omega), hb1.block l hll]
    exact HK.out
   have hob := hB1.own (base := w.heap.size) hWs (by rw [HSL.out]; simp [maxLen])
   rw [HSL.out, ← HLL.out] at hob
   have hob2 : OB ((W1.setCell ⟨w.heap.size + 1, 0, none⟩ (.slice (some ⟨W.heap.size, 0, none⟩) 4096 4096)).setCell ⟨w.heap.size + 1 + 1, 0, none⟩ (.int .i64 0)) w.heap.size (.slice (some ⟨W.heap.size, 0, none⟩) 4096 4096) (lastL D.blocks D.pending b) :=
    World.ownsRow.kept (World.ownsRow.kept hob (grownBy_setCell' _ _ _) (.inr (by simp [Value.ownBlock]; omega))) (grownBy_setCell' _ _ _) (.inr (by simp [Value.ownBlock]; omega))
   clear hb1 hB1 y4 z4 y5 z5 hRI1 hob
   generalize ((W1.setCell ⟨w.heap.size + 1, 0, none⟩ (.slice (some ⟨W.heap.size, 0, none⟩) 4096 4096)).setCell ⟨w.heap.size + 1 + 1, 0, none⟩ (.int .i64 0)) = W2 at *
   generalize Value.slice (some ⟨W.heap.size, 0, none⟩) 4096 4096 = v at *
   have HI := Lib.hid hRI2
   have HO := Lib.hid hob2
   have k4 := hRI2.b4.cell
   have k5 := hRI2.b5.cell
   have hK := Lib.hid hKW
   clear hob2 hRI2 hKW
   gi_wp2_with fail
   refine ⟨by simp, .inl ⟨_, _, rfl, run_takeDeferred hK.out, ?_⟩⟩
   have hg := grownBy_putObj' W2 l (.deferred none)
   have hbb : Below w.heap.size W2 (W2.putObj l (.deferred none)) := (Below.refl _ W2).grown hg (by have := (Array.getElem?_eq_some_iff.1 hK.out).1; omega) (fun k e => by cases e; omega)
   have q4 := (HI.out.b4.kept hg (by simp; omega)).cell
   have q5 := (HI.out.b5.kept hg (by simp; omega)).cell
   have hoo : OB (W2.putObj l (.deferred none)) w.heap.size v (lastL D.blocks D.pending b) := World.ownsRow.kept HO.out hg (by
    rcases HO.out.2 with ⟨rfl, _⟩ | ⟨q, cap, cur, rfl, _, hq, _⟩
    ·exact .inl rfl
    ·refine .inr fun e => ?_
     have e' : q = l := by simpa [Value.ownBlock] using e
     rw [e', hK.out] at hq
     cases hq)
   exact ⟨_, (by simp [results, Try.results41, go_sem, q4, q5]), v, rfl, hoo, HI.out.below.trans hbb⟩
 case stop =>
  rintro l W hl ⟨v, hI1, hO⟩ hK
  have HI := Lib.hid hI1
  have HO := Lib.hid hO
  have k4 := hI1.b4.cell
  have k5 := hI1.b5.cell
  clear hO hI1
  gi_wp2_with fail
  refine ⟨by simp, .inl ⟨_, _, rfl, run_takeDeferred hK, ?_⟩⟩
  have hz := HN.out
  subst hz
  have hzs := HZ.out
  have hg := grownBy_putObj' W l (.deferred none)
  have hbb : Below w.heap.size W (W.putObj l (.deferred none)) := (Below.refl _ W).grown hg (by have := (Array.getElem?_eq_some_iff.1 hK).1; omega) (fun k e => by cases e; omega)
  have q4 := (HI.out.b4.kept hg (by simp; omega)).cell
  have q5 := (HI.out.b5.kept hg (by simp; omega)).cell
  have hoo : OB (W.putObj l (.deferred none)) w.heap.size v (lastL D.blocks D.pending b) := World.ownsRow.kept HO.out hg (by
   rcases HO.out.2 with ⟨rfl, _⟩ | ⟨q, cap, cur, rfl, _, hq, _⟩
   ·exact .inl rfl
   ·refine .inr fun e => ?_
    have e' : q = l := by simpa [Value.ownBlock] using e
    rw [e', hK] at hq
    cases hq)
  exact ⟨_, (by simp [results, Try.results41, go_sem, q4, q5]), v, rfl, hoo, HI.out.below.trans hbb⟩
end Go.Proofs.Ytnkeclpgpiogoaa

/-! DkJ -/
namespace Go.Proofs.Ytnkeclpgpiogoaa
open Go.RowKit
theorem readE_cases (D : DiskS) (b : Int) : (readE D b = 0 ∧ ∃ k : Nat, b = k ∧ k < D.blocks.length ∧ D.down = false ∧ readL D b = lastL D.blocks D.pending k) ∨ (readE D b ≠ 0 ∧ readL D b = []) := by
 by_cases h : readE D b = 0
 ·refine .inl ⟨h, ?_⟩
  have ha : askE D b = 0 := by
   unfold readE at h
   by_cases h0 : askE D b = 0
   ·exact h0
   ·rw [if_pos h0] at h; exact absurd h h0
  have hd : D.down = false := by
   unfold readE at h
   rw [if_neg (by rw [ha]; simp)] at h
   cases hd : D.down with
   | false => rfl
   | true => rw [hd] at h; simp at h
  obtain ⟨h1, h2⟩ := ask_in ha
  obtain ⟨k, rfl⟩ := Int.eq_ofNat_of_zero_le h1
  refine ⟨k, rfl, by omega, hd, ?_⟩
  unfold readL
  rw [if_neg (by rw [h]; simp)]
  rfl
 ·exact .inr ⟨h, by unfold readL; rw [if_pos h]⟩
theorem Read_any (w : World) (ok : Nat → Prop) (base g : Nat) (F : Nat → Prop) (D : DiskS) (b : Int) (h : IsD w ok base g F D) (hpl : D.pending.length ≤ 1000000) :
  Calls Try.prog 41 #[.pointer (some ⟨g, 0, none⟩), .int .i64 b] w fun e w' => ∃ v, e = .returned (.tuple #[v, .int .i64 (readE D b)]) ∧ OB w' w.heap.size v (readL D b) ∧ Below w.heap.size w w' := by
 rcases readE_cases D b with ⟨h0, k, rfl, hk, hd, hL⟩ | ⟨h0, hL⟩
 ·rw [h0, hL]
  exact Read_good w ok base g F D k h hk hd hpl
 ·rw [hL]
  refine (Read_bad w ok base g F D b h h0).mono ?_
  rintro e w' ⟨rfl, hb⟩
  exact ⟨_, rfl, OB.nil _ _, hb⟩
def Foreign (t : TypeId) : Prop := t ≠ 109 ∧ t ≠ 37 ∧ t ≠ 123
theorem foreign_u8 : Foreign 5 := ⟨by decide, by decide, by decide⟩
def KB (w w' : World) : Prop := w.heap.size ≤ w'.heap.size ∧ ∀ (k : Nat) (cs : Array Value) (t : TypeId) (fr : Nat × Nat), Foreign t → w.heap[k]? = some (.cells cs t fr) → w'.heap[k]? = some (.cells cs t fr)
section
variable {w w' w'' : World} {base g : Nat} {v : Value} {l : List UInt8}
theorem KB.trans (h : KB w w') (k : KB w' w'') : KB w w'' := ⟨Nat.le_trans h.1 k.1, fun i cs t fr ht hi => k.2 i cs t fr ht (h.2 i cs t fr ht hi)⟩
theorem KB.of_below (h : Below w.heap.size w w') : KB w w' := ⟨h.size, fun i _ _ _ _ hi => (h.block i (Array.getElem?_eq_some_iff.1 hi).1).trans hi⟩
theorem KB.row {e : TypeId} {size n : Nat} {xs : List Value} (h : KB w w') (he : Foreign e) (hO : w.ownsRow base e size v n xs) : w'.ownsRow base e size v n xs := by
 refine ⟨hO.1, ?_⟩
 rcases hO.2 with h0 | ⟨q, cap, cur, rfl, hb, hg, r⟩
 ·exact .inl h0
 ·exact .inr ⟨q, cap, cur, rfl, hb, h.2 q _ _ _ he hg, r⟩
theorem KB.ob (h : KB w w') (hO : OB w base v l) : OB w' base v l := h.row foreign_u8 hO
end
section
variable {w w' : World} {ok ok' : Nat → Prop} {base g : Nat} {F : Nat → Prop} {D : DiskS}
theorem IsD.lower {b : Nat} (h : IsD w ok base g F D) (hb : b ≤ base) : IsD w ok b g F D := by
 obtain ⟨dr, dc, pv, dvs, pvs, hd, hF⟩ := h
 exact ⟨dr, dc, pv, dvs, pvs, ⟨hd.db, own_low hd.dur hb, own_low hd.pen hb, hd.pl, hd.dv, hd.pw, hd.n1, hd.n2, hd.p1, hd.p2, hd.f1, hd.f2, Nat.le_trans hb hd.gb⟩, hF⟩
theorem IsD.foot_for (h : IsD w ok base g F D) : ∀ (k : Nat) (cs : Array Value) (t : TypeId) (fr : Nat × Nat), Foreign t → F k → w.heap[k]? = some (.cells cs t fr) → False := by
 obtain ⟨dr, dc, pv, dvs, pvs, hd, hF⟩ := h
 intro k cs t fr ht hk hB
 rcases (hF k).1 hk with rfl | rfl | hk
 ·exact cells_ne hB hd.db ht.1
 ·rcases hd.dur.2 with ⟨e, _⟩ | ⟨q, cap, cur, e, _, hq, _⟩
  ·cases e
  ·cases e; exact cells_ne hB hq ht.2.1
 ·rcases hd.pen.2 with ⟨rfl, _⟩ | ⟨q, cap, cur, rfl, _, hq, _⟩
  ·simp [Value.ownBlock] at hk
  ·simp [Value.ownBlock] at hk; subst hk; exact cells_ne hB hq ht.2.2
theorem IsD.foot_ty (h : IsD w ok base g F D) : ∀ (k : Nat) (cs : Array Value) (fr : Nat × Nat), F k → w.heap[k]? = some (.cells cs 5 fr) → False := fun k cs fr => h.foot_for k cs _ fr foreign_u8
theorem IsD.kb (h : IsD w ok base g F D) (ho : Off F w w') : KB w w' := ⟨ho.size, fun k cs t fr ht hk => (ho.block k (Array.getElem?_eq_some_iff.1 hk).1 (fun hf => h.foot_for k cs t fr ht hf hk)).trans hk⟩
end
def St (w0 w : World) (g : Nat) (D : DiskS) : Prop := Below w0.heap.size w0 w ∧ ∃ F, IsD w (fun k => w0.heap.size ≤ k) w0.heap.size g F D
section
variable {w0 w w' : World} {g : Nat} {D D' : DiskS}
theorem St.below (h : St w0 w g D) (hb : Below w.heap.size w w') : St w0 w' g D := by
 obtain ⟨h1, F, h2⟩ := h
 exact ⟨gr_trans h1 hb, F, h2.below hb⟩
theorem St.post {F : Nat → Prop} (h1 : Below w0.heap.size w0 w) (h2 : IsD w (fun k => w0.heap.size ≤ k) w0.heap.size g F D) (hp : DPost w (fun k => w0.heap.size ≤ k) w0.heap.size g F D' w') : St w0 w' g D' ∧ KB w w' := by
 obtain ⟨ho, F', h3, h4⟩ := hp
 refine ⟨⟨h1.trans (ho.below (fun k hk => (h2.foot_lt k hk).1) h1.size), F', h3.mono (fun k _ hk => ?_)⟩, h2.kb ho⟩
 rcases hk with hk | hk
 ·exact hk
 ·exact Nat.le_trans h1.size hk
end
end Go.Proofs.Ytnkeclpgpiogoaa

/-! Apt -/
namespace Go.Proofs.Ytnkeclpgpiogoaa
open Go.RowKit
def mkI (k i : Int) : Int := IntKind.u64.wrap (IntKind.u64.wrap (wrap64 (wrap64 (1000003 * wrap64 (k + 7)) + i)) * 11400714819323198485) / 72057594037927936 % 256
def mkB (k i : Nat) : UInt8 := UInt8.ofNat (mkI k i).toNat
def marks (k n : Nat) : List UInt8 := (List.range n).map (mkB k)
section
variable {w w' : World} {base g n cap : Nat} {l : List UInt8} {A : Option Addr}
theorem BR.grown {row : Option Nat} (h : BR w A n l) (hg : w.grownBy w' row) (hne : ∀ ad, A = some ad → some ad.block ≠ row) : BR w' A n l :=
 ⟨h.1, fun h0 => by
  obtain ⟨ad, e, hc⟩ := h.2 h0
  refine ⟨ad, e, fun j u hu => ?_⟩
  have := hc j u hu
  rw [← this]
  refine World.cell?_of_block (hg.block _ ?_ ?_)
  ·exact World.block_lt_of_cell? w _ this
  ·rw [block_of_add]; exact hne ad e⟩
theorem obA_some (h : OB w base (.slice A n cap) l) (hn : l.length = n) (h0 : 0 < n) : ∃ g, A = some ⟨g, 0, none⟩ ∧ n ≤ cap ∧ cap ≤ maxLen ∧ base ≤ g := by
 rcases h.2 with ⟨_, e⟩ | ⟨g', cap', cur, e, hb, hgb, h1, h2, _⟩
 ·omega
 ·injection e with e1 e2 e3
  subst e1 e3
  exact ⟨g', rfl, by omega, h2, hb⟩
theorem grown_set (w : World) (b j : Nat) (v : Value) : w.grownBy (w.setCell ⟨b, j, none⟩ v) (some b) :=
 ⟨rfl, rfl, rfl, (KeepsWalks.setCell w _ v).size, fun k _ hk => Below.heap_setCell _ _ _ k (fun e => hk (by rw [e]))⟩
theorem ob_kept {v : Value} {row : Option Nat} (h : OB w base v l) (hg : w.grownBy w' row) (hne : v.ownBlock = none ∨ v.ownBlock ≠ row) : OB w' base v l := World.ownsRow.kept h hg hne
end
theorem obn_cur {w : World} {base g n cap : Nat} {l : List UInt8} (h : OB w base (.slice (some ⟨g, 0, none⟩) n cap) l) (hn : l.length = n) : ∃ cur : Array Value, w.heap[g]? = some (.cells cur 5 (0, 0)) ∧ base ≤ g ∧ n ≤ cap ∧ cap ≤ maxLen ∧ cur.size = cap ∧ cur.toList.take n = l.map bv := by
 rcases h.2 with ⟨e, _⟩ | ⟨g', cap', cur, e, hb, hg, hnc, hm, hcu, ht⟩
 ·cases e
 ·injection e with e1 e2 e3
  injection e1 with e1
  injection e1 with e1
  subst e1 e3
  exact ⟨cur, hg, hb, by omega, hm, by simpa using hcu, by rw [← ht, hn]; simp⟩
theorem obn_set {w : World} {base g n cap : Nat} {l : List UInt8} (h : OB w base (.slice (some ⟨g, 0, none⟩) n cap) l) (hn : l.length = n) (j : Nat) (x : UInt8) : OB (w.setCell ⟨g, j, none⟩ (bv x)) base (.slice (some ⟨g, 0, none⟩) n cap) (l.set j x) := by
 obtain ⟨cur, hg, hb, hnc, hm, hz, ht⟩ := obn_cur h hn
 refine ⟨by simp, .inr ⟨g, cap, cur.setIfInBounds j (bv x), ?_, hb, ?_, ?_, hm, ?_, ?_⟩⟩
 ·rw [List.length_set, hn]
 ·simp only [World.setCell, Array.getElem?_modify, if_pos, hg]
  simp
 ·rw [List.length_set]; omega
 ·simp [hz]
 ·rw [List.length_set, hn, Nat.mul_one, Array.toList_setIfInBounds, List.take_set, ht, List.map_set]
abbrev apV (A : Nat → Option Addr) (N C : Nat → Nat) (j : Nat) : Value := .slice (A j) (N j) (C j)
structure Ap1 (w : World) (base n : Nat) (A : Nat → Option Addr) (N C : Nat → Nat) (L : Nat → List UInt8) : Prop where
 ob : ∀ j, j < n → OB w base (apV A N C j) (L j)
 len : ∀ j, j < n → (L j).length = N j
def ApD (n : Nat) (A : Nat → Option Addr) (N C : Nat → Nat) : Prop := ∀ i j, i < n → j < n → i ≠ j → (apV A N C j).ownBlock = none ∨ (apV A N C j).ownBlock ≠ (apV A N C i).ownBlock
theorem Ap1.set {w : World} {base n : Nat} {A : Nat → Option Addr} {N C : Nat → Nat} {L : Nat → List UInt8} (h : Ap1 w base n A N C L) (hd : ApD n A N C) {k i g : Nat} (hk : k < n) (hA : A k = some ⟨g, 0, none⟩) (x : UInt8) :
  Ap1 (w.setCell ⟨g, i, none⟩ (bv x)) base n A N C (fun j => if j = k then (L k).set i x else L j) := by
 refine ⟨fun j hj => ?_, fun j hj => ?_⟩
 ·by_cases e : j = k
  ·subst e
   rw [if_pos rfl]
   have := h.ob j hj
   unfold apV at this ⊢
   rw [hA] at this ⊢
   exact obn_set this (h.len j hj) i x
  ·rw [if_neg e]
   refine ob_kept (h.ob j hj) (grown_set w g i _) ?_
   have := hd k j hk hj (Ne.symm e)
   unfold apV at this ⊢
   rw [hA] at this
   simpa [Value.ownBlock] using this
 ·by_cases e : j = k
  ·subst e
   rw [if_pos rfl, List.length_set]
   exact h.len j hj
  ·rw [if_neg e]
   exact h.len j hj
structure Ap3 (w : World) (base n : Nat) (A : Nat → Option Addr) (N C : Nat → Nat) (k : Nat) (Gv : Nat → Value) : Prop where
 old : ∀ j, k ≤ j → j < n → OB w base (apV A N C j) (marks j (N j))
 own : ∀ j, j < k → OB w base (Gv j) (marks j (N j + 40))
 rd : ∀ j, j < k → BR w (A j) (N j) (marks j (N j))
 ap : ∀ j, j < k → ∀ i, k ≤ i → i < n → (Gv j).ownBlock = none ∨ (Gv j).ownBlock ≠ (apV A N C i).ownBlock
theorem Ap3.step {w w' : World} {base n : Nat} {A : Nat → Option Addr} {N C : Nat → Nat} {k : Nat} {Gv : Nat → Value} (h : Ap3 w base n A N C k Gv) (hd : ApD n A N C) (hk : k < n) (hg : w.grownBy w' (apV A N C k).ownBlock) {gv : Value}
  (ho : OB w' base gv (marks k (N k + 40))) (hr : BR w' (A k) (N k) (marks k (N k))) (hb : gv.ownBlock = (apV A N C k).ownBlock ∨ ∃ b, gv.ownBlock = some b ∧ w.heap.size ≤ b) : Ap3 w' base n A N C (k + 1) (fun j => if j = k then gv else Gv j) := by
 refine ⟨fun j h1 h2 => ?_, fun j hj => ?_, fun j hj => ?_, fun j hj i h1 h2 => ?_⟩
 ·exact ob_kept (h.old j (by omega) h2) hg (hd k j hk h2 (by omega))
 ·by_cases e : j = k
  ·subst e; rw [if_pos rfl]; exact ho
  ·rw [if_neg e]; exact ob_kept (h.own j (by omega)) hg (h.ap j (by omega) k (Nat.le_refl _) hk)
 ·by_cases e : j = k
  ·subst e; exact hr
  ·refine (h.rd j (by omega)).grown hg fun ad ea => ?_
   have := hd k j hk (by omega) (Ne.symm e)
   unfold apV at this ⊢
   rw [ea] at this
   simpa [Value.ownBlock] using this
 ·by_cases e : j = k
  ·subst e
   rw [if_pos rfl]
   rcases hb with hb | ⟨b, hb, hbb⟩
   ·rw [hb]
    rcases hd i j h2 hk (by omega) with h3 | h3
    ·exact .inl h3
    ·exact .inr h3
   ·refine .inr fun e' => ?_
    have := ((h.old i (by omega) h2).lt b (by rw [← e', hb])).2
    omega
  ·rw [if_neg e]; exact h.ap j (by omega) i (by omega) h2
end Go.Proofs.Ytnkeclpgpiogoaa

/-! DkK -/
namespace Go.Proofs.Ytnkeclpgpiogoaa
open Go.RowKit
end Go.Proofs.Ytnkeclpgpiogoaa

/-! ApO -/
namespace Go.Proofs.Ytnkeclpgpiogoaa
open Go.RowKit
end Go.Proofs.Ytnkeclpgpiogoaa

/-! DkM -/
namespace Go.Proofs.Ytnkeclpgpiogoaa
open Go.RowKit
section
variable {ok ok' : Nat → Prop} {w w' : World} {u : Value} {l : List UInt8} {base g dr dc : Nat} {F : Nat → Prop} {pv : Value} {dvs : List Value} {pvs : List (Int × Value)} {D : DiskS}
theorem IsD.sharp (h : IsD w ok base g F D) : IsD w (fun k => ok k ∧ k < w.heap.size) base g F D := h.mono (fun _ hk ho => ⟨ho, hk⟩)
end
theorem OB.full {w : World} {base : Nat} {v : Value} {l : List UInt8} (h : OB w base v l) (hl : l.length = 4096) : ∃ q c, v = .slice (some ⟨q, 0, none⟩) 4096 c ∧ base ≤ q ∧ q < w.heap.size ∧ c ≤ maxLen := by
 obtain ⟨A, c, rfl, hr, hc, hm⟩ := h.formN hl
 obtain ⟨q, rfl, _, _, hb⟩ := obA_some h hl (by omega)
 exact ⟨q, c, rfl, hb, (h.lt q rfl).2, hm⟩
end Go.Proofs.Ytnkeclpgpiogoaa

/-! DkN -/
namespace Go.Proofs.Ytnkeclpgpiogoaa
open Go.RowKit
def Fresh (w : World) (e : Ending) (w' : World) : Prop := ∃ L : List UInt8, L.length = 4096 ∧ e = .returned (.slice (some ⟨w.heap.size, 0, none⟩) 4096 4096) ∧ BB w' w.heap.size L ∧ Below w.heap.size w w'
theorem carry_at (ps : List (Nat × List UInt8)) : ∀ (bs : List (List UInt8)) (b : Nat), b < bs.length → (carry bs ps).getD b [] = lastL bs ps b := by
 induction ps with
 | nil => intro bs b _; rfl
 | cons p ps ih =>
  intro bs b hb
  have h := ih (bs.set p.1 p.2) b (by rw [List.length_set]; exact hb)
  have e1 : carry bs (p :: ps) = carry (bs.set p.1 p.2) ps := rfl
  have e2 : lastL bs (p :: ps) b = lastL (bs.set p.1 p.2) ps b := by
   unfold lastL
   rw [List.foldl_cons]
   congr 1
   simp only [List.getD, List.getElem?_set]
   by_cases e : p.1 = b
   ·rw [if_pos e, if_pos e, if_pos (by omega)]
    rfl
   ·rw [if_neg e, if_neg e]
  rw [e1, e2, h]
theorem own_at {w : World} {base n c : Nat} {A : Option Addr} {e : TypeId} {size : Nat} {xs : List Value} (h : w.ownsRow base e size (.slice A n c) n xs) {ad : Addr} (ea : A = some ad) : ∃ cur fr, w.heap[ad.block]? = some (.cells cur e fr) := by
 subst ea
 rcases h.2 with ⟨e, _⟩ | ⟨q, cap, cur, e, _, hq, _⟩
 ·cases e
 ·injection e with e
  injection e with e
  subst e
  exact ⟨_, _, hq⟩
end Go.Proofs.Ytnkeclpgpiogoaa

/-! DkL -/
namespace Go.Proofs.Ytnkeclpgpiogoaa
open Go.RowKit
def Unm (p : Option Addr) (w : World) : Prop := p = none ∨ ∃ g, p = some ⟨g, 0, none⟩ ∧ w.cell? ⟨g, 0, none⟩ = some (.pointer none)
theorem Unm.below {p : Option Addr} {w w' : World} (h : Unm p w) (hb : Below w.heap.size w w') : Unm p w' := by
 rcases h with h | ⟨g, e, h⟩
 ·exact .inl h
 ·exact .inr ⟨g, e, keep_of_below hb h⟩
end Go.Proofs.Ytnkeclpgpiogoaa

/-! Pc -/
namespace Go.Proofs.Ytnkeclpgpiogoaa
open Go.RowKit
def CK (w w' : World) : Prop := ∀ (k : Nat) (c : Array Value) (t : TypeId) (f : Nat × Nat), w.heap[k]? = some (.cells c t f) → w'.heap[k]? = some (.cells c t f)
section
variable {w w' w'' : World}
theorem CK.trans (h : CK w w') (k : CK w' w'') : CK w w'' := fun _ _ _ _ e => k _ _ _ _ (h _ _ _ _ e)
theorem CK.of_below (hb : Below w.heap.size w w') : CK w w' := fun k _ _ _ h => (hb.block k (Array.getElem?_eq_some_iff.1 h).1).trans h
theorem CK.cell (h : CK w w') {p : Addr} {u : Value} (hc : w.cell? p = some u) : w'.cell? p = some u := by
 unfold World.cell? at hc ⊢
 cases ho : w.heap[p.block]? with
 | none => rw [ho] at hc; cases hc
 | some o =>
  rw [ho] at hc
  cases o with
  | cells c t f => rw [h _ _ _ _ ho]; exact hc
  | _ => cases hc
theorem CK.rd (h : CK w w') {size n : Nat} {A : Option Addr} {xs : List Value} (hr : Rd w size A n xs) : Rd w' size A n xs := hr.keep fun _ _ hc => h.cell hc
theorem CK.br (h : CK w w') {n : Nat} {A : Option Addr} {l : List UInt8} (hr : BR w A n l) : BR w' A n l := h.rd hr
theorem CK.own (h : CK w w') {base : Nat} {e : TypeId} {size : Nat} {v : Value} {n : Nat} {xs : List Value} (ho : w.ownsRow base e size v n xs) : w'.ownsRow base e size v n xs := by
 refine ⟨ho.1, ?_⟩
 rcases ho.2 with h0 | ⟨g, cap, cur, hv, hb, hg, r⟩
 ·exact .inl h0
 ·exact .inr ⟨g, cap, cur, hv, hb, h _ _ _ _ hg, r⟩
theorem CK.ob (h : CK w w') {base : Nat} {v : Value} {l : List UInt8} (ho : OB w base v l) : OB w' base v l := CK.own h ho
end
def pcs : List (Int × Value) → List Value
 | [] => []
 | p :: ps => .int .i64 p.1 :: p.2 :: pcs ps
theorem pcs_length (ps : List (Int × Value)) : (pcs ps).length = ps.length * 2 := by
 induction ps with
 | nil => rfl
 | cons p ps ih => simp only [pcs, List.length_cons, ih]; omega
def VB (w : World) (u : Value) (l : List UInt8) : Prop := ∃ A c, u = .slice A l.length c ∧ BR w A l.length l ∧ l.length ≤ c ∧ c ≤ maxLen
theorem VB.ck {w w' : World} {u : Value} {l : List UInt8} (h : VB w u l) (hk : CK w w') : VB w' u l := by
 obtain ⟨A, c, e, r, h1, h2⟩ := h
 exact ⟨A, c, e, hk.br r, h1, h2⟩
theorem VB.below {w w' : World} {u : Value} {l : List UInt8} (h : VB w u l) (hb : Below w.heap.size w w') : VB w' u l := h.ck (CK.of_below hb)
abbrev Pc := Int × List UInt8
def PR (w : World) (A : Option Addr) (n : Nat) (ps : List Pc) : Prop :=
 ∃ us : List (Int × Value), Rd w 2 A n (pcs us) ∧ us.length = ps.length ∧ ∀ (i : Nat) (p : Pc) (q : Int × Value), ps[i]? = some p → us[i]? = some q → q.1 = p.1 ∧ VB w q.2 p.2
section
variable {w w' : World} {A : Option Addr} {n : Nat} {ps : List Pc}
theorem PR.len (h : PR w A n ps) : ps.length = n := by
 obtain ⟨us, hr, hl, _⟩ := h
 have := hr.1
 rw [pcs_length] at this
 omega
theorem PR.ck (h : PR w A n ps) (hk : CK w w') : PR w' A n ps := by
 obtain ⟨us, hr, hl, hv⟩ := h
 exact ⟨us, hk.rd hr, hl, fun i p q hp hq => ⟨(hv i p q hp hq).1, (hv i p q hp hq).2.ck hk⟩⟩
theorem PR.below (h : PR w A n ps) (hb : Below w.heap.size w w') : PR w' A n ps := h.ck (CK.of_below hb)
end
section
variable {w w' : World} {base : Nat} {v : Value} {ps : List Pc}
end
end Go.Proofs.Ytnkeclpgpiogoaa

/-! RecA -/
namespace Go.Proofs.Ytnkeclpgpiogoaa
open Go.RowKit
def VP (w : World) (u : Value) (ps : List Pc) : Prop := ∃ A c, u = .slice A ps.length c ∧ PR w A ps.length ps ∧ ps.length ≤ c ∧ c ≤ maxLen
theorem VP.below {w w' : World} {u : Value} {ps : List Pc} (h : VP w u ps) (hb : Below w.heap.size w w') : VP w' u ps := by
 obtain ⟨A, c, e, r, h1, h2⟩ := h
 exact ⟨A, c, e, r.below hb, h1, h2⟩
abbrev Ch := Int × List UInt8 × List Pc
def chs : List (Int × Value × Value) → List Value
 | [] => []
 | p :: ps => .int .i64 p.1 :: p.2.1 :: p.2.2 :: chs ps
theorem chs_length (ps : List (Int × Value × Value)) : (chs ps).length = ps.length * 3 := by
 induction ps with
 | nil => rfl
 | cons p ps ih => simp only [chs, List.length_cons, ih]; omega
def CR (w : World) (A : Option Addr) (n : Nat) (cs : List Ch) : Prop :=
 ∃ us : List (Int × Value × Value), Rd w 3 A n (chs us) ∧ us.length = cs.length ∧ ∀ (i : Nat) (p : Ch) (q : Int × Value × Value), cs[i]? = some p → us[i]? = some q → q.1 = p.1 ∧ VB w q.2.1 p.2.1 ∧ VP w q.2.2 p.2.2
section
variable {w w' : World} {A : Option Addr} {n : Nat} {cs : List Ch}
theorem CR.len (h : CR w A n cs) : cs.length = n := by
 obtain ⟨us, hr, hl, _⟩ := h
 have := hr.1
 rw [chs_length] at this
 omega
theorem CR.below (h : CR w A n cs) (hb : Below w.heap.size w w') : CR w' A n cs := by
 obtain ⟨us, hr, hl, hv⟩ := h
 exact ⟨us, hr.below hb, hl, fun i p q hp hq => ⟨(hv i p q hp hq).1, (hv i p q hp hq).2.1.below hb, (hv i p q hp hq).2.2.below hb⟩⟩
end
def rpFrom : Int → List Pc → Bool
 | _, [] => true
 | e, p :: ps => if p.1 < e ∨ p.2.length = 0 ∨ 4080 - p.1 < p.2.length then false else rpFrom (p.1 + p.2.length) ps
def rcFrom : Int → List Ch → Bool
 | _, [] => true
 | last, c :: cs => if c.1 ≤ last ∨ 4096 ≤ c.1 then false else
   if 0 < c.2.1.length then (if c.2.1.length ≠ 4080 ∨ 0 < c.2.2.length then false else rcFrom c.1 cs) else (if rpFrom 0 c.2.2 = true then rcFrom c.1 cs else false)
def rightR (k tx : Int) (cs : List Ch) : Bool :=
 if tx < 0 ∨ 4611686018427387904 < tx then false else if k = 2 ∨ k = 3 then decide (cs.length = 0) else if k = 1 then (decide (1 ≤ cs.length ∧ cs.length ≤ 16) && rcFrom (-1) cs) else false
end Go.Proofs.Ytnkeclpgpiogoaa

/-! RcP -/
namespace Go.Proofs.Ytnkeclpgpiogoaa
structure Rec where
 kind : Nat
 tx : Int
 cs : List Ch
def encP (p : Pc) : List UInt8 := leB p.1.toNat 2 ++ (leB p.2.length 2 ++ p.2)
def encPs : List Pc → List UInt8
 | [] => []
 | p :: ps => encP p ++ encPs ps
def encC (c : Ch) : List UInt8 := leB c.1.toNat 4 ++ (if 0 < c.2.1.length then 1 :: c.2.1 else 0 :: (leB c.2.2.length 2 ++ encPs c.2.2))
def encCs : List Ch → List UInt8
 | [] => []
 | c :: cs => encC c ++ encCs cs
def encB (r : Rec) : List UInt8 := UInt8.ofNat r.kind :: (leB r.tx.toNat 8 ++ (leB r.cs.length 2 ++ encCs r.cs))
def encR (r : Rec) : List UInt8 := leB (encB r).length 4 ++ encB r
def Rec.right (r : Rec) : Bool := rightR (r.kind : Int) r.tx r.cs
/-! Reading: the place, or none from the first field on that is not there. -/
def pNum (b : List UInt8) (k : Nat) : Option Nat → Nat × Option Nat
 | none => (0, none)
 | some a => if a + k ≤ b.length then (leN ((b.drop a).take k), some (a + k)) else (0, none)
def pImage (b : List UInt8) : Option Nat → List UInt8 × Option Nat
 | none => ([], none)
 | some a => if a + 4080 ≤ b.length then ((b.drop a).take 4080, some (a + 4080)) else ([], none)
def pPart (b : List UInt8) : Option Nat → List UInt8 × Option Nat
 | none => ([], none)
 | some a => match partAt b (a : Int) with
  | none => ([], none)
  | some (l, e) => (l, some e)
def toI (v : Nat) : Int := if v < 9223372036854775808 then v else (v : Int) - 18446744073709551616
def pPieces (b : List UInt8) : Nat → List Pc → Option Nat → List Pc × Option Nat
 | 0, acc, s => (acc, s)
 | _ + 1, acc, none => (acc, none)
 | n + 1, acc, some a => pPieces b n (acc ++ [(((pNum b 2 (some a)).1 : Int), (pPart b (pNum b 2 (some a)).2).1)]) (pPart b (pNum b 2 (some a)).2).2
def pChange (b : List UInt8) (s : Option Nat) : Ch × Option Nat :=
 let p := pNum b 4 s
 let f := pNum b 1 p.2
 if f.1 = 1 then (((p.1 : Int), (pImage b f.2).1, []), (pImage b f.2).2)
 else if f.1 = 0 then
  let m := pNum b 2 f.2
  (((p.1 : Int), [], (pPieces b m.1 [] m.2).1), (pPieces b m.1 [] m.2).2)
 else (((p.1 : Int), [], []), none)
def pChanges (b : List UInt8) : Nat → List Ch → Option Nat → List Ch × Option Nat
 | 0, acc, s => (acc, s)
 | _ + 1, acc, none => (acc, none)
 | n + 1, acc, some a => pChanges b n (acc ++ [(pChange b (some a)).1]) (pChange b (some a)).2
def pRecord (b : List UInt8) : Rec × Option Nat :=
 let k := pNum b 1 (some 0)
 let t := pNum b 8 k.2
 let n := pNum b 2 t.2
 (⟨k.1, toI t.1, (pChanges b n.1 [] n.2).1⟩, (pChanges b n.1 [] n.2).2)
/-! What is read is what was written. -/
def Seg (b : List UInt8) (a e : Nat) (l : List UInt8) : Prop := e = a + l.length ∧ e ≤ b.length ∧ (b.drop a).take l.length = l
theorem Seg.all (b : List UInt8) : Seg b 0 b.length b := ⟨by simp, Nat.le_refl _, by simp⟩
/-! What Decode and All tell. -/
noncomputable def bodyR (b : List UInt8) : Option Rec := @ite _ (∃ r : Rec, r.right = true ∧ b = encB r) (Classical.propDecidable _) (some (pRecord b).1) none
end Go.Proofs.Ytnkeclpgpiogoaa

/-! RefA -/
namespace Go.Proofs.Ytnkeclpgpiogoaa
open Go.RowKit
end Go.Proofs.Ytnkeclpgpiogoaa

/-! Reg -/
namespace Go.Proofs.Ytnkeclpgpiogoaa
open Go
def edgesBack (md : Region.Mode) (ops : Array Oper) : Bool :=
 (List.range ops.size).all fun j => match ops[j]? with
  | some o => (o.after.all fun e => !Region.binds md e || decide (e.on < j)) && (match o.guard with | some (g, _) => decide (g < j) | none => true)
  | none => true
def needs (md : Region.Mode) (ops : Array Oper) : Nat → List Nat → List Nat
 | 0, s => s
 | j + 1, s => needs md ops j (if s.contains j then s ++ (match ops[j]? with | some o => (o.after.toList.filter (Region.binds md)).map (·.on) | none => []) else s)
section
variable {P : Program} {md : Region.Mode} {ops : Array Oper}
def closedL (md : Region.Mode) (ops : Array Oper) (listed : Array Bool) : Prop :=
 ∀ j o, ops[j]? = some o → listed.getD j true = true → ∀ e ∈ o.after, Region.binds md e = true → listed.getD e.on false = true
theorem edgesBack_spec (h : edgesBack md ops = true) {j : Nat} {o : Oper} (hj : ops[j]? = some o) : (∀ e ∈ o.after, Region.binds md e = true → e.on < j) ∧ ∀ g b, o.guard = some (g, b) → g < j := by
 unfold edgesBack at h
 rw [List.all_eq_true] at h
 have hlt := (Array.getElem?_eq_some_iff.1 hj).1
 have h1 := h j (List.mem_range.2 hlt)
 rw [hj] at h1
 simp only [Bool.and_eq_true] at h1
 refine ⟨fun e he hbd => ?_, fun g b hg => ?_⟩
 ·have := Array.all_eq_true_iff_forall_mem.1 h1.1 e he
  rw [hbd] at this
  simpa using this
 ·have := h1.2
  rw [hg] at this
  simpa using this
theorem needs_listed {listed : Array Bool} (hc : closedL md ops listed) (hs : listed.size = ops.size) : ∀ (n : Nat) (s : List Nat), (∀ i ∈ s, listed.getD i false = true) → ∀ i ∈ needs md ops n s, listed.getD i false = true
 | 0, _, h => h
 | n + 1, s, h => by
  unfold needs
  refine needs_listed hc hs n _ ?_
  split
  ·rename_i hcon
   intro i hi
   rcases List.mem_append.1 hi with hi | hi
   ·exact h i hi
   ·cases ho : ops[n]? with
    | none => rw [ho] at hi; simp at hi
    | some o =>
     rw [ho] at hi
     simp only [List.mem_map, List.mem_filter, Array.mem_toList_iff] at hi
     obtain ⟨e, ⟨he, hb⟩, rfl⟩ := hi
     have hn : listed.getD n false = true := h n (by simpa using hcon)
     refine hc n o ho ?_ e he hb
     have hlt := (Array.getElem?_eq_some_iff.1 ho).1
     rw [← hs] at hlt
     rw [Array.getD_eq_getD_getElem?, Array.getElem?_eq_getElem hlt] at hn ⊢
     exact hn
  ·exact h
theorem all_listed (hb : edgesBack md ops = true) {listed : Array Bool} (hs : listed.size = ops.size) (hr : Region.ready md ops listed = []) : ∀ n, n ≤ ops.size → ∀ j, j < n → listed.getD j false = true
 | 0, _, j, hj => by omega
 | n + 1, hn, j, hj => by
  have ih := all_listed hb hs hr n (by omega)
  rcases Nat.lt_or_ge j n with h | h
  ·exact ih j h
  ·obtain rfl : j = n := by omega
   have hlt : j < listed.size := by omega
   cases hv : listed.getD j false with
   | true => rfl
   | false =>
    have hmem : j ∈ Region.ready md ops listed := by
     refine mem_ready.2 ⟨?_, ops[j], Array.getElem?_eq_getElem (by omega), fun e he hbd => ?_⟩
     ·rw [Array.getD_eq_getD_getElem?, Array.getElem?_eq_getElem hlt] at hv ⊢
      exact hv
     ·exact ih e.on ((edgesBack_spec hb (Array.getElem?_eq_getElem (by omega))).1 e he hbd)
    rw [hr] at hmem
    cases hmem
end
section
variable {P : Program} {md : Region.Mode} {ops : Array Oper} {Q : Exit → Act → World → Prop}
end
end Go.Proofs.Ytnkeclpgpiogoaa

/-! Rgm -/
namespace Go.Proofs.Ytnkeclpgpiogoaa
open Go Go.RowKit
structure MP where
 p : Value → World → Prop
 mono : ∀ v w w', Below w.heap.size w w' → p v w → p v w'
def MP.any : MP := ⟨fun _ _ => True, fun _ _ _ _ _ => trivial⟩
def MP.is (c : Value) : MP := ⟨fun v _ => v = c, fun _ _ _ _ h => h⟩
def dstOf (ops : Array Oper) (i : Nat) : Option Tmp := (ops[i]?).bind (·.dst)
def putL (ops : Array Oper) (listed : Array Bool) (f : Nat → Value) (a : Act) : Nat → Act
 | 0 => a
 | n + 1 => if listed.getD n false = true then (putL ops listed f a n).put (dstOf ops n) (f n) else putL ops listed f a n
def putA (ops : Array Oper) (f : Nat → Value) (a : Act) : Nat → Act
 | 0 => a
 | n + 1 => (putA ops f a n).put (dstOf ops n) (f n)
def dstsApart (ops : Array Oper) : Bool := (List.range ops.size).all fun i => (List.range i).all fun j => (dstOf ops i).isNone || dstOf ops i != dstOf ops j
def depsOf (md : Region.Mode) (ops : Array Oper) (i : Nat) : List Nat := match ops[i]? with | some o => (o.after.toList.filter (Region.binds md)).map (·.on) | none => []
def needsOf (md : Region.Mode) (ops : Array Oper) (i : Nat) : List Nat := needs md ops ops.size (depsOf md ops i)
def looksBack (md : Region.Mode) (ops : Array Oper) : Bool :=
 (List.range ops.size).all fun i => match ops[i]? with
  | some o => (o.looksAt ops).all fun x => (List.range ops.size).all fun j => dstOf ops j != some x || (needsOf md ops i).contains j
  | none => true
section
variable {P : Program} {md : Region.Mode} {ops : Array Oper} {Q : Exit → Act → World → Prop} {f : Nat → Value} {a : Act} {listed : Array Bool}
theorem put_size (a : Act) (d : Option Tmp) (v : Value) : (a.put d v).tmps.size = a.tmps.size := by cases d <;> simp [Act.put]
theorem put_defers (a : Act) (d : Option Tmp) (v : Value) : (a.put d v).defers = a.defers := by cases d <;> rfl
theorem putL_size : ∀ n, (putL ops listed f a n).tmps.size = a.tmps.size
 | 0 => rfl
 | n + 1 => by
  unfold putL
  split
  ·rw [put_size, putL_size n]
  ·exact putL_size n
theorem putA_size : ∀ n, (putA ops f a n).tmps.size = a.tmps.size
 | 0 => rfl
 | n + 1 => by
  unfold putA
  rw [put_size, putA_size n]
theorem putL_defers : ∀ n, (putL ops listed f a n).defers = a.defers
 | 0 => rfl
 | n + 1 => by
  unfold putL
  split
  ·rw [put_defers, putL_defers n]
  ·exact putL_defers n
theorem putA_defers : ∀ n, (putA ops f a n).defers = a.defers
 | 0 => rfl
 | n + 1 => by
  unfold putA
  rw [put_defers, putA_defers n]
theorem dstsApart_spec (h : dstsApart ops = true) {i j : Nat} (hi : i < ops.size) (hj : j < i) : ∀ d, dstOf ops i = some d → dstOf ops j ≠ some d := by
 unfold dstsApart at h
 rw [List.all_eq_true] at h
 have h1 := h i (List.mem_range.2 hi)
 rw [List.all_eq_true] at h1
 have h2 := h1 j (List.mem_range.2 hj)
 intro d hd he
 rw [hd, he] at h2
 simp at h2
def upd (f : Nat → Value) (i : Nat) (v : Value) : Nat → Value := fun k => if k = i then v else f k
theorem putL_same {g : Nat → Value} {listed2 : Array Bool} : ∀ n, (∀ k, k < n → listed.getD k false = listed2.getD k false ∧ f k = g k) → putL ops listed f a n = putL ops listed2 g a n
 | 0, _ => rfl
 | n + 1, h => by
  unfold putL
  rw [putL_same n (fun k hk => h k (by omega)), (h n (by omega)).1, (h n (by omega)).2]
theorem putL_set (hd : dstsApart ops = true) {i : Nat} {v : Value} (hs : listed.size = ops.size) (hl : listed.getD i true = false) : ∀ n, n ≤ ops.size → i < n → putL ops (listed.setIfInBounds i true) (upd f i v) a n = (putL ops listed f a n).put (dstOf ops i) v
 | 0, _, h => by omega
 | n + 1, hn, h => by
  have hset : ∀ k, k ≠ i → (listed.setIfInBounds i true).getD k false = listed.getD k false := fun k hk => getD_set_ne false (Ne.symm hk)
  unfold putL
  by_cases e : i = n
  ·subst e
   have h1 : (listed.setIfInBounds i true).getD i false = true := by
    rw [Array.getD_eq_getD_getElem?, Array.getElem?_setIfInBounds_self_of_lt (by omega)]
    rfl
   have h2 : listed.getD i false = false := by
    rw [Array.getD_eq_getD_getElem?, Array.getElem?_eq_getElem (show i < listed.size by omega)] at hl ⊢
    exact hl
   rw [if_pos h1, if_neg (by rw [h2]; exact Bool.false_ne_true)]
   have e1 : upd f i v i = v := by unfold upd; rw [if_pos rfl]
   rw [e1]
   congr 1
   exact putL_same i (fun k hk => ⟨hset k (by omega), by unfold upd; rw [if_neg (by omega)]⟩)
  ·have ih := putL_set hd hs hl n (by omega) (by omega) (v := v)
   have e1 : upd f i v n = f n := by unfold upd; rw [if_neg (fun h => e h.symm)]
   rw [hset n (fun h => e h.symm), ih, e1]
   split
   ·exact Act.put_comm _ v (f n) (fun d h1 h2 => dstsApart_spec hd (i := n) (j := i) (by omega) (by omega) d h2 h1)
   ·rfl
theorem putL_at {x : Tmp} : ∀ n, (∀ j, j < n → dstOf ops j = some x → listed.getD j false = true) → (putL ops listed f a n).tmps[x]? = (putA ops f a n).tmps[x]?
 | 0, _ => rfl
 | n + 1, h => by
  have ih := putL_at (x := x) n (fun j hj => h j (by omega))
  unfold putL putA
  have sz : (putL ops listed f a n).tmps.size = (putA ops f a n).tmps.size := by rw [putL_size, putA_size]
  cases hd : dstOf ops n with
  | none => simpa [Act.put] using ih
  | some d =>
   by_cases e : d = x
   ·subst e
    rw [if_pos (h n (by omega) hd)]
    simp only [Act.put, Array.getElem?_setIfInBounds, sz, if_true]
   ·split
    ·simp only [Act.put]
     rw [Array.getElem?_setIfInBounds_ne e, Array.getElem?_setIfInBounds_ne e]
     exact ih
    ·simp only [Act.put]
     rw [Array.getElem?_setIfInBounds_ne e]
     exact ih
theorem putL_none (hl : ∀ k, k < ops.size → listed.getD k false = false) : ∀ n, n ≤ ops.size → putL ops listed f a n = a
 | 0, _ => rfl
 | n + 1, hn => by
  unfold putL
  rw [if_neg (by rw [hl n (by omega)]; exact Bool.false_ne_true)]
  exact putL_none hl n (by omega)
theorem putL_all (hl : ∀ k, k < ops.size → listed.getD k false = true) : ∀ n, n ≤ ops.size → putL ops listed f a n = putA ops f a n
 | 0, _ => rfl
 | n + 1, hn => by
  unfold putL putA
  rw [if_pos (hl n (by omega)), putL_all hl n (by omega)]
theorem eval_at {a b : Act} {x : Operand} (h : ∀ t, x = .tmp t → a.tmps[t]? = b.tmps[t]?) : a.eval x = b.eval x := by
 cases x with
 | tmp t => simp [Act.eval, h t rfl]
 | _ => rfl
theorem put_turn {a b : Act} {d : Option Tmp} {u v : Value} (hs : a.tmps.size = b.tmps.size) (h : a.put d u = a.put d v) : b.put d u = b.put d v := by
 cases d with
 | none => rfl
 | some t =>
  simp only [Act.put] at h ⊢
  by_cases hlt : t < a.tmps.size
  ·have h1 : (a.tmps.setIfInBounds t u)[t]? = (a.tmps.setIfInBounds t v)[t]? := by
    injection h with h1 h2
    rw [h1]
   rw [Array.getElem?_setIfInBounds_self_of_lt hlt, Array.getElem?_setIfInBounds_self_of_lt hlt] at h1
   injection h1 with h1
   rw [h1]
  ·have e : ∀ z : Value, b.tmps.setIfInBounds t z = b.tmps := fun z => by
    apply Array.ext_getElem?
    intro k
    rw [Array.getElem?_setIfInBounds]
    by_cases e : t = k
    ·rw [if_pos e, ← e, if_neg (show ¬ t < b.tmps.size from by rw [← hs]; exact hlt), Array.getElem?_eq_none (show b.tmps.size ≤ t from by rw [← hs]; exact Nat.le_of_not_lt hlt)]
    ·rw [if_neg e]
   rw [e u, e v]
end
def StepOK (P : Program) (ops : Array Oper) (Rs : List MP) (w0 : World) (AA : (Nat → Value) → Act) (i : Nat) (o : Oper) : Prop :=
 ∀ (f : Nat → Value) (w : World), Below w0.heap.size w0 w → (∀ j, (needsOf .any ops i).contains j = true → (Rs.getD j MP.any).p (f j) w) →
  ∀ (K : Act → World → Prop) (Q : Exit → Act → World → Prop), (∀ v w', Below w.heap.size w w' → (Rs.getD i MP.any).p v w' → K ((AA f).put o.dst v) w') →
   if Region.wanted o (yielded ops (AA f).tmps) = true then Oper.wp P o (AA f) w K Q else K ((AA f).put o.dst undef) w
def Steps (P : Program) (ops : Array Oper) (Rs : List MP) (w0 : World) (AA : (Nat → Value) → Act) (l : List Nat) : Prop := ∀ i ∈ l, ∀ o, ops[i]? = some o → StepOK P ops Rs w0 AA i o
section
variable {P : Program} {ops : Array Oper} {Q : Exit → Act → World → Prop} {Rs : List MP} {w0 : World} {AA : (Nat → Value) → Act}
theorem Steps.nil : Steps P ops Rs w0 AA [] := fun _ h => by cases h
theorem Steps.cons {i : Nat} {l : List Nat} {o : Oper} (ho : ops[i]? = some o) (h : StepOK P ops Rs w0 AA i o) (hs : Steps P ops Rs w0 AA l) : Steps P ops Rs w0 AA (i :: l) := fun j hj x hx => by
 rcases List.mem_cons.1 hj with rfl | hj
 ·rw [ho] at hx
  cases hx
  exact h
 ·exact hs j hj x hx
theorem mono_step {i : Nat} {o : Oper} {a : Act} {w : World} {f : Nat → Value} {listed : Array Bool} (ho : ops[i]? = some o) (hAA : ∀ f, putA ops f a ops.size = AA f) (hd : dstsApart ops = true) (hk : looksBack .any ops = true) (hsel : Region.noSelect ops = true)
  (hs : listed.size = ops.size) (hl : listed.getD i true = false) (hn : ∀ j, (needsOf .any ops i).contains j = true → listed.getD j false = true)
  (hB : Below w0.heap.size w0 w) (hR : ∀ j, j < ops.size → listed.getD j false = true → (Rs.getD j MP.any).p (f j) w) (hst : StepOK P ops Rs w0 AA i o)
  (hnlt : ∀ j, (needsOf .any ops i).contains j = true → j < ops.size) :
  wpOp P ops Q i (fun a' w' => ∃ f', a' = putL ops (listed.setIfInBounds i true) f' a ops.size ∧ Below w0.heap.size w0 w' ∧ ∀ j, j < ops.size → (listed.setIfInBounds i true).getD j false = true → (Rs.getD j MP.any).p (f' j) w') (putL ops listed f a ops.size) w := by
 have hi : i < ops.size := (Array.getElem?_eq_some_iff.1 ho).1
 have hlook : ∀ x ∈ o.looksAt ops, (putL ops listed f a ops.size).tmps[x]? = (AA f).tmps[x]? := by
  intro x hx
  rw [← hAA f]
  refine putL_at _ (fun j hj he => ?_)
  unfold looksBack at hk
  rw [List.all_eq_true] at hk
  have h1 := hk i (List.mem_range.2 hi)
  rw [ho] at h1
  simp only [List.all_eq_true] at h1
  have h2 := h1 x hx j (List.mem_range.2 hj)
  simp only [Bool.or_eq_true] at h2
  rcases h2 with h2 | h2
  ·rw [he] at h2
   simp at h2
  ·exact hn j h2
 have hex : execOp (putL ops listed f a ops.size).eval o = execOp (AA f).eval o := execOp_congr o (fun cs b => Region.noSelect_spec hsel i o cs b ho) (fun x hx => eval_at (fun t e => hlook t (by
  subst e
  exact List.mem_append_left _ (List.mem_filterMap.2 ⟨.tmp t, by simpa using hx, rfl⟩))))
 have hwt : Region.wanted o (yielded ops (putL ops listed f a ops.size).tmps) = Region.wanted o (yielded ops (AA f).tmps) := by
  unfold Region.wanted
  cases hg : o.guard with
  | none => rfl
  | some gw =>
   obtain ⟨g, want⟩ := gw
   simp only
   have hy : yielded ops (putL ops listed f a ops.size).tmps g = yielded ops (AA f).tmps g := by
    unfold yielded
    cases ht : (ops[g]?).bind (·.dst) with
    | none => rfl
    | some t =>
     simp only [Option.bind_some]
     rw [hlook t (by simp [Oper.looksAt, hg, ht])]
   rw [hy]
 have hdef : (AA f).defers = (putL ops listed f a ops.size).defers := by rw [← hAA f, putA_defers, putL_defers]
 have hsz : (AA f).tmps.size = (putL ops listed f a ops.size).tmps.size := by rw [← hAA f, putA_size, putL_size]
 -- the way on
 have fin : ∀ v w', (∃ v2, (AA f).put o.dst v = (AA f).put o.dst v2 ∧ Below w.heap.size w w' ∧ (Rs.getD i MP.any).p v2 w') → ∃ f', (putL ops listed f a ops.size).put o.dst v = putL ops (listed.setIfInBounds i true) f' a ops.size ∧ Below w0.heap.size w0 w' ∧ ∀ j, j < ops.size → (listed.setIfInBounds i true).getD j false = true → (Rs.getD j MP.any).p (f' j) w' := by
  rintro v w' ⟨v2, e, hb, hr⟩
  have hdst : dstOf ops i = o.dst := by unfold dstOf; rw [ho]; rfl
  refine ⟨upd f i v2, ?_, ⟨hb.os.trans hB.os, hb.tape.trans hB.tape, hb.output.trans hB.output, Nat.le_trans hB.size hb.size, fun k hk => (hb.block k (Nat.lt_of_lt_of_le hk hB.size)).trans (hB.block k hk)⟩, fun j hj hlj => ?_⟩
  ·rw [putL_set hd hs hl ops.size (Nat.le_refl _) hi, hdst]
   exact put_turn hsz e
  ·by_cases e2 : j = i
   ·subst e2
    unfold upd
    rw [if_pos rfl]
    exact hr
   ·unfold upd
    rw [if_neg e2]
    rw [getD_set_ne false (Ne.symm e2)] at hlj
    exact (Rs.getD j MP.any).mono _ _ _ hb (hR j hj hlj)
 have hK := hst f w hB (fun j hj => hR j (hnlt j hj) (hn j hj)) (fun a' w' => ∃ v2, a' = (AA f).put o.dst v2 ∧ Below w.heap.size w w' ∧ (Rs.getD i MP.any).p v2 w') (fun _ _ _ => False) (fun v w' hb hr => ⟨v, rfl, hb, hr⟩)
 unfold wpOp
 rw [ho]
 simp only
 rw [hwt]
 split
 ·rename_i hw
  rw [if_pos hw] at hK
  refine .inl ?_
  unfold Oper.wp at hK ⊢
  rw [hex]
  generalize (execOp (AA f).eval o).run P w = r at *
  cases r with
  | ok n w' =>
   cases n <;> simp only [Oper.upon] at hK ⊢
   case value v => exact fin v w' hK
   case skip => exact fin _ w' hK
   case defer d =>
    exfalso
    obtain ⟨v2, e, _⟩ := hK
    have h1 := congrArg Act.defers e
    rw [put_defers, put_defers] at h1
    have h2 := congrArg List.length h1
    simp at h2
   case enter fn args =>
    refine Calls.mono hK fun e w'' he => ?_
    cases e with
    | returned v => exact fin v w'' he
    | panicked c => exact he.elim
    | outgrown => obtain ⟨_, _, h⟩ := he; exact h.elim
   case row row args => exact Rows.mono hK fun v w'' he => fin v w'' he
  | halt x w' => cases x <;> simp only [Oper.upon] at hK
 ·rename_i hw
  rw [if_neg hw] at hK
  exact fin _ w hK
theorem wpAny_mono (hb : edgesBack .any ops = true) {a : Act} (hAA : ∀ f, putA ops f a ops.size = AA f) (hd : dstsApart ops = true) (hk : looksBack .any ops = true) (hsel : Region.noSelect ops = true)
  (hst : Steps P ops Rs w0 AA (List.range ops.size)) (hend : ∀ f w, Below w0.heap.size w0 w → (∀ j, j < ops.size → (Rs.getD j MP.any).p (f j) w) → Q .normal (AA f) w)
  (hnlt : ∀ i j, i < ops.size → (needsOf .any ops i).contains j = true → j < ops.size) :
  ∀ (fuel : Nat) (listed : Array Bool) (f : Nat → Value) (w : World), listed.size = ops.size → closedL .any ops listed → Below w0.heap.size w0 w → (∀ j, j < ops.size → listed.getD j false = true → (Rs.getD j MP.any).p (f j) w) → ((List.range ops.size).filter (fun j => !listed.getD j false)).length ≤ fuel →
   wpAny P .any ops Q fuel listed (putL ops listed f a ops.size) w := by
 have done : ∀ (listed : Array Bool) (f : Nat → Value) (w : World), listed.size = ops.size → Below w0.heap.size w0 w → (∀ j, j < ops.size → listed.getD j false = true → (Rs.getD j MP.any).p (f j) w) → Region.ready .any ops listed = [] → Q .normal (putL ops listed f a ops.size) w := by
  intro listed f w hs hB hR hr
  have hall := all_listed hb hs hr ops.size (Nat.le_refl _)
  rw [putL_all hall ops.size (Nat.le_refl _), hAA]
  exact hend f w hB (fun j hj => hR j hj (hall j hj))
 intro fuel
 induction fuel with
 | zero =>
  intro listed f w hs hc hB hR hf
  have hr : Region.ready .any ops listed = [] := by
   rcases hq : Region.ready .any ops listed with _ | ⟨x, xs⟩
   ·rfl
   ·exfalso
    have hx : x ∈ Region.ready .any ops listed := by rw [hq]; simp
    obtain ⟨h1, z, hz, _⟩ := mem_ready.1 hx
    have hxl : x < ops.size := (Array.getElem?_eq_some_iff.1 hz).1
    have hx2 : x ∈ (List.range ops.size).filter (fun j => !listed.getD j false) := by
     rw [List.mem_filter]
     refine ⟨List.mem_range.2 hxl, ?_⟩
     rw [Array.getD_eq_getD_getElem?, Array.getElem?_eq_getElem (show x < listed.size by omega)] at h1 ⊢
     simp only [Option.getD_some] at h1 ⊢
     rw [h1]
     rfl
    rw [List.length_eq_zero_iff.1 (Nat.le_zero.1 hf)] at hx2
    cases hx2
  exact ⟨hr, done listed f w hs hB hR hr⟩
 | succ fuel ih =>
  intro listed f w hs hc hB hR hf
  refine ⟨done listed f w hs hB hR, fun i hi => ?_⟩
  obtain ⟨h1, o, ho, hall⟩ := mem_ready.1 hi
  have hil : i < ops.size := (Array.getElem?_eq_some_iff.1 ho).1
  have hneed : ∀ j, (needsOf .any ops i).contains j = true → listed.getD j false = true := by
   intro j hj
   refine needs_listed hc hs ops.size (depsOf .any ops i) (fun k hk2 => ?_) j (by simpa [needsOf] using hj)
   unfold depsOf at hk2
   rw [ho] at hk2
   simp only [List.mem_map, List.mem_filter, Array.mem_toList_iff] at hk2
   obtain ⟨e, ⟨he, hbd⟩, rfl⟩ := hk2
   exact hall e he hbd
  refine wpOp_mono (fun a' w' => ?_) (mono_step ho hAA hd hk hsel hs h1 hneed hB hR (hst i (List.mem_range.2 hil) o ho) (fun j => hnlt i j hil))
  rintro ⟨f', rfl, hB', hR'⟩
  refine ih (listed.setIfInBounds i true) f' w' (by simp [hs]) (fun j x hx hj e he hbd => ?_) hB' hR' ?_
  ·by_cases e0 : i = j
   ·subst e0
    rw [ho] at hx
    cases hx
    exact getD_set_true (hall e he hbd)
   ·rw [getD_set_ne true e0] at hj
    exact getD_set_true (hc j x hx hj e he hbd)
  ·-- one fewer
   have hlt : ((List.range ops.size).filter (fun j => !(listed.setIfInBounds i true).getD j false)).length < ((List.range ops.size).filter (fun j => !listed.getD j false)).length := by
    have e1 : (List.range ops.size).filter (fun j => !(listed.setIfInBounds i true).getD j false) = ((List.range ops.size).filter (fun j => !listed.getD j false)).filter (fun j => decide (j ≠ i)) := by
     rw [List.filter_filter]
     refine List.filter_congr (fun j hj => ?_)
     by_cases e : j = i
     ·subst e
      have : (listed.setIfInBounds j true).getD j false = true := by
       rw [Array.getD_eq_getD_getElem?, Array.getElem?_setIfInBounds_self_of_lt (by omega)]
       rfl
      rw [this]
      simp
     ·rw [getD_set_ne false (Ne.symm e)]
      simp [e]
    rw [e1]
    refine List.length_filter_lt_length_iff_exists.2 ⟨i, ?_, by simp⟩
    rw [List.mem_filter]
    refine ⟨List.mem_range.2 hil, ?_⟩
    rw [Array.getD_eq_getD_getElem?, Array.getElem?_eq_getElem (show i < listed.size by omega)] at h1 ⊢
    simp only [Option.getD_some] at h1 ⊢
    rw [h1]
    rfl
   omega
theorem wp_region_mono {id : Nat} {a : Act} {w : World} (hm : P.follows .mixedOrders = true) (hb : edgesBack .any ops = true) (hd : dstsApart ops = true) (hk : looksBack .any ops = true) (hsel : Region.noSelect ops = true)
  (hnl : ((List.range ops.size).all fun i => (needsOf .any ops i).all fun j => decide (j < ops.size)) = true) (Rs : List MP) (hAA : ∀ f, putA ops f a ops.size = AA f)
  (hst : Steps P ops Rs w.drew AA (List.range ops.size)) (hend : ∀ f w', Below w.drew.heap.size w.drew w' → (∀ j, j < ops.size → (Rs.getD j MP.any).p (f j) w') → Q .normal (AA f) w') : (Code.region id ops true).wp P Q a w := by
 refine wp_region_any hm ?_
 have hl0 : ∀ k, k < ops.size → (Array.replicate ops.size false).getD k false = false := fun k hk => by
  rw [Array.getD_eq_getD_getElem?, Array.getElem?_eq_getElem (by simpa using hk)]
  simp
 have h := wpAny_mono (Q := Q) hb hAA hd hk hsel hst hend (fun i j hi hj => by
  rw [List.all_eq_true] at hnl
  have h1 := hnl i (List.mem_range.2 hi)
  rw [List.all_eq_true] at h1
  simpa using h1 j (by simpa using hj)) ops.size (Array.replicate ops.size false) (fun _ => undef) w.drew (by simp) (fun j x hx hj => by
  have hlt := (Array.getElem?_eq_some_iff.1 hx).1
  rw [Array.getD_eq_getD_getElem?, Array.getElem?_eq_getElem (by simpa using hlt)] at hj
  simp at hj) ⟨rfl, rfl, rfl, Nat.le_refl _, fun _ _ => rfl⟩ (fun j hj h => by rw [hl0 j hj] at h; cases h) (by
  refine Nat.le_trans (List.length_filter_le _ _) ?_
  simp)
 rw [putL_none hl0 ops.size (Nat.le_refl _)] at h
 exact h
end
theorem bel_drew {w w2 : World} (h : Below w.drew.heap.size w.drew w2) : Below w.heap.size w w2 := ⟨h.os, h.tape, h.output, h.size, h.block⟩
end Go.Proofs.Ytnkeclpgpiogoaa

/-! Mpb -/
namespace Go.Proofs.Ytnkeclpgpiogoaa
open Go Go.RowKit
def VN (w : World) (v : Value) (n : Nat) (l : List UInt8) : Prop := ∃ A c, v = .slice A n c ∧ BR w A n l ∧ n ≤ c ∧ c ≤ maxLen
theorem VN.below {w w' : World} {v : Value} {n : Nat} {l : List UInt8} (h : VN w v n l) (hb : Below w.heap.size w w') : VN w' v n l := by
 obtain ⟨A, c, e, h1, h2⟩ := h
 exact ⟨A, c, e, h1.below hb, h2⟩
def PV (w : World) (v : Value) (a : Int) (n : Nat) (l : List UInt8) : Prop := ∃ u, v = .agg #[.int .i64 a, u] ∧ VN w u n l
theorem PV.below {w w' : World} {v : Value} {a : Int} {n : Nat} {l : List UInt8} (h : PV w v a n l) (hb : Below w.heap.size w w') : PV w' v a n l := by
 obtain ⟨u, e, h1⟩ := h
 exact ⟨u, e, h1.below hb⟩
def PN (w : World) (v : Value) (n : Nat) (ps : List Pc) : Prop := ∃ A c, v = .slice A n c ∧ PR w A n ps ∧ n ≤ c ∧ c ≤ maxLen
theorem PN.below {w w' : World} {v : Value} {n : Nat} {ps : List Pc} (h : PN w v n ps) (hb : Below w.heap.size w w') : PN w' v n ps := by
 obtain ⟨A, c, e, h1, h2⟩ := h
 exact ⟨A, c, e, h1.below hb, h2⟩
end Go.Proofs.Ytnkeclpgpiogoaa

/-! RdA -/
namespace Go.Proofs.Ytnkeclpgpiogoaa
open Go.RowKit
section
variable {w w' : World} {rb : Nat} {A : Option Addr} {n c a : Nat} {bad : Bool}
end
section
variable {w : World} {rb : Nat} {A : Option Addr} {n c a : Nat} {bad : Bool}
end
end Go.Proofs.Ytnkeclpgpiogoaa

/-! RdB -/
namespace Go.Proofs.Ytnkeclpgpiogoaa
open Go.RowKit
end Go.Proofs.Ytnkeclpgpiogoaa

/-! RdC -/
namespace Go.Proofs.Ytnkeclpgpiogoaa
open Go.RowKit
section
variable {w w' w4 : World} {base : Nat} {v v4 : Value} {ps : List Pc}
theorem OB.ty {S : Nat → Prop} {l : List UInt8} (h : OB w base v l) (ho : Off S w w') (hS : ∀ k, S k → ∃ cs t fr, w.heap[k]? = some (.cells cs t fr) ∧ t ≠ 5) : OB w' base v l := by
 refine h.off ho (fun k hk hs => ?_)
 obtain ⟨cs, t, fr, e1, e2⟩ := hS k hs
 obtain ⟨cur, hc⟩ := own_blk h hk
 exact cells_ne e1 hc e2
end
section
variable {w0 w w' w4 : World} {rb cb : Nat} {A : Option Addr} {n c : Nat} {s s' : Option Nat} {pg : Int} {v1 v2 : Value} {img : List UInt8} {ps : List Pc}
end
section
variable {w0 w w' w4 : World} {rb cb : Nat} {A : Option Addr} {n c : Nat} {s s' : Option Nat} {pg : Int} {v1 v2 v4 : Value} {img : List UInt8} {ps : List Pc}
end
end Go.Proofs.Ytnkeclpgpiogoaa

/-! RdD -/
namespace Go.Proofs.Ytnkeclpgpiogoaa
open Go.RowKit
end Go.Proofs.Ytnkeclpgpiogoaa

/-! RdE -/
namespace Go.Proofs.Ytnkeclpgpiogoaa
open Go.RowKit
section
variable {w w' w4 : World} {base : Nat} {v v4 : Value} {cs : List Ch}
end
section
variable {w0 w w' w4 : World} {rb cb : Nat} {A : Option Addr} {n c : Nat} {s s' : Option Nat} {kd tx : Int} {v2 v4 : Value} {cs : List Ch}
end
end Go.Proofs.Ytnkeclpgpiogoaa
