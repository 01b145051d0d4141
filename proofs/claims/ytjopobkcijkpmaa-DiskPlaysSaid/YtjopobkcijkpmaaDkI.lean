/-
  Contract: disk's Read.
-/
import Derived.Test.YtjopobkcijkpmaaDkH
import Derived.Laws.EntriesVeiled
import Derived.Shelf.Abstract
import Derived.Stop.RegionWithIn
namespace Go.Proofs.Ytjopobkcijkpmaa
open Go.RowKit Go.Shelf

attribute [local go_sem] Oper.semAt_some

/-- The last write upon block b, or what is durable there. -/
def lastL (bs : List (List UInt8)) (ps : List (Nat × List UInt8)) (b : Nat) : List UInt8 := ps.foldl (fun l p => if p.1 = b then p.2 else l) (bs.getD b [])

/-- Read: what it answers. -/
def readE (D : DiskS) (b : Int) : Int := if askE D b ≠ 0 then askE D b else if D.down then 6 else 0
def readL (D : DiskS) (b : Int) : List UInt8 := if readE D b ≠ 0 then [] else lastL D.blocks D.pending b.toNat

theorem lastL_none {bs : List (List UInt8)} {ps : List (Nat × List UInt8)} {b : Nat} (h : ∀ p ∈ ps, p.1 ≠ b) : lastL bs ps b = bs.getD b [] := by
  unfold lastL
  generalize bs.getD b [] = l
  induction ps generalizing l with
  | nil => rfl
  | cons p ps ih =>
    rw [List.foldl_cons, if_neg (h p (List.mem_cons_self ..))]
    exact ih (fun q hq => h q (List.mem_cons_of_mem _ hq)) l
theorem lastL_at {bs : List (List UInt8)} {ps : List (Nat × List UInt8)} {b i : Nat} {p : Nat × List UInt8} (hi : ps[i]? = some p) (hp : p.1 = b) (h : ∀ j q, i < j → ps[j]? = some q → q.1 ≠ b) : lastL bs ps b = p.2 := by
  obtain ⟨hl, e⟩ := List.getElem?_eq_some_iff.1 hi
  have hs : ps = ps.take i ++ p :: ps.drop (i + 1) := by rw [← e, ← List.drop_eq_getElem_cons hl, List.take_append_drop]
  unfold lastL
  rw [hs, List.foldl_append, List.foldl_cons, if_pos hp]
  have := lastL_none (bs := [p.2]) (b := 0) (ps := (ps.drop (i + 1)).map fun q => (if q.1 = b then 0 else 1, q.2)) (fun q hq => by
    obtain ⟨r, hr, rfl⟩ := List.mem_map.1 hq
    obtain ⟨j, hj, rfl⟩ := List.getElem_of_mem hr
    have := h (i + 1 + j) _ (by omega) (by rw [← List.getElem?_drop]; exact List.getElem?_eq_getElem hj)
    dsimp only
    rw [if_neg this]
    omega)
  unfold lastL at this
  rw [List.foldl_map] at this
  have e2 : ∀ (l : List UInt8) (q : Nat × List UInt8), (if (if q.1 = b then 0 else 1) = 0 then q.2 else l) = if q.1 = b then q.2 else l := by
    intro l q
    by_cases hq : q.1 = b <;> simp [hq]
  simp only [e2] at this
  exact this

set_option maxRecDepth 100000 in
set_option maxHeartbeats 1000000 in
theorem Read_bad (w : World) (ok : Nat → Prop) (base g : Nat) (F : Nat → Prop) (D : DiskS) (b : Int) (h : IsD w ok base g F D) (hr : readE D b ≠ 0) :
    Calls Try.prog 24 #[.pointer (some ⟨g, 0, none⟩), .int .i64 b] w fun e w' => e = .returned (.tuple #[.slice none 0 0, .int .i64 (readE D b)]) ∧ Below w.heap.size w w' := by
  have hb3 : Below w.heap.size w (((w.alloc (.cells #[.int .i64 b] 3)).alloc (.cells #[.slice none 0 0] 33)).alloc (.cells #[.int .i64 0] 28)) := gr_alloc (gr_alloc (gr_alloc (gr_refl w) _) _) _
  have h3 := h.below hb3
  have HA := Lib.hid (asked_any _ ok base g F D b h3)
  by_cases h0 : askE D b = 0
  · have hE : readE D b = 6 ∧ D.down = true := by
      unfold readE at hr ⊢
      rw [if_neg (by rw [h0]; simp)] at hr ⊢
      cases hd : D.down with
      | true => simp
      | false => rw [hd] at hr; simp at hr
    rw [h0] at HA
    rw [hE.1]
    obtain ⟨dr, dc, pv, dvs, pvs, hd, hF⟩ := h3
    have c3 := hd.db.c3
    rw [hE.2] at c3
    clear hd hF h hr h0 hE
    go_enter Try.func24, Try.ntmps24
    go_wp2_with fail
    refine HA.out.mono ?_
    rintro e w' ⟨rfl, rfl⟩
    go_wp2_with fail
    exact bodyPost_ret (v := .tuple #[.slice none 0 0, .int .i64 6]) (by simp [results, Try.results24, go_sem]) rfl ⟨rfl, gr_alloc (gr_alloc (gr_alloc (gr_refl w) _) _) _⟩
  · have hE : readE D b = askE D b := by unfold readE; rw [if_pos h0]
    rw [hE]
    have t1 : (askE D b != 0) = true := by rw [bne_iff_ne]; exact h0
    clear h3 hr hE h0
    generalize askE D b = ae at *
    go_enter Try.func24, Try.ntmps24
    go_wp2_with fail
    refine HA.out.mono ?_
    rintro e w' ⟨rfl, rfl⟩
    go_wp2_with fail
    exact bodyPost_ret (v := .tuple #[.slice none 0 0, .int .i64 ae]) (by simp [results, Try.results24, go_sem]) rfl ⟨rfl, gr_alloc (gr_alloc (gr_alloc (gr_refl w) _) _) _⟩

theorem keepsO {w w' : World} (h : Below w.heap.size w w') : KeepsOthers w w' := ⟨h.size, fun k _ hk _ => (h.block k (Array.getElem?_eq_some_iff.1 hk).1).trans hk⟩

/-- None of the last k writes is upon block b. -/
def noW (ps : List (Nat × List UInt8)) (b np k : Nat) : Prop := ∀ j p, np - k ≤ j → ps[j]? = some p → p.1 ≠ b

/-- All that Read's loop keeps. -/
structure RI (n₀ : Nat) (w : World) (b : Nat) (v4 : Value) (Av : Value) (W : World) : Prop where
  b3 : Boxed W n₀ 3 (.int .i64 (b : Int))
  b4 : Boxed W (n₀ + 1) 33 v4
  b5 : Boxed W (n₀ + 1 + 1) 28 (.int .i64 0)
  bb : Boxed W (n₀ + 1 + 1 + 1) 76 Av
  below : Below n₀ w W

theorem RI.ck {n₀ : Nat} {w : World} {b : Nat} {v4 Av : Value} {W W' : World} {row : Option Nat} (h : RI n₀ w b v4 Av W) (hg : W.grownBy W' row) (hr : ∀ r, row = some r → ∃ o : Obj, W.heap[r]? = some o ∧ o.isCells = false) (hb : Below n₀ w W') : RI n₀ w b v4 Av W' := by
  have hk : ∀ {k : Nat} {t : TypeId} {v : Value}, Boxed W k t v → Boxed W' k t v := fun {k t v} hB => hB.kept hg (fun e => by
    obtain ⟨o, ho, hc⟩ := hr k e.symm
    rw [show W.heap[k]? = _ from hB] at ho
    cases ho
    cases hc)
  exact ⟨hk h.b3, hk h.b4, hk h.b5, hk h.bb, hb⟩

/-- Only the way on. -/
def onlyN (K : Act → World → Prop) : Exit → Act → World → Prop
  | .normal, a, w => K a w
  | _, _, _ => False
theorem wpIn_onlyN {F : Fence} {n : Nat} {P : Program} {c : Code} {K : Act → World → Prop} {Q' : Exit → Act → World → Prop} {a : Act} {w : World} (h : c.wpIn F n P (onlyN K) a w) : c.wpIn F n P (Exit.then K Q') a w :=
  wpIn_mono h (fun e a w hp => by cases e <;> first | exact hp | exact hp.elim)

theorem RI.drawn {n₀ : Nat} {w : World} {b : Nat} {v4 Av : Value} {W : World} (h : RI n₀ w b v4 Av W) : RI n₀ w b v4 Av W.drew := ⟨h.b3, h.b4, h.b5, h.bb, ⟨h.below.os, h.below.tape, h.below.output, h.below.size, h.below.block⟩⟩

/-- What the last region's stores find. -/
theorem RI.laid {n₀ : Nat} {w : World} {b : Nat} {v4 Av : Value} {W W1 : World} (h : RI n₀ w b v4 Av W) (hb1 : Below W.heap.size W W1) (x : Value) :
    W1.cell? ⟨n₀ + 1, 0, none⟩ = some v4 ∧ W1.frozen? ⟨n₀ + 1, 0, none⟩ = false ∧ (W1.setCell ⟨n₀ + 1, 0, none⟩ x).cell? ⟨n₀ + 1 + 1, 0, none⟩ = some (.int .i64 0) ∧ (W1.setCell ⟨n₀ + 1, 0, none⟩ x).frozen? ⟨n₀ + 1 + 1, 0, none⟩ = false ∧
    (n₀ ≤ W.heap.size → RI n₀ w b x Av ((W1.setCell ⟨n₀ + 1, 0, none⟩ x).setCell ⟨n₀ + 1 + 1, 0, none⟩ (.int .i64 0))) := by
  have kp : ∀ {k : Nat} {t : TypeId} {v : Value}, Boxed W k t v → Boxed W1 k t v := fun {k t v} hB => Boxed.kept hB (row := none) ⟨hb1.os, hb1.tape, hb1.output, hb1.size, fun k hk _ => hb1.block k hk⟩ (by simp)
  have b3 := kp h.b3
  have b4 := kp h.b4
  have b5 := kp h.b5
  have bb := kp h.bb
  have g4 := grownBy_setCell' W1 (n₀ + 1) x
  have g5 := grownBy_setCell' (W1.setCell ⟨n₀ + 1, 0, none⟩ x) (n₀ + 1 + 1) (.int .i64 0)
  have c5 := b5.kept g4 (by simp)
  refine ⟨b4.cell, b4.frozen, c5.cell, c5.frozen, fun hle => ⟨?_, ?_, ?_, ?_, ?_⟩⟩
  · exact (b3.kept g4 (by simp; try omega)).kept g5 (by simp; try omega)
  · exact (b4.set _).kept g5 (by simp; try omega)
  · exact c5.set _
  · exact (bb.kept g4 (by simp; try omega)).kept g5 (by simp; try omega)
  · exact ((h.below.trans (hb1.mono hle)).setCell (p := ⟨n₀ + 1, 0, none⟩) (by dsimp only; omega) _).setCell (p := ⟨n₀ + 1 + 1, 0, none⟩) (by dsimp only; omega) _

set_option maxRecDepth 100000 in
set_option maxHeartbeats 2000000 in
theorem Read_good (w : World) (ok : Nat → Prop) (base g : Nat) (F : Nat → Prop) (D : DiskS) (b : Nat) (h : IsD w ok base g F D) (hb : b < D.blocks.length) (hdn : D.down = false) (hpl : D.pending.length ≤ 1000000) :
    Calls Try.prog 24 #[.pointer (some ⟨g, 0, none⟩), .int .i64 (b : Int)] w fun e w' => ∃ v, e = .returned (.tuple #[v, .int .i64 0]) ∧ OB w' w.heap.size v (lastL D.blocks D.pending b) ∧ Below w.heap.size w w' := by
  have h0 : askE D (b : Int) = 0 := by unfold askE; rw [if_neg (by omega)]
  have hb3 : Below w.heap.size w (((w.alloc (.cells #[.int .i64 (b : Int)] 3)).alloc (.cells #[.slice none 0 0] 33)).alloc (.cells #[.int .i64 0] 28)) := gr_alloc (gr_alloc (gr_alloc (gr_refl w) _) _) _
  have h3 := h.below hb3
  have HA := Lib.hid (asked_any _ ok base g F D (b : Int) h3)
  rw [h0] at HA
  obtain ⟨dr, dc, pv, dvs, pvs, hdw, hF⟩ := h
  have hd := hdw.below hb3
  have c3 := hd.db.c3
  have c2 := hd.db.c2
  rw [hdn] at c3
  obtain ⟨Ap, cp, rfl, _, _⟩ := own_form hd.pen
  refine (callsIn_wide (n := 9)).1 ?_
  refine callsIn_of_wp_marks Try.func24 rfl trivial ?_ rfl
  simp only [Try.ntmps24, List.size_toArray, List.length_cons, List.length_nil, Nat.reduceAdd, Nat.reduceSub, Array.replicate_succ, Array.replicate_zero, List.push_toArray, List.append_toArray, List.nil_append, List.cons_append]
  gi_wp2_with fail
  refine ⟨trivial, ?_⟩
  refine (callsIn_wide.2 HA.out).mono ?_
  rintro e w' ⟨rfl, rfl⟩
  gi_wp2_with fail
  refine ⟨trivial, ?_⟩
  refine (callsIn_wide.2 (Backward_any Ap _ cp _)).mono ?_
  rintro e w' ⟨rfl, rfl⟩
  gi_wp2_with fail
  have hRI : RI w.heap.size w b (.slice none 0 0) (.slice Ap D.pending.length cp) ((((w.alloc (.cells #[.int .i64 (b : Int)] 3)).alloc (.cells #[.slice none 0 0] 33)).alloc (.cells #[.int .i64 0] 28)).alloc (.cells #[.slice Ap D.pending.length cp] 76)) := by
    have hnew : ∀ (W : World) (t : TypeId) (v : Value) (k : Nat), W.heap.size = k → Boxed (W.alloc (.cells #[v] t)) k t v := fun W t v k e => e ▸ Boxed.new W t v
    exact ⟨(((hnew _ _ _ _ rfl).alloc _).alloc _).alloc _, ((hnew _ _ _ _ (by simp)).alloc _).alloc _, (hnew _ _ _ _ (by simp)).alloc _, hnew _ _ _ _ (by simp), gr_alloc hb3 _⟩
  have hd4 := hd.below (gr_alloc (gr_refl _) (.cells #[.slice Ap D.pending.length cp] 76))
  have hsz : ((((w.alloc (.cells #[.int .i64 (b : Int)] 3)).alloc (.cells #[.slice none 0 0] 33)).alloc (.cells #[.int .i64 0] 28)).alloc (.cells #[.slice Ap D.pending.length cp] 76)).heap.size = w.heap.size + 4 := by simp
  generalize ((((w.alloc (.cells #[.int .i64 (b : Int)] 3)).alloc (.cells #[.slice none 0 0] 33)).alloc (.cells #[.int .i64 0] 28)).alloc (.cells #[.slice Ap D.pending.length cp] 76)) = W0 at *
  generalize hn₀ : w.heap.size = n₀ at *
  have HN := Lib.hid hn₀
  have HZ := Lib.hid hsz
  generalize hnp : D.pending.length = np at *
  have HNP := Lib.hid hnp
  clear hn₀ hsz hnp c2 c3 HA h0 hb3 hd
  have hle : n₀ ≤ W0.heap.size := by have := HZ.out; omega
  have HDW := Lib.hid hdw
  have HPW : Hid (∀ k, k < np → ∃ p q : _ × _, D.pending[np - 1 - k]? = some p ∧ pvs.getD (np - 1 - k) (0, .slice none 0 0) = ((p.1 : Int), q.2) ∧ BW ok w q.2 p.2) := Lib.hid (fun k hk => by
    have hi : np - 1 - k < D.pending.length := by rw [HNP.out]; omega
    have hil : np - 1 - k < pvs.length := by rw [hdw.pl]; exact hi
    obtain ⟨a1, a2, a3⟩ := hdw.pw _ _ _ (List.getElem?_eq_getElem hil) (List.getElem?_eq_getElem hi)
    refine ⟨D.pending[np - 1 - k], pvs[np - 1 - k], List.getElem?_eq_getElem hi, ?_, a3⟩
    rw [List.getD, List.getElem?_eq_getElem hil]
    show pvs[np - 1 - k] = _
    rw [← a1])
  refine rangeFunc_stops rfl (by omega) (gf := 96) (lb := #[.pointer (some ⟨n₀ + 1 + 1 + 1, 0, none⟩)]) rfl trivial (enters_of Try.func96 (by kernel_rfl) rfl)
    (encs := backV pvs) (backL np) (Kp := Kp1 n₀ (n₀ + 1 + 1 + 1)) Kp1.trans ?put ?seq (fun _ => rfl)
    (fun k W => RI n₀ w b (.slice none 0 0) (.slice Ap np cp) W ∧ noW D.pending b np k) ?own (fun W => ∃ v, RI n₀ w b v (.slice Ap np cp) W ∧ OB W n₀ v (lastL D.blocks D.pending b)) ?ownx ⟨hRI, fun j p hj hp => by
      have := (List.getElem?_eq_some_iff.1 hp).1
      rw [HNP.out] at this
      omega⟩
    (fun k a' W => ∃ Bx, n₀ + 3 < Bx ∧ W.heap[Bx]? = some (.cells #[.int .i64 (pvs.getD (np - 1 - k) (0, .slice none 0 0)).1, (pvs.getD (np - 1 - k) (0, .slice none 0 0)).2] 110 (0, 0)) ∧ a' = { tmps := #[.pointer (some ⟨g, 0, none⟩), .int .i64 (b : Int), undef, .pointer (some ⟨n₀, 0, none⟩), .pointer (some ⟨n₀ + 1, 0, none⟩), .pointer (some ⟨n₀ + 1 + 1, 0, none⟩), .int .i64 0, undef, .pointer (some ⟨Bx, 0, none⟩), .pointer (some ⟨g, 0, none⟩), .int .i64 (b : Int), .int .i64 0, .int .i64 0, .bool false, undef, .pointer (some ⟨g, 0, none⟩),
      .pointer (some ⟨g, 0, none⟩), .pointer (some ⟨g, 3, none⟩), .bool false, .pointer (some ⟨g, 0, none⟩), .pointer (some ⟨g, 0, none⟩), .pointer (some ⟨g, 2, none⟩), .slice Ap np cp, .func (.func 96) #[] #[.pointer (some ⟨n₀ + 1 + 1 + 1, 0, none⟩)],
      .int .i64 (((np - 1 - k : Nat)) : Int), .agg #[.int .i64 (pvs.getD (np - 1 - k) (0, .slice none 0 0)).1, (pvs.getD (np - 1 - k) (0, .slice none 0 0)).2], undef, undef, undef, undef, undef, undef, undef, undef, undef, undef, undef, undef, undef, undef, undef], defers := [] }) ?ownA ?assign ?body ?done ?stop
  case put =>
    intro W l o o' hl ho hc
    have hz := HZ.out
    exact ⟨(Below.refl n₀ W).grown (grownBy_putObj' W l o') (by have := (Array.getElem?_eq_some_iff.1 ho).1; omega) (fun k e => by cases e; omega), fun u e => (World.putObj_heap_other (by omega)).trans e⟩
  case seq =>
    intro l J Jx W hB hJ hJx hY hJ0
    have hz := HN.out
    subst hz
    have hW : Below w.heap.size w W := hRI.below.trans (hB.mono hle)
    rw [backL_len]
    refine back1_in 8 l _ w Ap np cp pvs (by have := hdw.pen; rw [HNP.out] at this; exact own_rd this) (hdw.pl.trans HNP.out) hpl (fun q hq => ?_) J Jx hJ hJx hY W hW ((hB.block _ hRI.bb.lt).trans hRI.bb) hJ0
    obtain ⟨j, hj, rfl⟩ := List.getElem_of_mem hq
    have hj' : j < D.pending.length := by rw [← hdw.pl]; exact hj
    obtain ⟨_, gq, e, _⟩ := (hdw.pw j _ _ (List.getElem?_eq_getElem hj) (List.getElem?_eq_getElem hj')).2.2
    exact ⟨_, _, _, e⟩
  case own =>
    rintro k X Y row ⟨h1, h2⟩ hg hr
    have hz := HN.out
    subst hz
    exact ⟨h1.ck hg (fun r e => (hr r e).2) ((ownFrom_below (Nat.le_refl _) hle : OwnFrom W0.heap.size (fun (_ : Nat) W => Below w.heap.size w W)) k X Y row h1.below hg hr), h2⟩
  case ownx =>
    rintro _ X Y row ⟨v, h1, h2⟩ hg hr
    have hz := HN.out
    subst hz
    refine ⟨v, h1.ck hg (fun r e => (hr r e).2) ((ownFrom_below (Nat.le_refl _) hle : OwnFrom W0.heap.size (fun (_ : Nat) W => Below w.heap.size w W)) 0 X Y row h1.below hg hr), World.ownsRow.kept h2 hg ?_⟩
    rcases h2.2 with ⟨rfl, _⟩ | ⟨q, cap, cur, rfl, _, hq, _⟩
    · exact .inl rfl
    · refine .inr fun e => ?_
      obtain ⟨_, o, ho, hc⟩ := hr q (by simpa [Value.ownBlock] using e.symm)
      rw [hq] at ho
      cases ho
      cases hc
  case ownA =>
    rintro a' k X Y row ⟨Bx, h1, h2, h3⟩ hg hr
    refine ⟨Bx, h1, (hg.block Bx (Array.getElem?_eq_some_iff.1 h2).1 (fun e => ?_)).trans h2, h3⟩
    obtain ⟨_, o, ho, hc⟩ := hr Bx e.symm
    rw [h2] at ho
    cases ho
    cases hc
  case assign =>
    intro l k x W K hx hI hK
    have hkn : k < np := by have := (List.getElem?_eq_some_iff.1 hx).1; rwa [backL_len] at this
    rw [backL_at hkn] at hx
    injection hx with hx
    subst hx
    obtain ⟨p, q, e1, e2, _, gq, e3, _⟩ := HPW.out k hkn
    obtain ⟨hI1, hI2⟩ := hI
    have hbl := hI1.bb.lt
    unfold backV
    have HAX := Lib.hid (fun a' => hK a' (W.alloc (.cells #[.int .i64 (pvs.getD (np - 1 - k) (0, .slice none 0 0)).1, (pvs.getD (np - 1 - k) (0, .slice none 0 0)).2] 110)) ((KeepsOthers.alloc _ _).from _) ⟨(Below.refl n₀ W).alloc (by omega) _, fun o h => (Below.heap_alloc W _ _ (Array.getElem?_eq_some_iff.1 h).1).trans h⟩
      ⟨⟨hI1.b3.alloc _, hI1.b4.alloc _, hI1.b5.alloc _, hI1.bb.alloc _, hI1.below.alloc (by omega) _⟩, hI2⟩)
    clear hK
    rw [e2] at HAX ⊢
    dsimp only at HAX ⊢
    rw [e3] at HAX ⊢
    gi_wp2
    refine HAX.out _ ⟨W.heap.size, by omega, heap_alloc_new W _, ?_⟩
    rfl
  case body =>
    rintro l k x a' W hx ⟨hI1, hI2⟩ ⟨Bx, hBx, hcell, rfl⟩
    have hkn : k < np := by have := (List.getElem?_eq_some_iff.1 hx).1; rwa [backL_len] at this
    clear hx
    obtain ⟨⟨p1, p2⟩, q, e1, e2, hbw⟩ := HPW.out k hkn
    dsimp only at e2 hbw
    have hz := HN.out
    subst hz
    have hbw' := hbw.below hI1.below
    obtain ⟨hl2, gq, e3, hBq, _⟩ := hbw'
    rw [e2, e3] at hcell
    dsimp only at hcell
    have k0 : W.cell? ⟨Bx, 0, none⟩ = some (.int .i64 (p1 : Int)) := by rw [cell_of_row W Bx 0 _ _ _ hcell]; rfl
    have k1 : W.cell? ⟨Bx, 1, none⟩ = some (.slice (some ⟨gq, 0, none⟩) 4096 4096) := by rw [cell_of_row W Bx 1 _ _ _ hcell]; rfl
    have k3 := hI1.b3.cell
    by_cases hpb : p1 = b
    · subst hpb
      have hr := hBq.readsAll
      rw [hl2] at hr
      have HWH := Lib.hid (whole_any _ 4096 4096 p2 W hr (Nat.le_refl _))
      rw [splice_zer p2 hl2] at HWH
      have HLL := Lib.hid (lastL_at (bs := D.blocks) e1 rfl (fun j q' hj hq' => hI2 j q' (by omega) hq'))
      have HI1 := Lib.hid hI1
      have HL2 := Lib.hid hl2
      have hWs := hI1.below.size
      clear hbw e1 e2 e3 hBq hcell hr hI2 hI1 hl2
      gi_wp2_with fail
      refine ⟨trivial, ?_⟩
      refine (CallsIn.inRound l (callsIn_wide.2 HWH.out)).mono ?_
      rintro e W1 ⟨rfl, hB1, hb1⟩
      have b4 := Boxed.kept HI1.out.b4 (row := none) ⟨hb1.os, hb1.tape, hb1.output, hb1.size, fun k hk _ => hb1.block k hk⟩ (by simp)
      have b5 := Boxed.kept HI1.out.b5 (row := none) ⟨hb1.os, hb1.tape, hb1.output, hb1.size, fun k hk _ => hb1.block k hk⟩ (by simp)
      have b3 := Boxed.kept HI1.out.b3 (row := none) ⟨hb1.os, hb1.tape, hb1.output, hb1.size, fun k hk _ => hb1.block k hk⟩ (by simp)
      have bb := Boxed.kept HI1.out.bb (row := none) ⟨hb1.os, hb1.tape, hb1.output, hb1.size, fun k hk _ => hb1.block k hk⟩ (by simp)
      have y4 := b4.cell
      have z4 := b4.frozen
      have y5 := (b5.kept (grownBy_setCell' W1 (w.heap.size + 1) (.slice (some ⟨W.heap.size, 0, none⟩) 4096 4096)) (by simp)).cell
      have z5 := (b5.kept (grownBy_setCell' W1 (w.heap.size + 1) (.slice (some ⟨W.heap.size, 0, none⟩) 4096 4096)) (by simp)).frozen
      clear k0 k1 k3
      gi_wp2_with fail
      have g4 := grownBy_setCell' W1 (w.heap.size + 1) (.slice (some ⟨W.heap.size, 0, none⟩) 4096 4096)
      have g5 := grownBy_setCell' (W1.setCell ⟨w.heap.size + 1, 0, none⟩ (.slice (some ⟨W.heap.size, 0, none⟩) 4096 4096)) (w.heap.size + 1 + 1) (.int .i64 0)
      have hbl := HI1.out.bb.lt
      have hob := hB1.own (base := w.heap.size) hWs (by rw [HL2.out]; simp [maxLen])
      rw [HL2.out] at hob
      refine ⟨(((keepsO hb1).trans (KeepsOthers.setCell _ _ _)).trans (KeepsOthers.setCell _ _ _)).from _, .slice (some ⟨W.heap.size, 0, none⟩) 4096 4096, ⟨?_, ?_, ?_, ?_, ?_⟩, ?_⟩
      · exact (b3.kept g4 (by simp; try omega)).kept g5 (by simp; try omega)
      · exact (b4.set _).kept g5 (by simp; try omega)
      · exact (b5.kept g4 (by simp; try omega)).set _
      · exact (bb.kept g4 (by simp; try omega)).kept g5 (by simp; try omega)
      · exact (((HI1.out.below.trans (hb1.mono hWs)).setCell (p := ⟨w.heap.size + 1, 0, none⟩) (by dsimp only; omega) _).setCell (p := ⟨w.heap.size + 1 + 1, 0, none⟩) (by dsimp only; omega) _)
      · rw [HLL.out]
        exact World.ownsRow.kept (World.ownsRow.kept hob g4 (.inr (by simp [Value.ownBlock]; omega))) g5 (.inr (by simp [Value.ownBlock]; omega))
    · have t1 : ((p1 : Int) == (b : Int)) = false := beq_eq_false_iff_ne.2 (by omega)
      have t1' : (p1 == b) = false := beq_eq_false_iff_ne.2 hpb
      have HI : Hid (RI w.heap.size w b (.slice none 0 0) (.slice Ap np cp) W ∧ noW D.pending b np (k + 1)) := Lib.hid ⟨hI1, fun j p hj hp => by
        by_cases e : j = np - 1 - k
        · rw [e, e1] at hp
          cases hp
          exact hpb
        · exact hI2 j p (by omega) hp⟩
      clear hbw e1 e2 e3 hBq hcell hI2 hI1
      gi_wp2_with fail
      exact ⟨KeepsFrom.refl _ _, ⟨Below.refl _ _, fun o h => h⟩, HI.out⟩
  case done =>
    intro l W hD hI hK
    obtain ⟨hI1, hI2⟩ := hI
    have hz := HN.out
    subst hz
    have hdW := HDW.out.below hI1.below
    have c1 := hdW.db.c1
    obtain ⟨uo, co, _, hbo⟩ := hdW.at_ hb
    obtain ⟨Ao, no, co', mo, rfl, hro, hno, hso⟩ := hbo.read
    have HWH := Lib.hid (whole_any Ao no co' mo W.drew (hro.below (gr_drewN (gr_refl W) 1)) hno)
    have HI := Lib.hid hI1.drawn
    have HLL := Lib.hid ((lastL_none (bs := D.blocks) (fun p hp => by
      obtain ⟨j, hj, rfl⟩ := List.getElem_of_mem hp
      exact hI2 j _ (by rw [backL_len]; omega) (List.getElem?_eq_getElem hj))).trans hso.symm)
    have HK := Lib.hid hK
    have HD := Lib.hid hD
    have HSL : Hid ((splice zer 0 mo).length = 4096) := Lib.hid (by rw [hso]; exact hbo.1)
    have hWs := hI1.below.size
    have k3 := hI1.b3.cell
    have hi0' : (0 : Int) ≤ (b : Int) := Int.natCast_nonneg _
    have hi1' : (b : Int) < (D.blocks.length : Int) := by omega
    clear hbo hro hI1 hI2 hdW hK hD hso
    gi_wp2_with fail
    refine wpIn_onlyN ?_
    gi_region_with (refine ⟨trivial, ?_⟩; (with_reducible refine (callsIn_wide.2 HWH.out).mono ?_); rintro e W1 ⟨rfl, hB1, hb1⟩; obtain ⟨y4, z4, y5, z5, hRI1⟩ := HI.out.laid hb1 (.slice (some ⟨W.heap.size, 0, none⟩) 4096 4096))
    all_goals
      rename_i hKK
      refine hKK _ _ ?_
      have hzs := HZ.out
      have hDl := HD.out
      have hll := (Array.getElem?_eq_some_iff.1 HK.out).1
      have hRI2 := hRI1 hWs
      have hKW : ((W1.setCell ⟨w.heap.size + 1, 0, none⟩ (.slice (some ⟨W.heap.size, 0, none⟩) 4096 4096)).setCell ⟨w.heap.size + 1 + 1, 0, none⟩ (.int .i64 0)).heap[l]? = some (.deferred (some [])) := by
        rw [Below.heap_setCell _ _ _ l (by dsimp only; omega), Below.heap_setCell _ _ _ l (by dsimp only; omega), hb1.block l hll]
        exact HK.out
      have hob := hB1.own (base := w.heap.size) hWs (by rw [HSL.out]; simp [maxLen])
      rw [HSL.out, ← HLL.out] at hob
      have hob2 : OB ((W1.setCell ⟨w.heap.size + 1, 0, none⟩ (.slice (some ⟨W.heap.size, 0, none⟩) 4096 4096)).setCell ⟨w.heap.size + 1 + 1, 0, none⟩ (.int .i64 0)) w.heap.size (.slice (some ⟨W.heap.size, 0, none⟩) 4096 4096) (lastL D.blocks D.pending b) :=
        World.ownsRow.kept (World.ownsRow.kept hob (grownBy_setCell' _ _ _) (.inr (by simp [Value.ownBlock]; omega))) (grownBy_setCell' _ _ _) (.inr (by simp [Value.ownBlock]; omega))
      clear hb1 hB1 y4 z4 y5 z5 hRI1 hob
      generalize ((W1.setCell ⟨w.heap.size + 1, 0, none⟩ (.slice (some ⟨W.heap.size, 0, none⟩) 4096 4096)).setCell ⟨w.heap.size + 1 + 1, 0, none⟩ (.int .i64 0)) = W2 at *
      generalize Value.slice (some ⟨W.heap.size, 0, none⟩) 4096 4096 = v at *
      have HI := Lib.hid hRI2
      have HO := Lib.hid hob2
      have k4 := hRI2.b4.cell
      have k5 := hRI2.b5.cell
      have hK := Lib.hid hKW
      clear hob2 hRI2 hKW
      gi_wp2_with fail
      refine ⟨by simp, .inl ⟨_, _, rfl, run_takeDeferred hK.out, ?_⟩⟩
      have hg := grownBy_putObj' W2 l (.deferred none)
      have hbb : Below w.heap.size W2 (W2.putObj l (.deferred none)) := (Below.refl _ W2).grown hg (by have := (Array.getElem?_eq_some_iff.1 hK.out).1; omega) (fun k e => by cases e; omega)
      have q4 := (HI.out.b4.kept hg (by simp; omega)).cell
      have q5 := (HI.out.b5.kept hg (by simp; omega)).cell
      have hoo : OB (W2.putObj l (.deferred none)) w.heap.size v (lastL D.blocks D.pending b) := World.ownsRow.kept HO.out hg (by
        rcases HO.out.2 with ⟨rfl, _⟩ | ⟨q, cap, cur, rfl, _, hq, _⟩
        · exact .inl rfl
        · refine .inr fun e => ?_
          have e' : q = l := by simpa [Value.ownBlock] using e
          rw [e', hK.out] at hq
          cases hq)
      exact ⟨_, (by simp [results, Try.results24, go_sem, q4, q5]), v, rfl, hoo, HI.out.below.trans hbb⟩
  case stop =>
    rintro l W hl ⟨v, hI1, hO⟩ hK
    have HI := Lib.hid hI1
    have HO := Lib.hid hO
    have k4 := hI1.b4.cell
    have k5 := hI1.b5.cell
    clear hO hI1
    gi_wp2_with fail
    refine ⟨by simp, .inl ⟨_, _, rfl, run_takeDeferred hK, ?_⟩⟩
    have hz := HN.out
    subst hz
    have hzs := HZ.out
    have hg := grownBy_putObj' W l (.deferred none)
    have hbb : Below w.heap.size W (W.putObj l (.deferred none)) := (Below.refl _ W).grown hg (by have := (Array.getElem?_eq_some_iff.1 hK).1; omega) (fun k e => by cases e; omega)
    have q4 := (HI.out.b4.kept hg (by simp; omega)).cell
    have q5 := (HI.out.b5.kept hg (by simp; omega)).cell
    have hoo : OB (W.putObj l (.deferred none)) w.heap.size v (lastL D.blocks D.pending b) := World.ownsRow.kept HO.out hg (by
      rcases HO.out.2 with ⟨rfl, _⟩ | ⟨q, cap, cur, rfl, _, hq, _⟩
      · exact .inl rfl
      · refine .inr fun e => ?_
        have e' : q = l := by simpa [Value.ownBlock] using e
        rw [e', hK] at hq
        cases hq)
    exact ⟨_, (by simp [results, Try.results24, go_sem, q4, q5]), v, rfl, hoo, HI.out.below.trans hbb⟩

end Go.Proofs.Ytjopobkcijkpmaa
