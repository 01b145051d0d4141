/-
  Chapter 03's does: Write; does, whatever the call.
-/
import Derived.Test.YtjopobkcijkpmaaDpN
namespace Go.Proofs.Ytjopobkcijkpmaa
open Go Go.RowKit

/-- The block of a lent list. -/
theorem Lent.blk {w : World} {base q c : Nat} {l : List UInt8} (h : Lent w base (some ⟨q, 0, none⟩) c l) : base ≤ q ∧ q < w.heap.size ∧ l.length + 3 ≤ c ∧ c ≤ maxLen ∧ ∃ cs, w.heap[q]? = some (.cells cs 5 (0, 0)) ∧ l.length + 3 ≤ cs.size := by
  obtain ⟨h1, h2, h3⟩ := h.BR
  unfold Lent at h
  rcases h.2 with ⟨e, _⟩ | ⟨q', cap, cur, e, hb, hq, hnc, hm, hcs, ht⟩
  · cases e
  · cases e
    have hlt := (Array.getElem?_eq_some_iff.1 hq).1
    refine ⟨hb, hlt, h2, h3, cur, hq, ?_⟩
    omega
theorem Lent.off {S : Nat → Prop} {w w' : World} {base q c : Nat} {l : List UInt8} (h : Lent w base (some ⟨q, 0, none⟩) c l) (ho : Off S w w') (hS : ¬ S q) : Lent w' base (some ⟨q, 0, none⟩) c l :=
  ownsRow_off h ho (fun k e hs => by simp [Value.ownBlock] at e; subst e; exact hS hs)
theorem LentBytes_plain (A : Option Addr) (n c : Nat) (l : List UInt8) (w : World) (ha : BR w A n l) (hn : n ≤ 211106232532992) :
    Calls Try.prog 78 #[.slice A n c] w fun e w' => ∃ q c', e = .returned (.slice (some ⟨q, 0, none⟩) n c') ∧ Lent w' w.heap.size (some ⟨q, 0, none⟩) c' l ∧ Below w.heap.size w w' := by
  refine (LentBytes_any A n c l w ha hn).mono ?_
  rintro e w' ⟨A', c', rfl, hL, hb⟩
  obtain ⟨q, c2, e2⟩ := own_plain hL (by omega)
  injection e2 with e3 _ _
  subst e3
  exact ⟨q, c', rfl, hL, hb⟩

set_option maxRecDepth 100000 in
set_option maxHeartbeats 8000000 in
theorem does_write (w : World) (base g : Nat) (F G : Nat → Prop) (v : Value) (D : DiskS) (on bt sd : Int) (sh : Bool) (nn er : Int) (K : Option Addr) (nk ck : Nat) (torn cut : Int) (h : Pr w base g F G v D) (hpl : D.pending.length ≤ 1000000) :
    Calls Try.prog 46 #[.pointer (some ⟨g, 0, none⟩), v, .agg #[.int .i64 1, .int .i64 on, .int .i64 bt, .int .i64 sd, .bool sh, .int .i64 nn, .int .i64 er, .slice K nk ck, .int .i64 torn, .int .i64 cut]] w (DoesP w base g F G D) := by
  obtain ⟨ok, hd⟩ := h.isd
  have hd := hd.sharp
  have hnum := DK.nums hd
  have HH := Lib.hid h
  have hFl : ∀ k, F k → k < w.heap.size := fun k hk => (hd.foot_lt k hk).2
  have HD := Lib.hid hd
  obtain ⟨bA, bc, wA, wc, bus, wus, rfl, k1, k2, k3, k4, _⟩ := h.rk
  have HT := Lib.hid (threeO w (.slice bA D.blocks.length bc) (.slice wA D.pending.length wc) (.bool D.down) (.int .i64 D.power) (.int .i64 D.fault) (.int .i64 D.wi) 1 on bt sd sh nn er K nk ck torn cut)
  clear hd h k1 k2 k3 k4
  have e1 : ((1 : Int) == 1) = true := by decide
  go_enter Try.func46, Try.ntmps46
  go_upto_region 1 with fail
  obtain ⟨x1, xo, x3, hb, hsz⟩ := HT.out _ rfl
  clear HT
  generalize ((w.alloc (.cells #[.slice bA D.blocks.length bc, .slice wA D.pending.length wc, .bool D.down, .int .i64 D.power, .int .i64 D.fault, .int .i64 D.wi] 66)).alloc (.cells #[.int .i64 1, .int .i64 on, .int .i64 bt, .int .i64 sd, .bool sh, .int .i64 nn, .int .i64 er, .slice K nk ck, .int .i64 torn, .int .i64 cut] 72)).alloc (.cells #[.slice none 0 0, .slice none 0 0, .bool false, .int .i64 0, .int .i64 0, .int .i64 0] 66) = w1 at *
  have o0 : w1.cell? ⟨w.heap.size + 1, 0, none⟩ = some (.int .i64 1) := by rw [cell_of_row w1 _ 0 _ _ _ xo]; rfl
  have o1 : w1.cell? ⟨w.heap.size + 1, 1, none⟩ = some (.int .i64 on) := by rw [cell_of_row w1 _ 1 _ _ _ xo]; rfl
  have o2 : w1.cell? ⟨w.heap.size + 1, 2, none⟩ = some (.int .i64 bt) := by rw [cell_of_row w1 _ 2 _ _ _ xo]; rfl
  have o3 : w1.cell? ⟨w.heap.size + 1, 3, none⟩ = some (.int .i64 sd) := by rw [cell_of_row w1 _ 3 _ _ _ xo]; rfl
  have o4 : w1.cell? ⟨w.heap.size + 1, 4, none⟩ = some (.bool sh) := by rw [cell_of_row w1 _ 4 _ _ _ xo]; rfl
  have o5 : w1.cell? ⟨w.heap.size + 1, 5, none⟩ = some (.int .i64 nn) := by rw [cell_of_row w1 _ 5 _ _ _ xo]; rfl
  have o6 : w1.cell? ⟨w.heap.size + 1, 6, none⟩ = some (.int .i64 er) := by rw [cell_of_row w1 _ 6 _ _ _ xo]; rfl
  have o7 : w1.cell? ⟨w.heap.size + 1, 7, none⟩ = some (.slice K nk ck) := by rw [cell_of_row w1 _ 7 _ _ _ xo]; rfl
  have o8 : w1.cell? ⟨w.heap.size + 1, 8, none⟩ = some (.int .i64 torn) := by rw [cell_of_row w1 _ 8 _ _ _ xo]; rfl
  have o9 : w1.cell? ⟨w.heap.size + 1, 9, none⟩ = some (.int .i64 cut) := by rw [cell_of_row w1 _ 9 _ _ _ xo]; rfl
  have HDA : Hid (∀ W : World, Calls Try.prog 79 #[.agg #[.int .i64 1, .int .i64 on, .int .i64 bt, .int .i64 sd, .bool sh, .int .i64 nn, .int .i64 er, .slice K nk ck, .int .i64 torn, .int .i64 cut]] W fun e w' => e = .returned (.slice (some ⟨W.heap.size + 1, 0, none⟩) (dataN sh) (dataN sh)) ∧ BB w' (W.heap.size + 1) (madeL sd (dataN sh)) ∧ Below W.heap.size W w') := Lib.hid (fun W => data_any 1 on bt sd sh nn er K nk ck torn cut W)
  have hn : dataN sh ≤ 4096 := by unfold dataN; split <;> omega
  have hl := madeL_len sd (dataN sh)
  generalize madeL sd (dataN sh) = l at *
  generalize dataN sh = n at *
  have HLL := Lib.hid hl
  clear hl
  have HBR : Hid (∀ (W : World) (k : Nat), BB W k l → BR W (some ⟨k, 0, none⟩) n l) := Lib.hid (fun W k hB => by have := hB.readsAll; rwa [HLL.out] at this)
  go_wp2_with fail
  refine (HDA.out w1).mono ?_
  rintro e wa ⟨rfl, hBa, hba⟩
  rw [hsz] at hBa
  go_wp2_with fail
  refine (LentBytes_plain _ n n l wa (HBR.out _ _ hBa) (by omega)).mono ?_
  rintro e wb ⟨q, ci, rfl, hLent, hbb⟩
  have hb1b := gr_trans hba hbb
  have hb0b := gr_trans hb hb1b
  have x1 := x1.below hb1b
  have x3 := x3.below hb1b
  have xo := (hb1b.block _ (Array.getElem?_eq_some_iff.1 xo).1).trans xo
  obtain ⟨hq1, hq2, _, _, _⟩ := hLent.blk
  have hqw : w.heap.size + 3 ≤ q := by have := hba.size; omega
  have hszb := hb1b.size
  have HLB := Lib.hid (show BR wb (some ⟨q, 0, none⟩) n l from by have := hLent.BR.1; rwa [HLL.out] at this)
  clear o0 o1 o2 o3 o4 o5 o6 o7 o8 o9 hBa hba hbb hb1b hb
  have o2 : wb.cell? ⟨w.heap.size + 1, 2, none⟩ = some (.int .i64 bt) := by rw [cell_of_row wb _ 2 _ _ _ xo]; rfl
  go_wp2_with fail
  refine (Write_any wb _ base g F D bt (some ⟨q, 0, none⟩) n ci l (HD.out.below hb0b) HLB.out (fun ad e hf => by cases e; have := hFl _ hf; dsimp only at this; omega) (by omega) hpl).mono ?_
  rintro e w2 ⟨rfl, hp⟩
  have h2 := hp.1.size
  have x1 := x1.off hp.1 (fun hf => by have := hFl _ hf; omega)
  have x3 := x3.off hp.1 (fun hf => by have := hFl _ hf; omega)
  have xo := (hp.1.block _ (Array.getElem?_eq_some_iff.1 xo).1 (fun hf => by have := hFl _ hf; omega)).trans xo
  have hLent := hLent.off hp.1 (fun hf => by have := hFl _ hf; omega)
  have HRK := Lib.hid ((HH.out.rk.below hb0b).off hp.1 (fun k hk hg => HH.out.fg k hk hg))
  have HGL : Hid (∀ k, G k → k < w2.heap.size) := Lib.hid (fun k hk => by have := HH.out.gl k hk; omega)
  clear o2 HLB HD
  go_upto_region 5 with fail
  refine wp_region_any (by kernel_rfl) ?_
  change wpAny _ _ _ _ _ _ _ (World.drew w2)
  have hD := bel_drew (w := w2) (gr_refl _)
  have x1 := x1.below hD
  have x3 := x3.below hD
  have xo := (hD.block _ (Array.getElem?_eq_some_iff.1 xo).1).trans xo
  have hLent := hLent.below hD
  have HRK := Lib.hid (HRK.out.below hD)
  have hszt : w2.heap.size = (World.drew w2).heap.size := rfl
  generalize World.drew w2 = wt at *
  have HLE := Lib.hid hLent
  have HX3 := Lib.hid x3
  have HXO := Lib.hid xo
  refine wpAny_of_held (S := fun W => B6 W w.heap.size (.slice bA D.blocks.length bc) (.slice wA D.pending.length wc) (.bool D.down) (.int .i64 D.power) (.int .i64 D.fault) (.int .i64 D.wi) ∧ W.heap[w.heap.size + 1]? = some (.cells #[.int .i64 1, .int .i64 on, .int .i64 bt, .int .i64 sd, .bool sh, .int .i64 nn, .int .i64 er, .slice K nk ck, .int .i64 torn, .int .i64 cut] 72 (0, 0))) _ _ _ _ ?_
  have hHeld := And.intro x1 xo
  clear x1 x3 xo hLent
  refine wpAnyH_take (i := 0) (v := .agg #[.slice bA D.blocks.length bc, .slice wA D.pending.length wc, .bool D.down, .int .i64 D.power, .int .i64 D.fault, .int .i64 D.wi]) rfl (by kernel_rfl) (by kernel_rfl) (by kernel_rfl) (fun _ _ _ h => h) (Or.inl ⟨by rfl, ?_⟩) hHeld ?_
  · intro W hS
    (try dsimp only at hS)
    have hS1 : B6 W w.heap.size (.slice bA D.blocks.length bc) (.slice wA D.pending.length wc) (.bool D.down) (.int .i64 D.power) (.int .i64 D.fault) (.int .i64 D.wi) := hS.1
    have hS2 : W.heap[w.heap.size + 1]? = some (.cells #[.int .i64 1, .int .i64 on, .int .i64 bt, .int .i64 sd, .bool sh, .int .i64 nn, .int .i64 er, .slice K nk ck, .int .i64 torn, .int .i64 cut] 72 (0, 0)) := hS.2
    have y0 := hS1.c0
    have y1 := hS1.c1
    have y2 := hS1.c2
    have y3 := hS1.c3
    have y4 := hS1.c4
    have y5 := hS1.c5
    go_simp
  try simp only [Act.put, List.getElem_toArray, List.getElem_cons_zero, List.setIfInBounds_toArray, List.set_cons_zero, List.set_cons_succ]
  refine wpAnyH_take (i := 1) (v := .pointer (some ⟨w.heap.size + 1, 2, none⟩)) rfl (by kernel_rfl) (by kernel_rfl) (by kernel_rfl) (fun _ _ _ h => h) (Or.inl ⟨by rfl, ?_⟩) hHeld ?_
  · intro W hS
    (try dsimp only at hS)
    go_simp
  try simp only [Act.put, List.getElem_toArray, List.getElem_cons_succ, List.getElem_cons_zero, List.setIfInBounds_toArray, List.set_cons_zero, List.set_cons_succ]
  refine wpAnyH_take (i := 2) (v := .int .i64 bt) rfl (by kernel_rfl) (by kernel_rfl) (by kernel_rfl) (fun _ _ _ h => h) (Or.inl ⟨by rfl, ?_⟩) hHeld ?_
  · intro W hS
    (try dsimp only at hS)
    have hS1 : B6 W w.heap.size (.slice bA D.blocks.length bc) (.slice wA D.pending.length wc) (.bool D.down) (.int .i64 D.power) (.int .i64 D.fault) (.int .i64 D.wi) := hS.1
    have hS2 : W.heap[w.heap.size + 1]? = some (.cells #[.int .i64 1, .int .i64 on, .int .i64 bt, .int .i64 sd, .bool sh, .int .i64 nn, .int .i64 er, .slice K nk ck, .int .i64 torn, .int .i64 cut] 72 (0, 0)) := hS.2
    have o2 : W.cell? ⟨w.heap.size + 1, 2, none⟩ = some (.int .i64 bt) := by rw [cell_of_row W _ 2 _ _ _ hS2]; rfl
    go_simp
  try simp only [Act.put, List.getElem_toArray, List.getElem_cons_succ, List.getElem_cons_zero, List.setIfInBounds_toArray, List.set_cons_zero, List.set_cons_succ]
  refine wpAnyH_take (i := 3) (v := .agg #[.int .i64 1, .int .i64 on, .int .i64 bt, .int .i64 sd, .bool sh, .int .i64 nn, .int .i64 er, .slice K nk ck, .int .i64 torn, .int .i64 cut]) rfl (by kernel_rfl) (by kernel_rfl) (by kernel_rfl) (fun _ _ _ h => h) (Or.inl ⟨by rfl, ?_⟩) hHeld ?_
  · intro W hS
    (try dsimp only at hS)
    have hS1 : B6 W w.heap.size (.slice bA D.blocks.length bc) (.slice wA D.pending.length wc) (.bool D.down) (.int .i64 D.power) (.int .i64 D.fault) (.int .i64 D.wi) := hS.1
    have hS2 : W.heap[w.heap.size + 1]? = some (.cells #[.int .i64 1, .int .i64 on, .int .i64 bt, .int .i64 sd, .bool sh, .int .i64 nn, .int .i64 er, .slice K nk ck, .int .i64 torn, .int .i64 cut] 72 (0, 0)) := hS.2
    have o0 : W.cell? ⟨w.heap.size + 1, 0, none⟩ = some (.int .i64 1) := by rw [cell_of_row W _ 0 _ _ _ hS2]; rfl
    have o1 : W.cell? ⟨w.heap.size + 1, 1, none⟩ = some (.int .i64 on) := by rw [cell_of_row W _ 1 _ _ _ hS2]; rfl
    have o2 : W.cell? ⟨w.heap.size + 1, 2, none⟩ = some (.int .i64 bt) := by rw [cell_of_row W _ 2 _ _ _ hS2]; rfl
    have o3 : W.cell? ⟨w.heap.size + 1, 3, none⟩ = some (.int .i64 sd) := by rw [cell_of_row W _ 3 _ _ _ hS2]; rfl
    have o4 : W.cell? ⟨w.heap.size + 1, 4, none⟩ = some (.bool sh) := by rw [cell_of_row W _ 4 _ _ _ hS2]; rfl
    have o5 : W.cell? ⟨w.heap.size + 1, 5, none⟩ = some (.int .i64 nn) := by rw [cell_of_row W _ 5 _ _ _ hS2]; rfl
    have o6 : W.cell? ⟨w.heap.size + 1, 6, none⟩ = some (.int .i64 er) := by rw [cell_of_row W _ 6 _ _ _ hS2]; rfl
    have o7 : W.cell? ⟨w.heap.size + 1, 7, none⟩ = some (.slice K nk ck) := by rw [cell_of_row W _ 7 _ _ _ hS2]; rfl
    have o8 : W.cell? ⟨w.heap.size + 1, 8, none⟩ = some (.int .i64 torn) := by rw [cell_of_row W _ 8 _ _ _ hS2]; rfl
    have o9 : W.cell? ⟨w.heap.size + 1, 9, none⟩ = some (.int .i64 cut) := by rw [cell_of_row W _ 9 _ _ _ hS2]; rfl
    go_simp
  try simp only [Act.put, List.getElem_toArray, List.getElem_cons_succ, List.getElem_cons_zero, List.setIfInBounds_toArray, List.set_cons_zero, List.set_cons_succ]
  refine wpAnyH_ready (rs := [4, 9]) (by kernel_rfl) (by simp) ?_
  refine AllReadyH.cons rfl (fun KK hK => ?_) (AllReadyH.cons rfl (fun KK hK => ?_) AllReadyH.nil)
  · go_simp
    refine (HDA.out wt).mono ?_
    rintro e wc ⟨rfl, hBc, hbc⟩
    dsimp only
    refine hK.out _ _ ?_ (fun hHeld2 => ?_)
    · exact ⟨hHeld.1.below hbc, (hbc.block _ (Array.getElem?_eq_some_iff.1 hHeld.2).1).trans hHeld.2⟩
    clear hK KK hHeld
    have hHeld := hHeld2
    clear hHeld2
    try simp only [Act.put, List.setIfInBounds_toArray, List.set_cons_zero, List.set_cons_succ]
    refine wpAnyH_ready (rs := [5, 9]) (by kernel_rfl) (by simp) ?_
    refine AllReadyH.cons rfl (fun KK hK => ?_) (AllReadyH.cons rfl (fun KK hK => ?_) AllReadyH.nil)
    · go_simp
      refine (refPut03_any G _ D bt (some ⟨wt.heap.size + 1, 0, none⟩) n n l wc (HRK.out.below hbc) (fun k hk => by have := HGL.out k hk; have := hbc.size; omega) (HBR.out _ _ hBc) hnum.2.1 hnum.2.2.1 hnum.2.2.2.1 hnum.2.2.2.2 hpl (by omega)).mono ?_
      rintro e w3 ⟨v', rfl, hr, hb3⟩
      dsimp only
      refine hK.out _ _ ?_ (fun hHeld2 => ?_)
      · exact ⟨hHeld.1.below hb3, (hb3.block _ (Array.getElem?_eq_some_iff.1 hHeld.2).1).trans hHeld.2⟩
      clear hK KK hHeld
      have hHeld := hHeld2
      clear hHeld2
      try simp only [Act.put, List.setIfInBounds_toArray, List.set_cons_zero, List.set_cons_succ]
      have HLEN := Lib.hid (writeD_len D bt l)
      generalize writeD D bt l = DN at *
      generalize writeE D bt n = oe at *
      have beqe : (oe == oe) = true := beq_self_eq_true _
      have HR := Lib.hid hr
      obtain ⟨bA', bc', wA', wc', bus', wus', rfl, _, _, _, _, _⟩ := hr
      have hw2c : Below w2.heap.size w2 wc := gr_trans hD (hbc.mono (by omega))
      have hbt3 := gr_trans hbc hb3
      refine wpAnyH_take (i := 6) (v := .tuple #[.agg #[.slice bA' DN.blocks.length bc', .slice wA' DN.pending.length wc', .bool DN.down, .int .i64 DN.power, .int .i64 DN.fault, .int .i64 DN.wi], .int .i64 oe]) rfl (by kernel_rfl) (by kernel_rfl) (by kernel_rfl) (fun _ _ _ h => h) (Or.inl ⟨by rfl, ?_⟩) hHeld ?_
      · intro W hS
        (try dsimp only at hS)
        go_simp
      try simp only [Act.put, List.getElem_toArray, List.getElem_cons_succ, List.getElem_cons_zero, List.setIfInBounds_toArray, List.set_cons_zero, List.set_cons_succ]
      refine wpAnyH_take (i := 7) (v := .agg #[.slice bA' DN.blocks.length bc', .slice wA' DN.pending.length wc', .bool DN.down, .int .i64 DN.power, .int .i64 DN.fault, .int .i64 DN.wi]) rfl (by kernel_rfl) (by kernel_rfl) (by kernel_rfl) (fun _ _ _ h => h) (Or.inl ⟨by rfl, ?_⟩) hHeld ?_
      · intro W hS
        (try dsimp only at hS)
        go_simp
      try simp only [Act.put, List.getElem_toArray, List.getElem_cons_succ, List.getElem_cons_zero, List.setIfInBounds_toArray, List.set_cons_zero, List.set_cons_succ]
      refine wpAnyH_take (i := 8) (v := .int .i64 oe) rfl (by kernel_rfl) (by kernel_rfl) (by kernel_rfl) (fun _ _ _ h => h) (Or.inl ⟨by rfl, ?_⟩) hHeld ?_
      · intro W hS
        (try dsimp only at hS)
        go_simp
      try simp only [Act.put, List.getElem_toArray, List.getElem_cons_succ, List.getElem_cons_zero, List.setIfInBounds_toArray, List.set_cons_zero, List.set_cons_succ]
      refine wpAnyH_ready (rs := [9]) (by kernel_rfl) (by simp) ?_
      refine AllReadyH.cons rfl (fun KK hK => ?_) AllReadyH.nil
      try simp only [List.getElem_toArray, List.getElem_cons_succ, List.getElem_cons_zero]
      go_simp
      have hba3 := gr_alloc (gr_refl w3) (.cells #[.slice none 0 0, .slice none 0 0, .bool false, .int .i64 0, .int .i64 0, .int .i64 0] 66)
      have Xw3b := B6.new w3 (.slice none 0 0) (.slice none 0 0) (.bool false) (.int .i64 0) (.int .i64 0) (.int .i64 0)
      refine hK.out _ _ ?_ (fun hHeld2 => ?_)
      · exact ⟨hHeld.1.below hba3, (hba3.block _ (Array.getElem?_eq_some_iff.1 hHeld.2).1).trans hHeld.2⟩
      clear hK KK hHeld
      have hHeld := hHeld2
      clear hHeld2
      try simp only [Act.put, List.setIfInBounds_toArray, List.set_cons_zero, List.set_cons_succ]
      have hszw3b : (w3.alloc (.cells #[.slice none 0 0, .slice none 0 0, .bool false, .int .i64 0, .int .i64 0, .int .i64 0] 66)).heap.size = w3.heap.size + 1 := World.size_alloc _ _
      generalize w3.alloc (.cells #[.slice none 0 0, .slice none 0 0, .bool false, .int .i64 0, .int .i64 0, .int .i64 0] 66) = w3b at *
      have hc3 := hb3.size
      have hcc := hbc.size
      have r0 := Xw3b.c0
      have r1 := Xw3b.c1
      have r2 := Xw3b.c2
      have r3 := Xw3b.c3
      have r4 := Xw3b.c4
      have r5 := Xw3b.c5
      have f0 := Xw3b.fz 0
      have f1 := Xw3b.fz 1
      have f2 := Xw3b.fz 2
      have f3 := Xw3b.fz 3
      have f4 := Xw3b.fz 4
      have f5 := Xw3b.fz 5
      have HS := Lib.hid (set6p Xw3b (.slice bA' DN.blocks.length bc') (.slice wA' DN.pending.length wc') (.bool DN.down) (.int .i64 DN.power) (.int .i64 DN.fault) (.int .i64 DN.wi))
      refine wpAnyH_ready (rs := [10]) (by kernel_rfl) (by simp) ?_
      refine AllReadyH.cons rfl (fun KK hK => ?_) AllReadyH.nil
      try simp only [List.getElem_toArray, List.getElem_cons_succ, List.getElem_cons_zero]
      go_simp
      obtain ⟨s1, s3⟩ := HS.out _ rfl
      clear HS r0 f0 r1 f1 r2 f2 r3 f3 r4 f4 r5 f5
      generalize ((((((w3b.setCell ⟨w3.heap.size, 0, none⟩ (.slice bA' DN.blocks.length bc')).setCell ⟨w3.heap.size, 1, none⟩ (.slice wA' DN.pending.length wc')).setCell ⟨w3.heap.size, 2, none⟩ (.bool DN.down)).setCell ⟨w3.heap.size, 3, none⟩ (.int .i64 DN.power)).setCell ⟨w3.heap.size, 4, none⟩ (.int .i64 DN.fault)).setCell ⟨w3.heap.size, 5, none⟩ (.int .i64 DN.wi)) = w4 at *
      refine hK.out _ _ ?_ (fun hHeld2 => ?_)
      · exact ⟨hHeld.1.off s3 (show ¬ (w.heap.size = w3.heap.size) by omega), (s3.block _ (Array.getElem?_eq_some_iff.1 hHeld.2).1 (show ¬ (w.heap.size + 1 = w3.heap.size) by omega)).trans hHeld.2⟩
      clear hK KK hHeld
      have hHeld := hHeld2
      clear hHeld2
      try simp only [Act.put, List.setIfInBounds_toArray, List.set_cons_zero, List.set_cons_succ]
      have ho4 : Off (fun k => (w2.heap.size ≤ k ∧ k < wc.heap.size) ∨ w3.heap.size ≤ k) w3 w4 := (Off.of_below hba3).trans (s3.mono (fun k _ hk => .inr (by have hk' : k = w3.heap.size := hk; omega)))
      refine wpAnyH_take (i := 11) (v := .int .i64 oe) rfl (by kernel_rfl) (by kernel_rfl) (by kernel_rfl) (fun _ _ _ h => h) (Or.inl ⟨by rfl, ?_⟩) hHeld ?_
      · intro W hS
        (try dsimp only at hS)
        go_simp
      try simp only [Act.put, List.getElem_toArray, List.getElem_cons_succ, List.getElem_cons_zero, List.setIfInBounds_toArray, List.set_cons_zero, List.set_cons_succ]
      refine wpAnyH_done (by kernel_rfl) ?_ _
      have hz2 := hw2c.size
      have hz3 := hb3.size
      have hz4 := ho4.size
      have hbd3 := gr_trans hw2c hb3
      have x3 := (HX3.out.below hbt3).off ho4 (by rintro (⟨h1, h2⟩ | h1) <;> omega)
      have xo := hHeld.2
      have hLent := (HLE.out.below hbt3).off ho4 (by rintro (⟨h1, h2⟩ | h1) <;> omega)
      clear hHeld HX3 HXO HLE
      have o0 : w4.cell? ⟨w.heap.size + 1, 0, none⟩ = some (.int .i64 1) := by rw [cell_of_row w4 _ 0 _ _ _ xo]; rfl
      have o1 : w4.cell? ⟨w.heap.size + 1, 1, none⟩ = some (.int .i64 on) := by rw [cell_of_row w4 _ 1 _ _ _ xo]; rfl
      have o2 : w4.cell? ⟨w.heap.size + 1, 2, none⟩ = some (.int .i64 bt) := by rw [cell_of_row w4 _ 2 _ _ _ xo]; rfl
      have o3 : w4.cell? ⟨w.heap.size + 1, 3, none⟩ = some (.int .i64 sd) := by rw [cell_of_row w4 _ 3 _ _ _ xo]; rfl
      have o4 : w4.cell? ⟨w.heap.size + 1, 4, none⟩ = some (.bool sh) := by rw [cell_of_row w4 _ 4 _ _ _ xo]; rfl
      have o5 : w4.cell? ⟨w.heap.size + 1, 5, none⟩ = some (.int .i64 nn) := by rw [cell_of_row w4 _ 5 _ _ _ xo]; rfl
      have o6 : w4.cell? ⟨w.heap.size + 1, 6, none⟩ = some (.int .i64 er) := by rw [cell_of_row w4 _ 6 _ _ _ xo]; rfl
      have o7 : w4.cell? ⟨w.heap.size + 1, 7, none⟩ = some (.slice K nk ck) := by rw [cell_of_row w4 _ 7 _ _ _ xo]; rfl
      have o8 : w4.cell? ⟨w.heap.size + 1, 8, none⟩ = some (.int .i64 torn) := by rw [cell_of_row w4 _ 8 _ _ _ xo]; rfl
      have o9 : w4.cell? ⟨w.heap.size + 1, 9, none⟩ = some (.int .i64 cut) := by rw [cell_of_row w4 _ 9 _ _ _ xo]; rfl
      go_wp2_with fail
      refine (HDA.out w4).mono ?_
      rintro e w5 ⟨rfl, hB5, hb5⟩
      have hLent := hLent.below hb5
      have s1 := s1.below hb5
      have x3 := x3.below hb5
      clear xo o0 o1 o2 o3 o4 o5 o6 o7 o8 o9
      go_wp2_with fail
      refine (KeptBytes_any (some ⟨q, 0, none⟩) _ n ci n wa.heap.size l w5 hLent (HBR.out _ _ hB5) (by omega)).mono ?_
      rintro e w5b ⟨rfl, rfl⟩
      obtain ⟨_, hq5, hq6, hq7, cs, hq8, hq9⟩ := hLent.blk
      rw [HLL.out] at hq6 hq9
      go_wp2_with fail
      refine (OverBytes_any q n ci cs w5 hq8 hq9 hq6 hq7).mono ?_
      rintro e w6 ⟨rfl, ho6⟩
      have x3 := x3.off ho6 (show ¬ (w.heap.size + 1 + 1 = q) by omega)
      have s1 := s1.off ho6 (show ¬ (w3.heap.size = q) by omega)
      have y0 := s1.c0
      have y1 := s1.c1
      have y2 := s1.c2
      have y3 := s1.c3
      have y4 := s1.c4
      have y5 := s1.c5
      have HCL : Hid (∀ wf, Off (· = w.heap.size + 1 + 1) w6 wf → DoesP w base g F G D (.returned (.tuple #[.agg #[.slice bA' DN.blocks.length bc', .slice wA' DN.pending.length wc', .bool DN.down, .int .i64 DN.power, .int .i64 DN.fault, .int .i64 DN.wi], .bool true])) wf) := Lib.hid (fun wf ho => DoesP.close (S := fun k => k = w.heap.size + 1 + 1 ∨ k = q ∨ (w2.heap.size ≤ k ∧ k < wc.heap.size) ∨ w3.heap.size ≤ k) HH.out hb0b hp hw2c hb3 HR.out ((((ho4.mono (fun k _ hk => .inr (.inr hk))).trans ((Off.of_below hb5))).trans (ho6.mono (fun k _ hk => .inr (.inl hk)))).trans (ho.mono (fun k _ hk => .inl hk))) (fun k hk => by
        rcases hk with rfl | rfl | h1 | h1
        · exact .inl ⟨by omega, by omega⟩
        · exact .inl ⟨by omega, by omega⟩
        · exact .inr (.inl h1)
        · exact .inr (.inr h1)) HLEN.out.1 HLEN.out.2)
      clear HR HH hp ho4 hb3 ho6 hb5 hLent hq8 hq9 s3
      have r0 := x3.c0
      have r1 := x3.c1
      have r2 := x3.c2
      have r3 := x3.c3
      have r4 := x3.c4
      have r5 := x3.c5
      have f0 := x3.fz 0
      have f1 := x3.fz 1
      have f2 := x3.fz 2
      have f3 := x3.fz 3
      have f4 := x3.fz 4
      have f5 := x3.fz 5
      have HS := Lib.hid (set6p x3 (.slice bA' DN.blocks.length bc') (.slice wA' DN.pending.length wc') (.bool DN.down) (.int .i64 DN.power) (.int .i64 DN.fault) (.int .i64 DN.wi))
      go_wp2_with fail
      clear r0 f0 r1 f1 r2 f2 r3 f3 r4 f4 r5 f5
      obtain ⟨s1, s3⟩ := HS.out _ rfl
      clear HS
      generalize ((((((w6.setCell ⟨w.heap.size + 1 + 1, 0, none⟩ (.slice bA' DN.blocks.length bc')).setCell ⟨w.heap.size + 1 + 1, 1, none⟩ (.slice wA' DN.pending.length wc')).setCell ⟨w.heap.size + 1 + 1, 2, none⟩ (.bool DN.down)).setCell ⟨w.heap.size + 1 + 1, 3, none⟩ (.int .i64 DN.power)).setCell ⟨w.heap.size + 1 + 1, 4, none⟩ (.int .i64 DN.fault)).setCell ⟨w.heap.size + 1 + 1, 5, none⟩ (.int .i64 DN.wi)) = wf at *
      have z0 := s1.c0
      have z1 := s1.c1
      have z2 := s1.c2
      have z3 := s1.c3
      have z4 := s1.c4
      have z5 := s1.c5
      refine bodyPost_ret (v := .tuple #[.agg #[.slice bA' DN.blocks.length bc', .slice wA' DN.pending.length wc', .bool DN.down, .int .i64 DN.power, .int .i64 DN.fault, .int .i64 DN.wi], .bool true]) (by simp [results, Try.results46, go_sem, z0, z1, z2, z3, z4, z5]) rfl ?_
      exact HCL.out _ s3
    · go_simp
      have hbd := gr_alloc (gr_refl wc) (.cells #[.slice none 0 0, .slice none 0 0, .bool false, .int .i64 0, .int .i64 0, .int .i64 0] 66)
      have Xwd := B6.new wc (.slice none 0 0) (.slice none 0 0) (.bool false) (.int .i64 0) (.int .i64 0) (.int .i64 0)
      refine hK.out _ _ ?_ (fun hHeld2 => ?_)
      · exact ⟨hHeld.1.below hbd, (hbd.block _ (Array.getElem?_eq_some_iff.1 hHeld.2).1).trans hHeld.2⟩
      clear hK KK hHeld
      have hHeld := hHeld2
      clear hHeld2
      try simp only [Act.put, List.setIfInBounds_toArray, List.set_cons_zero, List.set_cons_succ]
      have hszwd : (wc.alloc (.cells #[.slice none 0 0, .slice none 0 0, .bool false, .int .i64 0, .int .i64 0, .int .i64 0] 66)).heap.size = wc.heap.size + 1 := World.size_alloc _ _
      generalize wc.alloc (.cells #[.slice none 0 0, .slice none 0 0, .bool false, .int .i64 0, .int .i64 0, .int .i64 0] 66) = wd at *
      refine wpAnyH_ready (rs := [5]) (by kernel_rfl) (by simp) ?_
      refine AllReadyH.cons rfl (fun KK hK => ?_) AllReadyH.nil
      try simp only [List.getElem_toArray, List.getElem_cons_succ, List.getElem_cons_zero]
      have hBc := hBc.kept hbd
      have hcd := gr_trans hbc hbd
      go_simp
      refine (refPut03_any G _ D bt (some ⟨wt.heap.size + 1, 0, none⟩) n n l wd (HRK.out.below hcd) (fun k hk => by have := HGL.out k hk; have := hcd.size; omega) (HBR.out _ _ hBc) hnum.2.1 hnum.2.2.1 hnum.2.2.2.1 hnum.2.2.2.2 hpl (by omega)).mono ?_
      rintro e w3 ⟨v', rfl, hr, hb3⟩
      dsimp only
      refine hK.out _ _ ?_ (fun hHeld2 => ?_)
      · exact ⟨hHeld.1.below hb3, (hb3.block _ (Array.getElem?_eq_some_iff.1 hHeld.2).1).trans hHeld.2⟩
      clear hK KK hHeld
      have hHeld := hHeld2
      clear hHeld2
      try simp only [Act.put, List.setIfInBounds_toArray, List.set_cons_zero, List.set_cons_succ]
      have HLEN := Lib.hid (writeD_len D bt l)
      generalize writeD D bt l = DN at *
      generalize writeE D bt n = oe at *
      have beqe : (oe == oe) = true := beq_self_eq_true _
      have HR := Lib.hid hr
      obtain ⟨bA', bc', wA', wc', bus', wus', rfl, _, _, _, _, _⟩ := hr
      have hw2d : Below w2.heap.size w2 wd := gr_trans hD (hcd.mono (by omega))
      have hbt3 := gr_trans hcd hb3
      have hcc := hbc.size
      have hc3 := hb3.size
      have Xw3 := Xwd.below hb3
      refine wpAnyH_take (i := 6) (v := .tuple #[.agg #[.slice bA' DN.blocks.length bc', .slice wA' DN.pending.length wc', .bool DN.down, .int .i64 DN.power, .int .i64 DN.fault, .int .i64 DN.wi], .int .i64 oe]) rfl (by kernel_rfl) (by kernel_rfl) (by kernel_rfl) (fun _ _ _ h => h) (Or.inl ⟨by rfl, ?_⟩) hHeld ?_
      · intro W hS
        (try dsimp only at hS)
        go_simp
      try simp only [Act.put, List.getElem_toArray, List.getElem_cons_succ, List.getElem_cons_zero, List.setIfInBounds_toArray, List.set_cons_zero, List.set_cons_succ]
      refine wpAnyH_take (i := 7) (v := .agg #[.slice bA' DN.blocks.length bc', .slice wA' DN.pending.length wc', .bool DN.down, .int .i64 DN.power, .int .i64 DN.fault, .int .i64 DN.wi]) rfl (by kernel_rfl) (by kernel_rfl) (by kernel_rfl) (fun _ _ _ h => h) (Or.inl ⟨by rfl, ?_⟩) hHeld ?_
      · intro W hS
        (try dsimp only at hS)
        go_simp
      try simp only [Act.put, List.getElem_toArray, List.getElem_cons_succ, List.getElem_cons_zero, List.setIfInBounds_toArray, List.set_cons_zero, List.set_cons_succ]
      refine wpAnyH_take (i := 8) (v := .int .i64 oe) rfl (by kernel_rfl) (by kernel_rfl) (by kernel_rfl) (fun _ _ _ h => h) (Or.inl ⟨by rfl, ?_⟩) hHeld ?_
      · intro W hS
        (try dsimp only at hS)
        go_simp
      try simp only [Act.put, List.getElem_toArray, List.getElem_cons_succ, List.getElem_cons_zero, List.setIfInBounds_toArray, List.set_cons_zero, List.set_cons_succ]
      have r0 := Xw3.c0
      have r1 := Xw3.c1
      have r2 := Xw3.c2
      have r3 := Xw3.c3
      have r4 := Xw3.c4
      have r5 := Xw3.c5
      have f0 := Xw3.fz 0
      have f1 := Xw3.fz 1
      have f2 := Xw3.fz 2
      have f3 := Xw3.fz 3
      have f4 := Xw3.fz 4
      have f5 := Xw3.fz 5
      have HS := Lib.hid (set6p Xw3 (.slice bA' DN.blocks.length bc') (.slice wA' DN.pending.length wc') (.bool DN.down) (.int .i64 DN.power) (.int .i64 DN.fault) (.int .i64 DN.wi))
      refine wpAnyH_ready (rs := [10]) (by kernel_rfl) (by simp) ?_
      refine AllReadyH.cons rfl (fun KK hK => ?_) AllReadyH.nil
      try simp only [List.getElem_toArray, List.getElem_cons_succ, List.getElem_cons_zero]
      go_simp
      obtain ⟨s1, s3⟩ := HS.out _ rfl
      clear HS r0 f0 r1 f1 r2 f2 r3 f3 r4 f4 r5 f5
      generalize ((((((w3.setCell ⟨wc.heap.size, 0, none⟩ (.slice bA' DN.blocks.length bc')).setCell ⟨wc.heap.size, 1, none⟩ (.slice wA' DN.pending.length wc')).setCell ⟨wc.heap.size, 2, none⟩ (.bool DN.down)).setCell ⟨wc.heap.size, 3, none⟩ (.int .i64 DN.power)).setCell ⟨wc.heap.size, 4, none⟩ (.int .i64 DN.fault)).setCell ⟨wc.heap.size, 5, none⟩ (.int .i64 DN.wi)) = w4 at *
      refine hK.out _ _ ?_ (fun hHeld2 => ?_)
      · exact ⟨hHeld.1.off s3 (show ¬ (w.heap.size = wc.heap.size) by omega), (s3.block _ (Array.getElem?_eq_some_iff.1 hHeld.2).1 (show ¬ (w.heap.size + 1 = wc.heap.size) by omega)).trans hHeld.2⟩
      clear hK KK hHeld
      have hHeld := hHeld2
      clear hHeld2
      try simp only [Act.put, List.setIfInBounds_toArray, List.set_cons_zero, List.set_cons_succ]
      have ho4 : Off (fun k => (w2.heap.size ≤ k ∧ k < wd.heap.size) ∨ w3.heap.size ≤ k) w3 w4 := s3.mono (fun k _ hk => .inl (by have hk' : k = wc.heap.size := hk; omega))
      refine wpAnyH_take (i := 11) (v := .int .i64 oe) rfl (by kernel_rfl) (by kernel_rfl) (by kernel_rfl) (fun _ _ _ h => h) (Or.inl ⟨by rfl, ?_⟩) hHeld ?_
      · intro W hS
        (try dsimp only at hS)
        go_simp
      try simp only [Act.put, List.getElem_toArray, List.getElem_cons_succ, List.getElem_cons_zero, List.setIfInBounds_toArray, List.set_cons_zero, List.set_cons_succ]
      refine wpAnyH_done (by kernel_rfl) ?_ _
      have hz2 := hw2d.size
      have hz3 := hb3.size
      have hz4 := ho4.size
      have hbd3 := gr_trans hw2d hb3
      have x3 := (HX3.out.below hbt3).off ho4 (by rintro (⟨h1, h2⟩ | h1) <;> omega)
      have xo := hHeld.2
      have hLent := (HLE.out.below hbt3).off ho4 (by rintro (⟨h1, h2⟩ | h1) <;> omega)
      clear hHeld HX3 HXO HLE
      have o0 : w4.cell? ⟨w.heap.size + 1, 0, none⟩ = some (.int .i64 1) := by rw [cell_of_row w4 _ 0 _ _ _ xo]; rfl
      have o1 : w4.cell? ⟨w.heap.size + 1, 1, none⟩ = some (.int .i64 on) := by rw [cell_of_row w4 _ 1 _ _ _ xo]; rfl
      have o2 : w4.cell? ⟨w.heap.size + 1, 2, none⟩ = some (.int .i64 bt) := by rw [cell_of_row w4 _ 2 _ _ _ xo]; rfl
      have o3 : w4.cell? ⟨w.heap.size + 1, 3, none⟩ = some (.int .i64 sd) := by rw [cell_of_row w4 _ 3 _ _ _ xo]; rfl
      have o4 : w4.cell? ⟨w.heap.size + 1, 4, none⟩ = some (.bool sh) := by rw [cell_of_row w4 _ 4 _ _ _ xo]; rfl
      have o5 : w4.cell? ⟨w.heap.size + 1, 5, none⟩ = some (.int .i64 nn) := by rw [cell_of_row w4 _ 5 _ _ _ xo]; rfl
      have o6 : w4.cell? ⟨w.heap.size + 1, 6, none⟩ = some (.int .i64 er) := by rw [cell_of_row w4 _ 6 _ _ _ xo]; rfl
      have o7 : w4.cell? ⟨w.heap.size + 1, 7, none⟩ = some (.slice K nk ck) := by rw [cell_of_row w4 _ 7 _ _ _ xo]; rfl
      have o8 : w4.cell? ⟨w.heap.size + 1, 8, none⟩ = some (.int .i64 torn) := by rw [cell_of_row w4 _ 8 _ _ _ xo]; rfl
      have o9 : w4.cell? ⟨w.heap.size + 1, 9, none⟩ = some (.int .i64 cut) := by rw [cell_of_row w4 _ 9 _ _ _ xo]; rfl
      go_wp2_with fail
      refine (HDA.out w4).mono ?_
      rintro e w5 ⟨rfl, hB5, hb5⟩
      have hLent := hLent.below hb5
      have s1 := s1.below hb5
      have x3 := x3.below hb5
      clear xo o0 o1 o2 o3 o4 o5 o6 o7 o8 o9
      go_wp2_with fail
      refine (KeptBytes_any (some ⟨q, 0, none⟩) _ n ci n wa.heap.size l w5 hLent (HBR.out _ _ hB5) (by omega)).mono ?_
      rintro e w5b ⟨rfl, rfl⟩
      obtain ⟨_, hq5, hq6, hq7, cs, hq8, hq9⟩ := hLent.blk
      rw [HLL.out] at hq6 hq9
      go_wp2_with fail
      refine (OverBytes_any q n ci cs w5 hq8 hq9 hq6 hq7).mono ?_
      rintro e w6 ⟨rfl, ho6⟩
      have x3 := x3.off ho6 (show ¬ (w.heap.size + 1 + 1 = q) by omega)
      have s1 := s1.off ho6 (show ¬ (wc.heap.size = q) by omega)
      have y0 := s1.c0
      have y1 := s1.c1
      have y2 := s1.c2
      have y3 := s1.c3
      have y4 := s1.c4
      have y5 := s1.c5
      have HCL : Hid (∀ wf, Off (· = w.heap.size + 1 + 1) w6 wf → DoesP w base g F G D (.returned (.tuple #[.agg #[.slice bA' DN.blocks.length bc', .slice wA' DN.pending.length wc', .bool DN.down, .int .i64 DN.power, .int .i64 DN.fault, .int .i64 DN.wi], .bool true])) wf) := Lib.hid (fun wf ho => DoesP.close (S := fun k => k = w.heap.size + 1 + 1 ∨ k = q ∨ (w2.heap.size ≤ k ∧ k < wd.heap.size) ∨ w3.heap.size ≤ k) HH.out hb0b hp hw2d hb3 HR.out ((((ho4.mono (fun k _ hk => .inr (.inr hk))).trans ((Off.of_below hb5))).trans (ho6.mono (fun k _ hk => .inr (.inl hk)))).trans (ho.mono (fun k _ hk => .inl hk))) (fun k hk => by
        rcases hk with rfl | rfl | h1 | h1
        · exact .inl ⟨by omega, by omega⟩
        · exact .inl ⟨by omega, by omega⟩
        · exact .inr (.inl h1)
        · exact .inr (.inr h1)) HLEN.out.1 HLEN.out.2)
      clear HR HH hp ho4 hb3 ho6 hb5 hLent hq8 hq9 s3
      have r0 := x3.c0
      have r1 := x3.c1
      have r2 := x3.c2
      have r3 := x3.c3
      have r4 := x3.c4
      have r5 := x3.c5
      have f0 := x3.fz 0
      have f1 := x3.fz 1
      have f2 := x3.fz 2
      have f3 := x3.fz 3
      have f4 := x3.fz 4
      have f5 := x3.fz 5
      have HS := Lib.hid (set6p x3 (.slice bA' DN.blocks.length bc') (.slice wA' DN.pending.length wc') (.bool DN.down) (.int .i64 DN.power) (.int .i64 DN.fault) (.int .i64 DN.wi))
      go_wp2_with fail
      clear r0 f0 r1 f1 r2 f2 r3 f3 r4 f4 r5 f5
      obtain ⟨s1, s3⟩ := HS.out _ rfl
      clear HS
      generalize ((((((w6.setCell ⟨w.heap.size + 1 + 1, 0, none⟩ (.slice bA' DN.blocks.length bc')).setCell ⟨w.heap.size + 1 + 1, 1, none⟩ (.slice wA' DN.pending.length wc')).setCell ⟨w.heap.size + 1 + 1, 2, none⟩ (.bool DN.down)).setCell ⟨w.heap.size + 1 + 1, 3, none⟩ (.int .i64 DN.power)).setCell ⟨w.heap.size + 1 + 1, 4, none⟩ (.int .i64 DN.fault)).setCell ⟨w.heap.size + 1 + 1, 5, none⟩ (.int .i64 DN.wi)) = wf at *
      have z0 := s1.c0
      have z1 := s1.c1
      have z2 := s1.c2
      have z3 := s1.c3
      have z4 := s1.c4
      have z5 := s1.c5
      refine bodyPost_ret (v := .tuple #[.agg #[.slice bA' DN.blocks.length bc', .slice wA' DN.pending.length wc', .bool DN.down, .int .i64 DN.power, .int .i64 DN.fault, .int .i64 DN.wi], .bool true]) (by simp [results, Try.results46, go_sem, z0, z1, z2, z3, z4, z5]) rfl ?_
      exact HCL.out _ s3
  · go_simp
    have hbc0 := gr_alloc (gr_refl wt) (.cells #[.slice none 0 0, .slice none 0 0, .bool false, .int .i64 0, .int .i64 0, .int .i64 0] 66)
    have Xwc := B6.new wt (.slice none 0 0) (.slice none 0 0) (.bool false) (.int .i64 0) (.int .i64 0) (.int .i64 0)
    refine hK.out _ _ ?_ (fun hHeld2 => ?_)
    · exact ⟨hHeld.1.below hbc0, (hbc0.block _ (Array.getElem?_eq_some_iff.1 hHeld.2).1).trans hHeld.2⟩
    clear hK KK hHeld
    have hHeld := hHeld2
    clear hHeld2
    try simp only [Act.put, List.setIfInBounds_toArray, List.set_cons_zero, List.set_cons_succ]
    have hszwc : (wt.alloc (.cells #[.slice none 0 0, .slice none 0 0, .bool false, .int .i64 0, .int .i64 0, .int .i64 0] 66)).heap.size = wt.heap.size + 1 := World.size_alloc _ _
    generalize wt.alloc (.cells #[.slice none 0 0, .slice none 0 0, .bool false, .int .i64 0, .int .i64 0, .int .i64 0] 66) = wc at *
    refine wpAnyH_ready (rs := [4]) (by kernel_rfl) (by simp) ?_
    refine AllReadyH.cons rfl (fun KK hK => ?_) AllReadyH.nil
    try simp only [List.getElem_toArray, List.getElem_cons_succ, List.getElem_cons_zero]
    go_simp
    refine (HDA.out wc).mono ?_
    rintro e wd ⟨rfl, hBc, hbd0⟩
    dsimp only
    refine hK.out _ _ ?_ (fun hHeld2 => ?_)
    · exact ⟨hHeld.1.below hbd0, (hbd0.block _ (Array.getElem?_eq_some_iff.1 hHeld.2).1).trans hHeld.2⟩
    clear hK KK hHeld
    have hHeld := hHeld2
    clear hHeld2
    try simp only [Act.put, List.setIfInBounds_toArray, List.set_cons_zero, List.set_cons_succ]
    refine wpAnyH_ready (rs := [5]) (by kernel_rfl) (by simp) ?_
    refine AllReadyH.cons rfl (fun KK hK => ?_) AllReadyH.nil
    try simp only [List.getElem_toArray, List.getElem_cons_succ, List.getElem_cons_zero]
    have hcd := gr_trans hbc0 hbd0
    rw [hszwc] at hBc
    go_simp
    refine (refPut03_any G _ D bt (some ⟨wt.heap.size + 1 + 1, 0, none⟩) n n l wd (HRK.out.below hcd) (fun k hk => by have := HGL.out k hk; have := hcd.size; omega) (HBR.out _ _ hBc) hnum.2.1 hnum.2.2.1 hnum.2.2.2.1 hnum.2.2.2.2 hpl (by omega)).mono ?_
    rintro e w3 ⟨v', rfl, hr, hb3⟩
    dsimp only
    refine hK.out _ _ ?_ (fun hHeld2 => ?_)
    · exact ⟨hHeld.1.below hb3, (hb3.block _ (Array.getElem?_eq_some_iff.1 hHeld.2).1).trans hHeld.2⟩
    clear hK KK hHeld
    have hHeld := hHeld2
    clear hHeld2
    try simp only [Act.put, List.setIfInBounds_toArray, List.set_cons_zero, List.set_cons_succ]
    have HLEN := Lib.hid (writeD_len D bt l)
    generalize writeD D bt l = DN at *
    generalize writeE D bt n = oe at *
    have beqe : (oe == oe) = true := beq_self_eq_true _
    have HR := Lib.hid hr
    obtain ⟨bA', bc', wA', wc', bus', wus', rfl, _, _, _, _, _⟩ := hr
    have hw2d : Below w2.heap.size w2 wd := gr_trans hD (hcd.mono (by omega))
    have hbt3 := gr_trans hcd hb3
    have hcc := hbd0.size
    have hc3 := hb3.size
    have Xw3 := (Xwc.below hbd0).below hb3
    refine wpAnyH_take (i := 6) (v := .tuple #[.agg #[.slice bA' DN.blocks.length bc', .slice wA' DN.pending.length wc', .bool DN.down, .int .i64 DN.power, .int .i64 DN.fault, .int .i64 DN.wi], .int .i64 oe]) rfl (by kernel_rfl) (by kernel_rfl) (by kernel_rfl) (fun _ _ _ h => h) (Or.inl ⟨by rfl, ?_⟩) hHeld ?_
    · intro W hS
      (try dsimp only at hS)
      go_simp
    try simp only [Act.put, List.getElem_toArray, List.getElem_cons_succ, List.getElem_cons_zero, List.setIfInBounds_toArray, List.set_cons_zero, List.set_cons_succ]
    refine wpAnyH_take (i := 7) (v := .agg #[.slice bA' DN.blocks.length bc', .slice wA' DN.pending.length wc', .bool DN.down, .int .i64 DN.power, .int .i64 DN.fault, .int .i64 DN.wi]) rfl (by kernel_rfl) (by kernel_rfl) (by kernel_rfl) (fun _ _ _ h => h) (Or.inl ⟨by rfl, ?_⟩) hHeld ?_
    · intro W hS
      (try dsimp only at hS)
      go_simp
    try simp only [Act.put, List.getElem_toArray, List.getElem_cons_succ, List.getElem_cons_zero, List.setIfInBounds_toArray, List.set_cons_zero, List.set_cons_succ]
    refine wpAnyH_take (i := 8) (v := .int .i64 oe) rfl (by kernel_rfl) (by kernel_rfl) (by kernel_rfl) (fun _ _ _ h => h) (Or.inl ⟨by rfl, ?_⟩) hHeld ?_
    · intro W hS
      (try dsimp only at hS)
      go_simp
    try simp only [Act.put, List.getElem_toArray, List.getElem_cons_succ, List.getElem_cons_zero, List.setIfInBounds_toArray, List.set_cons_zero, List.set_cons_succ]
    have r0 := Xw3.c0
    have r1 := Xw3.c1
    have r2 := Xw3.c2
    have r3 := Xw3.c3
    have r4 := Xw3.c4
    have r5 := Xw3.c5
    have f0 := Xw3.fz 0
    have f1 := Xw3.fz 1
    have f2 := Xw3.fz 2
    have f3 := Xw3.fz 3
    have f4 := Xw3.fz 4
    have f5 := Xw3.fz 5
    have HS := Lib.hid (set6p Xw3 (.slice bA' DN.blocks.length bc') (.slice wA' DN.pending.length wc') (.bool DN.down) (.int .i64 DN.power) (.int .i64 DN.fault) (.int .i64 DN.wi))
    refine wpAnyH_ready (rs := [10]) (by kernel_rfl) (by simp) ?_
    refine AllReadyH.cons rfl (fun KK hK => ?_) AllReadyH.nil
    try simp only [List.getElem_toArray, List.getElem_cons_succ, List.getElem_cons_zero]
    go_simp
    obtain ⟨s1, s3⟩ := HS.out _ rfl
    clear HS r0 f0 r1 f1 r2 f2 r3 f3 r4 f4 r5 f5
    generalize ((((((w3.setCell ⟨wt.heap.size, 0, none⟩ (.slice bA' DN.blocks.length bc')).setCell ⟨wt.heap.size, 1, none⟩ (.slice wA' DN.pending.length wc')).setCell ⟨wt.heap.size, 2, none⟩ (.bool DN.down)).setCell ⟨wt.heap.size, 3, none⟩ (.int .i64 DN.power)).setCell ⟨wt.heap.size, 4, none⟩ (.int .i64 DN.fault)).setCell ⟨wt.heap.size, 5, none⟩ (.int .i64 DN.wi)) = w4 at *
    refine hK.out _ _ ?_ (fun hHeld2 => ?_)
    · exact ⟨hHeld.1.off s3 (show ¬ (w.heap.size = wt.heap.size) by omega), (s3.block _ (Array.getElem?_eq_some_iff.1 hHeld.2).1 (show ¬ (w.heap.size + 1 = wt.heap.size) by omega)).trans hHeld.2⟩
    clear hK KK hHeld
    have hHeld := hHeld2
    clear hHeld2
    try simp only [Act.put, List.setIfInBounds_toArray, List.set_cons_zero, List.set_cons_succ]
    have ho4 : Off (fun k => (w2.heap.size ≤ k ∧ k < wd.heap.size) ∨ w3.heap.size ≤ k) w3 w4 := s3.mono (fun k _ hk => .inl (by have hk' : k = wt.heap.size := hk; omega))
    refine wpAnyH_take (i := 11) (v := .int .i64 oe) rfl (by kernel_rfl) (by kernel_rfl) (by kernel_rfl) (fun _ _ _ h => h) (Or.inl ⟨by rfl, ?_⟩) hHeld ?_
    · intro W hS
      (try dsimp only at hS)
      go_simp
    try simp only [Act.put, List.getElem_toArray, List.getElem_cons_succ, List.getElem_cons_zero, List.setIfInBounds_toArray, List.set_cons_zero, List.set_cons_succ]
    refine wpAnyH_done (by kernel_rfl) ?_ _
    have hz2 := hw2d.size
    have hz3 := hb3.size
    have hz4 := ho4.size
    have hbd3 := gr_trans hw2d hb3
    have x3 := (HX3.out.below hbt3).off ho4 (by rintro (⟨h1, h2⟩ | h1) <;> omega)
    have xo := hHeld.2
    have hLent := (HLE.out.below hbt3).off ho4 (by rintro (⟨h1, h2⟩ | h1) <;> omega)
    clear hHeld HX3 HXO HLE
    have o0 : w4.cell? ⟨w.heap.size + 1, 0, none⟩ = some (.int .i64 1) := by rw [cell_of_row w4 _ 0 _ _ _ xo]; rfl
    have o1 : w4.cell? ⟨w.heap.size + 1, 1, none⟩ = some (.int .i64 on) := by rw [cell_of_row w4 _ 1 _ _ _ xo]; rfl
    have o2 : w4.cell? ⟨w.heap.size + 1, 2, none⟩ = some (.int .i64 bt) := by rw [cell_of_row w4 _ 2 _ _ _ xo]; rfl
    have o3 : w4.cell? ⟨w.heap.size + 1, 3, none⟩ = some (.int .i64 sd) := by rw [cell_of_row w4 _ 3 _ _ _ xo]; rfl
    have o4 : w4.cell? ⟨w.heap.size + 1, 4, none⟩ = some (.bool sh) := by rw [cell_of_row w4 _ 4 _ _ _ xo]; rfl
    have o5 : w4.cell? ⟨w.heap.size + 1, 5, none⟩ = some (.int .i64 nn) := by rw [cell_of_row w4 _ 5 _ _ _ xo]; rfl
    have o6 : w4.cell? ⟨w.heap.size + 1, 6, none⟩ = some (.int .i64 er) := by rw [cell_of_row w4 _ 6 _ _ _ xo]; rfl
    have o7 : w4.cell? ⟨w.heap.size + 1, 7, none⟩ = some (.slice K nk ck) := by rw [cell_of_row w4 _ 7 _ _ _ xo]; rfl
    have o8 : w4.cell? ⟨w.heap.size + 1, 8, none⟩ = some (.int .i64 torn) := by rw [cell_of_row w4 _ 8 _ _ _ xo]; rfl
    have o9 : w4.cell? ⟨w.heap.size + 1, 9, none⟩ = some (.int .i64 cut) := by rw [cell_of_row w4 _ 9 _ _ _ xo]; rfl
    go_wp2_with fail
    refine (HDA.out w4).mono ?_
    rintro e w5 ⟨rfl, hB5, hb5⟩
    have hLent := hLent.below hb5
    have s1 := s1.below hb5
    have x3 := x3.below hb5
    clear xo o0 o1 o2 o3 o4 o5 o6 o7 o8 o9
    go_wp2_with fail
    refine (KeptBytes_any (some ⟨q, 0, none⟩) _ n ci n wa.heap.size l w5 hLent (HBR.out _ _ hB5) (by omega)).mono ?_
    rintro e w5b ⟨rfl, rfl⟩
    obtain ⟨_, hq5, hq6, hq7, cs, hq8, hq9⟩ := hLent.blk
    rw [HLL.out] at hq6 hq9
    go_wp2_with fail
    refine (OverBytes_any q n ci cs w5 hq8 hq9 hq6 hq7).mono ?_
    rintro e w6 ⟨rfl, ho6⟩
    have x3 := x3.off ho6 (show ¬ (w.heap.size + 1 + 1 = q) by omega)
    have s1 := s1.off ho6 (show ¬ (wt.heap.size = q) by omega)
    have y0 := s1.c0
    have y1 := s1.c1
    have y2 := s1.c2
    have y3 := s1.c3
    have y4 := s1.c4
    have y5 := s1.c5
    have HCL : Hid (∀ wf, Off (· = w.heap.size + 1 + 1) w6 wf → DoesP w base g F G D (.returned (.tuple #[.agg #[.slice bA' DN.blocks.length bc', .slice wA' DN.pending.length wc', .bool DN.down, .int .i64 DN.power, .int .i64 DN.fault, .int .i64 DN.wi], .bool true])) wf) := Lib.hid (fun wf ho => DoesP.close (S := fun k => k = w.heap.size + 1 + 1 ∨ k = q ∨ (w2.heap.size ≤ k ∧ k < wd.heap.size) ∨ w3.heap.size ≤ k) HH.out hb0b hp hw2d hb3 HR.out ((((ho4.mono (fun k _ hk => .inr (.inr hk))).trans ((Off.of_below hb5))).trans (ho6.mono (fun k _ hk => .inr (.inl hk)))).trans (ho.mono (fun k _ hk => .inl hk))) (fun k hk => by
      rcases hk with rfl | rfl | h1 | h1
      · exact .inl ⟨by omega, by omega⟩
      · exact .inl ⟨by omega, by omega⟩
      · exact .inr (.inl h1)
      · exact .inr (.inr h1)) HLEN.out.1 HLEN.out.2)
    clear HR HH hp ho4 hb3 ho6 hb5 hLent hq8 hq9 s3
    have r0 := x3.c0
    have r1 := x3.c1
    have r2 := x3.c2
    have r3 := x3.c3
    have r4 := x3.c4
    have r5 := x3.c5
    have f0 := x3.fz 0
    have f1 := x3.fz 1
    have f2 := x3.fz 2
    have f3 := x3.fz 3
    have f4 := x3.fz 4
    have f5 := x3.fz 5
    have HS := Lib.hid (set6p x3 (.slice bA' DN.blocks.length bc') (.slice wA' DN.pending.length wc') (.bool DN.down) (.int .i64 DN.power) (.int .i64 DN.fault) (.int .i64 DN.wi))
    go_wp2_with fail
    clear r0 f0 r1 f1 r2 f2 r3 f3 r4 f4 r5 f5
    obtain ⟨s1, s3⟩ := HS.out _ rfl
    clear HS
    generalize ((((((w6.setCell ⟨w.heap.size + 1 + 1, 0, none⟩ (.slice bA' DN.blocks.length bc')).setCell ⟨w.heap.size + 1 + 1, 1, none⟩ (.slice wA' DN.pending.length wc')).setCell ⟨w.heap.size + 1 + 1, 2, none⟩ (.bool DN.down)).setCell ⟨w.heap.size + 1 + 1, 3, none⟩ (.int .i64 DN.power)).setCell ⟨w.heap.size + 1 + 1, 4, none⟩ (.int .i64 DN.fault)).setCell ⟨w.heap.size + 1 + 1, 5, none⟩ (.int .i64 DN.wi)) = wf at *
    have z0 := s1.c0
    have z1 := s1.c1
    have z2 := s1.c2
    have z3 := s1.c3
    have z4 := s1.c4
    have z5 := s1.c5
    refine bodyPost_ret (v := .tuple #[.agg #[.slice bA' DN.blocks.length bc', .slice wA' DN.pending.length wc', .bool DN.down, .int .i64 DN.power, .int .i64 DN.fault, .int .i64 DN.wi], .bool true]) (by simp [results, Try.results46, go_sem, z0, z1, z2, z3, z4, z5]) rfl ?_
    exact HCL.out _ s3

/-- does, whatever the call. -/
theorem does_any (w : World) (base g : Nat) (F G : Nat → Prop) (v : Value) (D : DiskS) (kd on bt sd : Int) (sh : Bool) (nn er : Int) (K : Option Addr) (nk ck : Nat) (keep : List Bool) (torn cut : Int) (h : Pr w base g F G v D) (hpl : D.pending.length ≤ 1000000) (hnn : nn ≤ 9223372036854775807) (hK : LR w K nk keep) (hKF : ∀ ad, K = some ad → 0 < nk → ¬ F ad.block) (hnk : nk ≤ 9223372036854775807) :
    Calls Try.prog 46 #[.pointer (some ⟨g, 0, none⟩), v, .agg #[.int .i64 kd, .int .i64 on, .int .i64 bt, .int .i64 sd, .bool sh, .int .i64 nn, .int .i64 er, .slice K nk ck, .int .i64 torn, .int .i64 cut]] w (DoesP w base g F G D) := by
  by_cases h1 : kd < 1 ∨ 6 < kd
  · exact does_other w base g F G v D kd on bt sd sh nn er K nk ck torn cut h h1
  · obtain rfl | rfl | rfl | rfl | rfl | rfl : kd = 1 ∨ kd = 2 ∨ kd = 3 ∨ kd = 4 ∨ kd = 5 ∨ kd = 6 := by omega
    · exact does_write w base g F G v D on bt sd sh nn er K nk ck torn cut h hpl
    · exact does_sync w base g F G v D on bt sd sh nn er K nk ck torn cut h hpl
    · exact does_read w base g F G v D on bt sd sh nn er K nk ck torn cut h hpl
    · exact does_arm w base g F G v D on bt sd sh nn er K nk ck torn cut h hpl hnn
    · exact does_fail w base g F G v D on bt sd sh nn er K nk ck torn cut h hpl hnn
    · exact does_crash w base g F G v D on bt sd sh nn er K nk ck torn cut keep h hpl hK hKF hnk

end Go.Proofs.Ytjopobkcijkpmaa
