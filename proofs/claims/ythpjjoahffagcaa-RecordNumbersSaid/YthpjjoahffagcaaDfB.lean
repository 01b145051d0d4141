/-
  change.Diff's own function 'put': the piece that is being made joins the row.
-/
import Derived.Test.YthpjjoahffagcaaDfA
import Derived.Test.YthpjjoahffagcaaOctG
import Derived.Deep.RegionHeldLaw
namespace Go.Proofs.Ythpjjoahffagcaa
open Go.RowKit

/-- Every block of cells that are no pieces and no rows of pieces lies as it lay. -/
def CT (w w' : World) : Prop := ∀ (k : Nat) (c : Array Value) (t : TypeId) (f : Nat × Nat), t ≠ 22 → t ≠ 29 → w.heap[k]? = some (.cells c t f) → w'.heap[k]? = some (.cells c t f)

section
variable {w w' w'' : World}
theorem CT.refl (w : World) : CT w w := fun _ _ _ _ _ _ h => h
theorem CT.alloc (o : Obj) : CT w (w.alloc o) := fun k _ _ _ _ _ h => (Below.heap_alloc w o k (Array.getElem?_eq_some_iff.1 h).1).trans h
theorem CT.trans (h : CT w w') (k : CT w' w'') : CT w w'' := fun _ _ _ _ h1 h2 e => k _ _ _ _ h1 h2 (h _ _ _ _ h1 h2 e)
theorem CT.of_below (hb : Below w.heap.size w w') : CT w w' := fun k _ _ _ _ _ h => (hb.block k (Array.getElem?_eq_some_iff.1 h).1).trans h
theorem CT.of_grownBy {row : Option Nat} (hg : w.grownBy w' row) (hr : ∀ r, row = some r → ∃ c t f, w.heap[r]? = some (.cells c t f) ∧ (t = 22 ∨ t = 29)) : CT w w' := by
  intro k c t f h1 h2 h
  have hlt : k < w.heap.size := (Array.getElem?_eq_some_iff.1 h).1
  rw [hg.block k hlt (fun e => by
    obtain ⟨c', t', f', ho, hc⟩ := hr k e.symm
    rw [h] at ho
    cases ho
    rcases hc with rfl | rfl
    · exact h1 rfl
    · exact h2 rfl), h]
theorem CT.of_row {base size n : Nat} {v : Value} {xs : List Value} (ho : w.ownsRow base 29 size v n xs) (hg : w.grownBy w' v.ownBlock) : CT w w' := by
  refine CT.of_grownBy hg fun r e => ?_
  rcases ho.2 with ⟨rfl, _⟩ | ⟨g, cap, cur, rfl, _, hgb, _⟩
  · simp [Value.ownBlock] at e
  · obtain rfl : g = r := by simpa [Value.ownBlock] using e
    exact ⟨_, _, _, hgb, .inr rfl⟩
theorem CT.setBox {B : Nat} {v : Value} (hB : Boxed w B 22 v) (u : Value) : CT w (w.setCell ⟨B, 0, none⟩ u) :=
  CT.of_grownBy (grownBy_setCell' w B u) fun r e => by cases e; exact ⟨_, _, _, hB, .inl rfl⟩
theorem CT.own (h : CT w w') {base : Nat} {e : TypeId} (h1 : e ≠ 22) (h2 : e ≠ 29) {size : Nat} {v : Value} {n : Nat} {xs : List Value} (ho : w.ownsRow base e size v n xs) : w'.ownsRow base e size v n xs := by
  refine ⟨ho.1, ?_⟩
  rcases ho.2 with h0 | ⟨g, cap, cur, hv, hb, hg, r⟩
  · exact .inl h0
  · exact .inr ⟨g, cap, cur, hv, hb, h _ _ _ _ h1 h2 hg, r⟩
theorem CT.ob (h : CT w w') {base : Nat} {v : Value} {l : List UInt8} (ho : OB w base v l) : OB w' base v l := CT.own h (by decide) (by decide) ho
theorem CT.box (h : CT w w') {B : Nat} {t : TypeId} {v : Value} (hb : Boxed w B t v) (h1 : t ≠ 22) (h2 : t ≠ 29) : Boxed w' B t v := h _ _ _ _ h1 h2 hb
end

theorem keeps_of_below {w w' : World} (h : Below w.heap.size w w') : KeepsOthers w w' := ⟨h.size, fun k _ hk _ => (h.block k (Array.getElem?_eq_some_iff.1 hk).1).trans hk⟩
theorem keeps_of_row {w w' : World} {base size n : Nat} {e : TypeId} {v : Value} {xs : List Value} (ho : w.ownsRow base e size v n xs) (hg : w.grownBy w' v.ownBlock) : KeepsOthers w w' := by
  refine KeepsOthers.of_grownBy hg fun j o ej hj => ?_
  rcases ho.2 with ⟨rfl, _⟩ | ⟨g, cap, cur, rfl, _, hgb, _⟩
  · simp [Value.ownBlock] at ej
  · obtain rfl : g = j := by simpa [Value.ownBlock] using ej
    rw [hgb] at hj; cases hj; rfl

theorem Boxed_below {w w' : World} {B : Nat} {t : TypeId} {v : Value} (h : Boxed w B t v) (hb : Below w.heap.size w w') : Boxed w' B t v := (hb.block B h.lt).trans h

theorem rd_two (w : World) (x y : Value) (t : TypeId) : Rd (w.alloc (.cells #[x, y] t)) 2 (some ⟨w.heap.size, 0, none⟩) 1 [x, y] := by
  have hw := World.alloc_heap_new w (.cells #[x, y] t)
  have hc : ∀ (j : Nat) (u : Value), (#[x, y] : Array Value)[j]? = some u → (w.alloc (.cells #[x, y] t)).cell? ⟨w.heap.size, j, none⟩ = some u := by
    intro j u h
    unfold World.cell?
    dsimp only
    rw [hw]
    exact h
  refine ⟨rfl, fun _ => ⟨_, rfl, ?_⟩⟩
  intro k u hk
  match k, hk with
  | 0, hk => exact hc 0 u hk
  | 1, hk => exact hc 1 u hk
  | k + 2, hk => simp at hk

/-- The piece that is being made, f to e of b, joins; none, as long as e is nought. -/
def dput (b : List UInt8) (ps : List Pc) (f e : Nat) : List Pc := if e = 0 then ps else ps ++ [((f : Int), (b.drop f).take (e - f))]

theorem unlike_any (A B : Option Addr) (na nb ca cb : Nat) (w : World) :
    Calls Try.prog 38 #[.slice A na ca, .slice B nb cb] w fun r w' => r = .returned (.func (.func 55) #[] #[.pointer (some ⟨w.heap.size, 0, none⟩), .pointer (some ⟨w.heap.size + 1, 0, none⟩)]) ∧
      w' = (w.alloc (.cells #[.slice A na ca] 26)).alloc (.cells #[.slice B nb cb] 26) := by
  go_enter Try.func38, Try.ntmps38
  go_wp2_with fail
  go_ret
  exact ⟨by simp, rfl⟩

set_option maxRecDepth 100000 in
set_option maxHeartbeats 2000000 in
theorem put_none (w : World) (BL Bl BF BN : Nat) (hL : Boxed w BL 3 (.int .i64 (-1))) :
    Calls Try.prog 36 #[.pointer (some ⟨BL, 0, none⟩), .pointer (some ⟨Bl, 0, none⟩), .pointer (some ⟨BF, 0, none⟩), .pointer (some ⟨BN, 0, none⟩)] w fun r w' => (∃ u, r = .returned u) ∧ w' = w := by
  have hc := hL.cell
  go_enter Try.func36, Try.ntmps36
  go_wp2_with fail
  go_end0
  exact ⟨⟨_, rfl⟩, rfl⟩

set_option maxRecDepth 100000 in
set_option maxHeartbeats 4000000 in
theorem put_some (w : World) (BL Bl BF BN n₀ : Nat) (v : Value) (ps : List Pc) (f e : Nat) (B : Option Addr) (cb : Nat) (b : List UInt8)
    (hL : Boxed w BL 3 (.int .i64 (e : Int))) (hl : Boxed w Bl 22 v) (hF : Boxed w BF 3 (.int .i64 (f : Int))) (hN : Boxed w BN 26 (.slice B 4080 cb)) (hb : BR w B 4080 b) (hcb : 4080 ≤ cb)
    (ho : OP w n₀ v ps) (hn₀ : n₀ ≤ w.heap.size) (hBl : n₀ ≤ Bl) (hfe : f ≤ e) (he : e < 4080) (hlen : ps.length ≤ 4080) :
    Calls Try.prog 36 #[.pointer (some ⟨BL, 0, none⟩), .pointer (some ⟨Bl, 0, none⟩), .pointer (some ⟨BF, 0, none⟩), .pointer (some ⟨BN, 0, none⟩)] w fun r w' => (∃ u, r = .returned u) ∧
      ∃ v', Boxed w' Bl 22 v' ∧ OP w' n₀ v' (dput b ps f (e + 1)) ∧ CT w w' ∧ KeepsOthers w w' ∧ Below n₀ w w' := by
  obtain ⟨i0, hi0, hz0, hz1, hz2⟩ := info_parts info_u8
  obtain ⟨i1, hi1, hy0, hy1, hy2⟩ := info_parts info_piece
  obtain ⟨us, hrow, hul, huv, hdis⟩ := ho
  obtain ⟨Av, cv, rfl, _, _⟩ := own_form hrow
  have hcL := hL.cell
  have hcl := hl.cell
  have hcF := hF.cell
  have hcN := hN.cell
  have hcut := fun W => run_cut_lh (P := Try.prog) W 26 5 i0 Try.underlying26 hi0 1 hz1 B 4080 cb (f : Int) ((e : Int) + 1) f (e + 1) rfl (by omega) (by omega) (by omega)
  have hb' := hb.cut (k := f) (j := e + 1) (c := cb) (by omega) (by omega) hcb
  generalize cutA B cb f 1 = Bc at *
  have CL := Lib.hid (Clone_any Bc (e + 1 - f) (cb - f) ((b.drop f).take (e + 1 - f)) w.drew hb' (by omega))
  go_enter Try.func36, Try.ntmps36
  go_wp2_with fail
  have hwr : IntKind.i64.wrap ((e : Int) + 1) = (e : Int) + 1 := by rw [IntKind.wrap_i64]; omega
  have HLEN : Hid (((b.drop f).take (e + 1 - f)).length = e + 1 - f) := Lib.hid (by rw [List.length_take, List.length_drop, hb.len]; omega)
  have hl' : Boxed w.drew Bl 22 (.slice Av ps.length cv) := hl
  have hF' : Boxed w.drew BF 3 (.int .i64 (f : Int)) := hF
  have HL := Lib.hid hl'
  have HF := Lib.hid hF'
  have HR := Lib.hid hrow.drew
  have hone : ∀ (A3 : Option Addr) (c3 : Nat), ∀ u ∈ [Value.int .i64 (f : Int), .slice A3 (e + 1 - f) c3], u.oneCell' = true := by
    intro A3 c3 u hu
    simp only [List.mem_cons, List.not_mem_nil, or_false] at hu
    rcases hu with rfl | rfl <;> rfl
  have hby : (ps.length + 1 + (ps.length + 1) / 4 + 256) * 32 ≤ 281474976710656 := by omega
  have hmx : ps.length + 1 ≤ maxLen := by simp only [maxLen]; omega
  have hal : ∀ (w3 : World) (o : Obj), n₀ ≤ w3.heap.size → n₀ ≤ (w3.alloc o).heap.size := fun w3 o h => by rw [World.size_alloc]; omega
  have hbox : ∀ (w3 w4 : World) (o : Obj), Below w.drew.heap.size w.drew w3 → (w3.alloc o).grownBy w4 (Value.slice Av ps.length cv).ownBlock → Boxed w4 Bl 22 (.slice Av ps.length cv) := by
    intro w3 w4 o hb4 hg4
    have h3 : (w3.alloc o).ownsRow n₀ 29 2 (.slice Av ps.length cv) ps.length (pcs us) := (CK.own (CK.of_below hb4) hrow.drew).alloc o
    have b3 : Boxed (w3.alloc o) Bl 22 (.slice Av ps.length cv) := (Boxed_below hl' hb4).alloc o
    exact b3.kept hg4 (b3.not_row (by decide) h3)
  have Hbox := Lib.hid hbox
  have Hone := Lib.hid hone
  have Hby := Lib.hid hby
  have Hal := Lib.hid hal
  clear hone hby hal hbox
  have hSS : ∀ W, CT w W → W.cell? ⟨BL, 0, none⟩ = some (.int .i64 (e : Int)) ∧ W.cell? ⟨BF, 0, none⟩ = some (.int .i64 (f : Int)) ∧ W.cell? ⟨BN, 0, none⟩ = some (.slice B 4080 cb) :=
    fun W h => ⟨(h.box hL (by decide) (by decide)).cell, (h.box hF (by decide) (by decide)).cell, (h.box hN (by decide) (by decide)).cell⟩
  have HS := Lib.hid hSS
  have HT := Lib.hid (CT.refl w)
  clear hSS
  have hrowT : ∀ (w3 w4 : World) (o : Obj), CT w w3 → (w3.alloc o).ownsRow n₀ 29 2 (Value.slice Av ps.length cv) ps.length (pcs us) → (w3.alloc o).grownBy w4 (Value.slice Av ps.length cv).ownBlock → CT w w4 :=
    fun w3 w4 o h h3 hg => (h.trans (CT.alloc o)).trans (CT.of_row h3 hg)
  have HrowT := Lib.hid hrowT
  have hTb : ∀ w3 : World, Below w.drew.heap.size w.drew w3 → CT w w3 := fun w3 hb4 => fun k c t f h1 h2 h => CT.of_below (w := w.drew) hb4 k c t f h1 h2 h
  have HTb := Lib.hid hTb
  clear hTb
  clear hrowT
  have hend : ∀ (w3 w4 : World) (A3 : Option Addr) (c3 g4 c4 : Nat), OB w3 w.drew.heap.size (.slice A3 (e + 1 - f) c3) ((b.drop f).take (e + 1 - f)) → Below w.drew.heap.size w.drew w3 →
      w4.ownsRow n₀ 29 2 (.slice (some ⟨g4, 0, none⟩) (ps.length + 1) c4) (ps.length + 1) (pcs us ++ [.int .i64 (f : Int), .slice A3 (e + 1 - f) c3]) →
      (w3.alloc (.cells #[.int .i64 (f : Int), .slice A3 (e + 1 - f) c3] 29)).grownBy w4 (Value.slice Av ps.length cv).ownBlock →
      ∃ v', Boxed (w4.setCell ⟨Bl, 0, none⟩ (.slice (some ⟨g4, 0, none⟩) (ps.length + 1) c4)) Bl 22 v' ∧ OP (w4.setCell ⟨Bl, 0, none⟩ (.slice (some ⟨g4, 0, none⟩) (ps.length + 1) c4)) n₀ v' (dput b ps f (e + 1)) ∧
        CT w (w4.setCell ⟨Bl, 0, none⟩ (.slice (some ⟨g4, 0, none⟩) (ps.length + 1) c4)) ∧ KeepsOthers w (w4.setCell ⟨Bl, 0, none⟩ (.slice (some ⟨g4, 0, none⟩) (ps.length + 1) c4)) ∧ Below n₀ w (w4.setCell ⟨Bl, 0, none⟩ (.slice (some ⟨g4, 0, none⟩) (ps.length + 1) c4)) := by
    intro w3 w4 A3 c3 g4 c4 ho3 hb4 hown4 hg4
    have hb3 : Below w.heap.size w w3 := ⟨hb4.os, hb4.tape, hb4.output, hb4.size, hb4.block⟩
    have h3row : (w3.alloc (.cells #[.int .i64 (f : Int), .slice A3 (e + 1 - f) c3] 29)).ownsRow n₀ 29 2 (.slice Av ps.length cv) ps.length (pcs us) := (CK.own (CK.of_below hb3) hrow).alloc _
    have B4 := Hbox.out _ _ _ hb4 hg4
    have T34 : CT w3 (w4.setCell ⟨Bl, 0, none⟩ (.slice (some ⟨g4, 0, none⟩) (ps.length + 1) c4)) := ((CT.alloc _).trans (CT.of_row h3row hg4)).trans (CT.setBox B4 _)
    have T5 := (HTb.out _ hb4).trans T34
    have hd : dput b ps f (e + 1) = ps ++ [((f : Int), (b.drop f).take (e + 1 - f))] := by unfold dput; rw [if_neg (by omega)]
    have hn1 : n₀ ≤ w3.heap.size := Nat.le_trans hn₀ hb3.size
    refine ⟨_, B4.set _, ⟨us ++ [((f : Int), .slice A3 (e + 1 - f) c3)], ?_, ?_, ?_, ?_⟩, T5, ?_, ?_⟩
    · rw [hd, pcs_append, List.length_append]
      exact hown4.kept (grownBy_setCell' w4 Bl _) (.inr (B4.not_row (by decide) hown4).symm)
    · rw [hd, List.length_append, List.length_append, hul]; rfl
    · intro i p q hp hq
      rw [hd] at hp
      rcases Nat.lt_or_ge i ps.length with hi | hi
      · rw [List.getElem?_append_left hi] at hp
        rw [List.getElem?_append_left (by omega)] at hq
        exact ⟨(huv i p q hp hq).1, T5.ob (huv i p q hp hq).2⟩
      · rw [List.getElem?_append_right hi] at hp
        rw [List.getElem?_append_right (by omega), hul] at hq
        rcases Nat.eq_zero_or_pos (i - ps.length) with h0 | h0
        · rw [h0] at hp hq
          simp only [List.getElem?_cons_zero, Option.some.injEq] at hp hq
          subst hp hq
          exact ⟨rfl, T34.ob (OB.lower ho3 (show n₀ ≤ w.drew.heap.size from hn₀))⟩
        · rw [List.getElem?_eq_none (by simp; omega)] at hp
          cases hp
    · rw [List.pairwise_append]
      refine ⟨hdis, List.pairwise_singleton _ _, ?_⟩
      intro q hq r hr k hk hk'
      rw [List.mem_singleton] at hr
      subst hr
      obtain ⟨j, hj, hjq⟩ := List.getElem_of_mem hq
      have h1 := (huv j _ q (List.getElem?_eq_getElem (show j < ps.length by omega)) (by rw [List.getElem?_eq_getElem hj, hjq])).2
      have h2 := (h1.lt k hk).2
      have h3 := (ho3.lt k hk').1
      exact absurd h2 (Nat.not_lt.2 h3)
    · exact (((keeps_of_below hb3).trans (KeepsOthers.alloc _ _)).trans (keeps_of_row h3row hg4)).trans (KeepsOthers.setCell _ _ _)
    · exact (((hb3.mono hn₀).alloc hn1 _).grown hg4 (Hal.out _ _ hn1) (fun k hk => (hrow.lt k hk).1)).setCell (p := ⟨Bl, 0, none⟩) hBl _
  have HEND := Lib.hid hend
  clear hend
  refine wp_region_held_drew (S := fun W => W.cell? ⟨BL, 0, none⟩ = some (.int .i64 (e : Int)) ∧ W.cell? ⟨BF, 0, none⟩ = some (.int .i64 (f : Int)) ∧ W.cell? ⟨BN, 0, none⟩ = some (.slice B 4080 cb)) (by kernel_rfl) (HS.out _ HT.out) (fun hHeld => ?_)
  refine wpAnyH_take (i := 1) (v := ?_) rfl (by kernel_rfl) (by kernel_rfl) (by kernel_rfl) (fun _ _ _ h => h) (Or.inl ⟨by rfl, ?_⟩) (by assumption) ?_
  rotate_left 1
  · (intro w hSw; (try dsimp only at hSw); go_simp; try (with_reducible rfl))
  try simp only [Act.put, List.setIfInBounds_toArray]
  refine wpAnyH_take (i := 2) (v := ?_) rfl (by kernel_rfl) (by kernel_rfl) (by kernel_rfl) (fun _ _ _ h => h) (Or.inl ⟨by rfl, ?_⟩) (by assumption) ?_
  rotate_left 1
  · (intro w hSw; (try dsimp only at hSw); go_simp; try (with_reducible rfl))
  try simp only [Act.put]
  refine wpAnyH_take (i := 3) (v := ?_) rfl (by kernel_rfl) (by kernel_rfl) (by kernel_rfl) (fun _ _ _ h => h) (Or.inl ⟨by rfl, ?_⟩) (by assumption) ?_
  rotate_left 1
  · (intro w hSw; (try dsimp only at hSw); go_simp; try (with_reducible rfl))
  try simp only [Act.put]
  refine wpAnyH_take (i := 4) (v := ?_) rfl (by kernel_rfl) (by kernel_rfl) (by kernel_rfl) (fun _ _ _ h => h) (Or.inl ⟨by rfl, ?_⟩) (by assumption) ?_
  rotate_left 1
  · (intro w hSw; (try dsimp only at hSw); go_simp; try (with_reducible rfl))
  try simp only [Act.put]
  refine wpAnyH_take (i := 5) (v := ?_) rfl (by kernel_rfl) (by kernel_rfl) (by kernel_rfl) (fun _ _ _ h => h) (Or.inl ⟨by rfl, ?_⟩) (by assumption) ?_
  rotate_left 1
  · (intro w hSw; (try dsimp only at hSw); go_simp; try (with_reducible rfl))
  try simp only [Act.put]
  refine wpAnyH_take (i := 6) (v := ?_) rfl (by kernel_rfl) (by kernel_rfl) (by kernel_rfl) (fun _ _ _ h => h) (Or.inl ⟨by rfl, ?_⟩) (by assumption) ?_
  rotate_left 1
  · (intro w hSw; (try dsimp only at hSw); go_simp; try (with_reducible rfl))
  try simp only [Act.put]
  -- WAYS
  refine wpAnyH_ready (rs := [0, 7]) (by kernel_rfl) (by simp) ?_
  refine AllReadyH.cons rfl (fun K hK => ?_) ?_
  · go_simp
    refine hK.out _ _ (HS.out _ HT.out) (fun hHeld => ?_); clear hK K; (try simp only [Act.put, List.setIfInBounds_toArray, List.set_cons_zero, List.set_cons_succ])
    refine wpAnyH_ready (rs := [7]) (by kernel_rfl) (by simp) (AllReadyH.cons rfl (fun K hK => ?_) AllReadyH.nil)
    go_simp
    go_at_call 37
    refine CL.out.mono ?_
    rintro r w3 ⟨v3, rfl, ho3, hb4⟩
    have HT3 := Lib.hid (HTb.out _ hb4)
    have H3 := Lib.hid (CK.own (CK.of_below hb4) HR.out)
    have hcl3 := (Boxed_below HL.out hb4).cell
    have hclA := fun o => ((Boxed_below HL.out hb4).alloc o).cell
    obtain ⟨A3, c3, rfl, r3, hc3, hm3⟩ := ho3.formN (n := e + 1 - f) HLEN.out
    have hs4 : n₀ ≤ w3.heap.size := Nat.le_trans hn₀ hb4.size
    (try go_simp)
    refine hK.out _ _ (HS.out _ HT3.out) (fun hHeld => ?_); clear hK K; (try simp only [Act.put, List.setIfInBounds_toArray, List.set_cons_zero, List.set_cons_succ])
    refine wpAnyH_take (i := 8) (v := ?_) rfl (by kernel_rfl) (by kernel_rfl) (by kernel_rfl) (fun _ _ _ h => h) (Or.inl ⟨by rfl, ?_⟩) (by assumption) ?_
    rotate_left 1
    · (intro w hSw; (try dsimp only at hSw); go_simp; try (with_reducible rfl))
    try simp only [Act.put, List.setIfInBounds_toArray]
    refine wpAnyH_ready (rs := [9]) (by kernel_rfl) (by simp) (AllReadyH.cons rfl (fun K hK => ?_) AllReadyH.nil)
    go_simp
    refine hK.out _ _ (HS.out _ (HT3.out.trans (CT.alloc _))) (fun hHeld => ?_); clear hK K; (try simp only [Act.put, List.setIfInBounds_toArray, List.set_cons_zero, List.set_cons_succ])
    refine wpAnyH_ready (rs := [10]) (by kernel_rfl) (by simp) (AllReadyH.cons rfl (fun K hK => ?_) AllReadyH.nil)
    refine step_append_Rd _ rfl (.tmp 6) (.tmp 15) _ rfl n₀ 29 i1 _ 2 32 Try.underlying22 hi1 hy0 hy1 hy2 rfl (.slice Av ps.length cv) ps.length (pcs us) rfl (H3.out.alloc _) (some ⟨w3.heap.size, 0, none⟩) 1 1 [.int .i64 (f : Int), .slice A3 (e + 1 - f) c3] rfl (rd_two _ _ _ _) (Hone.out _ _) Hby.out hmx (Hal.out _ _ hs4) ?_
    intro v4 w4 hown4 hg4 _ _
    have HT4 := Lib.hid (HrowT.out _ _ _ HT3.out (H3.out.alloc _) hg4)
    obtain ⟨g4, c4, rfl⟩ := ownsRow_succ hown4
    have hB4 := Hbox.out _ _ _ hb4 hg4
    have hcl4 := hB4.cell
    have hfl4 := hB4.frozen
    refine hK.out _ _ (HS.out _ HT4.out) (fun hHeld => ?_); clear hK K; (try simp only [Act.put, List.setIfInBounds_toArray])
    refine wpAnyH_ready (rs := [11]) (by kernel_rfl) (by simp) (AllReadyH.cons rfl (fun K hK => ?_) AllReadyH.nil)
    go_simp
    refine hK.out _ _ (HS.out _ (HT4.out.trans (CT.setBox hB4 _))) (fun hHeld => ?_); clear hK K; (try simp only [Act.put, List.setIfInBounds_toArray, List.set_cons_zero, List.set_cons_succ])
    refine wpAnyH_done (by kernel_rfl) ?_ _
    go_wp2_with fail
    go_end0
    exact ⟨⟨_, rfl⟩, HEND.out _ _ _ _ _ _ ho3 hb4 hown4 hg4⟩
  refine AllReadyH.cons rfl (fun K hK => ?_) AllReadyH.nil
  go_simp
  go_at_call 37
  refine CL.out.mono ?_
  rintro r w3 ⟨v3, rfl, ho3, hb4⟩
  have HT3 := Lib.hid (HTb.out _ hb4)
  have H3 := Lib.hid (CK.own (CK.of_below hb4) HR.out)
  have hcl3 := (Boxed_below HL.out hb4).cell
  have hclA := fun o => ((Boxed_below HL.out hb4).alloc o).cell
  obtain ⟨A3, c3, rfl, r3, hc3, hm3⟩ := ho3.formN (n := e + 1 - f) HLEN.out
  have hs4 : n₀ ≤ w3.heap.size := Nat.le_trans hn₀ hb4.size
  (try go_simp)
  refine hK.out _ _ (HS.out _ HT3.out) (fun hHeld => ?_); clear hK K; (try simp only [Act.put, List.setIfInBounds_toArray, List.set_cons_zero, List.set_cons_succ])
  refine wpAnyH_take (i := 8) (v := ?_) rfl (by kernel_rfl) (by kernel_rfl) (by kernel_rfl) (fun _ _ _ h => h) (Or.inl ⟨by rfl, ?_⟩) (by assumption) ?_
  rotate_left 1
  · (intro w hSw; (try dsimp only at hSw); go_simp; try (with_reducible rfl))
  try simp only [Act.put, List.setIfInBounds_toArray]
  refine wpAnyH_ready (rs := [0, 9]) (by kernel_rfl) (by simp) ?_
  refine AllReadyH.cons rfl (fun K hK => ?_) ?_
  · go_simp
    refine hK.out _ _ (HS.out _ HT3.out) (fun hHeld => ?_); clear hK K; (try simp only [Act.put, List.setIfInBounds_toArray, List.set_cons_zero, List.set_cons_succ])
    refine wpAnyH_ready (rs := [9]) (by kernel_rfl) (by simp) (AllReadyH.cons rfl (fun K hK => ?_) AllReadyH.nil)
    go_simp
    refine hK.out _ _ (HS.out _ (HT3.out.trans (CT.alloc _))) (fun hHeld => ?_); clear hK K; (try simp only [Act.put, List.setIfInBounds_toArray, List.set_cons_zero, List.set_cons_succ])
    refine wpAnyH_ready (rs := [10]) (by kernel_rfl) (by simp) (AllReadyH.cons rfl (fun K hK => ?_) AllReadyH.nil)
    refine step_append_Rd _ rfl (.tmp 6) (.tmp 15) _ rfl n₀ 29 i1 _ 2 32 Try.underlying22 hi1 hy0 hy1 hy2 rfl (.slice Av ps.length cv) ps.length (pcs us) rfl (H3.out.alloc _) (some ⟨w3.heap.size, 0, none⟩) 1 1 [.int .i64 (f : Int), .slice A3 (e + 1 - f) c3] rfl (rd_two _ _ _ _) (Hone.out _ _) Hby.out hmx (Hal.out _ _ hs4) ?_
    intro v4 w4 hown4 hg4 _ _
    have HT4 := Lib.hid (HrowT.out _ _ _ HT3.out (H3.out.alloc _) hg4)
    obtain ⟨g4, c4, rfl⟩ := ownsRow_succ hown4
    have hB4 := Hbox.out _ _ _ hb4 hg4
    have hcl4 := hB4.cell
    have hfl4 := hB4.frozen
    refine hK.out _ _ (HS.out _ HT4.out) (fun hHeld => ?_); clear hK K; (try simp only [Act.put, List.setIfInBounds_toArray])
    refine wpAnyH_ready (rs := [11]) (by kernel_rfl) (by simp) (AllReadyH.cons rfl (fun K hK => ?_) AllReadyH.nil)
    go_simp
    refine hK.out _ _ (HS.out _ (HT4.out.trans (CT.setBox hB4 _))) (fun hHeld => ?_); clear hK K; (try simp only [Act.put, List.setIfInBounds_toArray, List.set_cons_zero, List.set_cons_succ])
    refine wpAnyH_done (by kernel_rfl) ?_ _
    go_wp2_with fail
    go_end0
    exact ⟨⟨_, rfl⟩, HEND.out _ _ _ _ _ _ ho3 hb4 hown4 hg4⟩
  refine AllReadyH.cons rfl (fun K hK => ?_) AllReadyH.nil
  go_simp
  refine hK.out _ _ (HS.out _ (HT3.out.trans (CT.alloc _))) (fun hHeld => ?_); clear hK K; (try simp only [Act.put, List.setIfInBounds_toArray, List.set_cons_zero, List.set_cons_succ])
  refine wpAnyH_ready (rs := [0]) (by kernel_rfl) (by simp) (AllReadyH.cons rfl (fun K hK => ?_) AllReadyH.nil)
  go_simp
  refine hK.out _ _ (HS.out _ (HT3.out.trans (CT.alloc _))) (fun hHeld => ?_); clear hK K; (try simp only [Act.put, List.setIfInBounds_toArray, List.set_cons_zero, List.set_cons_succ])
  refine wpAnyH_ready (rs := [10]) (by kernel_rfl) (by simp) (AllReadyH.cons rfl (fun K hK => ?_) AllReadyH.nil)
  refine step_append_Rd _ rfl (.tmp 6) (.tmp 15) _ rfl n₀ 29 i1 _ 2 32 Try.underlying22 hi1 hy0 hy1 hy2 rfl (.slice Av ps.length cv) ps.length (pcs us) rfl (H3.out.alloc _) (some ⟨w3.heap.size, 0, none⟩) 1 1 [.int .i64 (f : Int), .slice A3 (e + 1 - f) c3] rfl (rd_two _ _ _ _) (Hone.out _ _) Hby.out hmx (Hal.out _ _ hs4) ?_
  intro v4 w4 hown4 hg4 _ _
  have HT4 := Lib.hid (HrowT.out _ _ _ HT3.out (H3.out.alloc _) hg4)
  obtain ⟨g4, c4, rfl⟩ := ownsRow_succ hown4
  have hB4 := Hbox.out _ _ _ hb4 hg4
  have hcl4 := hB4.cell
  have hfl4 := hB4.frozen
  refine hK.out _ _ (HS.out _ HT4.out) (fun hHeld => ?_); clear hK K; (try simp only [Act.put, List.setIfInBounds_toArray])
  refine wpAnyH_ready (rs := [11]) (by kernel_rfl) (by simp) (AllReadyH.cons rfl (fun K hK => ?_) AllReadyH.nil)
  go_simp
  refine hK.out _ _ (HS.out _ (HT4.out.trans (CT.setBox hB4 _))) (fun hHeld => ?_); clear hK K; (try simp only [Act.put, List.setIfInBounds_toArray, List.set_cons_zero, List.set_cons_succ])
  refine wpAnyH_done (by kernel_rfl) ?_ _
  go_wp2_with fail
  go_end0
  exact ⟨⟨_, rfl⟩, HEND.out _ _ _ _ _ _ ho3 hb4 hown4 hg4⟩

end Go.Proofs.Ythpjjoahffagcaa
