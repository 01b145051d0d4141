/-
  Texts of this claim, joined: ApI, SpP. No statement of the program is proved here.
-/
import Derived.Test.YtmdgnjmhbjdlmaaPkA2
import Derived.Test.YtmdgnjmhbjdlmaaPkA5
import Derived.Test.YtmdgnjmhbjdlmaaPkA6
/-! ApI -/
namespace Go.Proofs.Ytmdgnjmhbjdlmaa
open Go.RowKit

/-- A row of ints of one's own. -/
def OI (w : World) (base : Nat) (v : Value) (l : List Int) : Prop := w.ownsRow base 3 1 v l.length (l.map (Value.int .i64))
theorem info_int64 : (Try.prog.info? 3).map (fun i => (i.zero, i.size, i.bytes)) = some (some (.int .i64 0), 1, 8) := by kernel_rfl
section
variable {w w' : World} {base : Nat} {v : Value} {l : List Int}
theorem OI.form (h : OI w base v l) : ∃ A c, v = .slice A l.length c ∧ IR w A l.length l ∧ l.length ≤ c ∧ c ≤ maxLen := by
  rcases h.2 with ⟨rfl, h0⟩ | ⟨g, cap, cur, rfl, hb, hg, hn, hm, hc, ht⟩
  · have : l = [] := List.eq_nil_of_length_eq_zero h0
    subst this
    exact ⟨none, 0, rfl, IR.none_ _ _, Nat.le_refl _, Nat.zero_le _⟩
  · refine ⟨_, cap, rfl, ⟨by simp, fun _ => ⟨_, rfl, World.ownsRow.cells h (g := g) rfl⟩⟩, hn, hm⟩
theorem OI.formN (h : OI w base v l) {n : Nat} (hn : l.length = n) : ∃ A c, v = .slice A n c ∧ IR w A n l ∧ n ≤ c ∧ c ≤ maxLen := by
  subst hn
  exact h.form
theorem OI.below (h : OI w base v l) (hb : Below w.heap.size w w') : OI w' base v l :=
  World.ownsRow.kept h (row := none) ⟨hb.os, hb.tape, hb.output, hb.size, fun k hk _ => hb.block k hk⟩ (by cases v.ownBlock <;> simp)
theorem OI.of_own {n : Nat} {xs : List Value} (h : w.ownsRow base 3 1 v n xs) (e : xs = l.map (Value.int .i64)) : OI w base v l := by
  subst e
  have : n = l.length := by have := h.1; simp at this; exact this.symm
  subst this
  exact h
end
theorem IR.pre {w : World} {A : Option Addr} {n : Nat} {l : List Int} (h : IR w A n l) {j : Nat} (hj : j ≤ n) : IR w A j (l.take j) := by
  refine ⟨?_, fun hn => ?_⟩
  · have := h.len; simp; omega
  · obtain ⟨ad, e, hc⟩ := h.2 (by omega)
    refine ⟨ad, e, fun i u hu => hc i u ?_⟩
    rw [List.map_take, List.getElem?_take] at hu
    split at hu
    · exact hu
    · cases hu

/-- The mark of a place. -/
def mkW (k i : Nat) : Int := wrap64 (wrap64 (1000003 * wrap64 ((k : Int) + 7)) + (i : Int))

set_option maxHeartbeats 400000 in
theorem mark_any (k i : Nat) (w : World) :
    Calls Try.prog 42 #[.int .i64 (k : Int), .int .i64 (i : Int)] w fun e w' => e = .returned (.int .i64 (mkW k i)) ∧ w = w' := by
  go_enter Try.func42, Try.ntmps42
  go_wp2_with fail
  go_ret
  unfold mkW
  exact ⟨rfl, rfl⟩

theorem mark_of (k i : Nat) (x : Int) (hx : x = i) (w : World) :
    Calls Try.prog 42 #[.int .i64 (k : Int), .int .i64 x] w fun e w' => e = .returned (.int .i64 (mkW k i)) ∧ w = w' := by
  subst hx
  exact mark_any k i w

/-- So many marksI. -/
def marksI (k n : Nat) : List Int := (List.range n).map (mkW k)
theorem marksI_len (k n : Nat) : (marksI k n).length = n := by simp [marksI]
theorem marksI_succ (k n : Nat) : marksI k (n + 1) = marksI k n ++ [mkW k n] := by simp [marksI, List.range_succ]
theorem marksI_get (k n i : Nat) (h : i < n) : (marksI k n).getD i 0 = mkW k i := by unfold marksI; rw [List.getD_eq_getElem?_getD, List.getElem?_map, List.getElem?_range h, Option.map_some, Option.getD_some]
theorem marksI_take (k n i : Nat) (h : i ≤ n) : (marksI k n).take i = marksI k i := by
  unfold marksI
  rw [← List.map_take, List.take_range, Nat.min_eq_left h]

theorem take_set_succI {l : List Int} {i k : Nat} (hi : i < l.length) (h : l.take i = marksI k i) : (l.set i (mkW k i)).take (i + 1) = marksI k (i + 1) := by
  rw [List.take_succ_eq_append_getElem (by rw [List.length_set]; exact hi), List.take_set, List.set_eq_of_length_le (by rw [List.length_take]; omega), h, marksI_succ]
  simp

section
variable {w w' : World} {base g n cap : Nat} {l : List Int} {A : Option Addr}
theorem IR.grown {row : Option Nat} (h : IR w A n l) (hg : w.grownBy w' row) (hne : ∀ ad, A = some ad → some ad.block ≠ row) : IR w' A n l :=
  ⟨h.1, fun h0 => by
    obtain ⟨ad, e, hc⟩ := h.2 h0
    refine ⟨ad, e, fun j u hu => ?_⟩
    have := hc j u hu
    rw [← this]
    refine World.cell?_of_block (hg.block _ ?_ ?_)
    · exact World.block_lt_of_cell? w _ this
    · rw [block_of_add]; exact hne ad e⟩
theorem oiA_some (h : OI w base (.slice A n cap) l) (hn : l.length = n) (h0 : 0 < n) : ∃ g, A = some ⟨g, 0, none⟩ ∧ n ≤ cap ∧ cap ≤ maxLen ∧ base ≤ g := by
  rcases h.2 with ⟨_, e⟩ | ⟨g', cap', cur, e, hb, hgb, h1, h2, _⟩
  · omega
  · injection e with e1 e2 e3
    subst e1 e3
    exact ⟨g', rfl, by omega, h2, hb⟩
theorem oiIR (h : OI w base (.slice A n cap) l) (hn : l.length = n) : IR w A n l := by
  obtain ⟨A', c', e, hr, _, _⟩ := h.formN hn
  injection e with e1 e2 e3
  subst e1
  exact hr
/-- A block that holds values of another type is none of bytes. -/
theorem oi_ne {v : Value} {G : Nat} {cs : Array Value} {t : TypeId} {fr : Nat × Nat} (h : OI w base v l) (hG : w.heap[G]? = some (.cells cs t fr)) (ht : t ≠ 3) : v.ownBlock ≠ some G := by
  rcases h.2 with ⟨rfl, _⟩ | ⟨g', cap', cur, rfl, hb, hgb, _⟩
  · simp [Value.ownBlock]
  · intro e
    simp [Value.ownBlock] at e
    subst e
    rw [hgb] at hG
    cases hG
    exact ht rfl
theorem oi_kept {v : Value} {row : Option Nat} (h : OI w base v l) (hg : w.grownBy w' row) (hne : v.ownBlock = none ∨ v.ownBlock ≠ row) : OI w' base v l := World.ownsRow.kept h hg hne
end

theorem oin_cur {w : World} {base g n cap : Nat} {l : List Int} (h : OI w base (.slice (some ⟨g, 0, none⟩) n cap) l) (hn : l.length = n) : ∃ cur : Array Value, w.heap[g]? = some (.cells cur 3 (0, 0)) ∧ base ≤ g ∧ n ≤ cap ∧ cap ≤ maxLen ∧ cur.size = cap ∧ cur.toList.take n = l.map (Value.int .i64) := by
  rcases h.2 with ⟨e, _⟩ | ⟨g', cap', cur, e, hb, hg, hnc, hm, hcu, ht⟩
  · cases e
  · injection e with e1 e2 e3
    injection e1 with e1
    injection e1 with e1
    subst e1 e3
    exact ⟨cur, hg, hb, by omega, hm, by simpa using hcu, by rw [← ht, hn]; simp⟩
theorem oin_cell {w : World} {base g n cap : Nat} {l : List Int} (h : OI w base (.slice (some ⟨g, 0, none⟩) n cap) l) (hn : l.length = n) {j : Nat} (hj : j < n) : w.cell? ⟨g, j, none⟩ = some (.int .i64 (l.getD j 0)) := by
  obtain ⟨cur, hg, _, _, _, hz, ht⟩ := oin_cur h hn
  rw [cell_of_row w g j _ _ _ hg]
  have : cur.toList[j]? = (l.map (Value.int .i64))[j]? := by rw [← ht, List.getElem?_take, if_pos hj]
  rw [Array.getElem?_toList] at this
  rw [this, List.getElem?_map, List.getElem?_eq_getElem (by omega)]
  simp [List.getD, List.getElem?_eq_getElem (show j < l.length by omega)]
theorem oin_frozen {w : World} {base g n cap : Nat} {l : List Int} (h : OI w base (.slice (some ⟨g, 0, none⟩) n cap) l) (hn : l.length = n) (j : Nat) : w.frozen? ⟨g, j, none⟩ = false := by
  obtain ⟨cur, hg, _, _, _, hz, ht⟩ := oin_cur h hn
  simp [World.frozen?, hg]
theorem oin_set {w : World} {base g n cap : Nat} {l : List Int} (h : OI w base (.slice (some ⟨g, 0, none⟩) n cap) l) (hn : l.length = n) (j : Nat) (x : Int) : OI (w.setCell ⟨g, j, none⟩ ((Value.int .i64) x)) base (.slice (some ⟨g, 0, none⟩) n cap) (l.set j x) := by
  obtain ⟨cur, hg, hb, hnc, hm, hz, ht⟩ := oin_cur h hn
  refine ⟨by simp, .inr ⟨g, cap, cur.setIfInBounds j ((Value.int .i64) x), ?_, hb, ?_, ?_, hm, ?_, ?_⟩⟩
  · rw [List.length_set, hn]
  · simp only [World.setCell, Array.getElem?_modify, if_pos, hg]
    simp
  · rw [List.length_set]; omega
  · simp [hz]
  · rw [List.length_set, hn, Nat.mul_one, Array.toList_setIfInBounds, List.take_set, ht, List.map_set]

/-- Each list lies in a block of its own from base on. -/
structure AQ1 (w : World) (base n : Nat) (A : Nat → Option Addr) (N C : Nat → Nat) (L : Nat → List Int) : Prop where
  ob : ∀ j, j < n → OI w base (apV A N C j) (L j)
  len : ∀ j, j < n → (L j).length = N j

theorem AQ1.set {w : World} {base n : Nat} {A : Nat → Option Addr} {N C : Nat → Nat} {L : Nat → List Int} (h : AQ1 w base n A N C L) (hd : ApD n A N C) {k i g : Nat} (hk : k < n) (hA : A k = some ⟨g, 0, none⟩) (x : Int) :
    AQ1 (w.setCell ⟨g, i, none⟩ ((Value.int .i64) x)) base n A N C (fun j => if j = k then (L k).set i x else L j) := by
  refine ⟨fun j hj => ?_, fun j hj => ?_⟩
  · by_cases e : j = k
    · subst e
      rw [if_pos rfl]
      have := h.ob j hj
      unfold apV at this ⊢
      rw [hA] at this ⊢
      exact oin_set this (h.len j hj) i x
    · rw [if_neg e]
      refine oi_kept (h.ob j hj) (grown_set w g i _) ?_
      have := hd k j hk hj (Ne.symm e)
      unfold apV at this ⊢
      rw [hA] at this
      simpa [Value.ownBlock] using this
  · by_cases e : j = k
    · subst e
      rw [if_pos rfl, List.length_set]
      exact h.len j hj
    · rw [if_neg e]
      exact h.len j hj

/-- The first k lists have grown into Gv. -/
structure AQ3 (w : World) (base n : Nat) (A : Nat → Option Addr) (N C : Nat → Nat) (k : Nat) (Gv : Nat → Value) : Prop where
  old : ∀ j, k ≤ j → j < n → OI w base (apV A N C j) (marksI j (N j))
  own : ∀ j, j < k → OI w base (Gv j) (marksI j (N j + 40))
  rd : ∀ j, j < k → IR w (A j) (N j) (marksI j (N j))
  ap : ∀ j, j < k → ∀ i, k ≤ i → i < n → (Gv j).ownBlock = none ∨ (Gv j).ownBlock ≠ (apV A N C i).ownBlock

theorem AQ3.step {w w' : World} {base n : Nat} {A : Nat → Option Addr} {N C : Nat → Nat} {k : Nat} {Gv : Nat → Value} (h : AQ3 w base n A N C k Gv) (hd : ApD n A N C) (hk : k < n) (hg : w.grownBy w' (apV A N C k).ownBlock) {gv : Value}
    (ho : OI w' base gv (marksI k (N k + 40))) (hr : IR w' (A k) (N k) (marksI k (N k))) (hb : gv.ownBlock = (apV A N C k).ownBlock ∨ ∃ b, gv.ownBlock = some b ∧ w.heap.size ≤ b) : AQ3 w' base n A N C (k + 1) (fun j => if j = k then gv else Gv j) := by
  refine ⟨fun j h1 h2 => ?_, fun j hj => ?_, fun j hj => ?_, fun j hj i h1 h2 => ?_⟩
  · exact oi_kept (h.old j (by omega) h2) hg (hd k j hk h2 (by omega))
  · by_cases e : j = k
    · subst e; rw [if_pos rfl]; exact ho
    · rw [if_neg e]; exact oi_kept (h.own j (by omega)) hg (h.ap j (by omega) k (Nat.le_refl _) hk)
  · by_cases e : j = k
    · subst e; exact hr
    · refine (h.rd j (by omega)).grown hg fun ad ea => ?_
      have := hd k j hk (by omega) (Ne.symm e)
      unfold apV at this ⊢
      rw [ea] at this
      simpa [Value.ownBlock] using this
  · by_cases e : j = k
    · subst e
      rw [if_pos rfl]
      rcases hb with hb | ⟨b, hb, hbb⟩
      · rw [hb]
        rcases hd i j h2 hk (by omega) with h3 | h3
        · exact .inl h3
        · exact .inr h3
      · refine .inr fun e' => ?_
        have := ((h.old i (by omega) h2).lt b (by rw [← e', hb])).2
        omega
    · rw [if_neg e]; exact h.ap j (by omega) i (by omega) h2

theorem AQ3.other {w w' : World} {base n : Nat} {A : Nat → Option Addr} {N C : Nat → Nat} {k G : Nat} {Gv : Nat → Value} (h : AQ3 w base n A N C k Gv) (hk : k ≤ n) (hg : w.grownBy w' (some G)) {cs : Array Value} {t : TypeId} {fr : Nat × Nat} (hG : w.heap[G]? = some (.cells cs t fr)) (ht : t ≠ 3)
    (hA : ∀ j, j < n → ∀ ad, A j = some ad → ad.block ≠ G) : AQ3 w' base n A N C k Gv :=
  ⟨fun j h1 h2 => oi_kept (h.old j h1 h2) hg (.inr (oi_ne (h.old j h1 h2) hG ht)), fun j hj => oi_kept (h.own j hj) hg (.inr (oi_ne (h.own j hj) hG ht)),
   fun j hj => (h.rd j hj).grown hg fun ad ea e => hA j (by omega) ad ea (by injection e), h.ap⟩

theorem info_ints : (Try.prog.info? 32).map (fun i => (i.zero, i.size, i.bytes)) = some (some (.slice none 0 0), 1, 24) := by kernel_rfl

theorem run_mk_listsI (n : Nat) (hn : n ≤ 4398046511104) (x : Int) (hx : x = n) (u : World) :
    (Instr.makeSlice 38 (.int .i64 x) (.int .i64 x)).run Try.prog u = .ok (.slice (some ⟨u.heap.size, 0, none⟩) n n) (u.alloc (.cells (gsArr n 0 (fun _ => .slice none 0 0)) 32)) := by
  obtain ⟨i0, hi0, hz0, hz1, hz2⟩ := info_parts info_ints
  subst hx
  have h := run_make (P := Try.prog) u 38 32 i0 (.slice none 0 0) Try.underlying38 hi0 hz0 .i64 .i64 (n : Int) (n : Int) (by omega) (by omega) (by rw [hz2]; omega) (by omega)
  have e : madeCells #[.slice none 0 0] n = gsArr n 0 (fun _ => .slice none 0 0) := by
    apply Array.ext'
    rw [toList_madeCells_one]
    unfold gsArr
    simp only [Nat.not_lt_zero, if_false, List.map_const', List.length_range]
  simpa [hz1, Value.cells, e] using h

set_option maxRecDepth 100000 in
set_option maxHeartbeats 4000000 in
theorem ApartInts_off (gl cl n base : Nat) (lcur : Array Value) (fr : Nat × Nat) (A : Nat → Option Addr) (N C : Nat → Nat) (L : Nat → List Int) (w : World) (h1 : AQ1 w base n A N C L) (hd : ApD n A N C) (hls : w.heap[gl]? = some (.cells lcur 32 fr))
    (hlc : ∀ j, j < n → lcur[j]? = some (apV A N C j)) (hN : ∀ j, j < n → N j ≤ 1000000) (hbase : base ≤ w.heap.size) (hn : n ≤ 4398046511104) :
    Calls Try.prog 16 #[.slice (some ⟨gl, 0, none⟩) n cl] w fun e w' => e = .returned (.bool true) ∧ Off (apS n A N C) w w' := by
  obtain ⟨i0, hi0, hz0, hz1, hz2⟩ := info_parts info_int64
  have mk := run_mk_listsI n hn n rfl
  have HD := Lib.hid hd
  have HLC := Lib.hid hlc
  have HN := Lib.hid hN
  have HA : Hid (∀ j, j < n → ∀ ad, A j = some ad → ad.block < w.heap.size) := Lib.hid (fun j hj ad ea => by
    have := ((h1.ob j hj).lt ad.block (by unfold apV; rw [ea]; rfl)).2
    exact this)
  have hgl : gl < w.heap.size := (Array.getElem?_eq_some_iff.1 hls).1
  clear hd hlc hN
  have hlsC : ∀ (W : World), W.heap[gl]? = some (.cells lcur 32 fr) → ∀ j, j < n → W.cell? ⟨gl, j, none⟩ = some (apV A N C j) := fun W hW j hj => by
    rw [cell_of_row W gl j _ _ _ hW]; exact HLC.out j hj
  have HLS := Lib.hid hlsC
  clear hlsC
  go_enter Try.func16, Try.ntmps16
  go_wp2_with fail
  have hG0 : (w.alloc (.cells (gsArr n 0 (fun _ => .slice none 0 0)) 32)).heap[w.heap.size]? = some (.cells (gsArr n 0 (fun _ => .slice none 0 0)) 32 (0, 0)) := heap_alloc_new w _
  have hl0 : (w.alloc (.cells (gsArr n 0 (fun _ => .slice none 0 0)) 32)).heap[gl]? = some (.cells lcur 32 fr) := (Below.heap_alloc w _ gl hgl).trans hls
  have hA0 : AQ1 (w.alloc (.cells (gsArr n 0 (fun _ => .slice none 0 0)) 32)) base n A N C L := ⟨fun j hj => (h1.ob j hj).below (gr_alloc (gr_refl w) _), h1.len⟩
  have hb0 : Off (apS n A N C) w (w.alloc (.cells (gsArr n 0 (fun _ => .slice none 0 0)) 32)) := (Off.refl _ w).alloc _
  generalize w.alloc (.cells (gsArr n 0 (fun _ => .slice none 0 0)) 32) = w0 at *
  generalize hGe : w.heap.size = G at *
  have HGE := Lib.hid hGe
  clear h1 hls mk hGe
  go_loopw [4, 5] (fun p _q wr => ∃ (k : Nat) (L : Nat → List Int), k ≤ n ∧ p = .int .i64 k ∧ Hid (AQ1 wr base n A N C L) ∧ Hid (∀ j, j < k → L j = marksI j (N j)) ∧ Hid (wr.heap[gl]? = some (.cells lcur 32 fr)) ∧
    Hid (wr.heap[G]? = some (.cells (gsArr n 0 (fun _ => .slice none 0 0)) 32 (0, 0))) ∧ Off (apS n A N C) w wr) (fun p _ _ => n - (RowKit.intOf p).toNat)
  case atStart => exact ⟨0, L, Nat.zero_le _, rfl, Lib.hid hA0, Lib.hid (fun j hj => by omega), Lib.hid hl0, Lib.hid hG0, hb0⟩
  case round =>
    clear hA0 hl0 hG0 hb0
    obtain ⟨k, L, hk, rfl, HAP, HM, HL, HG, hb⟩ := hrel
    by_cases hlt : k < n
    · have t1 : decide ((k : Int) < (n : Int)) = true := by simp; omega
      have t1' : decide (k < n) = true := by simp; omega
      go_wp2_with fail
      obtain ⟨wo, hwo⟩ : ∃ wo : World, wo = wr := ⟨_, rfl⟩
      subst hwo
      go_loopw [5] (fun q wr => ∃ (i : Nat) (L : Nat → List Int), i ≤ N k ∧ q = .int .i64 i ∧ Hid (AQ1 wr base n A N C L) ∧ Hid (∀ j, j < k → L j = marksI j (N j)) ∧ Hid ((L k).take i = marksI k i) ∧ Hid (wr.heap[gl]? = some (.cells lcur 32 fr)) ∧
        Hid (wr.heap[G]? = some (.cells (gsArr n 0 (fun _ => .slice none 0 0)) 32 (0, 0))) ∧ Off (apS n A N C) w wr) (fun q _ => N k - (RowKit.intOf q).toNat)
      case atStart => exact ⟨0, L, Nat.zero_le _, rfl, HAP, HM, Lib.hid rfl, HL, HG, hb⟩
      case round =>
        clear HAP HM HL HG hb L
        obtain ⟨i, L, hi, rfl, HAP, HM, HT, HL, HG, hb⟩ := hrel
        have hNk := HN.out k hlt
        have cV := HLS.out wr HL.out k hlt
        unfold apV at cV
        by_cases hlt2 : i < N k
        · obtain ⟨g, eA, hc1, hc2, hbg⟩ := oiA_some (HAP.out.ob k hlt) (HAP.out.len k hlt) (by omega)
          have hob : OI wr base (.slice (some ⟨g, 0, none⟩) (N k) (C k)) (L k) := by have := HAP.out.ob k hlt; unfold apV at this; rw [eA] at this; exact this
          have c1 := oin_cell hob (HAP.out.len k hlt) (j := i) hlt2
          have z1 := oin_frozen hob (HAP.out.len k hlt) i
          rw [eA] at cV
          have hgG : g ≠ G := fun e => oi_ne hob HG.out (by decide) (by simp [Value.ownBlock, e])
          have hggl : g ≠ gl := fun e => oi_ne hob HL.out (by decide) (by simp [Value.ownBlock, e])
          have HAP' := Lib.hid (HAP.out.set HD.out (i := i) hlt eA (mkW k i))
          have HM' : Hid (∀ j, j < k → (if j = k then (L k).set i (mkW k i) else L j) = marksI j (N j)) := Lib.hid (fun j hj => by rw [if_neg (by omega)]; exact HM.out j hj)
          have HT' : Hid ((if k = k then (L k).set i (mkW k i) else L k).take (i + 1) = marksI k (i + 1)) := Lib.hid (by rw [if_pos rfl]; exact take_set_succI (by rw [HAP.out.len k hlt]; exact hlt2) HT.out)
          have HL' : Hid ((wr.setCell ⟨g, i, none⟩ ((Value.int .i64) (mkW k i))).heap[gl]? = some (.cells lcur 32 fr)) := Lib.hid ((Below.heap_setCell _ _ _ gl (Ne.symm hggl)).trans HL.out)
          have HG' : Hid ((wr.setCell ⟨g, i, none⟩ ((Value.int .i64) (mkW k i))).heap[G]? = some (.cells (gsArr n 0 (fun _ => .slice none 0 0)) 32 (0, 0))) := Lib.hid ((Below.heap_setCell _ _ _ G (Ne.symm hgG)).trans HG.out)
          have hb' : Off (apS n A N C) w (wr.setCell ⟨g, i, none⟩ ((Value.int .i64) (mkW k i))) := hb.setCell (g := g) (j := i) _ ⟨k, hlt, by unfold apV; rw [eA]; rfl⟩
          have hi0' : (0 : Int) ≤ (k : Int) := Int.natCast_nonneg _
          have hi1' : (k : Int) < (n : Int) := by omega
          generalize ((L k).getD i 0) = y0 at *
          clear HAP HM HT HL HG hb hob hgG hggl
          go_wp2_with fail
          go_region_with (go_at_call 42; refine (mark_any k i _).mono ?_; rintro e w' ⟨rfl, rfl⟩)
          all_goals
            go_wp2_with fail
            go_roundw
            case rel => exact ⟨i + 1, _, by omega, by go_num, Lib.hid ⟨fun j hj => HAP'.out.ob j hj, HAP'.out.len⟩, HM', Lib.hid (by simpa using HT'.out), Lib.hid HL'.out, Lib.hid HG'.out, hb'.drewN 1⟩
            case measure => simp [RowKit.intOf]; omega
        · obtain rfl : i = N k := by omega
          have HM' : Hid (∀ j, j < k + 1 → L j = marksI j (N j)) := Lib.hid (fun j hj => by
            by_cases e : j = k
            · subst e
              have := HT.out
              rwa [List.take_of_length_le (Nat.le_of_eq (HAP.out.len j hlt))] at this
            · exact HM.out j (by omega))
          clear HM HT
          go_wp2_with fail
          go_roundw
          case rel => exact ⟨k + 1, L, by omega, by go_num, HAP, HM', HL, HG, hb⟩
          case measure => simp [RowKit.intOf]; omega
    · obtain rfl : k = n := by omega
      have H3 : Hid (AQ3 wr base k A N C 0 (fun _ => .slice none 0 0)) := Lib.hid ⟨fun j _ hj => by have := HAP.out.ob j hj; rw [HM.out j hj] at this; exact this, fun j hj => by omega, fun j hj => by omega, fun j hj => by omega⟩
      clear HAP HM
      go_wp2_with fail
      obtain ⟨wo, hwo⟩ : ∃ wo : World, wo = wr := ⟨_, rfl⟩
      subst hwo
      go_loopw [6, 7, 8] (fun p _g _q wr => ∃ (m : Nat) (Gv : Nat → Value), m ≤ k ∧ p = .int .i64 m ∧ Hid (AQ3 wr base k A N C m Gv) ∧ Hid (wr.heap[gl]? = some (.cells lcur 32 fr)) ∧
        Hid (wr.heap[G]? = some (.cells (gsArr k m Gv) 32 (0, 0))) ∧ Off (apS k A N C) w wr) (fun p _ _ _ => k - (RowKit.intOf p).toNat)
      case atStart => exact ⟨0, _, Nat.zero_le _, rfl, H3, HL, HG, hb⟩
      case round =>
        clear H3 HL HG hb
        obtain ⟨m, Gv, hm, rfl, H3, HL, HG, hb⟩ := hrel
        by_cases hlt : m < k
        · have t1 : decide ((m : Int) < (k : Int)) = true := by simp; omega
          have t1' : decide (m < k) = true := by simp; omega
          have hNm := HN.out m hlt
          have cV := HLS.out wr HL.out m hlt
          unfold apV at cV
          go_wp2_with fail
          obtain ⟨wk, hwk⟩ : ∃ wk : World, wk = wr := ⟨_, rfl⟩
          subst hwk
          have hobk := H3.out.old m (Nat.le_refl _) hlt
          have hbsz : base ≤ wk.heap.size := by have := HGE.out; have := hb.size; omega
          go_loopw [7, 8] (fun g q wr => ∃ (j : Nat), j ≤ 40 ∧ q = .int .i64 j ∧ Hid (OI wr base g (marksI m (N m + j))) ∧ Hid (IR wr (A m) (N m) (marksI m (N m))) ∧ Hid (wk.grownBy wr (apV A N C m).ownBlock) ∧
            Hid (g.ownBlock = (apV A N C m).ownBlock ∨ ∃ b, g.ownBlock = some b ∧ wk.heap.size ≤ b) ∧ Off (apS k A N C) w wr) (fun _ q _ => 40 - (RowKit.intOf q).toNat)
          case atStart => exact ⟨0, by omega, rfl, Lib.hid hobk, Lib.hid (oiIR hobk (marksI_len _ _)), Lib.hid (World.grownBy.refl wk _), Lib.hid (.inl rfl), hb⟩
          case round =>
            obtain ⟨j, hj, rfl, HO, HB, HGR, HBL, hbj⟩ := hrel
            have hl2 : Hid (wr.heap[gl]? = some (.cells lcur 32 fr)) := Lib.hid ((HGR.out.block gl (Array.getElem?_eq_some_iff.1 HL.out).1 (fun e => oi_ne hobk HL.out (by decide) e.symm)).trans HL.out)
            have cV := HLS.out wr hl2.out m hlt
            unfold apV at cV
            by_cases hlt2 : j < 40
            · have t2 : decide ((j : Int) < 40) = true := by simp; omega
              have hw1 : IntKind.i64.wrap ((N m : Int) + (j : Int)) = ((N m + j : Nat) : Int) := by rw [IntKind.wrap_i64]; omega
              have hml := marksI_len m (N m + j)
              have ho2 := HO.out
              unfold OI at ho2
              rw [hml] at ho2
              have HO2 := Lib.hid ho2
              clear hml HO ho2
              obtain ⟨Ag, cg, rfl, _, _⟩ := own_form HO2.out
              have hmx : N m + j + 1 ≤ maxLen := by simp only [maxLen]; omega
              have hszj : base ≤ wr.heap.size + 1 := by have := HGR.out.size; omega
              have HR1 : ∀ W : World, Rd (W.alloc (.cells #[.int .i64 (mkW m (N m + j))] 3)) 1 (some ⟨W.heap.size, 0, none⟩) 1 [(Value.int .i64) (mkW m (N m + j))] := fun W => Rd.new W _ #[_] 1 1 rfl
              have HR := Lib.hid HR1
              have HFIN : Hid (∀ (v4 : Value) (w4 : World), w4.ownsRow base 3 1 v4 (N m + j + 1) ((marksI m (N m + j)).map (Value.int .i64) ++ [(Value.int .i64) (mkW m (N m + j))]) → (wr.alloc (.cells #[.int .i64 (mkW m (N m + j))] 3)).grownBy w4 (Value.slice Ag (N m + j) cg).ownBlock →
                  (v4.ownBlock = (Value.slice Ag (N m + j) cg).ownBlock ∨ (v4.ownBlock = some (wr.heap.size + 1) ∧ (wr.alloc (.cells #[.int .i64 (mkW m (N m + j))] 3)).grownBy w4 none)) → OI w4 base v4 (marksI m (N m + (j + 1))) ∧ IR w4 (A m) (N m) (marksI m (N m)) ∧ wk.grownBy w4 (apV A N C m).ownBlock ∧
                  (v4.ownBlock = (apV A N C m).ownBlock ∨ ∃ b, v4.ownBlock = some b ∧ wk.heap.size ≤ b) ∧ Off (apS k A N C) w w4) := Lib.hid (by
                intro v4 w4 hown4 hg4 hbl4
                have hnew : wk.heap.size ≤ wr.heap.size := HGR.out.size
                have hobk : OI wk base (apV A N C m) (marksI m (N m)) := H3.out.old m (Nat.le_refl _) hlt
                have hgr : wr.grownBy w4 (Value.slice Ag (N m + j) cg).ownBlock := ⟨hg4.os, hg4.tape, hg4.output, Nat.le_trans (by simp) hg4.size, fun b hb hne => (hg4.block b (by simp; omega) hne).trans (Below.heap_alloc wr _ b hb)⟩
                have hgr2 : wk.grownBy w4 (apV A N C m).ownBlock := by
                  refine ⟨by rw [hgr.os, HGR.out.os], by rw [hgr.tape, HGR.out.tape], by rw [hgr.output, HGR.out.output], Nat.le_trans hnew hgr.size, fun b hb hne => ?_⟩
                  rw [hgr.block b (by omega) ?_, HGR.out.block b hb hne]
                  rcases HBL.out with e | ⟨b', e, hb'⟩
                  · rw [e]; exact hne
                  · rw [e]; intro e2; injection e2 with e2; omega
                have e40 : marksI m (N m + (j + 1)) = marksI m (N m + j) ++ [mkW m (N m + j)] := by rw [← marksI_succ]; rfl
                have ho4 : OI w4 base v4 (marksI m (N m + (j + 1))) := OI.of_own hown4 (by rw [e40, List.map_append]; rfl)
                refine ⟨ho4, ?_, hgr2, ?_, ?_⟩
                · rcases Nat.eq_zero_or_pos (N m) with h0 | h0
                  · rw [h0]; exact IR.none_ _ _
                  · obtain ⟨ga, eA, hc1, hc2, hbg⟩ := oiA_some hobk (marksI_len _ _) h0
                    rcases hbl4 with e4 | e4
                    · rcases HBL.out with e | ⟨b', e, hb'⟩
                      · obtain ⟨A4, c4, rfl, hr4, _, _⟩ := ho4.formN (n := N m + (j + 1)) (marksI_len _ _)
                        have : (Value.slice A4 (N m + (j + 1)) c4).ownBlock = some ga := by rw [e4, e]; unfold apV; rw [eA]; rfl
                        have hA4 : A4 = some ⟨ga, 0, none⟩ := by
                          rcases ho4.2 with ⟨e5, _⟩ | ⟨g5, cap5, cur5, e5, _⟩
                          · cases e5
                          · injection e5 with e6
                            subst e6
                            have h6 : g5 = ga := by simpa [Value.ownBlock] using this
                            rw [h6]
                        rw [eA, ← hA4]
                        have := hr4.pre (j := N m) (by omega)
                        rwa [marksI_take _ _ _ (by omega)] at this
                      · refine HB.out.grown hgr fun ad ea e2 => ?_
                        rw [e] at e2
                        rw [eA] at ea
                        cases ea
                        injection e2 with e2
                        have := (hobk.lt ga (by unfold apV; rw [eA]; rfl)).2
                        dsimp only at e2
                        omega
                    · exact (HB.out.below (gr_alloc (gr_refl wr) _)).grown e4.2 (fun _ _ => by simp)
                · rcases hbl4 with e4 | e4
                  · rw [e4]; exact HBL.out
                  · exact .inr ⟨_, e4.1, by omega⟩
                · exact hb.trans (Off.of_grown hgr2 (fun b e => ⟨m, hlt, e⟩)))
              clear HB HBL
              go_wp2_with fail
              refine (mark_of m (N m + j) _ (by simp) _).mono ?_
              rintro e w' ⟨rfl, rfl⟩
              go_wp2_with (at_builtin; refine wpList_append_Rd _ rfl (.tmp 52) (.tmp 62) _ rfl base 3 i0 _ 1 8 Try.underlying32 hi0 hz0 hz1 hz2 rfl (.slice Ag (N m + j) cg) (N m + j) _ rfl (HO2.out.alloc _) (some ⟨wr.heap.size, 0, none⟩) 1 1 [(Value.int .i64) (mkW m (N m + j))] rfl (HR.out _) (by simp [Value.oneCell']) (by omega) hmx (by rw [World.size_alloc]; exact hszj) ?_; intro v4 w4 hown4 hg4 _ hbl4; obtain ⟨k1, k2, k3, k4, k5⟩ := HFIN.out v4 w4 hown4 hg4 (by rw [World.size_alloc] at hbl4; exact hbl4))
              go_roundw
              case rel => exact ⟨j + 1, by omega, by go_num, Lib.hid k1, Lib.hid k2, Lib.hid k3, Lib.hid k4, k5⟩
              case measure => simp [RowKit.intOf]; omega
            · obtain rfl : j = 40 := by omega
              have t2 : decide (((40 : Nat) : Int) < 40) = false := by simp
              have HGb : Hid (wr.heap[G]? = some (.cells (gsArr k m Gv) 32 (0, 0))) := Lib.hid ((HGR.out.block G (Array.getElem?_eq_some_iff.1 HG.out).1 (fun e => oi_ne hobk HG.out (by decide) e.symm)).trans HG.out)
              obtain ⟨Ag, cg, eg, _, _⟩ := own_form HO.out
              rw [marksI_len] at eg
              subst eg
              have H4 := Lib.hid (H3.out.step HD.out hlt HGR.out HO.out HB.out HBL.out)
              have hcG : wr.cell? ⟨G, m, none⟩ = some (.slice none 0 0) := by
                rw [cell_of_row wr G m _ _ _ HGb.out, gs_get k m Gv m hlt, if_neg (by omega)]
              have hfG : wr.frozen? ⟨G, m, none⟩ = false := by simp [World.frozen?, HGb.out]
              have hGw : w.heap.size = G := HGE.out
              have HA5 : Hid (∀ j, j < k → ∀ ad, A j = some ad → ad.block ≠ G) := Lib.hid (fun j hj ad ea => by have := HA.out j hj ad ea; omega)
              have H5 := Lib.hid (H4.out.other (w' := wr.setCell ⟨G, m, none⟩ (.slice Ag (N m + 40) cg)) (by omega) (grown_set wr G m _) HGb.out (by decide) HA5.out)
              have HG5 : Hid ((wr.setCell ⟨G, m, none⟩ (.slice Ag (N m + 40) cg)).heap[G]? = some (.cells (gsArr k (m + 1) (fun j => if j = m then .slice Ag (N m + 40) cg else Gv j)) 32 (0, 0))) := Lib.hid (by
                rw [← gs_set k m Gv _ hlt]
                simp only [World.setCell, Array.getElem?_modify, if_pos, HGb.out]
                simp)
              have HL5 : Hid ((wr.setCell ⟨G, m, none⟩ (.slice Ag (N m + 40) cg)).heap[gl]? = some (.cells lcur 32 fr)) := Lib.hid ((Below.heap_setCell _ _ _ gl (by dsimp only; omega)).trans hl2.out)
              have hb5 : Off (apS k A N C) w (wr.setCell ⟨G, m, none⟩ (.slice Ag (N m + 40) cg)) := hbj.setNewB _ (Nat.le_of_eq hGw)
              clear H3 H4 HO HB HGR HBL HG HGb hGw hobk HL hl2
              go_wp2_with fail
              go_roundw
              case rel => exact ⟨m + 1, _, by omega, by go_num, H5, HL5, HG5, hb5⟩
              case measure => simp [RowKit.intOf]; omega
        · obtain rfl : m = k := by omega
          have t1 : decide ((m : Int) < (m : Int)) = false := by simp
          go_wp2_with fail
          obtain ⟨wz, hwz⟩ : ∃ wz : World, wz = wr := ⟨_, rfl⟩
          subst hwz
          go_loopw [9, 10] (fun p _q wr => ∃ (r q : Nat), r ≤ m ∧ p = .int .i64 r ∧ Hid (wr = wz.drewN q)) (fun p _ _ => m - (RowKit.intOf p).toNat)
          case atStart => exact ⟨0, 0, Nat.zero_le _, rfl, Lib.hid rfl⟩
          case round =>
            obtain ⟨r, q, hr, rfl, HW⟩ := hrel
            by_cases hlt : r < m
            · have t1 : decide ((r : Int) < (m : Int)) = true := by simp; omega
              have t1' : decide (r < m) = true := by simp; omega
              have hNm := HN.out r hlt
              obtain ⟨Ag, cg, eg, hrg, hcg1, hcg2⟩ := (H3.out.own r hlt).formN (marksI_len _ _)
              have hrv := H3.out.rd r hlt
              have cV0 : wz.cell? ⟨gl, r, none⟩ = some (.slice (A r) (N r) (C r)) := HLS.out wz HL.out r hlt
              have cG0 : wz.cell? ⟨G, r, none⟩ = some (.slice Ag (N r + 40) cg) := by
                rw [cell_of_row wz G r _ _ _ HG.out, gs_get m m Gv r hlt, if_pos hlt, eg]
              have HCV := Lib.hid cV0
              have HCG := Lib.hid cG0
              have HRG := Lib.hid hrg
              have HRV := Lib.hid hrv
              clear eg hrg hrv cV0 cG0
              go_wp2_with fail
              obtain ⟨wy, hwy⟩ : ∃ wy : World, wy = wr := ⟨_, rfl⟩
              subst hwy
              go_loopw [10] (fun p wr => ∃ (i q : Nat), i ≤ N r + 40 ∧ p = .int .i64 i ∧ Hid (wr = wz.drewN q)) (fun p _ => N r + 40 - (RowKit.intOf p).toNat)
              case atStart => exact ⟨0, q, Nat.zero_le _, rfl, HW⟩
              case round =>
                clear HW
                obtain ⟨i, q, hi, rfl, HW⟩ := hrel
                have cV : wr.cell? ⟨gl, r, none⟩ = some (.slice (A r) (N r) (C r)) := by rw [HW.out]; exact HCV.out
                have cG : wr.cell? ⟨G, r, none⟩ = some (.slice Ag (N r + 40) cg) := by rw [HW.out]; exact HCG.out
                by_cases hlt2 : i < N r + 40
                · have t2 : decide ((i : Int) < (N r : Int) + 40) = true := by simp; omega
                  have rg : IR wr Ag (N r + 40) (marksI r (N r + 40)) := by rw [HW.out]; exact HRG.out
                  obtain ⟨ga, oa, rfl, cb⟩ := rg.at_ (k := i) hlt2
                  rw [marksI_get _ _ _ hlt2] at cb
                  have HMK := Lib.hid (mark_any r i)
                  by_cases hlt3 : i < N r
                  · have t3 : decide ((i : Int) < (N r : Int)) = true := by simp; omega
                    have t3' : decide (i < N r) = true := by simp; omega
                    have rv : IR wr (A r) (N r) (marksI r (N r)) := by rw [HW.out]; exact HRV.out
                    obtain ⟨gv, ov, eA, cc⟩ := rv.at_ (k := i) hlt3
                    rw [marksI_get _ _ _ hlt3] at cc
                    rw [eA] at cV
                    generalize (mkW r i) = y at *
                    clear rv rg eA
                    go_wp2_with fail
                    go_quiet ((go_at_call 42; exact Calls.quiet_of_same ((HMK.out _).mono (fun _ _ h => ⟨h.1, h.2.symm⟩))))
                    go_wp2_with fail
                    go_roundw
                    case rel => exact ⟨i + 1, q + nq, by omega, by go_num, Lib.hid (by rw [HW.out, World.drewN_drewN])⟩
                    case measure => simp [RowKit.intOf]; omega
                  · have t3 : decide ((i : Int) < (N r : Int)) = false := by simp; omega
                    have t3' : decide (i < N r) = false := by simp; omega
                    generalize (mkW r i) = y at *
                    clear rg
                    go_wp2_with fail
                    go_quiet ((go_at_call 42; exact Calls.quiet_of_same ((HMK.out _).mono (fun _ _ h => ⟨h.1, h.2.symm⟩))))
                    go_wp2_with fail
                    go_roundw
                    case rel => exact ⟨i + 1, q + nq, by omega, by go_num, Lib.hid (by rw [HW.out, World.drewN_drewN])⟩
                    case measure => simp [RowKit.intOf]; omega
                · obtain rfl : i = N r + 40 := by omega
                  go_wp2_with fail
                  go_roundw
                  case rel => exact ⟨r + 1, q, by omega, by go_num, HW⟩
                  case measure => simp [RowKit.intOf]; omega
            · obtain rfl : r = m := by omega
              go_wp2_with fail
              go_ret
              exact ⟨rfl, by rw [HW.out]; exact hb.drewN q⟩



end Go.Proofs.Ytmdgnjmhbjdlmaa

/-! SpP -/
namespace Go.Proofs.Ytmdgnjmhbjdlmaa
open Go Go.RowKit Go.Maps

def sP1 (a : List UInt8) : PoS := ⟨2, 8, 2, 1, 0, [⟨3, a, 1, true, true⟩], 0⟩
def sP2 (a : List UInt8) : PoS := ⟨2, 8, 2, 1, 0, [⟨3, a, 1, true, true⟩, ⟨4, zP, 0, false, true⟩], 0⟩
theorem sp1 {a : List UInt8} (ha : a.length = 4080) : setR none (newD 10) (newP 2 8 2 1 0) 3 a 1 = (newD 10, sP1 a, 0) := by
  unfold setR setE
  rw [ha]
  rfl
theorem sp2 (a : List UInt8) : getR none (newD 10) (sP1 a) 3 = (newD 10, sP1 a, 0) ∧ getL none (newD 10) (sP1 a) 3 = a := ⟨rfl, rfl⟩
theorem sp4 (a : List UInt8) : getR none (newD 10) (sP2 a) 3 = (newD 10, sP2 a, 0) ∧ getL none (newD 10) (sP2 a) 3 = a := ⟨rfl, rfl⟩
set_option maxRecDepth 100000 in
theorem sp3 (a : List UInt8) : getR none (newD 10) (sP1 a) 4 = (newD 10, sP2 a, 0) ∧ getL none (newD 10) (sP1 a) 4 = zP := by
  have h1 := readZ 6 (by omega)
  have h2 := open_zer
  have hg : getR none (newD 10) (sP1 a) 4 = (newD 10, sP2 a, 0) := by
    unfold getR
    show (if (0 : Int) ≠ 0 then _ else if readE (newD 10) ((6 : Nat) : Int) ≠ 0 then _ else if openE (readL (newD 10) ((6 : Nat) : Int)) ≠ 0 then _ else holdR none (newD 10) (sP1 a) ⟨4, openP (readL (newD 10) ((6 : Nat) : Int)), 0, false, true⟩) = _
    rw [if_neg (by decide), h1.1, if_neg (by decide), h1.2, h2.1, if_neg (by decide), h2.2]
    unfold holdR
    rw [if_pos (show (sP1 a).fr.length < (sP1 a).most by show 1 < 2; decide)]
    rfl
  refine ⟨hg, ?_⟩
  unfold getL
  rw [hg]
  show (if (0 : Int) ≠ 0 then _ else openP (readL (newD 10) ((6 : Nat) : Int))) = _
  rw [if_neg (by decide), h1.2, h2.2]
theorem sp5 (a : List UInt8) : heldL (sP2 a) = [3, 4] ∧ dirtyL (sP2 a) = [3] := ⟨rfl, rfl⟩

/-- One of four. -/
def pick4 {α : Type} (a b c d : α) (j : Nat) : α := if j = 0 then a else if j = 1 then b else if j = 2 then c else d

/-- Four lists of 4080 bytes in blocks of their own. -/
theorem four_apart {w : World} {base q0 q1 q2 q3 c0 c1 c2 c3 : Nat} {l0 l1 l2 l3 : List UInt8} (h0 : OB w base (.slice (some ⟨q0, 0, none⟩) 4080 c0) l0) (h1 : OB w base (.slice (some ⟨q1, 0, none⟩) 4080 c1) l1) (h2 : OB w base (.slice (some ⟨q2, 0, none⟩) 4080 c2) l2)
    (h3 : OB w base (.slice (some ⟨q3, 0, none⟩) 4080 c3) l3) (e0 : l0.length = 4080) (e1 : l1.length = 4080) (e2 : l2.length = 4080) (e3 : l3.length = 4080) (n01 : q0 ≠ q1) (n02 : q0 ≠ q2) (n03 : q0 ≠ q3) (n12 : q1 ≠ q2) (n13 : q1 ≠ q3) (n23 : q2 ≠ q3) :
    Ap1 w base 4 (pick4 (some ⟨q0, 0, none⟩) (some ⟨q1, 0, none⟩) (some ⟨q2, 0, none⟩) (some ⟨q3, 0, none⟩)) (fun _ => 4080) (pick4 c0 c1 c2 c3) (pick4 l0 l1 l2 l3) ∧
    ApD 4 (pick4 (some ⟨q0, 0, none⟩) (some ⟨q1, 0, none⟩) (some ⟨q2, 0, none⟩) (some ⟨q3, 0, none⟩)) (fun _ => 4080) (pick4 c0 c1 c2 c3) ∧
    (∀ k, apS 4 (pick4 (some ⟨q0, 0, none⟩) (some ⟨q1, 0, none⟩) (some ⟨q2, 0, none⟩) (some ⟨q3, 0, none⟩)) (fun _ => 4080) (pick4 c0 c1 c2 c3) k → k = q0 ∨ k = q1 ∨ k = q2 ∨ k = q3) ∧
    (∀ j, j < 4 → (#[.slice (some ⟨q0, 0, none⟩) 4080 c0, .slice (some ⟨q1, 0, none⟩) 4080 c1, .slice (some ⟨q2, 0, none⟩) 4080 c2, .slice (some ⟨q3, 0, none⟩) 4080 c3] : Array Value)[j]? = some (apV (pick4 (some ⟨q0, 0, none⟩) (some ⟨q1, 0, none⟩) (some ⟨q2, 0, none⟩) (some ⟨q3, 0, none⟩)) (fun _ => 4080) (pick4 c0 c1 c2 c3) j)) := by
  have four : ∀ j : Nat, j < 4 → j = 0 ∨ j = 1 ∨ j = 2 ∨ j = 3 := fun j hj => by omega
  refine ⟨⟨fun j hj => ?_, fun j hj => ?_⟩, fun i j hi hj hne => ?_, fun k ⟨j, hj, e⟩ => ?_, fun j hj => ?_⟩
  · rcases four j hj with rfl | rfl | rfl | rfl
    · exact h0
    · exact h1
    · exact h2
    · exact h3
  · rcases four j hj with rfl | rfl | rfl | rfl
    · exact e0
    · exact e1
    · exact e2
    · exact e3
  · refine .inr ?_
    have hb : ∀ i, i < 4 → (apV (pick4 (some ⟨q0, 0, none⟩) (some ⟨q1, 0, none⟩) (some ⟨q2, 0, none⟩) (some ⟨q3, 0, none⟩)) (fun _ => 4080) (pick4 c0 c1 c2 c3) i).ownBlock = some (pick4 q0 q1 q2 q3 i) := fun i hi => by
      rcases four i hi with rfl | rfl | rfl | rfl <;> rfl
    rw [hb i hi, hb j hj]
    intro e
    injection e with e
    unfold pick4 at e
    rcases four i hi with rfl | rfl | rfl | rfl <;> rcases four j hj with rfl | rfl | rfl | rfl <;> simp at e <;> omega
  · rcases four j hj with rfl | rfl | rfl | rfl
    · exact .inl (Option.some.inj e).symm
    · exact .inr (.inl (Option.some.inj e).symm)
    · exact .inr (.inr (.inl (Option.some.inj e).symm))
    · exact .inr (.inr (.inr (Option.some.inj e).symm))
  · rcases four j hj with rfl | rfl | rfl | rfl <;> rfl

/-- One of three. -/
def pick3 {α : Type} (a b c : α) (j : Nat) : α := if j = 0 then a else if j = 1 then b else c
theorem OI.at0 {w : World} {base : Nat} {v : Value} {l : List Int} {n : Nat} (h : OI w base v l) (hl : l.length = n) (h0 : 0 < n) : ∃ q c, v = .slice (some ⟨q, 0, none⟩) n c ∧ base ≤ q ∧ q < w.heap.size := by
  subst hl
  rcases h.2 with ⟨e2, e0⟩ | ⟨g', cap', cur, e2, hb, hg, h1, h2, _⟩
  · omega
  · exact ⟨g', cap', e2, hb, (Array.getElem?_eq_some_iff.1 hg).1⟩
theorem OI.lower {w : World} {base b : Nat} {v : Value} {l : List Int} (h : OI w base v l) (hb : b ≤ base) : OI w b v l := by
  refine ⟨h.1, ?_⟩
  rcases h.2 with h | ⟨g, cap, cur, rfl, hg, r⟩
  · exact .inl h
  · exact .inr ⟨g, cap, cur, rfl, by omega, r⟩
theorem NewI.oi {w w' : World} {e : Ending} {l : List Nat} (h : NewI w w' e l) {n : Nat} (hn : l.length = n) (h0 : 0 < n) : ∃ q c, e = .returned (.slice (some ⟨q, 0, none⟩) n c) ∧ OI w' w.heap.size (.slice (some ⟨q, 0, none⟩) n c) (intsL l) ∧ w.heap.size ≤ q ∧ q < w'.heap.size ∧ Below w.heap.size w w' := by
  obtain ⟨A, c, e1, h1, h2⟩ := h
  have hl : (intsL l).length = l.length := List.length_map _
  have ho : OI w' w.heap.size (.slice A l.length c) (intsL l) := by
    unfold OI
    rw [hl]
    exact h1
  obtain ⟨q, c', e2, hq1, hq2⟩ := ho.at0 (hl.trans hn) h0
  injection e2 with e21 _ e23
  subst e21 e23
  rw [hn] at e1 ho
  exact ⟨q, c, e1, ho, hq1, hq2, h2⟩

/-- Three lists of ints in blocks of their own. -/
theorem three_apart {w : World} {base q0 q1 q2 c0 c1 c2 n0 n1 n2 : Nat} {l0 l1 l2 : List Int} (h0 : OI w base (.slice (some ⟨q0, 0, none⟩) n0 c0) l0) (h1 : OI w base (.slice (some ⟨q1, 0, none⟩) n1 c1) l1) (h2 : OI w base (.slice (some ⟨q2, 0, none⟩) n2 c2) l2)
    (e0 : l0.length = n0) (e1 : l1.length = n1) (e2 : l2.length = n2) (n01 : q0 ≠ q1) (n02 : q0 ≠ q2) (n12 : q1 ≠ q2) :
    AQ1 w base 3 (pick3 (some ⟨q0, 0, none⟩) (some ⟨q1, 0, none⟩) (some ⟨q2, 0, none⟩)) (pick3 n0 n1 n2) (pick3 c0 c1 c2) (pick3 l0 l1 l2) ∧
    ApD 3 (pick3 (some ⟨q0, 0, none⟩) (some ⟨q1, 0, none⟩) (some ⟨q2, 0, none⟩)) (pick3 n0 n1 n2) (pick3 c0 c1 c2) ∧
    (∀ k, apS 3 (pick3 (some ⟨q0, 0, none⟩) (some ⟨q1, 0, none⟩) (some ⟨q2, 0, none⟩)) (pick3 n0 n1 n2) (pick3 c0 c1 c2) k → k = q0 ∨ k = q1 ∨ k = q2) ∧
    (∀ j, j < 3 → (#[.slice (some ⟨q0, 0, none⟩) n0 c0, .slice (some ⟨q1, 0, none⟩) n1 c1, .slice (some ⟨q2, 0, none⟩) n2 c2] : Array Value)[j]? = some (apV (pick3 (some ⟨q0, 0, none⟩) (some ⟨q1, 0, none⟩) (some ⟨q2, 0, none⟩)) (pick3 n0 n1 n2) (pick3 c0 c1 c2) j)) := by
  have four : ∀ j : Nat, j < 3 → j = 0 ∨ j = 1 ∨ j = 2 := fun j hj => by omega
  refine ⟨⟨fun j hj => ?_, fun j hj => ?_⟩, fun i j hi hj hne => ?_, fun k ⟨j, hj, e⟩ => ?_, fun j hj => ?_⟩
  · rcases four j hj with rfl | rfl | rfl
    · exact h0
    · exact h1
    · exact h2
  · rcases four j hj with rfl | rfl | rfl
    · exact e0
    · exact e1
    · exact e2
  · refine .inr ?_
    have hb : ∀ i, i < 3 → (apV (pick3 (some ⟨q0, 0, none⟩) (some ⟨q1, 0, none⟩) (some ⟨q2, 0, none⟩)) (pick3 n0 n1 n2) (pick3 c0 c1 c2) i).ownBlock = some (pick3 q0 q1 q2 i) := fun i hi => by
      rcases four i hi with rfl | rfl | rfl <;> rfl
    rw [hb i hi, hb j hj]
    intro e
    injection e with e
    unfold pick3 at e
    rcases four i hi with rfl | rfl | rfl <;> rcases four j hj with rfl | rfl | rfl <;> simp at e <;> omega
  · rcases four j hj with rfl | rfl | rfl
    · exact .inl (Option.some.inj e).symm
    · exact .inr (.inl (Option.some.inj e).symm)
    · exact .inr (.inr (Option.some.inj e).symm)
  · rcases four j hj with rfl | rfl | rfl <;> rfl

end Go.Proofs.Ytmdgnjmhbjdlmaa
