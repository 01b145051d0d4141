/-
  chancerylow.ApartBytes: lists of bytes that lie in blocks of their own, no two in one, are told to lie apart.
-/
import Derived.Test.YtjopobkcijkpmaaMem
import Derived.RangeFuncBox
namespace Go.Proofs.Ytjopobkcijkpmaa
open Go.RowKit

/-- The mark of a place. -/
def mkI (k i : Int) : Int := IntKind.u64.wrap (IntKind.u64.wrap (wrap64 (wrap64 (1000003 * wrap64 (k + 7)) + i)) * 11400714819323198485) / 72057594037927936 % 256
def mkB (k i : Nat) : UInt8 := UInt8.ofNat (mkI k i).toNat

set_option maxHeartbeats 400000 in
theorem markByte_any (k i : Nat) (w : World) :
    Calls Try.prog 66 #[.int .i64 (k : Int), .int .i64 (i : Int)] w fun e w' => e = .returned (.int .u8 ((mkB k i).toNat : Int)) ∧ w = w' := by
  go_enter Try.func66, Try.ntmps66
  go_wp2_with fail
  go_ret
  refine ⟨?_, rfl⟩
  have e : ((mkB k i).toNat : Int) = mkI k i := by
    have h1 : 0 ≤ mkI k i := Int.emod_nonneg _ (by decide)
    have h2 : mkI k i < 256 := Int.emod_lt_of_pos _ (by decide)
    unfold mkB
    generalize mkI (k : Int) (i : Int) = x at *
    rw [UInt8.toNat_ofNat']
    omega
  rw [e]
  rfl

theorem markByte_of (k i : Nat) (x : Int) (hx : x = i) (w : World) :
    Calls Try.prog 66 #[.int .i64 (k : Int), .int .i64 x] w fun e w' => e = .returned (.int .u8 ((mkB k i).toNat : Int)) ∧ w = w' := by
  subst hx
  exact markByte_any k i w

/-- So many marks. -/
def marks (k n : Nat) : List UInt8 := (List.range n).map (mkB k)
theorem marks_len (k n : Nat) : (marks k n).length = n := by simp [marks]
theorem marks_succ (k n : Nat) : marks k (n + 1) = marks k n ++ [mkB k n] := by simp [marks, List.range_succ]
theorem marks_get (k n i : Nat) (h : i < n) : (marks k n).getD i 0 = mkB k i := by simp [marks, List.getD, h]
theorem marks_take (k n i : Nat) (h : i ≤ n) : (marks k n).take i = marks k i := by
  unfold marks
  rw [← List.map_take, List.take_range, Nat.min_eq_left h]

theorem take_set_succ {l : List UInt8} {i k : Nat} (hi : i < l.length) (h : l.take i = marks k i) : (l.set i (mkB k i)).take (i + 1) = marks k (i + 1) := by
  rw [List.take_succ_eq_append_getElem (by rw [List.length_set]; exact hi), List.take_set, List.set_eq_of_length_le (by rw [List.length_take]; omega), h, marks_succ]
  simp

section
variable {w w' : World} {base g n cap : Nat} {l : List UInt8} {A : Option Addr}
theorem BR.grown {row : Option Nat} (h : BR w A n l) (hg : w.grownBy w' row) (hne : ∀ ad, A = some ad → some ad.block ≠ row) : BR w' A n l :=
  ⟨h.1, fun h0 => by
    obtain ⟨ad, e, hc⟩ := h.2 h0
    refine ⟨ad, e, fun j u hu => ?_⟩
    have := hc j u hu
    rw [← this]
    refine World.cell?_of_block (hg.block _ ?_ ?_)
    · exact World.block_lt_of_cell? w _ this
    · rw [block_of_add]; exact hne ad e⟩
theorem obA_some (h : OB w base (.slice A n cap) l) (hn : l.length = n) (h0 : 0 < n) : ∃ g, A = some ⟨g, 0, none⟩ ∧ n ≤ cap ∧ cap ≤ maxLen ∧ base ≤ g := by
  rcases h.2 with ⟨_, e⟩ | ⟨g', cap', cur, e, hb, hgb, h1, h2, _⟩
  · omega
  · injection e with e1 e2 e3
    subst e1 e3
    exact ⟨g', rfl, by omega, h2, hb⟩
theorem obBR (h : OB w base (.slice A n cap) l) (hn : l.length = n) : BR w A n l := by
  obtain ⟨A', c', e, hr, _, _⟩ := h.formN hn
  injection e with e1 e2 e3
  subst e1
  exact hr
/-- A block that holds values of another type is none of bytes. -/
theorem ob_ne {v : Value} {G : Nat} {cs : Array Value} {t : TypeId} {fr : Nat × Nat} (h : OB w base v l) (hG : w.heap[G]? = some (.cells cs t fr)) (ht : t ≠ 5) : v.ownBlock ≠ some G := by
  rcases h.2 with ⟨rfl, _⟩ | ⟨g', cap', cur, rfl, hb, hgb, _⟩
  · simp [Value.ownBlock]
  · intro e
    simp [Value.ownBlock] at e
    subst e
    rw [hgb] at hG
    cases hG
    exact ht rfl
theorem grown_set (w : World) (b j : Nat) (v : Value) : w.grownBy (w.setCell ⟨b, j, none⟩ v) (some b) :=
  ⟨rfl, rfl, rfl, (KeepsWalks.setCell w _ v).size, fun k _ hk => Below.heap_setCell _ _ _ k (fun e => hk (by rw [e]))⟩
theorem ob_kept {v : Value} {row : Option Nat} (h : OB w base v l) (hg : w.grownBy w' row) (hne : v.ownBlock = none ∨ v.ownBlock ≠ row) : OB w' base v l := World.ownsRow.kept h hg hne
end

theorem obn_cur {w : World} {base g n cap : Nat} {l : List UInt8} (h : OB w base (.slice (some ⟨g, 0, none⟩) n cap) l) (hn : l.length = n) : ∃ cur : Array Value, w.heap[g]? = some (.cells cur 5 (0, 0)) ∧ base ≤ g ∧ n ≤ cap ∧ cap ≤ maxLen ∧ cur.size = cap ∧ cur.toList.take n = l.map bv := by
  rcases h.2 with ⟨e, _⟩ | ⟨g', cap', cur, e, hb, hg, hnc, hm, hcu, ht⟩
  · cases e
  · injection e with e1 e2 e3
    injection e1 with e1
    injection e1 with e1
    subst e1 e3
    exact ⟨cur, hg, hb, by omega, hm, by simpa using hcu, by rw [← ht, hn]; simp⟩
theorem obn_cell {w : World} {base g n cap : Nat} {l : List UInt8} (h : OB w base (.slice (some ⟨g, 0, none⟩) n cap) l) (hn : l.length = n) {j : Nat} (hj : j < n) : w.cell? ⟨g, j, none⟩ = some (.int .u8 ((l.getD j 0).toNat : Int)) := by
  obtain ⟨cur, hg, _, _, _, hz, ht⟩ := obn_cur h hn
  rw [cell_of_row w g j _ _ _ hg]
  have : cur.toList[j]? = (l.map bv)[j]? := by rw [← ht, List.getElem?_take, if_pos hj]
  rw [Array.getElem?_toList] at this
  rw [this, List.getElem?_map, List.getElem?_eq_getElem (by omega)]
  simp [bv, List.getD, List.getElem?_eq_getElem (show j < l.length by omega)]
theorem obn_frozen {w : World} {base g n cap : Nat} {l : List UInt8} (h : OB w base (.slice (some ⟨g, 0, none⟩) n cap) l) (hn : l.length = n) (j : Nat) : w.frozen? ⟨g, j, none⟩ = false := by
  obtain ⟨cur, hg, _, _, _, hz, ht⟩ := obn_cur h hn
  simp [World.frozen?, hg]
theorem obn_set {w : World} {base g n cap : Nat} {l : List UInt8} (h : OB w base (.slice (some ⟨g, 0, none⟩) n cap) l) (hn : l.length = n) (j : Nat) (x : UInt8) : OB (w.setCell ⟨g, j, none⟩ (bv x)) base (.slice (some ⟨g, 0, none⟩) n cap) (l.set j x) := by
  obtain ⟨cur, hg, hb, hnc, hm, hz, ht⟩ := obn_cur h hn
  refine ⟨by simp, .inr ⟨g, cap, cur.setIfInBounds j (bv x), ?_, hb, ?_, ?_, hm, ?_, ?_⟩⟩
  · rw [List.length_set, hn]
  · simp only [World.setCell, Array.getElem?_modify, if_pos, hg]
    simp
  · rw [List.length_set]; omega
  · simp [hz]
  · rw [List.length_set, hn, Nat.mul_one, Array.toList_setIfInBounds, List.take_set, ht, List.map_set]

/-- The values of the lists. -/
abbrev apV (A : Nat → Option Addr) (N C : Nat → Nat) (j : Nat) : Value := .slice (A j) (N j) (C j)

/-- Each list lies in a block of its own from base on. -/
structure Ap1 (w : World) (base n : Nat) (A : Nat → Option Addr) (N C : Nat → Nat) (L : Nat → List UInt8) : Prop where
  ob : ∀ j, j < n → OB w base (apV A N C j) (L j)
  len : ∀ j, j < n → (L j).length = N j

/-- No two in one. -/
def ApD (n : Nat) (A : Nat → Option Addr) (N C : Nat → Nat) : Prop := ∀ i j, i < n → j < n → i ≠ j → (apV A N C j).ownBlock = none ∨ (apV A N C j).ownBlock ≠ (apV A N C i).ownBlock

theorem Ap1.set {w : World} {base n : Nat} {A : Nat → Option Addr} {N C : Nat → Nat} {L : Nat → List UInt8} (h : Ap1 w base n A N C L) (hd : ApD n A N C) {k i g : Nat} (hk : k < n) (hA : A k = some ⟨g, 0, none⟩) (x : UInt8) :
    Ap1 (w.setCell ⟨g, i, none⟩ (bv x)) base n A N C (fun j => if j = k then (L k).set i x else L j) := by
  refine ⟨fun j hj => ?_, fun j hj => ?_⟩
  · by_cases e : j = k
    · subst e
      rw [if_pos rfl]
      have := h.ob j hj
      unfold apV at this ⊢
      rw [hA] at this ⊢
      exact obn_set this (h.len j hj) i x
    · rw [if_neg e]
      refine ob_kept (h.ob j hj) (grown_set w g i _) ?_
      have := hd k j hk hj (Ne.symm e)
      unfold apV at this ⊢
      rw [hA] at this
      simpa [Value.ownBlock] using this
  · by_cases e : j = k
    · subst e
      rw [if_pos rfl, List.length_set]
      exact h.len j hj
    · rw [if_neg e]
      exact h.len j hj

/-- The first k lists have grown into Gv. -/
structure Ap3 (w : World) (base n : Nat) (A : Nat → Option Addr) (N C : Nat → Nat) (k : Nat) (Gv : Nat → Value) : Prop where
  old : ∀ j, k ≤ j → j < n → OB w base (apV A N C j) (marks j (N j))
  own : ∀ j, j < k → OB w base (Gv j) (marks j (N j + 40))
  rd : ∀ j, j < k → BR w (A j) (N j) (marks j (N j))
  ap : ∀ j, j < k → ∀ i, k ≤ i → i < n → (Gv j).ownBlock = none ∨ (Gv j).ownBlock ≠ (apV A N C i).ownBlock

theorem Ap3.step {w w' : World} {base n : Nat} {A : Nat → Option Addr} {N C : Nat → Nat} {k : Nat} {Gv : Nat → Value} (h : Ap3 w base n A N C k Gv) (hd : ApD n A N C) (hk : k < n) (hg : w.grownBy w' (apV A N C k).ownBlock) {gv : Value}
    (ho : OB w' base gv (marks k (N k + 40))) (hr : BR w' (A k) (N k) (marks k (N k))) (hb : gv.ownBlock = (apV A N C k).ownBlock ∨ ∃ b, gv.ownBlock = some b ∧ w.heap.size ≤ b) : Ap3 w' base n A N C (k + 1) (fun j => if j = k then gv else Gv j) := by
  refine ⟨fun j h1 h2 => ?_, fun j hj => ?_, fun j hj => ?_, fun j hj i h1 h2 => ?_⟩
  · exact ob_kept (h.old j (by omega) h2) hg (hd k j hk h2 (by omega))
  · by_cases e : j = k
    · subst e; rw [if_pos rfl]; exact ho
    · rw [if_neg e]; exact ob_kept (h.own j (by omega)) hg (h.ap j (by omega) k (Nat.le_refl _) hk)
  · by_cases e : j = k
    · subst e; exact hr
    · refine (h.rd j (by omega)).grown hg fun ad ea => ?_
      have := hd k j hk (by omega) (Ne.symm e)
      unfold apV at this ⊢
      rw [ea] at this
      simpa [Value.ownBlock] using this
  · by_cases e : j = k
    · subst e
      rw [if_pos rfl]
      rcases hb with hb | ⟨b, hb, hbb⟩
      · rw [hb]
        rcases hd i j h2 hk (by omega) with h3 | h3
        · exact .inl h3
        · exact .inr h3
      · refine .inr fun e' => ?_
        have := ((h.old i (by omega) h2).lt b (by rw [← e', hb])).2
        omega
    · rw [if_neg e]; exact h.ap j (by omega) i (by omega) h2

theorem Ap3.other {w w' : World} {base n : Nat} {A : Nat → Option Addr} {N C : Nat → Nat} {k G : Nat} {Gv : Nat → Value} (h : Ap3 w base n A N C k Gv) (hk : k ≤ n) (hg : w.grownBy w' (some G)) {cs : Array Value} {t : TypeId} {fr : Nat × Nat} (hG : w.heap[G]? = some (.cells cs t fr)) (ht : t ≠ 5)
    (hA : ∀ j, j < n → ∀ ad, A j = some ad → ad.block ≠ G) : Ap3 w' base n A N C k Gv :=
  ⟨fun j h1 h2 => ob_kept (h.old j h1 h2) hg (.inr (ob_ne (h.old j h1 h2) hG ht)), fun j hj => ob_kept (h.own j hj) hg (.inr (ob_ne (h.own j hj) hG ht)),
   fun j hj => (h.rd j hj).grown hg fun ad ea e => hA j (by omega) ad ea (by injection e), h.ap⟩

/-- gs, of which the first k are laid. -/
def gsArr (n k : Nat) (Gv : Nat → Value) : Array Value := ((List.range n).map fun j => if j < k then Gv j else .slice none 0 0).toArray

theorem gs_get (n k : Nat) (Gv : Nat → Value) (j : Nat) (hj : j < n) : (gsArr n k Gv)[j]? = some (if j < k then Gv j else .slice none 0 0) := by
  simp [gsArr, hj]
theorem gs_set (n k : Nat) (Gv : Nat → Value) (gv : Value) (_hk : k < n) : (gsArr n k Gv).setIfInBounds k gv = gsArr n (k + 1) (fun j => if j = k then gv else Gv j) := by
  unfold gsArr
  apply Array.ext_getElem?
  intro i
  rw [Array.getElem?_setIfInBounds]
  by_cases e : k = i
  · subst e
    rw [if_pos rfl]
    simp [_hk]
  · rw [if_neg e]
    by_cases hi : i < n
    · simp only [List.getElem?_toArray, List.getElem?_map, List.getElem?_range hi, Option.map_some]
      by_cases h1 : i < k
      · rw [if_pos h1, if_pos (by omega), if_neg (by omega)]
      · rw [if_neg h1, if_neg (by omega)]
    · rw [Array.getElem?_eq_none (by simp; omega), Array.getElem?_eq_none (by simp; omega)]

theorem info_bytes : (Try.prog.info? 33).map (fun i => (i.zero, i.size, i.bytes)) = some (some (.slice none 0 0), 1, 24) := by kernel_rfl

theorem run_mk_lists (n : Nat) (hn : n ≤ 4398046511104) (x : Int) (hx : x = n) (u : World) :
    (Instr.makeSlice 31 (.int .i64 x) (.int .i64 x)).run Try.prog u = .ok (.slice (some ⟨u.heap.size, 0, none⟩) n n) (u.alloc (.cells (gsArr n 0 (fun _ => .slice none 0 0)) 33)) := by
  obtain ⟨i0, hi0, hz0, hz1, hz2⟩ := info_parts info_bytes
  subst hx
  have h := run_make (P := Try.prog) u 31 33 i0 (.slice none 0 0) Try.underlying31 hi0 hz0 .i64 .i64 (n : Int) (n : Int) (by omega) (by omega) (by rw [hz2]; omega) (by omega)
  have e : madeCells #[.slice none 0 0] n = gsArr n 0 (fun _ => .slice none 0 0) := by
    apply Array.ext'
    rw [toList_madeCells_one]
    unfold gsArr
    simp only [Nat.not_lt_zero, if_false, List.map_const', List.length_range]
  simpa [hz1, Value.cells, e] using h

set_option maxRecDepth 100000 in
set_option maxHeartbeats 4000000 in
theorem ApartBytes_any (gl cl n base : Nat) (lcur : Array Value) (fr : Nat × Nat) (A : Nat → Option Addr) (N C : Nat → Nat) (L : Nat → List UInt8) (w : World) (h1 : Ap1 w base n A N C L) (hd : ApD n A N C) (hls : w.heap[gl]? = some (.cells lcur 33 fr))
    (hlc : ∀ j, j < n → lcur[j]? = some (apV A N C j)) (hN : ∀ j, j < n → N j ≤ 140737488355328) (hbase : base ≤ w.heap.size) (hn : n ≤ 4398046511104) :
    Calls Try.prog 29 #[.slice (some ⟨gl, 0, none⟩) n cl] w fun e w' => e = .returned (.bool true) ∧ Below base w w' := by
  obtain ⟨i0, hi0, hz0, hz1, hz2⟩ := info_parts info_u8
  have mk := run_mk_lists n hn n rfl
  have HD := Lib.hid hd
  have HLC := Lib.hid hlc
  have HN := Lib.hid hN
  have HA : Hid (∀ j, j < n → ∀ ad, A j = some ad → ad.block < w.heap.size) := Lib.hid (fun j hj ad ea => by
    have := ((h1.ob j hj).lt ad.block (by unfold apV; rw [ea]; rfl)).2
    exact this)
  have hgl : gl < w.heap.size := (Array.getElem?_eq_some_iff.1 hls).1
  clear hd hlc hN
  have hlsC : ∀ (W : World), W.heap[gl]? = some (.cells lcur 33 fr) → ∀ j, j < n → W.cell? ⟨gl, j, none⟩ = some (apV A N C j) := fun W hW j hj => by
    rw [cell_of_row W gl j _ _ _ hW]; exact HLC.out j hj
  have HLS := Lib.hid hlsC
  clear hlsC
  go_enter Try.func29, Try.ntmps29
  go_wp2_with fail
  have hG0 : (w.alloc (.cells (gsArr n 0 (fun _ => .slice none 0 0)) 33)).heap[w.heap.size]? = some (.cells (gsArr n 0 (fun _ => .slice none 0 0)) 33 (0, 0)) := heap_alloc_new w _
  have hl0 : (w.alloc (.cells (gsArr n 0 (fun _ => .slice none 0 0)) 33)).heap[gl]? = some (.cells lcur 33 fr) := (Below.heap_alloc w _ gl hgl).trans hls
  have hA0 : Ap1 (w.alloc (.cells (gsArr n 0 (fun _ => .slice none 0 0)) 33)) base n A N C L := ⟨fun j hj => (h1.ob j hj).below (gr_alloc (gr_refl w) _), h1.len⟩
  have hb0 : Below base w (w.alloc (.cells (gsArr n 0 (fun _ => .slice none 0 0)) 33)) := (Below.refl base w).alloc hbase _
  generalize w.alloc (.cells (gsArr n 0 (fun _ => .slice none 0 0)) 33) = w0 at *
  generalize hGe : w.heap.size = G at *
  have HGE := Lib.hid hGe
  clear h1 hls mk hGe
  go_loopw [4, 5] (fun p _q wr => ∃ (k : Nat) (L : Nat → List UInt8), k ≤ n ∧ p = .int .i64 k ∧ Hid (Ap1 wr base n A N C L) ∧ Hid (∀ j, j < k → L j = marks j (N j)) ∧ Hid (wr.heap[gl]? = some (.cells lcur 33 fr)) ∧
    Hid (wr.heap[G]? = some (.cells (gsArr n 0 (fun _ => .slice none 0 0)) 33 (0, 0))) ∧ Below base w wr) (fun p _ _ => n - (intOf p).toNat)
  case atStart => exact ⟨0, L, Nat.zero_le _, rfl, Lib.hid hA0, Lib.hid (fun j hj => by omega), Lib.hid hl0, Lib.hid hG0, hb0⟩
  case round =>
    clear hA0 hl0 hG0 hb0
    obtain ⟨k, L, hk, rfl, HAP, HM, HL, HG, hb⟩ := hrel
    by_cases hlt : k < n
    · have t1 : decide ((k : Int) < (n : Int)) = true := by simp; omega
      have t1' : decide (k < n) = true := by simp; omega
      go_wp2_with fail
      obtain ⟨wo, hwo⟩ : ∃ wo : World, wo = wr := ⟨_, rfl⟩
      subst hwo
      go_loopw [5] (fun q wr => ∃ (i : Nat) (L : Nat → List UInt8), i ≤ N k ∧ q = .int .i64 i ∧ Hid (Ap1 wr base n A N C L) ∧ Hid (∀ j, j < k → L j = marks j (N j)) ∧ Hid ((L k).take i = marks k i) ∧ Hid (wr.heap[gl]? = some (.cells lcur 33 fr)) ∧
        Hid (wr.heap[G]? = some (.cells (gsArr n 0 (fun _ => .slice none 0 0)) 33 (0, 0))) ∧ Below base w wr) (fun q _ => N k - (intOf q).toNat)
      case atStart => exact ⟨0, L, Nat.zero_le _, rfl, HAP, HM, Lib.hid rfl, HL, HG, hb⟩
      case round =>
        clear HAP HM HL HG hb L
        obtain ⟨i, L, hi, rfl, HAP, HM, HT, HL, HG, hb⟩ := hrel
        have hNk := HN.out k hlt
        have cV := HLS.out wr HL.out k hlt
        unfold apV at cV
        by_cases hlt2 : i < N k
        · obtain ⟨g, eA, hc1, hc2, hbg⟩ := obA_some (HAP.out.ob k hlt) (HAP.out.len k hlt) (by omega)
          have hob : OB wr base (.slice (some ⟨g, 0, none⟩) (N k) (C k)) (L k) := by have := HAP.out.ob k hlt; unfold apV at this; rw [eA] at this; exact this
          have c1 := obn_cell hob (HAP.out.len k hlt) (j := i) hlt2
          have z1 := obn_frozen hob (HAP.out.len k hlt) i
          rw [eA] at cV
          have hgG : g ≠ G := fun e => ob_ne hob HG.out (by decide) (by simp [Value.ownBlock, e])
          have hggl : g ≠ gl := fun e => ob_ne hob HL.out (by decide) (by simp [Value.ownBlock, e])
          have HAP' := Lib.hid (HAP.out.set HD.out (i := i) hlt eA (mkB k i))
          have HM' : Hid (∀ j, j < k → (if j = k then (L k).set i (mkB k i) else L j) = marks j (N j)) := Lib.hid (fun j hj => by rw [if_neg (by omega)]; exact HM.out j hj)
          have HT' : Hid ((if k = k then (L k).set i (mkB k i) else L k).take (i + 1) = marks k (i + 1)) := Lib.hid (by rw [if_pos rfl]; exact take_set_succ (by rw [HAP.out.len k hlt]; exact hlt2) HT.out)
          have HL' : Hid ((wr.setCell ⟨g, i, none⟩ (bv (mkB k i))).heap[gl]? = some (.cells lcur 33 fr)) := Lib.hid ((Below.heap_setCell _ _ _ gl (Ne.symm hggl)).trans HL.out)
          have HG' : Hid ((wr.setCell ⟨g, i, none⟩ (bv (mkB k i))).heap[G]? = some (.cells (gsArr n 0 (fun _ => .slice none 0 0)) 33 (0, 0))) := Lib.hid ((Below.heap_setCell _ _ _ G (Ne.symm hgG)).trans HG.out)
          have hb' : Below base w (wr.setCell ⟨g, i, none⟩ (bv (mkB k i))) := hb.setCell (p := ⟨g, i, none⟩) hbg _
          unfold bv at HAP' HL' HG' hb'
          have hi0' : (0 : Int) ≤ (k : Int) := Int.natCast_nonneg _
          have hi1' : (k : Int) < (n : Int) := by omega
          generalize (((L k).getD i 0).toNat : Int) = y0 at *
          clear HAP HM HT HL HG hb hob hgG hggl
          go_wp2_with fail
          go_region_with (go_at_call 66; refine (markByte_any k i _).mono ?_; rintro e w' ⟨rfl, rfl⟩)
          all_goals
            go_wp2_with fail
            go_roundw
            case rel => exact ⟨i + 1, _, by omega, by go_num, Lib.hid ⟨fun j hj => HAP'.out.ob j hj, HAP'.out.len⟩, HM', Lib.hid (by simpa using HT'.out), Lib.hid HL'.out, Lib.hid HG'.out, hb'.drew⟩
            case measure => simp [intOf]; omega
        · obtain rfl : i = N k := by omega
          have HM' : Hid (∀ j, j < k + 1 → L j = marks j (N j)) := Lib.hid (fun j hj => by
            by_cases e : j = k
            · subst e
              have := HT.out
              rwa [List.take_of_length_le (Nat.le_of_eq (HAP.out.len j hlt))] at this
            · exact HM.out j (by omega))
          clear HM HT
          go_wp2_with fail
          go_roundw
          case rel => exact ⟨k + 1, L, by omega, by go_num, HAP, HM', HL, HG, hb⟩
          case measure => simp [intOf]; omega
    · obtain rfl : k = n := by omega
      have H3 : Hid (Ap3 wr base k A N C 0 (fun _ => .slice none 0 0)) := Lib.hid ⟨fun j _ hj => by have := HAP.out.ob j hj; rw [HM.out j hj] at this; exact this, fun j hj => by omega, fun j hj => by omega, fun j hj => by omega⟩
      clear HAP HM
      go_wp2_with fail
      obtain ⟨wo, hwo⟩ : ∃ wo : World, wo = wr := ⟨_, rfl⟩
      subst hwo
      go_loopw [6, 7, 8] (fun p _g _q wr => ∃ (m : Nat) (Gv : Nat → Value), m ≤ k ∧ p = .int .i64 m ∧ Hid (Ap3 wr base k A N C m Gv) ∧ Hid (wr.heap[gl]? = some (.cells lcur 33 fr)) ∧
        Hid (wr.heap[G]? = some (.cells (gsArr k m Gv) 33 (0, 0))) ∧ Below base w wr) (fun p _ _ _ => k - (intOf p).toNat)
      case atStart => exact ⟨0, _, Nat.zero_le _, rfl, H3, HL, HG, hb⟩
      case round =>
        clear H3 HL HG hb
        obtain ⟨m, Gv, hm, rfl, H3, HL, HG, hb⟩ := hrel
        by_cases hlt : m < k
        · have t1 : decide ((m : Int) < (k : Int)) = true := by simp; omega
          have t1' : decide (m < k) = true := by simp; omega
          have hNm := HN.out m hlt
          have cV := HLS.out wr HL.out m hlt
          unfold apV at cV
          go_wp2_with fail
          obtain ⟨wk, hwk⟩ : ∃ wk : World, wk = wr := ⟨_, rfl⟩
          subst hwk
          have hobk := H3.out.old m (Nat.le_refl _) hlt
          have hbsz : base ≤ wk.heap.size := by have := HGE.out; have := hb.size; omega
          go_loopw [7, 8] (fun g q wr => ∃ (j : Nat), j ≤ 40 ∧ q = .int .i64 j ∧ Hid (OB wr base g (marks m (N m + j))) ∧ Hid (BR wr (A m) (N m) (marks m (N m))) ∧ Hid (wk.grownBy wr (apV A N C m).ownBlock) ∧
            Hid (g.ownBlock = (apV A N C m).ownBlock ∨ ∃ b, g.ownBlock = some b ∧ wk.heap.size ≤ b) ∧ Below base w wr) (fun _ q _ => 40 - (intOf q).toNat)
          case atStart => exact ⟨0, by omega, rfl, Lib.hid hobk, Lib.hid (obBR hobk (marks_len _ _)), Lib.hid (World.grownBy.refl wk _), Lib.hid (.inl rfl), hb⟩
          case round =>
            obtain ⟨j, hj, rfl, HO, HB, HGR, HBL, hbj⟩ := hrel
            have hl2 : Hid (wr.heap[gl]? = some (.cells lcur 33 fr)) := Lib.hid ((HGR.out.block gl (Array.getElem?_eq_some_iff.1 HL.out).1 (fun e => ob_ne hobk HL.out (by decide) e.symm)).trans HL.out)
            have cV := HLS.out wr hl2.out m hlt
            unfold apV at cV
            by_cases hlt2 : j < 40
            · have t2 : decide ((j : Int) < 40) = true := by simp; omega
              have hw1 : IntKind.i64.wrap ((N m : Int) + (j : Int)) = ((N m + j : Nat) : Int) := by rw [IntKind.wrap_i64]; omega
              have hml := marks_len m (N m + j)
              have ho2 := HO.out
              unfold OB at ho2
              rw [hml] at ho2
              have HO2 := Lib.hid ho2
              clear hml HO ho2
              obtain ⟨Ag, cg, rfl, _, _⟩ := own_form HO2.out
              have hmx : N m + j + 1 ≤ maxLen := by simp only [maxLen]; omega
              have hszj : base ≤ wr.heap.size + 1 := by have := HGR.out.size; omega
              have HR1 : ∀ W : World, Rd (W.alloc (.cells #[.int .u8 ((mkB m (N m + j)).toNat : Int)] 5)) 1 (some ⟨W.heap.size, 0, none⟩) 1 [bv (mkB m (N m + j))] := fun W => Rd.new W _ #[_] 1 1 rfl
              have HR := Lib.hid HR1
              have HFIN : Hid (∀ (v4 : Value) (w4 : World), w4.ownsRow base 5 1 v4 (N m + j + 1) ((marks m (N m + j)).map bv ++ [bv (mkB m (N m + j))]) → (wr.alloc (.cells #[.int .u8 ((mkB m (N m + j)).toNat : Int)] 5)).grownBy w4 (Value.slice Ag (N m + j) cg).ownBlock →
                  (v4.ownBlock = (Value.slice Ag (N m + j) cg).ownBlock ∨ (v4.ownBlock = some (wr.heap.size + 1) ∧ (wr.alloc (.cells #[.int .u8 ((mkB m (N m + j)).toNat : Int)] 5)).grownBy w4 none)) → OB w4 base v4 (marks m (N m + (j + 1))) ∧ BR w4 (A m) (N m) (marks m (N m)) ∧ wk.grownBy w4 (apV A N C m).ownBlock ∧
                  (v4.ownBlock = (apV A N C m).ownBlock ∨ ∃ b, v4.ownBlock = some b ∧ wk.heap.size ≤ b) ∧ Below base w w4) := Lib.hid (by
                intro v4 w4 hown4 hg4 hbl4
                have hnew : wk.heap.size ≤ wr.heap.size := HGR.out.size
                have hobk : OB wk base (apV A N C m) (marks m (N m)) := H3.out.old m (Nat.le_refl _) hlt
                have hgr : wr.grownBy w4 (Value.slice Ag (N m + j) cg).ownBlock := ⟨hg4.os, hg4.tape, hg4.output, Nat.le_trans (by simp) hg4.size, fun b hb hne => (hg4.block b (by simp; omega) hne).trans (Below.heap_alloc wr _ b hb)⟩
                have hgr2 : wk.grownBy w4 (apV A N C m).ownBlock := by
                  refine ⟨by rw [hgr.os, HGR.out.os], by rw [hgr.tape, HGR.out.tape], by rw [hgr.output, HGR.out.output], Nat.le_trans hnew hgr.size, fun b hb hne => ?_⟩
                  rw [hgr.block b (by omega) ?_, HGR.out.block b hb hne]
                  rcases HBL.out with e | ⟨b', e, hb'⟩
                  · rw [e]; exact hne
                  · rw [e]; intro e2; injection e2 with e2; omega
                have e40 : marks m (N m + (j + 1)) = marks m (N m + j) ++ [mkB m (N m + j)] := by rw [← marks_succ]; rfl
                have ho4 : OB w4 base v4 (marks m (N m + (j + 1))) := OB.of_own hown4 (by rw [e40, List.map_append]; rfl)
                refine ⟨ho4, ?_, hgr2, ?_, ?_⟩
                · rcases Nat.eq_zero_or_pos (N m) with h0 | h0
                  · rw [h0]; exact BR.none_ _ _
                  · obtain ⟨ga, eA, hc1, hc2, hbg⟩ := obA_some hobk (marks_len _ _) h0
                    rcases hbl4 with e4 | e4
                    · rcases HBL.out with e | ⟨b', e, hb'⟩
                      · obtain ⟨A4, c4, rfl, hr4, _, _⟩ := ho4.formN (n := N m + (j + 1)) (marks_len _ _)
                        have : (Value.slice A4 (N m + (j + 1)) c4).ownBlock = some ga := by rw [e4, e]; unfold apV; rw [eA]; rfl
                        have hA4 : A4 = some ⟨ga, 0, none⟩ := by
                          rcases ho4.2 with ⟨e5, _⟩ | ⟨g5, cap5, cur5, e5, _⟩
                          · cases e5
                          · injection e5 with e6
                            subst e6
                            have h6 : g5 = ga := by simpa [Value.ownBlock] using this
                            rw [h6]
                        rw [eA, ← hA4]
                        have := hr4.pre (j := N m) (by omega)
                        rwa [marks_take _ _ _ (by omega)] at this
                      · refine HB.out.grown hgr fun ad ea e2 => ?_
                        rw [e] at e2
                        rw [eA] at ea
                        cases ea
                        injection e2 with e2
                        have := (hobk.lt ga (by unfold apV; rw [eA]; rfl)).2
                        dsimp only at e2
                        omega
                    · exact (HB.out.below (gr_alloc (gr_refl wr) _)).grown e4.2 (fun _ _ => by simp)
                · rcases hbl4 with e4 | e4
                  · rw [e4]; exact HBL.out
                  · exact .inr ⟨_, e4.1, by omega⟩
                · exact (hbj.alloc (by have := HGE.out; have := hbj.size; omega) _).grown hg4 (by simp; omega) (fun b hb => (HO2.out.lt b hb).1))
              clear HB HBL
              go_wp2_with fail
              refine (markByte_of m (N m + j) _ (by simp) _).mono ?_
              rintro e w' ⟨rfl, rfl⟩
              go_wp2_with (at_builtin; refine wpList_append_Rd _ rfl (.tmp 52) (.tmp 62) _ rfl base 5 i0 _ 1 1 Try.underlying33 hi0 hz0 hz1 hz2 rfl (.slice Ag (N m + j) cg) (N m + j) _ rfl (HO2.out.alloc _) (some ⟨wr.heap.size, 0, none⟩) 1 1 [bv (mkB m (N m + j))] rfl (HR.out _) (by simp [Value.oneCell', bv]) (by omega) hmx (by rw [World.size_alloc]; exact hszj) ?_; intro v4 w4 hown4 hg4 _ hbl4; obtain ⟨k1, k2, k3, k4, k5⟩ := HFIN.out v4 w4 hown4 hg4 (by rw [World.size_alloc] at hbl4; exact hbl4))
              go_roundw
              case rel => exact ⟨j + 1, by omega, by go_num, Lib.hid k1, Lib.hid k2, Lib.hid k3, Lib.hid k4, k5⟩
              case measure => simp [intOf]; omega
            · obtain rfl : j = 40 := by omega
              have t2 : decide (((40 : Nat) : Int) < 40) = false := by simp
              have HGb : Hid (wr.heap[G]? = some (.cells (gsArr k m Gv) 33 (0, 0))) := Lib.hid ((HGR.out.block G (Array.getElem?_eq_some_iff.1 HG.out).1 (fun e => ob_ne hobk HG.out (by decide) e.symm)).trans HG.out)
              obtain ⟨Ag, cg, eg, _, _⟩ := own_form HO.out
              rw [marks_len] at eg
              subst eg
              have H4 := Lib.hid (H3.out.step HD.out hlt HGR.out HO.out HB.out HBL.out)
              have hcG : wr.cell? ⟨G, m, none⟩ = some (.slice none 0 0) := by
                rw [cell_of_row wr G m _ _ _ HGb.out, gs_get k m Gv m hlt, if_neg (by omega)]
              have hfG : wr.frozen? ⟨G, m, none⟩ = false := by simp [World.frozen?, HGb.out]
              have hGw : w.heap.size = G := HGE.out
              have HA5 : Hid (∀ j, j < k → ∀ ad, A j = some ad → ad.block ≠ G) := Lib.hid (fun j hj ad ea => by have := HA.out j hj ad ea; omega)
              have H5 := Lib.hid (H4.out.other (w' := wr.setCell ⟨G, m, none⟩ (.slice Ag (N m + 40) cg)) (by omega) (grown_set wr G m _) HGb.out (by decide) HA5.out)
              have HG5 : Hid ((wr.setCell ⟨G, m, none⟩ (.slice Ag (N m + 40) cg)).heap[G]? = some (.cells (gsArr k (m + 1) (fun j => if j = m then .slice Ag (N m + 40) cg else Gv j)) 33 (0, 0))) := Lib.hid (by
                rw [← gs_set k m Gv _ hlt]
                simp only [World.setCell, Array.getElem?_modify, if_pos, HGb.out]
                simp)
              have HL5 : Hid ((wr.setCell ⟨G, m, none⟩ (.slice Ag (N m + 40) cg)).heap[gl]? = some (.cells lcur 33 fr)) := Lib.hid ((Below.heap_setCell _ _ _ gl (by dsimp only; omega)).trans hl2.out)
              have hb5 : Below base w (wr.setCell ⟨G, m, none⟩ (.slice Ag (N m + 40) cg)) := hbj.setCell (p := ⟨G, m, none⟩) hbase _
              clear H3 H4 HO HB HGR HBL HG HGb hGw hobk HL hl2
              go_wp2_with fail
              go_roundw
              case rel => exact ⟨m + 1, _, by omega, by go_num, H5, HL5, HG5, hb5⟩
              case measure => simp [intOf]; omega
        · obtain rfl : m = k := by omega
          have t1 : decide ((m : Int) < (m : Int)) = false := by simp
          go_wp2_with fail
          obtain ⟨wz, hwz⟩ : ∃ wz : World, wz = wr := ⟨_, rfl⟩
          subst hwz
          go_loopw [9, 10] (fun p _q wr => ∃ (r q : Nat), r ≤ m ∧ p = .int .i64 r ∧ Hid (wr = wz.drewN q)) (fun p _ _ => m - (intOf p).toNat)
          case atStart => exact ⟨0, 0, Nat.zero_le _, rfl, Lib.hid rfl⟩
          case round =>
            obtain ⟨r, q, hr, rfl, HW⟩ := hrel
            by_cases hlt : r < m
            · have t1 : decide ((r : Int) < (m : Int)) = true := by simp; omega
              have t1' : decide (r < m) = true := by simp; omega
              have hNm := HN.out r hlt
              obtain ⟨Ag, cg, eg, hrg, hcg1, hcg2⟩ := (H3.out.own r hlt).formN (marks_len _ _)
              have hrv := H3.out.rd r hlt
              have cV0 : wz.cell? ⟨gl, r, none⟩ = some (.slice (A r) (N r) (C r)) := HLS.out wz HL.out r hlt
              have cG0 : wz.cell? ⟨G, r, none⟩ = some (.slice Ag (N r + 40) cg) := by
                rw [cell_of_row wz G r _ _ _ HG.out, gs_get m m Gv r hlt, if_pos hlt, eg]
              have HCV := Lib.hid cV0
              have HCG := Lib.hid cG0
              have HRG := Lib.hid hrg
              have HRV := Lib.hid hrv
              clear eg hrg hrv cV0 cG0
              go_wp2_with fail
              obtain ⟨wy, hwy⟩ : ∃ wy : World, wy = wr := ⟨_, rfl⟩
              subst hwy
              go_loopw [10] (fun p wr => ∃ (i q : Nat), i ≤ N r + 40 ∧ p = .int .i64 i ∧ Hid (wr = wz.drewN q)) (fun p _ => N r + 40 - (intOf p).toNat)
              case atStart => exact ⟨0, q, Nat.zero_le _, rfl, HW⟩
              case round =>
                clear HW
                obtain ⟨i, q, hi, rfl, HW⟩ := hrel
                have cV : wr.cell? ⟨gl, r, none⟩ = some (.slice (A r) (N r) (C r)) := by rw [HW.out]; exact HCV.out
                have cG : wr.cell? ⟨G, r, none⟩ = some (.slice Ag (N r + 40) cg) := by rw [HW.out]; exact HCG.out
                by_cases hlt2 : i < N r + 40
                · have t2 : decide ((i : Int) < (N r : Int) + 40) = true := by simp; omega
                  have rg : BR wr Ag (N r + 40) (marks r (N r + 40)) := by rw [HW.out]; exact HRG.out
                  obtain ⟨ga, oa, rfl, cb⟩ := rg.at_ (k := i) hlt2
                  rw [marks_get _ _ _ hlt2] at cb
                  have HMK := Lib.hid (markByte_any r i)
                  by_cases hlt3 : i < N r
                  · have t3 : decide ((i : Int) < (N r : Int)) = true := by simp; omega
                    have t3' : decide (i < N r) = true := by simp; omega
                    have rv : BR wr (A r) (N r) (marks r (N r)) := by rw [HW.out]; exact HRV.out
                    obtain ⟨gv, ov, eA, cc⟩ := rv.at_ (k := i) hlt3
                    rw [marks_get _ _ _ hlt3] at cc
                    rw [eA] at cV
                    generalize ((mkB r i).toNat : Int) = y at *
                    clear rv rg eA
                    go_wp2_with fail
                    go_quiet ((go_at_call 66; exact Calls.quiet_of_same ((HMK.out _).mono (fun _ _ h => ⟨h.1, h.2.symm⟩))))
                    go_wp2_with fail
                    go_roundw
                    case rel => exact ⟨i + 1, q + nq, by omega, by go_num, Lib.hid (by rw [HW.out, World.drewN_drewN])⟩
                    case measure => simp [intOf]; omega
                  · have t3 : decide ((i : Int) < (N r : Int)) = false := by simp; omega
                    have t3' : decide (i < N r) = false := by simp; omega
                    generalize ((mkB r i).toNat : Int) = y at *
                    clear rg
                    go_wp2_with fail
                    go_quiet ((go_at_call 66; exact Calls.quiet_of_same ((HMK.out _).mono (fun _ _ h => ⟨h.1, h.2.symm⟩))))
                    go_wp2_with fail
                    go_roundw
                    case rel => exact ⟨i + 1, q + nq, by omega, by go_num, Lib.hid (by rw [HW.out, World.drewN_drewN])⟩
                    case measure => simp [intOf]; omega
                · obtain rfl : i = N r + 40 := by omega
                  go_wp2_with fail
                  go_roundw
                  case rel => exact ⟨r + 1, q, by omega, by go_num, HW⟩
                  case measure => simp [intOf]; omega
            · obtain rfl : r = m := by omega
              go_wp2_with fail
              go_ret
              exact ⟨rfl, by rw [HW.out]; exact ⟨hb.os, hb.tape, hb.output, hb.size, hb.block⟩⟩

end Go.Proofs.Ytjopobkcijkpmaa
