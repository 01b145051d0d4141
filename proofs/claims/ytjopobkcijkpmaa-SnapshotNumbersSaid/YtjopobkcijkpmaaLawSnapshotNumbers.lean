/-
  The walk of SnapshotNumbers.
-/
import Derived.Test.YtjopobkcijkpmaaSnQ
import Derived.Test.YtjopobkcijkpmaaSnR
namespace Go.Proofs.Ytjopobkcijkpmaa
open Go.RowKit

def al0 : TabS := newT 1 []
def al1 : TabS := begT al0
def al2 : TabS := comT al1 1
def al3 : TabS := begT al2
def al4 : TabS := begT al3
def al5 : TabS := comT al4 2
def en0 : TabS := newT 4611686018427387904 []
/-- k begun. -/
def tk : Nat → TabS
  | 0 => newT 1 []
  | k + 1 => begT (tk k)
theorem tk_ok : ∀ k, k < 16 → begN (tk k) = (k : Int) + 1 ∧ begE (tk k) = 0 := by decide +kernel
def t16 : TabS := tk 16
def t17 : TabS := comT t16 3
/-- 4 .. aborted. -/
def ta : Nat → TabS
  | 0 => t17
  | k + 1 => aboT (ta k) ((k : Int) + 4)
theorem ta_ok : ∀ k, k < 13 → askT (ta k) ((k : Int) + 4) = 0 := by decide +kernel
def t30 : TabS := ta 13
def t31 : TabS := aboT t30 1
theorem srt_one (x : Int) : srtL [x] = [x] := by simp [srtL]
theorem t31_dead : t31.dead = [] := by decide +kernel
def t32 : TabS := { endT t31 2 (4, 0) with dead := [2] }
theorem t31_kil : kilT t31 2 = t32 := by
  unfold kilT t32
  rw [if_neg (by decide +kernel), t31_dead, List.nil_append, srt_one]
def t33 : TabS := burT t32
def ub0 : TabS := newT 100 (upTo 64)
def ub1 : TabS := begT ub0
def ub2 : TabS := burT ub1
def ub3 : TabS := { endT ub2 100 (4, 0) with dead := [100] }
theorem ub2_dead : ub2.dead = [] := rfl
theorem ub2_kil : kilT ub2 100 = ub3 := by
  unfold kilT ub3
  rw [if_neg (by decide +kernel), ub2_dead, List.nil_append, srt_one]
theorem upTo_at {n k : Nat} (h : k < n) : (upTo n).getD k 0 = (k : Int) + 1 := by simp [upTo, List.getD, h]
theorem rise_upTo (m : Nat) (n : Int) (h : (m : Int) < n) : Rise 0 n (upTo m) := by
  intro k hk
  rw [upTo_len] at hk
  rw [upTo_at hk]
  by_cases e : k = 0
  · subst e
    rw [if_pos rfl]
    omega
  · rw [if_neg e, upTo_at (by omega)]
    omega
theorem run_mk65 (u : World) : (Instr.makeSlice 22 (.int .i64 65) (.int .i64 65)).run Try.prog u = .ok (.slice (some ⟨u.heap.size, 0, none⟩) 65 65) (u.alloc (.cells (madeCells #[.int .i64 0] 65) 3)) := by
  obtain ⟨i0, hi0, hz0, hz1, hz2⟩ := info_parts info_int
  have h := run_make (P := Try.prog) u 22 3 i0 (.int .i64 0) Try.underlying22 hi0 hz0 .i64 .i64 65 65 (by omega) (by omega) (by rw [hz2]; omega) (by omega)
  simpa [hz1, Value.cells] using h
/-- The rows that may not be. -/
def BadR (W : World) (x : Value) : Prop := ∃ A m c l, x = .slice A m c ∧ IR W A m l ∧ (64 < m ∨ ¬ Rise 0 5 l)
theorem BadR.below {w w' : World} {x : Value} (h : BadR w x) (hb : Below w.heap.size w w') : BadR w' x := by
  obtain ⟨A, m, c, l, e, h1, h2⟩ := h
  exact ⟨A, m, c, l, e, h1.below hb, h2⟩
theorem BadR.lit (w : World) (l : List Int) (cs : Array Value) (n : Nat) (hn : l.length = n) (h : cs.toList = l.map (Value.int .i64)) (hb : 64 < n ∨ ¬ Rise 0 5 l) : BadR (w.alloc (.cells cs 3)) (.slice (some ⟨w.heap.size, 0, none⟩) n n) :=
  ⟨_, n, n, l, rfl, IR.litAt w _ l cs _ n rfl hn h, hb⟩
def W6 (w : World) : World := (((((w.alloc (.cells #[.int .i64 5] 3)).alloc (.cells #[.int .i64 0] 3)).alloc (.cells #[.int .i64 2, .int .i64 2] 3)).alloc (.cells #[.int .i64 3, .int .i64 1] 3)).alloc (.cells #[.int .i64 (-1)] 3)).alloc (.cells (madeCells #[.int .i64 0] 65) 3)
theorem bad_rows (w : World) : BadR (W6 w) (.slice (some ⟨w.heap.size, 0, none⟩) 1 1) ∧ BadR (W6 w) (.slice (some ⟨w.heap.size + 1, 0, none⟩) 1 1) ∧ BadR (W6 w) (.slice (some ⟨w.heap.size + 1 + 1, 0, none⟩) 2 2) ∧ BadR (W6 w) (.slice (some ⟨w.heap.size + 1 + 1 + 1, 0, none⟩) 2 2) ∧ BadR (W6 w) (.slice (some ⟨w.heap.size + 1 + 1 + 1 + 1, 0, none⟩) 1 1) ∧ BadR (W6 w) (.slice (some ⟨w.heap.size + 1 + 1 + 1 + 1 + 1, 0, none⟩) 65 65) := by
  have g : ∀ (a : World) o, Below a.heap.size a (a.alloc o) := fun a o => gr_alloc (gr_refl a) o
  unfold W6
  refine ⟨?_, ?_, ?_, ?_, ?_, ?_⟩
  · exact ((((BadR.lit _ [5] _ 1 rfl rfl (.inr (by unfold Rise; decide))).below (g _ _)).below (g _ _)).below (g _ _)).below (g _ _) |>.below (g _ _)
  · have h := ((((BadR.lit (w.alloc (.cells #[.int .i64 5] 3)) [0] #[.int .i64 0] 1 rfl rfl (.inr (by unfold Rise; decide))).below (g _ (.cells #[.int .i64 2, .int .i64 2] 3))).below (g _ (.cells #[.int .i64 3, .int .i64 1] 3))).below (g _ (.cells #[.int .i64 (-1)] 3))).below (g _ (.cells (madeCells #[.int .i64 0] 65) 3))
    rw [World.size_alloc] at h
    exact h
  · have h := (((BadR.lit ((w.alloc (.cells #[.int .i64 5] 3)).alloc (.cells #[.int .i64 0] 3)) [2, 2] #[.int .i64 2, .int .i64 2] 2 rfl rfl (.inr (by unfold Rise; decide))).below (g _ (.cells #[.int .i64 3, .int .i64 1] 3))).below (g _ (.cells #[.int .i64 (-1)] 3))).below (g _ (.cells (madeCells #[.int .i64 0] 65) 3))
    simp only [World.size_alloc] at h
    exact h
  · have h := ((BadR.lit (((w.alloc (.cells #[.int .i64 5] 3)).alloc (.cells #[.int .i64 0] 3)).alloc (.cells #[.int .i64 2, .int .i64 2] 3)) [3, 1] #[.int .i64 3, .int .i64 1] 2 rfl rfl (.inr (by unfold Rise; decide))).below (g _ (.cells #[.int .i64 (-1)] 3))).below (g _ (.cells (madeCells #[.int .i64 0] 65) 3))
    simp only [World.size_alloc] at h
    exact h
  · have h := (BadR.lit ((((w.alloc (.cells #[.int .i64 5] 3)).alloc (.cells #[.int .i64 0] 3)).alloc (.cells #[.int .i64 2, .int .i64 2] 3)).alloc (.cells #[.int .i64 3, .int .i64 1] 3)) [-1] #[.int .i64 (-1)] 1 rfl rfl (.inr (by unfold Rise; decide))).below (g _ (.cells (madeCells #[.int .i64 0] 65) 3))
    simp only [World.size_alloc] at h
    exact h
  · have h := BadR.lit (((((w.alloc (.cells #[.int .i64 5] 3)).alloc (.cells #[.int .i64 0] 3)).alloc (.cells #[.int .i64 2, .int .i64 2] 3)).alloc (.cells #[.int .i64 3, .int .i64 1] 3)).alloc (.cells #[.int .i64 (-1)] 3)) (List.replicate 65 0) (madeCells #[.int .i64 0] 65) 65 (by simp) (by rw [toList_madeCells_one, List.map_replicate]) (.inl (by omega))
    simp only [World.size_alloc] at h
    exact h
def W7 (w : World) : World := (W6 w).alloc (.cells #[.slice (some ⟨w.heap.size, 0, none⟩) 1 1, .slice (some ⟨w.heap.size + 1, 0, none⟩) 1 1, .slice (some ⟨w.heap.size + 1 + 1, 0, none⟩) 2 2, .slice (some ⟨w.heap.size + 1 + 1 + 1, 0, none⟩) 2 2, .slice (some ⟨w.heap.size + 1 + 1 + 1 + 1, 0, none⟩) 1 1, .slice (some ⟨w.heap.size + 1 + 1 + 1 + 1 + 1, 0, none⟩) 65 65] 22)
theorem W7_below (w : World) : Below w.heap.size w (W7 w) := by
  unfold W7 W6
  exact gr_alloc (gr_alloc (gr_alloc (gr_alloc (gr_alloc (gr_alloc (gr_alloc (gr_refl w) _) _) _) _) _) _) _
theorem bad_all (w : World) : ∀ k, k < 6 → ∃ A m c l, (W7 w).cell? ⟨w.heap.size + 1 + 1 + 1 + 1 + 1 + 1, k, none⟩ = some (.slice A m c) ∧ IR (W7 w) A m l ∧ (64 < m ∨ ¬ Rise 0 5 l) := by
  obtain ⟨r0, r1, r2, r3, r4, r5⟩ := bad_rows w
  have hz6 : (W6 w).heap.size = w.heap.size + 1 + 1 + 1 + 1 + 1 + 1 := by unfold W6; simp only [World.size_alloc]
  have hn : (W7 w).heap[w.heap.size + 1 + 1 + 1 + 1 + 1 + 1]? = some (.cells #[.slice (some ⟨w.heap.size, 0, none⟩) 1 1, .slice (some ⟨w.heap.size + 1, 0, none⟩) 1 1, .slice (some ⟨w.heap.size + 1 + 1, 0, none⟩) 2 2, .slice (some ⟨w.heap.size + 1 + 1 + 1, 0, none⟩) 2 2, .slice (some ⟨w.heap.size + 1 + 1 + 1 + 1, 0, none⟩) 1 1, .slice (some ⟨w.heap.size + 1 + 1 + 1 + 1 + 1, 0, none⟩) 65 65] 22 (0, 0)) := by
    rw [← hz6]
    exact heap_alloc_new (W6 w) _
  have hb : Below (W6 w).heap.size (W6 w) (W7 w) := gr_alloc (gr_refl _) _
  have key : ∀ (x : Value) (k : Nat), BadR (W6 w) x → (W7 w).cell? ⟨w.heap.size + 1 + 1 + 1 + 1 + 1 + 1, k, none⟩ = some x → ∃ A m c l, (W7 w).cell? ⟨w.heap.size + 1 + 1 + 1 + 1 + 1 + 1, k, none⟩ = some (.slice A m c) ∧ IR (W7 w) A m l ∧ (64 < m ∨ ¬ Rise 0 5 l) := by
    intro x k hx hc
    obtain ⟨A, m, c, l, rfl, h1, h2⟩ := hx.below hb
    exact ⟨A, m, c, l, hc, h1, h2⟩
  intro k hk
  obtain rfl | rfl | rfl | rfl | rfl | rfl : k = 0 ∨ k = 1 ∨ k = 2 ∨ k = 3 ∨ k = 4 ∨ k = 5 := by omega
  · exact key _ _ r0 (by rw [cell_of_row _ _ _ _ _ _ hn]; rfl)
  · exact key _ _ r1 (by rw [cell_of_row _ _ _ _ _ _ hn]; rfl)
  · exact key _ _ r2 (by rw [cell_of_row _ _ _ _ _ _ hn]; rfl)
  · exact key _ _ r3 (by rw [cell_of_row _ _ _ _ _ _ hn]; rfl)
  · exact key _ _ r4 (by rw [cell_of_row _ _ _ _ _ _ hn]; rfl)
  · exact key _ _ r5 (by rw [cell_of_row _ _ _ _ _ _ hn]; rfl)
theorem OR.gr {w wr w' : World} {v : Value} {n : Nat} {xs : List Value} (hb : Below w.heap.size w wr) (h : OR wr w.heap.size 3 v n xs) (hg : wr.grownBy w' v.ownBlock) : Below w.heap.size w w' :=
  hb.grown hg hb.size (fun k e => (h.lt k e).1)

set_option maxRecDepth 100000 in
set_option maxHeartbeats 16000000 in
theorem SnapshotNumbers_any (w : World) :
    Calls Try.prog 12 #[] w fun e w' => e = .returned (.bool true) ∧ Below w.heap.size w w' := by
  obtain ⟨i0, hi0, hz0, hz1, hz2⟩ := info_parts info_int
  have hmk := run_mk65
  go_enter Try.func12, Try.ntmps12
  go_wp2_with fail
  have hb00 := gr_refl w
  go_loopw [1, 2] (fun v i wr => ∃ q : Nat, 1 ≤ q ∧ q ≤ 66 ∧ i = .int .i64 q ∧ OR wr w.heap.size 3 v (q - 1) ((upTo (q - 1)).map (Value.int .i64)) ∧ Below w.heap.size w wr) (fun _ i _ => 66 - (intOf i).toNat)
  case atStart => exact ⟨1, by omega, by omega, rfl, OR.nil_ _ _ _, hb00⟩
  case round =>
    clear hb00
    obtain ⟨q, hq1, hq2, rfl, ho, hb⟩ := hrel
    obtain ⟨Av, cv, rfl, _, _⟩ := ho.form
    by_cases hlt : q < 66
    · have t1 : decide ((q : Int) ≤ 65) = true := by simp; omega
      have HUP : Hid ((upTo (q + 1 - 1)).map (Value.int .i64) = (upTo (q - 1)).map (Value.int .i64) ++ [.int .i64 (q : Int)]) := Lib.hid (by
        obtain ⟨j, rfl⟩ : ∃ j, q = j + 1 := ⟨q - 1, by omega⟩
        rw [Nat.add_sub_cancel, Nat.add_sub_cancel, upTo_snoc]
        simp)
      have HOA := Lib.hid ho
      have HBB := Lib.hid hb
      have hsz9 := hb.size
      clear ho hb
      generalize hn1 : q - 1 = n1 at *
      have HN1 := Lib.hid hn1
      have hn2 : n1 ≤ 65 := by omega
      clear hn1
      generalize (upTo n1).map (Value.int .i64) = ys at *
      go_wp2_with (at_builtin; refine wpList_append_OR _ rfl (.tmp 47) (.tmp 49) _ rfl w.heap.size 3 i0 _ 8 Try.underlying22 hi0 hz0 hz1 hz2 rfl (.slice Av n1 cv) n1 _ rfl (HOA.out.alloc _) ⟨wr.heap.size, 0, none⟩ 1 1 [.int .i64 q] rfl rfl (World.news_of_block (heap_alloc_new wr _)) (by simp [Value.oneCell']) (by omega) (by simp only [maxLen]; omega) (by omega) (by rw [World.size_alloc]; omega) ?_; intro v4 w10 ho10 hg10 hv10)
      go_roundw
      case rel => exact ⟨q + 1, by omega, by omega, by go_num, by rw [HUP.out, show q + 1 - 1 = n1 + 1 by (have := HN1.out; omega)]; exact ho10, OR.gr (gr_alloc HBB.out _) (HOA.out.alloc _) hg10⟩
      case measure => simp [intOf]; omega
    · have t1 : decide ((q : Int) ≤ 65) = false := by simp; omega
      obtain rfl : q = 66 := by omega
      have ha : IR wr Av 65 (upTo 65) := ho.rd
      clear ho t1 hlt hq1 hq2
      go_wp2_with fail
      refine (NewT_bad 100 Av 65 cv (upTo 65) wr ha (.inr (.inr (.inl (by omega))))).mono ?_
      rintro e w1 ⟨rfl, hb1⟩
      have hB := gr_trans hb hb1
      clear hb hb1 ha
      go_wp2_with fail
      refine (New_ts (w0 := w) (w := w1) 1 none 0 0 [] hB (IR.none_ _ _) (by omega) (by omega) (by omega) (fun k hk => absurd hk (by simp))).mono ?_
      rw [show newT 1 [] = al0 from rfl]
      clear hB
      rintro e w2 ⟨g, rfl, s⟩
      have X := Begin_ts s
      rw [show begN al0 = 1 from by decide +kernel, show begE al0 = 0 from by decide +kernel, show begT al0 = al1 from rfl] at X
      have HX := Lib.hid X
      clear X s
      go_wp2_with fail
      refine HX.out.mono ?_
      clear HX
      rintro e w3 ⟨rfl, s⟩
      have X := Commit_ts 1 s (by omega) (by omega) (by decide +kernel) (by decide +kernel)
      rw [show askT al1 1 = 0 from by decide +kernel, show comT al1 1 = al2 from rfl] at X
      have HX := Lib.hid X
      clear X s
      go_wp2_with fail
      refine HX.out.mono ?_
      clear HX
      rintro e w4 ⟨rfl, s⟩
      have X := Begin_ts s
      rw [show begN al2 = 2 from by decide +kernel, show begE al2 = 0 from by decide +kernel, show begT al2 = al3 from rfl] at X
      have HX := Lib.hid X
      clear X s
      go_wp2_with fail
      refine HX.out.mono ?_
      clear HX
      rintro e w5 ⟨rfl, s⟩
      have X := Begin_ts s
      rw [show begN al3 = 3 from by decide +kernel, show begE al3 = 0 from by decide +kernel, show begT al3 = al4 from rfl] at X
      have HX := Lib.hid X
      clear X s
      go_wp2_with fail
      refine HX.out.mono ?_
      clear HX
      rintro e w6 ⟨rfl, s⟩
      have X := Commit_ts 2 s (by omega) (by omega) (by decide +kernel) (by decide +kernel)
      rw [show askT al4 2 = 0 from by decide +kernel, show comT al4 2 = al5 from rfl] at X
      have HX := Lib.hid X
      clear X s
      go_wp2_with fail
      refine HX.out.mono ?_
      clear HX
      rintro e w7 ⟨rfl, s⟩
      have X := Visible_ts 3 1 s (by omega) (by omega) (by omega) (by omega)
      rw [show visB al5 3 1 = true from by decide +kernel] at X
      have HX := Lib.hid X
      clear X s
      go_wp2_with fail
      refine HX.out.mono ?_
      clear HX
      rintro e w8 ⟨rfl, s⟩
      have X := Visible_ts 3 2 s (by omega) (by omega) (by omega) (by omega)
      rw [show visB al5 3 2 = false from by decide +kernel] at X
      have HX := Lib.hid X
      clear X s
      go_wp2_with fail
      refine HX.out.mono ?_
      clear HX
      rintro e w9 ⟨rfl, s⟩
      have hB := s.1
      clear s
      go_wp2_with fail
      have hall := bad_all w9
      have hb7 := gr_trans hB (W7_below w9)
      unfold W7 W6 at hall hb7
      generalize (((((((w9.alloc (.cells #[.int .i64 5] 3)).alloc (.cells #[.int .i64 0] 3)).alloc (.cells #[.int .i64 2, .int .i64 2] 3)).alloc (.cells #[.int .i64 3, .int .i64 1] 3)).alloc (.cells #[.int .i64 (-1)] 3)).alloc (.cells (madeCells #[.int .i64 0] 65) 3)).alloc (.cells #[.slice (some ⟨w9.heap.size, 0, none⟩) 1 1, .slice (some ⟨w9.heap.size + 1, 0, none⟩) 1 1, .slice (some ⟨w9.heap.size + 1 + 1, 0, none⟩) 2 2, .slice (some ⟨w9.heap.size + 1 + 1 + 1, 0, none⟩) 2 2, .slice (some ⟨w9.heap.size + 1 + 1 + 1 + 1, 0, none⟩) 1 1, .slice (some ⟨w9.heap.size + 1 + 1 + 1 + 1 + 1, 0, none⟩) 65 65] 22)) = W at *
      generalize w9.heap.size + 1 + 1 + 1 + 1 + 1 + 1 = h6 at *
      have HALL := Lib.hid hall
      clear hall hB
      go_loopw [14, 15, 16, 106] (fun _ _ _ i wr => ∃ k : Nat, k ≤ 6 ∧ i = .int .i64 k ∧ Below W.heap.size W wr) (fun _ _ _ i _ => 6 - (intOf i).toNat)
      case atStart => exact ⟨0, by omega, rfl, gr_refl W⟩
      case round =>
        obtain ⟨k, hk, rfl, hbk⟩ := hrel
        by_cases hlt : k < 6
        · have t1 : decide ((k : Int) < 6) = true := by simp; omega
          have i0' : (0 : Int) ≤ (k : Int) := Int.natCast_nonneg _
          have i1' : (k : Int) < 6 := by omega
          obtain ⟨A, m, c, l, hc, hr, hbad⟩ := HALL.out k hlt
          have hc2 := keep_of_below hbk hc
          have HNB := Lib.hid (NewT_bad 5 A m c l wr (hr.below hbk) (.inr (.inr hbad)))
          clear hc hr hbad
          go_wp2_with fail
          refine HNB.out.mono ?_
          rintro e w11 ⟨rfl, hb11⟩
          go_wp2_with fail
          go_roundw
          case rel => exact ⟨k + 1, by omega, by go_num, gr_trans hbk hb11⟩
          case measure => simp [intOf]; omega
        · have t1 : decide ((k : Int) < 6) = false := by simp; omega
          have hB := gr_trans hb7 hbk
          obtain rfl : k = 6 := by omega
          clear HALL hb7 hbk hlt hk t1
          go_wp2_with fail
          refine (NewT_bad 0 none 0 0 [] _ (IR.none_ _ _) (.inl (by omega))).mono ?_
          rintro e w20 ⟨rfl, hb1⟩
          have hB := gr_trans hB hb1
          clear hb1
          go_wp2_with fail
          refine (NewT_bad 4611686018427387905 none 0 0 [] _ (IR.none_ _ _) (.inr (.inl (by omega)))).mono ?_
          rintro e w21 ⟨rfl, hb1⟩
          have hB := gr_trans hB hb1
          clear hb1
          go_wp2_with fail
          refine (New_ts (w0 := w) (w := w21) 4611686018427387904 none 0 0 [] hB (IR.none_ _ _) (by omega) (by omega) (by omega) (fun k hk => absurd hk (by simp))).mono ?_
          rw [show newT 4611686018427387904 [] = en0 from rfl]
          clear hB
          rintro e w22 ⟨g2, rfl, s⟩
          have X := Begin_ts s
          rw [show begN en0 = 0 from by decide +kernel, show begE en0 = 5 from by decide +kernel, show begT en0 = en0 from by unfold begT; rw [if_pos (by decide +kernel)]] at X
          have HX := Lib.hid X
          clear X s
          go_wp2_with fail
          refine HX.out.mono ?_
          clear HX
          rintro e w23 ⟨rfl, s⟩
          have hB := s.1
          clear s
          go_wp2_with fail
          refine (New_ts (w0 := w) (w := w23) 1 none 0 0 [] hB (IR.none_ _ _) (by omega) (by omega) (by omega) (fun k hk => absurd hk (by simp))).mono ?_
          rw [show newT 1 [] = tk 0 from rfl]
          clear hB
          rintro e w24 ⟨g3, rfl, s⟩
          go_wp2_with fail
          go_loopw [28, 29, 30] (fun i _ _ wr => ∃ k : Nat, k ≤ 16 ∧ i = .int .i64 ((k + 1 : Nat) : Int) ∧ TSt w wr g3 (tk k)) (fun i _ _ _ => 17 - (intOf i).toNat)
          case atStart => exact ⟨0, by omega, rfl, s⟩
          case round =>
            clear s
            obtain ⟨k, hk, rfl, s⟩ := hrel
            by_cases hlt : k < 16
            · have X := Begin_ts s
              rw [(tk_ok k hlt).1, (tk_ok k hlt).2, show begT (tk k) = tk (k + 1) from rfl, show (k : Int) + 1 = ((k + 1 : Nat) : Int) by omega] at X
              have HX := Lib.hid X
              clear X s
              obtain ⟨q, hq⟩ : ∃ q, q = k + 1 := ⟨_, rfl⟩
              rw [← hq] at HX ⊢
              have HQ := Lib.hid hq
              have hq2 : q ≤ 16 := by omega
              have t1 : decide ((q : Int) ≤ 16) = true := by simp; omega
              have t2 : ((q : Int) != (q : Int)) = false := by simp
              clear hq hlt hk
              go_wp2_with fail
              refine HX.out.mono ?_
              rintro e w25 ⟨rfl, s⟩
              go_wp2_with fail
              go_roundw
              case rel => exact ⟨q, by omega, by go_num, s⟩
              case measure => simp [intOf]; omega
            · obtain rfl : k = 16 := by omega
              rw [show tk 16 = t16 from rfl] at s
              clear hlt hk
              have X := Begin_ts s
              rw [show begN t16 = 0 from by decide +kernel, show begE t16 = 5 from by decide +kernel, show begT t16 = t16 from by unfold begT; rw [if_pos (by decide +kernel)]] at X
              have HX := Lib.hid X
              clear X s
              go_wp2_with fail
              refine HX.out.mono ?_
              clear HX
              rintro e w31 ⟨rfl, s⟩
              have HX := Lib.hid (Open_ts s)
              go_wp2_with fail
              refine HX.out.mono ?_
              clear HX
              rintro e w32 ⟨v, rfl, ho, hb⟩
              have s := s.below hb
              clear hb
              rw [show t16.opn.length = 16 from by decide +kernel] at ho
              obtain ⟨Al, cl, rfl, _, _⟩ := own_form ho
              have X := Next_ts s
              rw [show t16.next = 17 from by decide +kernel] at X
              have HX := Lib.hid X
              clear X
              go_wp2_with fail
              refine HX.out.mono ?_
              clear HX
              rintro e w' ⟨rfl, rfl⟩
              have X := Commit_ts 3 s (by omega) (by omega) (by decide +kernel) (by decide +kernel)
              rw [show askT t16 3 = 0 from by decide +kernel, show comT t16 3 = t17 from rfl] at X
              have HX := Lib.hid X
              clear X s
              go_wp2_with fail
              refine HX.out.mono ?_
              clear HX
              rintro e w33 ⟨rfl, s⟩
              have X := Commit_ts 3 s (by omega) (by omega) (by decide +kernel) (by decide +kernel)
              rw [show askT t17 3 = 9 from by decide +kernel, show comT t17 3 = t17 from by unfold comT; rw [if_pos (by decide +kernel)]] at X
              have HX := Lib.hid X
              clear X s
              go_wp2_with fail
              refine HX.out.mono ?_
              clear HX
              rintro e w34 ⟨rfl, s⟩
              have X := Abort_ts 17 s (by omega) (by omega)
              rw [show askT t17 17 = 9 from by decide +kernel, show aboT t17 17 = t17 from by unfold aboT; rw [if_pos (by decide +kernel)]] at X
              have HX := Lib.hid X
              clear X s
              go_wp2_with fail
              refine HX.out.mono ?_
              clear HX
              rintro e w35 ⟨rfl, s⟩
              have X := Kill_ts 0 s (by omega) (by omega)
              rw [show kilE t17 0 = 9 from by decide +kernel, show kilT t17 0 = t17 from by unfold kilT; rw [if_pos (by decide +kernel)]] at X
              have HX := Lib.hid X
              clear X s
              go_wp2_with fail
              refine HX.out.mono ?_
              clear HX
              rintro e w36 ⟨rfl, s⟩
              have X := ToAll_ts 3 s (by omega) (by omega)
              rw [show toAllB t17 3 = false from by decide +kernel] at X
              have HX := Lib.hid X
              clear X s
              go_wp2_with fail
              refine HX.out.mono ?_
              clear HX
              rintro e w37 ⟨rfl, s⟩
              have X := Visible_ts 3 3 s (by omega) (by omega) (by omega) (by omega)
              rw [show visB t17 3 3 = false from by decide +kernel] at X
              have HX := Lib.hid X
              clear X s
              go_wp2_with fail
              refine HX.out.mono ?_
              clear HX
              rintro e w38 ⟨rfl, s⟩
              have X := Conflict_ts 3 1 s (by omega) (by omega) (by omega) (by omega)
              rw [show confE t17 3 1 = 9 from by decide +kernel] at X
              have HX := Lib.hid X
              clear X s
              go_wp2_with fail
              refine HX.out.mono ?_
              clear HX
              rintro e w39 ⟨rfl, s⟩
              rw [show t17 = ta 0 from rfl] at s
              go_wp2_with fail
              go_loopw [34] (fun i wr => ∃ k : Nat, k ≤ 13 ∧ i = .int .i64 ((k + 4 : Nat) : Int) ∧ TSt w wr g3 (ta k)) (fun i _ => 17 - (intOf i).toNat)
              case atStart => exact ⟨0, by omega, rfl, s⟩
              case round =>
                clear s
                obtain ⟨k, hk, rfl, s⟩ := hrel
                by_cases hlt : k < 13
                · have X := Abort_ts ((k : Int) + 4) s (by omega) (by omega)
                  rw [ta_ok k hlt, show aboT (ta k) ((k : Int) + 4) = ta (k + 1) from rfl, show (k : Int) + 4 = ((k + 4 : Nat) : Int) by omega] at X
                  have HX := Lib.hid X
                  clear X s
                  obtain ⟨q, hq⟩ : ∃ q, q = k + 4 := ⟨_, rfl⟩
                  rw [← hq] at HX ⊢
                  have HQ := Lib.hid hq
                  have hq2 : q ≤ 16 := by omega
                  have t1 : decide ((q : Int) ≤ 16) = true := by simp; omega
                  clear hq hlt
                  go_wp2_with fail
                  refine HX.out.mono ?_
                  rintro e w45 ⟨rfl, s⟩
                  go_wp2_with fail
                  go_roundw
                  case rel => exact ⟨k + 1, by have := HQ.out; omega, by rw [HQ.out]; go_num, s⟩
                  case measure => simp [intOf]; omega
                · obtain rfl : k = 13 := by omega
                  rw [show ta 13 = t30 from rfl] at s
                  clear hlt hk
                  have X := Abort_ts 1 s (by omega) (by omega)
                  rw [show askT t30 1 = 0 from by decide +kernel, show aboT t30 1 = t31 from rfl] at X
                  have HX := Lib.hid X
                  clear X s
                  go_wp2_with fail
                  refine HX.out.mono ?_
                  clear HX
                  rintro e w51 ⟨rfl, s⟩
                  have X := ToAll_ts 3 s (by omega) (by omega)
                  rw [show toAllB t31 3 = false from by decide +kernel] at X
                  have HX := Lib.hid X
                  clear X s
                  go_wp2_with fail
                  refine HX.out.mono ?_
                  clear HX
                  rintro e w52 ⟨rfl, s⟩
                  have X := Kill_ts 2 s (by omega) (by omega)
                  rw [show kilE t31 2 = 0 from by decide +kernel, show kilT t31 2 = t32 from t31_kil] at X
                  have HX := Lib.hid X
                  clear X s
                  go_wp2_with fail
                  refine HX.out.mono ?_
                  clear HX
                  rintro e w53 ⟨rfl, s⟩
                  have X := ToAll_ts 3 s (by omega) (by omega)
                  rw [show toAllB t32 3 = true from by decide +kernel] at X
                  have HX := Lib.hid X
                  clear X s
                  go_wp2_with fail
                  refine HX.out.mono ?_
                  clear HX
                  rintro e w54 ⟨rfl, s⟩
                  have X := ToAll_ts 4 s (by omega) (by omega)
                  rw [show toAllB t32 4 = false from by decide +kernel] at X
                  have HX := Lib.hid X
                  clear X s
                  go_wp2_with fail
                  refine HX.out.mono ?_
                  clear HX
                  rintro e w55 ⟨rfl, s⟩
                  have X := ToAll_ts 2 s (by omega) (by omega)
                  rw [show toAllB t32 2 = false from by decide +kernel] at X
                  have HX := Lib.hid X
                  clear X s
                  go_wp2_with fail
                  refine HX.out.mono ?_
                  clear HX
                  rintro e w56 ⟨rfl, s⟩
                  have HX := Lib.hid (Dead_ts s)
                  go_wp2_with fail
                  refine HX.out.mono ?_
                  clear HX
                  rintro e w57 ⟨v, rfl, ho, hb⟩
                  have s := s.below hb
                  clear hb
                  rw [show t32.dead = [2] from rfl, show ([2] : List Int).length = 1 from rfl] at ho
                  obtain ⟨Al, cl, rfl, _, _⟩ := own_form ho
                  have hbk := gr_alloc (gr_refl w57) (.cells #[.int .i64 2] 3)
                  have X := SameInts_any Al (some ⟨w57.heap.size, 0, none⟩) 1 1 cl 1 [2] [2] (w57.alloc (.cells #[.int .i64 2] 3)) (IR.below (own_rd ho) hbk) (IR.litAt w57 _ [2] #[.int .i64 2] _ 1 rfl rfl rfl) (by omega) (by omega)
                  rw [show (([2] : List Int) == [2]) = true from rfl] at X
                  have HX := Lib.hid X
                  clear X ho
                  go_wp2_with fail
                  refine HX.out.mono ?_
                  clear HX
                  rintro e w58 ⟨rfl, hb⟩
                  have s := s.below (gr_trans hbk hb)
                  clear hb hbk
                  have HX := Lib.hid (Bury_ts s (by rw [show t32.dead = [2] from rfl]; decide))
                  go_wp2_with fail
                  refine HX.out.mono ?_
                  clear HX
                  clear s
                  rintro e w59 ⟨v, rfl, ho, s⟩
                  rw [show t32.dead = [2] from rfl, show ([2] : List Int).length = 1 from rfl] at ho
                  obtain ⟨Al, cl, rfl, _, _⟩ := own_form ho
                  have hbk := gr_alloc (gr_refl w59) (.cells #[.int .i64 2] 3)
                  have X := SameInts_any Al (some ⟨w59.heap.size, 0, none⟩) 1 1 cl 1 [2] [2] (w59.alloc (.cells #[.int .i64 2] 3)) (IR.below (own_rd ho) hbk) (IR.litAt w59 _ [2] #[.int .i64 2] _ 1 rfl rfl rfl) (by omega) (by omega)
                  rw [show (([2] : List Int) == [2]) = true from rfl] at X
                  have HX := Lib.hid X
                  clear X ho
                  go_wp2_with fail
                  refine HX.out.mono ?_
                  clear HX
                  rintro e w60 ⟨rfl, hb⟩
                  have s := s.below (gr_trans hbk hb)
                  clear hb hbk
                  rw [show burT t32 = t33 from rfl] at s
                  have HX := Lib.hid (Dead_ts s)
                  go_wp2_with fail
                  refine HX.out.mono ?_
                  clear HX
                  rintro e w61 ⟨v, rfl, ho, hb⟩
                  have s := s.below hb
                  clear hb
                  rw [show t33.dead.length = 0 from by decide +kernel] at ho
                  obtain ⟨Al, cl, rfl, _, _⟩ := own_form ho
                  have hb00 := s.1
                  clear s ho
                  go_wp2_with fail
                  go_loopw [36, 37] (fun v i wr => ∃ q : Nat, 1 ≤ q ∧ q ≤ 65 ∧ i = .int .i64 q ∧ OR wr w.heap.size 3 v (q - 1) ((upTo (q - 1)).map (Value.int .i64)) ∧ Below w.heap.size w wr) (fun _ i _ => 65 - (intOf i).toNat)
                  case atStart => exact ⟨1, by omega, by omega, rfl, OR.nil_ _ _ _, hb00⟩
                  case round =>
                    clear hb00
                    obtain ⟨q, hq1, hq2, rfl, ho, hb⟩ := hrel
                    obtain ⟨Av, cv, rfl, _, _⟩ := ho.form
                    by_cases hlt : q < 65
                    · have t1 : decide ((q : Int) ≤ 64) = true := by simp; omega
                      have HUP : Hid ((upTo (q + 1 - 1)).map (Value.int .i64) = (upTo (q - 1)).map (Value.int .i64) ++ [.int .i64 (q : Int)]) := Lib.hid (by
                        obtain ⟨j, rfl⟩ : ∃ j, q = j + 1 := ⟨q - 1, by omega⟩
                        rw [Nat.add_sub_cancel, Nat.add_sub_cancel, upTo_snoc]
                        simp)
                      have HOA := Lib.hid ho
                      have HBB := Lib.hid hb
                      have hsz9 := hb.size
                      clear ho hb
                      generalize hn1 : q - 1 = n1 at *
                      have HN1 := Lib.hid hn1
                      have hn2 : n1 ≤ 65 := by omega
                      clear hn1
                      generalize (upTo n1).map (Value.int .i64) = ys at *
                      go_wp2_with (at_builtin; refine wpList_append_OR _ rfl (.tmp 291) (.tmp 293) _ rfl w.heap.size 3 i0 _ 8 Try.underlying22 hi0 hz0 hz1 hz2 rfl (.slice Av n1 cv) n1 _ rfl (HOA.out.alloc _) ⟨wr.heap.size, 0, none⟩ 1 1 [.int .i64 q] rfl rfl (World.news_of_block (heap_alloc_new wr _)) (by simp [Value.oneCell']) (by omega) (by simp only [maxLen]; omega) (by omega) (by rw [World.size_alloc]; omega) ?_; intro v4 w10 ho10 hg10 hv10)
                      go_roundw
                      case rel => exact ⟨q + 1, by omega, by omega, by go_num, by rw [HUP.out, show q + 1 - 1 = n1 + 1 by (have := HN1.out; omega)]; exact ho10, OR.gr (gr_alloc HBB.out _) (HOA.out.alloc _) hg10⟩
                      case measure => simp [intOf]; omega
                    · have t1 : decide ((q : Int) ≤ 64) = false := by simp; omega
                      obtain rfl : q = 65 := by omega
                      have ha : IR wr Av 64 (upTo 64) := ho.rd
                      clear ho t1 hlt hq1 hq2
                      go_wp2_with fail
                      refine (New_ts (w0 := w) (w := wr) 100 Av 64 cv (upTo 64) hb ha (by omega) (by omega) (by omega) (rise_upTo 64 100 (by omega))).mono ?_
                      rw [show newT 100 (upTo 64) = ub0 from rfl]
                      clear hb ha
                      rintro e w70 ⟨g4, rfl, s⟩
                      have X := Begin_ts s
                      rw [show begN ub0 = 100 from by decide +kernel, show begE ub0 = 0 from by decide +kernel, show begT ub0 = ub1 from rfl] at X
                      have HX := Lib.hid X
                      clear X s
                      go_wp2_with fail
                      refine HX.out.mono ?_
                      clear HX
                      rintro e w71 ⟨rfl, s⟩
                      have X := Kill_ts 100 s (by omega) (by omega)
                      rw [show kilE ub1 100 = 5 from by decide +kernel, show kilT ub1 100 = ub1 from by unfold kilT; rw [if_pos (by decide +kernel)]] at X
                      have HX := Lib.hid X
                      clear X s
                      go_wp2_with fail
                      refine HX.out.mono ?_
                      clear HX
                      rintro e w72 ⟨rfl, s⟩
                      have X := IsOpen_ts 100 s (by omega) (by omega)
                      rw [show isO ub1 100 = true from by decide +kernel] at X
                      have HX := Lib.hid X
                      clear X s
                      go_wp2_with fail
                      refine HX.out.mono ?_
                      clear HX
                      rintro e w73 ⟨rfl, s⟩
                      have HX := Lib.hid (Bury_ts s (by rw [show ub1.dead = upTo 64 from rfl]; decide +kernel))
                      go_wp2_with fail
                      refine HX.out.mono ?_
                      clear HX
                      clear s
                      rintro e w74 ⟨v, rfl, ho, s⟩
                      rw [show ub1.dead.length = 64 from by decide +kernel] at ho
                      obtain ⟨Al, cl, rfl, _, _⟩ := own_form ho
                      rw [show burT ub1 = ub2 from rfl] at s
                      have X := Kill_ts 100 s (by omega) (by omega)
                      rw [show kilE ub2 100 = 0 from by decide +kernel, show kilT ub2 100 = ub3 from ub2_kil] at X
                      have HX := Lib.hid X
                      clear X s
                      go_wp2_with fail
                      refine HX.out.mono ?_
                      clear HX
                      rintro e w75 ⟨rfl, s⟩
                      have X := Visible_ts 100 1 s (by omega) (by omega) (by omega) (by omega)
                      rw [show visB ub3 100 1 = false from by decide +kernel] at X
                      have HX := Lib.hid X
                      clear X s
                      go_wp2_with fail
                      refine HX.out.mono ?_
                      clear HX
                      rintro e w76 ⟨rfl, s⟩
                      go_wp2_with fail
                      refine (awake14_any _).mono ?_
                      rintro e w99 ⟨rfl, hb⟩
                      go_wp2_with fail
                      go_ret
                      exact ⟨rfl, gr_trans s.1 hb⟩

end Go.Proofs.Ytjopobkcijkpmaa
