/-
  chancerylaw08.at, chancerylaw08.awake.
-/
import Derived.Test.YthpjjoahffagcaaDfE
namespace Go.Proofs.Ythpjjoahffagcaa
open Go.RowKit

/-- A page of noughts, but for ones at some places. -/
def atL (pl : List Int) : List UInt8 := pl.foldl (fun l p => l.set p.toNat 1) (List.replicate 4080 0)

theorem atL_snoc (pl : List Int) (p : Int) : atL (pl ++ [p]) = (atL pl).set p.toNat 1 := by unfold atL; rw [List.foldl_append]; rfl
theorem atF_len (pl : List Int) (l : List UInt8) : (pl.foldl (fun l p => l.set p.toNat 1) l).length = l.length := by
  induction pl generalizing l with
  | nil => rfl
  | cons p pl ih => rw [List.foldl_cons, ih, List.length_set]
theorem atL_len (pl : List Int) : (atL pl).length = 4080 := by
  unfold atL
  rw [atF_len, List.length_replicate]
theorem atF_get (pl : List Int) (hp : ∀ p ∈ pl, 0 ≤ p) (l : List UInt8) (i : Nat) (hi : i < l.length) : (pl.foldl (fun l p => l.set p.toNat 1) l).getD i 0 = if (i : Int) ∈ pl then 1 else l.getD i 0 := by
  induction pl generalizing l with
  | nil => simp
  | cons p pl ih =>
    have h0 := hp p (List.mem_cons_self ..)
    rw [List.foldl_cons, ih (fun q hq => hp q (List.mem_cons_of_mem _ hq)) _ (by rw [List.length_set]; exact hi)]
    by_cases h1 : (i : Int) ∈ pl
    · rw [if_pos h1, if_pos (List.mem_cons_of_mem _ h1)]
    · rw [if_neg h1]
      by_cases h2 : (i : Int) = p
      · rw [if_pos (h2 ▸ List.mem_cons_self ..)]
        have : p.toNat = i := by omega
        rw [this]
        simp [List.getD, hi]
      · rw [if_neg (fun h => (List.mem_cons.1 h).elim h2 h1)]
        have : p.toNat ≠ i := by omega
        simp [List.getD, List.getElem?_set_ne this]
theorem atL_get (pl : List Int) (hp : ∀ p ∈ pl, 0 ≤ p) (i : Nat) (hi : i < 4080) : (atL pl).getD i 0 = if (i : Int) ∈ pl then 1 else 0 := by
  unfold atL
  rw [atF_get pl hp _ i (by rw [List.length_replicate]; exact hi), List.getD, List.getElem?_replicate, if_pos hi]
  rfl
/-- Where two such pages are unlike. -/
theorem unl_at (pl ql : List Int) (hp : ∀ p ∈ pl, 0 ≤ p) (hq : ∀ p ∈ ql, 0 ≤ p) : unlTo (atL pl) (atL ql) 4080 = (List.range 4080).filter fun i : Nat => (pl.contains (i : Int)) != (ql.contains (i : Int)) := by
  unfold unlTo
  refine List.filter_congr fun i hi => ?_
  rw [atL_get pl hp i (List.mem_range.1 hi), atL_get ql hq i (List.mem_range.1 hi)]
  by_cases h1 : (i : Int) ∈ pl <;> by_cases h2 : (i : Int) ∈ ql <;> simp [h1, h2]
theorem diffL_of {a b : List UInt8} {xs : List Nat} (h : unlTo a b 4080 = xs) : diffL a b = dput b (xs.foldl (dstep b) ([], 0, 0)).1 (xs.foldl (dstep b) ([], 0, 0)).2.1 (xs.foldl (dstep b) ([], 0, 0)).2.2 := by
  unfold diffL dst
  rw [h, List.take_length]

set_option maxHeartbeats 400000 in
theorem at_any (A : Option Addr) (n c : Nat) (pl : List Int) (w : World) (ha : IR w A n pl) (hn : n ≤ 9223372036854775807) (hp : ∀ p ∈ pl, 0 ≤ p ∧ p < 4080) :
    Calls Try.prog 10 #[.slice A n c] w fun e w' => e = .returned (.slice (some ⟨w.heap.size, 0, none⟩) 4080 4080) ∧ BB w' w.heap.size (atL pl) ∧ Below w.heap.size w w' := by
  have mk := run_mk_bytes 4080 (by omega) 4080 rfl
  have HP := Lib.hid hp
  have HL := Lib.hid ha.len
  clear hp
  go_enter Try.func10, Try.ntmps10
  go_wp2
  go_loopw [4] (fun i wr => ∃ (k : Nat) (l : List UInt8), k ≤ n ∧ i = .int .i64 k ∧ Hid (l = atL (pl.take k)) ∧ BB wr w.heap.size l ∧ Below w.heap.size w wr) (fun i _ => n - (intOf i).toNat)
  case atStart => exact ⟨0, _, Nat.zero_le _, rfl, Lib.hid rfl, BB.zero w 4080, gr_alloc (gr_refl _) _⟩
  case round =>
    obtain ⟨k, l, hk, rfl, HA, hB, hb⟩ := hrel
    by_cases hlt : k < n
    · obtain ⟨g, o, rfl, c1⟩ := (ha.below hb).at_ (k := k) hlt
      have hkl : k < pl.length := by rw [HL.out]; exact hlt
      have hmem : pl.getD k 0 ∈ pl := by
        have : pl[k] = pl.getD k 0 := by simp [List.getD, List.getElem?_eq_getElem hkl]
        rw [← this]
        exact List.getElem_mem _
      obtain ⟨h1, h2⟩ := HP.out _ hmem
      have HS := Lib.hid (show pl.take (k + 1) = pl.take k ++ [pl.getD k 0] by rw [List.take_succ_eq_append_getElem hkl]; simp [List.getD, List.getElem?_eq_getElem hkl])
      generalize pl.getD k 0 = p at *
      obtain ⟨q, rfl⟩ := Int.eq_ofNat_of_zero_le h1
      have hll : l.length = 4080 := by rw [HA.out]; exact atL_len _
      have c2 := hB.cell (j := q) (by omega)
      have z2 := hB.frozen q
      have HB := Lib.hid (hB.setInt q 1 (by omega) (by omega))
      clear hmem hll hB
      go_wp2_with fail
      go_roundw
      case rel => exact ⟨k + 1, _, by omega, by go_num, Lib.hid (by rw [HS.out, atL_snoc, ← HA.out]; rfl), HB.out, hb.setCell (p := ⟨w.heap.size, q, none⟩) (Nat.le_refl _) _⟩
      case measure => simp [intOf]; omega
    · obtain rfl : k = n := by omega
      go_wp2_with fail
      go_ret
      refine ⟨rfl, ?_, hb⟩
      have := HA.out
      rw [List.take_of_length_le (Nat.le_of_eq HL.out)] at this
      rw [← this]
      exact hB

theorem PR.lit1 (w : World) (a : Int) (u : Value) (l : List UInt8) (t : TypeId) (hv : VB w u l) (g : Nat) (hg : w.heap.size = g) : PR (w.alloc (.cells #[.int .i64 a, u] t)) (some ⟨g, 0, none⟩) 1 [(a, l)] := by
  subst hg
  refine ⟨[(a, u)], rd_two w _ _ t, rfl, fun i p q hp hq => ?_⟩
  match i, hp, hq with
  | 0, hp, hq =>
    simp only [List.getElem?_cons_zero, Option.some.injEq] at hp hq
    subst hp hq
    exact ⟨rfl, hv.below (gr_alloc (gr_refl w) _)⟩
  | i + 1, hp, hq => simp at hp

theorem diff_awake : ∃ l : List UInt8, diffL (atL []) (atL [3, 11]) = [(3, l)] ∧ l.length = 9 := by
  have h : unlTo (atL []) (atL [3, 11]) 4080 = [3, 11] := by
    rw [unl_at [] [3, 11] (by simp) (by simp)]
    decide +kernel
  rw [diffL_of h]
  refine ⟨((atL [3, 11]).drop 3).take 9, by simp [dstep, dput], ?_⟩
  rw [List.length_take, List.length_drop, atL_len]
  rfl

theorem apply_awake : ∃ m : List UInt8, applyL (atL []) [(4079, [7])] = some m ∧ m.length = 4080 ∧ m.getD 4079 0 = 7 := by
  refine ⟨splice (atL []) 4079 [7], ?_, ?_, ?_⟩
  · unfold applyL
    rw [if_pos (by unfold pcOk; decide)]
    rfl
  · rw [length_splice _ _ _ (by rw [atL_len]; decide), atL_len]
  · rw [List.getD, splice_get _ _ _ _ (by rw [atL_len]; decide), if_neg (by decide), if_pos (by decide)]
    rfl

set_option maxRecDepth 100000 in
set_option maxHeartbeats 1000000 in
theorem awake08_any (w : World) : Calls Try.prog 13 #[] w fun e w' => e = .returned (.bool true) ∧ Below w.heap.size w w' := by
  go_enter Try.func13, Try.ntmps13
  go_wp2_with fail
  refine (at_any none 0 0 [] w (IR.none_ _ _) (by omega) (by simp)).mono ?_
  rintro e w1 ⟨rfl, hB1, hb1⟩
  go_wp2_with fail
  have hi : IR (w1.alloc (.cells #[.int .i64 3, .int .i64 11] 3)) (some ⟨w1.heap.size, 0, none⟩) 2 [3, 11] := IR.litAt w1 _ _ _ _ _ rfl rfl rfl
  refine (at_any _ 2 2 [3, 11] _ hi (by omega) (by simp)).mono ?_
  rintro e w2 ⟨rfl, hB2, hb2⟩
  have hb2' : Below w1.heap.size w1 w2 := gr_trans (gr_alloc (gr_refl w1) _) hb2
  have ha1 := (hB1.kept hb2').readsAll
  have ha2 := hB2.readsAll
  rw [atL_len] at ha1 ha2
  have hbw := gr_trans hb1 hb2'
  clear hi hB1 hB2 hb1 hb2 hb2'
  generalize (w1.alloc (.cells #[.int .i64 3, .int .i64 11] 3)).heap.size = g2 at *
  go_wp2_with fail
  refine (Diff_any _ _ _ _ _ _ _ ha1 ha2 (by omega)).mono ?_
  rintro e w3 ⟨v3, rfl, ho3, hb3⟩
  obtain ⟨l3, hd3, hl3⟩ := diff_awake
  rw [hd3] at ho3
  have HL3 := Lib.hid hl3
  have hbw3 := gr_trans hbw hb3
  clear ha1 ha2 hd3 hl3 hbw hb3
  obtain ⟨A3, c3, rfl, hp3, hc3, hm3⟩ := ho3.form (n := 1) rfl
  clear ho3
  go_wp2_with fail
  refine (at_any none 0 0 [] w3 (IR.none_ _ _) (by omega) (by simp)).mono ?_
  rintro e w4 ⟨rfl, hB4, hb4⟩
  have hp4 := hp3.below hb4
  have hbw4 := gr_trans hbw3 hb4
  clear hp3 hbw3 hb4
  go_wp2_with fail
  have hv7 : VB (w4.alloc (.cells #[.int .u8 7] 5)) (.slice (some ⟨w4.heap.size, 0, none⟩) 1 1) [7] := ⟨_, _, rfl, BR.litAt w4 _ [7] _ _ _ rfl rfl rfl, Nat.le_refl _, by simp [maxLen]⟩
  have hpl := PR.lit1 (w4.alloc (.cells #[.int .u8 7] 5)) 4079 _ _ 29 hv7 _ rfl
  have hb5 : Below w4.heap.size w4 ((w4.alloc (.cells #[.int .u8 7] 5)).alloc (.cells #[.int .i64 4079, .slice (some ⟨w4.heap.size, 0, none⟩) 1 1] 29)) := gr_alloc (gr_alloc (gr_refl w4) _) _
  have ha5 := (hB4.kept hb5).readsAll
  rw [atL_len] at ha5
  rw [World.size_alloc] at hpl
  have hp5 := hp4.below hb5
  have hbw5 := gr_trans hbw4 hb5
  refine (Apply_any _ _ _ 1 1 _ _ _ ha5 hpl (by omega) (by simp)).mono ?_
  rintro e w6 ⟨hb6, hap⟩
  obtain ⟨m, hm1, hm2, hm7⟩ := apply_awake
  rw [hm1] at hap
  obtain ⟨v6, rfl, ho6⟩ := hap
  have hp6 := hp5.below hb6
  have hbw6 := gr_trans hbw5 hb6
  obtain ⟨g6, cap6, rfl, hc6, hcm6, -⟩ := ob_some ho6 hm2 (by omega)
  have k6 := ho6.cell hm2 (j := 4079) (by omega)
  rw [hm7] at k6
  have k6' : w6.cell? ⟨g6, 4079, none⟩ = some (.int .u8 7) := k6
  obtain ⟨gp, op, Bp, cp, rfl, q1, q2, q3, q4, q5⟩ := hp6.at_ (i := 0) (by omega)
  have q1' : w6.cell? ⟨gp, op, none⟩ = some (.int .i64 3) := q1
  have q2' : w6.cell? ⟨gp, op + 1, none⟩ = some (.slice Bp 9 cp) := by rw [← HL3.out]; exact q2
  clear k6 q1 q2 q3 q4 q5 hp4 hp5 hp6 ho6 hm1 hm2 hm7 ha5 hB4 hpl hv7 hb5 hbw4 hbw5 hb6
  go_wp2_with fail
  go_ret
  exact ⟨rfl, hbw6⟩

end Go.Proofs.Ythpjjoahffagcaa
