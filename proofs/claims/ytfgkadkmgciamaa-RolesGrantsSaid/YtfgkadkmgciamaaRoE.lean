/-
  slices.Grow at nil, slices.Concat of two lists: members, grants.
-/
import Derived.Test.YtfgkadkmgciamaaRoD
import Derived.Test.YtfgkadkmgciamaaRgm
import Derived.Lib.AppendZerosOnto
namespace Go.Proofs.Ytfgkadkmgciamaa
open Go Go.RowKit

/-- Room made where nothing stood. -/
theorem run_room (w : World) (t e : TypeId) (ty : TypeId) (i : TypeInfo) (z : Value) (size bytes : Nat) (ht : Try.prog.underlying t = some (.slice e)) (hi : Try.prog.info? e = some i) (hz : i.zero = some z) (hzs : z.cells.size = size) (hsz : i.size = size) (hby : i.bytes = bytes) (h0 : 0 < size) (k : Nat) (hk : 0 < k) (hfit : (k + k / 4 + 256) * bytes ≤ 281474976710656) (hm : k ≤ maxLen) (x : Int) (hx : x = k) :
    ∃ cap w', (Builtin.append_ #[t, 3] ty #[.slice none 0 0, .int .i64 x]).run Try.prog w = .ok (.slice (some ⟨w.heap.size, 0, none⟩) k cap) w' ∧ k ≤ cap ∧ cap ≤ maxLen ∧ w'.ownsRow w.heap.size e size (.slice (some ⟨w.heap.size, 0, none⟩) 0 cap) 0 [] ∧ Below w.heap.size w w' := by
  subst hx
  have hfirst : (Builtin.firstCells i.size 0 (.slice none 0 0)).run Try.prog w.drew = .ok ([] : List Value).toArray w.drew := by simp [Builtin.firstCells]
  have hq := nextslicecap_quarter (need := 0 + k) (old := 0) (by omega)
  have hcap : Builtin.nextslicecap (0 + k) 0 * i.bytes ≤ 281474976710656 := by
    rw [hby]
    refine Nat.le_trans (Nat.mul_le_mul_right _ hq) ?_
    simpa using hfit
  have hr := Lib.run_append_grow_zeros (P := Try.prog) w t 3 ty e i z .i64 .i64 ht Try.underlying3 hi hz none 0 0 [] hfirst k hk (by omega) (by omega) (by simp only [maxLen] at hm; omega) (by rw [hby]; refine Nat.le_trans (Nat.mul_le_mul_right _ (show k ≤ k + k / 4 + 256 by omega)) hfit) hcap
  have hge := grownCap_ge w (0 + k) 0 e
  have hcm2 : grownCap w (0 + k) 0 e ≤ maxLen := grownCap_le_maxLen w _ _ _ (by omega)
  rw [Nat.zero_add] at hr hge hcm2
  refine ⟨_, _, hr, hge, hcm2, ⟨by simp, .inr ⟨w.heap.size, _, _, rfl, Nat.le_refl _, heap_alloc_new w.drew _, Nat.zero_le _, hcm2, ?_, ?_⟩⟩, ?_⟩
  · have h1 : ∀ c : Nat, k ≤ c → 0 + size * k + size * (c - k) = c * size := fun c hc => by
      rw [Nat.zero_add, ← Nat.mul_add, Nat.add_sub_of_le hc, Nat.mul_comm]
    have h2 := h1 _ hge
    simp only [Array.size_append, List.size_toArray, List.length_nil, size_zeroCells, hzs]
    first | exact h2 | (rw [Nat.mul_comm k, Nat.mul_comm (_ - k)]; exact h2)
  · simp
  · exact bel_drew (gr_alloc (gr_refl w.drew) _)

theorem flat_one {α : Type} {enc : α → List Value} (h1 : ∀ x, ∀ u ∈ enc x, u.oneCell' = true) (l : List α) : ∀ u ∈ l.flatMap enc, u.oneCell' = true := by
  intro u hu
  obtain ⟨x, _, hx⟩ := List.mem_flatMap.1 hu
  exact h1 x u hx
theorem EO.plus {α : Type} {enc : α → List Value} {k : Nat} {T : TypeId} {w : World} {base : Nat} {v : Value} {a b : List α} {n m : Nat} (h : w.ownsRow base T k v (n + m) (a.flatMap enc ++ b.flatMap enc)) (hn : a.length = n) (hm : b.length = m) : EO enc k T w base v (a ++ b) := by
  unfold EO
  rw [List.length_append, hn, hm, List.flatMap_append]
  exact h

set_option maxRecDepth 100000 in
set_option maxHeartbeats 1000000 in
theorem GrowMb_zero (w : World) : Calls Try.prog 58 #[.slice none 0 0, .int .i64 0] w fun e w' => e = .returned (.slice none 0 0) ∧ w = w' := by
  go_enter Try.func58, Try.ntmps58
  go_wp2_with fail
  go_ret
  exact ⟨rfl, rfl⟩
set_option maxRecDepth 100000 in
set_option maxHeartbeats 1000000 in
theorem GrowMb_any (k : Nat) (w : World) (h0 : 0 < k) (hk : k ≤ 6000000000000) : Calls Try.prog 58 #[.slice none 0 0, .int .i64 (k : Int)] w fun e w' => ∃ v, e = .returned v ∧ EO EM 2 52 w' w.heap.size v [] ∧ Below w.heap.size w w' := by
  obtain ⟨i0, z, hi0, hz0, hzs, hz1, hz2⟩ := info_Mb'
  have t1 : decide ((k : Int) < 0) = false := decide_eq_false (by omega)
  have t2 : decide (0 < (k : Int)) = true := decide_eq_true (by omega)
  have t3 : decide (0 < k) = true := decide_eq_true h0
  have hmx : k ≤ maxLen := by simp only [maxLen]; omega
  have hcut0 := fun W => run_cut_h (P := Try.prog) W 50 52 i0 Try.underlying50 hi0 2 hz1 none 0 0 0 0 rfl (Nat.le_refl _)
  have hcut := fun (W : World) (g cap : Nat) => run_cut_h (P := Try.prog) W 50 52 i0 Try.underlying50 hi0 2 hz1 (some ⟨g, 0, none⟩) k cap 0 0 rfl (Nat.zero_le _)
  go_enter Try.func58, Try.ntmps58
  go_wp2_with (at_builtin; obtain ⟨cap, w3, hr3, hc1, hc2, ho3, hb3⟩ := run_room w 50 52 50 i0 z 2 32 Try.underlying50 hi0 hz0 hzs hz1 hz2 (by decide) k h0 (by omega) hmx (k : Int) rfl; refine Lib.wpList_append_run _ rfl (.tmp 20) (.tmp 21) _ _ rfl _ _ rfl rfl _ _ hr3 ?_; clear hr3)
  go_ret
  exact ⟨_, rfl, ho3, hb3⟩

set_option maxRecDepth 100000 in
set_option maxHeartbeats 1000000 in
theorem GrowGr_zero (w : World) : Calls Try.prog 55 #[.slice none 0 0, .int .i64 0] w fun e w' => e = .returned (.slice none 0 0) ∧ w = w' := by
  go_enter Try.func55, Try.ntmps55
  go_wp2_with fail
  go_ret
  exact ⟨rfl, rfl⟩
set_option maxRecDepth 100000 in
set_option maxHeartbeats 1000000 in
theorem GrowGr_any (k : Nat) (w : World) (h0 : 0 < k) (hk : k ≤ 3000000000000) : Calls Try.prog 55 #[.slice none 0 0, .int .i64 (k : Int)] w fun e w' => ∃ v, e = .returned v ∧ EO EG 5 30 w' w.heap.size v [] ∧ Below w.heap.size w w' := by
  obtain ⟨i0, z, hi0, hz0, hzs, hz1, hz2⟩ := info_Gr'
  have t1 : decide ((k : Int) < 0) = false := decide_eq_false (by omega)
  have t2 : decide (0 < (k : Int)) = true := decide_eq_true (by omega)
  have t3 : decide (0 < k) = true := decide_eq_true h0
  have hmx : k ≤ maxLen := by simp only [maxLen]; omega
  have hcut0 := fun W => run_cut_h (P := Try.prog) W 22 30 i0 Try.underlying22 hi0 5 hz1 none 0 0 0 0 rfl (Nat.le_refl _)
  have hcut := fun (W : World) (g cap : Nat) => run_cut_h (P := Try.prog) W 22 30 i0 Try.underlying22 hi0 5 hz1 (some ⟨g, 0, none⟩) k cap 0 0 rfl (Nat.zero_le _)
  go_enter Try.func55, Try.ntmps55
  go_wp2_with (at_builtin; obtain ⟨cap, w3, hr3, hc1, hc2, ho3, hb3⟩ := run_room w 22 30 22 i0 z 5 64 Try.underlying22 hi0 hz0 hzs hz1 hz2 (by decide) k h0 (by omega) hmx (k : Int) rfl; refine Lib.wpList_append_run _ rfl (.tmp 20) (.tmp 21) _ _ rfl _ _ rfl rfl _ _ hr3 ?_; clear hr3)
  go_ret
  exact ⟨_, rfl, ho3, hb3⟩

theorem GrowMb_both (k : Nat) (w : World) (hk : k ≤ 6000000000000) : Calls Try.prog 58 #[.slice none 0 0, .int .i64 (k : Int)] w fun e w' => ∃ v, e = .returned v ∧ EO EM 2 52 w' w.heap.size v [] ∧ Below w.heap.size w w' := by
  rcases Nat.eq_zero_or_pos k with rfl | h0
  · refine (GrowMb_zero w).mono ?_
    rintro e w' ⟨rfl, rfl⟩
    exact ⟨_, rfl, EO.nil _ _, gr_refl w⟩
  · exact GrowMb_any k w h0 hk
set_option maxRecDepth 100000 in
set_option maxHeartbeats 2000000 in
theorem ConcatMb_any (A B : Option Addr) (n m c d gg : Nat) (a b : List Mb) (w : World) (ha : ER EM 2 w A n a) (hb : ER EM 2 w B m b) (y0 : w.cell? ⟨gg, 0, none⟩ = some (.slice A n c)) (y1 : w.cell? ⟨gg, 1, none⟩ = some (.slice B m d)) (hnm : n + m ≤ 6000000000000) :
    Calls Try.prog 51 #[.slice (some ⟨gg, 0, none⟩) 2 2] w fun e w' => ∃ v, e = .returned v ∧ EO EM 2 52 w' w.heap.size v (a ++ b) ∧ Below w.heap.size w w' := by
  obtain ⟨i0, z, hi0, hz0, hzs, hz1, hz2⟩ := info_Mb'
  have HA := Lib.hid ha
  have HB0 := Lib.hid hb
  have HNA := Lib.hid ha.1
  have HNB := Lib.hid hb.1
  have HG := Lib.hid (GrowMb_both (n + m) w hnm)
  have hmx : n + m ≤ maxLen := by simp only [maxLen]; omega
  have YC0 := Lib.hid y0
  have YC1 := Lib.hid y1
  have e1 : ((n : Int) + (m : Int)) = ((n + m : Nat) : Int) := by omega
  have E1 := Lib.hid e1
  clear ha hb e1
  go_enter Try.func51, Try.ntmps51
  go_wp2_with fail
  go_loopw [3, 5, 11] (fun s _ i wr => ∃ (q : Int), ((q = 0 ∧ s = .int .i64 0) ∨ (q = 1 ∧ s = .int .i64 (n : Int)) ∨ (q = 2 ∧ s = .int .i64 ((n + m : Nat) : Int))) ∧ i = .int .i64 q ∧ w = wr) (fun _ _ i _ => 2 - (intOf i).toNat)
  case atStart => exact ⟨0, .inl ⟨rfl, rfl⟩, rfl, rfl⟩
  case round =>
    obtain ⟨q, hq, rfl, rfl⟩ := hrel
    rcases hq with ⟨rfl, rfl⟩ | ⟨rfl, rfl⟩ | ⟨rfl, rfl⟩
    · have t1 : decide ((n : Int) < 0) = false := decide_eq_false (by omega)
      go_wp2_with fail
      go_roundw
      case rel => exact ⟨1, .inr (.inl ⟨rfl, by go_num⟩), rfl, by trivial⟩
      case measure => simp [intOf]
    · have t1 : decide ((n : Int) + (m : Int) < 0) = false := decide_eq_false (by omega)
      go_wp2_with fail
      go_roundw
      case rel => exact ⟨2, .inr (.inr ⟨rfl, by rw [← E1.out]⟩), rfl, by trivial⟩
      case measure => simp [intOf]
    · clear y0 y1
      go_wp2_with fail
      refine HG.out.mono ?_
      rintro e w2 ⟨v0, rfl, ho0, hb0⟩
      have HO0 := Lib.hid ho0
      have HBB := Lib.hid hb0
      clear ho0 hb0 HG
      go_wp2_with fail
      go_loopw [6, 8, 27] (fun v _ i wr => ∃ (q : Int), ((q = 0 ∧ EO EM 2 52 wr w.heap.size v []) ∨ (q = 1 ∧ EO EM 2 52 wr w.heap.size v a) ∨ (q = 2 ∧ EO EM 2 52 wr w.heap.size v (a ++ b))) ∧ i = .int .i64 q ∧ Below w.heap.size w wr) (fun _ _ i _ => 2 - (intOf i).toNat)
      case atStart => exact ⟨0, .inl ⟨rfl, HO0.out⟩, rfl, HBB.out⟩
      case round =>
        obtain ⟨q, hq, rfl, hb⟩ := hrel
        rcases hq with ⟨rfl, ho⟩ | ⟨rfl, ho⟩ | ⟨rfl, ho⟩
        · have y0 := keep_of_below hb YC0.out
          have HR := Lib.hid ((HA.out.below hb).2)
          have HB := Lib.hid hb
          have HOW : Hid (wr.ownsRow w.heap.size 52 2 u6 (0) (([] : List Mb).flatMap EM)) := Lib.hid (by have := ho; unfold EO at this; first | exact this | (rw [HNA.out] at this; exact this))
          clear ho hb
          go_wp2_with (at_builtin; refine wpList_append_Rd _ rfl (.tmp 31) (.tmp 32) _ rfl w.heap.size 52 i0 _ 2 32 Try.underlying50 hi0 hz0 hz1 hz2 hzs u6 (0) _ rfl HOW.out A n c (a.flatMap EM) rfl HR.out (flat_one EM_one _) (by omega) (by omega) HB.out.size ?_; intro v4 w4 hown4 hg4 _ _; have hb4 : Below w.heap.size w w4 := HB.out.grown hg4 HB.out.size (fun j hj => (HOW.out.lt j hj).1))
          have HO4 := Lib.hid hown4
          have HB4 := Lib.hid hb4
          clear hown4 hg4 hb4 y0
          go_wp2_with fail
          go_roundw
          case rel => exact ⟨1, .inr (.inl ⟨rfl, EO.plus (a := []) HO4.out rfl HNA.out⟩), rfl, HB4.out⟩
          case measure => simp [intOf]
        · have y0 := keep_of_below hb YC1.out
          have HR := Lib.hid ((HB0.out.below hb).2)
          have HB := Lib.hid hb
          have HOW : Hid (wr.ownsRow w.heap.size 52 2 u6 (n) (a.flatMap EM)) := Lib.hid (by have := ho; unfold EO at this; first | exact this | (rw [HNA.out] at this; exact this))
          clear ho hb
          go_wp2_with (at_builtin; refine wpList_append_Rd _ rfl (.tmp 31) (.tmp 32) _ rfl w.heap.size 52 i0 _ 2 32 Try.underlying50 hi0 hz0 hz1 hz2 hzs u6 (n) _ rfl HOW.out B m d (b.flatMap EM) rfl HR.out (flat_one EM_one _) (by omega) (by omega) HB.out.size ?_; intro v4 w4 hown4 hg4 _ _; have hb4 : Below w.heap.size w w4 := HB.out.grown hg4 HB.out.size (fun j hj => (HOW.out.lt j hj).1))
          have HO4 := Lib.hid hown4
          have HB4 := Lib.hid hb4
          clear hown4 hg4 hb4 y0
          go_wp2_with fail
          go_roundw
          case rel => exact ⟨2, .inr (.inr ⟨rfl, EO.plus HO4.out HNA.out HNB.out⟩), rfl, HB4.out⟩
          case measure => simp [intOf]
        · have HO := Lib.hid ho
          have HB := Lib.hid hb
          clear ho hb
          go_wp2_with fail
          go_ret
          exact ⟨_, rfl, HO.out, HB.out⟩

theorem GrowGr_both (k : Nat) (w : World) (hk : k ≤ 3000000000000) : Calls Try.prog 55 #[.slice none 0 0, .int .i64 (k : Int)] w fun e w' => ∃ v, e = .returned v ∧ EO EG 5 30 w' w.heap.size v [] ∧ Below w.heap.size w w' := by
  rcases Nat.eq_zero_or_pos k with rfl | h0
  · refine (GrowGr_zero w).mono ?_
    rintro e w' ⟨rfl, rfl⟩
    exact ⟨_, rfl, EO.nil _ _, gr_refl w⟩
  · exact GrowGr_any k w h0 hk
set_option maxRecDepth 100000 in
set_option maxHeartbeats 2000000 in
theorem ConcatGr_any (A B : Option Addr) (n m c d gg : Nat) (a b : List Gr) (w : World) (ha : ER EG 5 w A n a) (hb : ER EG 5 w B m b) (y0 : w.cell? ⟨gg, 0, none⟩ = some (.slice A n c)) (y1 : w.cell? ⟨gg, 1, none⟩ = some (.slice B m d)) (hnm : n + m ≤ 3000000000000) :
    Calls Try.prog 37 #[.slice (some ⟨gg, 0, none⟩) 2 2] w fun e w' => ∃ v, e = .returned v ∧ EO EG 5 30 w' w.heap.size v (a ++ b) ∧ Below w.heap.size w w' := by
  obtain ⟨i0, z, hi0, hz0, hzs, hz1, hz2⟩ := info_Gr'
  have HA := Lib.hid ha
  have HB0 := Lib.hid hb
  have HNA := Lib.hid ha.1
  have HNB := Lib.hid hb.1
  have HG := Lib.hid (GrowGr_both (n + m) w hnm)
  have hmx : n + m ≤ maxLen := by simp only [maxLen]; omega
  have YC0 := Lib.hid y0
  have YC1 := Lib.hid y1
  have e1 : ((n : Int) + (m : Int)) = ((n + m : Nat) : Int) := by omega
  have E1 := Lib.hid e1
  clear ha hb e1
  go_enter Try.func37, Try.ntmps37
  go_wp2_with fail
  go_loopw [3, 5, 11] (fun s _ i wr => ∃ (q : Int), ((q = 0 ∧ s = .int .i64 0) ∨ (q = 1 ∧ s = .int .i64 (n : Int)) ∨ (q = 2 ∧ s = .int .i64 ((n + m : Nat) : Int))) ∧ i = .int .i64 q ∧ w = wr) (fun _ _ i _ => 2 - (intOf i).toNat)
  case atStart => exact ⟨0, .inl ⟨rfl, rfl⟩, rfl, rfl⟩
  case round =>
    obtain ⟨q, hq, rfl, rfl⟩ := hrel
    rcases hq with ⟨rfl, rfl⟩ | ⟨rfl, rfl⟩ | ⟨rfl, rfl⟩
    · have t1 : decide ((n : Int) < 0) = false := decide_eq_false (by omega)
      go_wp2_with fail
      go_roundw
      case rel => exact ⟨1, .inr (.inl ⟨rfl, by go_num⟩), rfl, by trivial⟩
      case measure => simp [intOf]
    · have t1 : decide ((n : Int) + (m : Int) < 0) = false := decide_eq_false (by omega)
      go_wp2_with fail
      go_roundw
      case rel => exact ⟨2, .inr (.inr ⟨rfl, by rw [← E1.out]⟩), rfl, by trivial⟩
      case measure => simp [intOf]
    · clear y0 y1
      go_wp2_with fail
      refine HG.out.mono ?_
      rintro e w2 ⟨v0, rfl, ho0, hb0⟩
      have HO0 := Lib.hid ho0
      have HBB := Lib.hid hb0
      clear ho0 hb0 HG
      go_wp2_with fail
      go_loopw [6, 8, 27] (fun v _ i wr => ∃ (q : Int), ((q = 0 ∧ EO EG 5 30 wr w.heap.size v []) ∨ (q = 1 ∧ EO EG 5 30 wr w.heap.size v a) ∨ (q = 2 ∧ EO EG 5 30 wr w.heap.size v (a ++ b))) ∧ i = .int .i64 q ∧ Below w.heap.size w wr) (fun _ _ i _ => 2 - (intOf i).toNat)
      case atStart => exact ⟨0, .inl ⟨rfl, HO0.out⟩, rfl, HBB.out⟩
      case round =>
        obtain ⟨q, hq, rfl, hb⟩ := hrel
        rcases hq with ⟨rfl, ho⟩ | ⟨rfl, ho⟩ | ⟨rfl, ho⟩
        · have y0 := keep_of_below hb YC0.out
          have HR := Lib.hid ((HA.out.below hb).2)
          have HB := Lib.hid hb
          have HOW : Hid (wr.ownsRow w.heap.size 30 5 u6 (0) (([] : List Gr).flatMap EG)) := Lib.hid (by have := ho; unfold EO at this; first | exact this | (rw [HNA.out] at this; exact this))
          clear ho hb
          go_wp2_with (at_builtin; refine wpList_append_Rd _ rfl (.tmp 31) (.tmp 32) _ rfl w.heap.size 30 i0 _ 5 64 Try.underlying22 hi0 hz0 hz1 hz2 hzs u6 (0) _ rfl HOW.out A n c (a.flatMap EG) rfl HR.out (flat_one EG_one _) (by omega) (by omega) HB.out.size ?_; intro v4 w4 hown4 hg4 _ _; have hb4 : Below w.heap.size w w4 := HB.out.grown hg4 HB.out.size (fun j hj => (HOW.out.lt j hj).1))
          have HO4 := Lib.hid hown4
          have HB4 := Lib.hid hb4
          clear hown4 hg4 hb4 y0
          go_wp2_with fail
          go_roundw
          case rel => exact ⟨1, .inr (.inl ⟨rfl, EO.plus (a := []) HO4.out rfl HNA.out⟩), rfl, HB4.out⟩
          case measure => simp [intOf]
        · have y0 := keep_of_below hb YC1.out
          have HR := Lib.hid ((HB0.out.below hb).2)
          have HB := Lib.hid hb
          have HOW : Hid (wr.ownsRow w.heap.size 30 5 u6 (n) (a.flatMap EG)) := Lib.hid (by have := ho; unfold EO at this; first | exact this | (rw [HNA.out] at this; exact this))
          clear ho hb
          go_wp2_with (at_builtin; refine wpList_append_Rd _ rfl (.tmp 31) (.tmp 32) _ rfl w.heap.size 30 i0 _ 5 64 Try.underlying22 hi0 hz0 hz1 hz2 hzs u6 (n) _ rfl HOW.out B m d (b.flatMap EG) rfl HR.out (flat_one EG_one _) (by omega) (by omega) HB.out.size ?_; intro v4 w4 hown4 hg4 _ _; have hb4 : Below w.heap.size w w4 := HB.out.grown hg4 HB.out.size (fun j hj => (HOW.out.lt j hj).1))
          have HO4 := Lib.hid hown4
          have HB4 := Lib.hid hb4
          clear hown4 hg4 hb4 y0
          go_wp2_with fail
          go_roundw
          case rel => exact ⟨2, .inr (.inr ⟨rfl, EO.plus HO4.out HNA.out HNB.out⟩), rfl, HB4.out⟩
          case measure => simp [intOf]
        · have HO := Lib.hid ho
          have HB := Lib.hid hb
          clear ho hb
          go_wp2_with fail
          go_ret
          exact ⟨_, rfl, HO.out, HB.out⟩

end Go.Proofs.Ytfgkadkmgciamaa
