/-
  Contracts: the document's table: Bury, New.
-/
import Derived.Test.YtjopobkcijkpmaaSnX
namespace Go.Proofs.Ytjopobkcijkpmaa
open Go.RowKit

theorem bury_snoc {l : List (Int × Int × Int)} {k : Nat} (hk : k < l.length) : onesC ((l.take (k + 1)).map buryO) = onesC ((l.take k).map buryO) ++ oneC (buryO (l.getD k (0, 0, 0))) := by
  have e : l.getD k (0, 0, 0) = l[k] := by simp [List.getD, List.getElem?_eq_getElem hk]
  rw [List.take_succ_eq_append_getElem hk, List.map_append, e]
  exact ones_snoc _ _

set_option maxRecDepth 100000 in
set_option maxHeartbeats 2000000 in
theorem rBury_any (A : Option Addr) (n c : Nat) (R : RefS) (w : World) (hr : R3 w A n R.ones) (hn : n ≤ 1000) :
    Calls Try.prog 57 #[rvV A n c R.first R.next R.last] w fun e w' => ∃ A' n' c', e = .returned (rvV A' n' c' (buryR R).first (buryR R).next (buryR R).last) ∧ RN w w' A A' n' (buryR R).ones := by
  obtain ⟨i0, hi0, hz0, hz1, hz2⟩ := info_parts info_one
  unfold buryR
  obtain ⟨l, f, ne, la⟩ := R
  dsimp only at *
  have hb0 := gr_alloc (gr_alloc (gr_refl w) (.cells #[.slice A n c, .int .i64 f, .int .i64 ne, .int .i64 la] 92)) (.cells #[.slice none 0 0, .int .i64 0, .int .i64 0, .int .i64 0] 92)
  have HB := Lib.hid hb0
  have HX := Lib.hid ((BX.new w A n c f ne la).below (gr_alloc (gr_refl _) (.cells #[.slice none 0 0, .int .i64 0, .int .i64 0, .int .i64 0] 92)))
  have HZ : Hid (BX ((w.alloc (.cells #[.slice A n c, .int .i64 f, .int .i64 ne, .int .i64 la] 92)).alloc (.cells #[.slice none 0 0, .int .i64 0, .int .i64 0, .int .i64 0] 92)) (w.heap.size + 1) none 0 0 0 0 0) := Lib.hid (by
    have := BX.new (w.alloc (.cells #[.slice A n c, .int .i64 f, .int .i64 ne, .int .i64 la] 92)) none 0 0 0 0 0
    rw [World.size_alloc] at this
    exact this)
  have HR := Lib.hid (fun (W : World) (hW : Below w.heap.size w W) => hr.below hW)
  have HL := Lib.hid hr.2
  have HWZ : Hid (((w.alloc (.cells #[.slice A n c, .int .i64 f, .int .i64 ne, .int .i64 la] 92)).alloc (.cells #[.slice none 0 0, .int .i64 0, .int .i64 0, .int .i64 0] 92)).heap.size = w.heap.size + 2) := Lib.hid (by rw [World.size_alloc, World.size_alloc])
  clear hr hb0
  unfold rvV at *
  go_enter Try.func57, Try.ntmps57
  go_wp2_with fail
  generalize (w.alloc (.cells #[.slice A n c, .int .i64 f, .int .i64 ne, .int .i64 la] 92)).alloc (.cells #[.slice none 0 0, .int .i64 0, .int .i64 0, .int .i64 0] 92) = W at *
  go_loopw [3, 4] (fun v i wr => ∃ k : Nat, k ≤ n ∧ i = .int .i64 k ∧ wr.ownsRow W.heap.size 136 3 v k (onesC ((l.take k).map buryO)) ∧ Below W.heap.size W wr) (fun _ i _ => n - (intOf i).toNat)
  case atStart => exact ⟨0, by omega, rfl, ⟨rfl, .inl ⟨rfl, rfl⟩⟩, gr_refl W⟩
  case round =>
    obtain ⟨k, hk, rfl, ho, hb⟩ := hrel
    obtain ⟨Av, cv, rfl, _, _⟩ := own_form ho
    have bx1 := HX.out.below hb
    by_cases hlt : k < n
    · have t1 : decide ((k : Int) < (n : Int)) = true := by simp; omega
      have t2 : decide (k < n) = true := by simp; omega
      have i0' : (0 : Int) ≤ (k : Int) := Int.natCast_nonneg _
      have i1' : (k : Int) < (n : Int) := by omega
      have hkl : k < l.length := by rw [HL.out]; exact hlt
      obtain ⟨g, o, rfl, d0, d1, d2⟩ := (HR.out wr (gr_trans HB.out hb)).at_ hlt
      have HS := Lib.hid (bury_snoc hkl)
      generalize l.getD k (0, 0, 0) = oo at *
      obtain ⟨o0, o1, o2⟩ := oo
      dsimp only at *
      have c0 := bx1.c0
      have hmx : k + 1 ≤ maxLen := by simp only [maxLen]; omega
      by_cases he : o1 = 3
      · subst he
        have HS3 : Hid (onesC ((l.take (k + 1)).map buryO) = onesC ((l.take k).map buryO) ++ [.int .i64 o0, .int .i64 4, .int .i64 o2]) := Lib.hid (by rw [HS.out]; rfl)
        clear HS bx1
        have hsz := hb.size
        have HOW := Lib.hid ho
        have HBB := Lib.hid hb
        have HFB : Hid (∀ (w3 : World) (v6 : Value), w3.ownsRow W.heap.size 136 3 v6 (k + 1) (onesC ((l.take k).map buryO) ++ [.int .i64 o0, .int .i64 4, .int .i64 o2]) → ((wr.alloc (.cells #[.int .i64 o0, .int .i64 4, .int .i64 o2] 136)).alloc (.cells #[.int .i64 o0, .int .i64 4, .int .i64 o2] 136)).grownBy w3 (Value.slice Av k cv).ownBlock → w3.ownsRow W.heap.size 136 3 v6 (k + 1) (onesC ((l.take (k + 1)).map buryO)) ∧ Below W.heap.size W w3) := Lib.hid (fun w3 v6 k1 k2 => by
          refine ⟨by rw [HS3.out]; exact k1, (gr_alloc (gr_alloc hb _) _).grown k2 (by rw [World.size_alloc, World.size_alloc]; omega) (fun j e => (ho.lt j e).1)⟩)
        have HONE : Hid (∀ u ∈ ([.int .i64 o0, .int .i64 4, .int .i64 o2] : List Value), u.oneCell' = true) := Lib.hid (by simp [Value.oneCell'])
        have HRN : Hid (Rd ((wr.alloc (.cells #[.int .i64 o0, .int .i64 4, .int .i64 o2] 136)).alloc (.cells #[.int .i64 o0, .int .i64 4, .int .i64 o2] 136)) 3 (some ⟨wr.heap.size + 1, 0, none⟩) 1 [.int .i64 o0, .int .i64 4, .int .i64 o2]) := Lib.hid (by have h := Rd.new (wr.alloc (.cells #[.int .i64 o0, .int .i64 4, .int .i64 o2] 136)) 136 #[.int .i64 o0, .int .i64 4, .int .i64 o2] 1 3 rfl; rw [World.size_alloc] at h; exact h)
        clear ho hb
        go_wp2_with (at_builtin; refine wpList_append_Rd _ rfl (.tmp 22) (.tmp 24) _ rfl W.heap.size 136 i0 _ 3 24 Try.underlying90 hi0 hz0 hz1 hz2 rfl (.slice Av k cv) k _ rfl ((HOW.out.alloc _).alloc _) (some ⟨wr.heap.size + 1, 0, none⟩) 1 1 [.int .i64 o0, .int .i64 4, .int .i64 o2] rfl HRN.out HONE.out (by omega) hmx (by rw [World.size_alloc, World.size_alloc]; omega) ?_; intro v6 w3 k1 k2 _ _; obtain ⟨q1, q2⟩ := HFB.out w3 v6 k1 k2; clear k1 k2)
        go_roundw
        case rel => exact ⟨k + 1, by omega, by go_num, q1, q2⟩
        case measure => simp [intOf]; omega
      · have HS3 : Hid (onesC ((l.take (k + 1)).map buryO) = onesC ((l.take k).map buryO) ++ [.int .i64 o0, .int .i64 o1, .int .i64 o2]) := Lib.hid (by rw [HS.out]; unfold buryO; rw [if_neg he]; rfl)
        have t3 : (o1 == 3) = false := by simpa using he
        clear HS bx1 he
        have hsz := hb.size
        have HOW := Lib.hid ho
        have HBB := Lib.hid hb
        have HFB : Hid (∀ (w3 : World) (v6 : Value), w3.ownsRow W.heap.size 136 3 v6 (k + 1) (onesC ((l.take k).map buryO) ++ [.int .i64 o0, .int .i64 o1, .int .i64 o2]) → ((wr.alloc (.cells #[.int .i64 o0, .int .i64 o1, .int .i64 o2] 136)).alloc (.cells #[.int .i64 o0, .int .i64 o1, .int .i64 o2] 136)).grownBy w3 (Value.slice Av k cv).ownBlock → w3.ownsRow W.heap.size 136 3 v6 (k + 1) (onesC ((l.take (k + 1)).map buryO)) ∧ Below W.heap.size W w3) := Lib.hid (fun w3 v6 k1 k2 => by
          refine ⟨by rw [HS3.out]; exact k1, (gr_alloc (gr_alloc hb _) _).grown k2 (by rw [World.size_alloc, World.size_alloc]; omega) (fun j e => (ho.lt j e).1)⟩)
        have HONE : Hid (∀ u ∈ ([.int .i64 o0, .int .i64 o1, .int .i64 o2] : List Value), u.oneCell' = true) := Lib.hid (by simp [Value.oneCell'])
        have HRN : Hid (Rd ((wr.alloc (.cells #[.int .i64 o0, .int .i64 o1, .int .i64 o2] 136)).alloc (.cells #[.int .i64 o0, .int .i64 o1, .int .i64 o2] 136)) 3 (some ⟨wr.heap.size + 1, 0, none⟩) 1 [.int .i64 o0, .int .i64 o1, .int .i64 o2]) := Lib.hid (by have h := Rd.new (wr.alloc (.cells #[.int .i64 o0, .int .i64 o1, .int .i64 o2] 136)) 136 #[.int .i64 o0, .int .i64 o1, .int .i64 o2] 1 3 rfl; rw [World.size_alloc] at h; exact h)
        clear ho hb
        go_wp2_with (at_builtin; refine wpList_append_Rd _ rfl (.tmp 22) (.tmp 24) _ rfl W.heap.size 136 i0 _ 3 24 Try.underlying90 hi0 hz0 hz1 hz2 rfl (.slice Av k cv) k _ rfl ((HOW.out.alloc _).alloc _) (some ⟨wr.heap.size + 1, 0, none⟩) 1 1 [.int .i64 o0, .int .i64 o1, .int .i64 o2] rfl HRN.out HONE.out (by omega) hmx (by rw [World.size_alloc, World.size_alloc]; omega) ?_; intro v6 w3 k1 k2 _ _; obtain ⟨q1, q2⟩ := HFB.out w3 v6 k1 k2; clear k1 k2)
        go_roundw
        case rel => exact ⟨k + 1, by omega, by go_num, q1, q2⟩
        case measure => simp [intOf]; omega
    · obtain rfl : k = n := by omega
      have t1 : decide ((k : Int) < (k : Int)) = false := by simp
      have t2 : decide (k < k) = false := by simp
      have htk : l.take k = l := List.take_of_length_le (by rw [HL.out]; omega)
      rw [htk] at ho
      have zx1 := HZ.out.below hb
      have hw1 := gr_trans HB.out hb
      have c0 := bx1.c0
      have g0 := bx1.frozen 0
      clear htk
      go_upto_region 10 with fail
      have og6 : Off (fun k => k = w.heap.size) wr (wr.setCell ⟨w.heap.size, 0, none⟩ (.slice Av k cv)) := (Off.refl (fun k => k = w.heap.size) wr).setCell _ rfl
      have bx6 : BX (wr.setCell ⟨w.heap.size, 0, none⟩ (.slice Av k cv)) w.heap.size Av k cv f ne la := bx1.s0
      have zx6 := zx1.off og6 (by omega)
      have hw6 := hw1.trans (og6.below (fun k e => by omega) hw1.size)
      have HS6 := Lib.hid (ownsRow_off ho og6 (fun j e e' => by have := (ho.lt j e).1; have := HWZ.out; omega))
      clear c0 g0 og6 bx1 zx1 hw1 ho
      generalize wr.setCell ⟨w.heap.size, 0, none⟩ (.slice Av k cv) = w6 at *
      have c0 := bx6.c0
      have c1 := bx6.c1
      have c2 := bx6.c2
      have c3 := bx6.c3
      have y0 := zx6.c0
      have y1 := zx6.c1
      have y2 := zx6.c2
      have y3 := zx6.c3
      have f0 := zx6.frozen 0
      have f1 := zx6.frozen 1
      have f2 := zx6.frozen 2
      have f3 := zx6.frozen 3
      go_wp2_with fail
      clear c0 c1 c2 c3 y0 y1 y2 y3 f0 f1 f2 f3
      have of7 : Off (fun k => k = w.heap.size + 1) w6 ((((w6.setCell ⟨w.heap.size + 1, 0, none⟩ (.slice Av k cv)).setCell ⟨w.heap.size + 1, 1, none⟩ (.int .i64 f)).setCell ⟨w.heap.size + 1, 2, none⟩ (.int .i64 ne)).setCell ⟨w.heap.size + 1, 3, none⟩ (.int .i64 la)) := ((((Off.refl (fun k => k = w.heap.size + 1) w6).setCell _ rfl).setCell _ rfl).setCell _ rfl).setCell _ rfl
      have HS7 := Lib.hid (ownsRow_off HS6.out of7 (fun j e e' => by have := (HS6.out.lt j e).1; have := HWZ.out; omega))
      have bxf := zx6.put Av k cv f ne la
      have hbf := set4_below hw6 (Nat.le_succ w.heap.size) (.slice Av k cv) (.int .i64 f) (.int .i64 ne) (.int .i64 la)
      clear bx6 zx6 hw6 of7 HS6
      generalize (((w6.setCell ⟨w.heap.size + 1, 0, none⟩ (.slice Av k cv)).setCell ⟨w.heap.size + 1, 1, none⟩ (.int .i64 f)).setCell ⟨w.heap.size + 1, 2, none⟩ (.int .i64 ne)).setCell ⟨w.heap.size + 1, 3, none⟩ (.int .i64 la) = wf at *
      have z0 := bxf.c0
      have z1 := bxf.c1
      have z2 := bxf.c2
      have z3 := bxf.c3
      refine bodyPost_ret (v := .agg #[.slice Av k cv, .int .i64 f, .int .i64 ne, .int .i64 la]) (by simp [results, Try.results57, go_sem, z0, z1, z2, z3]) rfl ⟨Av, k, cv, rfl, ?_⟩
      exact ⟨⟨own_rd HS7.out, by rw [List.length_map, HL.out]⟩, hbf, .inr (fun ad e => by subst e; exact ⟨by have := (HS7.out.lt _ rfl).1; have := HWZ.out; omega, (HS7.out.lt _ rfl).2⟩)⟩


/-- Dead ones. -/
def deadO (l : List Int) : List (Int × Int × Int) := l.map (fun x => (x, 3, 0))
theorem deadO_snoc {l : List Int} {k : Nat} (hk : k < l.length) : onesC (deadO (l.take (k + 1))) = onesC (deadO (l.take k)) ++ [.int .i64 (l.getD k 0), .int .i64 3, .int .i64 0] := by
  have e : l.getD k 0 = l[k] := by simp [List.getD, List.getElem?_eq_getElem hk]
  unfold deadO
  rw [List.take_succ_eq_append_getElem hk, List.map_append, e]
  exact ones_snoc _ _
/-- The document's own check. -/
def okD (nx : Int) (l : List Int) (k : Nat) : Prop := 1 ≤ l.getD k 0 ∧ l.getD k 0 < nx ∧ (0 < k → l.getD (k - 1) 0 < l.getD k 0)
theorem okD_rise {nx : Int} {l : List Int} (h : ∀ k, k < l.length → okD nx l k) : Rise 0 nx l := by
  intro k hk
  obtain ⟨h1, h2, h3⟩ := h k hk
  by_cases e : k = 0
  · rw [if_pos e]; exact ⟨by omega, h2⟩
  · rw [if_neg e]; exact ⟨h3 (by omega), h2⟩
theorem rise_okD {nx : Int} {l : List Int} (h : Rise 0 nx l) : ∀ k, k < l.length → okD nx l k := by
  intro k hk
  have hp : ∀ k, k < l.length → 0 < l.getD k 0 := by
    intro k
    induction k with
    | zero => intro hj; have := (h 0 hj).1; rw [if_pos rfl] at this; exact this
    | succ j ih => intro hj; have := (h (j + 1) hj).1; rw [if_neg (by omega), Nat.add_sub_cancel] at this; have := ih (by omega); omega
  have h1 := hp k hk
  have h2 := h k hk
  refine ⟨by omega, h2.2, fun h0 => ?_⟩
  have := h2.1
  rw [if_neg (by omega)] at this
  exact this

set_option maxRecDepth 100000 in
set_option maxHeartbeats 4000000 in
theorem rNew_loop (nx : Int) (A : Option Addr) (m c : Nat) (l : List Int) (w : World) (ha : IR w A m l) (h1 : 1 ≤ nx) (h2 : nx ≤ 4611686018427387904) (hm : m ≤ 64) :
    Calls Try.prog 53 #[.int .i64 nx, .slice A m c] w fun e w' => (Rise 0 nx l ∧ ∃ A' n' c', e = .returned (.tuple #[rvV A' n' c' nx nx 0, .int .i64 0]) ∧ RN w w' none A' n' (newR nx l).ones) ∨ (¬ Rise 0 nx l ∧ e = .returned (.tuple #[rvV none 0 0 0 0 0, .int .i64 2]) ∧ Below w.heap.size w w') := by
  obtain ⟨i0, hi0, hz0, hz1, hz2⟩ := info_parts info_one
  have t1 : decide (nx < 1) = false := by simp; omega
  have t2 : decide ((4611686018427387904 : Int) < nx) = false := by simp; omega
  have t3 : decide ((64 : Int) < (m : Int)) = false := by simp; omega
  have t3' : decide (64 < m) = false := by simp; omega
  have HL := Lib.hid ha.len
  have hb0 := gr_alloc (gr_alloc (gr_refl w) (.cells #[.slice none 0 0, .int .i64 0, .int .i64 0, .int .i64 0] 92)) (.cells #[.slice none 0 0, .int .i64 nx, .int .i64 nx, .int .i64 0] 92)
  have HB := Lib.hid hb0
  have HZ := Lib.hid ((BX.new w none 0 0 0 0 0).below (gr_alloc (gr_refl _) (.cells #[.slice none 0 0, .int .i64 nx, .int .i64 nx, .int .i64 0] 92)))
  have HT : Hid (BX ((w.alloc (.cells #[.slice none 0 0, .int .i64 0, .int .i64 0, .int .i64 0] 92)).alloc (.cells #[.slice none 0 0, .int .i64 nx, .int .i64 nx, .int .i64 0] 92)) (w.heap.size + 1) none 0 0 nx nx 0) := Lib.hid (by
    have := BX.new (w.alloc (.cells #[.slice none 0 0, .int .i64 0, .int .i64 0, .int .i64 0] 92)) none 0 0 nx nx 0
    rw [World.size_alloc] at this
    exact this)
  clear hb0
  unfold rvV at *
  go_enter Try.func53, Try.ntmps53
  go_wp2_with fail
  generalize (w.alloc (.cells #[.slice none 0 0, .int .i64 0, .int .i64 0, .int .i64 0] 92)).alloc (.cells #[.slice none 0 0, .int .i64 nx, .int .i64 nx, .int .i64 0] 92) = W at *
  go_loopw [7] (fun i wr => ∃ (k : Nat) (Av : Option Addr) (cv : Nat), k ≤ m ∧ i = .int .i64 k ∧ Hid (∀ j, j < k → okD nx l j) ∧ wr.ownsRow (w.heap.size + 2) 136 3 (.slice Av k cv) k (onesC (deadO (l.take k))) ∧ BX wr (w.heap.size + 1) Av k cv nx nx 0 ∧ BX wr w.heap.size none 0 0 0 0 0 ∧ Below w.heap.size w wr) (fun i _ => m - (intOf i).toNat)
  case atStart => exact ⟨0, none, 0, by omega, rfl, Lib.hid (fun j hj => by omega), ⟨rfl, .inl ⟨rfl, rfl⟩⟩, HT.out, HZ.out, HB.out⟩
  case round =>
    clear HT HZ HB
    obtain ⟨k, Av, cv, hk, rfl, HALL, ho, tb, zb, hb⟩ := hrel
    by_cases hlt : k < m
    · have q1 : decide ((k : Int) < (m : Int)) = true := by simp; omega
      have q1' : decide (k < m) = true := by simp; omega
      have j0 : (0 : Int) ≤ (k : Int) := Int.natCast_nonneg _
      have j1 : (k : Int) < (m : Int) := by omega
      have hkl : k < l.length := by rw [HL.out]; exact hlt
      obtain ⟨ga, oa, rfl, hca⟩ := (ha.below hb).at_ (k := k) hlt
      have hcp : 0 < k → wr.cell? ⟨ga, oa + (k - 1), none⟩ = some (.int .i64 (l.getD (k - 1) 0)) := fun h0 => by
        obtain ⟨ga', oa', e, h⟩ := (ha.below hb).at_ (k := k - 1) (by omega)
        cases e
        exact h
      by_cases hok : okD nx l k
      · have HALL' : Hid (∀ j, j < k + 1 → okD nx l j) := Lib.hid (fun j hj => by
          rcases Nat.lt_or_ge j k with h | h
          · exact HALL.out j h
          · rw [show j = k by omega]; exact hok)
        obtain ⟨e1, e2, e3⟩ := hok
        have HDS := Lib.hid (deadO_snoc hkl)
        generalize l.getD k 0 = x at *
        have u1 : decide (x < 1) = false := by simp; omega
        have u2 : decide (nx ≤ x) = false := by simp; omega
        have hcs : (decide ((0 : Int) < (k : Int)) = false ∧ decide (0 < k) = false) ∨ ((0 < k ∧ (0 : Int) ≤ (k : Int) - 1 ∧ (k : Int) - 1 < (m : Int)) ∧ decide ((0 : Int) < (k : Int)) = true ∧ decide (0 < k) = true ∧ decide (x ≤ l.getD (k - 1) 0) = false ∧ wr.cell? ⟨ga, oa + (k - 1), none⟩ = some (.int .i64 (l.getD (k - 1) 0))) := by
          by_cases h0 : 0 < k
          · exact .inr ⟨⟨h0, by omega, by omega⟩, by simp; omega, by simp; omega, by have := e3 h0; exact decide_eq_false (by omega), hcp h0⟩
          · exact .inl ⟨by simp; omega, by simp; omega⟩
        generalize l.getD (k - 1) 0 = xp at *
        clear hcp e3
        rcases hcs with ⟨u3, u4⟩ | ⟨⟨u0, v1, v2⟩, u3, u4, u5, u6⟩
        · go_wp2_with fail
          go_quiet (fail)
          go_wp2_with fail
          have ho : (wr.drewN nq).ownsRow (w.heap.size + 2) 136 3 (.slice Av k cv) k (onesC (deadO (l.take k))) := ho
          have tb : BX (wr.drewN nq) (w.heap.size + 1) Av k cv nx nx 0 := tb
          have zb : BX (wr.drewN nq) w.heap.size none 0 0 0 0 0 := zb
          have hb := gr_drewN hb nq
          have hca : (wr.drewN nq).cell? ⟨ga, oa + k, none⟩ = some (.int .i64 x) := hca
          clear u3 u4
          generalize wr.drewN nq = wq at *
          have hsz := hb.size
          have hz1' := zb.lt
          have hz2' := tb.lt
          have HOW := Lib.hid ho
          have HPUSH : Hid (∀ (w3 : World) (v6 : Value), w3.ownsRow (w.heap.size + 2) 136 3 v6 (k + 1) (onesC (deadO (l.take k)) ++ [.int .i64 x, .int .i64 3, .int .i64 0]) → (wq.alloc (.cells #[.int .i64 x, .int .i64 3, .int .i64 0] 136)).drew.grownBy w3 (Value.slice Av k cv).ownBlock →
              ∃ A6 c6, v6 = .slice A6 (k + 1) c6 ∧ w3.cell? ⟨w.heap.size + 1, 0, none⟩ = some (.slice Av k cv) ∧ w3.frozen? ⟨w.heap.size + 1, 0, none⟩ = false ∧ (w3.setCell ⟨w.heap.size + 1, 0, none⟩ (.slice A6 (k + 1) c6)).ownsRow (w.heap.size + 2) 136 3 (.slice A6 (k + 1) c6) (k + 1) (onesC (deadO (l.take (k + 1)))) ∧ BX (w3.setCell ⟨w.heap.size + 1, 0, none⟩ (.slice A6 (k + 1) c6)) (w.heap.size + 1) A6 (k + 1) c6 nx nx 0 ∧ BX (w3.setCell ⟨w.heap.size + 1, 0, none⟩ (.slice A6 (k + 1) c6)) w.heap.size none 0 0 0 0 0 ∧ Below w.heap.size w (w3.setCell ⟨w.heap.size + 1, 0, none⟩ (.slice A6 (k + 1) c6))) := Lib.hid (fun w3 v6 k1 k2 => by
            obtain ⟨A6, c6, rfl, _, _⟩ := own_form k1
            have o3 : Off (fun j => (Value.slice Av k cv).ownBlock = some j) wq w3 := (Off.of_below (S := fun j => (Value.slice Av k cv).ownBlock = some j) (gr_drew (gr_alloc (gr_refl wq) _))).trans (Off.of_grown k2 (fun _ e => e))
            have tb3 := tb.off o3 (fun e => by have := (ho.lt _ e).1; omega)
            have zb3 := zb.off o3 (fun e => by have := (ho.lt _ e).1; omega)
            have hb3 := hb.trans (o3.below (fun j e => by have := (ho.lt _ e).1; omega) hb.size)
            have o4 : Off (fun j => j = w.heap.size + 1) w3 (w3.setCell ⟨w.heap.size + 1, 0, none⟩ (.slice A6 (k + 1) c6)) := (Off.refl (fun j => j = w.heap.size + 1) w3).setCell _ rfl
            refine ⟨A6, c6, rfl, tb3.c0, tb3.frozen 0, ?_, tb3.s0, zb3.off o4 (by omega), hb3.trans (o4.below (fun j e => by omega) hb3.size)⟩
            rw [HDS.out]
            exact ownsRow_off k1 o4 (fun j e e' => by have := (k1.lt j e).1; omega))
          have HRN : Hid (Rd (wq.alloc (.cells #[.int .i64 x, .int .i64 3, .int .i64 0] 136)).drew 3 (some ⟨wq.heap.size, 0, none⟩) 1 [.int .i64 x, .int .i64 3, .int .i64 0]) := Lib.hid (Rd.drewN (Rd.new wq 136 #[.int .i64 x, .int .i64 3, .int .i64 0] 1 3 rfl) 1)
          have HBS : Hid (w.heap.size + 2 ≤ ((wq.alloc (.cells #[.int .i64 x, .int .i64 3, .int .i64 0] 136)).drew).heap.size) := Lib.hid (by show _ ≤ (wq.alloc _).heap.size; rw [World.size_alloc]; omega)
          have HOW2 : Hid ((wq.alloc (.cells #[.int .i64 x, .int .i64 3, .int .i64 0] 136)).drew.ownsRow (w.heap.size + 2) 136 3 (.slice Av k cv) k (onesC (deadO (l.take k)))) := Lib.hid (ownsRow_off ho (S := fun _ => False) (Off.of_below (gr_drew (gr_alloc (gr_refl wq) _))) (fun _ _ h => h))
          have HONE : Hid (∀ u ∈ ([.int .i64 x, .int .i64 3, .int .i64 0] : List Value), u.oneCell' = true) := Lib.hid (by simp [Value.oneCell'])
          have hmx : k + 1 ≤ maxLen := by simp only [maxLen]; omega
          have c0 := tb.c0
          have g0 := tb.frozen 0
          clear ho hb tb zb HOW HDS
          go_region_law ((refine step_append_Rd _ rfl (.tmp 60) (.tmp 66) _ rfl (w.heap.size + 2) 136 i0 _ 3 24 Try.underlying90 hi0 hz0 hz1 hz2 rfl (.slice Av k cv) k _ rfl HOW2.out (some ⟨wq.heap.size, 0, none⟩) 1 1 [.int .i64 x, .int .i64 3, .int .i64 0] rfl HRN.out HONE.out (by omega) hmx HBS.out ?_; intro v6 w3 k1 k2 _ _; obtain ⟨A6, c6, rfl, d0, d1, d2, d3, d4, d5⟩ := HPUSH.out w3 v6 k1 k2; clear k1 k2))
          all_goals
            go_wp2_with fail
            go_roundw
            case rel => exact ⟨k + 1, A6, c6, by omega, by go_num, HALL', d2, d3, d4, d5⟩
            case measure => simp [intOf]; omega
        · go_wp2_with fail
          go_quiet (fail)
          go_wp2_with fail
          have ho : (wr.drewN nq).ownsRow (w.heap.size + 2) 136 3 (.slice Av k cv) k (onesC (deadO (l.take k))) := ho
          have tb : BX (wr.drewN nq) (w.heap.size + 1) Av k cv nx nx 0 := tb
          have zb : BX (wr.drewN nq) w.heap.size none 0 0 0 0 0 := zb
          have hb := gr_drewN hb nq
          have hca : (wr.drewN nq).cell? ⟨ga, oa + k, none⟩ = some (.int .i64 x) := hca
          clear u3 u4 u5 u6 v1 v2
          generalize wr.drewN nq = wq at *
          have hsz := hb.size
          have hz1' := zb.lt
          have hz2' := tb.lt
          have HOW := Lib.hid ho
          have HPUSH : Hid (∀ (w3 : World) (v6 : Value), w3.ownsRow (w.heap.size + 2) 136 3 v6 (k + 1) (onesC (deadO (l.take k)) ++ [.int .i64 x, .int .i64 3, .int .i64 0]) → (wq.alloc (.cells #[.int .i64 x, .int .i64 3, .int .i64 0] 136)).drew.grownBy w3 (Value.slice Av k cv).ownBlock →
              ∃ A6 c6, v6 = .slice A6 (k + 1) c6 ∧ w3.cell? ⟨w.heap.size + 1, 0, none⟩ = some (.slice Av k cv) ∧ w3.frozen? ⟨w.heap.size + 1, 0, none⟩ = false ∧ (w3.setCell ⟨w.heap.size + 1, 0, none⟩ (.slice A6 (k + 1) c6)).ownsRow (w.heap.size + 2) 136 3 (.slice A6 (k + 1) c6) (k + 1) (onesC (deadO (l.take (k + 1)))) ∧ BX (w3.setCell ⟨w.heap.size + 1, 0, none⟩ (.slice A6 (k + 1) c6)) (w.heap.size + 1) A6 (k + 1) c6 nx nx 0 ∧ BX (w3.setCell ⟨w.heap.size + 1, 0, none⟩ (.slice A6 (k + 1) c6)) w.heap.size none 0 0 0 0 0 ∧ Below w.heap.size w (w3.setCell ⟨w.heap.size + 1, 0, none⟩ (.slice A6 (k + 1) c6))) := Lib.hid (fun w3 v6 k1 k2 => by
            obtain ⟨A6, c6, rfl, _, _⟩ := own_form k1
            have o3 : Off (fun j => (Value.slice Av k cv).ownBlock = some j) wq w3 := (Off.of_below (S := fun j => (Value.slice Av k cv).ownBlock = some j) (gr_drew (gr_alloc (gr_refl wq) _))).trans (Off.of_grown k2 (fun _ e => e))
            have tb3 := tb.off o3 (fun e => by have := (ho.lt _ e).1; omega)
            have zb3 := zb.off o3 (fun e => by have := (ho.lt _ e).1; omega)
            have hb3 := hb.trans (o3.below (fun j e => by have := (ho.lt _ e).1; omega) hb.size)
            have o4 : Off (fun j => j = w.heap.size + 1) w3 (w3.setCell ⟨w.heap.size + 1, 0, none⟩ (.slice A6 (k + 1) c6)) := (Off.refl (fun j => j = w.heap.size + 1) w3).setCell _ rfl
            refine ⟨A6, c6, rfl, tb3.c0, tb3.frozen 0, ?_, tb3.s0, zb3.off o4 (by omega), hb3.trans (o4.below (fun j e => by omega) hb3.size)⟩
            rw [HDS.out]
            exact ownsRow_off k1 o4 (fun j e e' => by have := (k1.lt j e).1; omega))
          have HRN : Hid (Rd (wq.alloc (.cells #[.int .i64 x, .int .i64 3, .int .i64 0] 136)).drew 3 (some ⟨wq.heap.size, 0, none⟩) 1 [.int .i64 x, .int .i64 3, .int .i64 0]) := Lib.hid (Rd.drewN (Rd.new wq 136 #[.int .i64 x, .int .i64 3, .int .i64 0] 1 3 rfl) 1)
          have HBS : Hid (w.heap.size + 2 ≤ ((wq.alloc (.cells #[.int .i64 x, .int .i64 3, .int .i64 0] 136)).drew).heap.size) := Lib.hid (by show _ ≤ (wq.alloc _).heap.size; rw [World.size_alloc]; omega)
          have HOW2 : Hid ((wq.alloc (.cells #[.int .i64 x, .int .i64 3, .int .i64 0] 136)).drew.ownsRow (w.heap.size + 2) 136 3 (.slice Av k cv) k (onesC (deadO (l.take k)))) := Lib.hid (ownsRow_off ho (S := fun _ => False) (Off.of_below (gr_drew (gr_alloc (gr_refl wq) _))) (fun _ _ h => h))
          have HONE : Hid (∀ u ∈ ([.int .i64 x, .int .i64 3, .int .i64 0] : List Value), u.oneCell' = true) := Lib.hid (by simp [Value.oneCell'])
          have hmx : k + 1 ≤ maxLen := by simp only [maxLen]; omega
          have c0 := tb.c0
          have g0 := tb.frozen 0
          clear ho hb tb zb HOW HDS
          go_region_law ((refine step_append_Rd _ rfl (.tmp 60) (.tmp 66) _ rfl (w.heap.size + 2) 136 i0 _ 3 24 Try.underlying90 hi0 hz0 hz1 hz2 rfl (.slice Av k cv) k _ rfl HOW2.out (some ⟨wq.heap.size, 0, none⟩) 1 1 [.int .i64 x, .int .i64 3, .int .i64 0] rfl HRN.out HONE.out (by omega) hmx HBS.out ?_; intro v6 w3 k1 k2 _ _; obtain ⟨A6, c6, rfl, d0, d1, d2, d3, d4, d5⟩ := HPUSH.out w3 v6 k1 k2; clear k1 k2))
          all_goals
            go_wp2_with fail
            go_roundw
            case rel => exact ⟨k + 1, A6, c6, by omega, by go_num, HALL', d2, d3, d4, d5⟩
            case measure => simp [intOf]; omega
      · have HNR : Hid (¬ Rise 0 nx l) := Lib.hid (fun h => hok (rise_okD h k hkl))
        have hcs : (decide (l.getD k 0 < 1) = true) ∨ (decide (l.getD k 0 < 1) = false ∧ decide (nx ≤ l.getD k 0) = true) ∨ ((decide (l.getD k 0 < 1) = false ∧ decide (nx ≤ l.getD k 0) = false) ∧ (0 < k ∧ (0 : Int) ≤ (k : Int) - 1 ∧ (k : Int) - 1 < (m : Int)) ∧ decide ((0 : Int) < (k : Int)) = true ∧ decide (0 < k) = true ∧ decide (l.getD k 0 ≤ l.getD (k - 1) 0) = true ∧ wr.cell? ⟨ga, oa + (k - 1), none⟩ = some (.int .i64 (l.getD (k - 1) 0))) := by
          by_cases b1 : l.getD k 0 < 1
          · exact .inl (decide_eq_true b1)
          · by_cases b2 : nx ≤ l.getD k 0
            · exact .inr (.inl ⟨decide_eq_false b1, decide_eq_true b2⟩)
            · have h0 : 0 < k ∧ l.getD k 0 ≤ l.getD (k - 1) 0 := by
                by_cases h0 : 0 < k
                · refine ⟨h0, ?_⟩
                  by_cases b3 : l.getD k 0 ≤ l.getD (k - 1) 0
                  · exact b3
                  · exact absurd ⟨by omega, by omega, fun _ => by omega⟩ hok
                · exact absurd ⟨by omega, by omega, fun h => absurd h h0⟩ hok
              exact .inr (.inr ⟨⟨decide_eq_false b1, decide_eq_false b2⟩, ⟨h0.1, by omega, by omega⟩, by simp; omega, by simp; omega, decide_eq_true h0.2, hcp h0.1⟩)
        generalize l.getD k 0 = x at *
        generalize l.getD (k - 1) 0 = xp at *
        clear hok hcp
        have hz1' := zb.lt
        have hz2' := tb.lt
        rcases hcs with u1 | ⟨u1, u2⟩ | ⟨⟨u1, u2⟩, ⟨u0, v1, v2⟩, u3, u4, u5, u6⟩
        all_goals
          go_wp2_with fail
          go_quiet (fail)
          have ho : (wr.drewN nq).ownsRow (w.heap.size + 2) 136 3 (.slice Av k cv) k (onesC (deadO (l.take k))) := ho
          have tb : BX (wr.drewN nq) (w.heap.size + 1) Av k cv nx nx 0 := tb
          have zb : BX (wr.drewN nq) w.heap.size none 0 0 0 0 0 := zb
          have hb := gr_drewN hb nq
          clear hca
          generalize wr.drewN nq = wq at *
          have y0 := zb.c0
          have y1 := zb.c1
          have y2 := zb.c2
          have y3 := zb.c3
          have f0 := zb.frozen 0
          have f1 := zb.frozen 1
          have f2 := zb.frozen 2
          have f3 := zb.frozen 3
          go_wp2_with fail
          clear y0 y1 y2 y3 f0 f1 f2 f3
          have bxf := zb.put none 0 0 0 0 0
          have hbf := set4_below hb (Nat.le_refl w.heap.size) (.slice none 0 0) (.int .i64 0) (.int .i64 0) (.int .i64 0)
          have of7 : Off (fun j => j = w.heap.size) wq ((((wq.setCell ⟨w.heap.size, 0, none⟩ (.slice none 0 0)).setCell ⟨w.heap.size, 1, none⟩ (.int .i64 0)).setCell ⟨w.heap.size, 2, none⟩ (.int .i64 0)).setCell ⟨w.heap.size, 3, none⟩ (.int .i64 0)) := ((((Off.refl (fun j => j = w.heap.size) wq).setCell _ rfl).setCell _ rfl).setCell _ rfl).setCell _ rfl
          have HS7 := Lib.hid (ownsRow_off ho of7 (fun j e e' => by have := (ho.lt j e).1; omega))
          clear zb hb of7 ho tb
          generalize (((wq.setCell ⟨w.heap.size, 0, none⟩ (.slice none 0 0)).setCell ⟨w.heap.size, 1, none⟩ (.int .i64 0)).setCell ⟨w.heap.size, 2, none⟩ (.int .i64 0)).setCell ⟨w.heap.size, 3, none⟩ (.int .i64 0) = wf at *
          have z0 := bxf.c0
          have z1 := bxf.c1
          have z2 := bxf.c2
          have z3 := bxf.c3
          refine bodyPost_ret (v := .tuple #[.agg #[.slice none 0 0, .int .i64 0, .int .i64 0, .int .i64 0], .int .i64 2]) (by simp [results, Try.results53, go_sem, z0, z1, z2, z3]) rfl ?_
          exact .inr ⟨HNR.out, rfl, hbf⟩
    · obtain rfl : k = m := by omega
      have q1 : decide ((k : Int) < (k : Int)) = false := by simp
      have q1' : decide (k < k) = false := by simp
      have htk : l.take k = l := List.take_of_length_le (by rw [HL.out]; omega)
      rw [htk] at ho
      have HRI : Hid (Rise 0 nx l) := Lib.hid (okD_rise (fun j hj => HALL.out j (by rw [← HL.out]; exact hj)))
      have hz1' := zb.lt
      have hz2' := tb.lt
      have c0 := tb.c0
      have c1 := tb.c1
      have c2 := tb.c2
      have c3 := tb.c3
      have y0 := zb.c0
      have y1 := zb.c1
      have y2 := zb.c2
      have y3 := zb.c3
      have f0 := zb.frozen 0
      have f1 := zb.frozen 1
      have f2 := zb.frozen 2
      have f3 := zb.frozen 3
      clear htk
      go_wp2_with fail
      clear c0 c1 c2 c3 y0 y1 y2 y3 f0 f1 f2 f3
      have bxf := zb.put Av k cv nx nx 0
      have hbf := set4_below hb (Nat.le_refl w.heap.size) (.slice Av k cv) (.int .i64 nx) (.int .i64 nx) (.int .i64 0)
      have of7 : Off (fun j => j = w.heap.size) wr ((((wr.setCell ⟨w.heap.size, 0, none⟩ (.slice Av k cv)).setCell ⟨w.heap.size, 1, none⟩ (.int .i64 nx)).setCell ⟨w.heap.size, 2, none⟩ (.int .i64 nx)).setCell ⟨w.heap.size, 3, none⟩ (.int .i64 0)) := ((((Off.refl (fun j => j = w.heap.size) wr).setCell _ rfl).setCell _ rfl).setCell _ rfl).setCell _ rfl
      have HS7 := Lib.hid (ownsRow_off ho of7 (fun j e e' => by have := (ho.lt j e).1; omega))
      clear zb hb of7 ho tb
      generalize (((wr.setCell ⟨w.heap.size, 0, none⟩ (.slice Av k cv)).setCell ⟨w.heap.size, 1, none⟩ (.int .i64 nx)).setCell ⟨w.heap.size, 2, none⟩ (.int .i64 nx)).setCell ⟨w.heap.size, 3, none⟩ (.int .i64 0) = wf at *
      have z0 := bxf.c0
      have z1 := bxf.c1
      have z2 := bxf.c2
      have z3 := bxf.c3
      refine bodyPost_ret (v := .tuple #[.agg #[.slice Av k cv, .int .i64 nx, .int .i64 nx, .int .i64 0], .int .i64 0]) (by simp [results, Try.results53, go_sem, z0, z1, z2, z3]) rfl ?_
      refine .inl ⟨HRI.out, Av, k, cv, rfl, ⟨own_rd HS7.out, ?_⟩, hbf, .inr (fun ad e => ?_)⟩
      · show (l.map _).length = k
        rw [List.length_map, HL.out]
      · subst e
        exact ⟨by have := (HS7.out.lt _ rfl).1; omega, (HS7.out.lt _ rfl).2⟩

theorem rNew_bad (nx : Int) (A : Option Addr) (m c : Nat) (_l : List Int) (w : World) (hbad : nx < 1 ∨ 4611686018427387904 < nx ∨ 64 < m) :
    Calls Try.prog 53 #[.int .i64 nx, .slice A m c] w fun e w' => e = .returned (.tuple #[rvV none 0 0 0 0 0, .int .i64 2]) ∧ Below w.heap.size w w' := by
  have hcs : decide (nx < 1) = true ∨ (decide (nx < 1) = false ∧ decide ((4611686018427387904 : Int) < nx) = true) ∨ (decide (nx < 1) = false ∧ decide ((4611686018427387904 : Int) < nx) = false ∧ decide ((64 : Int) < (m : Int)) = true ∧ decide (64 < m) = true) := by
    by_cases b1 : nx < 1
    · exact .inl (decide_eq_true b1)
    · by_cases b2 : 4611686018427387904 < nx
      · exact .inr (.inl ⟨decide_eq_false b1, decide_eq_true b2⟩)
      · have : 64 < m := by omega
        exact .inr (.inr ⟨decide_eq_false b1, decide_eq_false b2, decide_eq_true (by omega), decide_eq_true this⟩)
  clear hbad
  unfold rvV
  rcases hcs with t1 | ⟨t1, t2⟩ | ⟨t1, t2, t3, t4⟩
  all_goals
    go_enter Try.func53, Try.ntmps53
    go_wp2_with fail
    exact bodyPost_ret (v := .tuple #[.agg #[.slice none 0 0, .int .i64 0, .int .i64 0, .int .i64 0], .int .i64 2]) (by simp [results, Try.results53, go_sem]) rfl ⟨rfl, gr_alloc (gr_refl w) _⟩

end Go.Proofs.Ytjopobkcijkpmaa
