/-
  The reference of chapter 03: is, Durable, Read.
-/
import Derived.Test.YtjopobkcijkpmaaDpA
namespace Go.Proofs.Ytjopobkcijkpmaa
open Go.RowKit

/-- A reference disk in a variable. -/
def B6 (w : World) (g : Nat) (x0 x1 x2 x3 x4 x5 : Value) : Prop := w.heap[g]? = some (.cells #[x0, x1, x2, x3, x4, x5] 66 (0, 0))
section
variable {w w' : World} {g : Nat} {x0 x1 x2 x3 x4 x5 : Value}
theorem B6.new (w : World) (x0 x1 x2 x3 x4 x5 : Value) : B6 (w.alloc (.cells #[x0, x1, x2, x3, x4, x5] 66)) w.heap.size x0 x1 x2 x3 x4 x5 := heap_alloc_new w _
theorem B6.below (h : B6 w g x0 x1 x2 x3 x4 x5) (hb : Below w.heap.size w w') : B6 w' g x0 x1 x2 x3 x4 x5 := (hb.block _ (Array.getElem?_eq_some_iff.1 h).1).trans h
theorem B6.c0 (h : B6 w g x0 x1 x2 x3 x4 x5) : w.cell? ⟨g, 0, none⟩ = some x0 := by rw [cell_of_row w g 0 _ _ _ h]; rfl
theorem B6.c1 (h : B6 w g x0 x1 x2 x3 x4 x5) : w.cell? ⟨g, 1, none⟩ = some x1 := by rw [cell_of_row w g 1 _ _ _ h]; rfl
theorem B6.c2 (h : B6 w g x0 x1 x2 x3 x4 x5) : w.cell? ⟨g, 2, none⟩ = some x2 := by rw [cell_of_row w g 2 _ _ _ h]; rfl
theorem B6.c3 (h : B6 w g x0 x1 x2 x3 x4 x5) : w.cell? ⟨g, 3, none⟩ = some x3 := by rw [cell_of_row w g 3 _ _ _ h]; rfl
theorem B6.c4 (h : B6 w g x0 x1 x2 x3 x4 x5) : w.cell? ⟨g, 4, none⟩ = some x4 := by rw [cell_of_row w g 4 _ _ _ h]; rfl
theorem B6.c5 (h : B6 w g x0 x1 x2 x3 x4 x5) : w.cell? ⟨g, 5, none⟩ = some x5 := by rw [cell_of_row w g 5 _ _ _ h]; rfl
theorem B6.fz (h : B6 w g x0 x1 x2 x3 x4 x5) (j : Nat) : w.frozen? ⟨g, j, none⟩ = false := by unfold B6 at h; simp [World.frozen?, h]
end

set_option maxRecDepth 100000 in
theorem refIs_any (bA wA : Option Addr) (bn bc wn wc : Nat) (dn : Bool) (po fa wi b : Int) (w : World) :
    Calls Try.prog 102 #[.agg #[.slice bA bn bc, .slice wA wn wc, .bool dn, .int .i64 po, .int .i64 fa, .int .i64 wi], .int .i64 b] w fun e w' => e = .returned (.bool (decide (0 ≤ b ∧ b < (bn : Int)))) ∧ Below w.heap.size w w' := by
  have hb := gr_alloc (gr_refl w) (.cells #[.slice bA bn bc, .slice wA wn wc, .bool dn, .int .i64 po, .int .i64 fa, .int .i64 wi] 66)
  by_cases h0 : 0 ≤ b
  · have t0 : decide (0 ≤ b) = true := decide_eq_true h0
    cases h1 : decide (b < (bn : Int))
    all_goals
      go_enter Try.func102, Try.ntmps102
      go_wp2_with fail
      go_ret
      refine ⟨?_, hb⟩
      simp at h1
      simp [h0, h1]
  · have t0 : decide (0 ≤ b) = false := decide_eq_false h0
    go_enter Try.func102, Try.ntmps102
    go_wp2_with fail
    go_ret
    exact ⟨by simp, hb⟩

theorem ask_is (D : DiskS) (b : Int) : askE D b = if decide (0 ≤ b ∧ b < (D.blocks.length : Int)) = true then 0 else 2 := by
  unfold askE
  by_cases h : 0 ≤ b ∧ b < (D.blocks.length : Int)
  · rw [if_neg (by omega), if_pos (decide_eq_true h)]
  · rw [if_pos (by omega), if_neg (by rw [decide_eq_false h]; simp)]

set_option maxRecDepth 100000 in
set_option maxHeartbeats 1000000 in
theorem refDurable_any (G : Nat → Prop) (v : Value) (D : DiskS) (b : Int) (w : World) (h : RK G w v D) :
    Calls Try.prog 85 #[v, .int .i64 b] w fun e w' => ∃ u, e = .returned (.tuple #[u, .int .i64 (askE D b)]) ∧ (askE D b = 0 → VG G w u (durL D b)) ∧ (askE D b ≠ 0 → u = .slice none 0 0) ∧ Below w.heap.size w w' := by
  obtain ⟨bA, bc, wA, wc, bus, wus, rfl, k1, k2, k3, k4, hd⟩ := h
  have hb := gr_alloc (gr_refl w) (.cells #[.slice bA D.blocks.length bc, .slice wA D.pending.length wc, .bool D.down, .int .i64 D.power, .int .i64 D.fault, .int .i64 D.wi] 66)
  have hx := B6.new w (.slice bA D.blocks.length bc) (.slice wA D.pending.length wc) (.bool D.down) (.int .i64 D.power) (.int .i64 D.fault) (.int .i64 D.wi)
  have IS := Lib.hid (fun W => refIs_any bA wA D.blocks.length bc D.pending.length wc D.down D.power D.fault D.wi b W)
  have HB := Lib.hid hb
  have HX := Lib.hid hx
  have HA := Lib.hid (ask_is D b)
  clear hb hx
  by_cases hin : 0 ≤ b ∧ b < (D.blocks.length : Int)
  · obtain ⟨i, rfl⟩ := Int.eq_ofNat_of_zero_le hin.1
    have hil : i < D.blocks.length := by omega
    obtain ⟨g, o, u, rfl, hc, hv⟩ := hd.bat hil
    have HE : Hid (askE D (i : Int) = 0) := Lib.hid (by rw [HA.out, if_pos (decide_eq_true hin)])
    have HV : Hid (VG G w u (durL D (i : Int))) := Lib.hid (by unfold durL; rw [if_pos HE.out, Int.toNat_natCast]; exact hv)
    rw [decide_eq_true hin] at IS
    have HC := Lib.hid hc
    obtain ⟨_, Au, cu, rfl, _, _, _, _⟩ := hv
    have i0 : (0 : Int) ≤ (i : Int) := Int.natCast_nonneg _
    have i1 : (i : Int) < (D.blocks.length : Int) := hin.2
    clear hin hd hc HA
    generalize D.blocks.length = bn at *
    generalize D.pending.length = wn at *
    go_enter Try.func85, Try.ntmps85
    go_wp2_with fail
    generalize w.alloc (.cells #[.slice (some ⟨g, o, none⟩) bn bc, .slice wA wn wc, .bool D.down, .int .i64 D.power, .int .i64 D.fault, .int .i64 D.wi] 66) = w0 at *
    refine (IS.out w0).mono ?_
    rintro e w1 ⟨rfl, hb1⟩
    have y0 := (HX.out.below hb1).c0
    have hc1 := keep_of_below hb1 (keep_of_below HB.out HC.out)
    have HW := Lib.hid (gr_trans HB.out hb1)
    clear hb1
    go_wp2_with fail
    go_ret2
    rw [HE.out]
    exact ⟨_, rfl, fun _ => HV.out, fun h => absurd rfl h, HW.out⟩
  · have HE : Hid (askE D b = 2) := Lib.hid (by rw [HA.out, if_neg (by rw [decide_eq_false hin]; simp)])
    rw [decide_eq_false hin] at IS
    clear hin hd HA
    generalize D.blocks.length = bn at *
    generalize D.pending.length = wn at *
    go_enter Try.func85, Try.ntmps85
    go_wp2_with fail
    generalize w.alloc (.cells #[.slice bA bn bc, .slice wA wn wc, .bool D.down, .int .i64 D.power, .int .i64 D.fault, .int .i64 D.wi] 66) = w0 at *
    refine (IS.out w0).mono ?_
    rintro e w1 ⟨rfl, hb1⟩
    go_wp2_with fail
    go_ret2
    rw [HE.out]
    exact ⟨_, rfl, fun h => absurd h (by decide), fun _ => rfl, gr_trans HB.out hb1⟩

end Go.Proofs.Ytjopobkcijkpmaa
