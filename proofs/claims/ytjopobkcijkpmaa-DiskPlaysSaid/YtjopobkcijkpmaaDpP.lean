/-
  An argument opened: chapter 03's script.
-/
import Derived.Test.YtjopobkcijkpmaaOpB
import Derived.Deep.Slices
namespace Go.Proofs.Ytjopobkcijkpmaa
open Go.ChangeShapes Go.WideShapes Go.ChangeAt Go.RowKit Go.Deep Go.Joins

/-- A call of the script. -/
structure Sc where
  kd : Int
  on : Int
  bt : Int
  sd : Int
  sh : Bool
  nn : Int
  er : Int
  keep : List Bool
  torn : Int
  cut : Int
/-- A call in memory. -/
def SC (W : World) (g o : Nat) (s : Sc) : Prop := ∃ K nk ck, W.cell? ⟨g, o, none⟩ = some (.int .i64 s.kd) ∧ W.cell? ⟨g, o + 1, none⟩ = some (.int .i64 s.on) ∧ W.cell? ⟨g, o + 2, none⟩ = some (.int .i64 s.bt) ∧ W.cell? ⟨g, o + 3, none⟩ = some (.int .i64 s.sd) ∧ W.cell? ⟨g, o + 4, none⟩ = some (.bool s.sh) ∧ W.cell? ⟨g, o + 5, none⟩ = some (.int .i64 s.nn) ∧ W.cell? ⟨g, o + 6, none⟩ = some (.int .i64 s.er) ∧ W.cell? ⟨g, o + 7, none⟩ = some (.slice K nk ck) ∧ W.cell? ⟨g, o + 8, none⟩ = some (.int .i64 s.torn) ∧ W.cell? ⟨g, o + 9, none⟩ = some (.int .i64 s.cut) ∧ LR W K nk s.keep ∧ nk ≤ 140737488351232 ∧ s.nn ≤ 9223372036854775807 ∧ -9223372036854775808 ≤ s.on ∧ s.on ≤ 9223372036854775807
/-- The script in memory. -/
def SR (w : World) (A : Option Addr) (n : Nat) (l : List Sc) : Prop := l.length = n ∧ ∀ i, i < n → ∃ g o s, A = some ⟨g, o, none⟩ ∧ l[i]? = some s ∧ SC w g (o + i * 10) s

theorem cells_sop : Try.prog.cellsOf 72 = 10 := by kernel_rfl
theorem cells_bools : Try.prog.cellsOf 23 = 1 := by kernel_rfl

theorem list_cons {α : Type} {n : Nat} (l : List α) (h : l.length = n + 1) : ∃ v r, l = v :: r ∧ r.length = n := by
  cases l with
  | nil => cases h
  | cons v r => exact ⟨v, r, rfl, by simpa using h⟩
theorem list_8 {α : Type} (l : List α) (h : l.length = 8) : ∃ v0 v1 v2 v3 v4 v5 v6 v7, l = [v0, v1, v2, v3, v4, v5, v6, v7] := by
  obtain ⟨v0, r0, rfl, h0⟩ := list_cons l h
  obtain ⟨v1, r1, rfl, h1⟩ := list_cons r0 h0
  obtain ⟨v2, r2, rfl, h2⟩ := list_cons r1 h1
  obtain ⟨v3, r3, rfl, h3⟩ := list_cons r2 h2
  obtain ⟨v4, r4, rfl, h4⟩ := list_cons r3 h3
  obtain ⟨v5, r5, rfl, h5⟩ := list_cons r4 h4
  obtain ⟨v6, r6, rfl, h6⟩ := list_cons r5 h5
  obtain ⟨v7, r7, rfl, h7⟩ := list_cons r6 h6
  obtain rfl : r7 = [] := List.length_eq_zero_iff.1 h7
  exact ⟨v0, v1, v2, v3, v4, v5, v6, v7, rfl⟩
theorem list_10 {α : Type} (l : List α) (h : l.length = 10) : ∃ v0 v1 v2 v3 v4 v5 v6 v7 v8 v9, l = [v0, v1, v2, v3, v4, v5, v6, v7, v8, v9] := by
  obtain ⟨v0, r0, rfl, h0⟩ := list_cons l h
  obtain ⟨v1, r1, rfl, h1⟩ := list_cons r0 h0
  obtain ⟨v2, r2, rfl, h2⟩ := list_cons r1 h1
  obtain ⟨v3, r3, rfl, h3⟩ := list_cons r2 h2
  obtain ⟨v4, r4, rfl, h4⟩ := list_cons r3 h3
  obtain ⟨v5, r5, rfl, h5⟩ := list_cons r4 h4
  obtain ⟨v6, r6, rfl, h6⟩ := list_cons r5 h5
  obtain ⟨v7, r7, rfl, h7⟩ := list_cons r6 h6
  obtain ⟨v8, r8, rfl, h8⟩ := list_cons r7 h7
  obtain ⟨v9, r9, rfl, h9⟩ := list_cons r8 h8
  obtain rfl : r9 = [] := List.length_eq_zero_iff.1 h9
  exact ⟨v0, v1, v2, v3, v4, v5, v6, v7, v8, v9, rfl⟩
section
variable {H : Type} {enc : TypeId × Value → H} {W : World} {base : Nat} {held : Bool}
set_option maxRecDepth 100000 in
theorem op_script {fuel : Nat} {cs : List Value} {x : DataW H × List MemPlace} (h : DataW.trod enc Try.prog W base (fun _ => true) held fuel 63 cs = some x) (hw : Wt 63 x.1) :
    ∃ A n c l, cs = [.slice A n c] ∧ SR W A n l ∧ n ≤ c ∧ c ≤ maxLen := by
  have hu := Try.underlying72
  rcases open_slice Try.underlying63 h with ⟨rfl, rfl⟩ | ⟨a, n, c, m, k, D, Pl, rfl, _, hl, hm, hmm, rfl, he⟩
  · exact ⟨none, 0, 0, [], rfl, ⟨rfl, fun i hi => by omega⟩, Nat.le_refl _, by simp [maxLen]⟩
  · simp only [if_true] at hmm
    subst hmm
    obtain ⟨hc, hel⟩ := Wt.slice hw Try.underlying63
    rcases Nat.eq_zero_or_pos n with h0 | h0
    · exact ⟨some a, n, _, [], rfl, ⟨h0.symm, fun i hi => by omega⟩, hl, hm⟩
    · obtain ⟨g, o, sp⟩ := a
      have hsp : sp = none := by
        obtain ⟨cs', g1, _⟩ := he 0 (by omega)
        rw [cells_sop] at g1
        obtain ⟨_, hlen, hcell⟩ := World.cells?_some g1
        have e0 := hcell 0 (by omega)
        rw [List.getElem?_eq_getElem (by omega)] at e0
        have := World.cell?_spot e0
        simpa [Addr.add] using this
      subst hsp
      have hone : ∀ i, i < n → ∃ s, SC W g (o + i * 10) s := by
        intro i hi
        obtain ⟨cs', g1, g2⟩ := he i (by omega)
        rw [cells_sop] at g1
        obtain ⟨_, hlen, hcell⟩ := World.cells?_some g1
        have hwi : Wt 72 (D i) := hel _ (List.mem_map.2 ⟨i, List.mem_range.2 (by omega), rfl⟩)
        obtain ⟨xs, k', hk, hxy, _, hxl, hf⟩ := DataW.trod_struct hu g2
        obtain ⟨v0, v1, v2, v3, v4, v5, v6, v7, v8, v9, rfl⟩ := list_10 cs' hlen
        obtain ⟨y0, y1, y2, y3, y4, y5, y6, y7, rfl⟩ := list_8 xs hxl
        have e0 := hcell 0 (by omega)
        have e1 := hcell 1 (by omega)
        have e2 := hcell 2 (by omega)
        have e3 := hcell 3 (by omega)
        have e4 := hcell 4 (by omega)
        have e5 := hcell 5 (by omega)
        have e6 := hcell 6 (by omega)
        have e7 := hcell 7 (by omega)
        have e8 := hcell 8 (by omega)
        have e9 := hcell 9 (by omega)
        rw [add_add] at e0 e1 e2 e3 e4 e5 e6 e7 e8 e9
        have f0 := hf 0 _ rfl
        have f1 := hf 1 _ rfl
        have f2 := hf 2 _ rfl
        have f3 := hf 3 _ rfl
        have f4 := hf 4 _ rfl
        have f5 := hf 5 _ rfl
        have f6 := hf 6 _ rfl
        have f7 := hf 7 _ rfl
        simp [cells_int, cells_bool, cells_crash] at f0 f1 f2 f3 f4 f5 f6 f7
        simp only [Prod.mk.injEq] at hxy
        have hD := hxy.1
        simp at hD
        rw [hD] at hwi
        have hw7 : Wt 25 y7.1 := hwi.agg hu (j := 7) rfl rfl
        obtain ⟨z0, q0, _, b0⟩ := DataW.trod_int Try.underlying3 f0
        obtain ⟨z1, q1, _, b1⟩ := DataW.trod_int Try.underlying3 f1
        obtain ⟨z2, q2, _, b2⟩ := DataW.trod_int Try.underlying3 f2
        obtain ⟨z3, q3, _, b3⟩ := DataW.trod_int Try.underlying3 f3
        obtain ⟨z4, q4, _⟩ := DataW.trod_bool Try.underlying4 f4
        obtain ⟨z5, q5, _, b5⟩ := DataW.trod_int Try.underlying3 f5
        obtain ⟨z6, q6, _, b6⟩ := DataW.trod_int Try.underlying3 f6
        have hu7 := Try.underlying25
        obtain ⟨xs, k'', hk', hxy', _, hxl', hf'⟩ := DataW.trod_struct hu7 f7
        obtain ⟨u0, r0, rfl, hr0⟩ := list_cons xs hxl'
        obtain ⟨u1, r1, rfl, hr1⟩ := list_cons r0 hr0
        obtain ⟨u2, r2, rfl, hr2⟩ := list_cons r1 hr1
        obtain rfl : r2 = [] := List.length_eq_zero_iff.1 hr2
        have g0 := hf' 0 _ rfl
        have g1 := hf' 1 _ rfl
        have g2 := hf' 2 _ rfl
        simp [cells_int, cells_bools] at g0 g1 g2
        have hD7 : y7.1 = .agg [u0.1, u1.1, u2.1] := by rw [hxy']; rfl
        rw [hD7] at hw7
        have hwk : Wt 23 u0.1 := hw7.agg hu7 (j := 0) rfl rfl
        obtain ⟨K, nk, ck, keep, q7, hLR, hnk, hck⟩ := op_bools g0 hwk
        obtain ⟨z8, q8, _, b8⟩ := DataW.trod_int Try.underlying3 g1
        obtain ⟨z9, q9, _, b9⟩ := DataW.trod_int Try.underlying3 g2
        injection q0 with q0
        injection q1 with q1
        injection q2 with q2
        injection q3 with q3
        injection q4 with q4
        injection q5 with q5
        injection q6 with q6
        injection q7 with q7
        injection q8 with q8
        injection q9 with q9
        subst q0 q1 q2 q3 q4 q5 q6 q7 q8 q9
        simp [Addr.add_lit] at e0 e1 e2 e3 e4 e5 e6 e7 e8 e9
        exact ⟨⟨z0, z1, z2, z3, z4, z5, z6, keep, z8, z9⟩, ⟨K, nk, ck, e0, e1, e2, e3, e4, e5, e6, e7, e8, e9, hLR, by omega, (bounds_i64 b5).2, (bounds_i64 b1).1, (bounds_i64 b1).2⟩⟩
      have sc0 : Sc := ⟨0, 0, 0, 0, false, 0, 0, [], 0, 0⟩
      let q : Nat → Sc := fun i => if h : i < n then Classical.choose (hone i h) else sc0
      have hq : ∀ i, i < n → SC W g (o + i * 10) (q i) := by
        intro i hi
        have := Classical.choose_spec (hone i hi)
        simp only [q, dif_pos hi]
        exact this
      exact ⟨_, n, _, (List.range n).map q, rfl, ⟨by simp, fun i hi => ⟨g, o, q i, rfl, by simp [hi], hq i hi⟩⟩, hl, hm⟩
end

end Go.Proofs.Ytjopobkcijkpmaa
