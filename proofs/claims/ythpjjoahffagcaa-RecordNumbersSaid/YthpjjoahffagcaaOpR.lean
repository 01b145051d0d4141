/-
  Arguments opened: changes and a record, wherever they stand in what came in, with the form's reach. No law is proved here.
-/
import Derived.Test.YthpjjoahffagcaaOpn
import Derived.Test.YthpjjoahffagcaaRecA
import Derived.Lib.SmallJoins
import Derived.Deep.Slices
namespace Go.Proofs.Ythpjjoahffagcaa
open Go.ChangeShapes Go.WideShapes Go.ChangeAt Go.RowKit Go.Deep Go.Joins

theorem cells_change : Try.prog.cellsOf 56 = 3 := by kernel_rfl
theorem bytes_change : Try.prog.bytesOf 56 = 56 := by kernel_rfl
theorem cells_record : Try.prog.cellsOf 38 = 3 := by kernel_rfl
theorem cells_pieces : Try.prog.cellsOf 22 = 1 := by kernel_rfl

/-- What is asked of a change that came in. -/
def chIn (c : Ch) : Prop := c.2.2.length ≤ 9223372036854775807 ∧ ∀ p ∈ c.2.2, p.1 ≤ 9223372036854775807

section
variable {H : Type} {enc : TypeId × Value → H} {W : World} {base : Nat} {spare : Nat → Bool} {held : Bool}

theorem op_changes {fuel : Nat} {cs : List Value} {x : DataW H × List MemPlace} (h : DataW.trod enc Try.prog W base spare held fuel 36 cs = some x) (hw : Wt 36 x.1) (hsp : ∀ k, spare k = true) :
    ∃ A n c l, cs = [.slice A n c] ∧ CR W A n l ∧ n ≤ c ∧ c ≤ 4398046511000 ∧ ∀ ch ∈ l, chIn ch := by
  have hu := Try.underlying56
  rcases open_slice Try.underlying36 h with ⟨rfl, rfl⟩ | ⟨a, n, c, m, k, D, Pl, rfl, _, hl, hm, hmm, rfl, he⟩
  · exact ⟨none, 0, 0, [], rfl, CR.none_ _ _, Nat.le_refl _, by omega, fun p hp => by cases hp⟩
  · rw [hsp] at hmm
    simp only [if_true] at hmm
    subst hmm
    obtain ⟨hc, hel⟩ := Wt.slice hw Try.underlying36
    rw [bytes_change] at hc
    simp only [List.length_map, List.length_range] at hc
    have hone : ∀ i, i < n → ∃ q : Ch × Value × Value, W.cell? (a.add (i * 3)) = some (.int .i64 q.1.1) ∧ W.cell? (a.add (i * 3 + 1)) = some q.2.1 ∧ W.cell? (a.add (i * 3 + 2)) = some q.2.2 ∧ VB W q.2.1 q.1.2.1 ∧ VP W q.2.2 q.1.2.2 ∧ chIn q.1 := by
      intro i hi
      obtain ⟨cs', g1, g2⟩ := he i (by omega)
      rw [cells_change] at g1
      obtain ⟨_, hlen, hcell⟩ := World.cells?_some g1
      have e0 := hcell 0 (by omega)
      have e1 := hcell 1 (by omega)
      have e2 := hcell 2 (by omega)
      rw [add_add] at e0 e1 e2
      have hwi : Wt 56 (D i) := hel _ (List.mem_map.2 ⟨i, List.mem_range.2 hi, rfl⟩)
      obtain ⟨xs, k', hk, hxy, _, hxl, hf⟩ := DataW.trod_struct hu g2
      match xs, hxl, cs', hlen with
      | [y0, y1, y2], _, [v0, v1, v2], _ =>
        have f0 := hf 0 _ rfl
        have f1 := hf 1 _ rfl
        have f2 := hf 2 _ rfl
        simp [cells_int, cells_bytes, cells_pieces] at f0 f1 f2
        simp only [Prod.mk.injEq] at hxy
        have hD := hxy.1
        simp at hD
        rw [hD] at hwi
        obtain ⟨z, z0, _, hz⟩ := DataW.trod_int Try.underlying3 f0
        have hb := bounds_i64 hz
        have hw1 : Wt 26 y1.1 := hwi.agg hu (j := 1) rfl rfl
        have hw2 : Wt 22 y2.1 := hwi.agg hu (j := 2) rfl rfl
        obtain ⟨A1, n1, c1, l1, q1, r1, nc1, cm1⟩ := op_bytes f1 hw1 hsp
        obtain ⟨A2, n2, c2, l2, q2, r2, nc2, cm2, pm2⟩ := op_pieces f2 hw2 hsp
        injection z0 with z0
        injection q1 with q1
        injection q2 with q2
        have hl1 := r1.len
        have hl2 := r2.len
        subst hl1 hl2 z0 q1 q2
        exact ⟨((z, l1, l2), _, _), by simpa using e0, by simpa using e1, by simpa using e2, ⟨A1, c1, rfl, r1, nc1, by simp only [maxLen]; omega⟩, ⟨A2, c2, rfl, r2, nc2, by simp only [maxLen]; omega⟩, by dsimp only; omega, fun p hp => (pm2 p hp).2.1⟩
    let q : Nat → Ch × Value × Value := fun i => if h : i < n then Classical.choose (hone i h) else (ch0, .slice none 0 0, .slice none 0 0)
    have hq : ∀ i, i < n → W.cell? (a.add (i * 3)) = some (.int .i64 (q i).1.1) ∧ W.cell? (a.add (i * 3 + 1)) = some (q i).2.1 ∧ W.cell? (a.add (i * 3 + 2)) = some (q i).2.2 ∧ VB W (q i).2.1 (q i).1.2.1 ∧ VP W (q i).2.2 (q i).1.2.2 ∧ chIn (q i).1 := by
      intro i hi
      have := Classical.choose_spec (hone i hi)
      simp only [q, dif_pos hi]
      exact this
    refine ⟨some a, n, _, (List.range n).map fun i => (q i).1, rfl, ⟨(List.range n).map fun i => ((q i).1.1, (q i).2.1, (q i).2.2), ⟨by simp [chs_length], fun _ => ⟨a, rfl, ?_⟩⟩, by simp, ?_⟩, hl, by omega, ?_⟩
    · intro j u hu
      have hj : j < n * 3 := by
        rcases Nat.lt_or_ge j (n * 3) with h | h
        · exact h
        · rw [List.getElem?_eq_none (by rw [chs_length]; simp; omega)] at hu
          cases hu
      have hi : j / 3 < n := by omega
      have hpc := chs_at ((List.range n).map fun i => ((q i).1.1, (q i).2.1, (q i).2.2)) (j / 3) ((q (j / 3)).1.1, (q (j / 3)).2.1, (q (j / 3)).2.2) (by simp [hi])
      obtain ⟨e0, e1, e2, _⟩ := hq (j / 3) hi
      have h3 : j = j / 3 * 3 ∨ j = j / 3 * 3 + 1 ∨ j = j / 3 * 3 + 2 := by omega
      generalize j / 3 = i at *
      rcases h3 with rfl | rfl | rfl
      · rw [hpc.1] at hu
        rw [e0, ← hu]
      · rw [hpc.2.1] at hu
        rw [e1, ← hu]
      · rw [hpc.2.2] at hu
        rw [e2, ← hu]
    · intro i p r hp hr
      have hi : i < n := by
        rcases Nat.lt_or_ge i n with h | h
        · exact h
        · rw [List.getElem?_eq_none (by simp; omega)] at hp
          cases hp
      simp [hi] at hp hr
      subst hp hr
      exact ⟨rfl, (hq i hi).2.2.2.1, (hq i hi).2.2.2.2.1⟩
    · intro p hp
      obtain ⟨i, hi, rfl⟩ := List.mem_map.1 hp
      exact (hq i (List.mem_range.1 hi)).2.2.2.2.2

/-- A record. -/
theorem op_record {r : Reach} {b0 : Nat} {v : Value} {d : DataW H} {p : List MemPlace} (hv : Value.okWide Try.prog W r b0 38 v) (h : DataW.Trod enc Try.prog W base (fun _ => true) held 38 v d p) (hw : Wt 38 d) :
    ∃ (k : Nat) (tx : Int) (A : Option Addr) (n c : Nat) (l : List Ch), v = .agg #[.int .u8 (k : Int), .int .i64 tx, .slice A n c] ∧ k < 256 ∧ -9223372036854775808 ≤ tx ∧ tx ≤ 9223372036854775807 ∧ CR W A n l ∧ n ≤ c ∧ c ≤ 4398046511000 ∧ ∀ ch ∈ l, chIn ch := by
  obtain ⟨c0, c1, c2, y0, y1, y2, m, rfl, rfl, rfl, h0, h1, h2⟩ := open_agg3 Try.underlying38 (by kernel_rfl) cells_record hv h
  obtain ⟨x, e1, _, wx⟩ := DataW.trod_int Try.underlying35 h0
  obtain ⟨y, e2, _, wy⟩ := DataW.trod_int Try.underlying3 h1
  obtain ⟨A, n, c, l, e0, hl, hnc, hc, hq⟩ := op_changes h2 (hw.agg Try.underlying38 (j := 2) rfl rfl) (fun _ => rfl)
  injection e0 with e0
  injection e1 with e1
  injection e2 with e2
  subst e0 e1 e2
  have bx := bounds_u8 wx
  have by' := bounds_i64 wy
  obtain ⟨k, rfl⟩ := Int.eq_ofNat_of_zero_le bx.1
  exact ⟨k, y, A, n, c, l, rfl, by omega, by'.1, by'.2, hl, hnc, hc, hq⟩
end

end Go.Proofs.Ythpjjoahffagcaa
