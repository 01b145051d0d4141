/-
  Records in memory that came in: a row of them, its parts; and how such an argument is opened.
-/
import Derived.Test.YthpjjoahffagcaaRdM
import Derived.Test.YthpjjoahffagcaaOpR
namespace Go.Proofs.Ythpjjoahffagcaa
open Go.ChangeShapes Go.WideShapes Go.ChangeAt Go.RowKit Go.Deep Go.Joins

theorem rcs_at : ∀ (ps : List (Int × Int × Value)) (i : Nat) (p : Int × Int × Value), ps[i]? = some p → (rcs ps)[i * 3]? = some (.int .u8 p.1) ∧ (rcs ps)[i * 3 + 1]? = some (.int .i64 p.2.1) ∧ (rcs ps)[i * 3 + 2]? = some p.2.2
  | [], i, p, h => by simp at h
  | q :: ps, 0, p, h => by
    simp at h
    subst h
    exact ⟨rfl, rfl, rfl⟩
  | q :: ps, i + 1, p, h => by
    have h' : ps[i]? = some p := by simpa using h
    obtain ⟨h1, h2, h3⟩ := rcs_at ps i p h'
    have e : (i + 1) * 3 = i * 3 + 3 := by omega
    unfold rcs
    rw [e]
    exact ⟨h1, h2, h3⟩

/-- A slice of changes as a value. -/
def VC (w : World) (u : Value) (cs : List Ch) : Prop := ∃ A c, u = .slice A cs.length c ∧ CR w A cs.length cs ∧ cs.length ≤ c ∧ c ≤ maxLen
theorem VC.below {w w' : World} {u : Value} {cs : List Ch} (h : VC w u cs) (hb : Below w.heap.size w w') : VC w' u cs := by
  obtain ⟨A, c, e, h1, h2⟩ := h
  exact ⟨A, c, e, h1.below hb, h2⟩
/-- A row of records that can be read. -/
def RW (w : World) (A : Option Addr) (n : Nat) (rs : List Rec) : Prop :=
  ∃ us : List (Int × Int × Value), Rd w 3 A n (rcs us) ∧ us.length = rs.length ∧ ∀ (i : Nat) (p : Rec) (q : Int × Int × Value), rs[i]? = some p → us[i]? = some q → q.1 = (p.kind : Int) ∧ q.2.1 = p.tx ∧ VC w q.2.2 p.cs
section
variable {w w' : World} {A : Option Addr} {n : Nat} {rs : List Rec}
theorem RW.len (h : RW w A n rs) : rs.length = n := by
  obtain ⟨us, hr, hl, _⟩ := h
  have := hr.1
  rw [rcs_length] at this
  omega
theorem RW.below (h : RW w A n rs) (hb : Below w.heap.size w w') : RW w' A n rs := by
  obtain ⟨us, hr, hl, hv⟩ := h
  exact ⟨us, hr.below hb, hl, fun i p q hp hq => ⟨(hv i p q hp hq).1, (hv i p q hp hq).2.1, (hv i p q hp hq).2.2.below hb⟩⟩
theorem RW.none_ (w : World) (A : Option Addr) : RW w A 0 [] := ⟨[], ⟨rfl, fun h => absurd h (by omega)⟩, rfl, fun i p q h => by simp at h⟩
theorem RW.at_ (h : RW w A n rs) {i : Nat} (hi : i < n) : ∃ g o D d, A = some ⟨g, o, none⟩ ∧ w.cell? ⟨g, o + i * 3, none⟩ = some (.int .u8 ((rs.getD i rec0).kind : Int)) ∧
    w.cell? ⟨g, o + i * 3 + 1, none⟩ = some (.int .i64 (rs.getD i rec0).tx) ∧ w.cell? ⟨g, o + i * 3 + 2, none⟩ = some (.slice D (rs.getD i rec0).cs.length d) ∧
    CR w D (rs.getD i rec0).cs.length (rs.getD i rec0).cs ∧ (rs.getD i rec0).cs.length ≤ d ∧ d ≤ maxLen := by
  have hn := h.len
  obtain ⟨us, hr, hl, hv⟩ := h
  obtain ⟨g, o, e, hc⟩ := Rd.plain hr (by omega) (by omega)
  have hip : rs[i]? = some (rs.getD i rec0) := by simp [List.getD, List.getElem?_eq_getElem (show i < rs.length by omega)]
  have hiu : us[i]? = some (us[i]'(by omega)) := List.getElem?_eq_getElem (by omega)
  obtain ⟨e1, e2, ⟨D, d, e3, r', h3, h4⟩⟩ := hv i _ _ hip hiu
  obtain ⟨c1, c2, c3⟩ := rcs_at us i _ hiu
  refine ⟨g, o, D, d, e, ?_, ?_, ?_, r', h3, h4⟩
  · rw [← e1]; exact hc _ _ c1
  · rw [← e2]; exact hc _ _ c2
  · rw [← e3]; exact hc _ _ c3
end

theorem bytes_record : Try.prog.bytesOf 38 = 40 := by kernel_rfl
theorem cells_changes : Try.prog.cellsOf 36 = 1 := by kernel_rfl
theorem cells_kind : Try.prog.cellsOf 35 = 1 := by kernel_rfl
/-- What is asked of a record that came in. -/
def recIn (r : Rec) : Prop := r.kind < 256 ∧ -9223372036854775808 ≤ r.tx ∧ r.tx ≤ 9223372036854775807 ∧ r.cs.length ≤ 9223372036854775807 ∧ ∀ c ∈ r.cs, chIn c

section
variable {H : Type} {enc : TypeId × Value → H} {W : World} {base : Nat} {spare : Nat → Bool} {held : Bool}
theorem op_records {fuel : Nat} {cs : List Value} {x : DataW H × List MemPlace} (h : DataW.trod enc Try.prog W base spare held fuel 41 cs = some x) (hw : Wt 41 x.1) (hsp : ∀ k, spare k = true) :
    ∃ A n c l, cs = [.slice A n c] ∧ RW W A n l ∧ n ≤ c ∧ c ≤ 4398046511000 ∧ ∀ r ∈ l, recIn r := by
  have hu := Try.underlying38
  rcases open_slice Try.underlying41 h with ⟨rfl, rfl⟩ | ⟨a, n, c, m, k, D, Pl, rfl, _, hl, hm, hmm, rfl, he⟩
  · exact ⟨none, 0, 0, [], rfl, RW.none_ _ _, Nat.le_refl _, by omega, fun p hp => by cases hp⟩
  · rw [hsp] at hmm
    simp only [if_true] at hmm
    subst hmm
    obtain ⟨hc, hel⟩ := Wt.slice hw Try.underlying41
    rw [bytes_record] at hc
    simp only [List.length_map, List.length_range] at hc
    have hone : ∀ i, i < n → ∃ q : Rec × Value, W.cell? (a.add (i * 3)) = some (.int .u8 (q.1.kind : Int)) ∧ W.cell? (a.add (i * 3 + 1)) = some (.int .i64 q.1.tx) ∧ W.cell? (a.add (i * 3 + 2)) = some q.2 ∧ VC W q.2 q.1.cs ∧ recIn q.1 := by
      intro i hi
      obtain ⟨cs', g1, g2⟩ := he i (by omega)
      rw [cells_record] at g1
      obtain ⟨_, hlen, hcell⟩ := World.cells?_some g1
      have e0 := hcell 0 (by omega)
      have e1 := hcell 1 (by omega)
      have e2 := hcell 2 (by omega)
      rw [add_add] at e0 e1 e2
      have hwi : Wt 38 (D i) := hel _ (List.mem_map.2 ⟨i, List.mem_range.2 hi, rfl⟩)
      obtain ⟨xs, k', hk, hxy, _, hxl, hf⟩ := DataW.trod_struct hu g2
      match xs, hxl, cs', hlen with
      | [y0, y1, y2], _, [v0, v1, v2], _ =>
        have f0 := hf 0 _ rfl
        have f1 := hf 1 _ rfl
        have f2 := hf 2 _ rfl
        simp [cells_int, cells_changes, cells_kind] at f0 f1 f2
        simp only [Prod.mk.injEq] at hxy
        have hD := hxy.1
        simp at hD
        rw [hD] at hwi
        obtain ⟨z, z0, _, hz⟩ := DataW.trod_int Try.underlying35 f0
        obtain ⟨t, t0, _, ht⟩ := DataW.trod_int Try.underlying3 f1
        have hb := bounds_u8 hz
        have ht' := bounds_i64 ht
        obtain ⟨zk, rfl⟩ := Int.eq_ofNat_of_zero_le hb.1
        have hw2 : Wt 36 y2.1 := hwi.agg hu (j := 2) rfl rfl
        obtain ⟨A2, n2, c2, l2, q2, r2, nc2, cm2, pm2⟩ := op_changes f2 hw2 hsp
        injection z0 with z0
        injection t0 with t0
        injection q2 with q2
        have hl2 := r2.len
        subst hl2 z0 t0 q2
        exact ⟨(⟨zk, t, l2⟩, _), by simpa using e0, by simpa using e1, by simpa using e2, ⟨A2, c2, rfl, r2, nc2, by simp only [maxLen]; omega⟩, ⟨by dsimp only; omega, ht'.1, ht'.2, by dsimp only; omega, pm2⟩⟩
    let q : Nat → Rec × Value := fun i => if h : i < n then Classical.choose (hone i h) else (rec0, .slice none 0 0)
    have hq : ∀ i, i < n → W.cell? (a.add (i * 3)) = some (.int .u8 ((q i).1.kind : Int)) ∧ W.cell? (a.add (i * 3 + 1)) = some (.int .i64 (q i).1.tx) ∧ W.cell? (a.add (i * 3 + 2)) = some (q i).2 ∧ VC W (q i).2 (q i).1.cs ∧ recIn (q i).1 := by
      intro i hi
      have := Classical.choose_spec (hone i hi)
      simp only [q, dif_pos hi]
      exact this
    refine ⟨some a, n, _, (List.range n).map fun i => (q i).1, rfl, ⟨(List.range n).map fun i => (((q i).1.kind : Int), (q i).1.tx, (q i).2), ⟨by simp [rcs_length], fun _ => ⟨a, rfl, ?_⟩⟩, by simp, ?_⟩, hl, by omega, ?_⟩
    · intro j u hu
      have hj : j < n * 3 := by
        rcases Nat.lt_or_ge j (n * 3) with h | h
        · exact h
        · rw [List.getElem?_eq_none (by rw [rcs_length]; simp; omega)] at hu
          cases hu
      have hi : j / 3 < n := by omega
      have hpc := rcs_at ((List.range n).map fun i => (((q i).1.kind : Int), (q i).1.tx, (q i).2)) (j / 3) (((q (j / 3)).1.kind : Int), (q (j / 3)).1.tx, (q (j / 3)).2) (by simp [hi])
      obtain ⟨e0, e1, e2, _⟩ := hq (j / 3) hi
      have h3 : j = j / 3 * 3 ∨ j = j / 3 * 3 + 1 ∨ j = j / 3 * 3 + 2 := by omega
      generalize j / 3 = i at *
      rcases h3 with rfl | rfl | rfl
      · rw [hpc.1] at hu
        rw [e0, ← hu]
      · rw [hpc.2.1] at hu
        rw [e1, ← hu]
      · rw [hpc.2.2] at hu
        rw [e2, ← hu]
    · intro i p r hp hr
      have hi : i < n := by
        rcases Nat.lt_or_ge i n with h | h
        · exact h
        · rw [List.getElem?_eq_none (by simp; omega)] at hp
          cases hp
      simp [hi] at hp hr
      subst hp hr
      exact ⟨rfl, rfl, (hq i hi).2.2.2.1⟩
    · intro p hp
      obtain ⟨i, hi, rfl⟩ := List.mem_map.1 hp
      exact (hq i (List.mem_range.1 hi)).2.2.2.2
end

end Go.Proofs.Ythpjjoahffagcaa
