/-
  Arguments opened: bytes, ints and pieces, wherever they stand in what came in, with the form's reach. No law is proved here.
-/
import Derived.Test.YthpjjoahffagcaaRow
import Derived.Test.YthpjjoahffagcaaPc
import Derived.Deep.SlicePairs
namespace Go.Proofs.Ythpjjoahffagcaa
open Go.ChangeShapes Go.WideShapes Go.ChangeAt Go.RowKit Go.Deep

/-- A datum within the form's reach. -/
def Wt {H : Type} (t : TypeId) (d : DataW H) : Prop := ∀ n ∈ d.weights Try.prog t, n ≤ reachBytes

theorem reach_val : reachBytes = 140737488351232 := by decide

section
variable {H : Type} {enc : TypeId × Value → H} {W : World} {base : Nat} {spare : Nat → Bool} {held : Bool}
theorem Wt.of_each {ts : List TypeId} {ds : List (DataW H)} {j : Nat} {t : TypeId} {d : DataW H} (hz : (DataW.weightsEach Try.prog ts ds).all (· ≤ reachBytes) = true) (ht : ts[j]? = some t) (hd : ds[j]? = some d) : Wt t d :=
  fun n hn => by simpa using List.all_eq_true.1 hz n (DataW.weights_mem_each ht hd n hn)
theorem weights_all {e : TypeId} {l : List (DataW H)} {d : DataW H} (hd : d ∈ l) : ∀ n ∈ d.weights Try.prog e, n ∈ DataW.weightsAll Try.prog e l := by
  induction l with
  | nil => cases hd
  | cons x r ih =>
    intro n hn
    simp only [DataW.weightsAll, List.mem_append]
    rcases List.mem_cons.1 hd with rfl | h
    · exact .inl hn
    · exact .inr (ih h n hn)
theorem Wt.slice {t e : TypeId} {l s : List (DataW H)} (h : Wt t (.slice l s)) (ht : Try.prog.underlying t = some (.slice e)) : (l.length + s.length) * Try.prog.bytesOf e ≤ 140737488351232 ∧ ∀ d ∈ l, Wt e d := by
  unfold Wt at h
  simp only [DataW.weights, ht] at h
  refine ⟨?_, fun d hd n hn => h n (List.mem_cons_of_mem _ (List.mem_append.2 (.inl (weights_all hd n hn))))⟩
  have := h _ (List.mem_cons_self ..)
  rw [reach_val] at this
  exact this
theorem Wt.agg {t : TypeId} {fs : Array Field} {l : List (DataW H)} (h : Wt t (.agg l)) (ht : Try.prog.underlying t = some (.struct fs)) {j : Nat} {f : Field} {d : DataW H} (hf : fs[j]? = some f) (hd : l[j]? = some d) : Wt f.type d := by
  intro n hn
  refine h n ?_
  simp only [DataW.weights, ht]
  exact DataW.weights_mem_each (j := j) (t := f.type) (by simp [hf]) hd n hn

/-- Bytes. -/
theorem op_bytes {fuel : Nat} {cs : List Value} {x : DataW H × List MemPlace} (h : DataW.trod enc Try.prog W base spare held fuel 26 cs = some x) (hw : Wt 26 x.1) (hsp : ∀ k, spare k = true) :
    ∃ A n c l, cs = [.slice A n c] ∧ BR W A n l ∧ n ≤ c ∧ c ≤ 140737488351232 := by
  rcases open_ints Try.underlying26 Try.underlying5 cells_u8 h with ⟨rfl, rfl⟩ | ⟨a, n, c, zs, rfl, _, hl, hm, hz, rfl, hcell, hwz⟩
  · exact ⟨none, 0, 0, [], rfl, BR.none_ _ _, Nat.le_refl _, by omega⟩
  · have hc := (Wt.slice hw Try.underlying26).1
    rw [bytes_u8] at hc
    rw [hsp] at hz
    simp only [if_true] at hz
    simp only [lits, List.length_map, List.length_take, List.length_drop] at hc
    refine ⟨some a, n, c, (zs.take n).map fun z => UInt8.ofNat z.toNat, rfl, ⟨by simp; omega, fun _ => ⟨a, rfl, fun j u hu => ?_⟩⟩, hl, by omega⟩
    have hj : j < n := by
      rcases Nat.lt_or_ge j n with h | h
      · exact h
      · rw [List.getElem?_eq_none (by simp; omega)] at hu
        cases hu
    have hjz : j < zs.length := by omega
    rw [hcell j hjz]
    have hr := bounds_u8 (hwz zs[j] (List.getElem_mem hjz))
    simp [hj, List.getElem?_eq_getElem hjz, bv] at hu
    rw [← hu]
    simp [List.getD, List.getElem?_eq_getElem hjz]
    omega

theorem cells_int : Try.prog.cellsOf 3 = 1 := by kernel_rfl
theorem bytes_int : Try.prog.bytesOf 3 = 8 := by kernel_rfl
theorem cells_piece : Try.prog.cellsOf 29 = 2 := by kernel_rfl
theorem bytes_piece : Try.prog.bytesOf 29 = 32 := by kernel_rfl
theorem cells_bytes : Try.prog.cellsOf 26 = 1 := by kernel_rfl

/-- Pieces. -/
theorem op_pieces {fuel : Nat} {cs : List Value} {x : DataW H × List MemPlace} (h : DataW.trod enc Try.prog W base spare held fuel 22 cs = some x) (hw : Wt 22 x.1) (hsp : ∀ k, spare k = true) :
    ∃ A n c ps, cs = [.slice A n c] ∧ PR W A n ps ∧ n ≤ c ∧ c ≤ 4398046511000 ∧ ∀ p ∈ ps, -9223372036854775808 ≤ p.1 ∧ p.1 ≤ 9223372036854775807 ∧ p.2.length ≤ 140737488351232 := by
  have hu := Try.underlying29
  rcases open_slice_pairs Try.underlying22 hu cells_piece rfl rfl cells_int cells_bytes h with ⟨rfl, rfl⟩ | ⟨a, n, c, m, k, V0, V1, D0, D1, P0, P1, rfl, _, hl, hm, hmm, rfl, he⟩
  · exact ⟨none, 0, 0, [], rfl, PR.none_ _ _, Nat.le_refl _, by omega, fun p hp => by cases hp⟩
  · rw [hsp] at hmm
    simp only [if_true] at hmm
    subst hmm
    obtain ⟨hc, hel⟩ := Wt.slice hw Try.underlying22
    rw [bytes_piece] at hc
    simp only [List.length_map, List.length_range] at hc
    have hone : ∀ i, i < n → ∃ q : Pc × Value, V0 i = .int .i64 q.1.1 ∧ V1 i = q.2 ∧ VB W q.2 q.1.2 ∧ -9223372036854775808 ≤ q.1.1 ∧ q.1.1 ≤ 9223372036854775807 ∧ q.1.2.length ≤ 140737488351232 := by
      intro i hi
      obtain ⟨c0, c1, t0, t1⟩ := he i (by omega)
      obtain ⟨z, e0, _, hz⟩ := DataW.trod_int Try.underlying3 t0
      have hb := bounds_i64 hz
      have hwi : Wt 29 (.agg [D0 i, D1 i]) := hel _ (List.mem_map.2 ⟨i, List.mem_range.2 hi, rfl⟩)
      have hw1 : Wt 26 (D1 i) := hwi.agg hu (j := 1) rfl rfl
      obtain ⟨A, n', c', l, e1, hr, hnc, hcm⟩ := op_bytes t1 hw1 hsp
      injection e0 with e0
      injection e1 with e1
      have hll := hr.len
      subst hll
      exact ⟨((z, l), V1 i), e0, rfl, ⟨A, c', e1, hr, hnc, by simp only [maxLen]; omega⟩, hb.1, hb.2, by dsimp only; omega⟩
    let q : Nat → Pc × Value := fun i => if h : i < n then Classical.choose (hone i h) else ((0, []), .slice none 0 0)
    have hq : ∀ i, i < n → V0 i = .int .i64 (q i).1.1 ∧ V1 i = (q i).2 ∧ VB W (q i).2 (q i).1.2 ∧ -9223372036854775808 ≤ (q i).1.1 ∧ (q i).1.1 ≤ 9223372036854775807 ∧ (q i).1.2.length ≤ 140737488351232 := by
      intro i hi
      have := Classical.choose_spec (hone i hi)
      simp only [q, dif_pos hi]
      exact this
    refine ⟨some a, n, _, (List.range n).map fun i => (q i).1, rfl, ⟨(List.range n).map fun i => ((q i).1.1, (q i).2), ⟨by simp [pcs_length], fun _ => ⟨a, rfl, ?_⟩⟩, by simp, ?_⟩, hl, by omega, ?_⟩
    · intro j u hu
      have hj : j < n * 2 := by
        rcases Nat.lt_or_ge j (n * 2) with h | h
        · exact h
        · rw [List.getElem?_eq_none (by rw [pcs_length]; simp; omega)] at hu
          cases hu
      have hi : j / 2 < n := by omega
      have hpc := pcs_at ((List.range n).map fun i => ((q i).1.1, (q i).2)) (j / 2) ((q (j / 2)).1.1, (q (j / 2)).2) (by simp [hi])
      obtain ⟨c0, c1, _, _⟩ := he (j / 2) (by omega)
      obtain ⟨e0, e1, _⟩ := hq (j / 2) hi
      rcases Nat.mod_two_eq_zero_or_one j with h2 | h2
      · have hj2 : j = j / 2 * 2 := by omega
        rw [hj2] at hu ⊢
        rw [hpc.1] at hu
        rw [c0, ← hu, e0]
      · have hj2 : j = j / 2 * 2 + 1 := by omega
        rw [hj2] at hu ⊢
        have hh : (j / 2 * 2 + 1) / 2 = j / 2 := by omega
        rw [hpc.2] at hu
        rw [c1, ← hu, e1]
    · intro i p r hp hr
      have hi : i < n := by
        rcases Nat.lt_or_ge i n with h | h
        · exact h
        · rw [List.getElem?_eq_none (by simp; omega)] at hp
          cases hp
      simp [hi] at hp hr
      subst hp hr
      exact ⟨rfl, (hq i hi).2.2.1⟩
    · intro p hp
      obtain ⟨i, hi, rfl⟩ := List.mem_map.1 hp
      exact (hq i (List.mem_range.1 hi)).2.2.2

/-- Ints. -/
theorem op_ints {fuel : Nat} {cs : List Value} {x : DataW H × List MemPlace} (h : DataW.trod enc Try.prog W base spare held fuel 48 cs = some x) (hw : Wt 48 x.1) (hsp : ∀ k, spare k = true) :
    ∃ A n c l, cs = [.slice A n c] ∧ IR W A n l ∧ n ≤ c ∧ c ≤ 17592186043904 ∧ ∀ z ∈ l, -9223372036854775808 ≤ z ∧ z ≤ 9223372036854775807 := by
  rcases open_ints Try.underlying48 Try.underlying3 cells_int h with ⟨rfl, rfl⟩ | ⟨a, n, c, zs, rfl, _, hl, hm, hz, rfl, hcell, hwz⟩
  · exact ⟨none, 0, 0, [], rfl, IR.none_ _ _, Nat.le_refl _, by omega, fun z hz => by cases hz⟩
  · have hc := (Wt.slice hw Try.underlying48).1
    rw [bytes_int] at hc
    rw [hsp] at hz
    simp only [if_true] at hz
    simp only [lits, List.length_map, List.length_take, List.length_drop] at hc
    refine ⟨some a, n, c, zs.take n, rfl, ⟨by simp; omega, fun _ => ⟨a, rfl, fun j u hu => ?_⟩⟩, hl, by omega, fun z hz => bounds_i64 (hwz z (List.mem_of_mem_take hz))⟩
    have hj : j < n := by
      rcases Nat.lt_or_ge j n with h | h
      · exact h
      · rw [List.getElem?_eq_none (by simp; omega)] at hu
        cases hu
    have hjz : j < zs.length := by omega
    rw [hcell j hjz]
    simp [hj, List.getElem?_eq_getElem hjz] at hu
    rw [← hu]
    simp [List.getD, List.getElem?_eq_getElem hjz]
end

end Go.Proofs.Ythpjjoahffagcaa
