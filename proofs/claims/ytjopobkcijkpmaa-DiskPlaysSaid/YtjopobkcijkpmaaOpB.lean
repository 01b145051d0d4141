/-
  Arguments opened: bytes, ints, bools and a crash, wherever they stand in what came in, with the form's reach. No law is proved here.
-/
import Derived.Test.YtjopobkcijkpmaaRow
import Derived.Test.YtjopobkcijkpmaaDkF
import Derived.Lib.SmallJoins
import Derived.Deep.Grids
namespace Go.Proofs.Ytjopobkcijkpmaa
open Go.ChangeShapes Go.WideShapes Go.ChangeAt Go.RowKit Go.Deep Go.Joins

/-- A datum within the form's reach. -/
def Wt {H : Type} (t : TypeId) (d : DataW H) : Prop := ∀ n ∈ d.weights Try.prog t, n ≤ reachBytes

theorem reach_val : reachBytes = 140737488351232 := by decide

section
variable {H : Type} {enc : TypeId × Value → H} {W : World} {base : Nat} {spare : Nat → Bool} {held : Bool}
theorem Wt.of_each {ts : List TypeId} {ds : List (DataW H)} {j : Nat} {t : TypeId} {d : DataW H} (hz : (DataW.weightsEach Try.prog ts ds).all (· ≤ reachBytes) = true) (ht : ts[j]? = some t) (hd : ds[j]? = some d) : Wt t d :=
  fun n hn => by simpa using List.all_eq_true.1 hz n (DataW.weights_mem_each ht hd n hn)
theorem weights_all {e : TypeId} {l : List (DataW H)} {d : DataW H} (hd : d ∈ l) : ∀ n ∈ d.weights Try.prog e, n ∈ DataW.weightsAll Try.prog e l := by
  induction l with
  | nil => cases hd
  | cons x r ih =>
    intro n hn
    simp only [DataW.weightsAll, List.mem_append]
    rcases List.mem_cons.1 hd with rfl | h
    · exact .inl hn
    · exact .inr (ih h n hn)
theorem Wt.slice {t e : TypeId} {l s : List (DataW H)} (h : Wt t (.slice l s)) (ht : Try.prog.underlying t = some (.slice e)) : (l.length + s.length) * Try.prog.bytesOf e ≤ 140737488351232 ∧ ∀ d ∈ l, Wt e d := by
  unfold Wt at h
  simp only [DataW.weights, ht] at h
  refine ⟨?_, fun d hd n hn => h n (List.mem_cons_of_mem _ (List.mem_append.2 (.inl (weights_all hd n hn))))⟩
  have := h _ (List.mem_cons_self ..)
  rw [reach_val] at this
  exact this
theorem Wt.agg {t : TypeId} {fs : Array Field} {l : List (DataW H)} (h : Wt t (.agg l)) (ht : Try.prog.underlying t = some (.struct fs)) {j : Nat} {f : Field} {d : DataW H} (hf : fs[j]? = some f) (hd : l[j]? = some d) : Wt f.type d := by
  intro n hn
  refine h n ?_
  simp only [DataW.weights, ht]
  exact DataW.weights_mem_each (j := j) (t := f.type) (by simp [hf]) hd n hn

/-- Bytes. -/
theorem op_bytes {fuel : Nat} {cs : List Value} {x : DataW H × List MemPlace} (h : DataW.trod enc Try.prog W base spare held fuel 33 cs = some x) (hw : Wt 33 x.1) (hsp : ∀ k, spare k = true) :
    ∃ A n c l, cs = [.slice A n c] ∧ BR W A n l ∧ n ≤ c ∧ c ≤ 140737488351232 := by
  rcases open_ints Try.underlying33 Try.underlying5 cells_u8 h with ⟨rfl, rfl⟩ | ⟨a, n, c, zs, rfl, _, hl, hm, hz, rfl, hcell, hwz⟩
  · exact ⟨none, 0, 0, [], rfl, BR.none_ _ _, Nat.le_refl _, by omega⟩
  · have hc := (Wt.slice hw Try.underlying33).1
    rw [bytes_u8] at hc
    rw [hsp] at hz
    simp only [if_true] at hz
    simp only [lits, List.length_map, List.length_take, List.length_drop] at hc
    refine ⟨some a, n, c, (zs.take n).map fun z => UInt8.ofNat z.toNat, rfl, ⟨by simp; omega, fun _ => ⟨a, rfl, fun j u hu => ?_⟩⟩, hl, by omega⟩
    have hj : j < n := by
      rcases Nat.lt_or_ge j n with h | h
      · exact h
      · rw [List.getElem?_eq_none (by simp; omega)] at hu
        cases hu
    have hjz : j < zs.length := by omega
    rw [hcell j hjz]
    have hr := bounds_u8 (hwz zs[j] (List.getElem_mem hjz))
    simp [hj, List.getElem?_eq_getElem hjz, bv] at hu
    rw [← hu]
    simp [List.getD, List.getElem?_eq_getElem hjz]
    omega

theorem cells_int : Try.prog.cellsOf 3 = 1 := by kernel_rfl
theorem bytes_int : Try.prog.bytesOf 3 = 8 := by kernel_rfl

/-- Ints. -/
theorem op_ints {fuel : Nat} {cs : List Value} {x : DataW H × List MemPlace} (h : DataW.trod enc Try.prog W base spare held fuel 22 cs = some x) (hw : Wt 22 x.1) (hsp : ∀ k, spare k = true) :
    ∃ A n c l, cs = [.slice A n c] ∧ IR W A n l ∧ n ≤ c ∧ c ≤ 17592186043904 ∧ ∀ z ∈ l, -9223372036854775808 ≤ z ∧ z ≤ 9223372036854775807 := by
  rcases open_ints Try.underlying22 Try.underlying3 cells_int h with ⟨rfl, rfl⟩ | ⟨a, n, c, zs, rfl, _, hl, hm, hz, rfl, hcell, hwz⟩
  · exact ⟨none, 0, 0, [], rfl, IR.none_ _ _, Nat.le_refl _, by omega, fun z hz => by cases hz⟩
  · have hc := (Wt.slice hw Try.underlying22).1
    rw [bytes_int] at hc
    rw [hsp] at hz
    simp only [if_true] at hz
    simp only [lits, List.length_map, List.length_take, List.length_drop] at hc
    refine ⟨some a, n, c, zs.take n, rfl, ⟨by simp; omega, fun _ => ⟨a, rfl, fun j u hu => ?_⟩⟩, hl, by omega, fun z hz => bounds_i64 (hwz z (List.mem_of_mem_take hz))⟩
    have hj : j < n := by
      rcases Nat.lt_or_ge j n with h | h
      · exact h
      · rw [List.getElem?_eq_none (by simp; omega)] at hu
        cases hu
    have hjz : j < zs.length := by omega
    rw [hcell j hjz]
    simp [hj, List.getElem?_eq_getElem hjz] at hu
    rw [← hu]
    simp [List.getD, List.getElem?_eq_getElem hjz]

theorem cells_bool : Try.prog.cellsOf 4 = 1 := by kernel_rfl
theorem bytes_bool : Try.prog.bytesOf 4 = 1 := by kernel_rfl
theorem cells_crash : Try.prog.cellsOf 25 = 3 := by kernel_rfl

/-- Bools. -/
theorem op_bools {fuel : Nat} {cs : List Value} {x : DataW H × List MemPlace} (h : DataW.trod enc Try.prog W base (fun _ => true) held fuel 23 cs = some x) (hw : Wt 23 x.1) :
    ∃ A n c l, cs = [.slice A n c] ∧ LR W A n l ∧ n ≤ c ∧ c ≤ 140737488351232 := by
  rcases open_bools Try.underlying23 Try.underlying4 cells_bool h with ⟨rfl, rfl⟩ | ⟨a, n, c, B, rfl, _, hl, hm, rfl, hcell⟩
  · exact ⟨none, 0, 0, [], rfl, ⟨rfl, fun h => absurd h (by omega)⟩, Nat.le_refl _, by omega⟩
  · have hc := (Wt.slice hw Try.underlying23).1
    rw [bytes_bool] at hc
    simp only [List.length_map, List.length_range] at hc
    refine ⟨some a, n, c, (List.range n).map B, rfl, ⟨by simp, fun _ => ⟨a, rfl, fun j u hu => ?_⟩⟩, hl, by omega⟩
    have hj : j < n := by
      rcases Nat.lt_or_ge j n with h | h
      · exact h
      · rw [List.getElem?_eq_none (by simp; omega)] at hu
        cases hu
    rw [hcell j (by omega)]
    simp [hj] at hu
    rw [← hu]

set_option maxRecDepth 100000 in
/-- A crash, by value. -/
theorem op_crash {r : Reach} {b0 : Nat} {v : Value} {d : DataW H} {p : List MemPlace} (hv : Value.okWide Try.prog W r b0 25 v) (h : DataW.Trod enc Try.prog W base (fun _ => true) held 25 v d p) (hw : Wt 25 d) :
    ∃ K nk ck keep torn cut, v = .agg #[.slice K nk ck, .int .i64 torn, .int .i64 cut] ∧ LR W K nk keep ∧ nk ≤ ck ∧ ck ≤ 140737488351232 ∧ -9223372036854775808 ≤ torn ∧ torn ≤ 9223372036854775807 ∧ -9223372036854775808 ≤ cut ∧ cut ≤ 9223372036854775807 := by
  obtain ⟨c0, c1, c2, y0, y1, y2, m, rfl, rfl, rfl, h0, h1, h2⟩ := open_agg3 Try.underlying25 (by kernel_rfl) cells_crash hv h
  obtain ⟨A, n, c, l, e0, hl, hnc, hc⟩ := op_bools h0 (hw.agg Try.underlying25 (j := 0) rfl rfl)
  obtain ⟨x, e1, _, wx⟩ := DataW.trod_int Try.underlying3 h1
  obtain ⟨y, e2, _, wy⟩ := DataW.trod_int Try.underlying3 h2
  injection e0 with e0
  injection e1 with e1
  injection e2 with e2
  subst e0 e1 e2
  have bx := bounds_i64 wx
  have by' := bounds_i64 wy
  exact ⟨A, n, c, l, x, y, rfl, hl, hnc, hc, bx.1, bx.2, by'.1, by'.2⟩
end

end Go.Proofs.Ytjopobkcijkpmaa
