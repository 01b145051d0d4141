/-
  Arguments opened: members, grants, tables, steps, strings, bools. No law is proved here.
-/
import Derived.Test.YtfgkadkmgciamaaRow
import Derived.Test.YtfgkadkmgciamaaRoL
import Derived.Lib.SmallJoins
import Derived.Deep.Slices
import Derived.Deep.Grids
import Derived.ChangeArms
namespace Go.Proofs.Ytfgkadkmgciamaa
open Go.ChangeShapes Go.WideShapes Go.ChangeAt Go.RowKit Go.Deep Go.Joins

/-- A datum within the form's reach. -/
def Wt {H : Type} (t : TypeId) (d : DataW H) : Prop := ∀ n ∈ d.weights Try.prog t, n ≤ reachBytes

theorem reach_val : reachBytes = 140737488351232 := by decide

section
variable {H : Type} {enc : TypeId × Value → H} {W : World} {base : Nat} {spare : Nat → Bool} {held : Bool}
theorem Wt.of_each {ts : List TypeId} {ds : List (DataW H)} {j : Nat} {t : TypeId} {d : DataW H} (hz : (DataW.weightsEach Try.prog ts ds).all (· ≤ reachBytes) = true) (ht : ts[j]? = some t) (hd : ds[j]? = some d) : Wt t d :=
  fun n hn => by simpa using List.all_eq_true.1 hz n (DataW.weights_mem_each ht hd n hn)
theorem weights_all {e : TypeId} {l : List (DataW H)} {d : DataW H} (hd : d ∈ l) : ∀ n ∈ d.weights Try.prog e, n ∈ DataW.weightsAll Try.prog e l := by
  induction l with
  | nil => cases hd
  | cons x r ih =>
    intro n hn
    simp only [DataW.weightsAll, List.mem_append]
    rcases List.mem_cons.1 hd with rfl | h
    · exact .inl hn
    · exact .inr (ih h n hn)
theorem Wt.slice {t e : TypeId} {l s : List (DataW H)} (h : Wt t (.slice l s)) (ht : Try.prog.underlying t = some (.slice e)) : (l.length + s.length) * Try.prog.bytesOf e ≤ 140737488351232 ∧ ∀ d ∈ l, Wt e d := by
  unfold Wt at h
  simp only [DataW.weights, ht] at h
  refine ⟨?_, fun d hd n hn => h n (List.mem_cons_of_mem _ (List.mem_append.2 (.inl (weights_all hd n hn))))⟩
  have := h _ (List.mem_cons_self ..)
  rw [reach_val] at this
  exact this
theorem Wt.agg {t : TypeId} {fs : Array Field} {l : List (DataW H)} (h : Wt t (.agg l)) (ht : Try.prog.underlying t = some (.struct fs)) {j : Nat} {f : Field} {d : DataW H} (hf : fs[j]? = some f) (hd : l[j]? = some d) : Wt f.type d := by
  intro n hn
  refine h n ?_
  simp only [DataW.weights, ht]
  exact DataW.weights_mem_each (j := j) (t := f.type) (by simp [hf]) hd n hn


/-- A slice of bools. -/
def LR (w : World) (A : Option Addr) (n : Nat) (l : List Bool) : Prop := Rd w 1 A n (l.map Value.bool)
theorem add_add (a : Addr) (i j : Nat) : (a.add i).add j = a.add (i + j) := by unfold Addr.add; by_cases hi : i = 0 <;> by_cases hj : j = 0 <;> simp [hi, hj, Nat.add_assoc]
theorem cells_bool : Try.prog.cellsOf 4 = 1 := by kernel_rfl
theorem bytes_bool : Try.prog.bytesOf 4 = 1 := by kernel_rfl
/-- Bools. -/
theorem op_bools {fuel : Nat} {cs : List Value} {x : DataW H × List MemPlace} (h : DataW.trod enc Try.prog W base (fun _ => true) held fuel 59 cs = some x) (hw : Wt 59 x.1) :
    ∃ A n c l, cs = [.slice A n c] ∧ LR W A n l ∧ n ≤ c ∧ c ≤ 140737488351232 := by
  rcases open_bools Try.underlying59 Try.underlying4 cells_bool h with ⟨rfl, rfl⟩ | ⟨a, n, c, B, rfl, _, hl, hm, rfl, hcell⟩
  · exact ⟨none, 0, 0, [], rfl, ⟨rfl, fun h => absurd h (by omega)⟩, Nat.le_refl _, by omega⟩
  · have hc := (Wt.slice hw Try.underlying59).1
    rw [bytes_bool] at hc
    simp only [List.length_map, List.length_range] at hc
    refine ⟨some a, n, c, (List.range n).map B, rfl, ⟨by simp, fun _ => ⟨a, rfl, fun j u hu => ?_⟩⟩, hl, by omega⟩
    have hj : j < n := by
      rcases Nat.lt_or_ge j n with h | h
      · exact h
      · rw [List.getElem?_eq_none (by simp; omega)] at hu
        cases hu
    rw [hcell j (by omega)]
    simp [hj] at hu
    rw [← hu]

theorem list_cons {α : Type} {n : Nat} (l : List α) (h : l.length = n + 1) : ∃ v r, l = v :: r ∧ r.length = n := by
  cases l with
  | nil => cases h
  | cons v r => exact ⟨v, r, rfl, by simpa using h⟩

theorem cells_str : Try.prog.cellsOf 9 = 1 := by kernel_rfl
theorem bytes_str : Try.prog.bytesOf 9 = 16 := by kernel_rfl
theorem cells_priv : Try.prog.cellsOf 28 = 1 := by kernel_rfl
theorem cells_cols : Try.prog.cellsOf 33 = 1 := by kernel_rfl
theorem cells_strs : Try.prog.cellsOf 40 = 1 := by kernel_rfl
theorem cells_mb : Try.prog.cellsOf 52 = 2 := by kernel_rfl
theorem bytes_mb : Try.prog.bytesOf 52 = 32 := by kernel_rfl
theorem cells_gr : Try.prog.cellsOf 30 = 5 := by kernel_rfl
theorem bytes_gr : Try.prog.bytesOf 30 = 64 := by kernel_rfl
theorem cells_tb : Try.prog.cellsOf 35 = 3 := by kernel_rfl
theorem bytes_tb : Try.prog.bytesOf 35 = 56 := by kernel_rfl
theorem str_eta (s : ByteArray) : Value.string s = .string ⟨s.data.toList.toArray⟩ := rfl

section
variable {H : Type} {enc : TypeId × Value → H} {W : World} {base : Nat} {held : Bool}
theorem el_str {fuel : Nat} {v : Value} {x : DataW H × List MemPlace} (h : DataW.trod enc Try.prog W base (fun _ => true) held fuel 9 [v] = some x) : ∃ s : Str, v = .string ⟨s.toArray⟩ ∧ s.length ≤ maxLen := by
  obtain ⟨s, e, _, hs⟩ := DataW.trod_string Try.underlying9 h
  injection e with e
  exact ⟨s.data.toList, e.trans (str_eta s), by rw [Array.length_toList]; exact hs⟩
set_option maxRecDepth 100000 in
theorem el_mb {fuel : Nat} {cs : List Value} {x : DataW H × List MemPlace} (h : DataW.trod enc Try.prog W base (fun _ => true) held fuel 52 cs = some x) (hl : cs.length = 2) : ∃ m : Mb, cs = EM m ∧ m.1.length ≤ maxLen ∧ m.2.length ≤ maxLen := by
  obtain ⟨xs, k', hk, hxy, _, hxl, hf⟩ := DataW.trod_struct Try.underlying52 h
  obtain ⟨v0, r0, rfl, h0⟩ := list_cons cs hl
  obtain ⟨v1, r1, rfl, h1⟩ := list_cons r0 h0
  obtain rfl : r1 = [] := List.length_eq_zero_iff.1 h1
  obtain ⟨y0, q0, rfl, k0⟩ := list_cons xs hxl
  obtain ⟨y1, q1, rfl, k1⟩ := list_cons q0 k0
  obtain rfl : q1 = [] := List.length_eq_zero_iff.1 k1
  have f0 := hf 0 _ rfl
  have f1 := hf 1 _ rfl
  simp [cells_str] at f0 f1
  obtain ⟨s0, rfl, l0⟩ := el_str f0
  obtain ⟨s1, rfl, l1⟩ := el_str f1
  exact ⟨(s0, s1), rfl, l0, l1⟩
set_option maxRecDepth 100000 in
theorem el_gr {fuel : Nat} {cs : List Value} {x : DataW H × List MemPlace} (h : DataW.trod enc Try.prog W base (fun _ => true) held fuel 30 cs = some x) (hl : cs.length = 5) : ∃ g : Gr, cs = EG g ∧ g.gt.length ≤ maxLen ∧ g.gb.length ≤ maxLen := by
  obtain ⟨xs, k', hk, hxy, _, hxl, hf⟩ := DataW.trod_struct Try.underlying30 h
  obtain ⟨v0, r0, rfl, h0⟩ := list_cons cs hl
  obtain ⟨v1, r1, rfl, h1⟩ := list_cons r0 h0
  obtain ⟨v2, r2, rfl, h2⟩ := list_cons r1 h1
  obtain ⟨v3, r3, rfl, h3⟩ := list_cons r2 h2
  obtain ⟨v4, r4, rfl, h4⟩ := list_cons r3 h3
  obtain rfl : r4 = [] := List.length_eq_zero_iff.1 h4
  obtain ⟨y0, q0, rfl, k0⟩ := list_cons xs hxl
  obtain ⟨y1, q1, rfl, k1⟩ := list_cons q0 k0
  obtain ⟨y2, q2, rfl, k2⟩ := list_cons q1 k1
  obtain ⟨y3, q3, rfl, k3⟩ := list_cons q2 k2
  obtain ⟨y4, q4, rfl, k4⟩ := list_cons q3 k3
  obtain rfl : q4 = [] := List.length_eq_zero_iff.1 k4
  have f0 := hf 0 _ rfl
  have f1 := hf 1 _ rfl
  have f2 := hf 2 _ rfl
  have f3 := hf 3 _ rfl
  have f4 := hf 4 _ rfl
  simp [cells_str, cells_priv, cells_bool] at f0 f1 f2 f3 f4
  obtain ⟨s0, rfl, l0⟩ := el_str f0
  obtain ⟨p, e1, _, _⟩ := DataW.trod_int Try.underlying28 f1
  injection e1 with e1
  obtain ⟨s2, rfl, l2⟩ := el_str f2
  obtain ⟨s3, rfl, l3⟩ := el_str f3
  obtain ⟨o, e4, _⟩ := DataW.trod_bool Try.underlying4 f4
  injection e4 with e4
  subst e1 e4
  exact ⟨⟨s0, p, s2, s3, o⟩, rfl, l2, l3⟩
set_option maxRecDepth 100000 in
theorem el_tb {fuel : Nat} {cs : List Value} {x : DataW H × List MemPlace} (h : DataW.trod enc Try.prog W base (fun _ => true) held fuel 35 cs = some x) (hl : cs.length = 3) : ∃ t : Tb, cs = ET t ∧ t.2.1.length ≤ maxLen := by
  obtain ⟨xs, k', hk, hxy, _, hxl, hf⟩ := DataW.trod_struct Try.underlying35 h
  obtain ⟨v0, r0, rfl, h0⟩ := list_cons cs hl
  obtain ⟨v1, r1, rfl, h1⟩ := list_cons r0 h0
  obtain ⟨v2, r2, rfl, h2⟩ := list_cons r1 h1
  obtain rfl : r2 = [] := List.length_eq_zero_iff.1 h2
  obtain ⟨y0, q0, rfl, k0⟩ := list_cons xs hxl
  obtain ⟨y1, q1, rfl, k1⟩ := list_cons q0 k0
  obtain ⟨y2, q2, rfl, k2⟩ := list_cons q1 k1
  obtain rfl : q2 = [] := List.length_eq_zero_iff.1 k2
  have f0 := hf 0 _ rfl
  have f1 := hf 1 _ rfl
  have f2 := hf 2 _ rfl
  simp [cells_str, cells_cols] at f0 f1 f2
  obtain ⟨s0, rfl, l0⟩ := el_str f0
  obtain ⟨s1, rfl, l1⟩ := el_str f1
  rcases open_slice Try.underlying33 f2 with ⟨e, _⟩ | ⟨a, n, c, m, k, D, Pl, e, _⟩
  · injection e with e
    subst e
    exact ⟨(s0, s1, none, 0, 0), rfl, l1⟩
  · injection e with e
    subst e
    exact ⟨(s0, s1, some a, n, c), rfl, l1⟩

theorem op_rows {α : Type} {E : α → List Value} {k : Nat} {Q : α → Prop} {ts te : TypeId} {bytes : Nat} (hus : Try.prog.underlying ts = some (.slice te)) (hck : Try.prog.cellsOf te = k) (hbk : Try.prog.bytesOf te = bytes) (hk0 : 0 < k) (hE : ∀ x, (E x).length = k)
    (hel : ∀ (fuel : Nat) (cs : List Value) (x : DataW H × List MemPlace), DataW.trod enc Try.prog W base (fun _ => true) held fuel te cs = some x → cs.length = k → ∃ a, cs = E a ∧ Q a)
    {fuel : Nat} {cs : List Value} {x : DataW H × List MemPlace} (h : DataW.trod enc Try.prog W base (fun _ => true) held fuel ts cs = some x) (hw : Wt ts x.1) :
    ∃ A n c l, cs = [.slice A n c] ∧ ER E k W A n l ∧ n ≤ c ∧ n * bytes ≤ 140737488351232 ∧ c ≤ maxLen ∧ ∀ a ∈ l, Q a := by
  rcases open_slice hus h with ⟨rfl, rfl⟩ | ⟨a, n, c, m, k', D, Pl, rfl, _, hl, hm, hmm, rfl, he⟩
  · exact ⟨none, 0, 0, [], rfl, ER.none_ _ _, Nat.le_refl _, by omega, by simp [maxLen], fun a ha => by cases ha⟩
  · simp only [if_true] at hmm
    subst hmm
    obtain ⟨hc, hwe⟩ := Wt.slice hw hus
    rw [hbk] at hc
    simp only [List.length_map, List.length_range] at hc
    have hnb : n * bytes ≤ 140737488351232 := Nat.le_trans (Nat.mul_le_mul_right _ (Nat.le_add_right _ _)) hc
    have hone : ∀ i, i < n → ∃ y, Q y ∧ ∀ j v, (E y)[j]? = some v → W.cell? (a.add (i * k + j)) = some v := by
      intro i hi
      obtain ⟨cs', g1, g2⟩ := he i (by omega)
      rw [hck] at g1
      obtain ⟨_, hlen, hcell⟩ := World.cells?_some g1
      obtain ⟨y, rfl, hq⟩ := hel _ _ _ g2 hlen
      refine ⟨y, hq, fun j v hj => ?_⟩
      have hjk : j < k := by rw [← hE y]; exact (List.getElem?_eq_some_iff.1 hj).1
      have e0 := hcell j (by omega)
      rw [add_add] at e0
      rw [e0]
      exact hj
    by_cases h0 : n = 0
    · subst h0
      exact ⟨some a, 0, _, [], rfl, ER.none_ _ _, hl, hnb, hm, fun a ha => by cases ha⟩
    · obtain ⟨y0, _⟩ := hone 0 (by omega)
      let q : Nat → α := fun i => if h : i < n then Classical.choose (hone i h) else y0
      have hq : ∀ i, i < n → Q (q i) ∧ ∀ j v, (E (q i))[j]? = some v → W.cell? (a.add (i * k + j)) = some v := by
        intro i hi
        have := Classical.choose_spec (hone i hi)
        simp only [q, dif_pos hi]
        exact this
      refine ⟨some a, n, _, (List.range n).map q, rfl, ⟨by simp, ?_, fun _ => ⟨a, rfl, fun j u hu => ?_⟩⟩, hl, hnb, hm, fun y hy => ?_⟩
      · have : ∀ (l : List α), (l.flatMap E).length = l.length * k := fun l => by
          induction l with
          | nil => simp
          | cons z l ih => rw [List.flatMap_cons, List.length_append, hE, ih, List.length_cons, Nat.succ_mul]; omega
        rw [this]
        simp
      · have hlen : (((List.range n).map q).flatMap E).length = n * k := by
          have : ∀ (l : List α), (l.flatMap E).length = l.length * k := fun l => by
            induction l with
            | nil => simp
            | cons z l ih => rw [List.flatMap_cons, List.length_append, hE, ih, List.length_cons, Nat.succ_mul]; omega
          rw [this]
          simp
        have hjn : j < n * k := by rw [← hlen]; exact (List.getElem?_eq_some_iff.1 hu).1
        have hi : j / k < n := (Nat.div_lt_iff_lt_mul hk0).2 hjn
        have hr : j % k < k := Nat.mod_lt _ hk0
        have hj : j / k * k + j % k = j := Nat.div_add_mod' j k
        have e1 := flat_at hE ((List.range n).map q) (j / k) (j % k) (q (j / k)) (by simp [hi]) hr
        rw [hj, hu] at e1
        have := (hq _ hi).2 _ _ e1.symm
        rw [hj] at this
        exact this
      · obtain ⟨i, hi, rfl⟩ := List.mem_map.1 hy
        exact (hq i (List.mem_range.1 hi)).1
theorem op_members {fuel : Nat} {cs : List Value} {x : DataW H × List MemPlace} (h : DataW.trod enc Try.prog W base (fun _ => true) held fuel 50 cs = some x) (hw : Wt 50 x.1) :
    ∃ A n c l, cs = [.slice A n c] ∧ ER EM 2 W A n l ∧ n ≤ c ∧ n * 32 ≤ 140737488351232 ∧ c ≤ maxLen ∧ ∀ m ∈ l, m.1.length ≤ maxLen ∧ m.2.length ≤ maxLen :=
  op_rows Try.underlying50 cells_mb bytes_mb (by decide) EM_len (fun _ _ _ h hl => el_mb h hl) h hw
theorem op_grants {fuel : Nat} {cs : List Value} {x : DataW H × List MemPlace} (h : DataW.trod enc Try.prog W base (fun _ => true) held fuel 22 cs = some x) (hw : Wt 22 x.1) :
    ∃ A n c l, cs = [.slice A n c] ∧ ER EG 5 W A n l ∧ n ≤ c ∧ n * 64 ≤ 140737488351232 ∧ c ≤ maxLen ∧ ∀ g ∈ l, g.gt.length ≤ maxLen ∧ g.gb.length ≤ maxLen :=
  op_rows Try.underlying22 cells_gr bytes_gr (by decide) EG_len (fun _ _ _ h hl => el_gr h hl) h hw
theorem op_tables {fuel : Nat} {cs : List Value} {x : DataW H × List MemPlace} (h : DataW.trod enc Try.prog W base (fun _ => true) held fuel 23 cs = some x) (hw : Wt 23 x.1) :
    ∃ A n c l, cs = [.slice A n c] ∧ ER ET 3 W A n l ∧ n ≤ c ∧ n * 56 ≤ 140737488351232 ∧ c ≤ maxLen ∧ ∀ t ∈ l, t.2.1.length ≤ maxLen :=
  op_rows Try.underlying23 cells_tb bytes_tb (by decide) ET_len (fun _ _ _ h hl => el_tb h hl) h hw
theorem op_strs {fuel : Nat} {cs : List Value} {x : DataW H × List MemPlace} (h : DataW.trod enc Try.prog W base (fun _ => true) held fuel 40 cs = some x) (hw : Wt 40 x.1) :
    ∃ A n c l, cs = [.slice A n c] ∧ ER ES 1 W A n l ∧ n ≤ c ∧ n * 16 ≤ 140737488351232 ∧ c ≤ maxLen ∧ ∀ s ∈ l, s.length ≤ maxLen :=
  op_rows Try.underlying40 cells_str bytes_str (by decide) ES_len (fun _ cs _ h hl => by
    obtain ⟨v, r, rfl, hr⟩ := list_cons cs hl
    obtain rfl : r = [] := List.length_eq_zero_iff.1 hr
    obtain ⟨s, rfl, hs⟩ := el_str h
    exact ⟨s, rfl, hs⟩) h hw
set_option maxRecDepth 100000 in
theorem op_member {r : _root_.Go.Reach} {b0 : Nat} {v : Value} {d : DataW H} {p : List MemPlace} (hv : Value.okWide Try.prog W r b0 52 v) (h : DataW.Trod enc Try.prog W base (fun _ => true) held 52 v d p) :
    ∃ m : Mb, v = .agg #[.string ⟨m.1.toArray⟩, .string ⟨m.2.toArray⟩] ∧ m.1.length ≤ maxLen ∧ m.2.length ≤ maxLen := by
  obtain ⟨c0, c1, y0, y1, m, rfl, rfl, rfl, h0, h1⟩ := open_agg2 Try.underlying52 (by kernel_rfl) cells_mb hv h
  obtain ⟨s0, rfl, l0⟩ := el_str h0
  obtain ⟨s1, rfl, l1⟩ := el_str h1
  exact ⟨(s0, s1), rfl, l0, l1⟩
end
end

end Go.Proofs.Ytfgkadkmgciamaa
