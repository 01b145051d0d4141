/-
  Contracts: the document's table: find, All, is, IsOpen, by.
-/
import Derived.Test.YtjopobkcijkpmaaSnU
import Derived.Test.YtjopobkcijkpmaaSnR
namespace Go.Proofs.Ytjopobkcijkpmaa
open Go.RowKit

def oneC (o : Int × Int × Int) : List Value := [.int .i64 o.1, .int .i64 o.2.1, .int .i64 o.2.2]
def onesC (l : List (Int × Int × Int)) : List Value := l.flatMap oneC
theorem ones_len (l : List (Int × Int × Int)) : (onesC l).length = l.length * 3 := by
  unfold onesC
  induction l with
  | nil => rfl
  | cons a l ih => rw [List.flatMap_cons, List.length_append, ih, List.length_cons]; simp [oneC]; omega
theorem ones_get (l : List (Int × Int × Int)) : ∀ k, k < l.length → (onesC l)[k * 3]? = some (.int .i64 (l.getD k (0, 0, 0)).1) ∧ (onesC l)[k * 3 + 1]? = some (.int .i64 (l.getD k (0, 0, 0)).2.1) ∧ (onesC l)[k * 3 + 2]? = some (.int .i64 (l.getD k (0, 0, 0)).2.2) := by
  induction l with
  | nil => intro k hk; simp at hk
  | cons a l ih =>
    intro k hk
    cases k with
    | zero => exact ⟨rfl, rfl, rfl⟩
    | succ k =>
      have := ih k (by simpa using hk)
      have e : ∀ j, (onesC (a :: l))[(k + 1) * 3 + j]? = (onesC l)[k * 3 + j]? := fun j => by
        unfold onesC
        rw [List.flatMap_cons, List.getElem?_append_right (by simp [oneC]; omega)]
        congr 1
        simp [oneC]
        omega
      rw [show (k + 1) * 3 = (k + 1) * 3 + 0 from rfl, e 0, e 1, e 2]
      simpa using this
theorem ones_one (l : List (Int × Int × Int)) : ∀ u ∈ onesC l, u.oneCell' = true := by
  intro u hu
  obtain ⟨o, _, hu⟩ := List.mem_flatMap.1 hu
  simp [oneC] at hu
  rcases hu with rfl | rfl | rfl <;> rfl
theorem ones_snoc (l : List (Int × Int × Int)) (o : Int × Int × Int) : onesC (l ++ [o]) = onesC l ++ oneC o := by simp [onesC]

/-- The document's table in memory: its list. -/
def R3 (w : World) (A : Option Addr) (n : Nat) (l : List (Int × Int × Int)) : Prop := Rd w 3 A n (onesC l) ∧ l.length = n
section
variable {w w' : World} {A : Option Addr} {n : Nat} {l : List (Int × Int × Int)}
theorem R3.below (h : R3 w A n l) (hb : Below w.heap.size w w') : R3 w' A n l := ⟨h.1.below hb, h.2⟩
theorem R3.at_ (h : R3 w A n l) {k : Nat} (hk : k < n) : ∃ g o, A = some ⟨g, o, none⟩ ∧ w.cell? ⟨g, o + k * 3, none⟩ = some (.int .i64 (l.getD k (0, 0, 0)).1) ∧ w.cell? ⟨g, o + k * 3 + 1, none⟩ = some (.int .i64 (l.getD k (0, 0, 0)).2.1) ∧ w.cell? ⟨g, o + k * 3 + 2, none⟩ = some (.int .i64 (l.getD k (0, 0, 0)).2.2) := by
  obtain ⟨g, o, e, hc⟩ := Rd.plain h.1 (by omega) (by omega)
  obtain ⟨h0, h1, h2⟩ := ones_get l k (by rw [h.2]; exact hk)
  refine ⟨g, o, e, hc _ _ h0, ?_, ?_⟩
  · rw [Nat.add_assoc]; exact hc _ _ h1
  · rw [Nat.add_assoc]; exact hc _ _ h2
end

/-- The document's table as a value. -/
def rvV (A : Option Addr) (n c : Nat) (f ne la : Int) : Value := .agg #[.slice A n c, .int .i64 f, .int .i64 ne, .int .i64 la]
/-- .. in a variable. -/
def BX (w : World) (g : Nat) (A : Option Addr) (n c : Nat) (f ne la : Int) : Prop := w.heap[g]? = some (.cells #[.slice A n c, .int .i64 f, .int .i64 ne, .int .i64 la] 92 (0, 0))
section
variable {w w' : World} {g : Nat} {A : Option Addr} {n c : Nat} {f ne la : Int}
theorem BX.new (w : World) (A : Option Addr) (n c : Nat) (f ne la : Int) : BX (w.alloc (.cells #[.slice A n c, .int .i64 f, .int .i64 ne, .int .i64 la] 92)) w.heap.size A n c f ne la := heap_alloc_new w _
theorem BX.lt (h : BX w g A n c f ne la) : g < w.heap.size := (Array.getElem?_eq_some_iff.1 h).1
theorem BX.off {S : Nat → Prop} (h : BX w g A n c f ne la) (ho : Off S w w') (hg : ¬ S g) : BX w' g A n c f ne la := (ho.block g h.lt hg).trans h
theorem BX.below (h : BX w g A n c f ne la) (hb : Below w.heap.size w w') : BX w' g A n c f ne la := (hb.block g h.lt).trans h
theorem BX.frozen (h : BX w g A n c f ne la) (j : Nat) : w.frozen? ⟨g, j, none⟩ = false := by unfold BX at h; simp [World.frozen?, h]
theorem BX.c0 (h : BX w g A n c f ne la) : w.cell? ⟨g, 0, none⟩ = some (.slice A n c) := by rw [cell_of_row w g 0 _ _ _ h]; rfl
theorem BX.c1 (h : BX w g A n c f ne la) : w.cell? ⟨g, 1, none⟩ = some (.int .i64 f) := by rw [cell_of_row w g 1 _ _ _ h]; rfl
theorem BX.c2 (h : BX w g A n c f ne la) : w.cell? ⟨g, 2, none⟩ = some (.int .i64 ne) := by rw [cell_of_row w g 2 _ _ _ h]; rfl
theorem BX.c3 (h : BX w g A n c f ne la) : w.cell? ⟨g, 3, none⟩ = some (.int .i64 la) := by rw [cell_of_row w g 3 _ _ _ h]; rfl
theorem BX.s0 {A' : Option Addr} {n' c' : Nat} (h : BX w g A n c f ne la) : BX (w.setCell ⟨g, 0, none⟩ (.slice A' n' c')) g A' n' c' f ne la := by unfold BX at h ⊢; simp only [World.setCell, Array.getElem?_modify, if_pos, h]; rfl
theorem BX.s2 {x : Int} (h : BX w g A n c f ne la) : BX (w.setCell ⟨g, 2, none⟩ (.int .i64 x)) g A n c f x la := by unfold BX at h ⊢; simp only [World.setCell, Array.getElem?_modify, if_pos, h]; rfl
theorem BX.s3 {x : Int} (h : BX w g A n c f ne la) : BX (w.setCell ⟨g, 3, none⟩ (.int .i64 x)) g A n c f ne x := by unfold BX at h ⊢; simp only [World.setCell, Array.getElem?_modify, if_pos, h]; rfl
end

theorem OR.gr2 {W wr w' : World} {e : TypeId} {base n : Nat} {v : Value} {xs : List Value} (hb : Below W.heap.size W wr) (h : OR wr base e v n xs) (hbase : W.heap.size ≤ base) (hg : wr.grownBy w' v.ownBlock) : Below W.heap.size W w' :=
  hb.grown hg hb.size (fun k e => Nat.le_trans hbase (h.lt k e).1)

theorem OR.intAt {w : World} {base n : Nat} {e : TypeId} {v : Value} {l : List Int} (h : OR w base e v n (l.map (Value.int .i64))) {k : Nat} (hk : k < n) : ∃ q o c, v = .slice (some ⟨q, o, none⟩) n c ∧ w.cell? ⟨q, o + k, none⟩ = some (.int .i64 (l.getD k 0)) := by
  obtain ⟨g, o, c, u, e1, hu, hc⟩ := h.at_ hk
  refine ⟨g, o, c, e1, ?_⟩
  rw [hc]
  rw [List.getElem?_map] at hu
  cases hl : l[k]? with
  | none => rw [hl] at hu; cases hu
  | some x => rw [hl] at hu; simp at hu; rw [← hu]; simp [List.getD, hl]

theorem fndI_take {l : List (Int × Int × Int)} {x : Int} {k : Nat} (hk : k < l.length) (hb : ∀ j, j < k → (l.getD j (0, 0, 0)).1 ≠ x) (he : (l.getD k (0, 0, 0)).1 = x) : fndI l x = k := by
  unfold fndI
  have : l.findIdx? (fun o => o.1 == x) = some k := by
    rw [List.findIdx?_eq_some_iff_getElem]
    refine ⟨hk, ?_, fun j hj => ?_⟩
    · simpa [List.getD, List.getElem?_eq_getElem hk] using he
    · have := hb j hj
      simpa [List.getD, List.getElem?_eq_getElem (show j < l.length by omega)] using this
  rw [this]
theorem fndI_none {l : List (Int × Int × Int)} {x : Int} (hb : ∀ j, j < l.length → (l.getD j (0, 0, 0)).1 ≠ x) : fndI l x = -1 := by
  unfold fndI
  have : l.findIdx? (fun o => o.1 == x) = none := by
    rw [List.findIdx?_eq_none_iff]
    intro o ho
    obtain ⟨i, hi, rfl⟩ := List.getElem_of_mem ho
    have := hb i hi
    simpa [List.getD, List.getElem?_eq_getElem hi] using this
  rw [this]

set_option maxRecDepth 100000 in
set_option maxHeartbeats 1000000 in
theorem rfind_any (A : Option Addr) (n c : Nat) (f ne la x : Int) (l : List (Int × Int × Int)) (w : World) (hr : R3 w A n l) (hn : n ≤ 1000000) :
    Calls Try.prog 91 #[rvV A n c f ne la, .int .i64 x] w fun e w' => e = .returned (.int .i64 (fndI l x)) ∧ Below w.heap.size w w' := by
  have hb0 := gr_alloc (gr_refl w) (.cells #[.slice A n c, .int .i64 f, .int .i64 ne, .int .i64 la] 92)
  have c0 := (BX.new w A n c f ne la).c0
  have HTK : Hid (∀ k, k < n → (∀ j, j < k → (l.getD j (0, 0, 0)).1 ≠ x) → (l.getD k (0, 0, 0)).1 = x → fndI l x = k) := Lib.hid (fun k hk h1 h2 => fndI_take (by rw [hr.2]; exact hk) h1 h2)
  have HNO : Hid ((∀ j, j < n → (l.getD j (0, 0, 0)).1 ≠ x) → fndI l x = -1) := Lib.hid (fun h => fndI_none (fun j hj => h j (by rw [← hr.2]; exact hj)))
  generalize fndI l x = r at *
  have HB := Lib.hid hb0
  have HR := Lib.hid (fun (W : World) (hW : Below w.heap.size w W) => hr.below hW)
  clear hb0 hr
  unfold rvV
  go_enter Try.func91, Try.ntmps91
  go_wp2_with fail
  generalize w.alloc (.cells #[.slice A n c, .int .i64 f, .int .i64 ne, .int .i64 la] 92) = W at *
  go_loop [5] (fun i => ∃ k : Nat, k ≤ n ∧ i = .int .i64 k ∧ Hid (∀ j, j < k → (l.getD j (0, 0, 0)).1 ≠ x)) (fun i => n - (intOf i).toNat)
  case atStart => exact ⟨0, by omega, rfl, Lib.hid (fun j hj => by omega)⟩
  case round =>
    obtain ⟨k, hk, rfl, HK⟩ := hrel
    by_cases hlt : k < n
    · have t1 : decide ((k : Int) < (n : Int)) = true := by simp; omega
      have t2 : decide (k < n) = true := by simp; omega
      have i0 : (0 : Int) ≤ (k : Int) := Int.natCast_nonneg _
      have i1 : (k : Int) < (n : Int) := by omega
      obtain ⟨g, o, rfl, d0, _, _⟩ := (HR.out W HB.out).at_ hlt
      by_cases he : (l.getD k (0, 0, 0)).1 = x
      · have hrk := HTK.out k hlt HK.out he
        rw [he] at d0
        have t3 : (x == x) = true := by simp
        subst hrk
        clear he
        go_wp2_with fail
        go_ret
        exact ⟨rfl, HB.out⟩
      · have HK' : Hid (∀ j, j < k + 1 → (l.getD j (0, 0, 0)).1 ≠ x) := Lib.hid (fun j hj => by
          rcases Nat.lt_or_ge j k with h | h
          · exact HK.out j h
          · rw [show j = k by omega]; exact he)
        have t3 : ((l.getD k (0, 0, 0)).1 == x) = false := by simpa using he
        generalize (l.getD k (0, 0, 0)).1 = y at *
        clear he
        go_wp2_with fail
        go_round
        case rel => exact ⟨k + 1, by omega, by go_num, HK'⟩
        case measure => simp [intOf]; omega
    · have t1 : decide ((k : Int) < (n : Int)) = false := by simp; omega
      have t2 : decide (k < n) = false := by simp; omega
      have hrk := HNO.out (fun j hj => HK.out j (by omega))
      subst hrk
      go_wp2_with fail
      go_ret
      exact ⟨rfl, HB.out⟩

theorem all_snoc_yes {l : List (Int × Int × Int)} {k : Nat} {t : Int} (hk : k < l.length) (h : (l.getD k (0, 0, 0)).2.1 = t) : allR (l.take (k + 1)) t = allR (l.take k) t ++ [(l.getD k (0, 0, 0)).1] := by
  unfold allR
  have e : l.getD k (0, 0, 0) = l[k] := by simp [List.getD, List.getElem?_eq_getElem hk]
  rw [e] at h ⊢
  rw [List.take_succ_eq_append_getElem hk, List.filter_append, List.map_append]
  simp [h]
theorem all_snoc_no {l : List (Int × Int × Int)} {k : Nat} {t : Int} (hk : k < l.length) (h : (l.getD k (0, 0, 0)).2.1 ≠ t) : allR (l.take (k + 1)) t = allR (l.take k) t := by
  unfold allR
  have e : l.getD k (0, 0, 0) = l[k] := by simp [List.getD, List.getElem?_eq_getElem hk]
  rw [e] at h
  rw [List.take_succ_eq_append_getElem hk, List.filter_append, List.map_append]
  simp [h]
theorem all_len (l : List (Int × Int × Int)) (t : Int) : (allR l t).length ≤ l.length := by
  unfold allR
  rw [List.length_map]
  exact List.length_filter_le _ _

set_option maxRecDepth 100000 in
set_option maxHeartbeats 1000000 in
theorem rAll_any (A : Option Addr) (n c : Nat) (f ne la t : Int) (l : List (Int × Int × Int)) (w : World) (hr : R3 w A n l) (hn : n ≤ 1000) :
    Calls Try.prog 56 #[rvV A n c f ne la, .int .i64 t] w fun e w' => ∃ B m, e = .returned (.slice B (allR l t).length m) ∧ OR w' w.heap.size 3 (.slice B (allR l t).length m) (allR l t).length ((allR l t).map (Value.int .i64)) ∧ Below w.heap.size w w' := by
  obtain ⟨i0, hi0, hz0, hz1, hz2⟩ := info_parts info_int
  have hb0 := gr_alloc (gr_refl w) (.cells #[.slice A n c, .int .i64 f, .int .i64 ne, .int .i64 la] 92)
  have bx0 := BX.new w A n c f ne la
  have hsz0 : (w.alloc (.cells #[.slice A n c, .int .i64 f, .int .i64 ne, .int .i64 la] 92)).heap.size = w.heap.size + 1 := World.size_alloc _ _
  have HB := Lib.hid hb0
  have HX := Lib.hid bx0
  have HSZ := Lib.hid hsz0
  have HR := Lib.hid (fun (W : World) (hW : Below w.heap.size w W) => hr.below hW)
  have HL := Lib.hid hr.2
  clear hb0 hr bx0 hsz0
  unfold rvV
  go_enter Try.func56, Try.ntmps56
  go_wp2_with fail
  generalize w.alloc (.cells #[.slice A n c, .int .i64 f, .int .i64 ne, .int .i64 la] 92) = W at *
  go_loopw [5, 6] (fun v i wr => ∃ k : Nat, k ≤ n ∧ i = .int .i64 k ∧ OR wr (w.heap.size + 1) 3 v (allR (l.take k) t).length ((allR (l.take k) t).map (Value.int .i64)) ∧ Below W.heap.size W wr) (fun _ i _ => n - (intOf i).toNat)
  case atStart => exact ⟨0, by omega, rfl, OR.nil_ _ _ _, gr_refl W⟩
  case round =>
    obtain ⟨k, hk, rfl, ho, hb⟩ := hrel
    obtain ⟨Av, cv, rfl, _, _⟩ := ho.form
    have c0 := (HX.out.below hb).c0
    by_cases hlt : k < n
    · have t1 : decide ((k : Int) < (n : Int)) = true := by simp; omega
      have t2 : decide (k < n) = true := by simp; omega
      have i0' : (0 : Int) ≤ (k : Int) := Int.natCast_nonneg _
      have i1' : (k : Int) < (n : Int) := by omega
      have hbw := gr_trans HB.out hb
      obtain ⟨g, o, rfl, d0, d1, _⟩ := (HR.out wr hbw).at_ hlt
      have hkl : k < l.length := by rw [HL.out]; exact hlt
      have hln := all_len (l.take k) t
      rw [List.length_take] at hln
      by_cases he : (l.getD k (0, 0, 0)).2.1 = t
      · have HS := Lib.hid (all_snoc_yes hkl he)
        rw [he] at d1
        generalize (l.getD k (0, 0, 0)).1 = y at *
        clear he
        have t3 : (t == t) = true := by simp
        generalize allR (l.take k) t = ys at *
        generalize hny : ys.length = ny at *
        have HNY := Lib.hid hny
        have hny2 : ny ≤ 1000 := by omega
        clear hny hln
        have HOA := Lib.hid ho
        have hsz9 := hb.size
        have hsz8 := HSZ.out
        have HBB := Lib.hid hb
        clear ho hb
        go_wp2_with (at_builtin; refine wpList_append_OR _ rfl (.tmp 22) (.tmp 29) _ rfl (w.heap.size + 1) 3 i0 _ 8 Try.underlying22 hi0 hz0 hz1 hz2 rfl (.slice Av ny cv) ny _ rfl (HOA.out.alloc _) ⟨wr.heap.size, 0, none⟩ 1 1 [.int .i64 y] rfl rfl (World.news_of_block (heap_alloc_new wr _)) (by simp [Value.oneCell']) (by omega) (by simp only [maxLen]; omega) (by omega) (by rw [World.size_alloc]; omega) ?_; intro v4 w10 ho10 hg10 hv10)
        go_roundw
        case rel => exact ⟨k + 1, by omega, by go_num, by rw [HS.out, List.length_append, HNY.out, List.map_append]; exact ho10, OR.gr2 (gr_alloc HBB.out _) (HOA.out.alloc _) (by rw [HSZ.out]; exact Nat.le_refl _) hg10⟩
        case measure => simp [intOf]; omega
      · have HS := Lib.hid (all_snoc_no hkl he)
        have t3 : ((l.getD k (0, 0, 0)).2.1 == t) = false := by simpa using he
        generalize (l.getD k (0, 0, 0)).2.1 = y at *
        clear he
        go_wp2_with fail
        go_roundw
        case rel => exact ⟨k + 1, by omega, by go_num, by rw [HS.out]; exact ho, hb⟩
        case measure => simp [intOf]; omega
    · have t1 : decide ((k : Int) < (n : Int)) = false := by simp; omega
      have t2 : decide (k < n) = false := by simp; omega
      have htk : l.take k = l := List.take_of_length_le (by rw [HL.out]; omega)
      rw [htk] at ho ⊢
      have hbw := gr_trans HB.out hb
      clear htk
      generalize hys : allR l t = ys at ho ⊢
      have HYS := Lib.hid hys
      clear hys
      go_wp2_with fail
      go_ret
      rw [HYS.out]
      exact ⟨_, _, rfl, ho.lower' (Nat.le_succ _), hbw⟩


/-- What find tells of a number, in memory. -/
theorem R3.found {w : World} {A : Option Addr} {n : Nat} {l : List (Int × Int × Int)} (h : R3 w A n l) (x : Int) :
    (fndI l x = -1 ∧ fnd l x = none) ∨ ∃ (i : Nat) (g o : Nat) (q : Int × Int), i < n ∧ fndI l x = i ∧ fnd l x = some q ∧ A = some ⟨g, o, none⟩ ∧ w.cell? ⟨g, o + i * 3 + 1, none⟩ = some (.int .i64 q.1) ∧ w.cell? ⟨g, o + i * 3 + 2, none⟩ = some (.int .i64 q.2) := by
  rcases fnd_cases l x with ⟨h1, h2, _⟩ | ⟨i, hi, h1, h2, h3⟩
  · exact .inl ⟨h1, h2⟩
  · have hin : i < n := by rw [← h.2]; exact hi
    obtain ⟨g, o, e, _, d1, d2⟩ := h.at_ hin
    have e2 : l.getD i (0, 0, 0) = l[i] := by simp [List.getD, List.getElem?_eq_getElem hi]
    rw [e2] at d1 d2
    exact .inr ⟨i, g, o, _, hin, h1, h2, e, d1, d2⟩

set_option maxRecDepth 100000 in
set_option maxHeartbeats 1000000 in
theorem ris_any (A : Option Addr) (n c : Nat) (f ne la x t : Int) (l : List (Int × Int × Int)) (w : World) (hr : R3 w A n l) (hn : n ≤ 1000000) :
    Calls Try.prog 107 #[rvV A n c f ne la, .int .i64 x, .int .i64 t] w fun e w' => e = .returned (.bool (isR l x t)) ∧ Below w.heap.size w w' := by
  have hb0 := gr_alloc (gr_refl w) (.cells #[.slice A n c, .int .i64 f, .int .i64 ne, .int .i64 la] 92)
  have bx0 := BX.new w A n c f ne la
  have HF := Lib.hid (rfind_any A n c f ne la x l _ (hr.below hb0) hn)
  have HB := Lib.hid hb0
  have HX := Lib.hid bx0
  have HI : Hid (isR l x t = match fnd l x with | some q => q.1 == t | none => false) := Lib.hid rfl
  generalize isR l x t = r at *
  have hb1 := fun (W : World) (hW : Below (w.alloc (.cells #[.slice A n c, .int .i64 f, .int .i64 ne, .int .i64 la] 92)).heap.size (w.alloc (.cells #[.slice A n c, .int .i64 f, .int .i64 ne, .int .i64 la] 92)) W) => (hr.below (gr_trans hb0 hW)).found x
  have HFD := Lib.hid hb1
  clear hb0 bx0 hb1 hr
  unfold rvV at *
  go_enter Try.func107, Try.ntmps107
  go_wp2_with fail
  generalize w.alloc (.cells #[.slice A n c, .int .i64 f, .int .i64 ne, .int .i64 la] 92) = W at *
  refine HF.out.mono ?_
  rintro e w1 ⟨rfl, hb1⟩
  have c0 := (HX.out.below hb1).c0
  have hbw := gr_trans HB.out hb1
  rcases HFD.out w1 hb1 with ⟨h1, h2⟩ | ⟨i, g, o, q, hi, h1, h2, rfl, d1, _⟩
  · rw [h1]
    have hr := HI.out
    rw [h2] at hr
    have hr : r = false := hr
    subst hr
    clear h1 h2 HI HFD HF c0
    go_wp2_with fail
    go_ret
    exact ⟨rfl, hbw⟩
  · rw [h1]
    have hr := HI.out
    rw [h2] at hr
    have hr : r = (q.1 == t) := hr
    have HRR := Lib.hid hr
    have i0 : (0 : Int) ≤ (i : Int) := Int.natCast_nonneg _
    have i1 : (i : Int) < (n : Int) := by omega
    have t1 : decide ((0 : Int) ≤ (i : Int)) = true := by simp
    clear h1 h2 HI HFD HF hr
    go_wp2_with fail
    go_ret
    exact ⟨by rw [HRR.out]; rfl, hbw⟩

set_option maxHeartbeats 400000 in
theorem rIsOpen_any (A : Option Addr) (n c : Nat) (f ne la x : Int) (l : List (Int × Int × Int)) (w : World) (hr : R3 w A n l) (hn : n ≤ 1000000) :
    Calls Try.prog 90 #[rvV A n c f ne la, .int .i64 x] w fun e w' => e = .returned (.bool (isR l x 1)) ∧ Below w.heap.size w w' := by
  have hb0 := gr_alloc (gr_refl w) (.cells #[.slice A n c, .int .i64 f, .int .i64 ne, .int .i64 la] 92)
  have HF := Lib.hid (ris_any A n c f ne la x 1 l _ (hr.below hb0) hn)
  have HB := Lib.hid hb0
  clear hb0 hr
  unfold rvV at *
  go_enter Try.func90, Try.ntmps90
  go_wp2_with fail
  refine HF.out.mono ?_
  rintro e w1 ⟨rfl, hb1⟩
  go_wp2_with fail
  go_ret
  exact ⟨rfl, gr_trans HB.out hb1⟩

set_option maxRecDepth 100000 in
set_option maxHeartbeats 1000000 in
theorem rby_any (A : Option Addr) (n c : Nat) (R : RefS) (x p : Int) (w : World) (hr : R3 w A n R.ones) (hn : n ≤ 1000000) :
    Calls Try.prog 108 #[rvV A n c R.first R.next R.last, .int .i64 x, .int .i64 p] w fun e w' => e = .returned (.bool (byR R x p)) ∧ Below w.heap.size w w' := by
  have HI : Hid (byR R x p = match fnd R.ones x with | none => decide (1 ≤ x) && decide (x < R.first) | some q => q.1 == 2 && decide (q.2 ≤ p)) := Lib.hid rfl
  generalize byR R x p = r at *
  obtain ⟨l, f, ne, la⟩ := R
  dsimp only at *
  have hb0 := gr_alloc (gr_refl w) (.cells #[.slice A n c, .int .i64 f, .int .i64 ne, .int .i64 la] 92)
  have bx0 := BX.new w A n c f ne la
  have HF := Lib.hid (rfind_any A n c f ne la x l _ (hr.below hb0) hn)
  have HB := Lib.hid hb0
  have HX := Lib.hid bx0
  have hb1 := fun (W : World) (hW : Below (w.alloc (.cells #[.slice A n c, .int .i64 f, .int .i64 ne, .int .i64 la] 92)).heap.size (w.alloc (.cells #[.slice A n c, .int .i64 f, .int .i64 ne, .int .i64 la] 92)) W) => (hr.below (gr_trans hb0 hW)).found x
  have HFD := Lib.hid hb1
  clear hb0 bx0 hb1 hr
  unfold rvV at *
  go_enter Try.func108, Try.ntmps108
  go_wp2_with fail
  generalize w.alloc (.cells #[.slice A n c, .int .i64 f, .int .i64 ne, .int .i64 la] 92) = W at *
  refine HF.out.mono ?_
  rintro e w1 ⟨rfl, hb1⟩
  have c0 := (HX.out.below hb1).c0
  have c1 := (HX.out.below hb1).c1
  have hbw := gr_trans HB.out hb1
  rcases HFD.out w1 hb1 with ⟨h1, h2⟩ | ⟨i, g, o, q, hi, h1, h2, rfl, d1, d2⟩
  · rw [h1]
    have hr := HI.out
    rw [h2] at hr
    have hr : r = (decide (1 ≤ x) && decide (x < f)) := hr
    have HRR := Lib.hid hr
    clear h1 h2 HI HFD HF hr
    by_cases e1 : 1 ≤ x
    · have t1 : decide (1 ≤ x) = true := by simpa using e1
      rw [t1, Bool.true_and] at HRR
      go_wp2_with fail
      go_ret
      exact ⟨by rw [HRR.out]; rfl, hbw⟩
    · have t1 : decide (1 ≤ x) = false := by simpa using e1
      rw [t1, Bool.false_and] at HRR
      go_wp2_with fail
      go_ret
      exact ⟨by rw [HRR.out]; rfl, hbw⟩
  · rw [h1]
    have hr := HI.out
    rw [h2] at hr
    have hr : r = (q.1 == 2 && decide (q.2 ≤ p)) := hr
    have HRR := Lib.hid hr
    have i0 : (0 : Int) ≤ (i : Int) := Int.natCast_nonneg _
    have i1 : (i : Int) < (n : Int) := by omega
    have t1 : decide ((i : Int) < 0) = false := by simp
    clear h1 h2 HI HFD HF hr
    obtain ⟨q1, q2⟩ := q
    dsimp only at *
    by_cases e1 : q1 = 2
    · have t2 : (q1 == 2) = true := by simpa using e1
      rw [t2, Bool.true_and] at HRR
      clear e1
      go_wp2_with fail
      go_ret
      exact ⟨by rw [HRR.out]; rfl, hbw⟩
    · have t2 : (q1 == 2) = false := by simpa using e1
      rw [t2, Bool.false_and] at HRR
      clear e1
      go_wp2_with fail
      go_ret
      exact ⟨by rw [HRR.out]; rfl, hbw⟩

end Go.Proofs.Ytjopobkcijkpmaa
