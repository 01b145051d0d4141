/-
  slices.IndexFunc and slices.ContainsFunc at whatever predicate: grants, tables.
-/
import Derived.Test.YtfgkadkmgciamaaRoK
namespace Go.Proofs.Ytfgkadkmgciamaa
open Go Go.RowKit

/-- A table: its name, its owner, its columns. -/
abbrev Tb := Str × Str × Option Addr × Nat × Nat
def ET (t : Tb) : List Value := [.string ⟨t.1.toArray⟩, .string ⟨t.2.1.toArray⟩, .slice t.2.2.1 t.2.2.2.1 t.2.2.2.2]
theorem ET_len (t : Tb) : (ET t).length = 3 := rfl
theorem ER.atTb {w : World} {A : Option Addr} {n : Nat} {l : List Tb} (h : ER ET 3 w A n l) {i : Nat} (hi : i < n) : ∃ g o x, A = some ⟨g, o, none⟩ ∧ l[i]? = some x ∧ w.cell? ⟨g, o + i * 3, none⟩ = some (.string ⟨x.1.toArray⟩) ∧ w.cell? ⟨g, o + i * 3 + 1, none⟩ = some (.string ⟨x.2.1.toArray⟩) ∧ w.cell? ⟨g, o + i * 3 + 2, none⟩ = some (.slice x.2.2.1 x.2.2.2.1 x.2.2.2.2) := by
  obtain ⟨g, o, x, e, h1, hc⟩ := h.get ET_len (by decide) hi
  exact ⟨g, o, x, e, h1, by simpa using hc 0 _ rfl, by simpa [Nat.add_assoc] using hc 1 _ rfl, by simpa [Nat.add_assoc] using hc 2 _ rfl⟩

/-- What is asked of a predicate: it tells p of each of l, and leaves all that lay in w. -/
def PredB {α : Type} (g : Nat) (lb : Array Value) (enc : α → List Value) (p : α → Bool) (l : List α) (w : World) : Prop :=
  ∀ (W : World) (x : α), x ∈ l → Below w.heap.size w W → Calls Try.prog g (#[.agg (enc x).toArray] ++ lb) W fun e w' => e = .returned (.bool (p x)) ∧ Below w.heap.size w w'
/-- The first place at which p holds. -/
def IdxB {α : Type} (l : List α) (p : α → Bool) (r : Int) : Prop := (r = -1 ∧ ∀ x ∈ l, p x = false) ∨ ∃ (k : Nat) (x : α), r = k ∧ l[k]? = some x ∧ p x = true ∧ ∀ (j : Nat) (y : α), j < k → l[j]? = some y → p y = false
theorem IdxB.any {α : Type} {l : List α} {p : α → Bool} {r : Int} (h : IdxB l p r) : decide (0 ≤ r) = l.any p := by
  rcases h with ⟨rfl, h⟩ | ⟨k, x, rfl, hx, hp, _⟩
  · rw [List.any_eq_false.2 (fun x hx => by rw [h x hx]; exact Bool.false_ne_true)]
    rfl
  · rw [List.any_eq_true.2 ⟨x, List.mem_of_getElem? hx, hp⟩]
    exact decide_eq_true (Int.natCast_nonneg _)

set_option maxRecDepth 100000 in
set_option maxHeartbeats 2000000 in
theorem IndexFuncGr_any (g : Nat) (lb : Array Value) (eg : ∀ args w, (callFunc g args).run Try.prog w = .ok (.enter g args) w) (p : Gr → Bool) (A : Option Addr) (n c : Nat) (l : List Gr) (w : World) (h : ER EG 5 w A n l) (hnm : n ≤ 9223372036854775807) (hp : PredB g lb EG p l w) :
    Calls Try.prog 38 #[.slice A n c, .func (.func g) #[] lb] w fun e w' => ∃ r : Int, e = .returned (.int .i64 r) ∧ IdxB l p r ∧ Below w.heap.size w w' := by
  have HS := Lib.hid h
  have HL := Lib.hid h.1
  have HP := Lib.hid hp
  clear h hp
  go_enter Try.func38, Try.ntmps38
  go_wp2_with fail
  go_loopw [5, 8] (fun _ i wr => ∃ (k : Nat), k ≤ n ∧ i = .int .i64 (k : Int) ∧ Below w.heap.size w wr ∧ Hid (∀ (j : Nat) (y : Gr), j < k → l[j]? = some y → p y = false)) (fun _ i _ => n - (intOf i).toNat)
  case atStart => exact ⟨0, Nat.zero_le _, rfl, gr_refl w, Lib.hid (fun j y hj => by omega)⟩
  case round =>
    obtain ⟨k, hk, rfl, hb, HK⟩ := hrel
    have HB := Lib.hid hb
    by_cases hlt : k < n
    · have t1 : decide ((k : Int) < (n : Int)) = true := decide_eq_true (by omega)
      have t2 : decide (k < n) = true := decide_eq_true hlt
      have i0 : (0 : Int) ≤ (k : Int) := Int.natCast_nonneg _
      have i1 : (k : Int) < (n : Int) := by omega
      obtain ⟨ga, o, x, rfl, hx, q0, q1, q2, q3, q4⟩ := (HS.out.below hb).atGr hlt
      have HX := Lib.hid hx
      have hcall := HP.out wr x (List.mem_of_getElem? hx) hb
      clear hx hb
      cases hq : p x with
      | true =>
        rw [hq] at hcall
        have HQ := Lib.hid hq
        clear hq
        go_wp2_with (go_at_fn g; refine hcall.mono ?_; rintro e w' ⟨rfl, hb'⟩)
        go_ret
        exact ⟨(k : Int), rfl, .inr ⟨k, x, rfl, HX.out, HQ.out, HK.out⟩, hb'⟩
      | false =>
        rw [hq] at hcall
        have HQ := Lib.hid hq
        clear hq
        go_wp2_with (go_at_fn g; refine hcall.mono ?_; rintro e w' ⟨rfl, hb'⟩)
        go_roundw
        case rel => exact ⟨k + 1, by omega, by go_num, hb', Lib.hid (fun j y hj hy => by
          by_cases e : j = k
          · rw [e, HX.out] at hy
            injection hy with hy
            rw [← hy]
            exact HQ.out
          · exact HK.out j y (by omega) hy)⟩
        case measure => simp [intOf]; omega
    · obtain rfl : k = n := by omega
      have t1 : decide ((k : Int) < (k : Int)) = false := decide_eq_false (by omega)
      clear hb
      go_wp2_with fail
      go_ret
      exact ⟨-1, rfl, .inl ⟨rfl, fun x hx => by
        obtain ⟨j, hj, rfl⟩ := List.getElem_of_mem hx
        exact HK.out j _ (by have := HL.out; omega) (List.getElem?_eq_getElem hj)⟩, HB.out⟩

set_option maxRecDepth 100000 in
set_option maxHeartbeats 2000000 in
theorem IndexFuncTb_any (g : Nat) (lb : Array Value) (eg : ∀ args w, (callFunc g args).run Try.prog w = .ok (.enter g args) w) (p : Tb → Bool) (A : Option Addr) (n c : Nat) (l : List Tb) (w : World) (h : ER ET 3 w A n l) (hnm : n ≤ 9223372036854775807) (hp : PredB g lb ET p l w) :
    Calls Try.prog 32 #[.slice A n c, .func (.func g) #[] lb] w fun e w' => ∃ r : Int, e = .returned (.int .i64 r) ∧ IdxB l p r ∧ Below w.heap.size w w' := by
  have HS := Lib.hid h
  have HL := Lib.hid h.1
  have HP := Lib.hid hp
  clear h hp
  go_enter Try.func32, Try.ntmps32
  go_wp2_with fail
  go_loopw [5, 8] (fun _ i wr => ∃ (k : Nat), k ≤ n ∧ i = .int .i64 (k : Int) ∧ Below w.heap.size w wr ∧ Hid (∀ (j : Nat) (y : Tb), j < k → l[j]? = some y → p y = false)) (fun _ i _ => n - (intOf i).toNat)
  case atStart => exact ⟨0, Nat.zero_le _, rfl, gr_refl w, Lib.hid (fun j y hj => by omega)⟩
  case round =>
    obtain ⟨k, hk, rfl, hb, HK⟩ := hrel
    have HB := Lib.hid hb
    by_cases hlt : k < n
    · have t1 : decide ((k : Int) < (n : Int)) = true := decide_eq_true (by omega)
      have t2 : decide (k < n) = true := decide_eq_true hlt
      have i0 : (0 : Int) ≤ (k : Int) := Int.natCast_nonneg _
      have i1 : (k : Int) < (n : Int) := by omega
      obtain ⟨ga, o, x, rfl, hx, q0, q1, q2⟩ := (HS.out.below hb).atTb hlt
      have HX := Lib.hid hx
      have hcall := HP.out wr x (List.mem_of_getElem? hx) hb
      clear hx hb
      cases hq : p x with
      | true =>
        rw [hq] at hcall
        have HQ := Lib.hid hq
        clear hq
        go_wp2_with (go_at_fn g; refine hcall.mono ?_; rintro e w' ⟨rfl, hb'⟩)
        go_ret
        exact ⟨(k : Int), rfl, .inr ⟨k, x, rfl, HX.out, HQ.out, HK.out⟩, hb'⟩
      | false =>
        rw [hq] at hcall
        have HQ := Lib.hid hq
        clear hq
        go_wp2_with (go_at_fn g; refine hcall.mono ?_; rintro e w' ⟨rfl, hb'⟩)
        go_roundw
        case rel => exact ⟨k + 1, by omega, by go_num, hb', Lib.hid (fun j y hj hy => by
          by_cases e : j = k
          · rw [e, HX.out] at hy
            injection hy with hy
            rw [← hy]
            exact HQ.out
          · exact HK.out j y (by omega) hy)⟩
        case measure => simp [intOf]; omega
    · obtain rfl : k = n := by omega
      have t1 : decide ((k : Int) < (k : Int)) = false := decide_eq_false (by omega)
      clear hb
      go_wp2_with fail
      go_ret
      exact ⟨-1, rfl, .inl ⟨rfl, fun x hx => by
        obtain ⟨j, hj, rfl⟩ := List.getElem_of_mem hx
        exact HK.out j _ (by have := HL.out; omega) (List.getElem?_eq_getElem hj)⟩, HB.out⟩

set_option maxRecDepth 100000 in
theorem ContainsFuncGr_any (g : Nat) (lb : Array Value) (eg : ∀ args w, (callFunc g args).run Try.prog w = .ok (.enter g args) w) (p : Gr → Bool) (A : Option Addr) (n c : Nat) (l : List Gr) (w : World) (h : ER EG 5 w A n l) (hnm : n ≤ 9223372036854775807) (hp : PredB g lb EG p l w) :
    Calls Try.prog 45 #[.slice A n c, .func (.func g) #[] lb] w fun e w' => e = .returned (.bool (l.any p)) ∧ Below w.heap.size w w' := by
  have HI := Lib.hid (IndexFuncGr_any g lb eg p A n c l w h hnm hp)
  clear h hp
  go_enter Try.func45, Try.ntmps45
  go_wp2_with fail
  refine HI.out.mono ?_
  rintro e w' ⟨r, rfl, hr, hb⟩
  have HR := Lib.hid hr
  have HB := Lib.hid hb
  clear hr hb
  go_wp2_with fail
  go_ret
  exact ⟨by rw [← HR.out.any]; rfl, HB.out⟩

end Go.Proofs.Ytfgkadkmgciamaa
