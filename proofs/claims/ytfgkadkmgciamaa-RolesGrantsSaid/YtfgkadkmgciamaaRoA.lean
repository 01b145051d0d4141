/-
  Strings in memory, rows of strings; In: does a name stand in a list?
-/
import Derived.Test.YtfgkadkmgciamaaOff
import Derived.Test.YtfgkadkmgciamaaPlR
namespace Go.Proofs.Ytfgkadkmgciamaa
open Go Go.RowKit

theorem ba_toList (l : List UInt8) : ByteArray.toList ⟨l.toArray⟩ = l := by rw [Lib.toList_data]
/-- Two strings compared. -/
theorem run_eqlS (T : TypeId) (a b : Str) (w : World) : Sem.run Try.prog (binOp .eql T (.string ⟨a.toArray⟩) (.string ⟨b.toArray⟩)) w = .ok (.bool (a == b)) w := by
  simp [binOp, Op.stringOp]
theorem run_neqS (T : TypeId) (a b : Str) (w : World) : Sem.run Try.prog (binOp .neq T (.string ⟨a.toArray⟩) (.string ⟨b.toArray⟩)) w = .ok (.bool (!(a == b))) w := by
  simp [binOp, Op.stringOp]

/-- A slice of strings. -/
def SL (w : World) (A : Option Addr) (n : Nat) (l : List Str) : Prop := Rd w 1 A n (l.map encStr)
section
variable {w w' : World} {A : Option Addr} {n : Nat} {l : List Str}
theorem SL.below (h : SL w A n l) (hb : Below w.heap.size w w') : SL w' A n l := Rd.below h hb
theorem SL.len (h : SL w A n l) : l.length = n := by have := h.1; simpa using this
theorem SL.none_ (w : World) (A : Option Addr) : SL w A 0 [] := ⟨rfl, fun h => absurd h (by omega)⟩
theorem SL.at_ (h : SL w A n l) {k : Nat} (hk : k < n) : ∃ g o s, A = some ⟨g, o, none⟩ ∧ l[k]? = some s ∧ w.cell? ⟨g, o + k, none⟩ = some (encStr s) := by
  obtain ⟨g, o, e, hc⟩ := Rd.plain h (by omega) (by omega)
  have hl : k < l.length := by rw [h.len]; exact hk
  exact ⟨g, o, l[k], e, List.getElem?_eq_getElem hl, hc k _ (by simp [List.getElem?_eq_getElem hl])⟩
end

theorem contains_take {l : List Str} {k : Nat} {x s : Str} (h : l[k]? = some x) : (l.take (k + 1)).contains s = ((l.take k).contains s || x == s) := by
  rw [List.take_add_one, h]
  refine Bool.eq_iff_iff.2 ?_
  simp only [Option.toList_some, List.contains_iff_mem, List.mem_append, List.mem_singleton, Bool.or_eq_true, beq_iff_eq]
  exact or_congr Iff.rfl eq_comm

set_option maxRecDepth 100000 in
set_option maxHeartbeats 1000000 in
theorem In_any (A : Option Addr) (n c : Nat) (l : List Str) (s : Str) (w : World) (h : SL w A n l) (hnm : n ≤ 9223372036854775807) :
    Calls Try.prog 49 #[.slice A n c, .string ⟨s.toArray⟩] w fun e w' => e = .returned (.bool (l.contains s)) ∧ w = w' := by
  have HS := Lib.hid h
  have hn := Lib.hid h.len
  obtain ⟨r, hr⟩ : ∃ r, r = l.contains s := ⟨_, rfl⟩
  rw [← hr]
  have HR := Lib.hid hr
  clear hr h
  have heq := fun x W => run_eqlS 9 x s W
  go_enter Try.func49, Try.ntmps49
  go_wp2_with fail
  go_loopw [5] (fun i wr => ∃ (k : Nat), k ≤ n ∧ i = .int .i64 (k : Int) ∧ wr = w ∧ Hid ((l.take k).contains s = false)) (fun i _ => n - (intOf i).toNat)
  case atStart => exact ⟨0, Nat.zero_le _, rfl, rfl, Lib.hid (by simp)⟩
  case round =>
    obtain ⟨k, hk, rfl, rfl, HK⟩ := hrel
    by_cases hlt : k < n
    · have t1 : decide ((k : Int) < (n : Int)) = true := decide_eq_true (by omega)
      have t2 : decide (k < n) = true := decide_eq_true hlt
      have i0 : (0 : Int) ≤ (k : Int) := Int.natCast_nonneg _
      have i1 : (k : Int) < (n : Int) := by omega
      obtain ⟨g, o, x, rfl, hx, hc⟩ := HS.out.at_ hlt
      have HX := Lib.hid (contains_take (s := s) hx)
      have HXM := Lib.hid (List.mem_of_getElem? hx)
      clear hx
      by_cases e : x = s
      · subst e
        have te : (x == x) = true := beq_self_eq_true _
        go_wp2_with fail
        go_ret
        refine ⟨?_, rfl⟩
        rw [HR.out, List.contains_iff_mem.2 HXM.out]
        rfl
      · have te : (x == s) = false := beq_eq_false_iff_ne.2 e
        have HE := Lib.hid te
        clear e
        go_wp2_with fail
        go_roundw
        case rel => exact ⟨k + 1, by omega, by go_num, by trivial, Lib.hid (by rw [HX.out, HK.out, HE.out]; rfl)⟩
        case measure => simp [intOf]; omega
    · obtain rfl : k = n := by omega
      have t1 : decide ((k : Int) < (k : Int)) = false := decide_eq_false (by omega)
      go_wp2_with fail
      go_ret
      refine ⟨?_, rfl⟩
      have := HK.out
      rw [List.take_of_length_le (by have := hn.out; omega)] at this
      rw [HR.out, this]
      rfl

end Go.Proofs.Ytfgkadkmgciamaa
