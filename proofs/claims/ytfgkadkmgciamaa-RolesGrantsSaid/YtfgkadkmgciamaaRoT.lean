/-
  What the law RolesRise needs besides: the law's own 'has', bools, strings compared, plain steps of Join and Leave.
-/
import Derived.Test.YtfgkadkmgciamaaLawRolesMembers
namespace Go.Proofs.Ytfgkadkmgciamaa
open Go Go.RowKit

theorem run_leqS (T : TypeId) (a b : Str) (w : World) (h : b < a) : Sem.run Try.prog (binOp .leq T (.string ⟨a.toArray⟩) (.string ⟨b.toArray⟩)) w = .ok (.bool false) w := by
  have h1 : Op.bytesLess a b = false := by rw [bytesLess_lt]; exact decide_eq_false fun k => lt_irr _ (List.lt_trans h k)
  have h2 : (a == b) = false := beq_eq_false_iff_ne.2 fun e => by subst e; exact lt_irr _ h
  simp [binOp, Op.stringOp, h1, h2]
theorem LR.len {w : World} {A : Option Addr} {n : Nat} {l : List Bool} (h : LR w A n l) : l.length = n := by have := h.1; simpa using this
theorem LR.at_ {w : World} {A : Option Addr} {n : Nat} {l : List Bool} (h : LR w A n l) {k : Nat} (hk : k < n) : ∃ g o, A = some ⟨g, o, none⟩ ∧ w.cell? ⟨g, o + k, none⟩ = some (.bool (l.getD k false)) := by
  obtain ⟨g, o, e, hc⟩ := Rd.plain h (by omega) (by omega)
  have hl : k < l.length := by rw [h.len]; exact hk
  exact ⟨g, o, e, hc k _ (by simp [List.getElem?_eq_getElem hl])⟩
theorem LR.below {w w' : World} {A : Option Addr} {n : Nat} {l : List Bool} (h : LR w A n l) (hb : Below w.heap.size w w') : LR w' A n l := Rd.below h hb

/-- What stands of a step: sound, fitting, at most one more. -/
def Kept (m out : List Mb) (r : Int) : Prop := r = 0 → Acyc out ∧ Fit out ∧ out.length ≤ m.length + 1
theorem JQ.kept {m out : List Mb} {x : Mb} {r : Int} (h : JQ m x r out) (ha : Acyc m) (hf : Fit m) (hx : x.1.length ≤ maxLen ∧ x.2.length ≤ maxLen) : Kept m out r := by
  intro hr
  rcases h with ⟨rfl, _⟩ | ⟨rfl, _⟩ | ⟨_, rfl, _, hn⟩
  · cases hr
  · cases hr
  · refine ⟨ha.more hn, fun y hy => ?_, by simp⟩
    rcases List.mem_append.1 hy with hy | hy
    · exact hf y hy
    · rw [List.mem_singleton.1 hy]; exact hx
theorem LQ.kept {m out : List Mb} {x : Mb} {r : Int} (h : LQ m x r out) (ha : Acyc m) (hf : Fit m) : Kept m out r := by
  intro hr
  rcases h with ⟨rfl, _⟩ | ⟨_, rfl, _⟩
  · cases hr
  · exact ⟨ha.sub fun y hy => (List.mem_filter.1 hy).1, fun y hy => hf y (List.mem_filter.1 hy).1, Nat.le_succ_of_le (List.length_filter_le _ _)⟩
/-- Members in memory, sound, at most k. -/
def RM (k : Nat) (m : List Mb) (v : Value) (w : World) : Prop := (∃ A c, v = .slice A m.length c ∧ ER EM 2 w A m.length m) ∧ Acyc m ∧ Fit m ∧ m.length ≤ k
theorem RM.start (k : Nat) (w : World) : RM k [] (.slice none 0 0) w := ⟨⟨none, 0, rfl, ER.none_ _ _⟩, Acyc.nil, (fun _ h => nomatch h), Nat.zero_le _⟩
theorem clos_fit {l : List Mb} {r : Str} {ss : List Str} (h : Clos l r ss) (hf : Fit l) (hr : r.length ≤ maxLen) : ∀ x ∈ ss, x.length ≤ maxLen := fun x hx =>
  ((h.2 x).1 hx).sub (S := fun x => x.length ≤ maxLen) hr (fun m hm _ => (hf m hm).2)
theorem rise_at {ss : List Str} (h : Rise ss) {k : Nat} {x y : Str} (hx : ss[k]? = some x) (hy : ss[k + 1]? = some y) : x < y := by
  obtain ⟨h1, e1⟩ := List.getElem?_eq_some_iff.1 hx
  obtain ⟨h2, e2⟩ := List.getElem?_eq_some_iff.1 hy
  have := List.pairwise_iff_getElem.1 h k (k + 1) h1 h2 (by omega)
  rwa [e1, e2] at this

set_option maxRecDepth 100000 in
set_option maxHeartbeats 1000000 in
theorem has21_any (A : Option Addr) (n c : Nat) (l : List Str) (s : Str) (w : World) (h : SL w A n l) (hnm : n ≤ 9223372036854775807) :
    Calls Try.prog 31 #[.slice A n c, .string ⟨s.toArray⟩] w fun e w' => e = .returned (.bool (l.contains s)) ∧ w = w' := by
  have HS := Lib.hid h
  have hn := Lib.hid h.len
  obtain ⟨r, hr⟩ : ∃ r, r = l.contains s := ⟨_, rfl⟩
  rw [← hr]
  have HR := Lib.hid hr
  clear hr h
  have heq := fun x W => run_eqlS 9 x s W
  go_enter Try.func31, Try.ntmps31
  go_wp2_with fail
  go_loopw [5] (fun i wr => ∃ (k : Nat), k ≤ n ∧ i = .int .i64 (k : Int) ∧ wr = w ∧ Hid ((l.take k).contains s = false)) (fun i _ => n - (intOf i).toNat)
  case atStart => exact ⟨0, Nat.zero_le _, rfl, rfl, Lib.hid (by simp)⟩
  case round =>
    obtain ⟨k, hk, rfl, rfl, HK⟩ := hrel
    by_cases hlt : k < n
    · have t1 : decide ((k : Int) < (n : Int)) = true := decide_eq_true (by omega)
      have t2 : decide (k < n) = true := decide_eq_true hlt
      have i0 : (0 : Int) ≤ (k : Int) := Int.natCast_nonneg _
      have i1 : (k : Int) < (n : Int) := by omega
      obtain ⟨g, o, x, rfl, hx, hc⟩ := HS.out.at_ hlt
      have HX := Lib.hid (contains_take (s := s) hx)
      have HXM := Lib.hid (List.mem_of_getElem? hx)
      clear hx
      by_cases e : x = s
      · subst e
        have te : (x == x) = true := beq_self_eq_true _
        go_wp2_with fail
        go_ret
        refine ⟨?_, rfl⟩
        rw [HR.out, List.contains_iff_mem.2 HXM.out]
        rfl
      · have te : (x == s) = false := beq_eq_false_iff_ne.2 e
        have HE := Lib.hid te
        clear e
        go_wp2_with fail
        go_roundw
        case rel => exact ⟨k + 1, by omega, by go_num, by trivial, Lib.hid (by rw [HX.out, HK.out, HE.out]; rfl)⟩
        case measure => simp [intOf]; omega
    · obtain rfl : k = n := by omega
      have t1 : decide ((k : Int) < (k : Int)) = false := decide_eq_false (by omega)
      go_wp2_with fail
      go_ret
      refine ⟨?_, rfl⟩
      have := HK.out
      rw [List.take_of_length_le (by have := hn.out; omega)] at this
      rw [HR.out, this]
      rfl


end Go.Proofs.Ytfgkadkmgciamaa
