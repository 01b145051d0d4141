/-
  slices.Contains at strings and at members.
-/
import Derived.Test.YtfgkadkmgciamaaRoC
namespace Go.Proofs.Ytfgkadkmgciamaa
open Go Go.RowKit

theorem SL_of_ER {w : World} {A : Option Addr} {n : Nat} {l : List Str} (h : ER ES 1 w A n l) : SL w A n l := by
  have e : ∀ l : List Str, l.flatMap ES = l.map encStr := fun l => by
    induction l with
    | nil => rfl
    | cons x l ih => rw [List.flatMap_cons, ih]; rfl
  have := h.2
  rw [e] at this
  exact this

set_option maxRecDepth 100000 in
set_option maxHeartbeats 1000000 in
theorem IndexS_any (A : Option Addr) (n c : Nat) (l : List Str) (s : Str) (w : World) (h : ER ES 1 w A n l) (hnm : n ≤ 9223372036854775807) :
    Calls Try.prog 56 #[.slice A n c, .string ⟨s.toArray⟩] w fun e w' => ∃ r : Int, e = .returned (.int .i64 r) ∧ decide (0 ≤ r) = l.contains s ∧ w = w' := by
  have HS := Lib.hid h
  have hn := Lib.hid h.1
  clear h
  have heq := fun x W => run_eqlS 9 s x W
  go_enter Try.func56, Try.ntmps56
  go_wp2_with fail
  go_loopw [5, 8] (fun _ i wr => ∃ (k : Nat), k ≤ n ∧ i = .int .i64 (k : Int) ∧ w = wr ∧ Hid ((l.take k).contains s = false)) (fun _ i _ => n - (intOf i).toNat)
  case atStart => exact ⟨0, Nat.zero_le _, rfl, rfl, Lib.hid (by simp)⟩
  case round =>
    obtain ⟨k, hk, rfl, rfl, HK⟩ := hrel
    by_cases hlt : k < n
    · have t1 : decide ((k : Int) < (n : Int)) = true := decide_eq_true (by omega)
      have t2 : decide (k < n) = true := decide_eq_true hlt
      have i0 : (0 : Int) ≤ (k : Int) := Int.natCast_nonneg _
      have i1 : (k : Int) < (n : Int) := by omega
      obtain ⟨g, o, x, rfl, hx, hc⟩ := HS.out.atStr hlt
      have HX := Lib.hid (contains_take (s := s) hx)
      have HXM := Lib.hid (List.mem_of_getElem? hx)
      clear hx
      by_cases e : s = x
      · subst e
        have te : (s == s) = true := beq_self_eq_true _
        go_wp2_with fail
        go_ret
        exact ⟨(k : Int), rfl, by rw [List.contains_iff_mem.2 HXM.out]; exact decide_eq_true i0, rfl⟩
      · have te : (s == x) = false := beq_eq_false_iff_ne.2 e
        have HE : Hid ((x == s) = false) := Lib.hid (beq_eq_false_iff_ne.2 (fun h => e h.symm))
        clear e
        go_wp2_with fail
        go_roundw
        case rel => exact ⟨k + 1, by omega, by go_num, by trivial, Lib.hid (by rw [HX.out, HK.out, HE.out]; rfl)⟩
        case measure => simp [intOf]; omega
    · obtain rfl : k = n := by omega
      have t1 : decide ((k : Int) < (k : Int)) = false := decide_eq_false (by omega)
      go_wp2_with fail
      go_ret
      refine ⟨-1, rfl, ?_, rfl⟩
      have := HK.out
      rw [List.take_of_length_le (by have := hn.out; omega)] at this
      rw [this]
      rfl

set_option maxRecDepth 100000 in
theorem ContainsS_any (A : Option Addr) (n c : Nat) (l : List Str) (s : Str) (w : World) (h : ER ES 1 w A n l) (hnm : n ≤ 9223372036854775807) :
    Calls Try.prog 44 #[.slice A n c, .string ⟨s.toArray⟩] w fun e w' => e = .returned (.bool (l.contains s)) ∧ w = w' := by
  have HI := Lib.hid (IndexS_any A n c l s w h hnm)
  generalize l.contains s = q at *
  go_enter Try.func44, Try.ntmps44
  go_wp2_with fail
  refine HI.out.mono ?_
  rintro e w' ⟨r, rfl, hr, rfl⟩
  have HR := Lib.hid hr
  clear hr
  go_wp2_with fail
  go_ret
  refine ⟨?_, rfl⟩
  rw [← HR.out]
  rfl

/-- Does a member stand in a list? -/
def hasM (l : List Mb) (m : Mb) : Bool := l.any fun x => m.1 == x.1 && m.2 == x.2
theorem hasM_iff {l : List Mb} {m : Mb} : hasM l m = true ↔ m ∈ l := by
  unfold hasM
  rw [List.any_eq_true]
  constructor
  · rintro ⟨x, hx, h⟩
    simp only [Bool.and_eq_true, beq_iff_eq] at h
    have : m = x := Prod.ext h.1 h.2
    rwa [this]
  · exact fun h => ⟨m, h, by simp⟩
theorem hasM_take {l : List Mb} {k : Nat} {x m : Mb} (h : l[k]? = some x) : hasM (l.take (k + 1)) m = (hasM (l.take k) m || (m.1 == x.1 && m.2 == x.2)) := by
  unfold hasM
  rw [take_snoc h, List.any_append]
  simp

set_option maxRecDepth 100000 in
set_option maxHeartbeats 1000000 in
theorem IndexM_any (A : Option Addr) (n c : Nat) (l : List Mb) (m : Mb) (w : World) (h : ER EM 2 w A n l) (hnm : n ≤ 9223372036854775807) :
    Calls Try.prog 57 #[.slice A n c, .agg #[.string ⟨m.1.toArray⟩, .string ⟨m.2.toArray⟩]] w fun e w' => ∃ r : Int, e = .returned (.int .i64 r) ∧ decide (0 ≤ r) = hasM l m ∧ Below w.heap.size w w' := by
  have HS := Lib.hid (h.below (gr_alloc (gr_refl w) (.cells #[.string ⟨m.1.toArray⟩, .string ⟨m.2.toArray⟩] 52)))
  have hn := Lib.hid h.1
  have HA := Lib.hid (gr_alloc (gr_refl w) (.cells #[.string ⟨m.1.toArray⟩, .string ⟨m.2.toArray⟩] 52))
  have HC := Lib.hid (heap_alloc_new w (.cells #[.string ⟨m.1.toArray⟩, .string ⟨m.2.toArray⟩] 52))
  clear h
  have heq := fun x W => run_eqlM m x W
  go_enter Try.func57, Try.ntmps57
  go_upto_region 1 with fail
  generalize w.alloc (.cells #[.string ⟨m.1.toArray⟩, .string ⟨m.2.toArray⟩] 52) = w1 at *
  have c0 : w1.cell? ⟨w.heap.size, 0, none⟩ = some (.string ⟨m.1.toArray⟩) := by rw [cell_of_row w1 _ 0 _ _ _ HC.out]; rfl
  have c1 : w1.cell? ⟨w.heap.size, 1, none⟩ = some (.string ⟨m.2.toArray⟩) := by rw [cell_of_row w1 _ 1 _ _ _ HC.out]; rfl
  have C0 := Lib.hid c0
  have C1 := Lib.hid c1
  clear c0 c1
  go_wp2_with fail
  go_loopw [5, 8] (fun _ i wr => ∃ (k : Nat), k ≤ n ∧ i = .int .i64 (k : Int) ∧ Below w1.heap.size w1 wr ∧ Hid (hasM (l.take k) m = false)) (fun _ i _ => n - (intOf i).toNat)
  case atStart => exact ⟨0, Nat.zero_le _, rfl, gr_refl _, Lib.hid (by simp [hasM])⟩
  case round =>
    obtain ⟨k, hk, rfl, hb, HK⟩ := hrel
    by_cases hlt : k < n
    · have t1 : decide ((k : Int) < (n : Int)) = true := decide_eq_true (by omega)
      have t2 : decide (k < n) = true := decide_eq_true hlt
      have i0 : (0 : Int) ≤ (k : Int) := Int.natCast_nonneg _
      have i1 : (k : Int) < (n : Int) := by omega
      obtain ⟨g, o, x, rfl, hx, q0, q1⟩ := (HS.out.below hb).atMb hlt
      have b0 := keep_of_below hb C0.out
      have b1 := keep_of_below hb C1.out
      have HX := Lib.hid (hasM_take (m := m) hx)
      have HXM := Lib.hid (List.mem_of_getElem? hx)
      have HB := Lib.hid hb
      clear hx hb
      obtain ⟨r, hr⟩ : ∃ r, r = (m.1 == x.1 && m.2 == x.2) := ⟨_, rfl⟩
      have HR := Lib.hid hr
      have heqx : ∀ W, Sem.run Try.prog (binOp .eql 52 (.agg #[.string ⟨m.1.toArray⟩, .string ⟨m.2.toArray⟩]) (.agg #[.string ⟨x.1.toArray⟩, .string ⟨x.2.toArray⟩])) W = .ok (.bool r) W := fun W => by rw [hr]; exact run_eqlM m x W
      clear hr heq
      cases r
      · go_wp2_with (go_quiet (fail))
        have HB2 := Lib.hid (HB.out.trans (gr_drewN (gr_refl wr) nq |>.mono HB.out.size))
        go_roundw
        case rel => exact ⟨k + 1, by omega, by go_num, HB2.out, Lib.hid (by rw [HX.out, HK.out, ← HR.out]; rfl)⟩
        case measure => simp [intOf]; omega
      · go_wp2_with (go_quiet (fail))
        have HB2 := Lib.hid (gr_trans HA.out (HB.out.trans (gr_drewN (gr_refl wr) nq |>.mono HB.out.size)))
        go_ret
        refine ⟨(k : Int), rfl, ?_, HB2.out⟩
        have e : m = x := by
          have := HR.out.symm
          simp only [Bool.and_eq_true, beq_iff_eq] at this
          exact Prod.ext this.1 this.2
        rw [hasM_iff.2 (by rw [e]; exact HXM.out)]
        exact decide_eq_true i0
    · obtain rfl : k = n := by omega
      have t1 : decide ((k : Int) < (k : Int)) = false := decide_eq_false (by omega)
      have HB := Lib.hid hb
      clear hb
      go_wp2_with fail
      go_ret
      refine ⟨-1, rfl, ?_, gr_trans HA.out HB.out⟩
      have := HK.out
      rw [List.take_of_length_le (by have := hn.out; omega)] at this
      rw [this]
      rfl

set_option maxRecDepth 100000 in
theorem ContainsM_any (A : Option Addr) (n c : Nat) (l : List Mb) (m : Mb) (w : World) (h : ER EM 2 w A n l) (hnm : n ≤ 9223372036854775807) :
    Calls Try.prog 50 #[.slice A n c, .agg #[.string ⟨m.1.toArray⟩, .string ⟨m.2.toArray⟩]] w fun e w' => e = .returned (.bool (hasM l m)) ∧ Below w.heap.size w w' := by
  have HA := Lib.hid (gr_alloc (gr_refl w) (.cells #[.string ⟨m.1.toArray⟩, .string ⟨m.2.toArray⟩] 52))
  have HC := Lib.hid (heap_alloc_new w (.cells #[.string ⟨m.1.toArray⟩, .string ⟨m.2.toArray⟩] 52))
  have HI := Lib.hid (IndexM_any A n c l m _ (h.below HA.out) hnm)
  generalize hasM l m = q at *
  go_enter Try.func50, Try.ntmps50
  go_upto_region 1 with fail
  generalize w.alloc (.cells #[.string ⟨m.1.toArray⟩, .string ⟨m.2.toArray⟩] 52) = w1 at *
  have c0 : w1.cell? ⟨w.heap.size, 0, none⟩ = some (.string ⟨m.1.toArray⟩) := by rw [cell_of_row w1 _ 0 _ _ _ HC.out]; rfl
  have c1 : w1.cell? ⟨w.heap.size, 1, none⟩ = some (.string ⟨m.2.toArray⟩) := by rw [cell_of_row w1 _ 1 _ _ _ HC.out]; rfl
  go_wp2_with fail
  refine HI.out.mono ?_
  rintro e w' ⟨r, rfl, hr, hb⟩
  have HR := Lib.hid hr
  have HB := Lib.hid (gr_trans HA.out hb)
  clear hr hb c0 c1
  go_wp2_with fail
  go_ret
  refine ⟨?_, HB.out⟩
  rw [← HR.out]
  rfl

end Go.Proofs.Ytfgkadkmgciamaa
