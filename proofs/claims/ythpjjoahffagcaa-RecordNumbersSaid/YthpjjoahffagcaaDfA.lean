/-
  change.unlike: the places at which two pages are unlike, one after the other.
-/
import Derived.Test.YthpjjoahffagcaaRf
import Derived.Sort.QuietIn
import Derived.RegionIn
import Derived.BigRegionIn
import Derived.Stop.RegionWithIn
namespace Go.Proofs.Ythpjjoahffagcaa
open Go.RowKit

attribute [local go_sem] Oper.semAt_some

/-- The places at which a and b are unlike, below m. -/
def unlTo (a b : List UInt8) (m : Nat) : List Nat := (List.range m).filter fun i => a.getD i 0 != b.getD i 0

theorem unlTo_succ_eq {a b : List UInt8} {i : Nat} (h : a.getD i 0 = b.getD i 0) : unlTo a b (i + 1) = unlTo a b i := by
  simp only [unlTo, List.range_succ, List.filter_append]
  simp only [List.filter_cons, List.filter_nil, h, bne_self_eq_false, Bool.false_eq_true, if_false, List.append_nil]
theorem unlTo_succ_ne {a b : List UInt8} {i : Nat} (h : a.getD i 0 ≠ b.getD i 0) : unlTo a b (i + 1) = unlTo a b i ++ [i] := by
  have h' : (a.getD i 0 != b.getD i 0) = true := by simpa using h
  simp only [unlTo, List.range_succ, List.filter_append]
  simp only [List.filter_cons, List.filter_nil, h', if_true]
theorem unlTo_pre {a b : List UInt8} {i m : Nat} (h : i ≤ m) : unlTo a b i <+: unlTo a b m := by
  induction m with
  | zero => obtain rfl : i = 0 := by omega
            exact List.prefix_rfl
  | succ m ih =>
    rcases Nat.lt_or_ge i (m + 1) with h1 | h1
    · refine (ih (by omega)).trans ?_
      by_cases e : a.getD m 0 = b.getD m 0
      · rw [unlTo_succ_eq e]; exact List.prefix_rfl
      · rw [unlTo_succ_ne e]; exact List.prefix_append _ _
    · obtain rfl : i = m + 1 := by omega
      exact List.prefix_rfl
theorem unlTo_at {a b : List UInt8} {i m : Nat} (hi : i < m) (h : a.getD i 0 ≠ b.getD i 0) : (unlTo a b m)[(unlTo a b i).length]? = some i := by
  obtain ⟨t, ht⟩ := unlTo_pre (a := a) (b := b) (show i + 1 ≤ m by omega)
  rw [← ht, unlTo_succ_ne h]
  simp

/-- What a round must keep: all that lay below n₀, and the two boxes. -/
def Kp2 (n₀ Ba Bb : Nat) (W W' : World) : Prop := Below n₀ W W' ∧ (∀ o, W.heap[Ba]? = some o → W'.heap[Ba]? = some o) ∧ (∀ o, W.heap[Bb]? = some o → W'.heap[Bb]? = some o)
theorem Kp2.trans {n₀ Ba Bb : Nat} {A B C : World} (h : Kp2 n₀ Ba Bb A B) (k : Kp2 n₀ Ba Bb B C) : Kp2 n₀ Ba Bb A C := ⟨h.1.trans k.1, fun o e => k.2.1 o (h.2.1 o e), fun o e => k.2.2 o (h.2.2 o e)⟩

theorem toNat_ne_int (x y : UInt8) : (((x.toNat : Int) == (y.toNat : Int))) = (x == y) := by
  by_cases h : x = y
  · subst h; rw [beq_self_eq_true, beq_self_eq_true]
  · have : (x.toNat : Int) ≠ (y.toNat : Int) := fun e => h (UInt8.toNat_inj.1 (by omega))
    rw [beq_eq_false_iff_ne.2 this, beq_eq_false_iff_ne.2 h]

set_option maxRecDepth 100000 in
set_option maxHeartbeats 2000000 in
theorem unlike1_in (n : Nat) (l Ba Bb : Nat) (w0 : World) (A B : Option Addr) (ca cb : Nat) (a b : List UInt8)
    (ha : BR w0 A 4080 a) (hb : BR w0 B 4080 b) (J : Nat → World → Prop) (hJd : ∀ k W m, J k W → J k (World.drewN W m))
    (hY : ∀ k x W1, (unlTo a b 4080)[k]? = some x → J k W1 → YieldAt Fence.wide (n - 1) Try.prog l #[.int .i64 (x : Int)] W1 fun e W' => e = .returned (.bool true) ∧ J (k + 1) W' ∧ Kp2 w0.heap.size Ba Bb W1 W')
    (W : World) (hW : Below w0.heap.size w0 W) (hBa : Boxed W Ba 26 (.slice A 4080 ca)) (hBb : Boxed W Bb 26 (.slice B 4080 cb)) (h0 : J 0 W) :
    CallsIn Fence.wide n Try.prog 55 #[.func (.yield l) #[] #[], .pointer (some ⟨Ba, 0, none⟩), .pointer (some ⟨Bb, 0, none⟩)] W fun e W' => (∃ v, e = .returned v) ∧ J (unlTo a b 4080).length W' := by
  obtain ⟨g, o, rfl, -⟩ := ha.at_ (k := 0) (by omega)
  obtain ⟨g', o', rfl, -⟩ := hb.at_ (k := 0) (by omega)
  have HY := Lib.hid hY
  clear hY
  refine callsIn_of_wp Try.func55 rfl trivial ?_ rfl
  simp only [Try.ntmps55, List.size_toArray, List.length_cons, List.length_nil, Nat.reduceAdd, Nat.reduceSub, Array.replicate_succ, Array.replicate_zero, List.push_toArray, List.append_toArray, List.nil_append, List.cons_append]
  have hca := hBa.cell
  gi_wp2
  gi_loopw [7] (fun p wr => ∃ i : Nat, i ≤ 4080 ∧ p = .int .i64 (i : Int) ∧ Below w0.heap.size w0 wr ∧ Boxed wr Ba 26 (.slice (some ⟨g, o, none⟩) 4080 ca) ∧ Boxed wr Bb 26 (.slice (some ⟨g', o', none⟩) 4080 cb) ∧ J (unlTo a b i).length wr)
    (fun p _ => 4080 - (intOf p).toNat)
  case atStart => exact ⟨0, Nat.zero_le _, rfl, hW, hBa, hBb, h0⟩
  case round =>
    obtain ⟨i, hi, rfl, hB, hba, hbb, hJ⟩ := hrel
    by_cases hlt : i < 4080
    · have hca' := hba.cell
      have hcb' := hbb.cell
      obtain ⟨g1, o1, e1, c1⟩ := (ha.below hB).at_ (k := i) hlt
      cases e1
      obtain ⟨g2, o2, e2, c2⟩ := (hb.below hB).at_ (k := i) hlt
      cases e2
      have ht := toNat_ne_int (a.getD i 0) (b.getD i 0)
      change wr.cell? _ = some (.int .u8 _) at c1 c2
      generalize ((a.getD i 0).toNat : Int) = xa at *
      generalize ((b.getD i 0).toNat : Int) = xb at *
      by_cases hd : a.getD i 0 = b.getD i 0
      · rw [hd, beq_self_eq_true] at ht
        have hx : xa = xb := by simpa using ht
        clear ht
        subst hx
        gi_wp2
        refine wpIn_region_quiet_lit rfl (by kernel_rfl) (by kernel_rfl) ?_
        repeat (gi_big_quiet_step (fail))
        refine BigFrame.wpQuietIn_skip (by intro _ _ _ _; exact trivial) rfl ?_
        simp only [Act.put, List.setIfInBounds_toArray, List.set_cons_succ, List.set_cons_zero]
        repeat (gi_big_quiet_step (fail))
        refine wpQuietIn_nil ?_
        intro _ hw'
        obtain ⟨nq, hw''⟩ := hw'
        subst hw''
        gi_wp2
        go_roundw
        case rel => exact ⟨i + 1, by omega, by simp, gr_drewN hB nq, hba, hbb, by rw [unlTo_succ_eq hd]; exact hJd _ _ _ hJ⟩
        case measure => simp [intOf]; omega
      · obtain ⟨fn, tmps, assign, body, hy, hR⟩ := HY.out _ i wr.drew (unlTo_at hlt hd) (hJd _ _ 1 hJ)
        rw [beq_eq_false_iff_ne.2 hd] at ht
        have ht' : (xa != xb) = true := by simpa using ht
        gi_wp2
        gi_region_with ((try go_simp); refine ⟨fun h => (by cases h), ?_⟩; refine hR.mono ?_; rintro e W3 ⟨rfl, hJ3, hk3⟩)
        all_goals
          gi_wp2
          go_roundw
          case rel => exact ⟨i + 1, by omega, by simp, (gr_drewN hB 1).trans hk3.1, hk3.2.1 _ hba, hk3.2.2 _ hbb, by rw [unlTo_succ_ne hd, List.length_append]; exact hJ3⟩
          case measure => simp [intOf]; omega
    · obtain rfl : i = 4080 := by omega
      gi_wp2
      go_end0
      exact ⟨⟨_, rfl⟩, hJ⟩

end Go.Proofs.Ythpjjoahffagcaa
