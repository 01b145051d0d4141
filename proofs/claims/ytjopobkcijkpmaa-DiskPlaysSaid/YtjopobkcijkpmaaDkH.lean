/-
  slices.Backward of a disk's writes.
-/
import Derived.Test.YtjopobkcijkpmaaDkG
import Derived.Test.YtjopobkcijkpmaaRs
import Derived.Sort.QuietIn
import Derived.RegionIn
import Derived.BigRegionIn
import Derived.Stop.RegionWithIn
namespace Go.Proofs.Ytjopobkcijkpmaa
open Go.RowKit

attribute [local go_sem] Oper.semAt_some

/-- What a round must keep: all that lay below n₀, and the box. -/
def Kp1 (n₀ Bb : Nat) (W W' : World) : Prop := Below n₀ W W' ∧ (∀ o, W.heap[Bb]? = some o → W'.heap[Bb]? = some o)
theorem Kp1.trans {n₀ Bb : Nat} {A B C : World} (h : Kp1 n₀ Bb A B) (k : Kp1 n₀ Bb B C) : Kp1 n₀ Bb A C := ⟨h.1.trans k.1, fun o e => k.2 o (h.2 o e)⟩

/-- The places of n writes, the last one first. -/
def backL (n : Nat) : List Nat := (List.range n).reverse
theorem backL_len (n : Nat) : (backL n).length = n := by simp [backL]
theorem backL_at {n k : Nat} (h : k < n) : (backL n)[k]? = some (n - 1 - k) := by
  unfold backL
  rw [List.getElem?_reverse (by simpa using h), List.length_range, List.getElem?_range (by omega)]

/-- What is handed to a round: the place, and the write. -/
def backV (pvs : List (Int × Value)) (x : Nat) : Array Value := #[.int .i64 (x : Int), .agg #[.int .i64 (pvs.getD x (0, .slice none 0 0)).1, (pvs.getD x (0, .slice none 0 0)).2]]

theorem Backward_any (A : Option Addr) (n c : Nat) (w : World) :
    Calls Try.prog 65 #[.slice A n c] w fun r w' => r = .returned (.func (.func 96) #[] #[.pointer (some ⟨w.heap.size, 0, none⟩)]) ∧ w' = w.alloc (.cells #[.slice A n c] 76) := by
  go_enter Try.func65, Try.ntmps65
  go_wp2_with fail
  go_ret
  exact ⟨by simp, rfl⟩

set_option maxRecDepth 100000 in
set_option maxHeartbeats 2000000 in
theorem back1_in (n : Nat) (l Bb : Nat) (w0 : World) (A : Option Addr) (np cp : Nat) (pvs : List (Int × Value)) (hr : Rd w0 2 A np (wrs pvs)) (hp : pvs.length = np) (hnp : np ≤ 1000000) (hone : ∀ q ∈ pvs, ∃ B m d, q.2 = .slice B m d)
    (J : Nat → World → Prop) (Jx : World → Prop) (_hJd : ∀ k W m, J k W → J k (World.drewN W m)) (_hJx : ∀ W m, Jx W → Jx (World.drewN W m))
    (hY : ∀ k x W1, (backL np)[k]? = some x → J k W1 → YieldAt Fence.wide (n - 1) Try.prog l (backV pvs x) W1 fun e W' => (e = .returned (.bool true) ∧ J (k + 1) W' ∧ Kp1 w0.heap.size Bb W1 W') ∨ (e = .returned (.bool false) ∧ Jx W'))
    (W : World) (hW : Below w0.heap.size w0 W) (hBb : Boxed W Bb 76 (.slice A np cp)) (h0 : J 0 W) :
    CallsIn Fence.wide n Try.prog 96 #[.func (.yield l) #[] #[], .pointer (some ⟨Bb, 0, none⟩)] W fun e W' => (∃ v, e = .returned v) ∧ (J np W' ∨ Jx W') := by
  have HY := Lib.hid hY
  have HP := Lib.hid hp
  have HONE := Lib.hid hone
  clear hY hp hone
  refine callsIn_of_wp Try.func96 rfl trivial ?_ rfl
  simp only [Try.ntmps96, List.size_toArray, List.length_cons, List.length_nil, Nat.reduceAdd, Nat.reduceSub, Array.replicate_succ, Array.replicate_zero, List.push_toArray, List.append_toArray, List.nil_append, List.cons_append]
  have hca := hBb.cell
  gi_wp2
  gi_loopw [3] (fun p wr => ∃ k : Nat, k ≤ np ∧ p = .int .i64 ((np : Int) - 1 - (k : Int)) ∧ Below w0.heap.size w0 wr ∧ Boxed wr Bb 76 (.slice A np cp) ∧ J k wr)
    (fun p _ => ((intOf p) + 1).toNat)
  case atStart => exact ⟨0, Nat.zero_le _, by simp, hW, hBb, h0⟩
  case round =>
    obtain ⟨k, hk, rfl, hB, hba, hJ⟩ := hrel
    by_cases hlt : k < np
    · have hca' := hba.cell
      obtain ⟨x, hx⟩ : ∃ x, x = np - 1 - k := ⟨_, rfl⟩
      have hxe : (np : Int) - 1 - (k : Int) = (x : Int) := by omega
      have hxl : x < np := by omega
      have hbk : (backL np)[k]? = some x := by rw [backL_at hlt, hx]
      have hxp : x < pvs.length := by rw [HP.out]; exact hxl
      obtain ⟨g, o, rfl, hc⟩ := Rd.plain (hr.below hB) (by omega) (by omega)
      have hiu : pvs[x]? = some (pvs.getD x (0, .slice none 0 0)) := by simp [List.getD, List.getElem?_eq_getElem hxp]
      obtain ⟨w1, w2⟩ := wrs_at pvs x _ hiu
      have c1 := hc _ _ w1
      have c2 := hc _ _ w2
      obtain ⟨fn, tmps, assign, body, hy, hR⟩ := HY.out k x wr hbk hJ
      obtain ⟨Bq, mq, dq, eq⟩ := HONE.out _ (List.mem_of_getElem? hiu)
      unfold backV at hy
      generalize pvs.getD x (0, .slice none 0 0) = pq at *
      obtain ⟨pq1, pq2⟩ := pq
      dsimp only at c1 c2 hy eq
      subst eq
      rw [hxe]
      have c2' : wr.cell? ⟨g, o + x * 2 + 1, none⟩ = some (.slice Bq mq dq) := by rw [Nat.add_assoc]; exact c2
      clear hc w1 w2 hiu c2 hca
      have HX := Lib.hid hx
      have HXE := Lib.hid hxe
      clear hx hxe
      gi_wp2
      refine ⟨fun h => (by cases h), ?_⟩
      refine hR.mono ?_
      rintro e W3 (⟨rfl, hJ3, hk3⟩ | ⟨rfl, hjx⟩)
      · gi_wp2
        go_roundw
        case rel => exact ⟨k + 1, by omega, by have h1 := HXE.out; simp; omega, hB.trans hk3.1, hk3.2 _ hba, hJ3⟩
        case measure => have h1 := HXE.out; first | (simp [intOf]; done) | (simp [intOf]; omega)
      · gi_wp2
        trace_state
        refine bodyPost_ret (results_none rfl _ _ _) rfl ?_
        exact ⟨⟨_, rfl⟩, .inr hjx⟩
    · obtain rfl : k = np := by omega
      have hneg : (k : Int) - 1 - (k : Int) = -1 := by omega
      rw [hneg]
      gi_wp2
      go_end0
      exact ⟨⟨_, rfl⟩, .inl hJ⟩

end Go.Proofs.Ytjopobkcijkpmaa
