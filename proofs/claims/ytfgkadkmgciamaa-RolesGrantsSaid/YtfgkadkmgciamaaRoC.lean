/-
  Members and grants compared; lists of them that are the same.
-/
import Derived.Test.YtfgkadkmgciamaaRoB
namespace Go.Proofs.Ytfgkadkmgciamaa
open Go Go.RowKit

set_option maxHeartbeats 1000000 in
theorem run_eqlM (a b : Mb) (W : World) : Sem.run Try.prog (binOp .eql 52 (.agg #[.string ⟨a.1.toArray⟩, .string ⟨a.2.toArray⟩]) (.agg #[.string ⟨b.1.toArray⟩, .string ⟨b.2.toArray⟩])) W = .ok (.bool ((a.1 == b.1 && a.2 == b.2))) W := by
  have u0 := Try.underlying9
  have a0 := Try.isAgg9
  have z0 := Try.sizeOf9
  have hS : Try.prog.underlying 52 = some (.struct (Try.prog.fieldsOf 52)) := by kernel_rfl
  have hp : Try.prog.stoodInHeld 52 = false := by kernel_rfl
  rw [run_eql_struct, show (10000 : Nat) = 9999 + 1 from rfl, run_equalIn_agg W 9999 52 _ _ hS hp]
  simp only [Program.fieldsOf, Try.underlying52]
  go_simp
  by_cases h0 : a.1 = b.1 <;> by_cases h1 : a.2 = b.2 <;> simp [h0, h1]
set_option maxHeartbeats 1000000 in
theorem run_neqM (a b : Mb) (W : World) : Sem.run Try.prog (binOp .neq 52 (.agg #[.string ⟨a.1.toArray⟩, .string ⟨a.2.toArray⟩]) (.agg #[.string ⟨b.1.toArray⟩, .string ⟨b.2.toArray⟩])) W = .ok (.bool (!(a.1 == b.1 && a.2 == b.2))) W := by
  have u0 := Try.underlying9
  have a0 := Try.isAgg9
  have z0 := Try.sizeOf9
  have hS : Try.prog.underlying 52 = some (.struct (Try.prog.fieldsOf 52)) := by kernel_rfl
  have hp : Try.prog.stoodInHeld 52 = false := by kernel_rfl
  rw [run_neq_struct, show (10000 : Nat) = 9999 + 1 from rfl, run_equalIn_agg W 9999 52 _ _ hS hp]
  simp only [Program.fieldsOf, Try.underlying52]
  go_simp
  by_cases h0 : a.1 = b.1 <;> by_cases h1 : a.2 = b.2 <;> simp [h0, h1]
set_option maxHeartbeats 1000000 in
theorem run_eqlG (a b : Gr) (W : World) : Sem.run Try.prog (binOp .eql 30 (.agg #[.string ⟨a.tb.toArray⟩, .int .u8 a.pv, .string ⟨a.gt.toArray⟩, .string ⟨a.gb.toArray⟩, .bool a.op]) (.agg #[.string ⟨b.tb.toArray⟩, .int .u8 b.pv, .string ⟨b.gt.toArray⟩, .string ⟨b.gb.toArray⟩, .bool b.op])) W = .ok (.bool ((a.tb == b.tb && a.pv == b.pv && a.gt == b.gt && a.gb == b.gb && a.op == b.op))) W := by
  have u0 := Try.underlying9
  have a0 := Try.isAgg9
  have z0 := Try.sizeOf9
  have u1 := Try.underlying28
  have a1 := Try.isAgg28
  have z1 := Try.sizeOf28
  have u2 := Try.underlying4
  have a2 := Try.isAgg4
  have z2 := Try.sizeOf4
  have hS : Try.prog.underlying 30 = some (.struct (Try.prog.fieldsOf 30)) := by kernel_rfl
  have hp : Try.prog.stoodInHeld 30 = false := by kernel_rfl
  rw [run_eql_struct, show (10000 : Nat) = 9999 + 1 from rfl, run_equalIn_agg W 9999 30 _ _ hS hp]
  simp only [Program.fieldsOf, Try.underlying30]
  go_simp
  by_cases h0 : a.tb = b.tb <;> by_cases h1 : a.pv = b.pv <;> by_cases h2 : a.gt = b.gt <;> by_cases h3 : a.gb = b.gb <;> by_cases h4 : a.op = b.op <;> simp [h0, h1, h2, h3, h4]
set_option maxHeartbeats 1000000 in
theorem run_neqG (a b : Gr) (W : World) : Sem.run Try.prog (binOp .neq 30 (.agg #[.string ⟨a.tb.toArray⟩, .int .u8 a.pv, .string ⟨a.gt.toArray⟩, .string ⟨a.gb.toArray⟩, .bool a.op]) (.agg #[.string ⟨b.tb.toArray⟩, .int .u8 b.pv, .string ⟨b.gt.toArray⟩, .string ⟨b.gb.toArray⟩, .bool b.op])) W = .ok (.bool (!(a.tb == b.tb && a.pv == b.pv && a.gt == b.gt && a.gb == b.gb && a.op == b.op))) W := by
  have u0 := Try.underlying9
  have a0 := Try.isAgg9
  have z0 := Try.sizeOf9
  have u1 := Try.underlying28
  have a1 := Try.isAgg28
  have z1 := Try.sizeOf28
  have u2 := Try.underlying4
  have a2 := Try.isAgg4
  have z2 := Try.sizeOf4
  have hS : Try.prog.underlying 30 = some (.struct (Try.prog.fieldsOf 30)) := by kernel_rfl
  have hp : Try.prog.stoodInHeld 30 = false := by kernel_rfl
  rw [run_neq_struct, show (10000 : Nat) = 9999 + 1 from rfl, run_equalIn_agg W 9999 30 _ _ hS hp]
  simp only [Program.fieldsOf, Try.underlying30]
  go_simp
  by_cases h0 : a.tb = b.tb <;> by_cases h1 : a.pv = b.pv <;> by_cases h2 : a.gt = b.gt <;> by_cases h3 : a.gb = b.gb <;> by_cases h4 : a.op = b.op <;> simp [h0, h1, h2, h3, h4]

set_option maxRecDepth 100000 in
set_option maxHeartbeats 1000000 in
theorem SameTexts_any (A B : Option Addr) (n c d : Nat) (l : List Str) (w : World) (ha : ER ES 1 w A n l) (hb : ER ES 1 w B n l) (hn : n ≤ 9223372036854775807) :
    Calls Try.prog 22 #[.slice A n c, .slice B n d] w fun e w' => e = .returned (.bool true) ∧ Below w.heap.size w w' := by
  have HA := Lib.hid ha
  have HB := Lib.hid hb
  have te : ((n : Int) == (n : Int)) = true := beq_self_eq_true _
  clear ha hb
  go_enter Try.func22, Try.ntmps22
  go_wp2_with fail
  go_loopw [5] (fun i wr => ∃ (k : Nat), k ≤ n ∧ i = .int .i64 (k : Int) ∧ Below w.heap.size w wr) (fun i _ => n - (intOf i).toNat)
  case atStart => exact ⟨0, Nat.zero_le _, rfl, gr_refl w⟩
  case round =>
    obtain ⟨k, hk, rfl, hb⟩ := hrel
    by_cases hlt : k < n
    · have t1 : decide ((k : Int) < (n : Int)) = true := decide_eq_true (by omega)
      have t2 : decide (k < n) = true := decide_eq_true hlt
      have i0' : (0 : Int) ≤ (k : Int) := Int.natCast_nonneg _
      have i1' : (k : Int) < (n : Int) := by omega
      obtain ⟨g, o, x, rfl, hx, q0⟩ := (HA.out.below hb).atStr hlt
      obtain ⟨g2, o2, y, rfl, hy, r0⟩ := (HB.out.below hb).atStr hlt
      obtain rfl : x = y := by rw [hx] at hy; injection hy
      have hne : ∀ W, Sem.run Try.prog (binOp .neq 9 (.string ⟨x.toArray⟩) (.string ⟨x.toArray⟩)) W = .ok (.bool false) W := fun W => by rw [run_neqS, beq_self_eq_true]; rfl
      have HBB := Lib.hid hb
      clear hx hy hb
      go_wp2_with (go_quiet (fail))
      have HB2 := Lib.hid (HBB.out.trans (gr_drewN (gr_refl wr) nq |>.mono HBB.out.size))
      go_roundw
      case rel => exact ⟨k + 1, by omega, by go_num, HB2.out⟩
      case measure => simp [intOf]; omega
    · obtain rfl : k = n := by omega
      have t1 : decide ((k : Int) < (k : Int)) = false := decide_eq_false (by omega)
      have HBB := Lib.hid hb
      clear hb
      go_wp2_with fail
      go_ret
      exact ⟨rfl, HBB.out⟩

set_option maxRecDepth 100000 in
set_option maxHeartbeats 1000000 in
theorem SameMembers_any (A B : Option Addr) (n c d : Nat) (l : List Mb) (w : World) (ha : ER EM 2 w A n l) (hb : ER EM 2 w B n l) (hn : n ≤ 9223372036854775807) :
    Calls Try.prog 28 #[.slice A n c, .slice B n d] w fun e w' => e = .returned (.bool true) ∧ Below w.heap.size w w' := by
  have HA := Lib.hid ha
  have HB := Lib.hid hb
  have te : ((n : Int) == (n : Int)) = true := beq_self_eq_true _
  clear ha hb
  go_enter Try.func28, Try.ntmps28
  go_wp2_with fail
  go_loopw [5] (fun i wr => ∃ (k : Nat), k ≤ n ∧ i = .int .i64 (k : Int) ∧ Below w.heap.size w wr) (fun i _ => n - (intOf i).toNat)
  case atStart => exact ⟨0, Nat.zero_le _, rfl, gr_refl w⟩
  case round =>
    obtain ⟨k, hk, rfl, hb⟩ := hrel
    by_cases hlt : k < n
    · have t1 : decide ((k : Int) < (n : Int)) = true := decide_eq_true (by omega)
      have t2 : decide (k < n) = true := decide_eq_true hlt
      have i0' : (0 : Int) ≤ (k : Int) := Int.natCast_nonneg _
      have i1' : (k : Int) < (n : Int) := by omega
      obtain ⟨g, o, x, rfl, hx, q0, q1⟩ := (HA.out.below hb).atMb hlt
      obtain ⟨g2, o2, y, rfl, hy, r0, r1⟩ := (HB.out.below hb).atMb hlt
      obtain rfl : x = y := by rw [hx] at hy; injection hy
      have hne : ∀ W, Sem.run Try.prog (binOp .neq 52 (.agg #[.string ⟨x.1.toArray⟩, .string ⟨x.2.toArray⟩]) (.agg #[.string ⟨x.1.toArray⟩, .string ⟨x.2.toArray⟩])) W = .ok (.bool false) W := fun W => by rw [run_neqM]; simp
      have HBB := Lib.hid hb
      clear hx hy hb
      go_wp2_with (go_quiet (fail))
      have HB2 := Lib.hid (HBB.out.trans (gr_drewN (gr_refl wr) nq |>.mono HBB.out.size))
      go_roundw
      case rel => exact ⟨k + 1, by omega, by go_num, HB2.out⟩
      case measure => simp [intOf]; omega
    · obtain rfl : k = n := by omega
      have t1 : decide ((k : Int) < (k : Int)) = false := decide_eq_false (by omega)
      have HBB := Lib.hid hb
      clear hb
      go_wp2_with fail
      go_ret
      exact ⟨rfl, HBB.out⟩

set_option maxRecDepth 100000 in
set_option maxHeartbeats 1000000 in
theorem SameGrants_any (A B : Option Addr) (n c d : Nat) (l : List Gr) (w : World) (ha : ER EG 5 w A n l) (hb : ER EG 5 w B n l) (hn : n ≤ 9223372036854775807) :
    Calls Try.prog 20 #[.slice A n c, .slice B n d] w fun e w' => e = .returned (.bool true) ∧ Below w.heap.size w w' := by
  have HA := Lib.hid ha
  have HB := Lib.hid hb
  have te : ((n : Int) == (n : Int)) = true := beq_self_eq_true _
  clear ha hb
  go_enter Try.func20, Try.ntmps20
  go_wp2_with fail
  go_loopw [5] (fun i wr => ∃ (k : Nat), k ≤ n ∧ i = .int .i64 (k : Int) ∧ Below w.heap.size w wr) (fun i _ => n - (intOf i).toNat)
  case atStart => exact ⟨0, Nat.zero_le _, rfl, gr_refl w⟩
  case round =>
    obtain ⟨k, hk, rfl, hb⟩ := hrel
    by_cases hlt : k < n
    · have t1 : decide ((k : Int) < (n : Int)) = true := decide_eq_true (by omega)
      have t2 : decide (k < n) = true := decide_eq_true hlt
      have i0' : (0 : Int) ≤ (k : Int) := Int.natCast_nonneg _
      have i1' : (k : Int) < (n : Int) := by omega
      obtain ⟨g, o, x, rfl, hx, q0, q1, q2, q3, q4⟩ := (HA.out.below hb).atGr hlt
      obtain ⟨g2, o2, y, rfl, hy, r0, r1, r2, r3, r4⟩ := (HB.out.below hb).atGr hlt
      obtain rfl : x = y := by rw [hx] at hy; injection hy
      have hne : ∀ W, Sem.run Try.prog (binOp .neq 30 (.agg #[.string ⟨x.tb.toArray⟩, .int .u8 x.pv, .string ⟨x.gt.toArray⟩, .string ⟨x.gb.toArray⟩, .bool x.op]) (.agg #[.string ⟨x.tb.toArray⟩, .int .u8 x.pv, .string ⟨x.gt.toArray⟩, .string ⟨x.gb.toArray⟩, .bool x.op])) W = .ok (.bool false) W := fun W => by rw [run_neqG]; simp
      have HBB := Lib.hid hb
      clear hx hy hb
      go_wp2_with (go_quiet (fail))
      have HB2 := Lib.hid (HBB.out.trans (gr_drewN (gr_refl wr) nq |>.mono HBB.out.size))
      go_roundw
      case rel => exact ⟨k + 1, by omega, by go_num, HB2.out⟩
      case measure => simp [intOf]; omega
    · obtain rfl : k = n := by omega
      have t1 : decide ((k : Int) < (k : Int)) = false := decide_eq_false (by omega)
      have HBB := Lib.hid hb
      clear hb
      go_wp2_with fail
      go_ret
      exact ⟨rfl, HBB.out⟩

end Go.Proofs.Ytfgkadkmgciamaa
