/-
  Contracts: octets.U16, U32, U64, Add16, Add32, Add64.
-/
import Derived.Test.YthpjjoahffagcaaOctD
namespace Go.Proofs.Ythpjjoahffagcaa
open Go.RowKit

set_option maxHeartbeats 400000 in
theorem U16_any (A : Option Addr) (n c : Nat) (l : List UInt8) (w : World) (at_ : Int) (ha : BR w A n l) (hn : n ≤ 9223372036854775807) (hb : -9223372036854775808 ≤ at_) (hb2 : at_ ≤ 9223372036854775807) :
    Calls Try.prog 68 #[.slice A n c, .int .i64 at_] w fun e w' =>
      e = .returned (.tuple #[.int .u16 (((numAt l at_ 2).getD 0 : Nat) : Int), .bool (numAt l at_ 2).isSome]) ∧ w = w' := by
  have hlt := numAt_lt l at_ 2
  have hc := number_any A n c l w at_ 2 ha hn (by omega) hb hb2
  generalize (numAt l at_ 2).isSome = o at hc ⊢
  generalize (numAt l at_ 2).getD 0 = x at hc hlt ⊢
  have hx : x ≤ 65535 := by omega
  have HC := Lib.hid hc
  clear hc hlt
  go_enter Try.func68, Try.ntmps68
  go_wp2_with fail
  refine HC.out.mono ?_
  rintro e w' ⟨rfl, rfl⟩
  go_wp2
  go_ret2
  exact ⟨rfl, rfl⟩

set_option maxHeartbeats 400000 in
theorem U32_any (A : Option Addr) (n c : Nat) (l : List UInt8) (w : World) (at_ : Int) (ha : BR w A n l) (hn : n ≤ 9223372036854775807) (hb : -9223372036854775808 ≤ at_) (hb2 : at_ ≤ 9223372036854775807) :
    Calls Try.prog 39 #[.slice A n c, .int .i64 at_] w fun e w' =>
      e = .returned (.tuple #[.int .u32 (((numAt l at_ 4).getD 0 : Nat) : Int), .bool (numAt l at_ 4).isSome]) ∧ w = w' := by
  have hlt := numAt_lt l at_ 4
  have hc := number_any A n c l w at_ 4 ha hn (by omega) hb hb2
  generalize (numAt l at_ 4).isSome = o at hc ⊢
  generalize (numAt l at_ 4).getD 0 = x at hc hlt ⊢
  have hx : x ≤ 4294967295 := by omega
  have HC := Lib.hid hc
  clear hc hlt
  go_enter Try.func39, Try.ntmps39
  go_wp2_with fail
  refine HC.out.mono ?_
  rintro e w' ⟨rfl, rfl⟩
  go_wp2
  go_ret2
  exact ⟨rfl, rfl⟩

set_option maxHeartbeats 400000 in
theorem U64_any (A : Option Addr) (n c : Nat) (l : List UInt8) (w : World) (at_ : Int) (ha : BR w A n l) (hn : n ≤ 9223372036854775807) (hb : -9223372036854775808 ≤ at_) (hb2 : at_ ≤ 9223372036854775807) :
    Calls Try.prog 69 #[.slice A n c, .int .i64 at_] w fun e w' =>
      e = .returned (.tuple #[.int .u64 (((numAt l at_ 8).getD 0 : Nat) : Int), .bool (numAt l at_ 8).isSome]) ∧ w = w' := by
  have hlt := numAt_lt l at_ 8
  have hc := number_any A n c l w at_ 8 ha hn (by omega) hb hb2
  generalize (numAt l at_ 8).isSome = o at hc ⊢
  generalize (numAt l at_ 8).getD 0 = x at hc hlt ⊢
  have hx : x ≤ 18446744073709551615 := by omega
  have HC := Lib.hid hc
  clear hc hlt
  go_enter Try.func69, Try.ntmps69
  go_wp2_with fail
  refine HC.out.mono ?_
  rintro e w' ⟨rfl, rfl⟩
  go_wp2
  go_ret2
  exact ⟨rfl, rfl⟩

set_option maxHeartbeats 400000 in
theorem Add16_any (A : Option Addr) (n c : Nat) (l : List UInt8) (w : World) (v : Nat) (ha : BR w A n l) (hn : n ≤ 211106232532984) (hv : v < 65536) :
    Calls Try.prog 45 #[.slice A n c, .int .u16 v] w fun e w' => ∃ r, e = .returned r ∧ OB w' w.heap.size r (l ++ leB v 2) ∧ Below w.heap.size w w' := by
  have hc := add_any A n c l w v 2 ha hn (by omega) (by omega)
  have e1 : IntKind.u64.wrap (v : Int) = (v : Int) := by rw [IntKind.wrap_u64]; omega
  have HC := Lib.hid hc
  have HV := Lib.hid hv
  clear hc hv
  go_enter Try.func45, Try.ntmps45
  go_wp2_with fail
  refine HC.out.mono ?_
  rintro e w' ⟨r, rfl, ho, hb⟩
  go_wp2
  go_ret
  exact ⟨r, rfl, ho, hb⟩

set_option maxHeartbeats 400000 in
theorem Add32_any (A : Option Addr) (n c : Nat) (l : List UInt8) (w : World) (v : Nat) (ha : BR w A n l) (hn : n ≤ 211106232532984) (hv : v < 4294967296) :
    Calls Try.prog 46 #[.slice A n c, .int .u32 v] w fun e w' => ∃ r, e = .returned r ∧ OB w' w.heap.size r (l ++ leB v 4) ∧ Below w.heap.size w w' := by
  have hc := add_any A n c l w v 4 ha hn (by omega) (by omega)
  have e1 : IntKind.u64.wrap (v : Int) = (v : Int) := by rw [IntKind.wrap_u64]; omega
  have HC := Lib.hid hc
  have HV := Lib.hid hv
  clear hc hv
  go_enter Try.func46, Try.ntmps46
  go_wp2_with fail
  refine HC.out.mono ?_
  rintro e w' ⟨r, rfl, ho, hb⟩
  go_wp2
  go_ret
  exact ⟨r, rfl, ho, hb⟩

set_option maxHeartbeats 400000 in
theorem Add64_any (A : Option Addr) (n c : Nat) (l : List UInt8) (w : World) (v : Nat) (ha : BR w A n l) (hn : n ≤ 211106232532984) (hv : v < 18446744073709551616) :
    Calls Try.prog 44 #[.slice A n c, .int .u64 v] w fun e w' => ∃ r, e = .returned r ∧ OB w' w.heap.size r (l ++ leB v 8) ∧ Below w.heap.size w w' := by
  have hc := add_any A n c l w v 8 ha hn (by omega) (by omega)
  have e1 : IntKind.u64.wrap (v : Int) = (v : Int) := by rw [IntKind.wrap_u64]; omega
  have HC := Lib.hid hc
  have HV := Lib.hid hv
  clear hc hv
  go_enter Try.func44, Try.ntmps44
  go_wp2_with fail
  refine HC.out.mono ?_
  rintro e w' ⟨r, rfl, ho, hb⟩
  go_wp2
  go_ret
  exact ⟨r, rfl, ho, hb⟩

end Go.Proofs.Ythpjjoahffagcaa
