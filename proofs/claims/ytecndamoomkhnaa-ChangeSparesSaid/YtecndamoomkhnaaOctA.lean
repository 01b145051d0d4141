/-
  Contracts: bytes.Compare, octets.Cmp, octets.Same, chancerylow.SameBytes, chancerylow.CopyBytes.
-/
import Derived.Test.YtecndamoomkhnaaBase
namespace Go.Proofs.Ytecndamoomkhnaa
open Go.RowKit

theorem bytesOf_BR {P : Program} {w : World} {A : Option Addr} {n : Nat} {l : List UInt8} (c : Nat) (h : BR w A n l) :
    (Extern.Bytes.bytesOf (.slice A n c)).run P w = .ok ⟨l.toArray⟩ w := by
  have hn := h.len
  rcases A with _ | ad
  · have h0 : n = 0 := by
      rcases Nat.eq_zero_or_pos n with h0 | h0
      · exact h0
      · obtain ⟨ad, e, _⟩ := h.2 h0
        cases e
    subst h0
    have : l = [] := List.eq_nil_of_length_eq_zero hn
    subst this
    simp [Extern.Bytes.bytesOf]
    rfl
  · subst hn
    have := run_loadBytes (P := P) w l ad .empty (fun j hj => by
      obtain ⟨g, o, e, hc⟩ := h.at_ hj
      injection e with e
      subst e
      rw [Go.WideShapes.add_plain]
      exact hc)
    have e : (⟨ByteArray.empty.data ++ l.toArray⟩ : ByteArray) = ⟨l.toArray⟩ := congrArg ByteArray.mk (Array.empty_append)
    rw [e] at this
    exact this

theorem run_compareSlices {P : Program} {w : World} {A B : Option Addr} {n m : Nat} {a b : List UInt8} (c d : Nat) (ha : BR w A n a) (hb : BR w B m b) :
    (Extern.BytealgCompare.compare #[.slice A n c, .slice B m d]).run P w = .ok (.int .i64 (Lib.compareBytes a b)) w := by
  change Sem.run P (do pure (goInt (Extern.BytealgCompare.cmp (← Extern.Bytes.bytesOf (.slice A n c)) (← Extern.Bytes.bytesOf (.slice B m d))))) w = _
  simp only [Sem.run_bind, bytesOf_BR c ha, bytesOf_BR d hb, Sem.run_pure, Result.andThen]
  rw [Lib.cmp_eq]
  rfl

set_option maxHeartbeats 400000 in
theorem bytes_Compare_any (A B : Option Addr) (n m c d : Nat) (a b : List UInt8) (w : World) (ha : BR w A n a) (hb : BR w B m b) :
    Calls Try.prog 59 #[.slice A n c, .slice B m d] w fun e w' => e = .returned (.int .i64 (Lib.compareBytes a b)) ∧ w = w' := by
  have hrun := run_compareSlices (P := Try.prog) c d ha hb
  have HR := Lib.hid hrun
  clear hrun
  go_enter Try.func59, Try.ntmps59
  go_wp2
  rw [run_callFunc_extern Try.func67 (by kernel_rfl) (by kernel_rfl) (by kernel_rfl) (e := Extern.BytealgCompare.compare) (by kernel_rfl), HR.out]
  simp only [Result.andThen]
  rw [Oper.upon_value]
  go_wp2
  go_ret
  exact ⟨rfl, rfl⟩

set_option maxHeartbeats 400000 in
theorem Cmp_any (A B : Option Addr) (n m c d : Nat) (a b : List UInt8) (w : World) (ha : BR w A n a) (hb : BR w B m b) :
    Calls Try.prog 16 #[.slice A n c, .slice B m d] w fun e w' => e = .returned (.int .i64 (Lib.compareBytes a b)) ∧ w = w' := by
  go_enter Try.func16, Try.ntmps16
  go_wp2_with fail
  refine (bytes_Compare_any A B n m c d a b _ ha hb).mono ?_
  rintro e w' ⟨rfl, rfl⟩
  go_wp2
  go_ret
  exact ⟨rfl, rfl⟩


set_option maxHeartbeats 400000 in
theorem Same_any (A B : Option Addr) (n m c d : Nat) (a b : List UInt8) (w : World) (ha : BR w A n a) (hb : BR w B m b) :
    Calls Try.prog 17 #[.slice A n c, .slice B m d] w fun e w' => e = .returned (.bool (Lib.compareBytes a b == 0)) ∧ w = w' := by
  go_enter Try.func17, Try.ntmps17
  go_wp2_with fail
  refine (Cmp_any A B n m c d a b _ ha hb).mono ?_
  rintro e w' ⟨rfl, rfl⟩
  go_wp2
  go_ret
  exact ⟨rfl, rfl⟩

theorem run_str {P : Program} {w : World} {A : Option Addr} {n : Nat} {l : List UInt8} (h : BR w A n l) {src dst e : TypeId}
    (hs : P.underlying src = some (.slice e)) (he : P.underlying e = some (.int .u8)) (hd : P.underlying dst = some .string) (c : Nat) :
    (convert src dst (.slice A n c)).run P w = .ok (.string ⟨l.toArray⟩) w := by
  rw [run_convert_bytes_string w src dst e _ n c hs he hd]
  rcases A with _ | ad
  · have h0 : n = 0 := by
      rcases Nat.eq_zero_or_pos n with h0 | h0
      · exact h0
      · obtain ⟨ad, e, _⟩ := h.2 h0
        cases e
    subst h0
    have : l = [] := List.eq_nil_of_length_eq_zero h.len
    subst this
    simp [Conv.bytesToString]
    rfl
  · rw [run_bytesToString w _ n c _ (h.load P rfl), foldl_push_bytes, ofNat_toNat_bytes]
    exact congrArg (fun x => Result.ok (Value.string x) w) (congrArg ByteArray.mk (Array.empty_append))

set_option maxHeartbeats 400000 in
theorem SameBytes_any (A B : Option Addr) (n m c d : Nat) (a b : List UInt8) (w : World) (ha : BR w A n a) (hb : BR w B m b) :
    Calls Try.prog 18 #[.slice A n c, .slice B m d] w fun e w' => e = .returned (.bool (a == b)) ∧ w = w' := by
  have h1 := run_str ha Try.underlying22 Try.underlying5 Try.underlying9 c
  have h2 := run_str hb Try.underlying22 Try.underlying5 Try.underlying9 d
  go_enter Try.func18, Try.ntmps18
  go_wp2
  go_ret
  exact ⟨rfl, rfl⟩

end Go.Proofs.Ytecndamoomkhnaa
