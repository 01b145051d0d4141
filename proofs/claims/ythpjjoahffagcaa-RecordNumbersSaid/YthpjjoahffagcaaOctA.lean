/-
  Contracts: bytes.Compare, octets.Cmp, octets.Same, chancerylow.SameBytes, chancerylow.CopyBytes.
-/
import Derived.Test.YthpjjoahffagcaaBase
namespace Go.Proofs.Ythpjjoahffagcaa
open Go.RowKit

theorem bytesOf_BR {P : Program} {w : World} {A : Option Addr} {n : Nat} {l : List UInt8} (c : Nat) (h : BR w A n l) :
    (Extern.Bytes.bytesOf (.slice A n c)).run P w = .ok ⟨l.toArray⟩ w := by
  have hn := h.len
  rcases A with _ | ad
  · have h0 : n = 0 := by
      rcases Nat.eq_zero_or_pos n with h0 | h0
      · exact h0
      · obtain ⟨ad, e, _⟩ := h.2 h0
        cases e
    subst h0
    have : l = [] := List.eq_nil_of_length_eq_zero hn
    subst this
    simp [Extern.Bytes.bytesOf]
    rfl
  · subst hn
    have := run_loadBytes (P := P) w l ad .empty (fun j hj => by
      obtain ⟨g, o, e, hc⟩ := h.at_ hj
      injection e with e
      subst e
      rw [Go.WideShapes.add_plain]
      exact hc)
    have e : (⟨ByteArray.empty.data ++ l.toArray⟩ : ByteArray) = ⟨l.toArray⟩ := congrArg ByteArray.mk (Array.empty_append)
    rw [e] at this
    exact this

theorem run_str {P : Program} {w : World} {A : Option Addr} {n : Nat} {l : List UInt8} (h : BR w A n l) {src dst e : TypeId}
    (hs : P.underlying src = some (.slice e)) (he : P.underlying e = some (.int .u8)) (hd : P.underlying dst = some .string) (c : Nat) :
    (convert src dst (.slice A n c)).run P w = .ok (.string ⟨l.toArray⟩) w := by
  rw [run_convert_bytes_string w src dst e _ n c hs he hd]
  rcases A with _ | ad
  · have h0 : n = 0 := by
      rcases Nat.eq_zero_or_pos n with h0 | h0
      · exact h0
      · obtain ⟨ad, e, _⟩ := h.2 h0
        cases e
    subst h0
    have : l = [] := List.eq_nil_of_length_eq_zero h.len
    subst this
    simp [Conv.bytesToString]
    rfl
  · rw [run_bytesToString w _ n c _ (h.load P rfl), foldl_push_bytes, ofNat_toNat_bytes]
    exact congrArg (fun x => Result.ok (Value.string x) w) (congrArg ByteArray.mk (Array.empty_append))

set_option maxHeartbeats 400000 in
theorem SameBytes_any (A B : Option Addr) (n m c d : Nat) (a b : List UInt8) (w : World) (ha : BR w A n a) (hb : BR w B m b) :
    Calls Try.prog 30 #[.slice A n c, .slice B m d] w fun e w' => e = .returned (.bool (a == b)) ∧ w = w' := by
  have h1 := run_str ha Try.underlying26 Try.underlying5 Try.underlying9 c
  have h2 := run_str hb Try.underlying26 Try.underlying5 Try.underlying9 d
  go_enter Try.func30, Try.ntmps30
  go_wp2
  go_ret
  exact ⟨rfl, rfl⟩

end Go.Proofs.Ythpjjoahffagcaa
