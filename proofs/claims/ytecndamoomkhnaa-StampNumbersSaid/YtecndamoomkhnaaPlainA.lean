/-
  Plain facts on the order of bytes. No program.
-/
import Derived.Lib.Bytealg
namespace Go.Proofs.Ytecndamoomkhnaa

theorem cmp_neg : ∀ a b : List UInt8, Lib.compareBytes a b = - Lib.compareBytes b a
  | [], [] => by decide
  | [], _ :: _ => by simp [Lib.compareBytes]
  | _ :: _, [] => by simp [Lib.compareBytes]
  | x :: a, y :: b => by
    have ih := cmp_neg a b
    unfold Lib.compareBytes
    by_cases h1 : x < y
    · have h2 : ¬ y < x := by rw [UInt8.lt_iff_toNat_lt] at *; omega
      simp [h1, h2]
    · by_cases h2 : y < x
      · simp [h1, h2]
      · simp [h1, h2, ih]

theorem cmp_range : ∀ a b : List UInt8, -1 ≤ Lib.compareBytes a b ∧ Lib.compareBytes a b ≤ 1
  | [], [] => by decide
  | [], _ :: _ => by simp [Lib.compareBytes]
  | _ :: _, [] => by simp [Lib.compareBytes]
  | x :: a, y :: b => by
    have ih := cmp_range a b
    unfold Lib.compareBytes
    split
    · omega
    · split <;> omega

theorem cmp_zero : ∀ a b : List UInt8, Lib.compareBytes a b = 0 ↔ a = b
  | [], [] => by decide
  | [], _ :: _ => by simp [Lib.compareBytes]
  | _ :: _, [] => by simp [Lib.compareBytes]
  | x :: a, y :: b => by
    have ih := cmp_zero a b
    unfold Lib.compareBytes
    by_cases h1 : x < y
    · have : x ≠ y := by rintro rfl; rw [UInt8.lt_iff_toNat_lt] at h1; omega
      simp [h1, this]
    · by_cases h2 : y < x
      · have : x ≠ y := by rintro rfl; rw [UInt8.lt_iff_toNat_lt] at h2; omega
        simp [h1, h2, this]
      · have : x = y := by rw [UInt8.lt_iff_toNat_lt] at h1 h2; exact UInt8.toNat_inj.1 (by omega)
        simp [this, ih]

theorem cmp_trans : ∀ a b c : List UInt8, Lib.compareBytes a b ≤ 0 → Lib.compareBytes b c ≤ 0 → Lib.compareBytes a c ≤ 0
  | [], _, [] => by simp [Lib.compareBytes]
  | [], _, _ :: _ => by simp [Lib.compareBytes]
  | _ :: _, [], _ => by simp [Lib.compareBytes]
  | _ :: _, _ :: _, [] => by simp [Lib.compareBytes]
  | x :: a, y :: b, z :: c => by
    have ih := cmp_trans a b c
    unfold Lib.compareBytes
    simp only [UInt8.lt_iff_toNat_lt]
    repeat' split
    all_goals first | omega | (intro h1 h2; omega) | (intro h1 h2; exact ih h1 h2)

theorem cmp_trans' (a b c : List UInt8) (h1 : 0 ≤ Lib.compareBytes a b) (h2 : 0 ≤ Lib.compareBytes b c) : 0 ≤ Lib.compareBytes a c := by
  have := cmp_trans c b a (by rw [cmp_neg]; omega) (by rw [cmp_neg]; omega)
  rw [cmp_neg]; omega

theorem cmp_same_tail : ∀ a b c : List UInt8, a.length = b.length → Lib.compareBytes (a ++ c) (b ++ c) = Lib.compareBytes a b
  | [], [], c => fun _ => by simp only [List.nil_append]; rw [(cmp_zero c c).2 rfl, (cmp_zero [] []).2 rfl]
  | [], _ :: _, _ => fun h => by simp at h
  | _ :: _, [], _ => fun h => by simp at h
  | x :: a, y :: b, c => fun h => by
    have ih := cmp_same_tail a b c (by simpa using h)
    simp only [List.cons_append]
    rw [Lib.compareBytes, Lib.compareBytes, ih]

theorem cmp_longer : ∀ a c : List UInt8, Lib.compareBytes a (a ++ c) = - (min (c.length : Int) 1)
  | [], [] => by decide
  | [], x :: c => by simp [Lib.compareBytes]; omega
  | x :: a, c => by
    have ih := cmp_longer a c
    simp only [List.cons_append]
    rw [Lib.compareBytes, ih]
    simp

end Go.Proofs.Ytecndamoomkhnaa
