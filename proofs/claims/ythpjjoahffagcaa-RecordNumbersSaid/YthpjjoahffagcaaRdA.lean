/-
  The reader: its block, next, one, two, four, eight.
-/
import Derived.Test.YthpjjoahffagcaaRcP
import Derived.Test.YthpjjoahffagcaaRefA
import Derived.Test.YthpjjoahffagcaaMpb
import Derived.Test.YthpjjoahffagcaaOff
namespace Go.Proofs.Ythpjjoahffagcaa
open Go.RowKit

/-- The reader's block. -/
def RB (w : World) (rb : Nat) (A : Option Addr) (n c : Nat) (a : Nat) (bad : Bool) : Prop :=
  w.heap[rb]? = some (.cells #[.slice A n c, .int .i64 (a : Int), .bool bad] 66 (0, 0))
section
variable {w w' : World} {rb : Nat} {A : Option Addr} {n c a : Nat} {bad : Bool}
theorem RB.lt (h : RB w rb A n c a bad) : rb < w.heap.size := (Array.getElem?_eq_some_iff.1 h).1
theorem RB.c0 (h : RB w rb A n c a bad) : w.cell? ⟨rb, 0, none⟩ = some (.slice A n c) := by rw [cell_of_row w rb 0 _ _ _ h]; rfl
theorem RB.c1 (h : RB w rb A n c a bad) : w.cell? ⟨rb, 1, none⟩ = some (.int .i64 (a : Int)) := by rw [cell_of_row w rb 1 _ _ _ h]; rfl
theorem RB.c2 (h : RB w rb A n c a bad) : w.cell? ⟨rb, 2, none⟩ = some (.bool bad) := by rw [cell_of_row w rb 2 _ _ _ h]; rfl
theorem RB.frozen (h : RB w rb A n c a bad) (j : Nat) : w.frozen? ⟨rb, j, none⟩ = false := by unfold RB at h; simp [World.frozen?, h]
theorem RB.s1 (h : RB w rb A n c a bad) (x : Nat) : RB (w.setCell ⟨rb, 1, none⟩ (.int .i64 (x : Int))) rb A n c x bad := by
  unfold RB at h ⊢
  simp only [World.setCell, Array.getElem?_modify, if_pos, h]
  rfl
theorem RB.s2 (h : RB w rb A n c a bad) (b : Bool) : RB (w.setCell ⟨rb, 2, none⟩ (.bool b)) rb A n c a b := by
  unfold RB at h ⊢
  simp only [World.setCell, Array.getElem?_modify, if_pos, h]
  rfl
theorem RB.below (h : RB w rb A n c a bad) (hb : Below w.heap.size w w') : RB w' rb A n c a bad := (hb.block rb h.lt).trans h
theorem RB.off {S : Nat → Prop} (h : RB w rb A n c a bad) (ho : Off S w w') (hs : ¬ S rb) : RB w' rb A n c a bad := (ho.block rb h.lt hs).trans h
end

section
variable {w : World} {rb : Nat} {A : Option Addr} {n c a : Nat} {bad : Bool}
theorem RB.s1i (h : RB w rb A n c a bad) {v : Int} {x : Nat} (hv : v = (x : Int)) : RB (w.setCell ⟨rb, 1, none⟩ (.int .i64 v)) rb A n c x bad := by
  subst hv
  exact h.s1 x
theorem RB.drewN (h : RB w rb A n c a bad) (k : Nat) : RB (w.drewN k) rb A n c a bad := h
end

/-- The reader over n bytes, at s. -/
def RSt (w : World) (rb : Nat) (A : Option Addr) (n c : Nat) (s : Option Nat) : Prop := ∃ a, a ≤ n ∧ RB w rb A n c a s.isNone ∧ ∀ x, s = some x → x = a
theorem RSt.some_ {w : World} {rb : Nat} {A : Option Addr} {n c a : Nat} (h : RB w rb A n c a false) (ha : a ≤ n) : RSt w rb A n c (some a) := ⟨a, ha, h, fun x e => by injection e with e; exact e.symm⟩
theorem RSt.none_ {w : World} {rb : Nat} {A : Option Addr} {n c a : Nat} (h : RB w rb A n c a true) (ha : a ≤ n) : RSt w rb A n c none := ⟨a, ha, h, fun x e => by cases e⟩
theorem RSt.below {w w' : World} {rb : Nat} {A : Option Addr} {n c : Nat} {s : Option Nat} (h : RSt w rb A n c s) (hb : Below w.heap.size w w') : RSt w' rb A n c s := by
  obtain ⟨a, h1, h2, h3⟩ := h
  exact ⟨a, h1, h2.below hb, h3⟩
theorem RSt.off {w w' : World} {rb : Nat} {A : Option Addr} {n c : Nat} {s : Option Nat} {S : Nat → Prop} (h : RSt w rb A n c s) (ho : Off S w w') (hs : ¬ S rb) : RSt w' rb A n c s := by
  obtain ⟨a, h1, h2, h3⟩ := h
  exact ⟨a, h1, h2.off ho hs, h3⟩
theorem RSt.lt {w : World} {rb : Nat} {A : Option Addr} {n c : Nat} {s : Option Nat} (h : RSt w rb A n c s) : rb < w.heap.size := by
  obtain ⟨a, h1, h2, h3⟩ := h
  exact h2.lt

set_option maxRecDepth 100000 in
theorem next_fits (w : World) (rb : Nat) (A : Option Addr) (n c a k : Nat) (h : RB w rb A n c a false) (hf : a + k ≤ n) (hn : n ≤ 9223372036854775807) :
    Calls Try.prog 67 #[.pointer (some ⟨rb, 0, none⟩), .int .i64 (k : Int)] w fun e w' => e = .returned (.tuple #[.int .i64 (a : Int), .bool true]) ∧ RB w' rb A n c (a + k) false ∧ Off (· = rb) w w' := by
  have k0 := h.c0
  have k1 := h.c1
  have k2 := h.c2
  have z1 := h.frozen 1
  have b1 : (0 : Int) ≤ (a : Int) := Int.natCast_nonneg _
  have b2 : (a : Int) ≤ 9223372036854775807 := by omega
  have b3 : (n : Int) ≤ 9223372036854775807 := by omega
  have b4 : (0 : Int) ≤ (k : Int) := Int.natCast_nonneg _
  have b5 : (a : Int) + (k : Int) ≤ 9223372036854775807 := by omega
  have b6 : (0 : Int) ≤ (n : Int) := Int.natCast_nonneg _
  have t1 : decide ((n : Int) - (a : Int) < (k : Int)) = false := by simp; omega
  have HR := Lib.hid h
  clear h
  go_enter Try.func67, Try.ntmps67
  go_wp2_with fail
  go_quiet (fail)
  go_wp2_with fail
  go_ret2
  exact ⟨rfl, (HR.out.drewN nq).s1i (by omega), ((Off.refl (· = rb) w).drewN nq).setCell _ rfl⟩
set_option maxRecDepth 100000 in
theorem next_short (w : World) (rb : Nat) (A : Option Addr) (n c a k : Nat) (h : RB w rb A n c a false) (ha : a ≤ n) (hf : n < a + k) (hn : n ≤ 9223372036854775807) :
    Calls Try.prog 67 #[.pointer (some ⟨rb, 0, none⟩), .int .i64 (k : Int)] w fun e w' => e = .returned (.tuple #[.int .i64 0, .bool false]) ∧ RB w' rb A n c a true ∧ Off (· = rb) w w' := by
  have k0 := h.c0
  have k1 := h.c1
  have k2 := h.c2
  have z1 := h.frozen 2
  have b1 : (0 : Int) ≤ (a : Int) := Int.natCast_nonneg _
  have b2 : (a : Int) ≤ 9223372036854775807 := by omega
  have b3 : (n : Int) ≤ 9223372036854775807 := by omega
  have b6 : (0 : Int) ≤ (n : Int) := Int.natCast_nonneg _
  have t1 : decide ((n : Int) - (a : Int) < (k : Int)) = true := by simp; omega
  have HR := Lib.hid h
  clear h
  go_enter Try.func67, Try.ntmps67
  go_wp2_with fail
  go_quiet (fail)
  go_wp2_with fail
  go_ret2
  exact ⟨rfl, (HR.out.drewN nq).s2 true, ((Off.refl (· = rb) w).drewN nq).setCell _ rfl⟩
set_option maxRecDepth 100000 in
theorem next_bad (w : World) (rb : Nat) (A : Option Addr) (n c a : Nat) (v : Value) (h : RB w rb A n c a true) :
    Calls Try.prog 67 #[.pointer (some ⟨rb, 0, none⟩), v] w fun e w' => e = .returned (.tuple #[.int .i64 0, .bool false]) ∧ RB w' rb A n c a true ∧ Off (· = rb) w w' := by
  have k0 := h.c0
  have k1 := h.c1
  have k2 := h.c2
  have z1 := h.frozen 2
  have HR := Lib.hid h
  clear h
  go_enter Try.func67, Try.ntmps67
  go_wp2_with fail
  go_quiet (fail)
  go_wp2_with fail
  go_ret2
  exact ⟨rfl, (HR.out.drewN nq).s2 true, ((Off.refl (· = rb) w).drewN nq).setCell _ rfl⟩

/-- Where the next k bytes stand. -/
def pNext (n k : Nat) : Option Nat → Option Nat
  | none => none
  | some a => if a + k ≤ n then some a else none
theorem next_no (w : World) (rb : Nat) (A : Option Addr) (n c k : Nat) (s : Option Nat) (h : RSt w rb A n c s) (hp : pNext n k s = none) (hn : n ≤ 9223372036854775807) :
    Calls Try.prog 67 #[.pointer (some ⟨rb, 0, none⟩), .int .i64 (k : Int)] w fun e w' => e = .returned (.tuple #[.int .i64 0, .bool false]) ∧ RSt w' rb A n c none ∧ Off (· = rb) w w' := by
  obtain ⟨a, ha, hr, hx⟩ := h
  cases s with
  | none =>
    refine (next_bad w rb A n c a _ hr).mono ?_
    rintro e w' ⟨rfl, h1, h2⟩
    exact ⟨rfl, RSt.none_ h1 ha, h2⟩
  | some x =>
    obtain rfl := hx x rfl
    unfold pNext at hp
    simp only at hp
    split at hp
    · cases hp
    · refine (next_short w rb A n c x k hr ha (by omega) hn).mono ?_
      rintro e w' ⟨rfl, h1, h2⟩
      exact ⟨rfl, RSt.none_ h1 ha, h2⟩

set_option maxRecDepth 100000 in
set_option maxHeartbeats 400000 in
theorem one_any (w : World) (rb : Nat) (A : Option Addr) (n c : Nat) (b : List UInt8) (s : Option Nat) (h : RSt w rb A n c s) (hb : BR w A n b) (hA : ∀ ad, A = some ad → 0 < n → ad.block ≠ rb) (hn : n ≤ 9223372036854775807) :
    Calls Try.prog 57 #[.pointer (some ⟨rb, 0, none⟩)] w fun e w' => e = .returned (.int .i64 ((pNum b 1 s).1 : Int)) ∧ RSt w' rb A n c (pNum b 1 s).2 ∧ Off (· = rb) w w' := by
  have HL := Lib.hid hb.len
  rcases hp : pNext n 1 s with _ | x
  · have e1 : pNum b 1 s = (0, none) := by
      cases s with
      | none => rfl
      | some a =>
        unfold pNext at hp
        simp only at hp
        unfold pNum
        simp only
        rw [HL.out]
        split at hp
        · cases hp
        · rename_i hh
          rw [if_neg hh]
    rw [e1]
    have HX := Lib.hid (next_no w rb A n c 1 s h hp hn)
    clear hp e1 h
    go_enter Try.func57, Try.ntmps57
    go_wp2_with fail
    refine HX.out.mono ?_
    rintro e w1 ⟨rfl, h1, h2⟩
    go_wp2_with fail
    go_ret
    exact ⟨rfl, h1, h2⟩
  · obtain ⟨a, ha, hr, hx⟩ := h
    obtain ⟨rfl, hf⟩ : s = some x ∧ x + 1 ≤ n := by
      cases s with
      | none => cases hp
      | some a' =>
        unfold pNext at hp
        simp only at hp
        split at hp
        · rename_i hh
          injection hp with hp
          subst hp
          exact ⟨rfl, hh⟩
        · cases hp
    obtain rfl := hx x rfl
    have e1 : pNum b 1 (some x) = (leN ((b.drop x).take 1), some (x + 1)) := by
      unfold pNum
      simp only
      rw [if_pos (by rw [HL.out]; exact hf)]
    rw [e1]
    have HX := Lib.hid (next_fits w rb A n c x 1 hr hf hn)
    have HB := Lib.hid hb
    obtain ⟨g, o, rfl, kc⟩ := hb.at_ (k := x) (by omega)
    have hne := hA _ rfl (by omega)
    obtain ⟨v, hv, hv2⟩ : ∃ v : Nat, (b.getD x 0).toNat = v ∧ v < 256 := ⟨_, rfl, (b.getD x 0).toNat_lt⟩
    rw [hv] at kc
    have HK : Hid (∀ w', Off (· = rb) w w' → w'.cell? ⟨g, o + x, none⟩ = some (.int .u8 (v : Int))) := Lib.hid (fun w' ho => by
      have : g < w.heap.size := World.block_lt_of_cell? w _ kc
      rw [World.cell?_of_block (ho.block g this (fun e => hne (by simpa using e)))]
      exact kc)
    have E2 : Hid (leN ((b.drop x).take 1) = v) := Lib.hid (by
      rw [drop_head b x (by rw [HL.out]; omega)]
      simp [leN]
      exact hv)
    have b1 : (0 : Int) ≤ (x : Int) := Int.natCast_nonneg _
    have b2 : (x : Int) < (n : Int) := by omega
    have b3 : (0 : Int) ≤ (v : Int) := Int.natCast_nonneg _
    have b4 : (v : Int) ≤ 255 := by omega
    clear hp e1 kc hr hb hA hx hv hv2
    go_enter Try.func57, Try.ntmps57
    go_wp2_with fail
    refine HX.out.mono ?_
    rintro e w1 ⟨rfl, h1, h2⟩
    have q0 := h1.c0
    have q1 := HK.out w1 h2
    have HR := Lib.hid h1
    clear h1
    go_wp2_with fail
    go_ret
    exact ⟨ret_i (by rw [E2.out]), RSt.some_ HR.out hf, h2⟩

end Go.Proofs.Ythpjjoahffagcaa
