/-
  Contracts: chancerylow.LentBytes, chancerylow.KeptBytes.
-/
import Derived.Test.YthpjjoahffagcaaOctF
namespace Go.Proofs.Ythpjjoahffagcaa
open Go.RowKit

/-- What LentBytes hands out: the bytes l, and three marks in the room behind them. -/
def Lent (w : World) (base : Nat) (A : Option Addr) (c : Nat) (l : List UInt8) : Prop :=
  w.ownsRow base 5 1 (.slice A (l.length + 3) c) (l.length + 3) ((l ++ [77, 78, 79]).map bv)

theorem Lent.BR {w : World} {base : Nat} {A : Option Addr} {c : Nat} {l : List UInt8} (h : Lent w base A c l) : Proofs.Ythpjjoahffagcaa.BR w A l.length l ∧ l.length + 3 ≤ c ∧ c ≤ maxLen := by
  have h' : OB w base (.slice A (l.length + 3) c) (l ++ [77, 78, 79]) := OB.of_own h rfl
  obtain ⟨A', c', e, hr, hc, hm⟩ := h'.form
  injection e with e1 e2 e3
  subst e1 e3
  have := hr.pre (j := l.length) (by simp)
  rw [List.take_left] at this
  exact ⟨this, by simpa using hc, hm⟩

theorem Lent.below {w w' : World} {base : Nat} {A : Option Addr} {c : Nat} {l : List UInt8} (h : Lent w base A c l) (hb : Below w.heap.size w w') : Lent w' base A c l :=
  World.ownsRow.kept h (row := none) ⟨hb.os, hb.tape, hb.output, hb.size, fun k hk _ => hb.block k hk⟩ (by cases (Value.slice A (l.length + 3) c).ownBlock <;> simp)

set_option maxHeartbeats 400000 in
theorem LentBytes_any (A : Option Addr) (n c : Nat) (l : List UInt8) (w : World) (ha : BR w A n l) (hn : n ≤ 211106232532992) :
    Calls Try.prog 15 #[.slice A n c] w fun e w' => ∃ A' c', e = .returned (.slice A' n c') ∧ Lent w' w.heap.size A' c' l ∧ Below w.heap.size w w' := by
  obtain ⟨i0, hi0, hz0, hz1, hz2⟩ := info_parts info_u8
  have hcp := CopyBytes_any A n c l w ha hn
  have HC := Lib.hid hcp
  have hl2 : l.length ≤ n := by rw [ha.len]; omega
  have HL := Lib.hid ha.len
  clear hcp
  have hcut := fun W A2 m2 c2 (h : n ≤ c2) => run_cut_h (P := Try.prog) W 26 5 i0 Try.underlying26 hi0 1 hz1 A2 m2 c2 (n : Int) n rfl h
  go_enter Try.func15, Try.ntmps15
  go_wp2_with fail
  refine HC.out.mono ?_
  rintro e w1 ⟨v1, rfl, ho1, hb1⟩
  go_wp2_with (at_builtin; refine wpList_append_Rd _ rfl _ _ _ rfl w.heap.size 5 i0 _ 1 1 Try.underlying26 hi0 hz0 hz1 hz2 rfl v1 l.length _ rfl (World.ownsRow.alloc ho1 _) _ 3 3 _ rfl (Rd.new w1 _ #[_, _, _] 3 1 rfl) (by simp [Value.oneCell']) (by omega) (by simp only [maxLen]; omega) (by have := hb1.size; simp; omega) ?_; intro v2 w2 hown2 hg2 _ _; obtain ⟨A2, c2, rfl, hc2, hm2⟩ := own_form hown2; have hc3 : n ≤ c2 := by (have := HL.out; omega))
  go_ret
  refine ⟨A2, c2, rfl, ?_, (hb1.alloc hb1.size _).grown hg2 (by have := hb1.size; simp; omega) (fun k hk => (World.ownsRow.lt ho1 k hk).1)⟩
  unfold Lent
  simpa [bv] using hown2


theorem Lent.marks {w : World} {base : Nat} {A : Option Addr} {c : Nat} {l : List UInt8} (h : Lent w base A c l) :
    ∃ g o, A = some ⟨g, o, none⟩ ∧ w.cell? ⟨g, o + l.length, none⟩ = some (.int .u8 77) ∧ w.cell? ⟨g, o + (l.length + 1), none⟩ = some (.int .u8 78) ∧ w.cell? ⟨g, o + (l.length + 2), none⟩ = some (.int .u8 79) := by
  have h' : OB w base (.slice A (l.length + 3) c) (l ++ [77, 78, 79]) := OB.of_own h rfl
  obtain ⟨A', c', e, hr, hc, hm⟩ := h'.form
  injection e with e1 e2 e3
  subst e1
  obtain ⟨g, o, rfl, h0⟩ := hr.at_ (k := l.length) (by simp)
  obtain ⟨g1, o1, e1, h1⟩ := hr.at_ (k := l.length + 1) (by simp)
  obtain ⟨g2, o2, e2, h2⟩ := hr.at_ (k := l.length + 2) (by simp)
  cases e1
  cases e2
  exact ⟨g, o, rfl, by simpa using h0, by simpa using h1, by simpa using h2⟩

set_option maxHeartbeats 400000 in
theorem KeptBytes_any (A B : Option Addr) (n c d base : Nat) (l : List UInt8) (w : World) (hk : Lent w base A c l) (hb : BR w B n l) (hn : n ≤ 211106232532992) :
    Calls Try.prog 22 #[.slice A n c, .slice B n d] w fun e w' => e = .returned (.bool true) ∧ w = w' := by
  obtain ⟨i0, hi0, hz0, hz1, hz2⟩ := info_parts info_u8
  obtain ⟨hr, hc3, hm⟩ := hk.BR
  obtain ⟨g, o, rfl, h0, h1, h2⟩ := hk.marks
  have hl := hb.len
  rw [hl] at hr hc3 h0 h1 h2
  have hcut := fun W => run_cut_h (P := Try.prog) W 26 5 i0 Try.underlying26 hi0 1 hz1 (some ⟨g, o, none⟩) n c ((n : Int) + 3) (n + 3) rfl hc3
  have hS := SameBytes_any (some ⟨g, o, none⟩) B n n c d l l w hr hb
  simp only [beq_self_eq_true] at hS
  have HS := Lib.hid hS
  clear hl hS
  go_enter Try.func22, Try.ntmps22
  go_wp2_with fail
  refine HS.out.mono ?_
  rintro e w1 ⟨rfl, rfl⟩
  go_wp2
  go_ret
  exact ⟨rfl, rfl⟩

theorem ret_i {k : IntKind} {a b : Int} (h : a = b) : Ending.returned (.int k a) = .returned (.int k b) := by rw [h]

end Go.Proofs.Ythpjjoahffagcaa
