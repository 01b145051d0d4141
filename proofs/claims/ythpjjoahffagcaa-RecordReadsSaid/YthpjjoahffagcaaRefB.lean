/-
  Contracts: chanceryref01.Part, chanceryref01.Cmp.
-/
import Derived.Test.YthpjjoahffagcaaRefA
namespace Go.Proofs.Ythpjjoahffagcaa
open Go.RowKit

set_option maxHeartbeats 400000 in
theorem refPart_any (A : Option Addr) (n c : Nat) (l : List UInt8) (w : World) (at_ : Int) (ha : BR w A n l) (hn : n ≤ 211106232532992) (hb : -9223372036854775808 ≤ at_) (hb2 : at_ ≤ 9223372036854775807) :
    Calls Try.prog 61 #[.slice A n c, .int .i64 at_] w fun e w' => ∃ v,
      e = .returned (.tuple #[v, .int .i64 ((((partAt l at_).map (·.2)).getD 0 : Nat) : Int), .bool (partAt l at_).isSome]) ∧ OB w' w.heap.size v (((partAt l at_).map (·.1)).getD []) ∧ Below w.heap.size w w' := by
  have hU := refNumber_any A n c l w at_ 2 ha (by omega) (by omega) hb hb2
  have hl := ha.len
  cases hk : numAt l at_ 2 with
  | none =>
    have hp : partAt l at_ = none := by unfold partAt; rw [hk]
    rw [hp]
    rw [hk] at hU
    have HU := Lib.hid hU
    clear hU hp hk
    go_enter Try.func61, Try.ntmps61
    go_wp2_with fail
    refine HU.out.mono ?_
    rintro e w' ⟨rfl, rfl⟩
    go_wp2
    go_ret3
    exact ⟨_, rfl, OB.nil _ _, Below.refl _ _⟩
  | some k =>
    obtain ⟨h0, h1, h2, h3⟩ := numAt_some hk
    have hk16 : k ≤ 65535 := by omega
    clear h2 h3
    rw [hk] at hU
    by_cases hs : (l.length : Int) - (at_ + 2) < k
    · have hp : partAt l at_ = none := by unfold partAt; rw [hk]; exact if_pos hs
      rw [hp]
      have HU := Lib.hid hU
      rw [hl] at hs h1
      have HL := Lib.hid hl
      have hs' : decide ((n : Int) - at_ - 2 < (k : Int)) = true := by simp; omega
      clear hU hp hk hl
      go_enter Try.func61, Try.ntmps61
      go_wp2_with fail
      refine HU.out.mono ?_
      rintro e w' ⟨rfl, rfl⟩
      go_wp2
      go_ret3
      exact ⟨_, rfl, OB.nil _ _, Below.refl _ _⟩
    · have hp : partAt l at_ = some ((l.drop (at_.toNat + 2)).take k, at_.toNat + 2 + k) := by unfold partAt; rw [hk]; exact if_neg hs
      rw [hp]
      obtain ⟨a, rfl⟩ := Int.eq_ofNat_of_zero_le h0
      have HU := Lib.hid hU
      have hs1 : a + 2 + k ≤ n := by omega
      have hs2 : decide ((n : Int) - (a : Int) - 2 < (k : Int)) = false := by simp; omega
      have HL := Lib.hid hl
      clear hU hp hk hl hs h1
      obtain ⟨i0, hi0, hz0, hz1, hz2⟩ := info_parts info_u8
      go_enter Try.func61, Try.ntmps61
      go_wp2_with fail
      refine HU.out.mono ?_
      rintro e w' ⟨rfl, rfl⟩
      go_wp2
      go_loopw [9, 10] (fun r i wr => ∃ j : Nat, j ≤ k ∧ i = .int .i64 j ∧ OB wr w.heap.size r ((l.drop (a + 2)).take j) ∧ Below w.heap.size w wr) (fun _ i _ => k - (intOf i).toNat)
      case atStart => exact ⟨0, Nat.zero_le _, rfl, OB.nil _ _, Below.refl _ _⟩
      case round =>
        obtain ⟨j, hj, rfl, ho, hbw⟩ := hrel
        by_cases hlt : j < k
        · obtain ⟨g, o, rfl, hc⟩ := (ha.below hbw).at_ (k := a + 2 + j) (by omega)
          have hlen : ((l.drop (a + 2)).take j).length ≤ j := by simp; omega
          go_wp2_with (at_builtin; refine wpList_append_Rd _ rfl (.tmp 35) (.tmp 43) _ rfl w.heap.size 5 i0 _ 1 1 Try.underlying26 hi0 hz0 hz1 hz2 rfl u9 ((l.drop (a + 2)).take j).length _ rfl (World.ownsRow.alloc ho _) _ 1 1 _ rfl (Rd.new wr _ #[_] 1 1 rfl) (by simp [Value.oneCell']) (by omega) (by simp only [maxLen]; omega) (by have := hbw.size; simp; omega) ?_; intro v2 w2 hown2 hg2 _ _)
          have hb3 : Below w.heap.size w w2 := (hbw.alloc hbw.size _).grown hg2 (by have := hbw.size; simp; omega) (fun k hk => (World.ownsRow.lt ho k hk).1)
          have ho2 : OB w2 w.heap.size v2 ((l.drop (a + 2)).take (j + 1)) := by
            refine OB.of_own hown2 ?_
            rw [take_step _ _ (by rw [List.length_drop, HL.out]; omega)]
            simp [bv, List.getD]
          clear hown2 hg2 hlen hc
          go_wp2
          go_roundw
          case rel => exact ⟨j + 1, by omega, by go_num, ho2, hb3⟩
          case measure => simp [intOf]; omega
        · go_wp2
          go_ret3
          have : j = k := by omega
          subst this
          exact ⟨u9, by simp, by simpa using ho, hbw⟩

end Go.Proofs.Ythpjjoahffagcaa
