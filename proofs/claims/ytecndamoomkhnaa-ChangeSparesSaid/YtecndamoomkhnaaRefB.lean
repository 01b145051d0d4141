/-
  Contracts: chanceryref01.Part, chanceryref01.Cmp.
-/
import Derived.Test.YtecndamoomkhnaaRefA
namespace Go.Proofs.Ytecndamoomkhnaa
open Go.RowKit

set_option maxHeartbeats 400000 in
theorem refPart_any (A : Option Addr) (n c : Nat) (l : List UInt8) (w : World) (at_ : Int) (ha : BR w A n l) (hn : n ≤ 211106232532992) (hb : -9223372036854775808 ≤ at_) (hb2 : at_ ≤ 9223372036854775807) :
    Calls Try.prog 56 #[.slice A n c, .int .i64 at_] w fun e w' => ∃ v,
      e = .returned (.tuple #[v, .int .i64 ((((partAt l at_).map (·.2)).getD 0 : Nat) : Int), .bool (partAt l at_).isSome]) ∧ OB w' w.heap.size v (((partAt l at_).map (·.1)).getD []) ∧ Below w.heap.size w w' := by
  have hU := refNumber_any A n c l w at_ 2 ha (by omega) (by omega) hb hb2
  have hl := ha.len
  cases hk : numAt l at_ 2 with
  | none =>
    have hp : partAt l at_ = none := by unfold partAt; rw [hk]
    rw [hp]
    rw [hk] at hU
    have HU := Lib.hid hU
    clear hU hp hk
    go_enter Try.func56, Try.ntmps56
    go_wp2_with fail
    refine HU.out.mono ?_
    rintro e w' ⟨rfl, rfl⟩
    go_wp2
    go_ret3
    exact ⟨_, rfl, OB.nil _ _, Below.refl _ _⟩
  | some k =>
    obtain ⟨h0, h1, h2, h3⟩ := numAt_some hk
    have hk16 : k ≤ 65535 := by omega
    clear h2 h3
    rw [hk] at hU
    by_cases hs : (l.length : Int) - (at_ + 2) < k
    · have hp : partAt l at_ = none := by unfold partAt; rw [hk]; exact if_pos hs
      rw [hp]
      have HU := Lib.hid hU
      rw [hl] at hs h1
      have HL := Lib.hid hl
      have hs' : decide ((n : Int) - at_ - 2 < (k : Int)) = true := by simp; omega
      clear hU hp hk hl
      go_enter Try.func56, Try.ntmps56
      go_wp2_with fail
      refine HU.out.mono ?_
      rintro e w' ⟨rfl, rfl⟩
      go_wp2
      go_ret3
      exact ⟨_, rfl, OB.nil _ _, Below.refl _ _⟩
    · have hp : partAt l at_ = some ((l.drop (at_.toNat + 2)).take k, at_.toNat + 2 + k) := by unfold partAt; rw [hk]; exact if_neg hs
      rw [hp]
      obtain ⟨a, rfl⟩ := Int.eq_ofNat_of_zero_le h0
      have HU := Lib.hid hU
      have hs1 : a + 2 + k ≤ n := by omega
      have hs2 : decide ((n : Int) - (a : Int) - 2 < (k : Int)) = false := by simp; omega
      have HL := Lib.hid hl
      clear hU hp hk hl hs h1
      obtain ⟨i0, hi0, hz0, hz1, hz2⟩ := info_parts info_u8
      go_enter Try.func56, Try.ntmps56
      go_wp2_with fail
      refine HU.out.mono ?_
      rintro e w' ⟨rfl, rfl⟩
      go_wp2
      go_loopw [9, 10] (fun r i wr => ∃ j : Nat, j ≤ k ∧ i = .int .i64 j ∧ OB wr w.heap.size r ((l.drop (a + 2)).take j) ∧ Below w.heap.size w wr) (fun _ i _ => k - (intOf i).toNat)
      case atStart => exact ⟨0, Nat.zero_le _, rfl, OB.nil _ _, Below.refl _ _⟩
      case round =>
        obtain ⟨j, hj, rfl, ho, hbw⟩ := hrel
        by_cases hlt : j < k
        · obtain ⟨g, o, rfl, hc⟩ := (ha.below hbw).at_ (k := a + 2 + j) (by omega)
          have hlen : ((l.drop (a + 2)).take j).length ≤ j := by simp; omega
          go_wp2_with (at_builtin; refine wpList_append_Rd _ rfl (.tmp 35) (.tmp 43) _ rfl w.heap.size 5 i0 _ 1 1 Try.underlying22 hi0 hz0 hz1 hz2 rfl u9 ((l.drop (a + 2)).take j).length _ rfl (World.ownsRow.alloc ho _) _ 1 1 _ rfl (Rd.new wr _ #[_] 1 1 rfl) (by simp [Value.oneCell']) (by omega) (by simp only [maxLen]; omega) (by have := hbw.size; simp; omega) ?_; intro v2 w2 hown2 hg2 _ _)
          have hb3 : Below w.heap.size w w2 := (hbw.alloc hbw.size _).grown hg2 (by have := hbw.size; simp; omega) (fun k hk => (World.ownsRow.lt ho k hk).1)
          have ho2 : OB w2 w.heap.size v2 ((l.drop (a + 2)).take (j + 1)) := by
            refine OB.of_own hown2 ?_
            rw [take_step _ _ (by rw [List.length_drop, HL.out]; omega)]
            simp [bv, List.getD]
          clear hown2 hg2 hlen hc
          go_wp2
          go_roundw
          case rel => exact ⟨j + 1, by omega, by go_num, ho2, hb3⟩
          case measure => simp [intOf]; omega
        · go_wp2
          go_ret3
          have : j = k := by omega
          subst this
          exact ⟨u9, by simp, by simpa using ho, hbw⟩

theorem cmp_step {a b : List UInt8} {i : Nat} (ha : i < a.length) (hb : i < b.length) :
    Lib.compareBytes (a.drop i) (b.drop i) = if (a.getD i 0).toNat < (b.getD i 0).toNat then -1 else if (b.getD i 0).toNat < (a.getD i 0).toNat then 1 else Lib.compareBytes (a.drop (i + 1)) (b.drop (i + 1)) := by
  rw [drop_head a i ha, drop_head b i hb, Lib.compareBytes]
  simp only [UInt8.lt_iff_toNat_lt]

theorem cmp_end {a b : List UInt8} {i : Nat} (h : a.length ≤ i ∨ b.length ≤ i) (ha : i ≤ a.length) (hb : i ≤ b.length) :
    Lib.compareBytes (a.drop i) (b.drop i) = if a.length < b.length then -1 else if b.length < a.length then 1 else 0 := by
  rcases h with h | h
  · rw [List.drop_eq_nil_of_le h]
    by_cases hl : a.length < b.length
    · rw [if_pos hl, drop_head b i (by omega)]; rfl
    · rw [if_neg hl, if_neg (by omega), List.drop_eq_nil_of_le (by omega)]; rfl
  · rw [List.drop_eq_nil_of_le h]
    by_cases hl : b.length < a.length
    · rw [if_neg (by omega), if_pos hl, drop_head a i (by omega)]; rfl
    · rw [if_neg (by omega), if_neg hl, List.drop_eq_nil_of_le (by omega)]; rfl

set_option maxHeartbeats 400000 in
theorem refCmp_any (A B : Option Addr) (n m c d : Nat) (a b : List UInt8) (w : World) (ha : BR w A n a) (hb : BR w B m b) (hn : n ≤ 211106232532992) (_hm : m ≤ 211106232532992) :
    Calls Try.prog 57 #[.slice A n c, .slice B m d] w fun e w' => e = .returned (.int .i64 (Lib.compareBytes a b)) ∧ Below w.heap.size w w' := by
  have HA := Lib.hid ha.len
  have HB := Lib.hid hb.len
  go_enter Try.func57, Try.ntmps57
  go_wp2
  go_loopw [5] (fun i wr => ∃ j q : Nat, j ≤ n ∧ j ≤ m ∧ i = .int .i64 j ∧ Hid (Lib.compareBytes a b = Lib.compareBytes (a.drop j) (b.drop j)) ∧ wr = w.drewN q) (fun i _ => n - (intOf i).toNat)
  case atStart => exact ⟨0, 0, Nat.zero_le _, Nat.zero_le _, rfl, Lib.hid (by simp), rfl⟩
  case round =>
    obtain ⟨j, q, hj1, hj2, rfl, hcmp, rfl⟩ := hrel
    by_cases h1 : j < n
    · by_cases h2 : j < m
      · obtain ⟨g, o, rfl, hc1⟩ := ha.at_ h1
        obtain ⟨g', o', rfl, hc2⟩ := hb.at_ h2
        have hst := cmp_step (a := a) (b := b) (i := j) (by rw [HA.out]; exact h1) (by rw [HB.out]; exact h2)
        rw [← hcmp.out] at hst
        have HST := Lib.hid hst
        clear hst
        have hd1 : decide (j < n) = true := by simpa using h1
        have hd2 : decide (j < m) = true := by simpa using h2
        generalize (a.getD j 0).toNat = x at *
        generalize (b.getD j 0).toNat = y at *
        by_cases h3 : x < y
        · have h3' : decide (x < y) = true := by simpa using h3
          go_wp2
          go_quiet (fail)
          go_wp2
          go_ret
          exact ⟨by rw [HST.out, if_pos h3]; rfl, gr_drewN (gr_drewN (gr_refl _) _) _⟩
        · have h3' : decide (x < y) = false := by simpa using h3
          by_cases h4 : y < x
          · have h4' : decide (y < x) = true := by simpa using h4
            go_wp2
            go_quiet (fail)
            go_wp2
            go_quiet (fail)
            go_wp2
            go_ret
            exact ⟨by rw [HST.out, if_neg h3, if_pos h4]; rfl, by simp only [World.drewN_drewN]; exact gr_drewN (gr_refl _) _⟩
          · have h4' : decide (y < x) = false := by simpa using h4
            go_wp2
            go_quiet (fail)
            go_wp2
            go_quiet (fail)
            go_wp2
            go_roundw
            case rel => exact ⟨j + 1, _, by omega, by omega, by go_num, Lib.hid (by rw [HST.out, if_neg h3, if_neg h4]), rfl⟩
            case measure => simp [intOf]; omega
      · have hd1 : decide (j < n) = true := by simpa using h1
        have hd2 : decide (j < m) = false := by simpa using h2
        have hen := cmp_end (a := a) (b := b) (i := j) (.inr (by rw [HB.out]; omega)) (by rw [HA.out]; omega) (by rw [HB.out]; omega)
        rw [HA.out, HB.out, ← hcmp.out] at hen
        have HE := Lib.hid hen
        clear hen
        have k1 : decide (n < m) = false := by simp; omega
        have k2 : decide (m < n) = true := by simp; omega
        go_wp2
        go_ret
        exact ⟨by rw [HE.out, if_neg (by omega), if_pos (by omega)]; rfl, gr_drewN (gr_refl _) _⟩
    · have hd1 : decide (j < n) = false := by simpa using h1
      have hen := cmp_end (a := a) (b := b) (i := j) (.inl (by rw [HA.out]; omega)) (by rw [HA.out]; omega) (by rw [HB.out]; omega)
      rw [HA.out, HB.out, ← hcmp.out] at hen
      have HE := Lib.hid hen
      clear hen
      have k2 : decide (m < n) = false := by simp; omega
      by_cases h3 : n < m
      · have h3' : decide (n < m) = true := by simpa using h3
        go_wp2
        go_ret
        exact ⟨by rw [HE.out, if_pos h3]; rfl, gr_drewN (gr_refl _) _⟩
      · have h3' : decide (n < m) = false := by simpa using h3
        go_wp2
        go_ret
        exact ⟨by rw [HE.out, if_neg h3, if_neg (by omega)]; rfl, gr_drewN (gr_refl _) _⟩

end Go.Proofs.Ytecndamoomkhnaa
