/-
  The law ChangeTells, walked.
-/
import Derived.Test.YtecndamoomkhnaaDfH
import Derived.Test.YtecndamoomkhnaaOctH
namespace Go.Proofs.Ytecndamoomkhnaa
open Go.RowKit

/-- What both Diffs answer. -/
def DiffPost (w : World) (a b : List UInt8) (e : Ending) (w' : World) : Prop :=
  Below w.heap.size w w' ∧ ∃ v ps er, e = .returned (.tuple #[v, .int .i64 er]) ∧ OP w' w.heap.size v ps ∧ Hid (er = if a.length = 4080 ∧ b.length = 4080 then 0 else 2) ∧ Hid (ps = if a.length = 4080 ∧ b.length = 4080 then diffL a b else [])

theorem Diff_all (A B : Option Addr) (na nb ca cb : Nat) (a b : List UInt8) (w : World) (ha : BR w A na a) (hb : BR w B nb b) (hcb : nb ≤ cb) (h1 : na ≤ 9223372036854775807) (h2 : nb ≤ 9223372036854775807) :
    Calls Try.prog 22 #[.slice A na ca, .slice B nb cb] w (DiffPost w a b) := by
  by_cases h : na = 4080 ∧ nb = 4080
  · obtain ⟨rfl, rfl⟩ := h
    refine (Diff_any A B ca cb a b w ha hb hcb).mono ?_
    rintro e w' ⟨v, rfl, ho, hb'⟩
    exact ⟨hb', v, _, 0, rfl, ho, Lib.hid (by rw [if_pos ⟨ha.len, hb.len⟩]), Lib.hid (by rw [if_pos ⟨ha.len, hb.len⟩])⟩
  · refine (Diff_bad A B na nb ca cb w (by omega) h1 h2).mono ?_
    rintro e w' ⟨rfl, hb'⟩
    have hn : ¬ (a.length = 4080 ∧ b.length = 4080) := by rw [ha.len, hb.len]; exact h
    exact ⟨hb', _, [], 2, rfl, OP.nil _ _, Lib.hid (by rw [if_neg hn]), Lib.hid (by rw [if_neg hn])⟩

theorem refDiff_all (A B : Option Addr) (na nb ca cb : Nat) (a b : List UInt8) (w : World) (ha : BR w A na a) (hb : BR w B nb b) (hcb : nb ≤ cb) (h1 : na ≤ 9223372036854775807) (h2 : nb ≤ 9223372036854775807) :
    Calls Try.prog 35 #[.slice A na ca, .slice B nb cb] w (DiffPost w a b) := by
  by_cases h : na = 4080 ∧ nb = 4080
  · obtain ⟨rfl, rfl⟩ := h
    refine (refDiff_any A B ca cb a b w ha hb hcb).mono ?_
    rintro e w' ⟨v, rfl, ho, hb'⟩
    exact ⟨hb', v, _, 0, rfl, ho, Lib.hid (by rw [if_pos ⟨ha.len, hb.len⟩]), Lib.hid (by rw [if_pos ⟨ha.len, hb.len⟩])⟩
  · refine (refDiff_bad A B na nb ca cb w (by omega) h1 h2).mono ?_
    rintro e w' ⟨rfl, rfl⟩
    have hn : ¬ (a.length = 4080 ∧ b.length = 4080) := by rw [ha.len, hb.len]; exact h
    exact ⟨gr_refl _, _, [], 2, rfl, OP.nil _ _, Lib.hid (by rw [if_neg hn]), Lib.hid (by rw [if_neg hn])⟩

/-- What both Applys answer. -/
def ApplyAll (w : World) (l : List UInt8) (ps : List Pc) (e : Ending) (w' : World) : Prop :=
  Below w.heap.size w w' ∧ ∃ v m er, e = .returned (.tuple #[v, .int .i64 er]) ∧ OB w' w.heap.size v m ∧ Hid (er = if l.length = 4080 ∧ (applyL l ps).isSome then 0 else 2) ∧ Hid (m = if l.length = 4080 then (applyL l ps).getD [] else [])

theorem Apply_all (A B : Option Addr) (n c m d : Nat) (l : List UInt8) (ps : List Pc) (w : World) (ha : BR w A n l) (hp : PR w B m ps) (hn : n ≤ 9223372036854775807) (hm : m ≤ 9223372036854775807) (hpb : ∀ p ∈ ps, p.1 ≤ 9223372036854775807) :
    Calls Try.prog 23 #[.slice A n c, .slice B m d] w (ApplyAll w l ps) := by
  have hl := ha.len
  by_cases h : n = 4080
  · subst h
    refine (Apply_any A B c m d l ps w ha hp hm hpb).mono ?_
    rintro e w' ⟨hb, hr⟩
    refine ⟨hb, ?_⟩
    cases hx : applyL l ps with
    | some x =>
      rw [hx] at hr
      obtain ⟨v, rfl, ho⟩ := hr
      exact ⟨v, x, 0, rfl, ho, Lib.hid (by simp [hl]), Lib.hid (by simp [hl])⟩
    | none =>
      rw [hx] at hr
      cases hr
      exact ⟨_, [], 2, rfl, OB.nil _ _, Lib.hid (by simp), Lib.hid (by simp)⟩
  · refine (Apply_bad A c n _ w h hn).mono ?_
    rintro e w' ⟨rfl, rfl⟩
    exact ⟨gr_refl _, _, [], 2, rfl, OB.nil _ _, Lib.hid (by rw [if_neg (by omega)]), Lib.hid (by rw [if_neg (by omega)])⟩

theorem refApply_all (A B : Option Addr) (n c m d : Nat) (l : List UInt8) (ps : List Pc) (w : World) (ha : BR w A n l) (hp : PR w B m ps) (hn : n ≤ 9223372036854775807) (hm : m ≤ 9223372036854775807) (hpb : ∀ p ∈ ps, p.1 ≤ 9223372036854775807) :
    Calls Try.prog 36 #[.slice A n c, .slice B m d] w (ApplyAll w l ps) := by
  have hl := ha.len
  by_cases h : n = 4080
  · subst h
    refine (refApply_any A B c m d l ps w ha hp hm hpb).mono ?_
    rintro e w' ⟨hb, hr⟩
    refine ⟨hb, ?_⟩
    cases hx : applyL l ps with
    | some x =>
      rw [hx] at hr
      obtain ⟨v, rfl, ho⟩ := hr
      exact ⟨v, x, 0, rfl, ho, Lib.hid (by simp [hl]), Lib.hid (by simp [hl])⟩
    | none =>
      rw [hx] at hr
      cases hr
      exact ⟨_, [], 2, rfl, OB.nil _ _, Lib.hid (by simp), Lib.hid (by simp)⟩
  · refine (refApply_bad A c n _ w h hn).mono ?_
    rintro e w' ⟨rfl, rfl⟩
    exact ⟨gr_refl _, _, [], 2, rfl, OB.nil _ _, Lib.hid (by rw [if_neg (by omega)]), Lib.hid (by rw [if_neg (by omega)])⟩

theorem SamePieces_own (v u : Value) (ps qs : List Pc) (w : World) {b1 b2 : Nat} (hv : OP w b1 v ps) (hu : OP w b2 u qs) (h : ps = qs) (hl : ps.length ≤ 9223372036854775807) :
    Calls Try.prog 24 #[v, u] w fun r w' => r = .returned (.bool true) ∧ Below w.heap.size w w' := by
  subst h
  obtain ⟨A, c, rfl, h1, _, _⟩ := hv.form rfl
  obtain ⟨B, d, rfl, h2, _, _⟩ := hu.form rfl
  refine (SamePieces_any A B _ _ c d ps ps w h1 h2 hl hl).mono ?_
  rintro e w' ⟨rfl, k, rfl⟩
  exact ⟨ret_b (by simp [samePcs]), gr_drewN (gr_refl w) k⟩

set_option maxRecDepth 100000 in
set_option maxHeartbeats 2000000 in
theorem ChangeTells_walk (A B C : Option Addr) (n c m d k f : Nat) (a b : List UInt8) (ps : List Pc) (w : World) (ha : BR w A n a) (hb : BR w B m b) (hp : PR w C k ps) (_hnc : n ≤ c) (hmd : m ≤ d)
    (hn : n ≤ 140737488351232) (hm : m ≤ 140737488351232) (hk : k ≤ 4398046511000) (hpb : ∀ p ∈ ps, p.1 ≤ 9223372036854775807 ∧ p.2.length ≤ 140737488351232) :
    Calls Try.prog 7 #[.slice A n c, .slice B m d, .slice C k f] w fun e w' => e = .returned (.bool true) ∧ Below w.heap.size w w' := by
  have HLA := Lib.hid ha.len
  have HLB := Lib.hid hb.len
  have HLP := Lib.hid hp.len
  have HPB := Lib.hid hpb
  clear hpb
  go_enter Try.func7, Try.ntmps7
  go_wp2_with fail
  refine (LentBytes_any A n c a w ha (by omega)).mono ?_
  rintro e w1 ⟨A1, c1, rfl, lent1, hb1⟩
  go_wp2_with fail
  refine (LentBytes_any B m d b w1 (hb.below hb1) (by omega)).mono ?_
  rintro e w2 ⟨A2, c2, rfl, lent2, hb2⟩
  have hbw2 := gr_trans hb1 hb2
  go_wp2_with fail
  refine (CopyPieces_any C k f ps w2 (hp.below hbw2) (by omega) (fun p hp => by have := (HPB.out p hp).2; omega)).mono ?_
  rintro e w3 ⟨v3, rfl, op3, hb3⟩
  have hbw := gr_trans hbw2 hb3
  have lent1' := (lent1.below hb2).below hb3
  have lent2' := lent2.below hb3
  have ha3 := ha.below hbw
  have hbb3 := hb.below hbw
  have hp3 := hp.below hbw
  obtain ⟨A3, c3, rfl, pr3, hc3, hm3⟩ := op3.form (n := k) HLP.out
  obtain ⟨hr1, hc1, hm1⟩ := lent1'.BR
  rw [HLA.out] at hr1 hc1
  obtain ⟨hr2, hc2, hm2⟩ := lent2'.BR
  rw [HLB.out] at hr2 hc2
  clear lent1 hb1 hb2 lent2 hbw2
  simp only [maxLen] at hm1 hm2 hm3
  go_wp2_with fail
  refine (Diff_all A1 A2 n m c1 c2 a b w3 hr1 hr2 (by omega) (by omega) (by omega)).mono ?_
  rintro e w4 ⟨hb4, v4, ps4, er4, rfl, op4, HE4, HP4⟩
  go_wp2_with fail
  refine (refDiff_all A B n m c d a b w4 (ha3.below hb4) (hbb3.below hb4) (by omega) (by omega) (by omega)).mono ?_
  rintro e w5 ⟨hb5, v5, ps5, er5, rfl, op5, HE5, HP5⟩
  have hb6 := gr_trans hb4 hb5
  go_wp2_with fail
  refine (Apply_all A1 A3 n c1 k c3 a ps w5 (hr1.below hb6) (pr3.below hb6) (by omega) (by omega) (fun p hp => (HPB.out p hp).1)).mono ?_
  rintro e w7 ⟨hb7, v7, m7, er7, rfl, ob7, HE7, HM7⟩
  have hb8 := gr_trans hb6 hb7
  go_wp2_with fail
  refine (refApply_all A C n c k f a ps w7 (ha3.below hb8) (hp3.below hb8) (by omega) (by omega) (fun p hp => (HPB.out p hp).1)).mono ?_
  rintro e w9 ⟨hb9, v9, m9, er9, rfl, ob9, HE9, HM9⟩
  have hb10 := gr_trans hb8 hb9
  obtain rfl : er4 = er5 := HE4.out.trans HE5.out.symm
  obtain rfl : er7 = er9 := HE7.out.trans HE9.out.symm
  obtain rfl : ps4 = ps5 := HP4.out.trans HP5.out.symm
  obtain rfl : m7 = m9 := HM7.out.trans HM9.out.symm
  have hlen : ps4.length ≤ 9223372036854775807 := by
    have h1 : ps4.length ≤ 4080 := by
      rw [HP4.out]
      split
      · rw [diffL_dfo]; exact dfoP_len _ _ _
      · simp
    omega
  have HLEN := Lib.hid hlen
  clear HE4 HE5 HE7 HE9 HP4 HP5 HM7 HM9 hlen
  have op4' := ((op4.below hb5).below hb7).below hb9
  have op5' := (op5.below hb7).below hb9
  have ob7' := ob7.below hb9
  have lent1'' := lent1'.below hb10
  have lent2'' := lent2'.below hb10
  have pr3' := pr3.below hb10
  have op3' := op3.below hb10
  have ha9 := ha3.below hb10
  have hbb9 := hbb3.below hb10
  have hp9 := hp3.below hb10
  have hbw9 := gr_trans hbw hb10
  clear op4 op5 ob7 lent1' lent2' pr3 op3 ha3 hbb3 hp3 hb4 hb5 hb6 hb7 hb8 hb9 hb10 hr1 hr2 hbw hb3
  go_wp2_with fail
  refine (SamePieces_own _ _ _ _ _ op4' op5' rfl HLEN.out).mono ?_
  rintro e w10 ⟨rfl, hb10⟩
  go_wp2_with fail
  refine (sameB_own _ _ _ _ (ob7'.below hb10) (ob9.below hb10)).mono ?_
  rintro e w' ⟨rfl, rfl⟩
  go_wp2_with fail
  refine (Size_any _ _ _ ps _ (pr3'.below hb10) (by omega)).mono ?_
  rintro e w11 ⟨rfl, hb11⟩
  have hb12 := gr_trans hb10 hb11
  go_wp2_with fail
  refine (refSize_any _ _ _ ps _ (hp9.below hb12) (by omega)).mono ?_
  rintro e w' ⟨rfl, rfl⟩
  go_wp2_with fail
  refine (KeptBytes_any A1 A n c1 c _ a _ (lent1''.below hb12) (ha9.below hb12) (by omega)).mono ?_
  rintro e w' ⟨rfl, rfl⟩
  go_wp2_with fail
  refine (KeptBytes_any A2 B m c2 d _ b _ (lent2''.below hb12) (hbb9.below hb12) (by omega)).mono ?_
  rintro e w' ⟨rfl, rfl⟩
  go_wp2_with fail
  refine (SamePieces_any A3 C k k c3 f ps ps _ (pr3'.below hb12) (hp9.below hb12) (by omega) (by omega)).mono ?_
  rintro e w13 ⟨rfl, q, HW⟩
  have hb13 : Below w11.heap.size w11 w13 := by rw [HW]; exact gr_drewN (gr_refl _) q
  have hsame : samePcs ps ps = true := by simp [samePcs]
  rw [hsame]
  clear HW hsame
  go_wp2_with fail
  refine (awake08_any _).mono ?_
  rintro e w14 ⟨rfl, hb14⟩
  go_wp2
  go_ret
  exact ⟨rfl, gr_trans (gr_trans (gr_trans hbw9 hb12) hb13) hb14⟩

end Go.Proofs.Ytecndamoomkhnaa
