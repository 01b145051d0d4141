/-
  Texts of this claim, joined: PlO, JnM, JnN, JnP, JnQ, JnR, PlP, JnS. No statement of the program is proved here.
-/
import Derived.Test.YtlopcmmbkfjidaaPkF7
import Derived.Test.YtlopcmmbkfjidaaPkF6
/-! PlO -/
namespace Go.Proofs.Ytlopcmmbkfjidaa
open Go Go.RowKit

theorem rc_right (x : Int) (h0 : 0 ≤ x) (h1 : x ≤ 100) : (⟨2, x, []⟩ : Rec).right = true := by
  show rightR ((2 : Nat) : Int) x [] = true
  unfold rightR
  rw [if_neg (by omega), if_pos (.inl rfl)]
  rfl
theorem rc_len (x : Int) : (encR ⟨2, x, []⟩).length = 15 := by
  rw [encR_len]
  unfold encB encCs
  simp [leB_length]
theorem rcFrom_imgs (n : Nat) (hn : n ≤ 16) : ∀ m, m ≤ n → rcFrom ((m : Int) - 1) ((List.range' m (n - m)).map fun (i : Nat) => (((i : Int), madeL (i : Int) 4080, ([] : List Pc)) : Ch)) = true := by
  intro m hm
  obtain ⟨k, hk⟩ : ∃ k, k = n - m := ⟨_, rfl⟩
  rw [← hk]
  induction k generalizing m with
  | zero => rfl
  | succ k ih =>
    simp only [List.range'_succ, List.map_cons]
    unfold rcFrom
    rw [if_neg (by dsimp only; omega)]
    dsimp only
    rw [if_pos (by rw [madeL_len]; omega), if_neg (by rw [madeL_len]; simp)]
    have := ih (m + 1) (by omega) (by omega)
    rw [show ((m + 1 : Nat) : Int) - 1 = (m : Int) by omega] at this
    exact this
theorem imgs_right (n : Nat) (h1 : 1 ≤ n) (hn : n ≤ 16) : (⟨1, 0, imgC n⟩ : Rec).right = true := by
  show rightR ((1 : Nat) : Int) 0 (imgC n) = true
  unfold rightR
  rw [if_neg (by omega), if_neg (by omega), if_pos (show ((1 : Nat) : Int) = 1 from rfl), imgC_len]
  have := rcFrom_imgs n hn 0 (Nat.zero_le _)
  rw [show ((0 : Nat) : Int) - 1 = -1 by omega, Nat.sub_zero, ← List.range_eq_range'] at this
  have e : rcFrom (-1) (imgC n) = true := this
  rw [e, decide_eq_true (by omega)]
  rfl
theorem imgs_len (n : Nat) : (encR ⟨1, 0, imgC n⟩).length = 15 + 4085 * n := by
  rw [encR_len]
  unfold encB
  have h : (encCs (imgC n)).length = 4085 * n := by
    induction n with
    | zero => rfl
    | succ n ih =>
      rw [imgC_snoc, encCs_snoc, List.length_append, ih]
      unfold encC
      dsimp only
      rw [if_pos (by rw [madeL_len]; omega)]
      simp only [List.length_append, List.length_cons, leB_length, madeL_len]
      omega
  simp only [List.length_cons, List.length_append, leB_length, h]
  omega
/-- Append, by lengths. -/
theorem appE_is {J : JnS} {r : Rec} (hb : J.br = false) (hr : r.right = true) : appE J r = if J.bl - J.us < needL (J.waits.length + (encR r).length) ∨ 4294967296 < J.ct + needL (J.waits.length + (encR r).length) then 5 else 0 := by
  unfold appE
  rw [hb, hr]
  rfl
theorem appJ_yes {J : JnS} {r : Rec} (h : appE J r = 0) : appJ J r = { J with waits := J.waits ++ encR r, la := J.la + 1 } ∧ appN J r = J.la + 1 := by
  unfold appJ appN
  rw [if_pos h, if_pos h]
  exact ⟨rfl, rfl⟩
theorem appJ_no {J : JnS} {r : Rec} (h : appE J r ≠ 0) : appJ J r = J ∧ appN J r = 0 := by
  unfold appJ appN
  rw [if_neg h, if_neg h]
  exact ⟨rfl, rfl⟩
theorem app_broken {J : JnS} {r : Rec} (hb : J.br = true) : appE J r = 4 := by
  unfold appE
  rw [if_pos hb]
/-- Flush upon a calm disk, whatever its blocks hold. -/
theorem flu_calm0 {D : DiskS} {J : JnS} (hc : Calm D) (hbr : J.br = false) (hw : J.waits.length ≠ 0) (hb : 0 < J.bl) (hfb : J.fi + J.bl ≤ D.blocks.length) :
    fluE D J = 0 ∧ fluJ D J = { J with pl := (J.pl + needL J.waits.length) % J.bl, ct := J.ct + needL J.waits.length, us := J.us + needL J.waits.length, waits := [], sy := J.la } ∧ Calm (fluD D J) ∧ (fluD D J).blocks.length = D.blocks.length := by
  rcases flush_well (ws := wsJ J) hc.down hc.fault hc.pend (wsL_ok hb hfb) with ⟨h1, h2, h3, h4, h5, h6⟩ | ⟨_, h2, _⟩
  · refine ⟨?_, ?_, ?_, ?_⟩
    · unfold fluE; rw [hbr, if_neg (by simp), if_neg hw]; exact h1
    · unfold fluJ; rw [if_neg (by rw [hbr]; simp [hw]), if_neg (by rw [h1]; simp)]
    · unfold fluD; rw [if_neg (by rw [hbr]; simp [hw])]; exact ⟨h4, h5, h3, h6 hc.power⟩
    · unfold fluD; rw [if_neg (by rw [hbr]; simp [hw]), h2, carry_len]
  · exact absurd hc.power h2
/-- Flush where the first write fails. -/
theorem flu_fail {D : DiskS} {J : JnS} {e : Int} (hbr : J.br = false) (hw : J.waits.length ≠ 0) (hb : 0 < J.bl) (hfb : J.fi + J.bl ≤ D.blocks.length) (hop : opC D = e) (he : e ≠ 0) :
    fluE D J = e ∧ fluJ D J = { J with br := true } ∧ fluD D J = opS D := by
  obtain ⟨p, ps, hps⟩ : ∃ p ps, wsJ J = p :: ps := by
    cases h : wsJ J with
    | nil =>
      have := wsL_len J.fi J.bl J.ep J.pl J.ct J.waits
      unfold wsJ at h
      rw [h] at this
      have h2 : 0 < needL J.waits.length := needL_iff.2 (by omega)
      simp at this
      omega
    | cons p ps => exact ⟨p, ps, rfl⟩
  have hp := wsL_ok (ep := J.ep) (pl := J.pl) (ct := J.ct) (b := J.waits) hb hfb p (by show p ∈ wsJ J; rw [hps]; simp)
  have ha : askE D (p.1 : Int) = 0 := by unfold askE; rw [if_neg (by omega)]
  have e1 : writeE D p.1 p.2.length = e := by unfold writeE; rw [ha, hp.2]; simp [hop]
  have e2 : writeD D p.1 p.2 = opS D := by unfold writeD; rw [ha, hp.2, if_neg (by simp), if_pos (by rw [hop]; exact he)]
  have e3 : putAll D (wsJ J) = (opS D, e) := by rw [hps]; unfold putAll; rw [e1, if_pos he, e2]
  have f1 : flushE D (wsJ J) = e := by unfold flushE; rw [e3, if_pos he]
  have f2 : flushD D (wsJ J) = opS D := by unfold flushD; rw [e3, if_pos he]
  refine ⟨?_, ?_, ?_⟩
  · unfold fluE; rw [hbr, if_neg (by simp), if_neg hw, f1]
  · unfold fluJ; rw [if_neg (by rw [hbr]; simp [hw]), if_pos (by rw [f1]; exact he)]
  · unfold fluD; rw [if_neg (by rw [hbr]; simp [hw]), f2]
theorem flu_broken {D : DiskS} {J : JnS} (hb : J.br = true) : fluE D J = 4 ∧ fluJ D J = J ∧ fluD D J = D := by
  unfold fluE fluJ fluD
  rw [if_pos hb, if_pos (.inl hb), if_pos (.inl hb)]
  exact ⟨rfl, rfl, rfl⟩
theorem flu_none {D : DiskS} {J : JnS} (hb : J.br = false) (hw : J.waits.length = 0) : fluE D J = 0 ∧ fluJ D J = J ∧ fluD D J = D := by
  unfold fluE fluJ fluD
  rw [if_neg (by rw [hb]; simp), if_pos hw, if_pos (.inr hw), if_pos (.inr hw)]
  exact ⟨rfl, rfl, rfl⟩

end Go.Proofs.Ytlopcmmbkfjidaa

/-! JnM -/
namespace Go.Proofs.Ytlopcmmbkfjidaa
open Go Go.RowKit

set_option maxRecDepth 100000 in
set_option maxHeartbeats 4000000 in
theorem mayBe_no0 (w : World) (n : Nat) (gr : Nat) (dp : Value) (fi bl ep pl ct : Int) (h : RC w gr 0 dp fi bl ep) (_hn : n ≤ 4096) (hB : ∀ W, Below w.heap.size w W → Calls Try.prog 35 #[dp] W fun e w' => e = .returned (.int .i64 (n : Int)) ∧ W = w')  (t0 : decide (1 ≤ bl) = false) :
    Calls Try.prog 36 #[.pointer (some ⟨gr, 0, none⟩), .int .i64 pl, .int .i64 ct] w fun e w' => e = .returned (.bool false) ∧ Below w.heap.size w w' := by
  obtain ⟨c0, c1, c2, c3⟩ := h
  simp only [Nat.zero_add] at c1 c2 c3
  have HB := Lib.hid hB
  have n0 : (0 : Int) ≤ (n : Int) := Int.natCast_nonneg _
  clear hB
  go_enter Try.func36, Try.ntmps36
  go_wp2_with fail
  simp only [List.append_eq, List.cons_append, List.nil_append]
  go_quiet (fail)
  go_wp2_with fail
  go_ret
  exact ⟨rfl, gr_drewN (gr_refl _) nq⟩

set_option maxRecDepth 100000 in
set_option maxHeartbeats 4000000 in
theorem mayBe_no1 (w : World) (n : Nat) (gr : Nat) (dp : Value) (fi bl ep pl ct : Int) (h : RC w gr 0 dp fi bl ep) (_hn : n ≤ 4096) (hB : ∀ W, Below w.heap.size w W → Calls Try.prog 35 #[dp] W fun e w' => e = .returned (.int .i64 (n : Int)) ∧ W = w') (t0 : decide (1 ≤ bl) = true) (t1 : decide (bl ≤ 1024) = false) :
    Calls Try.prog 36 #[.pointer (some ⟨gr, 0, none⟩), .int .i64 pl, .int .i64 ct] w fun e w' => e = .returned (.bool false) ∧ Below w.heap.size w w' := by
  obtain ⟨c0, c1, c2, c3⟩ := h
  simp only [Nat.zero_add] at c1 c2 c3
  have HB := Lib.hid hB
  have n0 : (0 : Int) ≤ (n : Int) := Int.natCast_nonneg _
  have k0 := of_decide_eq_true t0
  clear hB
  go_enter Try.func36, Try.ntmps36
  go_wp2_with fail
  simp only [List.append_eq, List.cons_append, List.nil_append]
  go_quiet (fail)
  go_wp2_with fail
  go_ret
  exact ⟨rfl, gr_drewN (gr_refl _) nq⟩

set_option maxRecDepth 100000 in
set_option maxHeartbeats 4000000 in
theorem mayBe_no2 (w : World) (n : Nat) (gr : Nat) (dp : Value) (fi bl ep pl ct : Int) (h : RC w gr 0 dp fi bl ep) (hn : n ≤ 4096) (hB : ∀ W, Below w.heap.size w W → Calls Try.prog 35 #[dp] W fun e w' => e = .returned (.int .i64 (n : Int)) ∧ W = w') (t0 : decide (1 ≤ bl) = true) (t1 : decide (bl ≤ 1024) = true) (t2 : decide (0 ≤ fi) = false) :
    Calls Try.prog 36 #[.pointer (some ⟨gr, 0, none⟩), .int .i64 pl, .int .i64 ct] w fun e w' => e = .returned (.bool false) ∧ Below w.heap.size w w' := by
  obtain ⟨c0, c1, c2, c3⟩ := h
  simp only [Nat.zero_add] at c1 c2 c3
  have HB := Lib.hid hB
  have n0 : (0 : Int) ≤ (n : Int) := Int.natCast_nonneg _
  have k0 := of_decide_eq_true t0
  have k1 := of_decide_eq_true t1
  have hwr : IntKind.i64.wrap ((n : Int) - bl) = (n : Int) - bl := by rw [IntKind.wrap_i64]; omega
  clear hB
  go_enter Try.func36, Try.ntmps36
  go_wp2_with fail
  simp only [List.append_eq, List.cons_append, List.nil_append]
  go_quiet (fail)
  go_wp2_with fail
  go_ret
  exact ⟨rfl, gr_drewN (gr_refl _) nq⟩

set_option maxRecDepth 100000 in
set_option maxHeartbeats 4000000 in
theorem mayBe_no3 (w : World) (n : Nat) (gr : Nat) (dp : Value) (fi bl ep pl ct : Int) (h : RC w gr 0 dp fi bl ep) (hn : n ≤ 4096) (hB : ∀ W, Below w.heap.size w W → Calls Try.prog 35 #[dp] W fun e w' => e = .returned (.int .i64 (n : Int)) ∧ W = w') (t0 : decide (1 ≤ bl) = true) (t1 : decide (bl ≤ 1024) = true) (t2 : decide (0 ≤ fi) = true) (t3 : decide (fi ≤ (n : Int) - bl) = false) :
    Calls Try.prog 36 #[.pointer (some ⟨gr, 0, none⟩), .int .i64 pl, .int .i64 ct] w fun e w' => e = .returned (.bool false) ∧ Below w.heap.size w w' := by
  obtain ⟨c0, c1, c2, c3⟩ := h
  simp only [Nat.zero_add] at c1 c2 c3
  have HB := Lib.hid hB
  have n0 : (0 : Int) ≤ (n : Int) := Int.natCast_nonneg _
  have k0 := of_decide_eq_true t0
  have k1 := of_decide_eq_true t1
  have hwr : IntKind.i64.wrap ((n : Int) - bl) = (n : Int) - bl := by rw [IntKind.wrap_i64]; omega
  clear hB
  go_enter Try.func36, Try.ntmps36
  go_wp2_with fail
  simp only [List.append_eq, List.cons_append, List.nil_append]
  go_quiet ((go_at_call 35; exact Calls.quiet_of_same ((HB.out _ (gr_drewN (gr_refl _) _)).mono (fun _ _ h => ⟨h.1, h.2.symm⟩))))
  go_wp2_with fail
  go_ret
  exact ⟨rfl, gr_drewN (gr_refl _) nq⟩

set_option maxRecDepth 100000 in
set_option maxHeartbeats 4000000 in
theorem mayBe_no4 (w : World) (n : Nat) (gr : Nat) (dp : Value) (fi bl ep pl ct : Int) (h : RC w gr 0 dp fi bl ep) (hn : n ≤ 4096) (hB : ∀ W, Below w.heap.size w W → Calls Try.prog 35 #[dp] W fun e w' => e = .returned (.int .i64 (n : Int)) ∧ W = w') (t0 : decide (1 ≤ bl) = true) (t1 : decide (bl ≤ 1024) = true) (t2 : decide (0 ≤ fi) = true) (t3 : decide (fi ≤ (n : Int) - bl) = true) (t4 : decide (1 ≤ ep) = false) :
    Calls Try.prog 36 #[.pointer (some ⟨gr, 0, none⟩), .int .i64 pl, .int .i64 ct] w fun e w' => e = .returned (.bool false) ∧ Below w.heap.size w w' := by
  obtain ⟨c0, c1, c2, c3⟩ := h
  simp only [Nat.zero_add] at c1 c2 c3
  have HB := Lib.hid hB
  have n0 : (0 : Int) ≤ (n : Int) := Int.natCast_nonneg _
  have k0 := of_decide_eq_true t0
  have k1 := of_decide_eq_true t1
  have hwr : IntKind.i64.wrap ((n : Int) - bl) = (n : Int) - bl := by rw [IntKind.wrap_i64]; omega
  clear hB
  go_enter Try.func36, Try.ntmps36
  go_wp2_with fail
  simp only [List.append_eq, List.cons_append, List.nil_append]
  go_quiet ((go_at_call 35; exact Calls.quiet_of_same ((HB.out _ (gr_drewN (gr_refl _) _)).mono (fun _ _ h => ⟨h.1, h.2.symm⟩))))
  go_wp2_with fail
  go_ret
  exact ⟨rfl, gr_drewN (gr_refl _) nq⟩

end Go.Proofs.Ytlopcmmbkfjidaa

/-! JnN -/
namespace Go.Proofs.Ytlopcmmbkfjidaa
open Go Go.RowKit

set_option maxRecDepth 100000 in
set_option maxHeartbeats 4000000 in
theorem mayBe_no5 (w : World) (n : Nat) (gr : Nat) (dp : Value) (fi bl ep pl ct : Int) (h : RC w gr 0 dp fi bl ep) (hn : n ≤ 4096) (hB : ∀ W, Below w.heap.size w W → Calls Try.prog 35 #[dp] W fun e w' => e = .returned (.int .i64 (n : Int)) ∧ W = w') (t0 : decide (1 ≤ bl) = true) (t1 : decide (bl ≤ 1024) = true) (t2 : decide (0 ≤ fi) = true) (t3 : decide (fi ≤ (n : Int) - bl) = true) (t4 : decide (1 ≤ ep) = true) (t5 : decide (ep ≤ 4294967295) = false) :
    Calls Try.prog 36 #[.pointer (some ⟨gr, 0, none⟩), .int .i64 pl, .int .i64 ct] w fun e w' => e = .returned (.bool false) ∧ Below w.heap.size w w' := by
  obtain ⟨c0, c1, c2, c3⟩ := h
  simp only [Nat.zero_add] at c1 c2 c3
  have HB := Lib.hid hB
  have n0 : (0 : Int) ≤ (n : Int) := Int.natCast_nonneg _
  have k0 := of_decide_eq_true t0
  have k1 := of_decide_eq_true t1
  have hwr : IntKind.i64.wrap ((n : Int) - bl) = (n : Int) - bl := by rw [IntKind.wrap_i64]; omega
  clear hB
  go_enter Try.func36, Try.ntmps36
  go_wp2_with fail
  simp only [List.append_eq, List.cons_append, List.nil_append]
  go_quiet ((go_at_call 35; exact Calls.quiet_of_same ((HB.out _ (gr_drewN (gr_refl _) _)).mono (fun _ _ h => ⟨h.1, h.2.symm⟩))))
  go_wp2_with fail
  go_ret
  exact ⟨rfl, gr_drewN (gr_refl _) nq⟩

set_option maxRecDepth 100000 in
set_option maxHeartbeats 4000000 in
theorem mayBe_no6 (w : World) (n : Nat) (gr : Nat) (dp : Value) (fi bl ep pl ct : Int) (h : RC w gr 0 dp fi bl ep) (hn : n ≤ 4096) (hB : ∀ W, Below w.heap.size w W → Calls Try.prog 35 #[dp] W fun e w' => e = .returned (.int .i64 (n : Int)) ∧ W = w') (t0 : decide (1 ≤ bl) = true) (t1 : decide (bl ≤ 1024) = true) (t2 : decide (0 ≤ fi) = true) (t3 : decide (fi ≤ (n : Int) - bl) = true) (t4 : decide (1 ≤ ep) = true) (t5 : decide (ep ≤ 4294967295) = true) (t6 : decide (0 ≤ pl) = false) :
    Calls Try.prog 36 #[.pointer (some ⟨gr, 0, none⟩), .int .i64 pl, .int .i64 ct] w fun e w' => e = .returned (.bool false) ∧ Below w.heap.size w w' := by
  obtain ⟨c0, c1, c2, c3⟩ := h
  simp only [Nat.zero_add] at c1 c2 c3
  have HB := Lib.hid hB
  have n0 : (0 : Int) ≤ (n : Int) := Int.natCast_nonneg _
  have k0 := of_decide_eq_true t0
  have k1 := of_decide_eq_true t1
  have hwr : IntKind.i64.wrap ((n : Int) - bl) = (n : Int) - bl := by rw [IntKind.wrap_i64]; omega
  clear hB
  go_enter Try.func36, Try.ntmps36
  go_wp2_with fail
  simp only [List.append_eq, List.cons_append, List.nil_append]
  go_quiet ((go_at_call 35; exact Calls.quiet_of_same ((HB.out _ (gr_drewN (gr_refl _) _)).mono (fun _ _ h => ⟨h.1, h.2.symm⟩))))
  go_wp2_with fail
  go_ret
  exact ⟨rfl, gr_drewN (gr_refl _) nq⟩

set_option maxRecDepth 100000 in
set_option maxHeartbeats 4000000 in
theorem mayBe_no7 (w : World) (n : Nat) (gr : Nat) (dp : Value) (fi bl ep pl ct : Int) (h : RC w gr 0 dp fi bl ep) (hn : n ≤ 4096) (hB : ∀ W, Below w.heap.size w W → Calls Try.prog 35 #[dp] W fun e w' => e = .returned (.int .i64 (n : Int)) ∧ W = w') (t0 : decide (1 ≤ bl) = true) (t1 : decide (bl ≤ 1024) = true) (t2 : decide (0 ≤ fi) = true) (t3 : decide (fi ≤ (n : Int) - bl) = true) (t4 : decide (1 ≤ ep) = true) (t5 : decide (ep ≤ 4294967295) = true) (t6 : decide (0 ≤ pl) = true) (t7 : decide (pl < bl) = false) :
    Calls Try.prog 36 #[.pointer (some ⟨gr, 0, none⟩), .int .i64 pl, .int .i64 ct] w fun e w' => e = .returned (.bool false) ∧ Below w.heap.size w w' := by
  obtain ⟨c0, c1, c2, c3⟩ := h
  simp only [Nat.zero_add] at c1 c2 c3
  have HB := Lib.hid hB
  have n0 : (0 : Int) ≤ (n : Int) := Int.natCast_nonneg _
  have k0 := of_decide_eq_true t0
  have k1 := of_decide_eq_true t1
  have hwr : IntKind.i64.wrap ((n : Int) - bl) = (n : Int) - bl := by rw [IntKind.wrap_i64]; omega
  clear hB
  go_enter Try.func36, Try.ntmps36
  go_wp2_with fail
  simp only [List.append_eq, List.cons_append, List.nil_append]
  go_quiet ((go_at_call 35; exact Calls.quiet_of_same ((HB.out _ (gr_drewN (gr_refl _) _)).mono (fun _ _ h => ⟨h.1, h.2.symm⟩))))
  go_wp2_with fail
  go_ret
  exact ⟨rfl, gr_drewN (gr_refl _) nq⟩

set_option maxRecDepth 100000 in
set_option maxHeartbeats 4000000 in
theorem mayBe_no8 (w : World) (n : Nat) (gr : Nat) (dp : Value) (fi bl ep pl ct : Int) (h : RC w gr 0 dp fi bl ep) (hn : n ≤ 4096) (hB : ∀ W, Below w.heap.size w W → Calls Try.prog 35 #[dp] W fun e w' => e = .returned (.int .i64 (n : Int)) ∧ W = w') (t0 : decide (1 ≤ bl) = true) (t1 : decide (bl ≤ 1024) = true) (t2 : decide (0 ≤ fi) = true) (t3 : decide (fi ≤ (n : Int) - bl) = true) (t4 : decide (1 ≤ ep) = true) (t5 : decide (ep ≤ 4294967295) = true) (t6 : decide (0 ≤ pl) = true) (t7 : decide (pl < bl) = true) (t8 : decide (1 ≤ ct) = false) :
    Calls Try.prog 36 #[.pointer (some ⟨gr, 0, none⟩), .int .i64 pl, .int .i64 ct] w fun e w' => e = .returned (.bool false) ∧ Below w.heap.size w w' := by
  obtain ⟨c0, c1, c2, c3⟩ := h
  simp only [Nat.zero_add] at c1 c2 c3
  have HB := Lib.hid hB
  have n0 : (0 : Int) ≤ (n : Int) := Int.natCast_nonneg _
  have k0 := of_decide_eq_true t0
  have k1 := of_decide_eq_true t1
  have hwr : IntKind.i64.wrap ((n : Int) - bl) = (n : Int) - bl := by rw [IntKind.wrap_i64]; omega
  clear hB
  go_enter Try.func36, Try.ntmps36
  go_wp2_with fail
  simp only [List.append_eq, List.cons_append, List.nil_append]
  go_quiet ((go_at_call 35; exact Calls.quiet_of_same ((HB.out _ (gr_drewN (gr_refl _) _)).mono (fun _ _ h => ⟨h.1, h.2.symm⟩))))
  go_wp2_with fail
  go_ret
  exact ⟨rfl, gr_drewN (gr_refl _) nq⟩

set_option maxRecDepth 100000 in
set_option maxHeartbeats 4000000 in
theorem mayBe_no9 (w : World) (n : Nat) (gr : Nat) (dp : Value) (fi bl ep pl ct : Int) (h : RC w gr 0 dp fi bl ep) (hn : n ≤ 4096) (hB : ∀ W, Below w.heap.size w W → Calls Try.prog 35 #[dp] W fun e w' => e = .returned (.int .i64 (n : Int)) ∧ W = w') (t0 : decide (1 ≤ bl) = true) (t1 : decide (bl ≤ 1024) = true) (t2 : decide (0 ≤ fi) = true) (t3 : decide (fi ≤ (n : Int) - bl) = true) (t4 : decide (1 ≤ ep) = true) (t5 : decide (ep ≤ 4294967295) = true) (t6 : decide (0 ≤ pl) = true) (t7 : decide (pl < bl) = true) (t8 : decide (1 ≤ ct) = true) (t9 : decide (ct ≤ 4294967295) = false) :
    Calls Try.prog 36 #[.pointer (some ⟨gr, 0, none⟩), .int .i64 pl, .int .i64 ct] w fun e w' => e = .returned (.bool false) ∧ Below w.heap.size w w' := by
  obtain ⟨c0, c1, c2, c3⟩ := h
  simp only [Nat.zero_add] at c1 c2 c3
  have HB := Lib.hid hB
  have n0 : (0 : Int) ≤ (n : Int) := Int.natCast_nonneg _
  have k0 := of_decide_eq_true t0
  have k1 := of_decide_eq_true t1
  have hwr : IntKind.i64.wrap ((n : Int) - bl) = (n : Int) - bl := by rw [IntKind.wrap_i64]; omega
  clear hB
  go_enter Try.func36, Try.ntmps36
  go_wp2_with fail
  simp only [List.append_eq, List.cons_append, List.nil_append]
  go_quiet ((go_at_call 35; exact Calls.quiet_of_same ((HB.out _ (gr_drewN (gr_refl _) _)).mono (fun _ _ h => ⟨h.1, h.2.symm⟩))))
  go_wp2_with fail
  go_ret
  exact ⟨rfl, gr_drewN (gr_refl _) nq⟩

theorem mayBe_no (w : World) (n : Nat) (gr : Nat) (dp : Value) (fi bl ep pl ct : Int) (h : RC w gr 0 dp fi bl ep) (hn : n ≤ 4096) (hB : ∀ W, Below w.heap.size w W → Calls Try.prog 35 #[dp] W fun e w' => e = .returned (.int .i64 (n : Int)) ∧ W = w') (hm : mayB n fi bl ep pl ct = false) :
    Calls Try.prog 36 #[.pointer (some ⟨gr, 0, none⟩), .int .i64 pl, .int .i64 ct] w fun e w' => e = .returned (.bool false) ∧ Below w.heap.size w w' := by
  by_cases q0 : ¬ (1 ≤ bl)
  · exact mayBe_no0 w n gr dp fi bl ep pl ct h hn hB  (decide_eq_false q0)
  rw [Classical.not_not] at q0
  by_cases q1 : ¬ (bl ≤ 1024)
  · exact mayBe_no1 w n gr dp fi bl ep pl ct h hn hB (decide_eq_true q0) (decide_eq_false q1)
  rw [Classical.not_not] at q1
  by_cases q2 : ¬ (0 ≤ fi)
  · exact mayBe_no2 w n gr dp fi bl ep pl ct h hn hB (decide_eq_true q0) (decide_eq_true q1) (decide_eq_false q2)
  rw [Classical.not_not] at q2
  by_cases q3 : ¬ (fi ≤ n - bl)
  · exact mayBe_no3 w n gr dp fi bl ep pl ct h hn hB (decide_eq_true q0) (decide_eq_true q1) (decide_eq_true q2) (decide_eq_false q3)
  rw [Classical.not_not] at q3
  by_cases q4 : ¬ (1 ≤ ep)
  · exact mayBe_no4 w n gr dp fi bl ep pl ct h hn hB (decide_eq_true q0) (decide_eq_true q1) (decide_eq_true q2) (decide_eq_true q3) (decide_eq_false q4)
  rw [Classical.not_not] at q4
  by_cases q5 : ¬ (ep ≤ 4294967295)
  · exact mayBe_no5 w n gr dp fi bl ep pl ct h hn hB (decide_eq_true q0) (decide_eq_true q1) (decide_eq_true q2) (decide_eq_true q3) (decide_eq_true q4) (decide_eq_false q5)
  rw [Classical.not_not] at q5
  by_cases q6 : ¬ (0 ≤ pl)
  · exact mayBe_no6 w n gr dp fi bl ep pl ct h hn hB (decide_eq_true q0) (decide_eq_true q1) (decide_eq_true q2) (decide_eq_true q3) (decide_eq_true q4) (decide_eq_true q5) (decide_eq_false q6)
  rw [Classical.not_not] at q6
  by_cases q7 : ¬ (pl < bl)
  · exact mayBe_no7 w n gr dp fi bl ep pl ct h hn hB (decide_eq_true q0) (decide_eq_true q1) (decide_eq_true q2) (decide_eq_true q3) (decide_eq_true q4) (decide_eq_true q5) (decide_eq_true q6) (decide_eq_false q7)
  rw [Classical.not_not] at q7
  by_cases q8 : ¬ (1 ≤ ct)
  · exact mayBe_no8 w n gr dp fi bl ep pl ct h hn hB (decide_eq_true q0) (decide_eq_true q1) (decide_eq_true q2) (decide_eq_true q3) (decide_eq_true q4) (decide_eq_true q5) (decide_eq_true q6) (decide_eq_true q7) (decide_eq_false q8)
  rw [Classical.not_not] at q8
  by_cases q9 : ¬ (ct ≤ 4294967295)
  · exact mayBe_no9 w n gr dp fi bl ep pl ct h hn hB (decide_eq_true q0) (decide_eq_true q1) (decide_eq_true q2) (decide_eq_true q3) (decide_eq_true q4) (decide_eq_true q5) (decide_eq_true q6) (decide_eq_true q7) (decide_eq_true q8) (decide_eq_false q9)
  rw [Classical.not_not] at q9
  exfalso
  unfold mayB at hm
  simp only [decide_eq_true q0, decide_eq_true q1, decide_eq_true q2, decide_eq_true q3, decide_eq_true q4, decide_eq_true q5, decide_eq_true q6, decide_eq_true q7, decide_eq_true q8, decide_eq_true q9, Bool.and_self] at hm
  cases hm

end Go.Proofs.Ytlopcmmbkfjidaa

/-! JnP -/
namespace Go.Proofs.Ytlopcmmbkfjidaa
open Go Go.RowKit

set_option maxRecDepth 100000 in
set_option maxHeartbeats 4000000 in
theorem JNew_no (w : World) (ok : Nat → Prop) (base gd : Nat) (F : Nat → Prop) (D : DiskS) (fi bl ep pl ct : Int) (h : IsD w ok base gd F D) (hm : mayB D.blocks.length fi bl ep pl ct = false) :
    Calls Try.prog 18 #[.pointer (some ⟨gd, 0, none⟩), .int .i64 fi, .int .i64 bl, .int .i64 ep, .int .i64 pl, .int .i64 ct] w fun e w' => e = .returned (.tuple #[.pointer none, .int .i64 2]) ∧ Below w.heap.size w w' := by
  have hn : 1 ≤ D.blocks.length ∧ D.blocks.length ≤ 4096 := by
    obtain ⟨dr, dc, pv, dvs, pvs, hd, _⟩ := h
    exact ⟨hd.n1, hd.n2⟩
  have HB := Lib.hid (fun W (hW : Below w.heap.size w W) => Blocks_any W ok base gd F D (h.below hW))
  generalize D.blocks.length = n at *
  obtain ⟨o, ho⟩ : ∃ o, o = Obj.cells #[.pointer (some ⟨gd, 0, none⟩), .int .i64 fi, .int .i64 bl, .int .i64 ep, .pointer none, .int .i64 pl, .int .i64 ct, .int .i64 0, .slice none 0 0, .int .i64 0, .int .i64 0, .bool false] 32 (0, 0) := ⟨_, rfl⟩
  have hbo := gr_alloc (gr_refl w) o
  have hnw : (w.alloc o).heap[w.heap.size]? = some o := heap_alloc_new w o
  have hnw' := hnw
  rw [congrArg some ho] at hnw'
  have HMB := Lib.hid ((mayBe_no (w.alloc o) n w.heap.size (.pointer (some ⟨gd, 0, none⟩)) fi bl ep pl ct ⟨by rw [cell_of_row _ _ 0 _ _ _ hnw']; rfl, by rw [cell_of_row _ _ 1 _ _ _ hnw']; rfl, by rw [cell_of_row _ _ 2 _ _ _ hnw']; rfl, by rw [cell_of_row _ _ 3 _ _ _ hnw']; rfl⟩ hn.2 (fun W hW => HB.out W (hbo.trans (hW.mono hbo.size))) hm).mono (fun e w' h => (⟨h.1, gr_trans hbo h.2⟩ : e = .returned (.bool false) ∧ Below w.heap.size w w')))
  rw [ho] at HMB
  clear h hnw hnw' hbo ho hm
  go_enter Try.func18, Try.ntmps18
  go_wp2_with fail
  refine (HB.out w (gr_refl w)).mono ?_
  rintro e w1 ⟨rfl, rfl⟩
  have tn : ((n : Int) == 0) = false := beq_eq_false_iff_ne.2 (by omega)
  go_wp2_with fail
  refine HMB.out.mono ?_
  rintro e w3 ⟨rfl, hb3⟩
  have HB3 := Lib.hid hb3
  clear hb3 HMB
  go_wp2_with fail
  go_ret2
  exact ⟨rfl, HB3.out⟩
set_option maxRecDepth 100000 in
set_option maxHeartbeats 4000000 in
theorem JScan_no (w : World) (ok : Nat → Prop) (base gd : Nat) (F : Nat → Prop) (D : DiskS) (fi bl ep pl ct : Int) (h : IsD w ok base gd F D) (hm : mayB D.blocks.length fi bl ep pl ct = false) :
    Calls Try.prog 22 #[.pointer (some ⟨gd, 0, none⟩), .int .i64 fi, .int .i64 bl, .int .i64 ep, .int .i64 pl, .int .i64 ct] w fun e w' => e = .returned (.tuple #[.slice none 0 0, .int .i64 0, .int .i64 0, .int .i64 2]) ∧ Below w.heap.size w w' := by
  have hn : 1 ≤ D.blocks.length ∧ D.blocks.length ≤ 4096 := by
    obtain ⟨dr, dc, pv, dvs, pvs, hd, _⟩ := h
    exact ⟨hd.n1, hd.n2⟩
  have HB := Lib.hid (fun W (hW : Below w.heap.size w W) => Blocks_any W ok base gd F D (h.below hW))
  generalize D.blocks.length = n at *
  obtain ⟨o, ho⟩ : ∃ o, o = Obj.cells #[.pointer (some ⟨gd, 0, none⟩), .int .i64 fi, .int .i64 bl, .int .i64 ep] 29 (0, 0) := ⟨_, rfl⟩
  have hbo := gr_alloc (gr_refl w) o
  have hnw : (w.alloc o).heap[w.heap.size]? = some o := heap_alloc_new w o
  have hnw' := hnw
  rw [congrArg some ho] at hnw'
  have HMB := Lib.hid ((mayBe_no (w.alloc o) n w.heap.size (.pointer (some ⟨gd, 0, none⟩)) fi bl ep pl ct ⟨by rw [cell_of_row _ _ 0 _ _ _ hnw']; rfl, by rw [cell_of_row _ _ 1 _ _ _ hnw']; rfl, by rw [cell_of_row _ _ 2 _ _ _ hnw']; rfl, by rw [cell_of_row _ _ 3 _ _ _ hnw']; rfl⟩ hn.2 (fun W hW => HB.out W (hbo.trans (hW.mono hbo.size))) hm).mono (fun e w' h => (⟨h.1, gr_trans hbo h.2⟩ : e = .returned (.bool false) ∧ Below w.heap.size w w')))
  rw [ho] at HMB
  clear h hnw hnw' hbo ho hm
  go_enter Try.func22, Try.ntmps22
  go_wp2_with fail
  refine (HB.out w (gr_refl w)).mono ?_
  rintro e w1 ⟨rfl, rfl⟩
  have tn : ((n : Int) == 0) = false := beq_eq_false_iff_ne.2 (by omega)
  go_wp2_with fail
  refine HMB.out.mono ?_
  rintro e w3 ⟨rfl, hb3⟩
  have HB3 := Lib.hid hb3
  clear hb3 HMB
  go_wp2_with fail
  refine bodyPost_ret (v := .tuple #[.slice none 0 0, .int .i64 0, .int .i64 0, .int .i64 2]) (by simp [results, Try.results22, go_sem]) rfl ?_
  exact ⟨rfl, HB3.out⟩
set_option maxRecDepth 100000 in
theorem JNew_un (p : Option Addr) (w : World) (fi bl ep pl ct : Int) (h : Unm p w) :
    Calls Try.prog 18 #[.pointer p, .int .i64 fi, .int .i64 bl, .int .i64 ep, .int .i64 pl, .int .i64 ct] w fun e w' => e = .returned (.tuple #[.pointer none, .int .i64 1]) ∧ w = w' := by
  have HB := Lib.hid (Blocks_un p w h)
  clear h
  go_enter Try.func18, Try.ntmps18
  go_wp2_with fail
  refine HB.out.mono ?_
  rintro e w1 ⟨rfl, rfl⟩
  go_wp2_with fail
  go_ret2
  exact ⟨rfl, rfl⟩
set_option maxRecDepth 100000 in
theorem JScan_un (p : Option Addr) (w : World) (fi bl ep pl ct : Int) (h : Unm p w) :
    Calls Try.prog 22 #[.pointer p, .int .i64 fi, .int .i64 bl, .int .i64 ep, .int .i64 pl, .int .i64 ct] w fun e w' => e = .returned (.tuple #[.slice none 0 0, .int .i64 0, .int .i64 0, .int .i64 1]) ∧ w = w' := by
  have HB := Lib.hid (Blocks_un p w h)
  clear h
  go_enter Try.func22, Try.ntmps22
  go_wp2_with fail
  refine HB.out.mono ?_
  rintro e w1 ⟨rfl, rfl⟩
  go_wp2_with fail
  refine bodyPost_ret (v := .tuple #[.slice none 0 0, .int .i64 0, .int .i64 0, .int .i64 1]) (by simp [results, Try.results22, go_sem]) rfl ?_
  exact ⟨rfl, rfl⟩

/-- A journal by its numbers. -/
structure JK (J : JnS) (fi bl pl ct us la sy wl : Nat) (br : Bool) : Prop where
  fi : J.fi = fi
  bl : J.bl = bl
  pl : J.pl = pl
  ct : J.ct = ct
  us : J.us = us
  la : J.la = la
  sy : J.sy = sy
  wl : J.waits.length = wl
  br : J.br = br
theorem JK.new (fi bl ep pl ct : Nat) : JK (newJ fi bl ep pl ct) fi bl pl ct 0 0 0 0 false := ⟨rfl, rfl, rfl, rfl, rfl, rfl, rfl, rfl, rfl⟩
section
variable {w0 w : World} {gd gj : Nat} {D : DiskS} {J : JnS} {S : Nat → Prop} {fi bl pl ct us la sy wl : Nat} {br : Bool}
theorem JApp_yes (h : JS w0 w gd gj D J S) (hk : JK J fi bl pl ct us la sy wl false) (k : Nat) (tx : Int) (A : Option Addr) (n d : Nat) (cs : List Ch) (hc : CR w A n cs) (hn : n ≤ 9223372036854775807) (hpb : ∀ c ∈ cs, ∀ p ∈ c.2.2, p.1 ≤ 9223372036854775807) (hr : (⟨k, tx, cs⟩ : Rec).right = true) {m : Nat} (hm : (encR ⟨k, tx, cs⟩).length = m) (h1 : needL (wl + m) ≤ bl - us) (h2 : ct + needL (wl + m) ≤ 4294967296) (hla : la < 1000) :
    Calls Try.prog 7 #[.pointer (some ⟨gj, 0, none⟩), .agg #[.int .u8 (k : Int), .int .i64 tx, .slice A n d]] w fun e w' => e = .returned (.tuple #[.int .i64 ((la + 1 : Nat) : Int), .int .i64 0]) ∧ ∃ J' S', JS w0 w' gd gj D J' S' ∧ JK J' fi bl pl ct us (la + 1) sy (wl + m) false := by
  have h0 : appE J ⟨k, tx, cs⟩ = 0 := by
    rw [appE_is hk.br hr, hk.bl, hk.us, hk.wl, hk.ct, hm, if_neg (by omega)]
  refine (JAppend_js h k tx A n d cs hc hn hpb (by rw [hk.la]; omega)).mono ?_
  rintro e w' ⟨rfl, S', hj, _⟩
  obtain ⟨e1, e2⟩ := appJ_yes h0
  rw [e2, h0, hk.la]
  rw [e1] at hj
  refine ⟨rfl, _, S', hj, ⟨hk.fi, hk.bl, hk.pl, hk.ct, hk.us, ?_, hk.sy, ?_, hk.br⟩⟩
  · show J.la + 1 = la + 1
    rw [hk.la]
  · show (J.waits ++ encR _).length = wl + m
    rw [List.length_append, hk.wl, hm]
theorem JApp_full (h : JS w0 w gd gj D J S) (hk : JK J fi bl pl ct us la sy wl false) (k : Nat) (tx : Int) (A : Option Addr) (n d : Nat) (cs : List Ch) (hc : CR w A n cs) (hn : n ≤ 9223372036854775807) (hpb : ∀ c ∈ cs, ∀ p ∈ c.2.2, p.1 ≤ 9223372036854775807) (hr : (⟨k, tx, cs⟩ : Rec).right = true) {m : Nat} (hm : (encR ⟨k, tx, cs⟩).length = m) (h1 : bl - us < needL (wl + m) ∨ 4294967296 < ct + needL (wl + m)) (hla : la < 1000) :
    Calls Try.prog 7 #[.pointer (some ⟨gj, 0, none⟩), .agg #[.int .u8 (k : Int), .int .i64 tx, .slice A n d]] w fun e w' => e = .returned (.tuple #[.int .i64 0, .int .i64 5]) ∧ ∃ S', JS w0 w' gd gj D J S' := by
  have h0 : appE J ⟨k, tx, cs⟩ = 5 := by
    rw [appE_is hk.br hr, hk.bl, hk.us, hk.wl, hk.ct, hm, if_pos h1]
  refine (JAppend_js h k tx A n d cs hc hn hpb (by rw [hk.la]; omega)).mono ?_
  rintro e w' ⟨rfl, S', hj, _⟩
  obtain ⟨e1, e2⟩ := appJ_no (J := J) (r := ⟨k, tx, cs⟩) (by rw [h0]; decide)
  rw [e2, h0]
  rw [e1] at hj
  exact ⟨rfl, S', hj⟩
theorem JApp_broken (h : JS w0 w gd gj D J S) (hk : JK J fi bl pl ct us la sy wl true) (k : Nat) (tx : Int) (A : Option Addr) (n d : Nat) (cs : List Ch) (hc : CR w A n cs) (hn : n ≤ 9223372036854775807) (hpb : ∀ c ∈ cs, ∀ p ∈ c.2.2, p.1 ≤ 9223372036854775807) (hla : la < 1000) :
    Calls Try.prog 7 #[.pointer (some ⟨gj, 0, none⟩), .agg #[.int .u8 (k : Int), .int .i64 tx, .slice A n d]] w fun e w' => e = .returned (.tuple #[.int .i64 0, .int .i64 4]) ∧ ∃ S', JS w0 w' gd gj D J S' := by
  have h0 : appE J ⟨k, tx, cs⟩ = 4 := app_broken hk.br
  refine (JAppend_js h k tx A n d cs hc hn hpb (by rw [hk.la]; omega)).mono ?_
  rintro e w' ⟨rfl, S', hj, _⟩
  obtain ⟨e1, e2⟩ := appJ_no (J := J) (r := ⟨k, tx, cs⟩) (by rw [h0]; decide)
  rw [e2, h0]
  rw [e1] at hj
  exact ⟨rfl, S', hj⟩
theorem JFlu_yes (h : JS w0 w gd gj D J S) (hk : JK J fi bl pl ct us la sy wl false) (hc : Calm D) (hw : wl ≠ 0) (hfb : fi + bl ≤ D.blocks.length) {N : Nat} (hN : needL wl = N) :
    Calls Try.prog 9 #[.pointer (some ⟨gj, 0, none⟩)] w fun e w' => e = .returned (.int .i64 0) ∧ ∃ D' J' S', JS w0 w' gd gj D' J' S' ∧ Calm D' ∧ D'.blocks.length = D.blocks.length ∧ JK J' fi bl ((pl + N) % bl) (ct + N) (us + N) la la 0 false := by
  obtain ⟨f1, f2, f3, f4⟩ := flu_calm0 (J := J) hc hk.br (by rw [hk.wl]; exact hw) h.ji.b1 (by rw [hk.fi, hk.bl]; exact hfb)
  refine (JFlush_js h (by rw [hc.pend]; simp)).mono ?_
  rintro e w' ⟨rfl, S', hj, _⟩
  rw [f1]
  rw [f2] at hj
  refine ⟨rfl, _, _, S', hj, f3, f4, ⟨hk.fi, hk.bl, ?_, ?_, ?_, hk.la, hk.la, rfl, hk.br⟩⟩
  · show (J.pl + needL J.waits.length) % J.bl = _
    rw [hk.pl, hk.wl, hk.bl, hN]
  · show J.ct + needL J.waits.length = _
    rw [hk.ct, hk.wl, hN]
  · show J.us + needL J.waits.length = _
    rw [hk.us, hk.wl, hN]
theorem JFlu_fail (h : JS w0 w gd gj D J S) (hk : JK J fi bl pl ct us la sy wl false) (hw : wl ≠ 0) (hfb : fi + bl ≤ D.blocks.length) {er : Int} (hop : opC D = er) (he : er ≠ 0) (hpd : D.pending.length ≤ 1000) :
    Calls Try.prog 9 #[.pointer (some ⟨gj, 0, none⟩)] w fun e w' => e = .returned (.int .i64 er) ∧ ∃ J' S', JS w0 w' gd gj (opS D) J' S' ∧ JK J' fi bl pl ct us la sy wl true := by
  obtain ⟨f1, f2, f3⟩ := flu_fail (J := J) hk.br (by rw [hk.wl]; exact hw) h.ji.b1 (by rw [hk.fi, hk.bl]; exact hfb) hop he
  refine (JFlush_js h (by omega)).mono ?_
  rintro e w' ⟨rfl, S', hj, _⟩
  rw [f1]
  rw [f2, f3] at hj
  exact ⟨rfl, _, S', hj, ⟨hk.fi, hk.bl, hk.pl, hk.ct, hk.us, hk.la, hk.sy, hk.wl, rfl⟩⟩
theorem JFlu_none (h : JS w0 w gd gj D J S) (hk : JK J fi bl pl ct us la sy 0 false) (hpd : D.pending.length ≤ 1000) :
    Calls Try.prog 9 #[.pointer (some ⟨gj, 0, none⟩)] w fun e w' => e = .returned (.int .i64 0) ∧ ∃ S', JS w0 w' gd gj D J S' := by
  obtain ⟨f1, f2, f3⟩ := flu_none (D := D) hk.br hk.wl
  refine (JFlush_js h (by omega)).mono ?_
  rintro e w' ⟨rfl, S', hj, _⟩
  rw [f1]
  rw [f2, f3] at hj
  exact ⟨rfl, S', hj⟩
theorem JFlu_broken (h : JS w0 w gd gj D J S) (hk : JK J fi bl pl ct us la sy wl true) (hpd : D.pending.length ≤ 1000) :
    Calls Try.prog 9 #[.pointer (some ⟨gj, 0, none⟩)] w fun e w' => e = .returned (.int .i64 4) ∧ ∃ S', JS w0 w' gd gj D J S' := by
  obtain ⟨f1, f2, f3⟩ := flu_broken (D := D) hk.br
  refine (JFlush_js h (by omega)).mono ?_
  rintro e w' ⟨rfl, S', hj, _⟩
  rw [f1]
  rw [f2, f3] at hj
  exact ⟨rfl, S', hj⟩
theorem JFre_yes (h : JS w0 w gd gj D J S) (hk : JK J fi bl pl ct us la sy 0 false) :
    Calls Try.prog 10 #[.pointer (some ⟨gj, 0, none⟩)] w fun e w' => e = .returned (.int .i64 0) ∧ ∃ J', JS w0 w' gd gj D J' S ∧ JK J' fi bl pl ct 0 la sy 0 false := by
  have f1 : freeE J = 0 := by unfold freeE; rw [hk.br, if_neg (by simp), hk.wl, if_neg (by omega)]
  have f2 : freeJ J = { J with us := 0 } := by unfold freeJ; rw [if_pos f1]
  refine (JFree_js h).mono ?_
  rintro e w' ⟨rfl, hj, _⟩
  rw [f1]
  rw [f2] at hj
  exact ⟨rfl, _, hj, ⟨hk.fi, hk.bl, hk.pl, hk.ct, rfl, hk.la, hk.sy, hk.wl, hk.br⟩⟩
theorem JFre_no (h : JS w0 w gd gj D J S) (hk : JK J fi bl pl ct us la sy wl br) {er : Int} (he : er = if br then 4 else if 0 < wl then 2 else 0) (h0 : er ≠ 0) :
    Calls Try.prog 10 #[.pointer (some ⟨gj, 0, none⟩)] w fun e w' => e = .returned (.int .i64 er) ∧ JS w0 w' gd gj D J S := by
  have f1 : freeE J = er := by unfold freeE; rw [hk.br, hk.wl, he]
  have f2 : freeJ J = J := by unfold freeJ; rw [if_neg (by rw [f1]; exact h0)]
  refine (JFree_js h).mono ?_
  rintro e w' ⟨rfl, hj, _⟩
  rw [f1]
  rw [f2] at hj
  exact ⟨rfl, hj⟩
theorem JRoom_k (h : JS w0 w gd gj D J S) (hk : JK J fi bl pl ct us la sy wl br) :
    Calls Try.prog 13 #[.pointer (some ⟨gj, 0, none⟩)] w fun e w' => e = .returned (.int .i64 ((bl - us : Nat) : Int)) ∧ Below w.heap.size w w' := by
  obtain ⟨wv, hjb⟩ := h.jb
  have := Room_any hjb (Nat.le_trans (Nat.le_add_right _ _) h.ji.u1) h.ji.b2
  rw [hk.bl, hk.us] at this
  exact this
theorem JAt_k (h : JS w0 w gd gj D J S) (hk : JK J fi bl pl ct us la sy wl br) :
    Calls Try.prog 8 #[.pointer (some ⟨gj, 0, none⟩)] w fun e w' => e = .returned (.tuple #[.int .i64 (pl : Int), .int .i64 (ct : Int)]) ∧ Below w.heap.size w w' := by
  obtain ⟨wv, hjb⟩ := h.jb
  have := At_any hjb
  rw [hk.pl, hk.ct] at this
  exact this
theorem JLast_k (h : JS w0 w gd gj D J S) (hk : JK J fi bl pl ct us la sy wl br) :
    Calls Try.prog 11 #[.pointer (some ⟨gj, 0, none⟩)] w fun e w' => e = .returned (.int .i64 (la : Int)) ∧ Below w.heap.size w w' := by
  obtain ⟨wv, hjb⟩ := h.jb
  have := Last_any hjb
  rw [hk.la] at this
  exact this
theorem JSynced_k (h : JS w0 w gd gj D J S) (hk : JK J fi bl pl ct us la sy wl br) :
    Calls Try.prog 12 #[.pointer (some ⟨gj, 0, none⟩)] w fun e w' => e = .returned (.int .i64 (sy : Int)) ∧ Below w.heap.size w w' := by
  obtain ⟨wv, hjb⟩ := h.jb
  have := Synced_any hjb
  rw [hk.sy] at this
  exact this
theorem JBroken_k (h : JS w0 w gd gj D J S) (hk : JK J fi bl pl ct us la sy wl br) :
    Calls Try.prog 14 #[.pointer (some ⟨gj, 0, none⟩)] w fun e w' => e = .returned (.bool br) ∧ Below w.heap.size w w' := by
  obtain ⟨wv, hjb⟩ := h.jb
  have := Broken_any hjb
  rw [hk.br] at this
  exact this
end
end Go.Proofs.Ytlopcmmbkfjidaa

/-! JnQ -/
namespace Go.Proofs.Ytlopcmmbkfjidaa
open Go Go.RowKit

/-- A write upon a disk on which nothing is armed. -/
theorem write_still {D : DiskS} {b : Nat} {m : List UInt8} (hd : D.down = false) (hf : D.fault = -1) (hp : D.power = -1) (hb : b < D.blocks.length) (hm : m.length = 4096) : writeE D b 4096 = 0 ∧ writeD D b m = { D with pending := D.pending ++ [(b, m)] } := by
  have hop : opS D = D := by
    obtain ⟨x1, x2, x3, x4, x5, x6⟩ := D
    dsimp only at hd hf hp
    subst hd hf hp
    rfl
  rcases write_well (p := (b, m)) hd hf hb hm with ⟨h0, _, _⟩ | ⟨_, h1, h2⟩
  · rw [hp] at h0; cases h0
  · dsimp only at h1 h2
    rw [hm] at h1
    rw [hop] at h2
    exact ⟨h1, h2⟩
section
variable {w0 w : World} {gd gj : Nat} {D : DiskS} {J : JnS} {S : Nat → Prop}
theorem DS.lt (h : DS w0 w gd D S) {k : Nat} (hk : S k) : k < w.heap.size := (h.2.foot_lt k hk).2
theorem JS.lt (h : JS w0 w gd gj D J S) {k : Nat} (hk : S k) : k < w.heap.size := by
  obtain ⟨_, cs, t, fr, q, _⟩ := h.kind hk
  exact (Array.getElem?_eq_some_iff.1 q).1
theorem DWrite_ds (h : DS w0 w gd D S) (hd : D.down = false) (hf : D.fault = -1) (hp : D.power = -1) {b : Nat} (hb : b < D.blocks.length) {A : Option Addr} {c : Nat} {m : List UInt8} (hm : BR w A 4096 m) (hA : ∀ ad, A = some ad → ¬ S ad.block) (hpl : D.pending.length ≤ 1000) :
    Calls Try.prog 44 #[.pointer (some ⟨gd, 0, none⟩), .int .i64 (b : Int), .slice A 4096 c] w fun e w' => e = .returned (.int .i64 0) ∧ ∃ S', DS w0 w' gd { D with pending := D.pending ++ [(b, m)] } S' ∧ Mv S S' w w' := by
  obtain ⟨e1, e2⟩ := write_still hd hf hp hb hm.len
  refine (Write_any w _ _ gd S D b A 4096 c m h.2 hm hA (by omega) (by omega)).mono ?_
  rintro e w' ⟨rfl, hq⟩
  rw [e1]
  rw [e2] at hq
  exact ⟨rfl, h.post hq⟩
theorem DWrite_js (h : JS w0 w gd gj D J S) (hd : D.down = false) (hf : D.fault = -1) (hp : D.power = -1) {b : Nat} (hb : b < D.blocks.length) {A : Option Addr} {c : Nat} {m : List UInt8} (hm : BR w A 4096 m) (hA : ∀ ad, A = some ad → ¬ S ad.block) (hpl : D.pending.length ≤ 1000) :
    Calls Try.prog 44 #[.pointer (some ⟨gd, 0, none⟩), .int .i64 (b : Int), .slice A 4096 c] w fun e w' => e = .returned (.int .i64 0) ∧ ∃ S', JS w0 w' gd gj { D with pending := D.pending ++ [(b, m)] } J S' ∧ Mv S S' w w' := by
  obtain ⟨e1, e2⟩ := write_still hd hf hp hb hm.len
  obtain ⟨F, wv, h1, h2, h3, h4, h5, h6, h7⟩ := h.ex
  refine (Write_any w _ _ gd F D b A 4096 c m h1 hm (fun ad e hf => hA ad e ((h7 _).2 (.inl hf))) (by omega) (by omega)).mono ?_
  rintro e w' ⟨rfl, hq⟩
  rw [e1]
  rw [e2] at hq
  exact ⟨rfl, h.disk h1 h2 h3 h4 h5 h7 hq⟩
end

set_option maxRecDepth 100000 in
set_option maxHeartbeats 4000000 in
theorem block_any (w0 w : World) (gd : Nat) (D : DiskS) (S : Nat → Prop) (at_ ct left : Nat) (A : Option Addr) (n c : Nat) (l : List UInt8) (h : DS w0 w gd D S) (hd : D.down = false) (hf : D.fault = -1) (hp : D.power = -1) (hat : 1 + at_ < D.blocks.length) (hl : BR w A n l) (hn : n ≤ 4076) (hlf : left < 65536) (_hct : ct ≤ 1000000) (hpl : D.pending.length ≤ 1000) (hba : at_ ≤ 5000) :
    Calls Try.prog 47 #[.pointer (some ⟨gd, 0, none⟩), .int .i64 (at_ : Int), .int .i64 (ct : Int), .int .i64 (left : Int), .slice A n c] w fun e w' => e = .returned (.bool true) ∧ ∃ S', DS w0 w' gd { D with pending := D.pending ++ [(1 + at_, sealL (ofN 1 ct) (leB left 4 ++ l))] } S' ∧ Mv S S' w w' := by
  obtain ⟨x0, hx0⟩ : ∃ x0 : Nat, x0 = left % 256 := ⟨_, rfl⟩
  obtain ⟨x1, hx1⟩ : ∃ x1 : Nat, x1 = left / 256 := ⟨_, rfl⟩
  have hb0 : x0 < 256 := by omega
  have hb1 : x1 < 256 := by omega
  have HLB : Hid (leB left 4 = [UInt8.ofNat x0, UInt8.ofNat x1, 0, 0]) := Lib.hid (by
    unfold leB leB leB leB leB
    have e0 : UInt8.ofNat left = UInt8.ofNat x0 := by
      apply UInt8.toNat_inj.1
      rw [UInt8.toNat_ofNat', UInt8.toNat_ofNat']
      omega
    have e2 : left / 256 / 256 = 0 := by omega
    rw [e0, ← hx1, hx1, e2]
    rfl)
  have u0 : IntKind.u8.wrap (left : Int) = (x0 : Int) := by rw [show IntKind.u8.wrap (left : Int) = (left : Int) % 256 from rfl]; omega
  have u1 : (left : Int) / 256 = (x1 : Int) := by omega
  have u2 : IntKind.u8.wrap (x1 : Int) = (x1 : Int) := by rw [show IntKind.u8.wrap (x1 : Int) = (x1 : Int) % 256 from rfl]; omega
  have HD := Lib.hid h
  have HL := Lib.hid hl
  have OBL : Hid (OB (w.alloc (.cells #[.int .u8 (x0 : Int), .int .u8 (x1 : Int), .int .u8 0, .int .u8 0] 5)) w.heap.size (.slice (some ⟨w.heap.size, 0, none⟩) 4 4) [UInt8.ofNat x0, UInt8.ofNat x1, 0, 0]) := Lib.hid (OB.of_own (own_lit (heap_alloc_new w _) rfl (Nat.le_refl _) (by simp [maxLen])) (by
    have e0 : (UInt8.ofNat x0).toNat = x0 := by rw [UInt8.toNat_ofNat']; omega
    have e1 : (UInt8.ofNat x1).toNat = x1 := by rw [UInt8.toNat_ofNat']; omega
    simp only [List.map_cons, List.map_nil, bv, e0, e1]
    rfl))
  have HBW := Lib.hid (gr_alloc (gr_refl w) (.cells #[.int .u8 (x0 : Int), .int .u8 (x1 : Int), .int .u8 0, .int .u8 0] 5))
  have HOF : Hid (((1 : Int) % 4294967296 * 4294967296 + (ct : Int) % 4294967296) = ((ofN 1 ct : Nat) : Int)) := Lib.hid (by unfold ofN; omega)
  clear hx0 hx1 h hl
  go_enter Try.func47, Try.ntmps47
  go_wp2_with (at_builtin; refine wpList_append_B _ rfl (.tmp 19) (.tmp 20) rfl rfl OBL.out rfl (HL.out.below HBW.out) (by simp; omega) HBW.out.size ?_; intro A1 c1 W1 L1 HL1 hq1 o1 bb1 _; have OB1 := Lib.hid o1; have HB1 := Lib.hid (HBW.out.trans bb1); clear o1 bb1)
  have hL1 : L1.length = 4 + n := by rw [hq1]; rfl
  clear hq1
  go_wp2_with fail
  refine (Of_any _ _ _).mono ?_
  rintro e w2 ⟨rfl, rfl⟩
  rw [HOF.out]
  go_wp2_with fail
  obtain ⟨A1', c1', e', br1, _, _⟩ := OB1.out.formN hL1
  injection e' with e1 e2 e3
  subst e1 e3
  refine (Seal_fits A1 (4 + n) c1 (ofN 1 ct) L1 W1 br1 (by omega) (ofN_lt 1 ct)).mono ?_
  rintro e w3 ⟨r3, rfl, ob3, hb3⟩
  rw [← hL1] at ob3
  have hsl : (sealL (ofN 1 ct) L1).length = 4096 := sealL_len (by omega)
  have ob3' : OB w3 W1.heap.size r3 (sealL (ofN 1 ct) L1) := ob3
  obtain ⟨q3, c3, rfl, hq1, hq2, hq3⟩ := ob3'.full hsl
  obtain ⟨A', c', e', br3, _, _⟩ := ob3'.formN hsl
  injection e' with e1 e2 e3
  subst e1 e3
  have HB3 := Lib.hid (gr_trans HB1.out hb3)
  have HBR3 := Lib.hid br3
  have HA3 : Hid (∀ ad, some (⟨q3, 0, none⟩ : Addr) = some ad → ¬ S ad.block) := Lib.hid (fun ad e hf => by
    injection e with e
    subst e
    have h1 := HD.out.lt hf
    have h2 := HB1.out.size
    dsimp only at h1
    omega)
  have HD3 := Lib.hid (HD.out.below HB3.out)
  clear hb3 ob3 ob3' br3 br1
  go_wp2_with fail
  refine (DWrite_ds HD3.out hd hf hp (b := 1 + at_) hat HBR3.out HA3.out hpl).mono ?_
  rintro e w4 ⟨rfl, S', ds4, mv4⟩
  have HQ4 : Hid (∃ S', DS w0 w4 gd { D with pending := D.pending ++ [(1 + at_, sealL (ofN 1 ct) (leB left 4 ++ l))] } S' ∧ Mv S S' w w4) := Lib.hid ⟨S', by
    rw [HLB.out, ← HL1.out]
    exact ds4, (Mv.of_below HB3.out).trans mv4⟩
  clear ds4 mv4
  go_wp2
  go_ret
  exact ⟨rfl, HQ4.out⟩
end Go.Proofs.Ytlopcmmbkfjidaa

/-! JnR -/
namespace Go.Proofs.Ytlopcmmbkfjidaa
open Go Go.RowKit

/-- The record of one block of the log. -/
def oddX (z : List UInt8) : List Ch := [((1 : Int), ([] : List UInt8), [((0 : Int), z)])]
theorem oddX_right {z : List UInt8} (hz : z.length = 4050) : (⟨1, 0, oddX z⟩ : Rec).right = true := by
  have h2 : rpFrom 0 [((0 : Int), z)] = true := by
    unfold rpFrom rpFrom
    dsimp only
    rw [hz, if_neg (by omega)]
  show rightR ((1 : Nat) : Int) 0 (oddX z) = true
  unfold rightR oddX
  rw [if_neg (by omega), if_neg (by omega), if_pos (show ((1 : Nat) : Int) = 1 from rfl)]
  unfold rcFrom rcFrom
  dsimp only
  rw [if_neg (by omega), if_neg (by simp), if_pos h2]
  rfl
theorem oddX_len {z : List UInt8} (hz : z.length = 4050) : (encR ⟨1, 0, oddX z⟩).length = 4076 := by
  rw [encR_len]
  unfold encB oddX encCs encCs encC encPs encPs encP
  simp only [List.length_cons, List.length_append, List.length_nil, leB_length, Nat.lt_irrefl, if_false, hz]
def oddC : List Ch := oddX (List.replicate 4050 0)
theorem odd_right : (⟨1, 0, oddC⟩ : Rec).right = true := oddX_right (List.length_replicate ..)
theorem odd_len : (encR ⟨1, 0, oddC⟩).length = 4076 := oddX_len (List.length_replicate ..)
/-- The row of changes that the law builds. -/
theorem odd_row (w : World) : ∃ w1 w2 w3 : World, w1 = w.alloc (.cells (zeroB 4050) 5) ∧ w2 = w1.alloc (.cells #[.int .i64 0, .slice (some ⟨w.heap.size, 0, none⟩) 4050 4050] 83) ∧ w3 = w2.alloc (.cells #[.int .i64 1, .slice none 0 0, .slice (some ⟨w.heap.size + 1, 0, none⟩) 1 1] 86) ∧ CR w3 (some ⟨w.heap.size + 2, 0, none⟩) 1 oddC ∧ Below w.heap.size w w3 := by
  refine ⟨_, _, _, rfl, rfl, rfl, ?_, gr_alloc (gr_alloc (gr_alloc (gr_refl w) _) _) _⟩
  have h1 := OB.zero w 4050 (by simp [maxLen])
  have s1 : ∀ o, (w.alloc o).heap.size = w.heap.size + 1 := fun o => by simp
  generalize hw1 : w.alloc (.cells (zeroB 4050) 5) = w1 at *
  have z1 : w1.heap.size = w.heap.size + 1 := by rw [← hw1]; exact s1 _
  have h2 := OW.lit1 (base := w.heap.size) (heap_alloc_new w1 (.cells #[.int .i64 0, .slice (some ⟨w.heap.size, 0, none⟩) 4050 4050] 83)) (by omega) (h1.below ((gr_refl w1).alloc (Nat.le_refl _) _))
  generalize hw2 : w1.alloc (.cells #[.int .i64 0, .slice (some ⟨w.heap.size, 0, none⟩) 4050 4050] 83) = w2 at *
  have z2 : w2.heap.size = w.heap.size + 2 := by
    have : (w1.alloc (.cells #[.int .i64 0, .slice (some ⟨w.heap.size, 0, none⟩) 4050 4050] 83)).heap.size = w1.heap.size + 1 := by simp
    rw [← hw2, this, z1]
  rw [z1] at h2
  have h3 := OCW.lit1 (base := w.heap.size) (heap_alloc_new w2 (.cells #[.int .i64 1, .slice none 0 0, .slice (some ⟨w.heap.size + 1, 0, none⟩) 1 1] 86)) (by omega) (OB.nil _ _) (h2.below ((gr_refl w2).alloc (Nat.le_refl _) _))
  rw [z2] at h3
  obtain ⟨A, c, e, h4, _, _⟩ := h3.cr
  injection e with e1 e2 e3
  subst e1
  exact h4
set_option maxRecDepth 100000 in
set_option maxHeartbeats 8000000 in
theorem odd_any (w : World) : Calls Try.prog 26 #[] w fun e w' => e = .returned (.bool true) ∧ Below w.heap.size w w' := by
  have HD := Lib.hid (DNew_ds 1100 w w (by omega) (by omega) (gr_refl w))
  have mk := run_mk_bytes 4050 (by omega) 4050 rfl
  have mk2 := run_mk_bytes 4096 (by omega) 4096 rfl
  go_enter Try.func26, Try.ntmps26
  go_wp2_with fail
  refine HD.out.mono ?_
  rintro e w1 ⟨gd, S1, rfl, hd1, hb1, _⟩
  have hl : (newD 1100).blocks.length = 1100 := List.length_replicate ..
  have HNO := Lib.hid (JNew_no w1 _ _ gd S1 (newD 1100) 0 1025 1 0 1 hd1.2 (by rw [hl]; decide))
  have HD1 := Lib.hid hd1
  clear hd1 hb1 HD
  go_wp2_with fail
  refine HNO.out.mono ?_
  rintro e w2 ⟨rfl, hb2⟩
  have HJN := Lib.hid (JNew_js 0 1 1 0 1 (HD1.out.below hb2) (by rw [hl]; decide))
  clear hb2 HNO
  go_wp2_with fail
  refine HJN.out.mono ?_
  rintro e w3 ⟨gj, S3, rfl, hj3, _, _⟩
  obtain ⟨_, _, _, rfl, rfl, rfl, hcr, hbc⟩ := odd_row w3
  have HA := Lib.hid (JApp_yes (hj3.below hbc) (JK.new 0 1 1 0 1) 1 0 (some ⟨w3.heap.size + 2, 0, none⟩) 1 1 oddC hcr (by omega) (by
    intro c hc p hp
    simp only [oddC, oddX, List.mem_singleton] at hc
    subst hc
    simp only [List.mem_singleton] at hp
    subst hp
    decide) odd_right odd_len (by decide) (by decide) (by decide))
  clear hj3 hcr hbc HJN
  go_wp2_with fail
  refine HA.out.mono ?_
  rintro e w4 ⟨rfl, J4, S4, hj4, hk4⟩
  have HF := Lib.hid (JFlu_yes hj4 hk4 (Calm.new 1100) (by decide) (by rw [hl]; decide) (N := 1) (by decide))
  clear hj4 hk4 HA
  go_wp2_with fail
  refine HF.out.mono ?_
  rintro e w5 ⟨rfl, D5, J5, S5, hj5, hc5, hl5, hk5⟩
  rw [hl] at hl5
  have HW := Lib.hid (DWrite_js (hj5.below (gr_alloc (gr_refl w5) (.cells (zeroB 4096) 5))) hc5.down hc5.fault hc5.power (b := 9) (by omega) (A := some ⟨w5.heap.size, 0, none⟩) (c := 4096) (BR.zero w5 _ 4096 _ rfl) (fun ad e hs => by
    injection e with e
    subst e
    have := hj5.lt hs
    dsimp only at this
    omega) (by rw [hc5.pend]; decide))
  have HC5 := Lib.hid hc5
  have HK5 := Lib.hid hk5
  clear hj5 hc5 hk5 HF
  go_wp2_with fail
  refine HW.out.mono ?_
  rintro e w6 ⟨rfl, S6, hj6, _⟩
  rw [HC5.out.pend] at hj6
  have hdn : ({ D5 with pending := [] ++ [(9, List.replicate 4096 0)] } : DiskS).down = false := HC5.out.down
  have hpw : ({ D5 with pending := [] ++ [(9, List.replicate 4096 0)] } : DiskS).power = -1 := HC5.out.power
  have hpl : ({ D5 with pending := [] ++ [(9, List.replicate 4096 0)] } : DiskS).pending.length = 1 := rfl
  have hbl : ({ D5 with pending := [] ++ [(9, List.replicate 4096 0)] } : DiskS).blocks.length = 1100 := hl5
  generalize ({ D5 with pending := [] ++ [(9, List.replicate 4096 0)] } : DiskS) = D6 at *
  have HN := Lib.hid (JFlu_none hj6 HK5.out (by omega))
  clear hj6 HW
  go_wp2_with fail
  refine HN.out.mono ?_
  rintro e w7 ⟨rfl, S7, hj7⟩
  obtain ⟨S8, hd8, _⟩ := hj7.ds
  have HP := Lib.hid (Pending_any w7 _ _ gd S8 D6 hd8.2)
  rw [hpl] at HP
  have HJ9 := Lib.hid (JNew_js 10 4 1 0 1 hd8 (by rw [hbl]; decide))
  clear hj7 hd8 HN
  go_wp2_with fail
  refine HP.out.mono ?_
  rintro e w8 ⟨rfl, rfl⟩
  go_wp2_with fail
  refine HJ9.out.mono ?_
  rintro e w9 ⟨gm, S9, rfl, hj9, _, _⟩
  have HJ := Lib.hid hj9
  clear hj9 HJ9
  go_wp2_with fail
  refine (commit6_any 1 w9).mono ?_
  rintro e w10 ⟨rfl, hb10⟩
  have HA := Lib.hid (JApp_yes (HJ.out.below hb10) (JK.new 10 4 1 0 1) 2 1 none 0 0 [] (CR.none_ _ _) (by omega) (by simp) (rc_right 1 (by omega) (by omega)) (rc_len 1) (by decide) (by decide) (by decide))
  clear hb10 HJ
  go_wp2_with fail
  refine HA.out.mono ?_
  rintro e w11 ⟨rfl, J11, S11, hj11, hk11⟩
  have HFL := Lib.hid (Fail_js 0 4 hj11 (by omega))
  have hf0 : failE 0 4 = 0 := by decide
  have hf1 : failD D6 0 4 = { D6 with fault := 0, wi := 4 } := by unfold failD; rw [if_neg (by decide)]
  rw [hf0, hf1] at HFL
  have HK11 := Lib.hid hk11
  clear hj11 hk11 hf0 hf1 HA
  go_wp2_with fail
  refine HFL.out.mono ?_
  rintro e w12 ⟨rfl, S12, hj12, _⟩
  have HFF := Lib.hid (JFlu_fail hj12 HK11.out (by decide) (by show 10 + 4 ≤ D6.blocks.length; omega) (er := 4) (by
    show opE D6.down D6.power 0 4 = 4
    rw [hdn, hpw]
    decide) (by decide) (by show D6.pending.length ≤ 1000; omega))
  clear hj12 HFL
  go_wp2_with fail
  refine HFF.out.mono ?_
  rintro e w13 ⟨rfl, J13, S13, hj13, hk13⟩
  have HB := Lib.hid (JBroken_k hj13 hk13)
  have HB13 := Lib.hid hj13.bel
  clear hj13 hk13 HFF
  go_wp2_with fail
  refine HB.out.mono ?_
  rintro e w14 ⟨rfl, hb14⟩
  have HB14 := Lib.hid (gr_trans HB13.out hb14)
  clear hb14
  go_wp2
  go_ret
  exact ⟨rfl, HB14.out⟩
end Go.Proofs.Ytlopcmmbkfjidaa

/-! PlP -/
namespace Go.Proofs.Ytlopcmmbkfjidaa
open Go Go.RowKit

theorem scan_none {D : DiskS} (h : rdN (rdB D 1 4 1 0 1 4) = 0) : scanR D 1 4 1 0 1 = [] ∧ scanU D 1 4 1 0 1 = 0 :=
  scan_log (D := D) (fi := 1) (bl := 4) (ep := 1) (pl := 0) (ct := 1) (fs := []) trivial (Nat.zero_le _) h
theorem sN_lit {v x : Nat} {q : List UInt8} (hv : v < 18446744073709551616) (hx : x < 4294967296) (hq : q.length ≤ 4076) : sN (sealL v (leB x 4 ++ q)) = x := by
  unfold sN
  rw [(openS_seal v (leB x 4 ++ q) hv (by rw [List.length_append, leB_length]; omega)).1, List.append_assoc, List.take_append_of_le_length (by rw [leB_length]; omega), List.take_of_length_le (by rw [leB_length]; omega), leN_leB, Nat.mod_eq_of_lt (by omega)]
theorem cut_lit {v x k : Nat} {q : List UInt8} (hv : v < 18446744073709551616) (hq : q.length ≤ 4076) (hk : k = q.length) : ((openP (sealL v (leB x 4 ++ q))).drop 4).take k = q := by
  rw [(openS_seal v (leB x 4 ++ q) hv (by rw [List.length_append, leB_length]; omega)).1, List.append_assoc, List.drop_append_of_le_length (by rw [leB_length]; omega), List.drop_eq_nil_of_le (by rw [leB_length]; omega), List.nil_append, List.take_append_of_le_length (by omega), hk, List.take_length]
theorem ring_at (D : DiskS) (j : Nat) (hj : j < 4) : ringC D 1 4 0 j = lastL D.blocks D.pending (1 + j) := by
  unfold ringC
  rw [Nat.zero_add, Nat.mod_eq_of_lt hj]
/-- Blocks whose lengths do not go together. -/
theorem torn_one {D : DiskS} {q1 q2 : List UInt8} (h1 : q1.length ≤ 4076) (h2 : q2.length ≤ 4076) (h : D.pending = [(1, sealL (ofN 1 1) (leB 4099 4 ++ q1)), (2, sealL (ofN 1 2) (leB 24 4 ++ q2))]) : scanR D 1 4 1 0 1 = [] ∧ scanU D 1 4 1 0 1 = 0 := by
  apply scan_none
  have c0 : ringC D 1 4 0 0 = sealL (ofN 1 1) (leB 4099 4 ++ q1) := by
    rw [ring_at D 0 (by omega), h]
    rfl
  have c1 : ringC D 1 4 0 1 = sealL (ofN 1 2) (leB 24 4 ++ q2) := by
    rw [ring_at D 1 (by omega), h]
    rfl
  have o := openS_seal (ofN 1 1) (leB 4099 4 ++ q1) (ofN_lt _ _) (by rw [List.length_append, leB_length]; omega)
  have s0 : sN (ringC D 1 4 0 0) = 4099 := by rw [c0]; exact sN_lit (ofN_lt _ _) (by omega) h1
  have s1 : sN (ringC D 1 4 0 1) = 24 := by rw [c1]; exact sN_lit (ofN_lt _ _) (by omega) h2
  unfold rdB
  rw [rdG_go (by rw [c0]; exact o.2.2) (by rw [c0]; exact o.2.1) (by omega) (fun h => absurd h (by omega)), if_neg (by omega), rdG_bad (.inr (.inr ⟨by omega, by rw [s1, s0]; omega⟩))]
  rfl
/-- Bytes that are no record. -/
theorem torn_two {D : DiskS} {p1 p2 : Nat × List UInt8} (h : D.pending = [p1, p2, (1, sealL (ofN 1 1) (leB 3 4 ++ [1, 2, 3]))]) : scanR D 1 4 1 0 1 = [] ∧ scanU D 1 4 1 0 1 = 0 := by
  apply scan_none
  have c0 : ringC D 1 4 0 0 = sealL (ofN 1 1) (leB 3 4 ++ [1, 2, 3]) := by
    rw [ring_at D 0 (by omega), h]
    rfl
  have o := openS_seal (ofN 1 1) (leB 3 4 ++ [1, 2, 3]) (ofN_lt _ _) (by rw [List.length_append, leB_length]; decide)
  have s0 : sN (ringC D 1 4 0 0) = 3 := by rw [c0]; exact sN_lit (ofN_lt _ _) (by omega) (by decide)
  have hb : ((openP (ringC D 1 4 0 0)).drop 4).take 3 = [1, 2, 3] := by rw [c0]; exact cut_lit (ofN_lt _ _) (by decide) rfl
  have ha : allE [1, 2, 3] ≠ 0 := by decide
  unfold rdB
  rw [rdG_go (by rw [c0]; exact o.2.2) (by rw [c0]; exact o.2.1) (by omega) (fun h => absurd h (by omega)), if_pos (by omega), s0, hb]
  show (if allE [1, 2, 3] = 0 then needL [1, 2, 3].length else 0) = 0
  rw [if_neg ha]

/-- A write that a fault to come lets pass. -/
theorem write_pass {D : DiskS} {b : Nat} {m : List UInt8} {k : Int} (hd : D.down = false) (hp : D.power = -1) (hf : D.fault = k) (hk : 0 < k) (hb : b < D.blocks.length) (hm : m.length = 4096) : writeE D b 4096 = 0 ∧ writeD D b m = { D with pending := D.pending ++ [(b, m)], fault := k - 1 } := by
  obtain ⟨x1, x2, x3, x4, x5, x6⟩ := D
  dsimp only at hd hp hf hb
  subst hd hp hf
  have ha : askE ⟨x1, x2, false, -1, x5, x6⟩ (b : Int) = 0 := by unfold askE; rw [if_neg (by show ¬ ((b : Int) < 0 ∨ (x1.length : Int) ≤ (b : Int)); omega)]
  have hc : opC ⟨x1, x2, false, -1, x5, x6⟩ = 0 := by
    unfold opC opE stB
    dsimp only
    rw [if_neg (by simp), if_neg (by simp), if_neg (by simp; omega)]
  have ho : opS ⟨x1, x2, false, -1, x5, x6⟩ = ⟨x1, x2, false, -1, x5 - 1, x6⟩ := by
    unfold opS opD opL stL stB
    rw [if_neg (show ¬ x5 = -1 by omega)]
    rfl
  unfold writeE writeD
  rw [ha, hc, hm, ho]
  exact ⟨rfl, rfl⟩
/-- A flush whose sync fails. -/
theorem torn_flush {bs : List (List UInt8)} {s1 s2 : List UInt8} (hb : 2 < bs.length) (h1 : s1.length = 4096) (h2 : s2.length = 4096) : flushE ⟨bs, [], false, -1, 2, 4⟩ [(1, s1), (2, s2)] = 4 ∧ flushD ⟨bs, [], false, -1, 2, 4⟩ [(1, s1), (2, s2)] = ⟨bs, [(1, s1), (2, s2)], false, -1, -1, 4⟩ := by
  obtain ⟨e1, e2⟩ := write_pass (D := ⟨bs, [], false, -1, 2, 4⟩) (b := 1) (m := s1) (k := 2) rfl rfl rfl (by omega) (by show 1 < bs.length; omega) h1
  obtain ⟨e3, e4⟩ := write_pass (D := ⟨bs, [(1, s1)], false, -1, 1, 4⟩) (b := 2) (m := s2) (k := 1) rfl rfl rfl (by omega) (by show 2 < bs.length; omega) h2
  have hp : putAll ⟨bs, [], false, -1, 2, 4⟩ [(1, s1), (2, s2)] = (⟨bs, [(1, s1), (2, s2)], false, -1, 0, 4⟩, 0) := by
    unfold putAll
    dsimp only
    rw [h1, e1, if_neg (by simp), e2]
    unfold putAll
    dsimp only
    show (if writeE ⟨bs, [(1, s1)], false, -1, 1, 4⟩ _ s2.length ≠ 0 then _ else _) = _
    rw [h2, e3, if_neg (by simp)]
    show putAll (writeD ⟨bs, [(1, s1)], false, -1, 1, 4⟩ _ s2) [] = _
    rw [e4]
    rfl
  unfold flushE flushD
  rw [hp]
  exact ⟨rfl, rfl⟩
/-- The log's blocks of a record of two blocks. -/
theorem torn_ws {b : List UInt8} (hb : b.length = 4100) : wsL 1 4 1 0 1 b = [(1, sealL (ofN 1 1) (payL b 0)), (2, sealL (ofN 1 2) (payL b 1))] := by
  unfold wsL
  rw [hb, show needL 4100 = 2 by decide]
  rfl
theorem torn_not_new {b : List UInt8} : NoSt ((sealL (ofN 1 2) (payL b 1)).take 100 ++ zer.drop 100) (ofN 1 2) := by
  have hne : ofN 1 2 ≠ 0 := by decide
  rw [zer_seal]
  rcases torn_block (v := 0) (v' := ofN 1 2) (cut := 100) (p := []) (q := payL b 1) (by omega) (ofN_lt _ _) (by simp) (payL_len b 1) (fun h => hne h.symm) (by omega) with h | h
  · exfalso
    have hl := payL_len b 1
    have h2 := congrArg (List.drop 4088) h
    rw [← zer_seal] at h2
    have hs : (sealL (ofN 1 2) (payL b 1)).length = 4096 := sealL_len hl
    have e1 : ((sealL (ofN 1 2) (payL b 1)).take 100 ++ zer.drop 100).drop 4088 = List.replicate 8 0 := by
      rw [List.drop_append, List.drop_eq_nil_of_le (by rw [List.length_take]; omega), List.nil_append, List.length_take, hs, List.drop_drop]
      unfold zer
      rw [List.drop_replicate]
      rfl
    have e2 : (sealL (ofN 1 2) (payL b 1)).drop 4088 = leB (ofN 1 2) 8 := by
      unfold sealL
      exact List.drop_left' (by simp only [List.length_append, List.length_replicate, leB_length]; omega)
    rw [e1, e2] at h2
    exact leB_inj (a := 0) (b := ofN 1 2) (by omega) (ofN_lt _ _) (fun h => hne h.symm) h2
  · exact h
/-- The crash that tears the second block. -/
theorem torn_three {b : List UInt8} (hb : b.length = 4100) : scanR (crashD ⟨List.replicate 6 zer, [(1, sealL (ofN 1 1) (payL b 0)), (2, sealL (ofN 1 2) (payL b 1))], false, -1, -1, 4⟩ [true, true] 1 100) 1 4 1 0 1 = [] ∧ scanU (crashD ⟨List.replicate 6 zer, [(1, sealL (ofN 1 1) (payL b 0)), (2, sealL (ofN 1 2) (payL b 1))], false, -1, -1, 4⟩ [true, true] 1 100) 1 4 1 0 1 = 0 := by
  have hN : needL b.length = 2 := by rw [hb]; decide
  obtain ⟨D, hD⟩ : ∃ D, D = crashD ⟨List.replicate 6 zer, [(1, sealL (ofN 1 1) (payL b 0)), (2, sealL (ofN 1 2) (payL b 1))], false, -1, -1, 4⟩ [true, true] 1 100 := ⟨_, rfl⟩
  have hB : D.blocks = crashTo [true, true] 1 100 (List.replicate 6 zer) [(1, sealL (ofN 1 1) (payL b 0)), (2, sealL (ofN 1 2) (payL b 1))] 2 := by rw [hD]; rfl
  have hP : D.pending = [] := by rw [hD]; rfl
  have hk : ∀ (bs : List (List UInt8)) (k : Nat), lastL bs [] k = bs.getD k [] := fun _ _ => rfl
  rw [← hD]
  clear hD
  have r1 : ringC D 1 4 0 0 = sealL (ofN 1 1) (payL b 0) := by
    rw [ring_at D 0 (by omega), hP, hB]
    rw [hk, show 1 + 0 = 1 from rfl, crashTo_in _ _ _ _ [(1, sealL (ofN 1 1) (payL b 0)), (2, sealL (ofN 1 2) (payL b 1))] 1 0 (sealL (ofN 1 1) (payL b 0)) (by rw [List.length_replicate]; omega) rfl 2 (by omega) (fun i hi hne => by
      have : i = 1 := by omega
      subst this
      show 2 ≠ 1
      omega)]
    unfold mixB
    rw [if_neg (by decide), if_pos (by decide)]
  have r2 : ringC D 1 4 0 1 = (sealL (ofN 1 2) (payL b 1)).take 100 ++ zer.drop 100 := by
    rw [ring_at D 1 (by omega), hP, hB]
    rw [hk, show 1 + 1 = 2 from rfl, crashTo_in _ _ _ _ [(1, sealL (ofN 1 1) (payL b 0)), (2, sealL (ofN 1 2) (payL b 1))] 2 1 (sealL (ofN 1 2) (payL b 1)) (by rw [List.length_replicate]; omega) rfl 2 (by omega) (fun i hi hne => by
      have : i = 0 := by omega
      subst this
      show 1 ≠ 2
      omega)]
    unfold mixB
    rw [if_pos (by decide)]
    rfl
  apply scan_none
  refine scan_stop (D := D) (fi := 1) (bl := 4) (ep := 1) (pl := 0) (ct := 1) (T := 0) (m := 1) (b := b) (by omega) (by omega) (fun j hj => ?_) (.inr ?_)
  · have : j = 0 := by omega
    subst this
    exact r1
  · show NoSt (ringC D 1 4 0 1) (ofN 1 2)
    rw [r2]
    exact torn_not_new
end Go.Proofs.Ytlopcmmbkfjidaa

/-! JnS -/
namespace Go.Proofs.Ytlopcmmbkfjidaa
open Go Go.RowKit

theorem imgC_pb (n : Nat) : ∀ c ∈ imgC n, ∀ p ∈ c.2.2, p.1 ≤ 9223372036854775807 := by
  intro c hc p hp
  unfold imgC at hc
  rw [List.mem_map] at hc
  obtain ⟨i, _, rfl⟩ := hc
  simp at hp
theorem torn_enc : (encR ⟨1, 0, imgC 1⟩).length = 4100 := imgs_len 1
theorem torn_encE : encE ⟨1, 0, imgC 1⟩ = 0 ∧ encL ⟨1, 0, imgC 1⟩ = encR ⟨1, 0, imgC 1⟩ := by
  have h := imgs_right 1 (by omega) (by omega)
  unfold encE encL
  rw [if_pos h, if_pos h]
  exact ⟨rfl, rfl⟩
theorem torn_app : appE (newJ 1 4 1 0 1) ⟨1, 0, imgC 1⟩ = 0 := by
  rw [appE_is rfl (imgs_right 1 (by omega) (by omega)), torn_enc]
  decide
theorem torn_flu {b : List UInt8} (hb : b.length = 4100) : fluE ⟨List.replicate 6 zer, [], false, -1, 2, 4⟩ { newJ 1 4 1 0 1 with waits := [] ++ b, la := 0 + 1 } = 4 ∧ fluD ⟨List.replicate 6 zer, [], false, -1, 2, 4⟩ { newJ 1 4 1 0 1 with waits := [] ++ b, la := 0 + 1 } = ⟨List.replicate 6 zer, [(1, sealL (ofN 1 1) (payL b 0)), (2, sealL (ofN 1 2) (payL b 1))], false, -1, -1, 4⟩ := by
  have h := torn_flush (bs := List.replicate 6 zer) (by rw [List.length_replicate]; omega) (sealL_len (v := ofN 1 1) (payL_len b 0)) (sealL_len (v := ofN 1 2) (payL_len b 1))
  rw [← torn_ws hb] at h
  have e1 : fluE ⟨List.replicate 6 zer, [], false, -1, 2, 4⟩ { newJ 1 4 1 0 1 with waits := [] ++ b, la := 0 + 1 } = if b.length = 0 then 0 else flushE ⟨List.replicate 6 zer, [], false, -1, 2, 4⟩ (wsL 1 4 1 0 1 b) := rfl
  have e2 : fluD ⟨List.replicate 6 zer, [], false, -1, 2, 4⟩ { newJ 1 4 1 0 1 with waits := [] ++ b, la := 0 + 1 } = if false = true ∨ b.length = 0 then ⟨List.replicate 6 zer, [], false, -1, 2, 4⟩ else flushD ⟨List.replicate 6 zer, [], false, -1, 2, 4⟩ (wsL 1 4 1 0 1 b) := rfl
  rw [e1, e2, if_neg (by omega), if_neg (by simp; intro h; rw [h] at hb; cases hb)]
  rw [h.1, h.2, torn_ws hb]
  exact ⟨rfl, rfl⟩
theorem Scan_nil {w0 w : World} {gd : Nat} {D : DiskS} {S : Nat → Prop} (h : DS w0 w gd D S) (hl : D.blocks.length = 6) (hd : D.down = false) (hp : D.pending.length ≤ 10) (h0 : scanR D 1 4 1 0 1 = [] ∧ scanU D 1 4 1 0 1 = 0) :
    Calls Try.prog 22 #[.pointer (some ⟨gd, 0, none⟩), .int .i64 1, .int .i64 4, .int .i64 1, .int .i64 0, .int .i64 1] w fun e w' => ∃ A c, e = .returned (.tuple #[.slice A 0 c, .int .i64 0, .int .i64 1, .int .i64 0]) ∧ Below w.heap.size w w' := by
  refine (Scan_js 1 4 1 0 1 h (by rw [hl]; decide) hd (by omega)).mono ?_
  rintro e w' ⟨v, rfl, or, hb⟩
  rw [h0.1] at or
  rw [h0.2]
  obtain ⟨A, c, rfl, _⟩ := or.rw
  exact ⟨A, c, rfl, hb⟩

set_option maxRecDepth 100000 in
set_option maxHeartbeats 8000000 in
theorem torn_any (w : World) : Calls Try.prog 27 #[] w fun e w' => e = .returned (.bool true) ∧ Below w.heap.size w w' := by
  have HD := Lib.hid (DNew_ds 6 w w (by omega) (by omega) (gr_refl w))
  have hl : (newD 6).blocks.length = 6 := List.length_replicate ..
  go_enter Try.func27, Try.ntmps27
  go_wp2_with fail
  refine HD.out.mono ?_
  rintro e w1 ⟨gd, S1, rfl, hd1, _, _⟩
  have HD1 := Lib.hid hd1
  clear hd1 HD
  go_wp2_with fail
  refine (images_any 1 w1 (by omega)).mono ?_
  rintro e w2 ⟨v2, rfl, ocw2, hb2⟩
  obtain ⟨A2, c2, rfl, hcr2, _, _⟩ := ocw2.cr
  have HE := Lib.hid (Encode_any 1 0 A2 (imgC 1).length c2 (imgC 1) w2 hcr2 (by rw [imgC_len]; omega) (imgC_pb 1))
  rw [torn_encE.1, torn_encE.2] at HE
  have HD2 := Lib.hid (HD1.out.below hb2)
  clear ocw2 hcr2 hb2
  go_wp2_with fail
  refine HE.out.mono ?_
  rintro e w3 ⟨v3, rfl, ob3, hb3⟩
  have HEL := Lib.hid torn_enc
  generalize encR ⟨1, 0, imgC 1⟩ = bb at *
  have hbl := HEL.out
  obtain ⟨A3, c3, rfl, hr3, hc3, _⟩ := ob3.formN hbl
  obtain ⟨q3, rfl, _, _, hq3⟩ := obA_some ob3 hbl (by omega)
  have HBR3 := Lib.hid hr3
  have HD3 := Lib.hid (HD2.out.below hb3)
  have HQ3 : Hid (∀ k, S1 k → k < q3) := Lib.hid (fun k hk => Nat.lt_of_lt_of_le (HD2.out.lt hk) hq3)
  clear ob3 hr3 hb3 hq3 HE HD1 HD2 hbl
  go_wp2_with fail
  refine (block_any w w3 gd (newD 6) S1 0 1 4099 (some ⟨q3, 0, none⟩) 4076 c3 (bb.take 4076) HD3.out rfl rfl rfl (by rw [hl]; omega) (HBR3.out.pre (by omega)) (by omega) (by omega) (by omega) (by decide) (by omega)).mono ?_
  rintro e w4 ⟨rfl, S4, ds4, mv4⟩
  have HD4 := Lib.hid ds4
  have hc4 := ((HBR3.out.off (S := S1) mv4.1 (fun ad e _ hs => by
    injection e with e
    subst e
    have := HQ3.out _ hs
    dsimp only at this
    omega)).cut (k := 4076) (j := 4100) (by omega) (by omega) hc3)
  rw [show cutA (some (⟨q3, 0, none⟩ : Addr)) c3 4076 1 = some ⟨q3, 4076, none⟩ from by unfold cutA; rw [if_neg (by omega)]; rfl] at hc4
  have HC4 : Hid (BR w4 (some ⟨q3, 4076, none⟩) 24 ((bb.drop 4076).take 24)) := Lib.hid hc4
  have HB4 := Lib.hid (block_any w w4 gd _ S4 1 2 24 (some ⟨q3, 4076, none⟩) 24 (c3 - 4076) ((bb.drop 4076).take 24) HD4.out rfl rfl rfl (by show 1 + 1 < (newD 6).blocks.length; rw [hl]; omega) HC4.out (by omega) (by omega) (by omega) (Nat.le_of_ble_eq_true rfl) (by omega))
  clear ds4 mv4 hc4 HD3 HBR3 HQ3 HD4 HC4
  go_wp2_with fail
  refine HB4.out.mono ?_
  rintro e w5 ⟨rfl, S5, ds5, mv5⟩
  have HD5 := Lib.hid ds5
  have HS5 := Lib.hid (Scan_nil ds5 hl rfl (Nat.le_of_ble_eq_true rfl) (torn_one (q1 := bb.take 4076) (q2 := (bb.drop 4076).take 24) (by rw [List.length_take]; omega) (by rw [List.length_take]; omega) rfl))
  clear ds5 mv5 HB4
  go_wp2_with fail
  refine HS5.out.mono ?_
  rintro e w6 ⟨A6, c6, rfl, hb6⟩
  have HB6 := Lib.hid (block_any w (w6.alloc (.cells #[.int .u8 1, .int .u8 2, .int .u8 3] 5)) gd _ S5 0 1 3 (some ⟨w6.heap.size, 0, none⟩) 3 3 [1, 2, 3] (HD5.out.below (hb6.alloc hb6.size _)) rfl rfl rfl (by show 1 + 0 < (newD 6).blocks.length; rw [hl]; omega) (BR.litAt w6 _ [1, 2, 3] _ _ _ rfl rfl rfl) (by omega) (by omega) (by omega) (Nat.le_of_ble_eq_true rfl) (by omega))
  clear hb6 HS5 HD5
  go_wp2_with fail
  refine HB6.out.mono ?_
  rintro e w7 ⟨rfl, S7, ds7, mv7⟩
  have HS7 := Lib.hid (Scan_nil ds7 hl rfl (Nat.le_of_ble_eq_true rfl) (torn_two rfl))
  have HB7 := Lib.hid ds7.1
  clear ds7 mv7 HB6
  go_wp2_with fail
  refine HS7.out.mono ?_
  rintro e w8 ⟨A8, c8, rfl, hb8⟩
  have HD := Lib.hid (DNew_ds 6 w w8 (by omega) (by omega) (gr_trans HB7.out hb8))
  clear hb8 HB7 HS7
  go_wp2_with fail
  refine HD.out.mono ?_
  rintro e w9 ⟨gx, S9, rfl, hd9, _, _⟩
  have HJN := Lib.hid (JNew_js 1 4 1 0 1 hd9 (by rw [hl]; decide))
  clear hd9 HD
  go_wp2_with fail
  refine HJN.out.mono ?_
  rintro e w10 ⟨gj, S10, rfl, hj10, _, _⟩
  have HJ := Lib.hid hj10
  clear hj10 HJN
  go_wp2_with fail
  refine (images_any 1 w10 (by omega)).mono ?_
  rintro e w11 ⟨v11, rfl, ocw11, hb11⟩
  obtain ⟨A11, c11, rfl, hcr11, _, _⟩ := ocw11.cr
  have HA := Lib.hid (JAppend_js (HJ.out.below hb11) 1 0 A11 (imgC 1).length c11 (imgC 1) hcr11 (by rw [imgC_len]; omega) (imgC_pb 1) (by decide))
  obtain ⟨e1, e2⟩ := appJ_yes torn_app
  rw [e1, e2, torn_app] at HA
  clear e1 e2 ocw11 hcr11 hb11 HJ
  have HFB := Lib.hid torn_enc
  generalize encR ⟨1, 0, imgC 1⟩ = bx at *
  have hfl := torn_flu HFB.out
  have h3 := torn_three HFB.out
  go_wp2_with fail
  refine HA.out.mono ?_
  rintro e w12 ⟨rfl, S12, hj12, _⟩
  have HFL := Lib.hid (Fail_js 2 4 hj12 (by omega))
  have hf0 : failE 2 4 = 0 := by decide
  have hf1 : failD (newD 6) 2 4 = ⟨List.replicate 6 zer, [], false, -1, 2, 4⟩ := by unfold failD; rw [if_neg (by decide)]; rfl
  rw [hf0, hf1] at HFL
  clear hj12 hf0 hf1 HA
  go_wp2_with fail
  refine HFL.out.mono ?_
  rintro e w13 ⟨rfl, S13, hj13, _⟩
  have HF := Lib.hid (JFlush_js hj13 (by decide))
  rw [show (newJ 1 4 1 0 1).waits = [] from rfl, show (newJ 1 4 1 0 1).la = 0 from rfl, hfl.1, hfl.2] at HF
  clear hj13 hfl HFL
  go_wp2_with fail
  refine HF.out.mono ?_
  rintro e w14 ⟨rfl, S14, hj14, _⟩
  have HCR := Lib.hid (Crash_js (some ⟨w14.heap.size, 0, none⟩) 2 2 [true, true] 1 100 (hj14.below (gr_alloc (gr_refl w14) (.cells #[.bool true, .bool true] 4))) (Rd.new w14 _ #[.bool true, .bool true] 2 1 rfl) (fun ad e _ hs => by
    injection e with e
    subst e
    have := hj14.lt hs
    dsimp only at this
    omega) (by omega) (Nat.le_of_ble_eq_true rfl))
  rw [show crashE 100 = 0 by decide] at HCR
  clear hj14 HF
  go_wp2_with fail
  refine HCR.out.mono ?_
  rintro e w15 ⟨rfl, S15, hj15, _⟩
  obtain ⟨S16, hd16, _⟩ := hj15.ds
  have HS := Lib.hid (Scan_nil hd16 (by show (crashTo _ _ _ _ _ _).length = 6; rw [crashTo_len, List.length_replicate]) rfl (Nat.le_of_ble_eq_true rfl) h3)
  have HB15 := Lib.hid hj15.bel
  clear hj15 hd16 h3 HCR
  go_wp2_with fail
  refine HS.out.mono ?_
  rintro e w17 ⟨A17, c17, rfl, hb17⟩
  have HB17 := Lib.hid (gr_trans HB15.out hb17)
  clear hb17
  go_wp2
  go_ret
  exact ⟨rfl, HB17.out⟩
end Go.Proofs.Ytlopcmmbkfjidaa
