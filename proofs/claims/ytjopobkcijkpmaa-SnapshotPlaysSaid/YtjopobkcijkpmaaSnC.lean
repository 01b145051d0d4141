/-
  Contracts: snapshot's Next, asked, IsOpen, shown, Visible, Conflict, Open; the atomic Add.
-/
import Derived.Test.YtjopobkcijkpmaaSnB
namespace Go.Proofs.Ytjopobkcijkpmaa
open Go.RowKit

set_option maxHeartbeats 400000 in
theorem Next_any (w : World) (base g : Nat) (F : Nat → Prop) (T : TabS) (h : IsT w base g F T) :
    Calls Try.prog 39 #[.pointer (some ⟨g, 0, none⟩)] w fun e w' => e = .returned (.int .i64 T.next) ∧ w = w' := by
  obtain ⟨b, ov, dv, hd, hF⟩ := h
  have HM := Lib.hid (tmade_yes g w hd.tb.c0)
  have HL := Lib.hid (aLoad_any ⟨g, 2, none⟩ T.next w hd.tb.c2)
  clear hd hF
  go_enter Try.func39, Try.ntmps39
  go_wp2_with fail
  refine HM.out.mono ?_
  rintro e w' ⟨rfl, rfl⟩
  go_wp2_with fail
  refine HL.out.mono ?_
  rintro e w' ⟨rfl, rfl⟩
  go_wp2_with fail
  go_ret
  exact ⟨rfl, rfl⟩

/-- What stands against a call upon a number. -/
def askT (T : TabS) (n : Int) : Int := if (ofT T n).1 = 2 then 0 else 9

set_option maxRecDepth 100000 in
set_option maxHeartbeats 400000 in
theorem tasked_any (w : World) (base g : Nat) (F : Nat → Prop) (T : TabS) (n : Int) (h : IsT w base g F T) (h1 : -9223372036854775808 ≤ n) (h2 : n ≤ 9223372036854775807) :
    Calls Try.prog 70 #[.pointer (some ⟨g, 0, none⟩), .int .i64 n] w fun e w' => e = .returned (.int .i64 (askT T n)) ∧ Below w.heap.size w w' := by
  have HO := Lib.hid (of_any w base g F T n h h1 h2)
  obtain ⟨b, ov, dv, hd, hF⟩ := h
  have HM := Lib.hid (tmade_yes g w hd.tb.c0)
  have HE : Hid (askT T n = if (ofT T n).1 = 2 then 0 else 9) := Lib.hid rfl
  clear hd hF
  unfold mkV at HO
  generalize askT T n = r at *
  generalize ofT T n = q at *
  obtain ⟨q1, q2⟩ := q
  dsimp only at HO HE
  have hfd : ∀ W : World, (Instr.field 119 (.agg #[.int .u8 q1, .int .i64 q2]) 0).run Try.prog W = .ok (.int .u8 q1) W := fun _ => by kernel_rfl
  by_cases hq : q1 = 2
  · have t1 : (q1 != 2) = false := by simp [hq]
    have hr := HE.out
    rw [if_pos hq] at hr
    subst hr
    clear HE hq
    go_enter Try.func70, Try.ntmps70
    go_wp2_with fail
    refine HM.out.mono ?_
    rintro e w' ⟨rfl, rfl⟩
    go_wp2_with fail
    refine HO.out.mono ?_
    rintro e w1 ⟨rfl, hb⟩
    go_wp2_with fail
    go_ret
    exact ⟨rfl, hb⟩
  · have t1 : (q1 != 2) = true := by simp [hq]
    have hr := HE.out
    rw [if_neg hq] at hr
    subst hr
    clear HE hq
    go_enter Try.func70, Try.ntmps70
    go_wp2_with fail
    refine HM.out.mono ?_
    rintro e w' ⟨rfl, rfl⟩
    go_wp2_with fail
    refine HO.out.mono ?_
    rintro e w1 ⟨rfl, hb⟩
    go_wp2_with fail
    go_ret
    exact ⟨rfl, hb⟩

/-- Is a number open? -/
def isO (T : TabS) (n : Int) : Bool := askT T n == 0

set_option maxHeartbeats 400000 in
theorem IsOpen_any (w : World) (base g : Nat) (F : Nat → Prop) (T : TabS) (n : Int) (h : IsT w base g F T) (h1 : -9223372036854775808 ≤ n) (h2 : n ≤ 9223372036854775807) :
    Calls Try.prog 49 #[.pointer (some ⟨g, 0, none⟩), .int .i64 n] w fun e w' => e = .returned (.bool (isO T n)) ∧ Below w.heap.size w w' := by
  have HO := Lib.hid (tasked_any w base g F T n h h1 h2)
  unfold isO
  generalize askT T n = r at *
  clear h
  go_enter Try.func49, Try.ntmps49
  go_wp2_with fail
  refine HO.out.mono ?_
  rintro e w1 ⟨rfl, hb⟩
  go_wp2_with fail
  go_ret
  exact ⟨rfl, hb⟩

/-- Does who noted a place see a number? -/
def shB (n : Int) (q : Int × Int) : Bool := q.1 == 1 || (q.1 == 3 && decide (q.2 ≤ n))

set_option maxHeartbeats 400000 in
theorem shown_any (p : Option Addr) (a1 a2 b1 b2 : Int) (w : World) :
    Calls Try.prog 73 #[.pointer p, .agg #[.int .u8 a1, .int .i64 a2], .agg #[.int .u8 b1, .int .i64 b2]] w fun e w' => e = .returned (.bool (shB a2 (b1, b2))) ∧ Below w.heap.size w w' := by
  have HE : Hid (shB a2 (b1, b2) = (b1 == 1 || (b1 == 3 && decide (b2 ≤ a2)))) := Lib.hid rfl
  generalize shB a2 (b1, b2) = r at *
  have hb : Below w.heap.size w ((w.alloc (.cells #[.int .u8 a1, .int .i64 a2] 119)).alloc (.cells #[.int .u8 b1, .int .i64 b2] 119)) := gr_alloc (gr_alloc (gr_refl w) _) _
  by_cases h1 : b1 = 1
  · have t1 : (b1 == 1) = true := by simp [h1]
    have hr := HE.out
    rw [t1, Bool.true_or] at hr
    subst hr
    clear HE h1
    go_enter Try.func73, Try.ntmps73
    go_wp2_with fail
    go_ret
    exact ⟨rfl, hb⟩
  · have t1 : (b1 == 1) = false := by simp [h1]
    by_cases h3 : b1 = 3
    · have t3 : (b1 == 3) = true := by simp [h3]
      have hr := HE.out
      rw [t1, t3, Bool.false_or, Bool.true_and] at hr
      clear HE h1 h3
      by_cases h2 : b2 ≤ a2
      · have t2 : decide (b2 ≤ a2) = true := by simp [h2]
        rw [t2] at hr
        subst hr
        go_enter Try.func73, Try.ntmps73
        go_wp2_with fail
        go_ret
        exact ⟨rfl, hb⟩
      · have t2 : decide (b2 ≤ a2) = false := by simp; omega
        rw [t2] at hr
        subst hr
        go_enter Try.func73, Try.ntmps73
        go_wp2_with fail
        go_ret
        exact ⟨rfl, hb⟩
    · have t3 : (b1 == 3) = false := by simp [h3]
      have hr := HE.out
      rw [t1, t3, Bool.false_or, Bool.false_and] at hr
      subst hr
      clear HE h1 h3
      go_enter Try.func73, Try.ntmps73
      go_wp2_with fail
      go_ret
      exact ⟨rfl, hb⟩

/-- What a number sees. -/
def visB (T : TabS) (tx wr : Int) : Bool := isO T tx && (wr == tx || shB (ofT T tx).2 (ofT T wr))

set_option maxHeartbeats 1000000 in
theorem Visible_any (w : World) (base g : Nat) (F : Nat → Prop) (T : TabS) (tx wr : Int) (h : IsT w base g F T) (h1 : -9223372036854775808 ≤ tx) (h2 : tx ≤ 9223372036854775807) (h3 : -9223372036854775808 ≤ wr) (h4 : wr ≤ 9223372036854775807) :
    Calls Try.prog 35 #[.pointer (some ⟨g, 0, none⟩), .int .i64 tx, .int .i64 wr] w fun e w' => e = .returned (.bool (visB T tx wr)) ∧ Below w.heap.size w w' := by
  have HI := Lib.hid (IsOpen_any w base g F T tx h h1 h2)
  have HT := Lib.hid (fun W (hW : Below w.heap.size w W) => of_any W base g F T tx (h.below hW) h1 h2)
  have HW := Lib.hid (fun W (hW : Below w.heap.size w W) => of_any W base g F T wr (h.below hW) h3 h4)
  have HE : Hid (visB T tx wr = (isO T tx && (wr == tx || shB (ofT T tx).2 (ofT T wr)))) := Lib.hid rfl
  clear h
  unfold mkV at HT HW
  generalize visB T tx wr = r at *
  generalize isO T tx = io at *
  generalize ofT T tx = qt at *
  generalize ofT T wr = qw at *
  obtain ⟨t1, t2⟩ := qt
  obtain ⟨w1, w2⟩ := qw
  dsimp only at HT HW HE
  cases io with
  | false =>
    have hr := HE.out
    rw [Bool.false_and] at hr
    subst hr
    clear HE
    go_enter Try.func35, Try.ntmps35
    go_wp2_with fail
    refine HI.out.mono ?_
    rintro e w5 ⟨rfl, hb⟩
    go_wp2_with fail
    go_ret
    exact ⟨rfl, hb⟩
  | true =>
    by_cases hwt : wr = tx
    · have q1 : (wr == tx) = true := by simp [hwt]
      have hr := HE.out
      rw [q1, Bool.true_and, Bool.true_or] at hr
      subst hr
      clear HE hwt
      go_enter Try.func35, Try.ntmps35
      go_wp2_with fail
      refine HI.out.mono ?_
      rintro e w5 ⟨rfl, hb⟩
      go_wp2_with fail
      go_ret
      exact ⟨rfl, hb⟩
    · have q1 : (wr == tx) = false := by simp [hwt]
      have hr := HE.out
      rw [q1, Bool.true_and, Bool.false_or] at hr
      subst hr
      clear HE hwt
      go_enter Try.func35, Try.ntmps35
      go_wp2_with fail
      refine HI.out.mono ?_
      rintro e w5 ⟨rfl, hb⟩
      go_wp2_with fail
      refine (HT.out w5 hb).mono ?_
      rintro e w6 ⟨rfl, hb6⟩
      go_wp2_with fail
      refine (HW.out w6 (gr_trans hb hb6)).mono ?_
      rintro e w7 ⟨rfl, hb7⟩
      go_wp2_with fail
      refine (shown_any _ t1 t2 w1 w2 w7).mono ?_
      rintro e w8 ⟨rfl, hb8⟩
      go_wp2_with fail
      go_ret
      exact ⟨rfl, gr_trans (gr_trans (gr_trans hb hb6) hb7) hb8⟩

theorem info_int : (Try.prog.info? 3).map (fun i => (i.zero, i.size, i.bytes)) = some (some (.int .i64 0), 1, 8) := by kernel_rfl
theorem one_ints (l : List Int) : ∀ u ∈ l.map (Value.int .i64), u.oneCell' = true := by
  intro u hu
  obtain ⟨x, _, rfl⟩ := List.mem_map.1 hu
  rfl

set_option maxHeartbeats 400000 in
theorem CloneI_any (A : Option Addr) (n c : Nat) (l : List Int) (w : World) (ha : IR w A n l) (hn : n ≤ 1000000) :
    Calls Try.prog 72 #[.slice A n c] w fun e w' => ∃ v, e = .returned v ∧ w'.ownsRow w.heap.size 3 1 v n (l.map (Value.int .i64)) ∧ Below w.heap.size w w' := by
  obtain ⟨i0, hi0, hz0, hz1, hz2⟩ := info_parts info_int
  have q22 : ∀ (w : World) (a : Option Addr) (n c n' c' : Nat), (binOp .eql 22 (.slice a n c) (.slice none n' c')).run Try.prog w = .ok (.bool a.isNone) w := fun w a n c n' c' => Lib.run_eql_slice_nil w _ _ a n c n' c' Try.underlying22
  have HR := Lib.hid ha
  have HO := Lib.hid (one_ints l)
  rcases A with _ | ad
  · have h0 : n = 0 := by
      rcases Nat.eq_zero_or_pos n with h0 | h0
      · exact h0
      · obtain ⟨_, _, e, _⟩ := Rd.plain ha h0 (by omega)
        cases e
    subst h0
    have hx : l = [] := List.eq_nil_of_length_eq_zero ha.len
    subst hx
    clear ha
    go_enter Try.func72, Try.ntmps72
    go_wp2
    go_ret
    exact ⟨_, rfl, ⟨rfl, .inl ⟨rfl, rfl⟩⟩, Below.refl _ _⟩
  · clear ha
    go_enter Try.func72, Try.ntmps72
    go_wp2_with (at_builtin; refine wpList_append_Rd _ rfl _ _ _ rfl w.heap.size 3 i0 _ 1 8 Try.underlying22 hi0 hz0 hz1 hz2 rfl (.slice (some ⟨w.heap.size, 0, none⟩) 0 0) 0 [] rfl (World.ownsRow_made w #[] 0 (Nat.le_refl _) (Nat.zero_le _) rfl) (some ad) n c _ rfl (Rd.alloc HR.out _) HO.out (by omega) (by simp only [maxLen]; omega) (by simp) ?_; intro v1 w1 hown1 hg1 hnil _)
    go_ret
    exact ⟨v1, rfl, by simpa using hown1, ((Below.refl _ _).alloc (Nat.le_refl _) _).grown hg1 (by simp) (by simp [Value.ownBlock])⟩

set_option maxHeartbeats 400000 in
theorem Open_any (w : World) (base g : Nat) (F : Nat → Prop) (T : TabS) (h : IsT w base g F T) :
    Calls Try.prog 34 #[.pointer (some ⟨g, 0, none⟩)] w fun e w' => ∃ v, e = .returned v ∧ w'.ownsRow w.heap.size 3 1 v T.opn.length (T.opn.map (Value.int .i64)) ∧ Below w.heap.size w w' := by
  obtain ⟨b, ov, dv, hd, hF⟩ := h
  have HM := Lib.hid (tmade_yes g w hd.tb.c0)
  have c5 := hd.tb.c5
  obtain ⟨Ap, cp, rfl, _, _⟩ := own_form hd.op
  have HC := Lib.hid (CloneI_any Ap _ cp T.opn w (own_rd hd.op) (by have := hd.o2; omega))
  clear hd hF
  generalize T.opn.length = np at *
  go_enter Try.func34, Try.ntmps34
  go_wp2_with fail
  refine HM.out.mono ?_
  rintro e w' ⟨rfl, rfl⟩
  go_wp2_with fail
  refine HC.out.mono ?_
  rintro e w1 ⟨v, rfl, ho, hb⟩
  obtain ⟨Av, cv, rfl, _, _⟩ := own_form ho
  go_wp2_with fail
  go_ret
  exact ⟨_, rfl, ho, hb⟩

end Go.Proofs.Ytjopobkcijkpmaa
