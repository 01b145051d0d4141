/-
  Contracts: SameInts; Kill and Dead beside rows of one's own. Plain laws: what a watcher sees.
-/
import Derived.Test.YtjopobkcijkpmaaSnO
namespace Go.Proofs.Ytjopobkcijkpmaa
open Go.RowKit

set_option maxHeartbeats 1000000 in
theorem SameInts_any (A B : Option Addr) (n m c d : Nat) (a b : List Int) (w : World) (ha : IR w A n a) (hb : IR w B m b) (hn : n ≤ 1000000) (hm : m ≤ 1000000) :
    Calls Try.prog 48 #[.slice A n c, .slice B m d] w fun e w' => e = .returned (.bool (a == b)) ∧ Below w.heap.size w w' := by
  have la := ha.len
  have lb := hb.len
  by_cases hnm : n = m
  · subst hnm
    have t0 : ((n : Int) != (n : Int)) = false := by simp
    have HEQ : Hid (∀ k : Nat, k < n → a.getD k 0 ≠ b.getD k 0 → (a == b) = false) := Lib.hid (fun k _ he => by
      rw [beq_eq_false_iff_ne]
      rintro rfl
      exact he rfl)
    have HEND : Hid ((∀ k : Nat, k < n → a.getD k 0 = b.getD k 0) → (a == b) = true) := Lib.hid (fun he => by
      rw [beq_iff_eq]
      refine List.ext_getElem (by omega) (fun i h1 h2 => ?_)
      have := he i (by omega)
      simpa [List.getD, List.getElem?_eq_getElem h1, List.getElem?_eq_getElem h2] using this)
    generalize (a == b) = r at *
    clear la lb
    go_enter Try.func48, Try.ntmps48
    go_wp2_with fail
    go_loopw [5] (fun i wr => ∃ k : Nat, k ≤ n ∧ i = .int .i64 k ∧ Hid (∀ j : Nat, j < k → a.getD j 0 = b.getD j 0) ∧ Below w.heap.size w wr) (fun i _ => n - (intOf i).toNat)
    case atStart => exact ⟨0, by omega, rfl, Lib.hid (fun j hj => by omega), gr_refl w⟩
    case round =>
      obtain ⟨k, hk, rfl, HK, hw⟩ := hrel
      by_cases hlt : k < n
      · have t1 : decide ((k : Int) < (n : Int)) = true := by simp; omega
        have t2 : decide (k < n) = true := by simp; omega
        have i0 : (0 : Int) ≤ (k : Int) := Int.natCast_nonneg _
        have i1 : (k : Int) < (n : Int) := by omega
        obtain ⟨g1, o1, rfl, h1⟩ := ha.at_ hlt
        obtain ⟨g2, o2, rfl, h2⟩ := hb.at_ hlt
        have c1 := keep_of_below hw h1
        have c2 := keep_of_below hw h2
        by_cases he : a.getD k 0 = b.getD k 0
        · have HK' : Hid (∀ j : Nat, j < k + 1 → a.getD j 0 = b.getD j 0) := Lib.hid (fun j hj => by
            rcases Nat.lt_or_ge j k with h | h
            · exact HK.out j h
            · rw [show j = k by omega]; exact he)
          rw [← he] at c2
          clear h1 h2 he
          generalize a.getD k 0 = x at c1 c2
          have t3 : (x != x) = false := by simp
          go_wp2_with fail
          go_quiet (fail)
          go_wp2_with fail
          go_roundw
          case rel => exact ⟨k + 1, by omega, by go_num, HK', gr_drewN hw _⟩
          case measure => simp [intOf]; omega
        · obtain rfl := HEQ.out k hlt he
          clear h1 h2
          have t3 : (a.getD k 0 != b.getD k 0) = true := by simpa using he
          clear he HEQ HEND HK
          generalize a.getD k 0 = x at *
          generalize b.getD k 0 = y at *
          go_wp2_with fail
          go_quiet (fail)
          go_wp2_with fail
          go_ret
          exact ⟨rfl, gr_drewN hw _⟩
      · have t1 : decide ((k : Int) < (n : Int)) = false := by simp; omega
        have t2 : decide (k < n) = false := by simp; omega
        obtain rfl := HEND.out (fun j hj => HK.out j (by omega))
        go_wp2_with fail
        go_ret
        exact ⟨rfl, hw⟩
  · have t0 : ((n : Int) != (m : Int)) = true := by simp; omega
    have hr : (a == b) = false := by
      rw [beq_eq_false_iff_ne]
      rintro rfl
      omega
    rw [hr]
    clear hr
    go_enter Try.func48, Try.ntmps48
    go_wp2_with fail
    go_ret
    exact ⟨rfl, gr_refl w⟩

section
variable {w0 w w' : World} {base g : Nat} {T : TabS} {F Q : Nat → Prop}
theorem Kill_tq (tx : Int) (h : TSQ w0 w g T Q) (h1 : -9223372036854775808 ≤ tx) (h2 : tx ≤ 9223372036854775807) : Calls Try.prog 47 #[.pointer (some ⟨g, 0, none⟩), .int .i64 tx] w fun e w' => e = .returned (.int .i64 (kilE T tx)) ∧ TSQ w0 w' g (kilT T tx) Q ∧ Off (fun k => ¬ Q k) w w' := by
  obtain ⟨k1, F, k2, k3⟩ := h
  refine (Kill_any w _ g F T tx k2 k1.size h1 h2).mono ?_
  rintro e w' ⟨rfl, hp⟩
  exact ⟨rfl, TSQ.post k1 k2 k3 hp⟩
theorem Kill_ts (tx : Int) (h : TSt w0 w g T) (h1 : -9223372036854775808 ≤ tx) (h2 : tx ≤ 9223372036854775807) : Calls Try.prog 47 #[.pointer (some ⟨g, 0, none⟩), .int .i64 tx] w fun e w' => e = .returned (.int .i64 (kilE T tx)) ∧ TSt w0 w' g (kilT T tx) := by
  obtain ⟨k1, F, k2⟩ := h
  refine (Kill_any w _ g F T tx k2 k1.size h1 h2).mono ?_
  rintro e w' ⟨rfl, hp⟩
  exact ⟨rfl, TSt.post k1 k2 hp⟩
theorem Dead_ts (h : TSt w0 w g T) : Calls Try.prog 50 #[.pointer (some ⟨g, 0, none⟩)] w fun e w' => ∃ v, e = .returned v ∧ w'.ownsRow w.heap.size 3 1 v T.dead.length (T.dead.map (Value.int .i64)) ∧ Below w.heap.size w w' := by
  obtain ⟨k1, F, k2⟩ := h
  exact Dead_any w _ g F T k2
end

/-- A watcher wt that began behind no commit: what it sees stays. -/
structure WatT (k : Nat) (f wt : Int) (T : TabS) : Prop where
  f1 : 1 ≤ f
  fi : T.first = f
  wf : f = wt
  me : T.who wt = some (2, 0)
  old : ∀ x, x < f → T.who x = none
  oth : ∀ x q, T.who x = some q → x ≠ wt → q.1 ≠ 1 ∧ (q.1 = 3 → 1 ≤ q.2)
  la : 0 ≤ T.last
  l : T.last ≤ k
  n : T.next ≤ 12 + k
  nw : wt < T.next

theorem WatT.new (p : Nat) (hp : p ≤ 9) : WatT 0 (1 + p) (1 + p) (begT (newT (1 + p) [])) := by
  have hf : begF (newT (1 + (p : Int)) []) = false := by unfold begF newT; simp; omega
  rw [beg_of hf]
  refine ⟨by omega, rfl, rfl, ?_, ?_, ?_, ?_, ?_, ?_, ?_⟩
  · show upd _ _ _ _ = _
    unfold newT
    rw [upd_same]
  · intro x hx
    show upd _ _ _ _ = _
    unfold newT
    rw [upd_ne _ _ (by dsimp only; omega)]
    simp [deadW]
  · intro x q hq hx
    unfold newT at hq
    dsimp only at hq
    rw [upd_ne _ _ hx] at hq
    simp [deadW] at hq
  all_goals simp [newT]
  all_goals omega
theorem WatT.mono {k k' : Nat} {f wt : Int} {T : TabS} (h : WatT k f wt T) (hk : k ≤ k') : WatT k' f wt T := ⟨h.f1, h.fi, h.wf, h.me, h.old, h.oth, h.la, by have := h.l; omega, by have := h.n; omega, h.nw⟩
theorem WatT.beg {k : Nat} {f wt : Int} {T : TabS} (h : WatT k f wt T) : WatT (k + 1) f wt (begT T) := by
  unfold begT
  split
  · exact h.mono (by omega)
  · have hn := h.nw
    have hw := h.wf
    refine ⟨h.f1, h.fi, h.wf, ?_, ?_, ?_, h.la, ?_, ?_, ?_⟩
    · dsimp only
      rw [upd_ne _ _ (by omega)]
      exact h.me
    · intro x hx
      dsimp only
      rw [upd_ne _ _ (by omega)]
      exact h.old x hx
    · intro x q hq hx
      dsimp only at hq
      by_cases e : x = T.next
      · rw [e, upd_same] at hq
        cases hq
        exact ⟨by simp, fun h => by simp at h⟩
      · rw [upd_ne _ _ e] at hq
        exact h.oth x q hq hx
    · have := h.l; dsimp only; omega
    · have := h.n; dsimp only; omega
    · dsimp only; omega
theorem WatT.ended {k : Nat} {f wt : Int} {T : TabS} (h : WatT k f wt T) (tx : Int) (q : Int × Int) (L : Int) (hL : T.last ≤ L) (hL2 : L ≤ k + 1) (hq : q.1 ≠ 1 ∧ (q.1 = 3 → 1 ≤ q.2)) (htx : f ≤ tx) (hne : tx ≠ wt) (l : List Int) : WatT (k + 1) f wt { endT { T with last := L } tx q with dead := l } := by
  have hl := h.la
  unfold endT
  refine ⟨h.f1, h.fi, h.wf, ?_, ?_, ?_, by dsimp only; omega, by dsimp only; omega, by have := h.n; dsimp only; omega, h.nw⟩
  · dsimp only
    rw [upd_ne _ _ (Ne.symm hne)]
    exact h.me
  · intro x hx
    dsimp only
    rw [upd_ne _ _ (by omega)]
    exact h.old x hx
  · intro x q' hq' hx
    dsimp only at hq'
    by_cases e : x = tx
    · rw [e, upd_same] at hq'
      cases hq'
      exact hq
    · rw [upd_ne _ _ e] at hq'
      exact h.oth x q' hq' hx
theorem WatT.com {k : Nat} {f wt : Int} {T : TabS} (h : WatT k f wt T) (tx : Int) (htx : f ≤ tx) (hne : tx ≠ wt) : WatT (k + 1) f wt (comT T tx) := by
  unfold comT
  split
  · exact h.mono (by omega)
  · have := h.l
    have := h.la
    exact h.ended tx (3, T.last + 1) (T.last + 1) (by omega) (by omega) ⟨by simp, fun _ => by dsimp only; omega⟩ htx hne T.dead
theorem WatT.abo {k : Nat} {f wt : Int} {T : TabS} (h : WatT k f wt T) (tx : Int) (htx : f ≤ tx) (hne : tx ≠ wt) : WatT (k + 1) f wt (aboT T tx) := by
  unfold aboT
  split
  · exact h.mono (by omega)
  · have := h.l
    exact h.ended tx _ T.last (by omega) (by omega) ⟨by decide, fun h => absurd h (by decide)⟩ htx hne T.dead
theorem WatT.kil {k : Nat} {f wt : Int} {T : TabS} (h : WatT k f wt T) (tx : Int) (htx : f ≤ tx) (hne : tx ≠ wt) : WatT (k + 1) f wt (kilT T tx) := by
  unfold kilT
  split
  · exact h.mono (by omega)
  · have := h.l
    exact h.ended tx _ T.last (by omega) (by omega) ⟨by decide, fun h => absurd h (by decide)⟩ htx hne _
theorem WatT.open_ {k : Nat} {f wt : Int} {T : TabS} (h : WatT k f wt T) : isO T wt = true := by
  have := h.me
  simp [isO, askT, ofT, this]
theorem WatT.vis {k : Nat} {f wt : Int} {T : TabS} (h : WatT k f wt T) (x : Int) : visB T wt x = (decide (1 ≤ x ∧ x < f) || x == wt) := by
  have h1 := h.f1
  have h2 := h.wf
  have ho : (ofT T wt).2 = 0 := by rw [ofT_of h.me]
  unfold visB
  rw [h.open_, ho, Bool.true_and, Bool.or_comm]
  congr 1
  by_cases e : x < f
  · have hx := h.old x e
    have hfi := h.fi
    unfold ofT
    rw [hx, hfi]
    by_cases e1 : 1 ≤ x
    · simp [shB, e, e1]
    · simp [shB, e1]
  · by_cases e2 : x = wt
    · rw [e2, ofT_of h.me]
      simp [shB]
      omega
    · cases hx : T.who x with
      | none =>
        have hfi := h.fi
        unfold ofT
        rw [hx, hfi]
        simp [shB, e]
      | some q =>
        rw [ofT_of hx]
        obtain ⟨q1, q2⟩ := h.oth x q hx e2
        have hd : decide (1 ≤ x ∧ x < f) = false := by simp; omega
        rw [hd]
        unfold shB
        by_cases q3 : q.1 = 3
        · have := q2 q3
          simp [q3]
          omega
        · simp [q1, q3]

/-- 1, 2, .. below n. -/
def upTo (n : Nat) : List Int := (List.range n).map (fun i : Nat => (i : Int) + 1)
theorem upTo_len (n : Nat) : (upTo n).length = n := by simp [upTo]
theorem upTo_snoc (n : Nat) : upTo (n + 1) = upTo n ++ [(n : Int) + 1] := by simp [upTo, List.range_succ]
/-- What a watcher sees of the numbers below j. -/
def seesB (p j : Nat) : List Int := if j ≤ p + 1 then upTo (j - 1) else upTo p ++ [(p : Int) + 1]
theorem sees_zero (p : Nat) : seesB p 0 = [] := by simp [seesB, upTo]
theorem sees_yes (p j : Nat) (h : (decide (1 ≤ (j : Int) ∧ (j : Int) < 1 + p) || (j : Int) == 1 + p) = true) : seesB p (j + 1) = seesB p j ++ [(j : Int)] := by
  have hj : 1 ≤ j ∧ j ≤ p + 1 := by
    rcases Bool.or_eq_true_iff.1 h with h | h
    · have := of_decide_eq_true h; omega
    · have := beq_iff_eq.1 h; omega
  unfold seesB
  rw [if_pos (by omega : j ≤ p + 1)]
  obtain ⟨i, rfl⟩ : ∃ i, j = i + 1 := ⟨j - 1, by omega⟩
  by_cases e : i + 1 + 1 ≤ p + 1
  · rw [if_pos e]
    simp only [Nat.add_sub_cancel]
    rw [upTo_snoc]
    simp
  · rw [if_neg e]
    obtain rfl : i = p := by omega
    simp
theorem sees_no (p j : Nat) (h : (decide (1 ≤ (j : Int) ∧ (j : Int) < 1 + p) || (j : Int) == 1 + p) = false) : seesB p (j + 1) = seesB p j := by
  have h2 := Bool.or_eq_false_iff.1 h
  have h3 := of_decide_eq_false h2.1
  have h4 := beq_eq_false_iff_ne.1 h2.2
  unfold seesB
  by_cases e : j = 0
  · subst e
    simp [upTo]
  · rw [if_neg (by omega), if_neg (by omega)]
theorem sees_end (p j : Nat) (h : p + 1 < j) : seesB p j = upTo p ++ [(p : Int) + 1] := by
  unfold seesB
  rw [if_neg (by omega)]
theorem sees_len (p j : Nat) : (seesB p j).length ≤ p + 1 := by
  unfold seesB
  split
  · rw [upTo_len]; omega
  · simp [upTo_len]

end Go.Proofs.Ytjopobkcijkpmaa
