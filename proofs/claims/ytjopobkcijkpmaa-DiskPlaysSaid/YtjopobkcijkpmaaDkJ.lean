/-
  Contracts: disk's Read, whatever it answers; the calls upon one disk that was made since a world w0; the chapter's awake.
-/
import Derived.Test.YtjopobkcijkpmaaDkI
namespace Go.Proofs.Ytjopobkcijkpmaa
open Go.RowKit

theorem readE_cases (D : DiskS) (b : Int) : (readE D b = 0 ∧ ∃ k : Nat, b = k ∧ k < D.blocks.length ∧ D.down = false ∧ readL D b = lastL D.blocks D.pending k) ∨ (readE D b ≠ 0 ∧ readL D b = []) := by
  by_cases h : readE D b = 0
  · refine .inl ⟨h, ?_⟩
    have ha : askE D b = 0 := by
      unfold readE at h
      by_cases h0 : askE D b = 0
      · exact h0
      · rw [if_pos h0] at h; exact absurd h h0
    have hd : D.down = false := by
      unfold readE at h
      rw [if_neg (by rw [ha]; simp)] at h
      cases hd : D.down with
      | false => rfl
      | true => rw [hd] at h; simp at h
    obtain ⟨h1, h2⟩ := ask_in ha
    obtain ⟨k, rfl⟩ := Int.eq_ofNat_of_zero_le h1
    refine ⟨k, rfl, by omega, hd, ?_⟩
    unfold readL
    rw [if_neg (by rw [h]; simp)]
    rfl
  · exact .inr ⟨h, by unfold readL; rw [if_pos h]⟩

theorem Read_any (w : World) (ok : Nat → Prop) (base g : Nat) (F : Nat → Prop) (D : DiskS) (b : Int) (h : IsD w ok base g F D) (hpl : D.pending.length ≤ 1000000) :
    Calls Try.prog 24 #[.pointer (some ⟨g, 0, none⟩), .int .i64 b] w fun e w' => ∃ v, e = .returned (.tuple #[v, .int .i64 (readE D b)]) ∧ OB w' w.heap.size v (readL D b) ∧ Below w.heap.size w w' := by
  rcases readE_cases D b with ⟨h0, k, rfl, hk, hd, hL⟩ | ⟨h0, hL⟩
  · rw [h0, hL]
    exact Read_good w ok base g F D k h hk hd hpl
  · rw [hL]
    refine (Read_bad w ok base g F D b h h0).mono ?_
    rintro e w' ⟨rfl, hb⟩
    exact ⟨_, rfl, OB.nil _ _, hb⟩

/-- A type of which a disk turns no block. -/
def Foreign (t : TypeId) : Prop := t ≠ 83 ∧ t ≠ 33 ∧ t ≠ 110
theorem foreign_u8 : Foreign 5 := ⟨by decide, by decide, by decide⟩
theorem foreign_bool : Foreign 4 := ⟨by decide, by decide, by decide⟩

/-- All blocks of a foreign type are as they were. -/
def KB (w w' : World) : Prop := w.heap.size ≤ w'.heap.size ∧ ∀ (k : Nat) (cs : Array Value) (t : TypeId) (fr : Nat × Nat), Foreign t → w.heap[k]? = some (.cells cs t fr) → w'.heap[k]? = some (.cells cs t fr)

section
variable {w w' w'' : World} {base g : Nat} {v : Value} {l : List UInt8}
theorem KB.refl (w : World) : KB w w := ⟨Nat.le_refl _, fun _ _ _ _ _ h => h⟩
theorem KB.trans (h : KB w w') (k : KB w' w'') : KB w w'' := ⟨Nat.le_trans h.1 k.1, fun i cs t fr ht hi => k.2 i cs t fr ht (h.2 i cs t fr ht hi)⟩
theorem KB.of_below (h : Below w.heap.size w w') : KB w w' := ⟨h.size, fun i _ _ _ _ hi => (h.block i (Array.getElem?_eq_some_iff.1 hi).1).trans hi⟩
theorem KB.bb (h : KB w w') (hB : BB w g l) : BB w' g l := h.2 g _ _ _ foreign_u8 hB
theorem KB.row {e : TypeId} {size n : Nat} {xs : List Value} (h : KB w w') (he : Foreign e) (hO : w.ownsRow base e size v n xs) : w'.ownsRow base e size v n xs := by
  refine ⟨hO.1, ?_⟩
  rcases hO.2 with h0 | ⟨q, cap, cur, rfl, hb, hg, r⟩
  · exact .inl h0
  · exact .inr ⟨q, cap, cur, rfl, hb, h.2 q _ _ _ he hg, r⟩
theorem KB.ob (h : KB w w') (hO : OB w base v l) : OB w' base v l := h.row foreign_u8 hO
end

section
variable {w w' : World} {ok ok' : Nat → Prop} {base g : Nat} {F : Nat → Prop} {D : DiskS}
theorem IsD.lower {b : Nat} (h : IsD w ok base g F D) (hb : b ≤ base) : IsD w ok b g F D := by
  obtain ⟨dr, dc, pv, dvs, pvs, hd, hF⟩ := h
  exact ⟨dr, dc, pv, dvs, pvs, ⟨hd.db, own_low hd.dur hb, own_low hd.pen hb, hd.pl, hd.dv, hd.pw, hd.n1, hd.n2, hd.p1, hd.p2, hd.f1, hd.f2, Nat.le_trans hb hd.gb⟩, hF⟩
theorem IsD.foot_for (h : IsD w ok base g F D) : ∀ (k : Nat) (cs : Array Value) (t : TypeId) (fr : Nat × Nat), Foreign t → F k → w.heap[k]? = some (.cells cs t fr) → False := by
  obtain ⟨dr, dc, pv, dvs, pvs, hd, hF⟩ := h
  intro k cs t fr ht hk hB
  rcases (hF k).1 hk with rfl | rfl | hk
  · exact cells_ne hB hd.db ht.1
  · rcases hd.dur.2 with ⟨e, _⟩ | ⟨q, cap, cur, e, _, hq, _⟩
    · cases e
    · cases e; exact cells_ne hB hq ht.2.1
  · rcases hd.pen.2 with ⟨rfl, _⟩ | ⟨q, cap, cur, rfl, _, hq, _⟩
    · simp [Value.ownBlock] at hk
    · simp [Value.ownBlock] at hk; subst hk; exact cells_ne hB hq ht.2.2
theorem IsD.foot_ty (h : IsD w ok base g F D) : ∀ (k : Nat) (cs : Array Value) (fr : Nat × Nat), F k → w.heap[k]? = some (.cells cs 5 fr) → False := fun k cs fr => h.foot_for k cs _ fr foreign_u8
theorem IsD.kb (h : IsD w ok base g F D) (ho : Off F w w') : KB w w' := ⟨ho.size, fun k cs t fr ht hk => (ho.block k (Array.getElem?_eq_some_iff.1 hk).1 (fun hf => h.foot_for k cs t fr ht hf hk)).trans hk⟩
end

/-- One disk, made since w0. -/
def St (w0 w : World) (g : Nat) (D : DiskS) : Prop := Below w0.heap.size w0 w ∧ ∃ F, IsD w (fun k => w0.heap.size ≤ k) w0.heap.size g F D

section
variable {w0 w w' : World} {g : Nat} {D D' : DiskS}
theorem St.below (h : St w0 w g D) (hb : Below w.heap.size w w') : St w0 w' g D := by
  obtain ⟨h1, F, h2⟩ := h
  exact ⟨gr_trans h1 hb, F, h2.below hb⟩
theorem St.post {F : Nat → Prop} (h1 : Below w0.heap.size w0 w) (h2 : IsD w (fun k => w0.heap.size ≤ k) w0.heap.size g F D) (hp : DPost w (fun k => w0.heap.size ≤ k) w0.heap.size g F D' w') : St w0 w' g D' ∧ KB w w' := by
  obtain ⟨ho, F', h3, h4⟩ := hp
  refine ⟨⟨h1.trans (ho.below (fun k hk => (h2.foot_lt k hk).1) h1.size), F', h3.mono (fun k _ hk => ?_)⟩, h2.kb ho⟩
  rcases hk with hk | hk
  · exact hk
  · exact Nat.le_trans h1.size hk

theorem New_st (n : Nat) (w0 w : World) (h1 : 1 ≤ n) (h2 : n ≤ 4096) (hb : Below w0.heap.size w0 w) :
    Calls Try.prog 16 #[.int .i64 n] w fun e w' => ∃ g, e = .returned (.tuple #[.pointer (some ⟨g, 0, none⟩), .int .i64 0]) ∧ St w0 w' g (newD n) ∧ KB w w' := by
  refine (New_any n w h1 h2).mono ?_
  rintro e w' ⟨g, F, rfl, hd, hb'⟩
  exact ⟨g, rfl, ⟨gr_trans hb hb', F, (hd.mono (fun _ _ h => h.elim)).lower hb.size⟩, KB.of_below hb'⟩

theorem Write_st (b : Int) (A : Option Addr) (n c : Nat) (m : List UInt8) (h : St w0 w g D) (hm : OB w w0.heap.size (.slice A n c) m) (hn : m.length = n) (hpl : D.pending.length ≤ 1000000) :
    Calls Try.prog 20 #[.pointer (some ⟨g, 0, none⟩), .int .i64 b, .slice A n c] w fun e w' => e = .returned (.int .i64 (writeE D b n)) ∧ St w0 w' g (writeD D b m) ∧ KB w w' := by
  obtain ⟨h1, F, h2⟩ := h
  obtain ⟨A', c', e', hr, hcn, hcm⟩ := hm.formN hn
  injection e' with e1 e2 e3
  subst e1 e3
  refine (Write_any w _ _ g F D b A n c m h2 hr (fun ad e hf => ?_) (by unfold maxLen at hcm; omega) hpl).mono ?_
  · subst e
    rcases hm.2 with ⟨e, _⟩ | ⟨q, cap, cur, e, _, hg, _⟩
    · cases e
    · injection e with e
      injection e with e
      subst e
      exact h2.foot_ty q _ _ hf hg
  · rintro e w' ⟨rfl, hp⟩
    exact ⟨rfl, St.post h1 h2 hp⟩

theorem Sync_st (h : St w0 w g D) (hpl : D.pending.length ≤ 1000000) :
    Calls Try.prog 17 #[.pointer (some ⟨g, 0, none⟩)] w fun e w' => e = .returned (.int .i64 (opC D)) ∧ St w0 w' g (syncD D) ∧ KB w w' := by
  obtain ⟨h1, F, h2⟩ := h
  refine (Sync_any w _ _ g F D h2 hpl).mono ?_
  rintro e w' ⟨rfl, hp⟩
  exact ⟨rfl, St.post h1 h2 hp⟩

theorem Arm_st (n : Int) (h : St w0 w g D) (hn : n ≤ 9223372036854775807) :
    Calls Try.prog 43 #[.pointer (some ⟨g, 0, none⟩), .int .i64 n] w fun e w' => e = .returned (.int .i64 (armE n)) ∧ St w0 w' g (armD D n) ∧ KB w w' := by
  obtain ⟨h1, F, h2⟩ := h
  refine (Arm_any w _ _ g F D n h2 hn).mono ?_
  rintro e w' ⟨rfl, hp⟩
  exact ⟨rfl, St.post h1 h2 hp⟩

theorem Fail_st (n er : Int) (h : St w0 w g D) (hn : n ≤ 9223372036854775807) :
    Calls Try.prog 44 #[.pointer (some ⟨g, 0, none⟩), .int .i64 n, .int .i64 er] w fun e w' => e = .returned (.int .i64 (failE n er)) ∧ St w0 w' g (failD D n er) ∧ KB w w' := by
  obtain ⟨h1, F, h2⟩ := h
  refine (Fail_any w _ _ g F D n er h2 hn).mono ?_
  rintro e w' ⟨rfl, hp⟩
  exact ⟨rfl, St.post h1 h2 hp⟩

/-- The list of what is kept lies nowhere in the disk. -/
def apartK (w0 w : World) (K : Option Addr) (nk : Nat) : Prop := ∀ ad, K = some ad → 0 < nk → ad.block < w0.heap.size ∨ ∃ cs fr, w.heap[ad.block]? = some (.cells cs 4 fr)

theorem Crash_st (K : Option Addr) (nk ck : Nat) (keep : List Bool) (torn cut : Int) (h : St w0 w g D) (hK : LR w K nk keep) (hA : apartK w0 w K nk) (hnk : nk ≤ 9223372036854775807) (hpl : D.pending.length ≤ 1000000) :
    Calls Try.prog 23 #[.pointer (some ⟨g, 0, none⟩), .agg #[.slice K nk ck, .int .i64 torn, .int .i64 cut]] w fun e w' => e = .returned (.int .i64 (crashE cut)) ∧ St w0 w' g (crashD D keep torn cut) ∧ KB w w' := by
  obtain ⟨h1, F, h2⟩ := h
  refine (Crash_any w _ _ g F D K nk ck keep torn cut h2 hK (fun ad e h0 hf => ?_) hnk hpl).mono ?_
  · rcases hA ad e h0 with h | ⟨cs, fr, h⟩
    · have := (h2.foot_lt _ hf).1
      omega
    · obtain ⟨dr, dc, pv, dvs, pvs, hd, hF⟩ := h2
      rcases (hF _).1 hf with e | e | hk
      · rw [e] at h
        exact cells_ne h hd.db (by decide)
      · rw [e] at h
        rcases hd.dur.2 with ⟨e, _⟩ | ⟨q, cap, cur, e, _, hq, _⟩
        · cases e
        · cases e; exact cells_ne h hq (by decide)
      · rcases hd.pen.2 with ⟨rfl, _⟩ | ⟨q, cap, cur, rfl, _, hq, _⟩
        · simp [Value.ownBlock] at hk
        · simp [Value.ownBlock] at hk
          rw [← hk] at h
          exact cells_ne h hq (by decide)
  · rintro e w' ⟨rfl, hp⟩
    exact ⟨rfl, St.post h1 h2 hp⟩

theorem Read_st (b : Int) (h : St w0 w g D) (hpl : D.pending.length ≤ 1000000) :
    Calls Try.prog 24 #[.pointer (some ⟨g, 0, none⟩), .int .i64 b] w fun e w' => ∃ v, e = .returned (.tuple #[v, .int .i64 (readE D b)]) ∧ OB w' w.heap.size v (readL D b) ∧ St w0 w' g D ∧ Below w.heap.size w w' := by
  have h' := h
  obtain ⟨h1, F, h2⟩ := h
  refine (Read_any w _ _ g F D b h2 hpl).mono ?_
  rintro e w' ⟨v, rfl, ho, hb⟩
  exact ⟨v, rfl, ho, h'.below hb, hb⟩

theorem Durable_st (b : Int) (h : St w0 w g D) :
    Calls Try.prog 25 #[.pointer (some ⟨g, 0, none⟩), .int .i64 b] w fun e w' => ∃ v, e = .returned (.tuple #[v, .int .i64 (askE D b)]) ∧ OB w' w.heap.size v (durL D b) ∧ St w0 w' g D ∧ Below w.heap.size w w' := by
  have h' := h
  obtain ⟨h1, F, h2⟩ := h
  refine (Durable_any w _ _ g F D b h2).mono ?_
  rintro e w' ⟨v, rfl, ho, hb⟩
  exact ⟨v, rfl, ho, h'.below hb, hb⟩

theorem Pending_st (h : St w0 w g D) :
    Calls Try.prog 22 #[.pointer (some ⟨g, 0, none⟩)] w fun e w' => e = .returned (.int .i64 (D.pending.length : Int)) ∧ w = w' := by
  obtain ⟨h1, F, h2⟩ := h
  exact Pending_any w _ _ g F D h2

theorem Blocks_st (h : St w0 w g D) :
    Calls Try.prog 41 #[.pointer (some ⟨g, 0, none⟩)] w fun e w' => e = .returned (.int .i64 (D.blocks.length : Int)) ∧ w = w' := by
  obtain ⟨h1, F, h2⟩ := h
  exact Blocks_any w _ _ g F D h2
end

set_option maxHeartbeats 400000 in
theorem letters_any (c : UInt8) (w : World) :
    Calls Try.prog 42 #[.int .u8 (c.toNat : Int)] w fun e w' => e = .returned (.slice (some ⟨w.heap.size, 0, none⟩) 4096 4096) ∧ BB w' w.heap.size (List.replicate 4096 c) ∧ Below w.heap.size w w' := by
  have mk := run_mk_bytes 4096 (by omega) 4096 rfl
  go_enter Try.func42, Try.ntmps42
  go_wp2_with fail
  go_loopw [4] (fun i wr => ∃ (k : Nat) (l : List UInt8), k ≤ 4096 ∧ i = .int .i64 k ∧ l.length = 4096 ∧ l.take k = List.replicate k c ∧ BB wr w.heap.size l ∧ Below w.heap.size w wr) (fun i _ => 4096 - (intOf i).toNat)
  case atStart => exact ⟨0, List.replicate 4096 0, by omega, rfl, by rw [List.length_replicate], rfl, BB.zero w 4096, gr_alloc (gr_refl w) _⟩
  case round =>
    obtain ⟨k, l, hk, rfl, hl, ht, hB, hb⟩ := hrel
    by_cases hlt : k < 4096
    · have hlt' : decide ((k : Int) < 4096) = true := by simp; omega
      have hc := hB.cell (j := k) (by omega)
      have hz := hB.frozen k
      have hB2 := hB.setCell k c
      have hb2 : Below w.heap.size w (wr.setCell ⟨w.heap.size, k, none⟩ (bv c)) := hb.setCell (Nat.le_refl _) _
      have HL := Lib.hid hl
      have HT := Lib.hid ht
      clear hl ht
      unfold bv at hB2 hb2
      go_wp2_with fail
      go_roundw
      case rel =>
        refine ⟨k + 1, l.set k c, by omega, by go_num, by rw [List.length_set]; exact HL.out, ?_, hB2, hb2⟩
        rw [List.take_succ_eq_append_getElem (by rw [List.length_set, HL.out]; exact hlt), List.take_set, List.set_eq_of_length_le (by rw [List.length_take]; omega), HT.out, List.getElem_set_self, List.replicate_succ']
      case measure => simp [intOf]; omega
    · have hlt' : decide ((k : Int) < 4096) = false := by simp; omega
      obtain rfl : k = 4096 := by omega
      rw [List.take_of_length_le (by omega)] at ht
      subst ht
      clear hl
      go_wp2_with fail
      go_ret
      exact ⟨rfl, hB, hb⟩

end Go.Proofs.Ytjopobkcijkpmaa
