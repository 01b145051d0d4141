/-
  A disk in memory. Contracts: disk's whole, asked, Blocks, Pending, Arm, Fail, Durable.
-/
import Derived.Test.YtjopobkcijkpmaaDkA
namespace Go.Proofs.Ytjopobkcijkpmaa
open Go.RowKit

/-- A disk as the document has it: what its blocks hold, the unsynced writes, whether the power is gone, what is armed. -/
structure DiskS where
  blocks : List (List UInt8)
  pending : List (Nat × List UInt8)
  down : Bool
  power : Int
  fault : Int
  wi : Int

/-- A block of noughts. -/
def zer : List UInt8 := List.replicate 4096 (0 : UInt8)
theorem zer_len : zer.length = 4096 := by unfold zer; rw [List.length_replicate]
theorem splice_zer (m : List UInt8) (h : m.length = 4096) : splice zer 0 m = m := by
  unfold splice
  rw [h, List.take_zero, List.drop_eq_nil_of_le (by rw [zer_len]; omega), List.nil_append, List.append_nil]
theorem splice_zer_nil : splice zer 0 [] = zer := by
  unfold splice
  rw [List.take_zero, List.length_nil, List.drop_zero, List.nil_append, List.nil_append]

/-- The value u is a block's bytes l (nil: noughts), kept in a block of memory of which 'ok' holds. -/
def BV (ok : Nat → Prop) (w : World) (u : Value) (l : List UInt8) : Prop :=
  l.length = 4096 ∧ ((u = .slice none 0 0 ∧ l = zer) ∨ ∃ g, u = .slice (some ⟨g, 0, none⟩) 4096 4096 ∧ BB w g l ∧ ok g)

section
variable {ok ok' : Nat → Prop} {w w' : World} {u : Value} {l : List UInt8}
theorem BV.off {S : Nat → Prop} (h : BV ok w u l) (ho : Off S w w') (hS : ∀ k m, S k → BB w k m → False) : BV ok w' u l := by
  obtain ⟨hl, h | ⟨g, e, hB, hg⟩⟩ := h
  · exact ⟨hl, .inl h⟩
  · exact ⟨hl, .inr ⟨g, e, (ho.block g hB.lt (fun hs => hS g l hs hB)).trans hB, hg⟩⟩
theorem BV.below (h : BV ok w u l) (hb : Below w.heap.size w w') : BV ok w' u l := h.off (S := fun _ => False) (Off.of_below hb) (fun _ _ h => h.elim)
theorem BV.mono (h : BV ok w u l) (hk : ∀ k, k < w.heap.size → ok k → ok' k) : BV ok' w u l := by
  obtain ⟨hl, h | ⟨g, e, hB, hg⟩⟩ := h
  · exact ⟨hl, .inl h⟩
  · exact ⟨hl, .inr ⟨g, e, hB, hk g hB.lt hg⟩⟩
theorem BV.one (h : BV ok w u l) : u.oneCell' = true := by
  obtain ⟨hl, ⟨rfl, _⟩ | ⟨g, rfl, _⟩⟩ := h <;> rfl
/-- Such a value read: noughts are told as nothing. -/
theorem BV.read (h : BV ok w u l) : ∃ A n c m, u = .slice A n c ∧ BR w A n m ∧ n ≤ 4096 ∧ splice (zer) 0 m = l := by
  obtain ⟨hl, ⟨rfl, rfl⟩ | ⟨g, rfl, hB, _⟩⟩ := h
  · exact ⟨none, 0, 0, [], rfl, BR.none_ _ _, by omega, splice_zer_nil⟩
  · have hr := hB.readsAll
    rw [hl] at hr
    exact ⟨_, _, _, l, rfl, hr, Nat.le_refl _, splice_zer l hl⟩
end

/-- .. and it is not nil. -/
def BW (ok : Nat → Prop) (w : World) (u : Value) (l : List UInt8) : Prop := l.length = 4096 ∧ ∃ g, u = .slice (some ⟨g, 0, none⟩) 4096 4096 ∧ BB w g l ∧ ok g
section
variable {ok ok' : Nat → Prop} {w w' : World} {u : Value} {l : List UInt8}
theorem BW.bv (h : BW ok w u l) : BV ok w u l := ⟨h.1, .inr h.2⟩
theorem BW.off {S : Nat → Prop} (h : BW ok w u l) (ho : Off S w w') (hS : ∀ k m, S k → BB w k m → False) : BW ok w' u l := by
  obtain ⟨hl, g, e, hB, hg⟩ := h
  exact ⟨hl, g, e, (ho.block g hB.lt (fun hs => hS g l hs hB)).trans hB, hg⟩
theorem BW.below (h : BW ok w u l) (hb : Below w.heap.size w w') : BW ok w' u l := h.off (S := fun _ => False) (Off.of_below hb) (fun _ _ h => h.elim)
theorem BW.mono (h : BW ok w u l) (hk : ∀ k, k < w.heap.size → ok k → ok' k) : BW ok' w u l := by
  obtain ⟨hl, g, e, hB, hg⟩ := h
  exact ⟨hl, g, e, hB, hk g hB.lt hg⟩
end

set_option maxHeartbeats 400000 in
theorem whole_any (A : Option Addr) (n c : Nat) (m : List UInt8) (w : World) (ha : BR w A n m) (hn : n ≤ 4096) :
    Calls Try.prog 63 #[.slice A n c] w fun e w' => e = .returned (.slice (some ⟨w.heap.size, 0, none⟩) 4096 4096) ∧ BB w' w.heap.size (splice (zer) 0 m) ∧ Below w.heap.size w w' := by
  have mk := run_mk_bytes 4096 (by omega) 4096 rfl
  have hB : BB (w.alloc (.cells (zeroB 4096) 5)) w.heap.size zer := BB.zero w 4096
  have hb1 := gr_alloc (gr_refl w) (.cells (zeroB 4096) 5)
  have hcp := run_copy_B (w.alloc (.cells (zeroB 4096) 5)) 3 w.heap.size 0 4096 4096 _ m (some ⟨w.heap.size, 0, none⟩) A n c n hB (ha.below hb1) (Nat.min_eq_left hn) (fun _ => rfl) (by rw [zer_len]; omega)
  rw [List.take_of_length_le (Nat.le_of_eq ha.len)] at hcp
  have hB2 := hB.set_ (splice (zer) 0 m)
  have hb2 : Below w.heap.size w (setB (w.alloc (.cells (zeroB 4096) 5)) w.heap.size (splice (zer) 0 m)) := setB_below hb1 (Nat.le_refl _) _
  generalize splice (zer) 0 m = L at *
  clear hB
  go_enter Try.func63, Try.ntmps63
  go_wp2_with fail
  go_ret
  exact ⟨rfl, hB2, hb2⟩

/-- A row of writes has the cells of pieces: a number and a slice each. -/
def wrs : List (Int × Value) → List Value
  | [] => []
  | p :: ps => .int .i64 p.1 :: p.2 :: wrs ps

theorem wrs_length (ps : List (Int × Value)) : (wrs ps).length = ps.length * 2 := by
  induction ps with
  | nil => rfl
  | cons p ps ih => simp only [wrs, List.length_cons, ih]; omega
theorem wrs_append (ps qs : List (Int × Value)) : wrs (ps ++ qs) = wrs ps ++ wrs qs := by
  induction ps with
  | nil => rfl
  | cons p ps ih => simp only [wrs, List.cons_append, ih]
theorem wrs_at : ∀ (ps : List (Int × Value)) (i : Nat) (p : Int × Value), ps[i]? = some p → (wrs ps)[i * 2]? = some (.int .i64 p.1) ∧ (wrs ps)[i * 2 + 1]? = some p.2
  | [], i, p, h => by simp at h
  | q :: ps, 0, p, h => by
    simp at h
    subst h
    exact ⟨rfl, rfl⟩
  | q :: ps, i + 1, p, h => by
    have ih := wrs_at ps i p (by simpa using h)
    have e1 : (i + 1) * 2 = i * 2 + 2 := by omega
    have e2 : (i + 1) * 2 + 1 = i * 2 + 1 + 2 := by omega
    rw [e2, e1]
    simpa [wrs] using ih
theorem one_wrs (ps : List (Int × Value)) (h : ∀ p ∈ ps, p.2.oneCell' = true) : ∀ u ∈ wrs ps, u.oneCell' = true := by
  induction ps with
  | nil => intro u hu; cases hu
  | cons p ps ih =>
    intro u hu
    simp only [wrs, List.mem_cons] at hu
    rcases hu with rfl | rfl | hu
    · rfl
    · exact h p (List.mem_cons_self ..)
    · exact ih (fun q hq => h q (List.mem_cons_of_mem _ hq)) u hu

/-- A disk in memory, with all that it keeps there. -/
structure DK (w : World) (ok : Nat → Prop) (base g dr dc : Nat) (pv : Value) (dvs : List Value) (pvs : List (Int × Value)) (D : DiskS) : Prop where
  db : DB w g (.slice (some ⟨dr, 0, none⟩) D.blocks.length dc) pv D.down D.power D.fault D.wi
  dur : w.ownsRow base 33 1 (.slice (some ⟨dr, 0, none⟩) D.blocks.length dc) D.blocks.length dvs
  pen : w.ownsRow base 110 2 pv D.pending.length (wrs pvs)
  pl : pvs.length = D.pending.length
  dv : ∀ (i : Nat) (u : Value) (l : List UInt8), dvs[i]? = some u → D.blocks[i]? = some l → BV ok w u l
  pw : ∀ (i : Nat) (q : Int × Value) (p : Nat × List UInt8), pvs[i]? = some q → D.pending[i]? = some p → q.1 = (p.1 : Int) ∧ p.1 < D.blocks.length ∧ BW ok w q.2 p.2
  n1 : 1 ≤ D.blocks.length
  n2 : D.blocks.length ≤ 4096
  p1 : -1 ≤ D.power
  p2 : D.power ≤ 9223372036854775807
  f1 : -1 ≤ D.fault
  f2 : D.fault ≤ 9223372036854775807
  gb : base ≤ g

/-- The blocks of memory that a disk turns. -/
def foot (g dr : Nat) (pv : Value) (k : Nat) : Prop := k = g ∨ k = dr ∨ pv.ownBlock = some k

section
variable {w w' : World} {ok ok' : Nat → Prop} {base g dr dc : Nat} {pv : Value} {dvs : List Value} {pvs : List (Int × Value)} {D : DiskS}
theorem DK.dl (h : DK w ok base g dr dc pv dvs pvs D) : dvs.length = D.blocks.length := by have := h.dur.1; simpa using this
/-- What turns only elsewhere, and none of its bytes, leaves the disk as it was. -/
theorem DK.off {S : Nat → Prop} (h : DK w ok base g dr dc pv dvs pvs D) (ho : Off S w w') (hS : ∀ k, foot g dr pv k → ¬ S k) (hB : ∀ k m, S k → BB w k m → False) : DK w' ok base g dr dc pv dvs pvs D :=
  ⟨h.db.off ho (hS g (.inl rfl)), ownsRow_off h.dur ho (fun k e => hS k (by cases e; exact .inr (.inl rfl))), ownsRow_off h.pen ho (fun k e => hS k (.inr (.inr e))), h.pl,
   fun i u l h1 h2 => (h.dv i u l h1 h2).off ho hB, fun i q p h1 h2 => ⟨(h.pw i q p h1 h2).1, (h.pw i q p h1 h2).2.1, (h.pw i q p h1 h2).2.2.off ho hB⟩, h.n1, h.n2, h.p1, h.p2, h.f1, h.f2, h.gb⟩
theorem DK.below (h : DK w ok base g dr dc pv dvs pvs D) (hb : Below w.heap.size w w') : DK w' ok base g dr dc pv dvs pvs D := h.off (S := fun _ => False) (Off.of_below hb) (fun _ _ h => h) (fun _ _ h => h.elim)
theorem DK.mono (h : DK w ok base g dr dc pv dvs pvs D) (hk : ∀ k, k < w.heap.size → ok k → ok' k) : DK w ok' base g dr dc pv dvs pvs D :=
  ⟨h.db, h.dur, h.pen, h.pl, fun i u l h1 h2 => (h.dv i u l h1 h2).mono hk, fun i q p h1 h2 => ⟨(h.pw i q p h1 h2).1, (h.pw i q p h1 h2).2.1, (h.pw i q p h1 h2).2.2.mono hk⟩, h.n1, h.n2, h.p1, h.p2, h.f1, h.f2, h.gb⟩
/-- None of the blocks that it turns is one of bytes. -/
theorem DK.foot_bytes (h : DK w ok base g dr dc pv dvs pvs D) : ∀ k m, foot g dr pv k → BB w k m → False := by
  intro k m hk hB
  rcases hk with rfl | rfl | hk
  · exact hB.ne h.db (by decide) rfl
  · rcases h.dur.2 with ⟨e, _⟩ | ⟨q, cap, cur, e, _, hq, _⟩
    · cases e
    · cases e; exact hB.ne hq (by decide) rfl
  · rcases h.pen.2 with ⟨rfl, _⟩ | ⟨q, cap, cur, rfl, _, hq, _⟩
    · simp [Value.ownBlock] at hk
    · simp [Value.ownBlock] at hk; subst hk; exact hB.ne hq (by decide) rfl
theorem DK.foot_lt (h : DK w ok base g dr dc pv dvs pvs D) : ∀ k, foot g dr pv k → base ≤ k ∧ k < w.heap.size := by
  intro k hk
  rcases hk with rfl | rfl | hk
  · exact ⟨h.gb, h.db.lt⟩
  · exact h.dur.lt k rfl
  · exact h.pen.lt k hk
theorem DK.ne_gd (h : DK w ok base g dr dc pv dvs pvs D) : g ≠ dr := by
  rintro rfl
  rcases h.dur.2 with ⟨e, _⟩ | ⟨q, cap, cur, e, _, hq, _⟩
  · cases e
  · cases e; exact cells_ne hq h.db (by decide)
theorem DK.ne_gp (h : DK w ok base g dr dc pv dvs pvs D) : pv.ownBlock ≠ some g := by
  intro e
  rcases h.pen.2 with ⟨rfl, _⟩ | ⟨q, cap, cur, rfl, _, hq, _⟩
  · simp [Value.ownBlock] at e
  · simp [Value.ownBlock] at e; subst e; exact cells_ne hq h.db (by decide)
theorem DK.ne_dp (h : DK w ok base g dr dc pv dvs pvs D) : pv.ownBlock ≠ some dr := by
  intro e
  rcases h.pen.2 with ⟨rfl, _⟩ | ⟨q, cap, cur, rfl, _, hq, _⟩
  · simp [Value.ownBlock] at e
  · simp [Value.ownBlock] at e
    subst e
    rcases h.dur.2 with ⟨e, _⟩ | ⟨q', cap', cur', e, _, hq', _⟩
    · cases e
    · cases e; exact cells_ne hq hq' (by decide)
end

end Go.Proofs.Ytjopobkcijkpmaa
