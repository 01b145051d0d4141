/-
  Two disks beside the document's two.
-/
import Derived.Test.YtjopobkcijkpmaaDpO
import Derived.Test.YtjopobkcijkpmaaDpP
namespace Go.Proofs.Ytjopobkcijkpmaa
open Go Go.RowKit

/-- Two disks, each beside the document's; the blocks of X are none of theirs. -/
def Duo (w : World) (base : Nat) (X : Nat → Prop) (g0 g1 : Nat) (v0 v1 : Value) (D0 D1 : DiskS) : Prop :=
  ∃ (ok0 ok1 F0 F1 G0 G1 : Nat → Prop), IsD w ok0 base g0 F0 D0 ∧ IsD w ok1 base g1 F1 D1 ∧ RK G0 w v0 D0 ∧ RK G1 w v1 D1 ∧ (∀ k, G0 k → k < w.heap.size) ∧ (∀ k, G1 k → k < w.heap.size) ∧ (∀ k, F0 k → ¬ F1 k) ∧ (∀ k, F0 k → ¬ G0 k ∧ ¬ G1 k) ∧ (∀ k, F1 k → ¬ G0 k ∧ ¬ G1 k) ∧ ∀ k, X k → ¬ F0 k ∧ ¬ F1 k ∧ ¬ G0 k ∧ ¬ G1 k ∧ k < w.heap.size
section
variable {w w' : World} {base g0 g1 : Nat} {X : Nat → Prop} {v0 v1 : Value} {D0 D1 : DiskS}
theorem Duo.swap (h : Duo w base X g0 g1 v0 v1 D0 D1) : Duo w base X g1 g0 v1 v0 D1 D0 := by
  obtain ⟨ok0, ok1, F0, F1, G0, G1, h0, h1, r0, r1, l0, l1, ff, f0, f1, hx⟩ := h
  exact ⟨ok1, ok0, F1, F0, G1, G0, h1, h0, r1, r0, l1, l0, fun k hk hk' => ff k hk' hk, fun k hk => ⟨(f1 k hk).2, (f1 k hk).1⟩, fun k hk => ⟨(f0 k hk).2, (f0 k hk).1⟩, fun k hk => ⟨(hx k hk).2.1, (hx k hk).1, (hx k hk).2.2.2.1, (hx k hk).2.2.1, (hx k hk).2.2.2.2⟩⟩
theorem Duo.below (h : Duo w base X g0 g1 v0 v1 D0 D1) (hb : Below w.heap.size w w') : Duo w' base X g0 g1 v0 v1 D0 D1 := by
  obtain ⟨ok0, ok1, F0, F1, G0, G1, h0, h1, r0, r1, l0, l1, ff, f0, f1, hx⟩ := h
  have hs := hb.size
  exact ⟨ok0, ok1, F0, F1, G0, G1, h0.below hb, h1.below hb, r0.below hb, r1.below hb, fun k hk => Nat.lt_of_lt_of_le (l0 k hk) hs, fun k hk => Nat.lt_of_lt_of_le (l1 k hk) hs, ff, f0, f1, fun k hk => ⟨(hx k hk).1, (hx k hk).2.1, (hx k hk).2.2.1, (hx k hk).2.2.2.1, Nat.lt_of_lt_of_le (hx k hk).2.2.2.2 hs⟩⟩
/-- Only blocks of X turn. -/
theorem Duo.box (h : Duo w base X g0 g1 v0 v1 D0 D1) (ho : Off X w w') (hB : ∀ k m, X k → BB w k m → False) : Duo w' base X g0 g1 v0 v1 D0 D1 := by
  obtain ⟨ok0, ok1, F0, F1, G0, G1, h0, h1, r0, r1, l0, l1, ff, f0, f1, hx⟩ := h
  have hs := ho.size
  exact ⟨ok0, ok1, F0, F1, G0, G1, h0.off ho (fun k hk hX => (hx k hX).1 hk) hB, h1.off ho (fun k hk hX => (hx k hX).2.1 hk) hB, r0.off ho (fun k hX => (hx k hX).2.2.1), r1.off ho (fun k hX => (hx k hX).2.2.2.1), fun k hk => Nat.lt_of_lt_of_le (l0 k hk) hs, fun k hk => Nat.lt_of_lt_of_le (l1 k hk) hs, ff, f0, f1, fun k hk => ⟨(hx k hk).1, (hx k hk).2.1, (hx k hk).2.2.1, (hx k hk).2.2.2.1, Nat.lt_of_lt_of_le (hx k hk).2.2.2.2 hs⟩⟩
/-- Further blocks are none of theirs. -/
theorem Duo.bar {Y : Nat → Prop} (h : Duo w base X g0 g1 v0 v1 D0 D1) (hb : Below w.heap.size w w') (hY : ∀ k, Y k → X k ∨ (w.heap.size ≤ k ∧ k < w'.heap.size)) : Duo w' base Y g0 g1 v0 v1 D0 D1 := by
  obtain ⟨ok0, ok1, F0, F1, G0, G1, h0, h1, r0, r1, l0, l1, ff, f0, f1, hx⟩ := h
  have hs := hb.size
  refine ⟨ok0, ok1, F0, F1, G0, G1, h0.below hb, h1.below hb, r0.below hb, r1.below hb, fun k hk => Nat.lt_of_lt_of_le (l0 k hk) hs, fun k hk => Nat.lt_of_lt_of_le (l1 k hk) hs, ff, f0, f1, fun k hk => ?_⟩
  rcases hY k hk with hk | ⟨ha, hb'⟩
  · exact ⟨(hx k hk).1, (hx k hk).2.1, (hx k hk).2.2.1, (hx k hk).2.2.2.1, Nat.lt_of_lt_of_le (hx k hk).2.2.2.2 hs⟩
  · exact ⟨fun hf => by have := (h0.foot_lt k hf).2; omega, fun hf => by have := (h1.foot_lt k hf).2; omega, fun hf => by have := l0 k hf; omega, fun hf => by have := l1 k hf; omega, hb'⟩
/-- The first disk, and what a call on it leaves. -/
theorem Duo.does (h : Duo w base X g0 g1 v0 v1 D0 D1) : ∃ F G, Pr w base g0 F G v0 D0 ∧ (∀ k, F k → base ≤ k ∧ ¬ X k) ∧
    ∀ (e : Ending) w', DoesP w base g0 F G D0 e w' → ∃ v' D', e = .returned (.tuple #[v', .bool true]) ∧ Duo w' base X g0 g1 v' v1 D' D1 ∧ Off F w w' ∧ D'.blocks.length = D0.blocks.length ∧ D'.pending.length ≤ D0.pending.length + 1 := by
  obtain ⟨ok0, ok1, F0, F1, G0, G1, h0, h1, r0, r1, l0, l1, ff, f0, f1, hx⟩ := h
  refine ⟨F0, G0, ⟨⟨ok0, h0⟩, r0, l0, fun k hk => (f0 k hk).1⟩, fun k hk => ⟨(h0.foot_lt k hk).1, fun hX => (hx k hX).1 hk⟩, ?_⟩
  rintro e w' ⟨v', D', F', G', rfl, hp, ho, hF, hG, hn, hl⟩
  have hs := ho.size
  obtain ⟨ok', hd'⟩ := hp.isd
  have h1l : ∀ k, F1 k → k < w.heap.size := fun k hk => (h1.foot_lt k hk).2
  refine ⟨v', D', rfl, ⟨ok', ok1, F', F1, G', G1, hd', h1.side h0 ho ff, hp.rk, r1.off ho (fun k hk => (f0 k hk).2), hp.gl, fun k hk => Nat.lt_of_lt_of_le (l1 k hk) hs, fun k hk hk1 => ?_, fun k hk => ⟨hp.fg k hk, fun hg => ?_⟩, fun k hk => ⟨fun hg => ?_, (f1 k hk).2⟩, fun k hk => ⟨fun hf => ?_, (hx k hk).2.1, fun hg => ?_, (hx k hk).2.2.2.1, Nat.lt_of_lt_of_le (hx k hk).2.2.2.2 hs⟩⟩, ho, hn, hl⟩
  · rcases hF k hk with h2 | h2
    · exact ff k h2 hk1
    · have := h1l k hk1; omega
  · rcases hF k hk with h2 | h2
    · exact (f0 k h2).2 hg
    · have := l1 k hg; omega
  · rcases hG k hg with h2 | h2
    · exact (f1 k hk).1 h2
    · have := h1l k hk; omega
  · rcases hF k hf with h2 | h2
    · exact (hx k hk).1 h2
    · have := (hx k hk).2.2.2.2; omega
  · rcases hG k hg with h2 | h2
    · exact (hx k hk).2.2.1 h2
    · have := (hx k hk).2.2.2.2; omega
/-- A copy of the first becomes the second. -/
theorem Duo.copy (h : Duo w base X g0 g1 v0 v1 D0 D1) (hpl : D0.pending.length ≤ 1000000) (hbase : base ≤ w.heap.size) :
    Calls Try.prog 40 #[.pointer (some ⟨g0, 0, none⟩)] w fun e w' => ∃ g', e = .returned (.pointer (some ⟨g', 0, none⟩)) ∧ Duo w' base X g0 g' v0 v0 D0 D0 ∧ Below w.heap.size w w' := by
  obtain ⟨ok0, ok1, F0, F1, G0, G1, h0, h1, r0, r1, l0, l1, ff, f0, f1, hx⟩ := h
  refine (Copy_any w ok0 base g0 F0 D0 h0 hpl).mono ?_
  rintro e w' ⟨g', F', rfl, hd, hb⟩
  have hs := hb.size
  have hF' : ∀ k, F' k → w.heap.size ≤ k := fun k hk => (hd.foot_lt k hk).1
  exact ⟨g', rfl, ⟨ok0, ok0, F0, F', G0, G0, h0.below hb, hd.lower hbase, r0.below hb, r0.below hb, fun k hk => Nat.lt_of_lt_of_le (l0 k hk) hs, fun k hk => Nat.lt_of_lt_of_le (l0 k hk) hs, fun k hk hk' => by have := (h0.foot_lt k hk).2; have := hF' k hk'; omega, fun k hk => ⟨(f0 k hk).1, (f0 k hk).1⟩, fun k hk => ⟨fun hg => by have := l0 k hg; have := hF' k hk; omega, fun hg => by have := l0 k hg; have := hF' k hk; omega⟩, fun k hk => ⟨(hx k hk).1, fun hf => by have := (hx k hk).2.2.2.2; have := hF' k hf; omega, (hx k hk).2.2.1, (hx k hk).2.2.1, Nat.lt_of_lt_of_le (hx k hk).2.2.2.2 hs⟩⟩, hb⟩
theorem Duo.pending (h : Duo w base X g0 g1 v0 v1 D0 D1) : Calls Try.prog 22 #[.pointer (some ⟨g0, 0, none⟩)] w fun e w' => e = .returned (.int .i64 (D0.pending.length : Int)) ∧ w = w' := by
  obtain ⟨ok0, ok1, F0, F1, G0, G1, h0, _⟩ := h
  exact Pending_any w ok0 base g0 F0 D0 h0
theorem Duo.blocks (h : Duo w base X g0 g1 v0 v1 D0 D1) : Calls Try.prog 41 #[.pointer (some ⟨g0, 0, none⟩)] w fun e w' => e = .returned (.int .i64 (D0.blocks.length : Int)) ∧ w = w' := by
  obtain ⟨ok0, ok1, F0, F1, G0, G1, h0, _⟩ := h
  exact Blocks_any w ok0 base g0 F0 D0 h0
theorem Duo.durable (h : Duo w base X g0 g1 v0 v1 D0 D1) (b : Int) : Calls Try.prog 25 #[.pointer (some ⟨g0, 0, none⟩), .int .i64 b] w fun e w' => ∃ v, e = .returned (.tuple #[v, .int .i64 (askE D0 b)]) ∧ OB w' w.heap.size v (durL D0 b) ∧ Below w.heap.size w w' := by
  obtain ⟨ok0, ok1, F0, F1, G0, G1, h0, _⟩ := h
  exact Durable_any w ok0 base g0 F0 D0 b h0
/-- The document's block. -/
theorem Duo.block {bA wA : Option Addr} {bc wc : Nat} (h : Duo w base X g0 g1 (.agg #[.slice bA D0.blocks.length bc, .slice wA D0.pending.length wc, .bool D0.down, .int .i64 D0.power, .int .i64 D0.fault, .int .i64 D0.wi]) v1 D0 D1) {i : Nat} (hi : i < D0.blocks.length) :
    ∃ g o A c, bA = some ⟨g, o, none⟩ ∧ w.cell? ⟨g, o + i, none⟩ = some (.slice A 4096 c) ∧ BR w A 4096 (D0.blocks.getD i []) ∧ (D0.blocks.getD i []).length = 4096 := by
  obtain ⟨ok0, ok1, F0, F1, G0, G1, _, _, r0, _⟩ := h
  obtain ⟨bA', bc', wA', wc', bus, wus, e, h1, h2, h3, h4, hd⟩ := r0
  injection e with e
  injection e with e
  injection e with e5 e6
  injection e5 with e7 e8 e9
  subst e7
  obtain ⟨g, o, u, rfl, hc, hv⟩ := hd.bat hi
  obtain ⟨hl, A, c, rfl, hr, _⟩ := hv
  exact ⟨g, o, A, c, rfl, hc, hr, hl⟩
/-- The document's disk, as a value. -/
theorem Duo.form (h : Duo w base X g0 g1 v0 v1 D0 D1) : ∃ bA bc wA wc, v0 = .agg #[.slice bA D0.blocks.length bc, .slice wA D0.pending.length wc, .bool D0.down, .int .i64 D0.power, .int .i64 D0.fault, .int .i64 D0.wi] := by
  obtain ⟨ok0, ok1, F0, F1, G0, G1, _, _, r0, _⟩ := h
  obtain ⟨bA', bc', wA', wc', bus, wus, e, _⟩ := r0
  exact ⟨bA', bc', wA', wc', e⟩
end
theorem Duo.start {w w1 w2 w3 w4 : World} {ok0 ok1 F0 F1 : Nat → Prop} {g0 g1 : Nat} {v : Value} {D : DiskS} (h0 : IsD w1 ok0 w.heap.size g0 F0 D) (hb1 : Below w.heap.size w w1) (hb2 : Below w1.heap.size w1 w2) (hr : RK (plusG (fun _ => False) w1 w2) w2 v D) (hb3 : Below w2.heap.size w2 w3) (h1 : IsD w4 ok1 w3.heap.size g1 F1 D) (hb4 : Below w3.heap.size w3 w4) : Duo w4 w.heap.size (fun _ => False) g0 g1 v v D D := by
  have s1 := hb1.size
  have s2 := hb2.size
  have s3 := hb3.size
  have s4 := hb4.size
  have f0 : ∀ k, F0 k → k < w1.heap.size := fun k hk => (h0.foot_lt k hk).2
  have f1 : ∀ k, F1 k → w3.heap.size ≤ k := fun k hk => (h1.foot_lt k hk).1
  have gg : ∀ k, plusG (fun _ => False) w1 w2 k → w1.heap.size ≤ k ∧ k < w2.heap.size := fun k hk => hk.resolve_left id
  have r4 := (hr.below hb3).below hb4
  exact ⟨ok0, ok1, F0, F1, _, _, ((h0.below hb2).below hb3).below hb4, h1.lower (by omega), r4, r4, fun k hk => by have := gg k hk; omega, fun k hk => by have := gg k hk; omega, fun k hk hk' => by have := f0 k hk; have := f1 k hk'; omega, fun k hk => ⟨fun hg => by have := gg k hg; have := f0 k hk; omega, fun hg => by have := gg k hg; have := f0 k hk; omega⟩, fun k hk => ⟨fun hg => by have := gg k hg; have := f1 k hk; omega, fun hg => by have := gg k hg; have := f1 k hk; omega⟩, fun k hk => hk.elim⟩
/-- The disks' box, the documents' box. -/
def DB2 (w : World) (k : Nat) (a b : Value) : Prop := w.heap[k]? = some (.cells #[a, b] 69 (0, 0))
def L12 (w : World) (k : Nat) (a0 a1 a2 a3 a4 a5 b0 b1 b2 b3 b4 b5 : Value) : Prop := w.heap[k]? = some (.cells #[a0, a1, a2, a3, a4, a5, b0, b1, b2, b3, b4, b5] 70 (0, 0))
section
variable {w w' : World} {k : Nat} {a b : Value}
theorem DB2.off {S : Nat → Prop} (h : DB2 w k a b) (ho : Off S w w') (hS : ¬ S k) : DB2 w' k a b := (ho.block k (Array.getElem?_eq_some_iff.1 h).1 hS).trans h
theorem DB2.below (h : DB2 w k a b) (hb : Below w.heap.size w w') : DB2 w' k a b := (hb.block k (Array.getElem?_eq_some_iff.1 h).1).trans h
theorem DB2.c0 (h : DB2 w k a b) : w.cell? ⟨k, 0, none⟩ = some a := by rw [cell_of_row w k 0 _ _ _ h]; rfl
theorem DB2.c1 (h : DB2 w k a b) : w.cell? ⟨k, 1, none⟩ = some b := by rw [cell_of_row w k 1 _ _ _ h]; rfl
theorem DB2.fz (h : DB2 w k a b) (j : Nat) : w.frozen? ⟨k, j, none⟩ = false := by unfold DB2 at h; simp [World.frozen?, h]
theorem DB2.s0 (h : DB2 w k a b) (u : Value) : DB2 (w.setCell ⟨k, 0, none⟩ u) k u b := by
  unfold DB2 at h ⊢
  simp only [World.setCell, Array.getElem?_modify, if_pos, h]
  rfl
theorem DB2.s1 (h : DB2 w k a b) (u : Value) : DB2 (w.setCell ⟨k, 1, none⟩ u) k a u := by
  unfold DB2 at h ⊢
  simp only [World.setCell, Array.getElem?_modify, if_pos, h]
  rfl
variable {a0 a1 a2 a3 a4 a5 b0 b1 b2 b3 b4 b5 : Value}
theorem L12.off {S : Nat → Prop} (h : L12 w k a0 a1 a2 a3 a4 a5 b0 b1 b2 b3 b4 b5) (ho : Off S w w') (hS : ¬ S k) : L12 w' k a0 a1 a2 a3 a4 a5 b0 b1 b2 b3 b4 b5 := (ho.block k (Array.getElem?_eq_some_iff.1 h).1 hS).trans h
theorem L12.below (h : L12 w k a0 a1 a2 a3 a4 a5 b0 b1 b2 b3 b4 b5) (hb : Below w.heap.size w w') : L12 w' k a0 a1 a2 a3 a4 a5 b0 b1 b2 b3 b4 b5 := (hb.block k (Array.getElem?_eq_some_iff.1 h).1).trans h
theorem L12.fz (h : L12 w k a0 a1 a2 a3 a4 a5 b0 b1 b2 b3 b4 b5) (j : Nat) : w.frozen? ⟨k, j, none⟩ = false := by unfold L12 at h; simp [World.frozen?, h]
theorem L12.c0 (h : L12 w k a0 a1 a2 a3 a4 a5 b0 b1 b2 b3 b4 b5) : w.cell? ⟨k, 0, none⟩ = some a0 := by rw [cell_of_row w k 0 _ _ _ h]; rfl
theorem L12.c1 (h : L12 w k a0 a1 a2 a3 a4 a5 b0 b1 b2 b3 b4 b5) : w.cell? ⟨k, 1, none⟩ = some a1 := by rw [cell_of_row w k 1 _ _ _ h]; rfl
theorem L12.c2 (h : L12 w k a0 a1 a2 a3 a4 a5 b0 b1 b2 b3 b4 b5) : w.cell? ⟨k, 2, none⟩ = some a2 := by rw [cell_of_row w k 2 _ _ _ h]; rfl
theorem L12.c3 (h : L12 w k a0 a1 a2 a3 a4 a5 b0 b1 b2 b3 b4 b5) : w.cell? ⟨k, 3, none⟩ = some a3 := by rw [cell_of_row w k 3 _ _ _ h]; rfl
theorem L12.c4 (h : L12 w k a0 a1 a2 a3 a4 a5 b0 b1 b2 b3 b4 b5) : w.cell? ⟨k, 4, none⟩ = some a4 := by rw [cell_of_row w k 4 _ _ _ h]; rfl
theorem L12.c5 (h : L12 w k a0 a1 a2 a3 a4 a5 b0 b1 b2 b3 b4 b5) : w.cell? ⟨k, 5, none⟩ = some a5 := by rw [cell_of_row w k 5 _ _ _ h]; rfl
theorem L12.c6 (h : L12 w k a0 a1 a2 a3 a4 a5 b0 b1 b2 b3 b4 b5) : w.cell? ⟨k, 6, none⟩ = some b0 := by rw [cell_of_row w k 6 _ _ _ h]; rfl
theorem L12.c7 (h : L12 w k a0 a1 a2 a3 a4 a5 b0 b1 b2 b3 b4 b5) : w.cell? ⟨k, 7, none⟩ = some b1 := by rw [cell_of_row w k 7 _ _ _ h]; rfl
theorem L12.c8 (h : L12 w k a0 a1 a2 a3 a4 a5 b0 b1 b2 b3 b4 b5) : w.cell? ⟨k, 8, none⟩ = some b2 := by rw [cell_of_row w k 8 _ _ _ h]; rfl
theorem L12.c9 (h : L12 w k a0 a1 a2 a3 a4 a5 b0 b1 b2 b3 b4 b5) : w.cell? ⟨k, 9, none⟩ = some b3 := by rw [cell_of_row w k 9 _ _ _ h]; rfl
theorem L12.c10 (h : L12 w k a0 a1 a2 a3 a4 a5 b0 b1 b2 b3 b4 b5) : w.cell? ⟨k, 10, none⟩ = some b4 := by rw [cell_of_row w k 10 _ _ _ h]; rfl
theorem L12.c11 (h : L12 w k a0 a1 a2 a3 a4 a5 b0 b1 b2 b3 b4 b5) : w.cell? ⟨k, 11, none⟩ = some b5 := by rw [cell_of_row w k 11 _ _ _ h]; rfl
theorem L12.set0 (h : L12 w k a0 a1 a2 a3 a4 a5 b0 b1 b2 b3 b4 b5) (u0 u1 u2 u3 u4 u5 : Value) : ∀ w2, w2 = (((((w.setCell ⟨k, 0, none⟩ u0).setCell ⟨k, 1, none⟩ u1).setCell ⟨k, 2, none⟩ u2).setCell ⟨k, 3, none⟩ u3).setCell ⟨k, 4, none⟩ u4).setCell ⟨k, 5, none⟩ u5 → L12 w2 k u0 u1 u2 u3 u4 u5 b0 b1 b2 b3 b4 b5 ∧ Off (· = k) w w2 := by
  rintro w2 rfl
  refine ⟨?_, ((((((Off.refl (· = k) w).setCell _ rfl).setCell _ rfl).setCell _ rfl).setCell _ rfl).setCell _ rfl).setCell _ rfl⟩
  unfold L12 at h ⊢
  simp only [World.setCell, Array.getElem?_modify, if_pos, h]
  rfl
theorem L12.set1 (h : L12 w k a0 a1 a2 a3 a4 a5 b0 b1 b2 b3 b4 b5) (u0 u1 u2 u3 u4 u5 : Value) : ∀ w2, w2 = (((((w.setCell ⟨k, 6, none⟩ u0).setCell ⟨k, 7, none⟩ u1).setCell ⟨k, 8, none⟩ u2).setCell ⟨k, 9, none⟩ u3).setCell ⟨k, 10, none⟩ u4).setCell ⟨k, 11, none⟩ u5 → L12 w2 k a0 a1 a2 a3 a4 a5 u0 u1 u2 u3 u4 u5 ∧ Off (· = k) w w2 := by
  rintro w2 rfl
  refine ⟨?_, ((((((Off.refl (· = k) w).setCell _ rfl).setCell _ rfl).setCell _ rfl).setCell _ rfl).setCell _ rfl).setCell _ rfl⟩
  unfold L12 at h ⊢
  simp only [World.setCell, Array.getElem?_modify, if_pos, h]
  rfl
end

/-- The last but one, taken off likewise. -/
theorem wpAny_lastL {P : Program} {Q : Exit → Act → World → Prop} {l : List Oper} {a : Act} {w : World} (hne : l ≠ []) (hb : edgesBack .any l.toArray = true) (hl : lastWaits .any l.toArray = true)
    (h : wpAny P .any l.dropLast.toArray (lastQ P l.toArray Q l.dropLast.length) l.dropLast.length (Array.replicate l.dropLast.length false) a w) : wpAny P .any l.toArray Q l.length (Array.replicate l.length false) a w := by
  have e : l.toArray = l.dropLast.toArray.push (l.getLast hne) := by
    rw [List.push_toArray, List.dropLast_concat_getLast]
  have e2 : l.length = l.dropLast.length + 1 := by
    have := List.length_pos_iff.2 hne
    rw [List.length_dropLast]
    omega
  rw [e] at hb hl h ⊢
  rw [e2, show Array.replicate (l.dropLast.length + 1) false = (Array.replicate l.dropLast.length false).push false from by simp [Array.replicate_succ]]
  have hz : l.dropLast.toArray.size = l.dropLast.length := by simp
  rw [← hz] at h ⊢
  refine wpAny_last hb hl _ _ a w (by simp) (fun j x hx hj => ?_) h
  have hlt := (Array.getElem?_eq_some_iff.1 hx).1
  rw [Array.getD_eq_getD_getElem?, Array.getElem?_eq_getElem (by simpa using hlt)] at hj
  simp at hj

end Go.Proofs.Ytjopobkcijkpmaa
