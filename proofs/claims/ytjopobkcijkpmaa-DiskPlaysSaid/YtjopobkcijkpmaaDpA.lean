/-
  The reference of chapter 03: a disk as a value.
-/
import Derived.Test.YtjopobkcijkpmaaDkN
namespace Go.Proofs.Ytjopobkcijkpmaa
open Go.RowKit

/-- The cells xs, in a block of which G holds. -/
def RdG (G : Nat → Prop) (w : World) (size : Nat) (A : Option Addr) (n : Nat) (xs : List Value) : Prop := Proofs.Ytjopobkcijkpmaa.Rd w size A n xs ∧ ∀ ad, A = some ad → 0 < n → G ad.block
/-- Bytes, likewise. -/
def VG (G : Nat → Prop) (w : World) (u : Value) (l : List UInt8) : Prop := l.length = 4096 ∧ ∃ A c, u = .slice A 4096 c ∧ BR w A 4096 l ∧ (∀ ad, A = some ad → G ad.block) ∧ 4096 ≤ c ∧ c ≤ maxLen
section
variable {G G' : Nat → Prop} {w w' : World}
theorem RdG.off {S : Nat → Prop} {size n : Nat} {A : Option Addr} {xs : List Value} (h : RdG G w size A n xs) (ho : Off S w w') (hS : ∀ k, S k → ¬ G k) : RdG G w' size A n xs :=
  ⟨h.1.off ho (fun ad e h0 hs => hS _ hs (h.2 ad e h0)), h.2⟩
theorem VG.off {S : Nat → Prop} {u : Value} {l : List UInt8} (h : VG G w u l) (ho : Off S w w') (hS : ∀ k, S k → ¬ G k) : VG G w' u l := by
  obtain ⟨h0, A, c, e, h1, h2, h3⟩ := h
  exact ⟨h0, A, c, e, Rd.off h1 ho (fun ad e _ hs => hS _ hs (h2 ad e)), h2, h3⟩
theorem RdG.mono {size n : Nat} {A : Option Addr} {xs : List Value} (h : RdG G w size A n xs) (hG : ∀ k, G k → G' k) : RdG G' w size A n xs := ⟨h.1, fun ad e h0 => hG _ (h.2 ad e h0)⟩
theorem VG.mono {u : Value} {l : List UInt8} (h : VG G w u l) (hG : ∀ k, G k → G' k) : VG G' w u l := by
  obtain ⟨h0, A, c, e, h1, h2, h3⟩ := h
  exact ⟨h0, A, c, e, h1, fun ad e => hG _ (h2 ad e), h3⟩
end

/-- The reference's disk, as a value. -/
structure RKd (G : Nat → Prop) (w : World) (bA : Option Addr) (bus : List Value) (wA : Option Addr) (wus : List (Int × Value)) (D : DiskS) : Prop where
  br : RdG G w 1 bA D.blocks.length bus
  bv : ∀ (i : Nat) (u : Value) (l : List UInt8), bus[i]? = some u → D.blocks[i]? = some l → VG G w u l
  wr : RdG G w 2 wA D.pending.length (wrs wus)
  wv : ∀ (i : Nat) (q : Int × Value) (p : Nat × List UInt8), wus[i]? = some q → D.pending[i]? = some p → q.1 = (p.1 : Int) ∧ p.1 < D.blocks.length ∧ VG G w q.2 p.2
  wl : wus.length = D.pending.length
def RK (G : Nat → Prop) (w : World) (v : Value) (D : DiskS) : Prop :=
  ∃ bA bc wA wc bus wus, v = .agg #[.slice bA D.blocks.length bc, .slice wA D.pending.length wc, .bool D.down, .int .i64 D.power, .int .i64 D.fault, .int .i64 D.wi] ∧ D.blocks.length ≤ bc ∧ bc ≤ maxLen ∧ D.pending.length ≤ wc ∧ wc ≤ maxLen ∧ RKd G w bA bus wA wus D
section
variable {G G' : Nat → Prop} {w w' : World} {bA wA : Option Addr} {bus : List Value} {wus : List (Int × Value)} {v : Value} {D : DiskS}
theorem RKd.off {S : Nat → Prop} (h : RKd G w bA bus wA wus D) (ho : Off S w w') (hS : ∀ k, S k → ¬ G k) : RKd G w' bA bus wA wus D :=
  ⟨h.br.off ho hS, fun i u l h1 h2 => (h.bv i u l h1 h2).off ho hS, h.wr.off ho hS, fun i q p h1 h2 => ⟨(h.wv i q p h1 h2).1, (h.wv i q p h1 h2).2.1, (h.wv i q p h1 h2).2.2.off ho hS⟩, h.wl⟩
theorem RKd.below (h : RKd G w bA bus wA wus D) (hb : Below w.heap.size w w') : RKd G w' bA bus wA wus D := h.off (S := fun _ => False) (Off.of_below hb) (fun _ h => h.elim)
theorem RKd.mono (h : RKd G w bA bus wA wus D) (hG : ∀ k, G k → G' k) : RKd G' w bA bus wA wus D :=
  ⟨h.br.mono hG, fun i u l h1 h2 => (h.bv i u l h1 h2).mono hG, h.wr.mono hG, fun i q p h1 h2 => ⟨(h.wv i q p h1 h2).1, (h.wv i q p h1 h2).2.1, (h.wv i q p h1 h2).2.2.mono hG⟩, h.wl⟩
theorem RK.off {S : Nat → Prop} (h : RK G w v D) (ho : Off S w w') (hS : ∀ k, S k → ¬ G k) : RK G w' v D := by
  obtain ⟨bA, bc, wA, wc, bus, wus, e, h1, h2, h3, h4, hd⟩ := h
  exact ⟨bA, bc, wA, wc, bus, wus, e, h1, h2, h3, h4, hd.off ho hS⟩
theorem RK.below (h : RK G w v D) (hb : Below w.heap.size w w') : RK G w' v D := h.off (S := fun _ => False) (Off.of_below hb) (fun _ h => h.elim)
theorem RK.mono (h : RK G w v D) (hG : ∀ k, G k → G' k) : RK G' w v D := by
  obtain ⟨bA, bc, wA, wc, bus, wus, e, h1, h2, h3, h4, hd⟩ := h
  exact ⟨bA, bc, wA, wc, bus, wus, e, h1, h2, h3, h4, hd.mono hG⟩
/-- A block that is read. -/
theorem RKd.bat (h : RKd G w bA bus wA wus D) {i : Nat} (hi : i < D.blocks.length) : ∃ g o u, bA = some ⟨g, o, none⟩ ∧ w.cell? ⟨g, o + i, none⟩ = some u ∧ VG G w u (D.blocks.getD i []) := by
  obtain ⟨g, o, e, hc⟩ := Proofs.Ytjopobkcijkpmaa.Rd.plain h.br.1 (by omega) (by omega)
  have hl := h.br.1.1
  have hb : bus[i]? = some (bus[i]'(by omega)) := List.getElem?_eq_getElem (by omega)
  exact ⟨g, o, _, e, hc i _ hb, h.bv i _ _ hb (by simp [List.getD, List.getElem?_eq_getElem hi])⟩
theorem RKd.wat (h : RKd G w bA bus wA wus D) {i : Nat} (hi : i < D.pending.length) : ∃ g o u, wA = some ⟨g, o, none⟩ ∧ w.cell? ⟨g, o + i * 2, none⟩ = some (.int .i64 (((D.pending.getD i (0, [])).1 : Nat) : Int)) ∧ w.cell? ⟨g, o + i * 2 + 1, none⟩ = some u ∧ VG G w u (D.pending.getD i (0, [])).2 ∧ (D.pending.getD i (0, [])).1 < D.blocks.length := by
  obtain ⟨g, o, e, hc⟩ := Proofs.Ytjopobkcijkpmaa.Rd.plain h.wr.1 (by omega) (by omega)
  have hl := h.wl
  have hu : wus[i]? = some (wus[i]'(by omega)) := List.getElem?_eq_getElem (by omega)
  have hp : D.pending[i]? = some (D.pending.getD i (0, [])) := by simp [List.getD, List.getElem?_eq_getElem hi]
  obtain ⟨a1, a2, a3⟩ := h.wv i _ _ hu hp
  obtain ⟨c1, c2⟩ := wrs_at wus i _ hu
  have z1 := hc _ _ c1
  have z2 := hc _ _ c2
  rw [a1] at z1
  exact ⟨g, o, _, e, z1, z2, a3, a2⟩
end

/-- Fresh blocks besides. -/
def plusG (G : Nat → Prop) (w w' : World) (k : Nat) : Prop := G k ∨ (w.heap.size ≤ k ∧ k < w'.heap.size)

end Go.Proofs.Ytjopobkcijkpmaa
