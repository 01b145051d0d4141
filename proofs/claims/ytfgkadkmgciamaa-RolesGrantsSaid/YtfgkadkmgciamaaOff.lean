/-
  Words for memory: what turns in a set of blocks alone.
-/
import Derived.Test.YtfgkadkmgciamaaBase
import Derived.RangeFuncBox
namespace Go.Proofs.Ytfgkadkmgciamaa
open Go.RowKit

/-- Of the blocks that there were only those of S may have turned. -/
structure Off (S : Nat → Prop) (w w' : World) : Prop where
  os : w'.os = w.os
  tape : w'.tape = w.tape
  output : w'.output = w.output
  size : w.heap.size ≤ w'.heap.size
  block : ∀ k, k < w.heap.size → ¬ S k → w'.heap[k]? = w.heap[k]?

section
variable {S T : Nat → Prop} {w w' w'' : World}
theorem Off.refl (S : Nat → Prop) (w : World) : Off S w w := ⟨rfl, rfl, rfl, Nat.le_refl _, fun _ _ _ => rfl⟩
theorem Off.trans (h : Off S w w') (k : Off S w' w'') : Off S w w'' :=
  ⟨k.os.trans h.os, k.tape.trans h.tape, k.output.trans h.output, Nat.le_trans h.size k.size, fun j hj hS => (k.block j (Nat.lt_of_lt_of_le hj h.size) hS).trans (h.block j hj hS)⟩
theorem Off.mono (h : Off S w w') (hS : ∀ k, k < w.heap.size → S k → T k) : Off T w w' := ⟨h.os, h.tape, h.output, h.size, fun k hk hT => h.block k hk (fun hs => hT (hS k hk hs))⟩
theorem Off.of_below (hb : Below w.heap.size w w') : Off S w w' := ⟨hb.os, hb.tape, hb.output, hb.size, fun k hk _ => hb.block k hk⟩
theorem Off.below {B : Nat} (h : Off S w w') (hS : ∀ k, S k → B ≤ k) (hB : B ≤ w.heap.size) : Below B w w' := ⟨h.os, h.tape, h.output, h.size, fun k hk => h.block k (Nat.lt_of_lt_of_le hk hB) (fun hs => by have := hS k hs; omega)⟩
theorem Off.of_grown {row : Option Nat} (hg : w.grownBy w' row) (hS : ∀ k, row = some k → S k) : Off S w w' := ⟨hg.os, hg.tape, hg.output, hg.size, fun k hk hs => hg.block k hk (fun e => hs (hS k e.symm))⟩
theorem Off.setCell (h : Off S w w') {g j : Nat} (v : Value) (hg : S g) : Off S w (w'.setCell ⟨g, j, none⟩ v) :=
  h.trans (Off.of_grown (row := some g) ⟨rfl, rfl, rfl, (KeepsWalks.setCell w' _ v).size, fun k _ hk => Below.heap_setCell _ _ _ k (fun e => hk (by rw [e]))⟩ (fun k e => by cases e; exact hg))
theorem Off.alloc (h : Off S w w') (o : Obj) : Off S w (w'.alloc o) := h.trans (Off.of_below (gr_alloc (gr_refl w') o))
theorem Off.drewN (h : Off S w w') (n : Nat) : Off S w (w'.drewN n) := ⟨h.os, h.tape, h.output, h.size, h.block⟩
theorem Off.drew (h : Off S w w') : Off S w w'.drew := ⟨h.os, h.tape, h.output, h.size, h.block⟩
end

theorem Rd.off {S : Nat → Prop} {w w' : World} {size n : Nat} {A : Option Addr} {xs : List Value} (h : Rd w size A n xs) (ho : Off S w w') (hS : ∀ ad, A = some ad → 0 < n → ¬ S ad.block) : Rd w' size A n xs := by
  refine ⟨h.1, fun h0 => ?_⟩
  obtain ⟨ad, e, hc⟩ := h.2 h0
  refine ⟨ad, e, fun j u hu => ?_⟩
  have h1 := hc j u hu
  have hlt : (ad.add j).block < w.heap.size := World.block_lt_of_cell? w _ h1
  rw [World.cell?_of_block (ho.block _ hlt (by rw [block_of_add]; exact hS ad e h0))]
  exact h1
theorem BR.off {S : Nat → Prop} {w w' : World} {n : Nat} {A : Option Addr} {l : List UInt8} (h : BR w A n l) (ho : Off S w w') (hS : ∀ ad, A = some ad → 0 < n → ¬ S ad.block) : BR w' A n l := Rd.off h ho hS

theorem cells_ne {w : World} {k : Nat} {c c' : Array Value} {t t' : TypeId} {f f' : Nat × Nat} (h : w.heap[k]? = some (.cells c t f)) (h' : w.heap[k]? = some (.cells c' t' f')) (ht : t ≠ t') : False := by
  rw [h] at h'
  injection h' with h1
  injection h1 with _ h2
  exact ht h2

section
variable {w w' : World} {base : Nat}
theorem ownsRow_off {S : Nat → Prop} {e : TypeId} {size n : Nat} {v : Value} {xs : List Value} (h : w.ownsRow base e size v n xs) (ho : Off S w w') (hS : ∀ k, v.ownBlock = some k → ¬ S k) : w'.ownsRow base e size v n xs := by
  refine ⟨h.1, ?_⟩
  rcases h.2 with h0 | ⟨q, cap, cur, rfl, hb, hg, r⟩
  · exact .inl h0
  · exact .inr ⟨q, cap, cur, rfl, hb, (ho.block q (Array.getElem?_eq_some_iff.1 hg).1 (hS q rfl)).trans hg, r⟩
theorem OB.off {S : Nat → Prop} {v : Value} {l : List UInt8} (h : OB w base v l) (ho : Off S w w') (hS : ∀ k, v.ownBlock = some k → ¬ S k) : OB w' base v l := ownsRow_off h ho hS
theorem own_blk {e : TypeId} {size n : Nat} {v : Value} {xs : List Value} (h : w.ownsRow base e size v n xs) {k : Nat} (hk : v.ownBlock = some k) : ∃ cur, w.heap[k]? = some (.cells cur e (0, 0)) := by
  rcases h.2 with ⟨e0, _⟩ | ⟨g, cap, cur, e0, _, hg, _⟩
  · rw [e0] at hk
    simp [Value.ownBlock] at hk
  · rw [e0] at hk
    simp [Value.ownBlock] at hk
    subst hk
    exact ⟨cur, hg⟩
end

section
variable {S : Nat → Prop} {w w' w'' : World}
theorem Off.setNew (h : Off S w w') {g : Nat} (hg : w.heap.size ≤ g) (j : Nat) (v : Value) : Off S w (w'.setCell ⟨g, j, none⟩ v) :=
  have h2 : Off (fun k => S k ∨ k = g) w (w'.setCell ⟨g, j, none⟩ v) := (h.mono (fun _ _ h => .inl h)).setCell v (.inr rfl)
  h2.mono (fun k hk hs => hs.resolve_right (fun e => by omega))
theorem Off.grownNew (h : Off S w w') {row : Option Nat} (hg : w'.grownBy w'' row) (hr : ∀ k, row = some k → w.heap.size ≤ k) : Off S w w'' :=
  have h2 : Off (fun k => S k ∨ row = some k) w w'' := (h.mono (fun _ _ h => .inl h)).trans (Off.of_grown hg (fun k e => .inr e))
  h2.mono (fun k hk hs => hs.resolve_right (fun e => by have := hr k e; omega))
end
theorem own_lower {w : World} {base b : Nat} {e : TypeId} {size n : Nat} {v : Value} {xs : List Value} (h : w.ownsRow base e size v n xs) (hb : b ≤ base) : w.ownsRow b e size v n xs := by
  refine ⟨h.1, ?_⟩
  rcases h.2 with h | ⟨g, cap, cur, rfl, hg, r⟩
  · exact .inl h
  · exact .inr ⟨g, cap, cur, rfl, by omega, r⟩
theorem Rd.of_own {w : World} {base : Nat} {e : TypeId} {size n c : Nat} {A : Option Addr} {xs : List Value} (h : w.ownsRow base e size (.slice A n c) n xs) : Rd w size A n xs := by
  rcases h.2 with ⟨e0, h0⟩ | ⟨g, cap, cur, e0, r⟩
  · subst h0
    exact ⟨h.1, fun h => absurd h (Nat.lt_irrefl _)⟩
  · cases e0
    exact ⟨h.1, fun _ => ⟨_, rfl, fun j u hu => h.cells (g := g) rfl j u hu⟩⟩

end Go.Proofs.Ytfgkadkmgciamaa
