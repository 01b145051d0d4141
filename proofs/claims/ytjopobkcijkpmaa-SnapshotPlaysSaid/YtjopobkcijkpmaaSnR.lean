/-
  A table beside one or two rows of ints of one's own.
-/
import Derived.Test.YtjopobkcijkpmaaSnM
import Derived.Test.YtjopobkcijkpmaaOfr
namespace Go.Proofs.Ytjopobkcijkpmaa
open Go.RowKit

/-- The base lowered. -/
theorem OR.lower' {w : World} {base b n : Nat} {e : TypeId} {v : Value} {xs : List Value} (h : OR w base e v n xs) (hb : b ≤ base) : OR w b e v n xs := by
  refine ⟨h.1, ?_⟩
  rcases h.2 with h2 | ⟨g, off, cap, cur, e1, h2, h3⟩
  · exact .inl h2
  · exact .inr ⟨g, off, cap, cur, e1, by omega, h3⟩
theorem OR.rd {w : World} {base n : Nat} {e : TypeId} {A : Option Addr} {c : Nat} {xs : List Value} (h : OR w base e (.slice A n c) n xs) : Rd w 1 A n xs := by
  refine ⟨by rw [h.1]; omega, fun hn => ?_⟩
  rcases h.2 with ⟨_, h0⟩ | ⟨g, off, cap, cur, e1, _⟩
  · omega
  · cases e1
    refine ⟨⟨g, off, none⟩, rfl, fun j u hu => ?_⟩
    rw [Addr.add_lit]
    exact h.cells rfl j u hu
/-- A table, and a row. -/
def OneQ (w wr : World) (g : Nat) (T : TabS) (v : Value) (ys : List Int) : Prop :=
  OR wr w.heap.size 3 v ys.length (ys.map (Value.int .i64)) ∧ TSQ w wr g T (fun k => v.ownBlock = some k)
/-- A table, a row that is appended to, and one beside. -/
def TwoQ (w wr : World) (g : Nat) (T : TabS) (v : Value) (ys : List Int) (z : Value) (zs : List Int) : Prop :=
  OR wr w.heap.size 3 v ys.length (ys.map (Value.int .i64)) ∧ OR wr w.heap.size 3 z zs.length (zs.map (Value.int .i64)) ∧ TSQ w wr g T (fun k => v.ownBlock = some k ∨ z.ownBlock = some k) ∧ ∀ k, v.ownBlock = some k → z.ownBlock = some k → False
section
variable {w wr w' : World} {g : Nat} {T T' : TabS} {v v' z : Value} {ys zs : List Int} {y : Int}
theorem OneQ.below (h : OneQ w wr g T v ys) (hb : Below wr.heap.size wr w') : OneQ w w' g T v ys := ⟨h.1.below hb, h.2.below hb⟩
theorem OneQ.called (h : OneQ w wr g T v ys) (hs : TSQ w w' g T' (fun k => v.ownBlock = some k)) (ho : Off (fun k => ¬ v.ownBlock = some k) wr w') : OneQ w w' g T' v ys := ⟨h.1.off ho (fun _ e x => x e), hs⟩
theorem OneQ.grown (h : OneQ w wr g T v ys) (ho : OR w' w.heap.size 3 v' (ys.length + 1) (ys.map (Value.int .i64) ++ [.int .i64 y])) (hg : wr.grownBy w' v.ownBlock) (hv : v'.ownBlock = v.ownBlock ∨ v'.ownBlock = some wr.heap.size) :
    OneQ w w' g T v' (ys ++ [y]) := by
  have hoff : Off (fun k => v.ownBlock = some k) wr w' := Off.of_grown hg (fun _ e => e)
  refine ⟨?_, ?_⟩
  · rw [List.length_append, List.map_append]
    exact ho
  · refine h.2.turned hoff (fun k e => e) (fun k e => (h.1.lt k e).1) (fun k hk => ?_)
    rcases hv with e | e
    · exact .inl (e ▸ hk)
    · have hz := (ho.lt k hk).2
      rw [e] at hk
      cases hk
      exact .inr ⟨Nat.le_refl _, hz⟩
theorem OneQ.two (h : OneQ w wr g T z zs) : TwoQ w wr g T (.slice none 0 0) [] z zs :=
  ⟨OR.nil_ _ _ _, h.1, h.2.sub (fun k e => e.elim (fun e => by simp [Value.ownBlock] at e) id), fun k e => by simp [Value.ownBlock] at e⟩
theorem TwoQ.one (h : TwoQ w wr g T v ys z zs) : OneQ w wr g T z zs := ⟨h.2.1, h.2.2.1.sub (fun _ e => .inr e)⟩
theorem TwoQ.below (h : TwoQ w wr g T v ys z zs) (hb : Below wr.heap.size wr w') : TwoQ w w' g T v ys z zs :=
  ⟨h.1.below hb, h.2.1.below hb, h.2.2.1.below hb, h.2.2.2⟩
theorem TwoQ.grown (h : TwoQ w wr g T v ys z zs) (ho : OR w' w.heap.size 3 v' (ys.length + 1) (ys.map (Value.int .i64) ++ [.int .i64 y])) (hg : wr.grownBy w' v.ownBlock) (hv : v'.ownBlock = v.ownBlock ∨ v'.ownBlock = some wr.heap.size) :
    TwoQ w w' g T v' (ys ++ [y]) z zs := by
  have hoff : Off (fun k => v.ownBlock = some k) wr w' := Off.of_grown hg (fun _ e => e)
  refine ⟨?_, ?_, ?_, ?_⟩
  · rw [List.length_append, List.map_append]
    exact ho
  · exact h.2.1.off hoff (fun k e1 e2 => h.2.2.2 k e2 e1)
  · refine h.2.2.1.turned hoff (fun k e => .inl e) (fun k e => (h.1.lt k e).1) (fun k hk => ?_)
    rcases hk with hk | hk
    · rcases hv with e | e
      · exact .inl (.inl (e ▸ hk))
      · have hz := (ho.lt k hk).2
        rw [e] at hk
        cases hk
        exact .inr ⟨Nat.le_refl _, hz⟩
    · exact .inl (.inr hk)
  · intro k e1 e2
    rcases hv with e | e
    · exact h.2.2.2 k (e ▸ e1) e2
    · rw [e] at e1
      cases e1
      have := (h.2.1.lt _ e2).2
      omega
end

end Go.Proofs.Ytjopobkcijkpmaa
