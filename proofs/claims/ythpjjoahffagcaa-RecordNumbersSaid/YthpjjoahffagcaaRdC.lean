/-
  The reader: change.
-/
import Derived.Test.YthpjjoahffagcaaRdB
namespace Go.Proofs.Ythpjjoahffagcaa
open Go.RowKit

/-- A row of pieces of one's own. -/
def OW (w : World) (base : Nat) (v : Value) (ps : List Pc) : Prop :=
  ∃ us : List (Int × Value), w.ownsRow base 29 2 v ps.length (pcs us) ∧ us.length = ps.length ∧ ∀ (i : Nat) (p : Pc) (q : Int × Value), ps[i]? = some p → us[i]? = some q → q.1 = p.1 ∧ OB w base q.2 p.2
section
variable {w w' w4 : World} {base : Nat} {v v4 : Value} {ps : List Pc}
theorem OW.nil (w : World) (base : Nat) : OW w base (.slice none 0 0) [] := ⟨[], ⟨rfl, .inl ⟨rfl, rfl⟩⟩, rfl, fun i p q h => by simp at h⟩
theorem OW.off {S : Nat → Prop} (h : OW w base v ps) (ho : Off S w w') (hS : ∀ k, base ≤ k → ¬ S k) : OW w' base v ps := by
  obtain ⟨us, h1, h2, h3⟩ := h
  refine ⟨us, ownsRow_off h1 ho (fun k hk => hS k (h1.lt k hk).1), h2, fun i p q hp hq => ?_⟩
  obtain ⟨h4, h5⟩ := h3 i p q hp hq
  exact ⟨h4, h5.off ho (fun k hk => hS k (h5.lt k hk).1)⟩
theorem OW.below (h : OW w base v ps) (hb : Below w.heap.size w w') : OW w' base v ps := h.off (S := fun _ => False) (Off.of_below hb) (fun _ _ h => h)
theorem OW.lower {b : Nat} (h : OW w base v ps) (hb : b ≤ base) : OW w b v ps := by
  obtain ⟨us, h1, h2, h3⟩ := h
  exact ⟨us, own_lower h1 hb, h2, fun i p q hp hq => ⟨(h3 i p q hp hq).1, (h3 i p q hp hq).2.lower hb⟩⟩
theorem OW.vp (h : OW w base v ps) : VP w v ps := by
  obtain ⟨us, h1, h2, h3⟩ := h
  obtain ⟨A, c, e, hn, hm⟩ := own_form h1
  refine ⟨A, c, e, ⟨us, ?_, h2, fun i p q hp hq => ⟨(h3 i p q hp hq).1, (h3 i p q hp hq).2.vb⟩⟩, hn, hm⟩
  rw [e] at h1
  exact Rd.of_own h1
theorem OW.ty {S : Nat → Prop} (h : OW w base v ps) (ho : Off S w w') (hS : ∀ k, S k → ∃ cs t fr, w.heap[k]? = some (.cells cs t fr) ∧ t ≠ 5 ∧ t ≠ 29) : OW w' base v ps := by
  obtain ⟨us, h1, h2, h3⟩ := h
  refine ⟨us, ownsRow_off h1 ho (fun k hk hs => ?_), h2, fun i p q hp hq => ?_⟩
  · obtain ⟨cs, t, fr, e1, _, e3⟩ := hS k hs
    obtain ⟨cur, hc⟩ := own_blk h1 hk
    exact cells_ne e1 hc e3
  · obtain ⟨h4, h5⟩ := h3 i p q hp hq
    refine ⟨h4, h5.off ho (fun k hk hs => ?_)⟩
    obtain ⟨cs, t, fr, e1, e2, _⟩ := hS k hs
    obtain ⟨cur, hc⟩ := own_blk h5 hk
    exact cells_ne e1 hc e2
theorem OB.ty {S : Nat → Prop} {l : List UInt8} (h : OB w base v l) (ho : Off S w w') (hS : ∀ k, S k → ∃ cs t fr, w.heap[k]? = some (.cells cs t fr) ∧ t ≠ 5) : OB w' base v l := by
  refine h.off ho (fun k hk hs => ?_)
  obtain ⟨cs, t, fr, e1, e2⟩ := hS k hs
  obtain ⟨cur, hc⟩ := own_blk h hk
  exact cells_ne e1 hc e2
/-- A piece behind. -/
theorem OW.push {us : List (Int × Value)} (h2 : us.length = ps.length) (h3 : ∀ (i : Nat) (p : Pc) (q : Int × Value), ps[i]? = some p → us[i]? = some q → q.1 = p.1 ∧ OB w base q.2 p.2) {a : Int} {u : Value} {l : List UInt8} (hu : OB w base u l) (hg : w.grownBy w4 v.ownBlock) (hv : ∀ k, v.ownBlock = some k → ∃ cur, w.heap[k]? = some (.cells cur 29 (0, 0)))
    (ho : w4.ownsRow base 29 2 v4 (ps.length + 1) (pcs us ++ [.int .i64 a, u])) : OW w4 base v4 (ps ++ [(a, l)]) := by
  have o : Off (fun k => v.ownBlock = some k) w w4 := Off.of_grown hg (fun _ e => e)
  have ty : ∀ {x : Value} {m : List UInt8}, OB w base x m → OB w4 base x m := fun {x m} hx => hx.off o (fun k hk e => by
    obtain ⟨c1, e1⟩ := own_blk hx hk
    obtain ⟨c2, e2⟩ := hv k e
    exact cells_ne e1 e2 (by decide))
  refine ⟨us ++ [(a, u)], ?_, by rw [List.length_append, List.length_append, h2]; rfl, fun i p q hp hq => ?_⟩
  · rw [List.length_append, pcs_append]
    exact ho
  · rcases Nat.lt_or_ge i ps.length with hi | hi
    · rw [List.getElem?_append_left hi] at hp
      rw [List.getElem?_append_left (by rw [h2]; exact hi)] at hq
      obtain ⟨h4, h5⟩ := h3 i p q hp hq
      exact ⟨h4, ty h5⟩
    · rw [List.getElem?_append_right hi] at hp
      rw [List.getElem?_append_right (by rw [h2]; exact hi), h2] at hq
      obtain h0 | h0 : i - ps.length = 0 ∨ 1 ≤ i - ps.length := by omega
      · rw [h0] at hp hq
        simp at hp hq
        subst hp hq
        exact ⟨rfl, ty hu⟩
      · rw [List.getElem?_eq_none (by simpa using h0)] at hp
        cases hp
end

/-- The change that is being read, in its variable. -/
structure CW (w0 w : World) (rb cb : Nat) (A : Option Addr) (n c : Nat) (s : Option Nat) (pg : Int) (v1 v2 : Value) (img : List UInt8) (ps : List Pc) : Prop where
  off : Off (· = rb) w0 w
  rs : RSt w rb A n c s
  cbk : w.heap[cb]? = some (.cells #[.int .i64 pg, v1, v2] 56 (0, 0))
  cn : w0.heap.size ≤ cb
  row : OW w w0.heap.size v2 ps
  o1 : OB w w0.heap.size v1 img
  rl : rb < w0.heap.size
section
variable {w0 w w' w4 : World} {rb cb : Nat} {A : Option Addr} {n c : Nat} {s s' : Option Nat} {pg : Int} {v1 v2 : Value} {img : List UInt8} {ps : List Pc}
theorem RSt.nb (h : RSt w rb A n c s) : ∃ a, a ≤ n ∧ RB w rb A n c a s.isNone := by
  obtain ⟨a, h1, h2, _⟩ := h
  exact ⟨a, h1, h2⟩
theorem CW.turn (h : CW w0 w rb cb A n c s pg v1 v2 img ps) (ho : Off (· = rb) w w') (hr : RSt w' rb A n c s') : CW w0 w' rb cb A n c s' pg v1 v2 img ps := by
  have hs : ∀ k, w0.heap.size ≤ k → ¬ k = rb := fun k hk e => by have := h.rl; omega
  exact ⟨h.off.trans ho, hr, (ho.block cb (Array.getElem?_eq_some_iff.1 h.cbk).1 (hs cb h.cn)).trans h.cbk, h.cn, h.row.off ho hs, h.o1.off ho (fun k hk => hs k (h.o1.lt k hk).1), h.rl⟩
theorem CW.below (h : CW w0 w rb cb A n c s pg v1 v2 img ps) (hb : Below w.heap.size w w') : CW w0 w' rb cb A n c s pg v1 v2 img ps := h.turn (Off.of_below hb) (h.rs.below hb)
theorem CW.c0 (h : CW w0 w rb cb A n c s pg v1 v2 img ps) : w.cell? ⟨cb, 0, none⟩ = some (.int .i64 pg) := by rw [cell_of_row w cb 0 _ _ _ h.cbk]; rfl
theorem CW.c1 (h : CW w0 w rb cb A n c s pg v1 v2 img ps) : w.cell? ⟨cb, 1, none⟩ = some v1 := by rw [cell_of_row w cb 1 _ _ _ h.cbk]; rfl
theorem CW.c2 (h : CW w0 w rb cb A n c s pg v1 v2 img ps) : w.cell? ⟨cb, 2, none⟩ = some v2 := by rw [cell_of_row w cb 2 _ _ _ h.cbk]; rfl
theorem CW.fz (h : CW w0 w rb cb A n c s pg v1 v2 img ps) (j : Nat) : w.frozen? ⟨cb, j, none⟩ = false := by simp [World.frozen?, h.cbk]
end

section
variable {w0 w w' w4 : World} {rb cb : Nat} {A : Option Addr} {n c : Nat} {s s' : Option Nat} {pg : Int} {v1 v2 v4 : Value} {img : List UInt8} {ps : List Pc}
theorem CW.push (h : CW w0 w rb cb A n c s pg v1 v2 img ps) {us : List (Int × Value)} (r1 : w.ownsRow w0.heap.size 29 2 v2 ps.length (pcs us)) (r2 : us.length = ps.length) (r3 : ∀ (i : Nat) (p : Pc) (q : Int × Value), ps[i]? = some p → us[i]? = some q → q.1 = p.1 ∧ OB w w0.heap.size q.2 p.2) {a : Int} {u : Value} {l : List UInt8} (hu : OB w w0.heap.size u l)
    (ho : w4.ownsRow w0.heap.size 29 2 v4 (ps.length + 1) (pcs us ++ [.int .i64 a, u])) (hg : (w.alloc (.cells #[.int .i64 a, u] 29)).grownBy w4 v2.ownBlock) :
    w4.cell? ⟨cb, 2, none⟩ = some v2 ∧ (∀ j, w4.frozen? ⟨cb, j, none⟩ = false) ∧ CW w0 (w4.setCell ⟨cb, 2, none⟩ v4) rb cb A n c s pg v1 v4 img (ps ++ [(a, l)]) := by
  have hB := gr_alloc (gr_refl w) (.cells #[.int .i64 a, u] 29)
  have hb := h.below hB
  have o : Off (fun k => v2.ownBlock = some k) (w.alloc (.cells #[.int .i64 a, u] 29)) w4 := Off.of_grown hg (fun _ e => e)
  have hrow : ∀ k, v2.ownBlock = some k → ∃ cur, (w.alloc (.cells #[.int .i64 a, u] 29)).heap[k]? = some (.cells cur 29 (0, 0)) := fun k hk => by
    obtain ⟨cur, hc⟩ := own_blk r1 hk
    exact ⟨cur, (hB.block k (Array.getElem?_eq_some_iff.1 hc).1).trans hc⟩
  have hlow : ∀ k, v2.ownBlock = some k → w0.heap.size ≤ k := fun k hk => (r1.lt k hk).1
  have hcb : v2.ownBlock ≠ some cb := fun e => by
    obtain ⟨cur, hc⟩ := hrow cb e
    exact cells_ne hc hb.cbk (by decide)
  have hc4 : w4.heap[cb]? = some (.cells #[.int .i64 pg, v1, v2] 56 (0, 0)) := (o.block cb (Array.getElem?_eq_some_iff.1 hb.cbk).1 hcb).trans hb.cbk
  have o5 : Off (fun k => k = cb) w4 (w4.setCell ⟨cb, 2, none⟩ v4) := (Off.refl (fun k => k = cb) w4).setCell _ rfl
  have hrb : rb ≠ cb := fun e => by have := h.rl; have := h.cn; omega
  refine ⟨by rw [cell_of_row w4 cb 2 _ _ _ hc4]; rfl, fun j => by simp [World.frozen?, hc4], ?_, ?_, ?_, h.cn, ?_, ?_, h.rl⟩
  · exact (hb.off.grownNew hg hlow).setNew h.cn _ _
  · exact (hb.rs.off o (fun e => by have := hlow _ e; have := h.rl; omega)).off o5 hrb
  · simp only [World.setCell, Array.getElem?_modify, if_pos, hc4]
    rfl
  · have q := OW.push (w4 := w4) r2 (fun i p q hp hq => ⟨(r3 i p q hp hq).1, (r3 i p q hp hq).2.below hB⟩) (hu.below hB) hg hrow ho
    exact q.ty o5 (fun k e => by subst e; exact ⟨_, _, _, hc4, by decide, by decide⟩)
  · have q := hb.o1.ty o (fun k e => by obtain ⟨cur, hc⟩ := hrow k e; exact ⟨_, _, _, hc, by decide⟩)
    exact q.ty o5 (fun k e => by subst e; exact ⟨_, _, _, hc4, by decide⟩)
theorem CW.fin {ra : Nat} (_hra : w.heap.size = ra) (hz : w0.heap[ra]? = some (.cells #[.int .i64 0, .slice none 0 0, .slice none 0 0] 56 (0, 0))) (_hbA : Below w.heap.size w w0) (hne : ra ≠ rb) (h : CW w0 w' rb cb A n c s pg v1 v2 img ps) :
    w'.heap[ra]? = some (.cells #[.int .i64 0, .slice none 0 0, .slice none 0 0] 56 (0, 0)) := (h.off.block ra (Array.getElem?_eq_some_iff.1 hz).1 hne).trans hz
end

end Go.Proofs.Ythpjjoahffagcaa
