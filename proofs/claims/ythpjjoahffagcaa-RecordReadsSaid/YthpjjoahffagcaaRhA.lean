/-
  The reference of chapter 05: what 'read' builds, in memory and in plain words.
-/
import Derived.Test.YthpjjoahffagcaaRgC
import Derived.Test.YthpjjoahffagcaaRdM
namespace Go.Proofs.Ythpjjoahffagcaa
open Go.RowKit

theorem numAt_seg {b : List UInt8} {a e v k : Nat} (h : Seg b a e (leB v k)) (hv : v < 256 ^ k) : numAt b (a : Int) k = some v := by
  obtain ⟨h1, h2, h3⟩ := h
  rw [leB_length] at h1 h3
  unfold numAt
  rw [if_neg (by omega), Int.toNat_natCast, h3, leN_leB, Nat.mod_eq_of_lt hv]
theorem partAt_seg {b l : List UInt8} {a e : Nat} (h : Seg b a e (leB l.length 2 ++ l)) (hl : l.length < 65536) : partAt b (a : Int) = some (l, e) := by
  have := pPart_c h hl
  unfold pPart at this
  simp only at this
  cases hp : partAt b (a : Int) with
  | none => rw [hp] at this; simp only at this; injection this with _ h2; cases h2
  | some p =>
    obtain ⟨l', e'⟩ := p
    rw [hp] at this
    simp only at this
    injection this with h1 h2
    injection h2 with h2
    rw [h1, h2]

/-- The bounds of what is read. -/
def pcQ (p : Pc) : Prop := 0 ≤ p.1 ∧ p.1 ≤ 65535 ∧ p.2.length ≤ 65535
def chQ (c : Ch) : Prop := 0 ≤ c.1 ∧ c.1 ≤ 4294967295 ∧ c.2.1.length ≤ 4080 ∧ c.2.2.length ≤ 65535 ∧ ∀ p ∈ c.2.2, pcQ p
def recQ (r : Rec) : Prop := r.kind < 256 ∧ -9223372036854775808 ≤ r.tx ∧ r.tx ≤ 9223372036854775807 ∧ r.cs.length ≤ 17 ∧ ∀ c ∈ r.cs, chQ c
theorem rec0Q : recQ rec0 := ⟨by decide, by decide, by decide, by decide, fun c h => by cases h⟩

/-- The record that is being read. -/
structure RD (w wr : World) (k tx : Int) (v : Value) (acc : List Ch) : Prop where
  r : wr.heap[w.heap.size]? = some (.cells #[.int .u8 0, .int .i64 0, .slice none 0 0] 38 (0, 0))
  o : wr.heap[w.heap.size + 1]? = some (.cells #[.int .u8 k, .int .i64 tx, v] 38 (0, 0))
  row : OCW wr w.heap.size v acc
  bel : Below w.heap.size w wr
/-- The change that is being read, since w0. -/
structure RE (w0 wr : World) (cb : Nat) (pg : Int) (v1 : Value) (img : List UInt8) (v2 : Value) (ps : List Pc) : Prop where
  c : wr.heap[cb]? = some (.cells #[.int .i64 pg, v1, v2] 56 (0, 0))
  cn : w0.heap.size ≤ cb
  o1 : OB wr w0.heap.size v1 img
  o2 : OW wr w0.heap.size v2 ps
  bel : Below w0.heap.size w0 wr
section
variable {w w0 wr w4 : World} {k tx : Int} {v v4 : Value} {acc : List Ch} {cb : Nat} {pg : Int} {v1 v2 : Value} {img : List UInt8} {ps : List Pc}
theorem RD.below (h : RD w wr k tx v acc) (hb : Below wr.heap.size wr w4) : RD w w4 k tx v acc :=
  ⟨(hb.block _ (Array.getElem?_eq_some_iff.1 h.r).1).trans h.r, (hb.block _ (Array.getElem?_eq_some_iff.1 h.o).1).trans h.o, h.row.below hb, gr_trans h.bel hb⟩
theorem RE.below (h : RE w0 wr cb pg v1 img v2 ps) (hb : Below wr.heap.size wr w4) : RE w0 w4 cb pg v1 img v2 ps :=
  ⟨(hb.block _ (Array.getElem?_eq_some_iff.1 h.c).1).trans h.c, h.cn, h.o1.below hb, h.o2.below hb, gr_trans h.bel hb⟩
theorem RD.r0 (h : RD w wr k tx v acc) : wr.cell? ⟨w.heap.size, 0, none⟩ = some (.int .u8 0) := by rw [cell_of_row wr _ 0 _ _ _ h.r]; rfl
theorem RD.r1 (h : RD w wr k tx v acc) : wr.cell? ⟨w.heap.size, 1, none⟩ = some (.int .i64 0) := by rw [cell_of_row wr _ 1 _ _ _ h.r]; rfl
theorem RD.r2 (h : RD w wr k tx v acc) : wr.cell? ⟨w.heap.size, 2, none⟩ = some (.slice none 0 0) := by rw [cell_of_row wr _ 2 _ _ _ h.r]; rfl
theorem RD.fr (h : RD w wr k tx v acc) (j : Nat) : wr.frozen? ⟨w.heap.size, j, none⟩ = false := by simp [World.frozen?, h.r]
theorem RD.o0 (h : RD w wr k tx v acc) : wr.cell? ⟨w.heap.size + 1, 0, none⟩ = some (.int .u8 k) := by rw [cell_of_row wr _ 0 _ _ _ h.o]; rfl
theorem RD.o1 (h : RD w wr k tx v acc) : wr.cell? ⟨w.heap.size + 1, 1, none⟩ = some (.int .i64 tx) := by rw [cell_of_row wr _ 1 _ _ _ h.o]; rfl
theorem RD.o2 (h : RD w wr k tx v acc) : wr.cell? ⟨w.heap.size + 1, 2, none⟩ = some v := by rw [cell_of_row wr _ 2 _ _ _ h.o]; rfl
theorem RD.fo (h : RD w wr k tx v acc) (j : Nat) : wr.frozen? ⟨w.heap.size + 1, j, none⟩ = false := by simp [World.frozen?, h.o]
theorem RE.c0 (h : RE w0 wr cb pg v1 img v2 ps) : wr.cell? ⟨cb, 0, none⟩ = some (.int .i64 pg) := by rw [cell_of_row wr _ 0 _ _ _ h.c]; rfl
theorem RE.c1 (h : RE w0 wr cb pg v1 img v2 ps) : wr.cell? ⟨cb, 1, none⟩ = some v1 := by rw [cell_of_row wr _ 1 _ _ _ h.c]; rfl
theorem RE.c2 (h : RE w0 wr cb pg v1 img v2 ps) : wr.cell? ⟨cb, 2, none⟩ = some v2 := by rw [cell_of_row wr _ 2 _ _ _ h.c]; rfl
theorem RE.fc (h : RE w0 wr cb pg v1 img v2 ps) (j : Nat) : wr.frozen? ⟨cb, j, none⟩ = false := by simp [World.frozen?, h.c]
theorem RE.new (w0 : World) (pg : Int) : RE w0 (w0.alloc (.cells #[.int .i64 pg, .slice none 0 0, .slice none 0 0] 56)) w0.heap.size pg (.slice none 0 0) [] (.slice none 0 0) [] :=
  ⟨heap_alloc_new w0 _, Nat.le_refl _, OB.nil _ _, OW.nil _ _, gr_alloc (gr_refl w0) _⟩
/-- A store into the change's image. -/
theorem RE.set1 (h : RE w0 wr cb pg v1 img v2 ps) {u : Value} {l : List UInt8} (hu : OB wr w0.heap.size u l) : RE w0 (wr.setCell ⟨cb, 1, none⟩ u) cb pg u l v2 ps := by
  have o : Off (fun k => k = cb) wr (wr.setCell ⟨cb, 1, none⟩ u) := (Off.refl (fun k => k = cb) wr).setCell _ rfl
  refine ⟨?_, h.cn, hu.ty o (fun k e => ?_), h.o2.ty o (fun k e => ?_), h.bel.setCell h.cn _⟩
  · simp only [World.setCell, Array.getElem?_modify, if_pos, h.c]
    rfl
  · subst e; exact ⟨_, _, _, h.c, by decide⟩
  · subst e; exact ⟨_, _, _, h.c, by decide, by decide⟩
/-- A piece behind. -/
theorem RE.piece (h : RE w0 wr cb pg v1 img v2 ps) {us : List (Int × Value)} (r1 : wr.ownsRow w0.heap.size 29 2 v2 ps.length (pcs us)) (r2 : us.length = ps.length) (r3 : ∀ (i : Nat) (p : Pc) (q : Int × Value), ps[i]? = some p → us[i]? = some q → q.1 = p.1 ∧ OB wr w0.heap.size q.2 p.2) {a : Int} {u : Value} {l : List UInt8} (hu : OB wr w0.heap.size u l)
    (ho : w4.ownsRow w0.heap.size 29 2 v4 (ps.length + 1) (pcs us ++ [.int .i64 a, u])) (hg : wr.grownBy w4 v2.ownBlock) :
    w4.cell? ⟨cb, 2, none⟩ = some v2 ∧ (∀ j, w4.frozen? ⟨cb, j, none⟩ = false) ∧ RE w0 (w4.setCell ⟨cb, 2, none⟩ v4) cb pg v1 img v4 (ps ++ [(a, l)]) := by
  have o : Off (fun k => v2.ownBlock = some k) wr w4 := Off.of_grown hg (fun _ e => e)
  have hc4 : w4.heap[cb]? = some (.cells #[.int .i64 pg, v1, v2] 56 (0, 0)) := (o.block cb (Array.getElem?_eq_some_iff.1 h.c).1 (fun e => by
    obtain ⟨cur, hc⟩ := own_blk r1 e
    exact cells_ne hc h.c (by decide))).trans h.c
  have o5 : Off (fun k => k = cb) w4 (w4.setCell ⟨cb, 2, none⟩ v4) := (Off.refl (fun k => k = cb) w4).setCell _ rfl
  refine ⟨by rw [cell_of_row w4 cb 2 _ _ _ hc4]; rfl, fun j => by simp [World.frozen?, hc4], ?_, h.cn, ?_, ?_, ?_⟩
  · simp only [World.setCell, Array.getElem?_modify, if_pos, hc4]
    rfl
  · have q := h.o1.ty o (fun k e => by obtain ⟨cur, hc⟩ := own_blk r1 e; exact ⟨_, _, _, hc, by decide⟩)
    exact q.ty o5 (fun k e => by subst e; exact ⟨_, _, _, hc4, by decide⟩)
  · have q := OW.push (w4 := w4) r2 r3 hu hg (fun k hk => own_blk r1 hk) ho
    exact q.ty o5 (fun k e => by subst e; exact ⟨_, _, _, hc4, by decide, by decide⟩)
  · exact (gr_own h.bel r1 hg).setCell h.cn _
/-- The change laid behind. -/
theorem RD.push (h : RD w wr k tx v acc) {us : List (Int × Value × Value)} (r1 : wr.ownsRow w.heap.size 56 3 v acc.length (chs us)) (r2 : us.length = acc.length) (r3 : ∀ (i : Nat) (p : Ch) (q : Int × Value × Value), acc[i]? = some p → us[i]? = some q → q.1 = p.1 ∧ OB wr w.heap.size q.2.1 p.2.1 ∧ OW wr w.heap.size q.2.2 p.2.2) {a : Int} {u1 u2 : Value} {l : List UInt8} {ps : List Pc} (hu : OB wr w.heap.size u1 l) (hu2 : OW wr w.heap.size u2 ps)
    (ho : w4.ownsRow w.heap.size 56 3 v4 (acc.length + 1) (chs us ++ [.int .i64 a, u1, u2])) (hg : wr.grownBy w4 v.ownBlock) :
    w4.cell? ⟨w.heap.size + 1, 2, none⟩ = some v ∧ (∀ j, w4.frozen? ⟨w.heap.size + 1, j, none⟩ = false) ∧ RD w (w4.setCell ⟨w.heap.size + 1, 2, none⟩ v4) k tx v4 (acc ++ [(a, l, ps)]) := by
  have o : Off (fun k => v.ownBlock = some k) wr w4 := Off.of_grown hg (fun _ e => e)
  have hne : ∀ {j : Nat} {cs : Array Value}, wr.heap[j]? = some (.cells cs 38 (0, 0)) → w4.heap[j]? = some (.cells cs 38 (0, 0)) := fun {j cs} hj =>
    (o.block j (Array.getElem?_eq_some_iff.1 hj).1 (fun e => by
      obtain ⟨cur, hc⟩ := own_blk r1 e
      exact cells_ne hc hj (by decide))).trans hj
  have hr := hne h.r
  have hc4 := hne h.o
  have o5 : Off (fun k => k = w.heap.size + 1) w4 (w4.setCell ⟨w.heap.size + 1, 2, none⟩ v4) := (Off.refl (fun k => k = w.heap.size + 1) w4).setCell _ rfl
  refine ⟨by rw [cell_of_row w4 _ 2 _ _ _ hc4]; rfl, fun j => by simp [World.frozen?, hc4], ?_, ?_, ?_, ?_⟩
  · exact (o5.block _ (Array.getElem?_eq_some_iff.1 hr).1 (by omega)).trans hr
  · simp only [World.setCell, Array.getElem?_modify, if_pos, hc4]
    rfl
  · have q := OCW.push (w4 := w4) r2 r3 hu hu2 hg (fun k hk => own_blk r1 hk) ho
    exact q.ty o5 (fun k e => by subst e; exact ⟨_, _, _, hc4, by decide, by decide, by decide⟩)
  · exact (gr_own h.bel r1 hg).setCell (by simp) _
/-- The result's block, filled. -/
theorem RD.done (h : RD w wr k tx v acc) : ∀ w2, w2 = ((wr.setCell ⟨w.heap.size, 0, none⟩ (.int .u8 k)).setCell ⟨w.heap.size, 1, none⟩ (.int .i64 tx)).setCell ⟨w.heap.size, 2, none⟩ v →
    w2.heap[w.heap.size]? = some (.cells #[.int .u8 k, .int .i64 tx, v] 38 (0, 0)) ∧ OCW w2 w.heap.size v acc ∧ Below w.heap.size w w2 := by
  rintro w2 rfl
  have o : Off (fun k => k = w.heap.size) wr (((wr.setCell ⟨w.heap.size, 0, none⟩ (.int .u8 k)).setCell ⟨w.heap.size, 1, none⟩ (.int .i64 tx)).setCell ⟨w.heap.size, 2, none⟩ v) := (((Off.refl (fun k => k = w.heap.size) wr).setCell _ rfl).setCell _ rfl).setCell _ rfl
  refine ⟨?_, h.row.ty o (fun k e => by subst e; exact ⟨_, _, _, h.r, by decide, by decide, by decide⟩), ((h.bel.setCell (by simp) _).setCell (by simp) _).setCell (by simp) _⟩
  simp only [World.setCell, Array.getElem?_modify, if_pos, h.r]
  rfl
/-- The result's block, noughts. -/
theorem RD.zero (h : RD w wr k tx v acc) : ∀ w2, w2 = ((wr.setCell ⟨w.heap.size, 0, none⟩ (.int .u8 0)).setCell ⟨w.heap.size, 1, none⟩ (.int .i64 0)).setCell ⟨w.heap.size, 2, none⟩ (.slice none 0 0) →
    w2.heap[w.heap.size]? = some (.cells #[.int .u8 0, .int .i64 0, .slice none 0 0] 38 (0, 0)) ∧ Below w.heap.size w w2 := by
  rintro w2 rfl
  refine ⟨?_, ((h.bel.setCell (by simp) _).setCell (by simp) _).setCell (by simp) _⟩
  simp only [World.setCell, Array.getElem?_modify, if_pos, h.r]
  rfl
end

end Go.Proofs.Ythpjjoahffagcaa
