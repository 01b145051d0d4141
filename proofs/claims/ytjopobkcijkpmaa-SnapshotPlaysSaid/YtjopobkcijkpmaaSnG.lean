/-
  Contracts: snapshot's end, Commit, Abort, Begin.
-/
import Derived.Test.YtjopobkcijkpmaaSnF
namespace Go.Proofs.Ytjopobkcijkpmaa
open Go.RowKit

section
variable {w w1 w' : World} {base g b : Nat} {ov dv : Value} {T T' : TabS} {F : Nat → Prop}
theorem TPost.from (hb : Below w.heap.size w w1) (h : TPost w1 base g F T w') : TPost w base g F T w' := by
  obtain ⟨ho, F', h1, h2⟩ := h
  exact ⟨(Off.of_below hb).trans ho, F', h1, fun k hk => (h2 k hk).imp_right (fun h => Nat.le_trans hb.size h)⟩

/-- The table's own numbers alone have turned. -/
theorem TK.cell (h : TK w base g b ov dv T) (ho : Off (· = g) w w') (hdb : TB w' g b T'.first T'.next T'.last ov dv) (e1 : T'.who = T.who) (e2 : T'.opn = T.opn) (e3 : T'.dead = T.dead) (e4 : T'.first = T.first) (n1 : 1 ≤ T'.next) (n2 : T'.next ≤ 4611686018427387904) (n3 : T.next ≤ T'.next) : TK w' base g b ov dv T' := by
  have hg := h.ne_gb
  have g1 := row_ne h.op h.tb (by decide)
  have g2 := row_ne h.de h.tb (by decide)
  refine ⟨hdb, ?_, ?_, ?_, by rw [e4]; exact h.f1, by rw [e4]; exact h.f2, n1, n2, by rw [e2]; exact h.o2, by rw [e3]; exact h.d2, fun x hx => ?_, h.gb, h.bb, h.ap⟩
  · rw [e1]; exact h.mp.off ho (Ne.symm hg)
  · rw [e2]; exact ownsRow_off h.op ho (fun k e e' => g1 (by rw [e, e']))
  · rw [e3]; exact ownsRow_off h.de ho (fun k e e' => g2 (by rw [e, e']))
  · rw [e2] at hx
    have := h.oi x hx
    omega

theorem TK.turned {w2 w3 w3' w4 : World} {f : Int → Option (Int × Int)} {v : Value} {l : List Int} (h : TK w base g b ov dv T) (hb2 : Below w.heap.size w w2) (hg3 : w2.grownBy w3 (some b)) (hm3 : MI w3 b f) (hb3 : Below w3.heap.size w3 w3') (hg4 : w3'.grownBy w4 ov.ownBlock)
    (hop : w4.ownsRow base 3 1 v l.length (l.map (Value.int .i64))) (hvb : v.ownBlock = ov.ownBlock ∨ ∃ k, v.ownBlock = some k ∧ w3'.heap.size ≤ k) (hl : l.length ≤ 16) (hoi : ∀ x ∈ l, 1 ≤ x ∧ x < T.next) :
    TB w4 g b T.first T.next T.last ov dv ∧ TK (w4.setCell ⟨g, 5, none⟩ v) base g b v dv { T with who := f, opn := l } ∧ Off (tfoot g b ov dv) w (w4.setCell ⟨g, 5, none⟩ v) ∧ ∀ k, tfoot g b v dv k → tfoot g b ov dv k ∨ w.heap.size ≤ k := by
  have hgb := h.ne_gb
  have s2 := hb2.size
  have s3 := hg3.size
  have s3' := hb3.size
  have s4 := hg4.size
  have h2 := h.below hb2
  have o3 : Off (· = b) w2 w3 := Off.of_grown hg3 (fun k e => by injection e with e; exact e.symm)
  have tb3 := h2.tb.off o3 hgb
  have bo := row_nm h2.op h2.mp
  have bd := row_nm h2.de h2.mp
  have op3 := ownsRow_off h2.op o3 (fun k e e' => bo (by rw [e, e']))
  have de3 := ownsRow_off h2.de o3 (fun k e e' => bd (by rw [e, e']))
  have ob3 : Off (fun _ => False) w3 w3' := Off.of_below hb3
  have tb3' := tb3.off ob3 (fun h => h)
  have de3' := ownsRow_off de3 ob3 (fun _ _ h => h)
  have op3' := ownsRow_off op3 ob3 (fun _ _ h => h)
  have m3' := hm3.below hb3
  have o4 : Off (fun k => ov.ownBlock = some k) w3' w4 := Off.of_grown hg4 (fun k e => e)
  have tb4 := tb3'.off o4 (row_ne op3' tb3' (by decide))
  have m4 := m3'.off o4 (row_nm op3' m3')
  have de4 := ownsRow_off de3' o4 (fun k e e' => by
    rcases h.ap with h0 | h0
    · rw [h0] at e'; cases e'
    · exact h0 (by rw [e, e']))
  have o5 : Off (· = g) w4 (w4.setCell ⟨g, 5, none⟩ v) := (Off.refl _ w4).setCell _ rfl
  have hbd : ∀ k, dv.ownBlock = some k → k < w.heap.size := fun k e => (h.de.lt k e).2
  have hbo : ∀ k, ov.ownBlock = some k → k < w.heap.size := fun k e => (h.op.lt k e).2
  refine ⟨tb4, ⟨tb4.s5 v, m4.off o5 (Ne.symm hgb), ownsRow_off hop o5 (fun k e e' => row_ne hop tb4 (by decide) (by rw [e, e'])), ownsRow_off de4 o5 (fun k e e' => row_ne de4 tb4 (by decide) (by rw [e, e'])), h.f1, h.f2, h.n1, h.n2, hl, h.d2, hoi, h.gb, h.bb, ?_⟩, ?_, fun k hk => ?_⟩
  · rcases hvb with e | ⟨k, e, hk⟩
    · rw [e]; exact h.ap
    · refine .inr fun e' => ?_
      rw [e] at e'
      have := hbd k e'.symm
      omega
  · have q1 : Off (tfoot g b ov dv) w w2 := Off.of_below hb2
    have q3 := o3.mono (T := tfoot g b ov dv) (fun k _ e => .inr (.inl e))
    have q3' : Off (tfoot g b ov dv) w3 w3' := Off.of_below hb3
    have q4 := o4.mono (T := tfoot g b ov dv) (fun k _ e => .inr (.inr (.inl e)))
    have q5 := o5.mono (T := tfoot g b ov dv) (fun k _ e => .inl e)
    exact (((q1.trans q3).trans q3').trans q4).trans q5
  · rcases hk with hk | hk | hk | hk
    · exact .inl (.inl hk)
    · exact .inl (.inr (.inl hk))
    · rcases hvb with e | ⟨k', e, hk'⟩
      · exact .inl (.inr (.inr (.inl (by rw [← e]; exact hk))))
      · rw [e] at hk
        injection hk with hk
        exact .inr (by omega)
    · exact .inl (.inr (.inr (.inr hk)))
end

/-- An open number becomes something else. -/
def endT (T : TabS) (tx : Int) (q : Int × Int) : TabS := { T with who := upd T.who tx q, opn := butL T.opn tx }

theorem but_mem {l : List Int} {tx x : Int} (h : x ∈ butL l tx) : x ∈ l := (List.mem_filter.1 h).1
theorem but_len (l : List Int) (tx : Int) : (butL l tx).length ≤ l.length := List.length_filter_le _ _

set_option maxRecDepth 100000 in
set_option maxHeartbeats 2000000 in
theorem end_any (w : World) (base g : Nat) (F : Nat → Prop) (T : TabS) (tx q1 q2 : Int) (h : IsT w base g F T) (h1 : -9223372036854775808 ≤ tx) (h2 : tx ≤ 9223372036854775807) :
    Calls Try.prog 71 #[.pointer (some ⟨g, 0, none⟩), .int .i64 tx, .agg #[.int .u8 q1, .int .i64 q2]] w fun e w' => (∃ x, e = .returned x) ∧ TPost w base g F (endT T tx (q1, q2)) w' := by
  obtain ⟨b, ov, dv, hd, hF⟩ := h
  have hb2 : Below w.heap.size w ((w.alloc (.cells #[.int .i64 tx] 3)).alloc (.cells #[.int .u8 q1, .int .i64 q2] 119)) := gr_alloc (gr_alloc (gr_refl w) _) _
  have hd2 := hd.below hb2
  have hx0 : ((w.alloc (.cells #[.int .i64 tx] 3)).alloc (.cells #[.int .u8 q1, .int .i64 q2] 119)).heap[w.heap.size]? = some (.cells #[.int .i64 tx] 3 (0, 0)) := (Below.heap_alloc _ _ _ (by simp)).trans (heap_alloc_new w _)
  have c4 := hd2.tb.c4
  obtain ⟨w3, hrun, hm3, hg3⟩ := (hd2.below (gr_drewN (gr_refl _) 1)).mp.put h1 h2 (q1, q2)
  unfold mkV at hrun
  have hrun : (Instr.mapUpdate 104 (.map (some b)) (.int .i64 tx) (.agg #[.int .u8 q1, .int .i64 q2])).run Try.prog ((w.alloc (.cells #[.int .i64 tx] 3)).alloc (.cells #[.int .u8 q1, .int .i64 q2] 119)).drew = .ok () w3 := hrun
  obtain ⟨Ap, cp, rfl, _, _⟩ := own_form hd.op
  have ho2 := hd.o2
  have bo := row_nm hd2.op hd2.mp
  have o3' : Off (· = b) ((w.alloc (.cells #[.int .i64 tx] 3)).alloc (.cells #[.int .u8 q1, .int .i64 q2] 119)).drew w3 := Off.of_grown hg3 (fun k e => by injection e with e; exact e.symm)
  have o3 : Off (· = b) ((w.alloc (.cells #[.int .i64 tx] 3)).alloc (.cells #[.int .u8 q1, .int .i64 q2] 119)) w3 := ⟨o3'.os, o3'.tape, o3'.output, o3'.size, o3'.block⟩
  have op3 := ownsRow_off hd2.op o3 (fun k e e' => bo (by rw [e, e']))
  have tb3 := hd2.tb.off o3 hd2.ne_gb
  have hbw : b < w.heap.size := hd.mp.lt
  have hx3 : w3.cell? ⟨w.heap.size, 0, none⟩ = some (.int .i64 tx) := by
    rw [cell_of_row w3 w.heap.size 0 _ _ _ ((o3.block _ (by simp; omega) (by omega)).trans hx0)]; rfl
  have HD := Lib.hid (DeleteFunc_any Ap T.opn.length cp w.heap.size base T.opn tx w3 op3 (by omega) hx3 (fun e => by have := (hd.op.lt _ e).2; omega))
  have HFIN : Hid (∀ (v : Value) (w4 : World), w4.ownsRow base 3 1 v (butL T.opn tx).length ((butL T.opn tx).map (Value.int .i64)) → w3.grownBy w4 (Value.slice Ap T.opn.length cp).ownBlock → v.ownBlock = (Value.slice Ap T.opn.length cp).ownBlock →
      TB w4 g b T.first T.next T.last (.slice Ap T.opn.length cp) dv ∧ TPost w base g F (endT T tx (q1, q2)) (w4.setCell ⟨g, 5, none⟩ v)) := Lib.hid (fun v w4 k1 k2 k3 => by
    obtain ⟨p1, p2, p3, p4⟩ := hd.turned (w2 := ((w.alloc (.cells #[.int .i64 tx] 3)).alloc (.cells #[.int .u8 q1, .int .i64 q2] 119)).drew) (gr_drewN hb2 1) hg3 hm3 (gr_refl w3) k2 k1 (.inl k3) (by have := but_len T.opn tx; omega) (fun x hx => hd.oi x (but_mem hx))
    exact ⟨p1, p3.mono (fun k _ hk => (hF k).2 hk), _, ⟨b, v, dv, p2, fun k => Iff.rfl⟩, fun k hk => (p4 k hk).imp_left (hF k).2⟩)
  have c5 := tb3.c5
  generalize T.opn.length = np at *
  clear hd hd2 hF op3 hx0 o3 o3' hm3 hg3 tb3 bo hb2
  go_enter Try.func71, Try.ntmps71
  go_wp2_with fail
  go_region
  all_goals
    go_wp2_with fail
    refine HD.out.mono ?_
    rintro e w4 ⟨v, rfl, k1, k2, k3⟩
    obtain ⟨tb4, hp⟩ := HFIN.out v w4 k1 k2 k3
    obtain ⟨Av, cv, rfl, _, _⟩ := own_form k1
    have y5 := tb4.c5
    have z5 := tb4.frozen 5
    clear k1 k2 k3 tb4
    go_wp2_with fail
    go_end0
    exact ⟨⟨_, rfl⟩, hp⟩

end Go.Proofs.Ytjopobkcijkpmaa
