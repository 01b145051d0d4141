/-
  The reader: record.
-/
import Derived.Test.YthpjjoahffagcaaRdD
namespace Go.Proofs.Ythpjjoahffagcaa
open Go.RowKit

/-- A row of changes of one's own. -/
def OCW (w : World) (base : Nat) (v : Value) (cs : List Ch) : Prop :=
  ∃ us : List (Int × Value × Value), w.ownsRow base 56 3 v cs.length (chs us) ∧ us.length = cs.length ∧ ∀ (i : Nat) (p : Ch) (q : Int × Value × Value), cs[i]? = some p → us[i]? = some q → q.1 = p.1 ∧ OB w base q.2.1 p.2.1 ∧ OW w base q.2.2 p.2.2
/-- The types that changes are made of. -/
def CT3 (t : TypeId) : Prop := t ≠ 5 ∧ t ≠ 29 ∧ t ≠ 56
section
variable {w w' w4 : World} {base : Nat} {v v4 : Value} {cs : List Ch}
theorem OCW.nil (w : World) (base : Nat) : OCW w base (.slice none 0 0) [] := ⟨[], ⟨rfl, .inl ⟨rfl, rfl⟩⟩, rfl, fun i p q h => by simp at h⟩
theorem OCW.off {S : Nat → Prop} (h : OCW w base v cs) (ho : Off S w w') (hS : ∀ k, base ≤ k → ¬ S k) : OCW w' base v cs := by
  obtain ⟨us, h1, h2, h3⟩ := h
  refine ⟨us, ownsRow_off h1 ho (fun k hk => hS k (h1.lt k hk).1), h2, fun i p q hp hq => ?_⟩
  obtain ⟨h4, h5, h6⟩ := h3 i p q hp hq
  exact ⟨h4, h5.off ho (fun k hk => hS k (h5.lt k hk).1), h6.off ho hS⟩
theorem OCW.below (h : OCW w base v cs) (hb : Below w.heap.size w w') : OCW w' base v cs := h.off (S := fun _ => False) (Off.of_below hb) (fun _ _ h => h)
theorem OCW.lower {b : Nat} (h : OCW w base v cs) (hb : b ≤ base) : OCW w b v cs := by
  obtain ⟨us, h1, h2, h3⟩ := h
  exact ⟨us, own_lower h1 hb, h2, fun i p q hp hq => ⟨(h3 i p q hp hq).1, (h3 i p q hp hq).2.1.lower hb, (h3 i p q hp hq).2.2.lower hb⟩⟩
theorem OCW.ty {S : Nat → Prop} (h : OCW w base v cs) (ho : Off S w w') (hS : ∀ k, S k → ∃ cs t fr, w.heap[k]? = some (.cells cs t fr) ∧ CT3 t) : OCW w' base v cs := by
  obtain ⟨us, h1, h2, h3⟩ := h
  refine ⟨us, ownsRow_off h1 ho (fun k hk hs => ?_), h2, fun i p q hp hq => ?_⟩
  · obtain ⟨cs, t, fr, e1, e3⟩ := hS k hs
    obtain ⟨cur, hc⟩ := own_blk h1 hk
    exact cells_ne e1 hc e3.2.2
  · obtain ⟨h4, h5, h6⟩ := h3 i p q hp hq
    refine ⟨h4, h5.ty ho (fun k hk => ?_), h6.ty ho (fun k hk => ?_)⟩
    · obtain ⟨cs, t, fr, e1, e2⟩ := hS k hk
      exact ⟨cs, t, fr, e1, e2.1⟩
    · obtain ⟨cs, t, fr, e1, e2⟩ := hS k hk
      exact ⟨cs, t, fr, e1, e2.1, e2.2.1⟩
/-- What a row of changes reads as. -/
theorem OCW.cr (h : OCW w base v cs) : ∃ A c, v = .slice A cs.length c ∧ CR w A cs.length cs ∧ cs.length ≤ c ∧ c ≤ maxLen := by
  obtain ⟨us, h1, h2, h3⟩ := h
  obtain ⟨A, c, e, hn, hm⟩ := own_form h1
  refine ⟨A, c, e, ⟨us, ?_, h2, fun i p q hp hq => ⟨(h3 i p q hp hq).1, (h3 i p q hp hq).2.1.vb, (h3 i p q hp hq).2.2.vp⟩⟩, hn, hm⟩
  rw [e] at h1
  exact Rd.of_own h1
/-- A change behind. -/
theorem OCW.push {us : List (Int × Value × Value)} (h2 : us.length = cs.length) (h3 : ∀ (i : Nat) (p : Ch) (q : Int × Value × Value), cs[i]? = some p → us[i]? = some q → q.1 = p.1 ∧ OB w base q.2.1 p.2.1 ∧ OW w base q.2.2 p.2.2) {a : Int} {u1 u2 : Value} {l : List UInt8} {ps : List Pc} (hu : OB w base u1 l) (hu2 : OW w base u2 ps) (hg : w.grownBy w4 v.ownBlock) (hv : ∀ k, v.ownBlock = some k → ∃ cur, w.heap[k]? = some (.cells cur 56 (0, 0)))
    (ho : w4.ownsRow base 56 3 v4 (cs.length + 1) (chs us ++ [.int .i64 a, u1, u2])) : OCW w4 base v4 (cs ++ [(a, l, ps)]) := by
  have o : Off (fun k => v.ownBlock = some k) w w4 := Off.of_grown hg (fun _ e => e)
  have t1 : ∀ {x : Value} {m : List UInt8}, OB w base x m → OB w4 base x m := fun {x m} hx => hx.ty o (fun k e => by
    obtain ⟨c2, e2⟩ := hv k e
    exact ⟨_, _, _, e2, by decide⟩)
  have t2 : ∀ {x : Value} {m : List Pc}, OW w base x m → OW w4 base x m := fun {x m} hx => hx.ty o (fun k e => by
    obtain ⟨c2, e2⟩ := hv k e
    exact ⟨_, _, _, e2, by decide, by decide⟩)
  refine ⟨us ++ [(a, u1, u2)], ?_, by rw [List.length_append, List.length_append, h2]; rfl, fun i p q hp hq => ?_⟩
  · rw [List.length_append, chs_append]
    exact ho
  · rcases Nat.lt_or_ge i cs.length with hi | hi
    · rw [List.getElem?_append_left hi] at hp
      rw [List.getElem?_append_left (by rw [h2]; exact hi)] at hq
      obtain ⟨h4, h5, h6⟩ := h3 i p q hp hq
      exact ⟨h4, t1 h5, t2 h6⟩
    · rw [List.getElem?_append_right hi] at hp
      rw [List.getElem?_append_right (by rw [h2]; exact hi), h2] at hq
      obtain h0 | h0 : i - cs.length = 0 ∨ 1 ≤ i - cs.length := by omega
      · rw [h0] at hp hq
        simp at hp hq
        subst hp hq
        exact ⟨rfl, t1 hu, t2 hu2⟩
      · rw [List.getElem?_eq_none (by simpa using h0)] at hp
        cases hp
end

/-- The record that is being read, in its variable. -/
structure VW (w0 w : World) (rb cb : Nat) (A : Option Addr) (n c : Nat) (s : Option Nat) (kd tx : Int) (v2 : Value) (cs : List Ch) : Prop where
  off : Off (· = rb) w0 w
  rs : RSt w rb A n c s
  cbk : w.heap[cb]? = some (.cells #[.int .u8 kd, .int .i64 tx, v2] 38 (0, 0))
  cn : w0.heap.size ≤ cb
  row : OCW w w0.heap.size v2 cs
  rl : rb < w0.heap.size
section
variable {w0 w w' w4 : World} {rb cb : Nat} {A : Option Addr} {n c : Nat} {s s' : Option Nat} {kd tx : Int} {v2 v4 : Value} {cs : List Ch}
theorem VW.turn (h : VW w0 w rb cb A n c s kd tx v2 cs) (ho : Off (· = rb) w w') (hr : RSt w' rb A n c s') : VW w0 w' rb cb A n c s' kd tx v2 cs := by
  have hs : ∀ k, w0.heap.size ≤ k → ¬ k = rb := fun k hk e => by have := h.rl; omega
  exact ⟨h.off.trans ho, hr, (ho.block cb (Array.getElem?_eq_some_iff.1 h.cbk).1 (hs cb h.cn)).trans h.cbk, h.cn, h.row.off ho hs, h.rl⟩
theorem VW.below (h : VW w0 w rb cb A n c s kd tx v2 cs) (hb : Below w.heap.size w w') : VW w0 w' rb cb A n c s kd tx v2 cs := h.turn (Off.of_below hb) (h.rs.below hb)
theorem VW.drew (h : VW w0 w rb cb A n c s kd tx v2 cs) : VW w0 w.drew rb cb A n c s kd tx v2 cs := h.below (gr_drewN (gr_refl _) 1)
theorem VW.c0 (h : VW w0 w rb cb A n c s kd tx v2 cs) : w.cell? ⟨cb, 0, none⟩ = some (.int .u8 kd) := by rw [cell_of_row w cb 0 _ _ _ h.cbk]; rfl
theorem VW.c1 (h : VW w0 w rb cb A n c s kd tx v2 cs) : w.cell? ⟨cb, 1, none⟩ = some (.int .i64 tx) := by rw [cell_of_row w cb 1 _ _ _ h.cbk]; rfl
theorem VW.c2 (h : VW w0 w rb cb A n c s kd tx v2 cs) : w.cell? ⟨cb, 2, none⟩ = some v2 := by rw [cell_of_row w cb 2 _ _ _ h.cbk]; rfl
theorem VW.push (h : VW w0 w rb cb A n c s kd tx v2 cs) {us : List (Int × Value × Value)} (r1 : w.ownsRow w0.heap.size 56 3 v2 cs.length (chs us)) (r2 : us.length = cs.length) (r3 : ∀ (i : Nat) (p : Ch) (q : Int × Value × Value), cs[i]? = some p → us[i]? = some q → q.1 = p.1 ∧ OB w w0.heap.size q.2.1 p.2.1 ∧ OW w w0.heap.size q.2.2 p.2.2) {a : Int} {u1 u2 : Value} {l : List UInt8} {ps : List Pc} (hu : OB w w0.heap.size u1 l) (hu2 : OW w w0.heap.size u2 ps)
    (ho : w4.ownsRow w0.heap.size 56 3 v4 (cs.length + 1) (chs us ++ [.int .i64 a, u1, u2])) (hg : (w.alloc (.cells #[.int .i64 a, u1, u2] 56)).grownBy w4 v2.ownBlock) :
    w4.cell? ⟨cb, 2, none⟩ = some v2 ∧ (∀ j, w4.frozen? ⟨cb, j, none⟩ = false) ∧ VW w0 (w4.setCell ⟨cb, 2, none⟩ v4) rb cb A n c s kd tx v4 (cs ++ [(a, l, ps)]) := by
  have hB := gr_alloc (gr_refl w) (.cells #[.int .i64 a, u1, u2] 56)
  have hb := h.below hB
  have o : Off (fun k => v2.ownBlock = some k) (w.alloc (.cells #[.int .i64 a, u1, u2] 56)) w4 := Off.of_grown hg (fun _ e => e)
  have hrow : ∀ k, v2.ownBlock = some k → ∃ cur, (w.alloc (.cells #[.int .i64 a, u1, u2] 56)).heap[k]? = some (.cells cur 56 (0, 0)) := fun k hk => by
    obtain ⟨cur, hc⟩ := own_blk r1 hk
    exact ⟨cur, (hB.block k (Array.getElem?_eq_some_iff.1 hc).1).trans hc⟩
  have hlow : ∀ k, v2.ownBlock = some k → w0.heap.size ≤ k := fun k hk => (r1.lt k hk).1
  have hcb : v2.ownBlock ≠ some cb := fun e => by
    obtain ⟨cur, hc⟩ := hrow cb e
    exact cells_ne hc hb.cbk (by decide)
  have hc4 : w4.heap[cb]? = some (.cells #[.int .u8 kd, .int .i64 tx, v2] 38 (0, 0)) := (o.block cb (Array.getElem?_eq_some_iff.1 hb.cbk).1 hcb).trans hb.cbk
  have o5 : Off (fun k => k = cb) w4 (w4.setCell ⟨cb, 2, none⟩ v4) := (Off.refl (fun k => k = cb) w4).setCell _ rfl
  have hrb : rb ≠ cb := fun e => by have := h.rl; have := h.cn; omega
  refine ⟨by rw [cell_of_row w4 cb 2 _ _ _ hc4]; rfl, fun j => by simp [World.frozen?, hc4], ?_, ?_, ?_, h.cn, ?_, h.rl⟩
  · exact (hb.off.grownNew hg hlow).setNew h.cn _ _
  · exact (hb.rs.off o (fun e => by have := hlow _ e; have := h.rl; omega)).off o5 hrb
  · simp only [World.setCell, Array.getElem?_modify, if_pos, hc4]
    rfl
  · have q := OCW.push (w4 := w4) r2 (fun i p q hp hq => ⟨(r3 i p q hp hq).1, (r3 i p q hp hq).2.1.below hB, (r3 i p q hp hq).2.2.below hB⟩) (hu.below hB) (hu2.below hB) hg hrow ho
    exact q.ty o5 (fun k e => by subst e; exact ⟨_, _, _, hc4, by decide, by decide, by decide⟩)
/-- The result's block, filled at the end. -/
theorem VW.done {w w0 w' : World} {rb cb ra : Nat} {A : Option Addr} {n c : Nat} {s : Option Nat} {kd tx : Int} {v2 : Value} {cs : List Ch} (h : VW w0 w' rb cb A n c s kd tx v2 cs) (hra : w.heap.size = ra) (hbA : Below w.heap.size w w0) (hz : w0.heap[ra]? = some (.cells #[.int .u8 0, .int .i64 0, .slice none 0 0] 38 (0, 0))) (hrl : rb < ra) (hcb : ra < cb) :
    w'.heap[ra]? = some (.cells #[.int .u8 0, .int .i64 0, .slice none 0 0] 38 (0, 0)) ∧ ∀ w2, w2 = ((w'.setCell ⟨ra, 0, none⟩ (.int .u8 kd)).setCell ⟨ra, 1, none⟩ (.int .i64 tx)).setCell ⟨ra, 2, none⟩ v2 →
      w2.heap[ra]? = some (.cells #[.int .u8 kd, .int .i64 tx, v2] 38 (0, 0)) ∧ OCW w2 w.heap.size v2 cs ∧ RSt w2 rb A n c s ∧ Off (· = rb) w w2 := by
  have hz' : w'.heap[ra]? = some (.cells #[.int .u8 0, .int .i64 0, .slice none 0 0] 38 (0, 0)) := (h.off.block ra (Array.getElem?_eq_some_iff.1 hz).1 (by omega)).trans hz
  refine ⟨hz', ?_⟩
  rintro w2 rfl
  have o : Off (fun k => k = ra) w' (((w'.setCell ⟨ra, 0, none⟩ (.int .u8 kd)).setCell ⟨ra, 1, none⟩ (.int .i64 tx)).setCell ⟨ra, 2, none⟩ v2) := (((Off.refl (fun k => k = ra) w').setCell _ rfl).setCell _ rfl).setCell _ rfl
  have hlow := hbA.size
  refine ⟨?_, (h.row.ty o (fun k e => by subst e; exact ⟨_, _, _, hz', by decide, by decide, by decide⟩)).lower hlow, h.rs.off o (by omega), ?_⟩
  · simp only [World.setCell, Array.getElem?_modify, if_pos, hz']
    rfl
  · exact ((((Off.of_below hbA).trans h.off).setNew (by omega) _ _).setNew (by omega) _ _).setNew (by omega) _ _
end
theorem info_change : (Try.prog.info? 56).map (fun i => (i.zero, i.size, i.bytes)) = some (some (.agg #[.int .i64 0, .slice none 0 0, .slice none 0 0]), 3, 56) := by kernel_rfl

set_option maxRecDepth 100000 in
set_option maxHeartbeats 8000000 in
theorem record_any (w : World) (rb : Nat) (A : Option Addr) (n c : Nat) (b : List UInt8) (h : RSt w rb A n c (some 0)) (hb : BR w A n b) (hA : ∀ ad, A = some ad → 0 < n → ad.block ≠ rb) (hn : n ≤ 211106232532992) (hnc : n ≤ c) (hc : c ≤ 9223372036854775807) :
    Calls Try.prog 40 #[.pointer (some ⟨rb, 0, none⟩)] w fun e w' => ∃ v, e = .returned (.agg #[.int .u8 ((pRecord b).1.kind : Int), .int .i64 (pRecord b).1.tx, v]) ∧ OCW w' w.heap.size v (pRecord b).1.cs ∧ RSt w' rb A n c (pRecord b).2 ∧ Off (· = rb) w w' := by
  obtain ⟨i1, hi1, hy0, hy1, hy2⟩ := info_parts info_change
  have HB : Hid (∀ w', Off (· = rb) w w' → BR w' A n b) := Lib.hid (fun w' ho => hb.off ho hA)
  have HA := Lib.hid hA
  have HRL := Lib.hid h.lt
  have hr := h.below (gr_alloc (gr_refl w) (.cells #[.int .u8 0, .int .i64 0, .slice none 0 0] 38))
  have HR := Lib.hid hr
  have hbA := gr_alloc (gr_refl w) (.cells #[.int .u8 0, .int .i64 0, .slice none 0 0] 38)
  have HBA := Lib.hid hbA
  have HZ := Lib.hid (heap_alloc_new w (.cells #[.int .u8 0, .int .i64 0, .slice none 0 0] 38))
  have HSZ : Hid (w.heap.size + 1 = (w.alloc (.cells #[.int .u8 0, .int .i64 0, .slice none 0 0] 38)).heap.size) := Lib.hid (by rw [World.size_alloc])
  clear hr hbA
  obtain ⟨kd, s1, e1⟩ : ∃ kd s1, pNum b 1 (some 0) = (kd, s1) := ⟨_, _, rfl⟩
  obtain ⟨tx, s2, e8⟩ : ∃ tx s2, pNum b 8 s1 = (tx, s2) := ⟨_, _, rfl⟩
  obtain ⟨pm, s3, e2⟩ : ∃ pm s3, pNum b 2 s2 = (pm, s3) := ⟨_, _, rfl⟩
  obtain ⟨pcs, s5, ep⟩ : ∃ pcs s5, pChanges b pm [] s3 = (pcs, s5) := ⟨_, _, rfl⟩
  have hkd : kd < 256 ^ 1 := by have := pNum_lt b 1 (some 0); rw [e1] at this; exact this
  have hpm : pm < 256 ^ 2 := by have := pNum_lt b 2 s2; rw [e2] at this; exact this
  have E1 : Hid (∀ w', RSt w' rb A n c (some 0) → BR w' A n b → Calls Try.prog 57 #[.pointer (some ⟨rb, 0, none⟩)] w' fun e w2 => e = .returned (.int .i64 (kd : Int)) ∧ RSt w2 rb A n c s1 ∧ Off (· = rb) w' w2) := Lib.hid (fun w' h1 h2 => by
    have X := one_any w' rb A n c b (some 0) h1 h2 hA (by omega)
    rw [e1] at X
    exact X)
  have E8 : Hid (∀ w', RSt w' rb A n c s1 → BR w' A n b → Calls Try.prog 59 #[.pointer (some ⟨rb, 0, none⟩)] w' fun e w2 => e = .returned (.int .i64 (toI tx)) ∧ RSt w2 rb A n c s2 ∧ Off (· = rb) w' w2) := Lib.hid (fun w' h1 h2 => by
    have X := eight_any w' rb A n c b s1 h1 h2 hA (by omega)
    rw [e8] at X
    exact X)
  have E2 : Hid (∀ w', RSt w' rb A n c s2 → BR w' A n b → Calls Try.prog 58 #[.pointer (some ⟨rb, 0, none⟩)] w' fun e w2 => e = .returned (.int .i64 (pm : Int)) ∧ RSt w2 rb A n c s3 ∧ Off (· = rb) w' w2) := Lib.hid (fun w' h1 h2 => by
    have X := two_any w' rb A n c b s2 h1 h2 hA (by omega)
    rw [e2] at X
    exact X)
  have HP : Hid (pRecord b = (⟨kd, toI tx, pcs⟩, s5)) := Lib.hid (by
    unfold pRecord
    simp only [e1, e8, e2, ep])
  have EP := Lib.hid ep
  clear hb hA e1 e8 e2 ep h
  generalize toI tx = ti at *
  go_enter Try.func40, Try.ntmps40
  go_wp2_with fail
  generalize hwA : w.alloc (.cells #[.int .u8 0, .int .i64 0, .slice none 0 0] 38) = wA at *
  clear hwA
  have oA : Off (· = rb) w wA := Off.of_below HBA.out
  have OA := Lib.hid oA
  refine (E1.out wA HR.out (HB.out _ oA)).mono ?_
  rintro e w1 ⟨rfl, h1, o1⟩
  have HX := Lib.hid (E8.out w1 h1 (HB.out _ (oA.trans o1)))
  have O1 := Lib.hid o1
  have b3 : (0 : Int) ≤ (kd : Int) := Int.natCast_nonneg _
  have b4 : (kd : Int) ≤ 255 := by omega
  clear h1 o1 oA HR E1 E8
  go_wp2_with fail
  refine HX.out.mono ?_
  rintro e w2 ⟨rfl, h2, o2⟩
  have H2 := Lib.hid h2
  have O2 := Lib.hid (O1.out.trans o2)
  clear h2 o2 HX O1
  go_wp2_with fail
  generalize hcb : w2.heap.size = cb at *
  have bw := gr_alloc (gr_refl w2) (.cells #[.int .u8 (kd : Int), .int .i64 ti, .slice none 0 0] 38)
  have vw : VW wA (w2.alloc (.cells #[.int .u8 (kd : Int), .int .i64 ti, .slice none 0 0] 38)) rb cb A n c s2 (kd : Int) ti (.slice none 0 0) [] :=
    ⟨O2.out.trans (Off.of_below bw), H2.out.below bw, by rw [← hcb]; exact heap_alloc_new w2 _, by rw [← hcb]; exact O2.out.size, OCW.nil _ _, by have := HRL.out; have := HSZ.out; omega⟩
  have HCL : Hid (w.heap.size < cb) := Lib.hid (by have h := O2.out.size; have h2 := HSZ.out; omega)
  clear bw H2 O2 hcb
  generalize w2.alloc (.cells #[.int .u8 (kd : Int), .int .i64 ti, .slice none 0 0] 38) = W2 at *
  have HX := Lib.hid (E2.out W2 vw.rs (HB.out _ (OA.out.trans vw.off)))
  have HCW := Lib.hid vw
  clear vw E2
  go_wp2_with fail
  refine HX.out.mono ?_
  rintro e w4 ⟨rfl, h4, o4⟩
  have cw4 := HCW.out.turn o4 h4
  have b0 : (0 : Int) ≤ (pm : Int) := Int.natCast_nonneg _
  have b1 : (pm : Int) ≤ 65535 := by omega
  clear HX HCW h4 o4
  go_wp2_with fail
  go_loopw [23] (fun i wr => ∃ (k : Nat) (acc : List Ch) (st : Option Nat) (v2 : Value), k ≤ pm ∧ i = .int .i64 k ∧ acc.length ≤ k ∧ VW wA wr rb cb A n c st (kd : Int) ti v2 acc ∧ Hid (pChanges b (pm - k) acc st = (pcs, s5))) (fun i _ => pm - (intOf i).toNat)
  case atStart => exact ⟨0, [], s3, _, by omega, rfl, by simp, cw4, EP⟩
  case round =>
    clear cw4 EP
    obtain ⟨k, acc, st, v2, hk, rfl, hacc, cw5, HE⟩ := hrel
    obtain ⟨A2, c2, hv2, _, _⟩ := own_form cw5.row.choose_spec.1
    subst hv2
    by_cases hlt : k < pm
    · have t1 : decide ((k : Int) < (pm : Int)) = true := by simp; omega
      have t2 : decide (k < pm) = true := by simp; omega
      obtain ⟨a, ha, hrb⟩ := cw5.rs.nb
      have k2 := hrb.c2
      cases st with
      | none =>
        obtain ⟨h1, h2⟩ : acc = pcs ∧ none = s5 := by
          have h := HE.out
          rw [show pm - k = (pm - k - 1) + 1 from by omega] at h
          unfold pChanges at h
          injection h with h1 h2
          exact ⟨h1, h2⟩
        subst h1 h2
        have k2' : wr.cell? ⟨rb, 2, none⟩ = some (.bool true) := k2
        have HCW := Lib.hid cw5
        clear k2 hrb ha cw5 HE hacc hlt hk
        go_upto_region 9 with fail
        generalize wr = w9 at *
        have HD := Lib.hid (HCW.out.done rfl HBA.out HZ.out HRL.out HCL.out)
        have k0 := HCW.out.c0
        have k1 := HCW.out.c1
        have k2 := HCW.out.c2
        have r0 : w9.cell? ⟨w.heap.size, 0, none⟩ = some (.int .u8 0) := by rw [cell_of_row w9 _ 0 _ _ _ HD.out.1]; rfl
        have r1 : w9.cell? ⟨w.heap.size, 1, none⟩ = some (.int .i64 0) := by rw [cell_of_row w9 _ 1 _ _ _ HD.out.1]; rfl
        have r2 : w9.cell? ⟨w.heap.size, 2, none⟩ = some (.slice none 0 0) := by rw [cell_of_row w9 _ 2 _ _ _ HD.out.1]; rfl
        have g0 : w9.frozen? ⟨w.heap.size, 0, none⟩ = false := by simp [World.frozen?, HD.out.1]
        have g1 : w9.frozen? ⟨w.heap.size, 1, none⟩ = false := by simp [World.frozen?, HD.out.1]
        have g2 : w9.frozen? ⟨w.heap.size, 2, none⟩ = false := by simp [World.frozen?, HD.out.1]
        go_wp2_with fail
        obtain ⟨f1, f2, f4, f5⟩ := HD.out.2 _ rfl
        clear HD k0 k1 k2 r0 r1 r2 g0 g1 g2
        generalize ((w9.setCell ⟨w.heap.size, 0, none⟩ (.int .u8 (kd : Int))).setCell ⟨w.heap.size, 1, none⟩ (.int .i64 ti)).setCell ⟨w.heap.size, 2, none⟩ (.slice A2 acc.length c2) = wf at *
        have z0 : wf.cell? ⟨w.heap.size, 0, none⟩ = some (.int .u8 (kd : Int)) := by rw [cell_of_row wf _ 0 _ _ _ f1]; rfl
        have z1 : wf.cell? ⟨w.heap.size, 1, none⟩ = some (.int .i64 ti) := by rw [cell_of_row wf _ 1 _ _ _ f1]; rfl
        have z2 : wf.cell? ⟨w.heap.size, 2, none⟩ = some ((.slice A2 acc.length c2)) := by rw [cell_of_row wf _ 2 _ _ _ f1]; rfl
        refine bodyPost_ret (v := .agg #[.int .u8 (kd : Int), .int .i64 ti, (.slice A2 acc.length c2)]) (by simp [results, Try.results40, go_sem, z0, z1, z2]) rfl ?_
        rw [HP.out]
        exact ⟨_, rfl, f2, f4, f5⟩
      | some x =>
        have k2' : wr.cell? ⟨rb, 2, none⟩ = some (.bool false) := k2
        obtain ⟨⟨pg, img, pps⟩, sb, eC⟩ : ∃ ch sb, pChange b (some x) = (ch, sb) := ⟨_, _, rfl⟩
        have HE2 : Hid (pChanges b (pm - (k + 1)) (acc ++ [(pg, img, pps)]) sb = (pcs, s5)) := Lib.hid (by
          have h := HE.out
          rw [show pm - k = (pm - (k + 1)) + 1 from by omega] at h
          unfold pChanges at h
          simp only [eC] at h
          exact h)
        have EC : Hid (∀ w', RSt w' rb A n c (some x) → BR w' A n b → Calls Try.prog 60 #[.pointer (some ⟨rb, 0, none⟩)] w' fun e w2 => ∃ v1 v2, e = .returned (.agg #[.int .i64 pg, v1, v2]) ∧ OB w2 w'.heap.size v1 img ∧ OW w2 w'.heap.size v2 pps ∧ RSt w2 rb A n c sb ∧ Off (· = rb) w' w2) := Lib.hid (fun w' h1 h2 => by
          have X := change_any w' rb A n c b (some x) h1 h2 HA.out hn hnc hc
          rw [eC] at X
          exact X)
        have y2 := cw5.c2
        have HCW := Lib.hid cw5
        clear k2 hrb ha cw5 HE eC
        go_wp2_with fail
        refine wp_region_lastL (by kernel_rfl) (by simp) (by kernel_rfl) (by kernel_rfl) ?_
        simp only [List.dropLast, List.length_cons, List.length_nil]
        refine wpAny_of_held (S := fun W => W.cell? ⟨cb, 2, none⟩ = some (.slice A2 acc.length c2)) _ _ _ _ ?_
        have hHeld : wr.drew.cell? ⟨cb, 2, none⟩ = some (.slice A2 acc.length c2) := y2
        have cwd := HCW.out.drew
        refine wpAnyH_take (i := 0) (v := ?_) rfl (by kernel_rfl) (by kernel_rfl) (by kernel_rfl) (fun _ _ _ h => h) (Or.inl ⟨by rfl, ?_⟩) hHeld ?_
        rotate_left
        · intro W hS
          (try dsimp only at hS)
          obtain s1 := hS
          (go_simp; try with_reducible rfl)
        try simp only [Act.put, List.setIfInBounds_toArray]
        refine wpAnyH_take (i := 1) (v := ?_) rfl (by kernel_rfl) (by kernel_rfl) (by kernel_rfl) (fun _ _ _ h => h) (Or.inl ⟨by rfl, ?_⟩) hHeld ?_
        rotate_left
        · intro W hS
          (try dsimp only at hS)
          obtain s1 := hS
          (go_simp; try with_reducible rfl)
        try simp only [Act.put]
        refine wpAnyH_take (i := 2) (v := ?_) rfl (by kernel_rfl) (by kernel_rfl) (by kernel_rfl) (fun _ _ _ h => h) (Or.inl ⟨by rfl, ?_⟩) hHeld ?_
        rotate_left
        · intro W hS
          (try dsimp only at hS)
          obtain s1 := hS
          (go_simp; try with_reducible rfl)
        try simp only [Act.put]
        refine wpAnyH_ready (rs := [3]) (by kernel_rfl) (by simp) ?_
        refine AllReadyH.cons rfl (fun KK hK => ?_) AllReadyH.nil
        try simp only [List.getElem_toArray, List.getElem_cons_succ, List.getElem_cons_zero]
        go_simp
        refine (EC.out _ cwd.rs (HB.out _ (OA.out.trans cwd.off))).mono ?_
        rintro e w7 ⟨u1, u2, rfl, ov1, ov2, h7, o7⟩
        have cw7 := cwd.turn o7 h7
        have ov1' := ov1.lower cwd.off.size
        have ov2' := ov2.lower cwd.off.size
        obtain ⟨Ap, cp, rfl, _, _⟩ := own_form ov1
        obtain ⟨Aq, cq, rfl, _, _⟩ := own_form ov2.choose_spec.1
        dsimp only
        refine hK.out _ _ ?_ (fun hHeld2 => ?_)
        · exact cw7.c2
        clear hK KK hHeld
        have hHeld := hHeld2
        clear hHeld2
        try simp only [Act.put, List.setIfInBounds_toArray, List.set_cons_zero, List.set_cons_succ]
        refine wpAnyH_ready (rs := [4]) (by kernel_rfl) (by simp) ?_
        refine AllReadyH.cons rfl (fun KK hK => ?_) AllReadyH.nil
        try simp only [List.getElem_toArray, List.getElem_cons_succ, List.getElem_cons_zero]
        go_simp
        refine hK.out _ _ ?_ (fun hHeld2 => ?_)
        · exact (cw7.below (gr_alloc (gr_refl w7) (.cells #[.int .i64 pg, .slice Ap img.length cp, .slice Aq pps.length cq] 56))).c2
        clear hK KK hHeld
        have hHeld := hHeld2
        clear hHeld2
        try simp only [Act.put, List.setIfInBounds_toArray, List.set_cons_zero, List.set_cons_succ]
        refine wpAnyH_ready (rs := [5]) (by kernel_rfl) (by simp) ?_
        refine AllReadyH.cons rfl (fun KK hK => ?_) AllReadyH.nil
        try simp only [List.getElem_toArray, List.getElem_cons_succ, List.getElem_cons_zero]
        obtain ⟨us, r1, r2, r3⟩ := cw7.row
        have hsz := cw7.off.size
        rw [if_pos (by rfl)]
        refine wp_append_Rd _ (.tmp 30) (.tmp 33) _ rfl wA.heap.size 56 i1 _ 3 56 Try.underlying36 hi1 hy0 hy1 hy2 rfl (.slice A2 acc.length c2) acc.length (chs us) rfl (r1.alloc _) (some ⟨w7.heap.size, 0, none⟩) 1 1 [.int .i64 pg, .slice Ap img.length cp, .slice Aq pps.length cq] rfl (Rd.new w7 _ #[.int .i64 pg, .slice Ap img.length cp, .slice Aq pps.length cq] 1 3 rfl) (by simp [Value.oneCell']) (by omega) (by simp only [maxLen]; omega) (by rw [World.size_alloc]; omega) ?_
        intro v8 w8 ho8 hg8 _ _
        obtain ⟨y8, z8, cw8⟩ := cw7.push r1 r2 r3 ov1' ov2' ho8 hg8
        obtain ⟨A8, c8, rfl, _, _⟩ := own_form ho8
        have z8' := z8 2
        have HC8 := Lib.hid cw8
        clear ho8 hg8 z8 cw8 r1 r2 r3 us ov1 ov2 ov1' ov2' cw7 h7 o7 cwd
        refine hK.out _ _ ?_ (fun hHeld2 => ?_)
        · exact y8
        clear hK KK hHeld
        have hHeld := hHeld2
        clear hHeld2
        try simp only [Act.put, List.setIfInBounds_toArray, List.set_cons_zero, List.set_cons_succ]
        refine wpAnyH_take (i := 6) (v := ?_) rfl (by kernel_rfl) (by kernel_rfl) (by kernel_rfl) (fun _ _ _ h => h) (Or.inl ⟨by rfl, ?_⟩) hHeld ?_
        rotate_left
        · intro W hS
          (try dsimp only at hS)
          obtain s1 := hS
          (go_simp; try with_reducible rfl)
        try simp only [Act.put, List.setIfInBounds_toArray]
        refine wpAnyH_done (by kernel_rfl) ?_ _
        refine lastQ_step (o := _) rfl (fun KK hK => ?_)
        try simp only [List.getElem_toArray, List.getElem_cons_succ, List.getElem_cons_zero]
        go_simp
        refine hK _ _ ?_
        go_wp2_with fail
        go_roundw
        case rel => exact ⟨k + 1, _, sb, _, by omega, by go_num, by rw [List.length_append]; simp; omega, HC8.out, HE2⟩
        case measure => simp [intOf]; omega
    · obtain rfl : pm = k := by omega
      have t1 : decide ((pm : Int) < (pm : Int)) = false := by simp
      have t2 : decide (pm < pm) = false := by simp
      obtain ⟨h1, h2⟩ : acc = pcs ∧ st = s5 := by
        have h := HE.out
        rw [Nat.sub_self] at h
        unfold pChanges at h
        injection h with h1 h2
        exact ⟨h1, h2⟩
      subst h1 h2
      have HCW := Lib.hid cw5
      clear cw5 HE hacc hlt hk
      go_upto_region 9 with fail
      generalize wr = w9 at *
      have HD := Lib.hid (HCW.out.done rfl HBA.out HZ.out HRL.out HCL.out)
      have k0 := HCW.out.c0
      have k1 := HCW.out.c1
      have k2 := HCW.out.c2
      have r0 : w9.cell? ⟨w.heap.size, 0, none⟩ = some (.int .u8 0) := by rw [cell_of_row w9 _ 0 _ _ _ HD.out.1]; rfl
      have r1 : w9.cell? ⟨w.heap.size, 1, none⟩ = some (.int .i64 0) := by rw [cell_of_row w9 _ 1 _ _ _ HD.out.1]; rfl
      have r2 : w9.cell? ⟨w.heap.size, 2, none⟩ = some (.slice none 0 0) := by rw [cell_of_row w9 _ 2 _ _ _ HD.out.1]; rfl
      have g0 : w9.frozen? ⟨w.heap.size, 0, none⟩ = false := by simp [World.frozen?, HD.out.1]
      have g1 : w9.frozen? ⟨w.heap.size, 1, none⟩ = false := by simp [World.frozen?, HD.out.1]
      have g2 : w9.frozen? ⟨w.heap.size, 2, none⟩ = false := by simp [World.frozen?, HD.out.1]
      go_wp2_with fail
      obtain ⟨f1, f2, f4, f5⟩ := HD.out.2 _ rfl
      clear HD k0 k1 k2 r0 r1 r2 g0 g1 g2
      generalize ((w9.setCell ⟨w.heap.size, 0, none⟩ (.int .u8 (kd : Int))).setCell ⟨w.heap.size, 1, none⟩ (.int .i64 ti)).setCell ⟨w.heap.size, 2, none⟩ (.slice A2 acc.length c2) = wf at *
      have z0 : wf.cell? ⟨w.heap.size, 0, none⟩ = some (.int .u8 (kd : Int)) := by rw [cell_of_row wf _ 0 _ _ _ f1]; rfl
      have z1 : wf.cell? ⟨w.heap.size, 1, none⟩ = some (.int .i64 ti) := by rw [cell_of_row wf _ 1 _ _ _ f1]; rfl
      have z2 : wf.cell? ⟨w.heap.size, 2, none⟩ = some ((.slice A2 acc.length c2)) := by rw [cell_of_row wf _ 2 _ _ _ f1]; rfl
      refine bodyPost_ret (v := .agg #[.int .u8 (kd : Int), .int .i64 ti, (.slice A2 acc.length c2)]) (by simp [results, Try.results40, go_sem, z0, z1, z2]) rfl ?_
      rw [HP.out]
      exact ⟨_, rfl, f2, f4, f5⟩

end Go.Proofs.Ythpjjoahffagcaa
