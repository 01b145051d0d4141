/-
  Texts of this claim, joined: RgB, Rgn, RgC, JnB, JnD, JnE, JnG, JnC, JnF, PlJ, PlK, PlY, JnI, EnA. No statement of the program is proved here.
-/
import Derived.Test.YtnkeclpgpiogoaaGreatPkE4
import Derived.Test.YtnkeclpgpiogoaaGreatPkE2
/-! RgB -/
namespace Go.Proofs.YtnkeclpgpiogoaaGreat
open Go.RowKit
structure ES (w0 w : World) (A : Option Addr) (c : Nat) (L : List UInt8) : Prop where
 ob : OB w w0.heap.size (.slice A L.length c) L
 bel : Below w0.heap.size w0 w
section
variable {w0 w w' : World} {A : Option Addr} {c : Nat} {L : List UInt8}
set_option maxRecDepth 100000 in
theorem ES.below (h : ES w0 w A c L) (hb : Below w.heap.size w w') : ES w0 w' A c L := ⟨h.ob.below hb, gr_trans h.bel hb⟩
set_option maxRecDepth 100000 in
theorem ES.br (h : ES w0 w A c L) : BR w A L.length L := by
 obtain ⟨A', c', e, hr, _, _⟩ := h.ob.form
 injection e with e _ _
 subst e
 exact hr
end
end Go.Proofs.YtnkeclpgpiogoaaGreat

/-! Rgn -/
namespace Go.Proofs.YtnkeclpgpiogoaaGreat
open Go Go.RowKit
section
variable {P : Program} {ops : Array Oper} {Q : Exit → Act → World → Prop} {Rs : List MP} {w0 : World} {AA : (Nat → Value) → Act}
def unl (ops : Array Oper) (listed : Array Bool) : Nat := ((List.range ops.size).filter (fun j => !listed.getD j false)).length
set_option maxRecDepth 100000 in
theorem unl_step {listed : Array Bool} {i : Nat} (hs : listed.size = ops.size) (hil : i < ops.size) (h1 : listed.getD i true = false) : unl ops (listed.setIfInBounds i true) + 1 = unl ops listed := by
 unfold unl
 have hli : listed.getD i false = false := by
  rw [Array.getD_eq_getD_getElem?, Array.getElem?_eq_getElem (show i < listed.size by omega)] at h1 ⊢
  exact h1
 have e1 : (List.range ops.size).filter (fun j => !(listed.setIfInBounds i true).getD j false) = ((List.range ops.size).filter (fun j => !listed.getD j false)).erase i := by
  rw [List.Nodup.erase_eq_filter (List.Nodup.sublist List.filter_sublist List.nodup_range), List.filter_filter]
  refine List.filter_congr (fun j hj => ?_)
  by_cases e : j = i
  ·subst e
   have : (listed.setIfInBounds j true).getD j false = true := by
    rw [Array.getD_eq_getD_getElem?, Array.getElem?_setIfInBounds_self_of_lt (by omega)]
    rfl
   rw [this]
   simp
  ·rw [getD_set_ne false (Ne.symm e)]
   simp [e]
 have hm : i ∈ (List.range ops.size).filter (fun j => !listed.getD j false) := List.mem_filter.2 ⟨List.mem_range.2 hil, by rw [hli]; rfl⟩
 rw [e1, List.length_erase_of_mem hm]
 have := List.length_pos_of_mem hm
 omega
set_option maxRecDepth 100000 in
theorem board_ext {l m : Array Bool} (hs : l.size = m.size) (h : ∀ k, k < l.size → l.getD k false = m.getD k false) : l = m := by
 apply Array.ext hs
 intro k h1 h2
 have := h k h1
 rw [Array.getD_eq_getD_getElem?, Array.getD_eq_getD_getElem?, Array.getElem?_eq_getElem h1, Array.getElem?_eq_getElem h2] at this
 exact this
set_option maxRecDepth 100000 in
theorem wpAny_tail (hb : edgesBack .any ops = true) {a : Act} (hAA : ∀ f, putA ops f a ops.size = AA f) (hd : dstsApart ops = true) (hk : looksBack .any ops = true) (hsel : Region.noSelect ops = true)
  (T : Nat → Bool) (lm : Array Bool) (hlm : lm.size = ops.size) (hlT : ∀ k, k < ops.size → lm.getD k false = !T k) (l0 : Array Bool)
  (hTn : ∀ i, i < ops.size → T i = true → ∀ j, j < ops.size → T j = false → (needsOf .any ops i).contains j = true ∨ l0.getD j false = true)
  (hst : ∀ i, i < ops.size → T i = false → l0.getD i false = false → ∀ o, ops[i]? = some o → StepOK P ops Rs w0 AA i o)
  (hnlt : ∀ i j, i < ops.size → (needsOf .any ops i).contains j = true → j < ops.size)
  (hend : ∀ f w, Below w0.heap.size w0 w → (∀ j, j < ops.size → T j = false → (Rs.getD j MP.any).p (f j) w) → wpAny P .any ops Q (unl ops lm) lm (putL ops lm f a ops.size) w) :
  ∀ (m : Nat) (listed : Array Bool) (f : Nat → Value) (w : World), listed.size = ops.size → closedL .any ops listed → (∀ j, j < ops.size → T j = true → listed.getD j false = false) → (∀ j, l0.getD j false = true → listed.getD j false = true) → Below w0.heap.size w0 w → (∀ j, j < ops.size → listed.getD j false = true → (Rs.getD j MP.any).p (f j) w) → unl ops listed = m + unl ops lm →
   wpAny P .any ops Q (unl ops listed) listed (putL ops listed f a ops.size) w := by
 intro m
 induction m with
 | zero =>
  intro listed f w hs hc hT h0 hB hR hm
  -- all but the tail are listed
  have hall : listed = lm := by
   refine board_ext (hs.trans hlm.symm) (fun k hkl => ?_)
   rw [hlT k (by omega)]
   cases hTk : T k with
   | true => rw [hT k (by omega) hTk]; rfl
   | false =>
    -- else there were one more
    cases hlk : listed.getD k false with
    | true => rfl
    | false =>
     exfalso
     have hlt : unl ops lm < unl ops listed := by
      unfold unl
      have e1 : (List.range ops.size).filter (fun j => !lm.getD j false) = ((List.range ops.size).filter (fun j => !listed.getD j false)).filter (fun j => !lm.getD j false) := by
       rw [List.filter_filter]
       refine List.filter_congr (fun j hj => ?_)
       have hjl := List.mem_range.1 hj
       rw [hlT j hjl]
       cases hTj : T j with
       | true => rw [hT j hjl hTj]; rfl
       | false => simp
      rw [e1]
      refine List.length_filter_lt_length_iff_exists.2 ⟨k, List.mem_filter.2 ⟨List.mem_range.2 (by omega), by rw [hlk]; rfl⟩, ?_⟩
      rw [hlT k (by omega), hTk]
      simp
     omega
  subst hall
  exact hend f w hB (fun j hj hTj => hR j hj (by rw [hlT j hj, hTj]; rfl))
 | succ m ih =>
  intro listed f w hs hc hT h0 hB hR hm
  have hpos : unl ops listed = (m + unl ops lm) + 1 := by omega
  rw [hpos]
  -- one that is no tail is not listed
  have hex : ∃ k, k < ops.size ∧ T k = false ∧ listed.getD k false = false := by
   apply Classical.byContradiction
   intro hno
   have hall : listed = lm := by
    refine board_ext (hs.trans hlm.symm) (fun k hkl => ?_)
    rw [hlT k (by omega)]
    cases hTk : T k with
    | true => rw [hT k (by omega) hTk]; rfl
    | false =>
     cases hlk : listed.getD k false with
     | true => rfl
     | false => exact absurd ⟨k, by omega, hTk, hlk⟩ hno
   rw [hall] at hm
   omega
  obtain ⟨k, hkl, hTk, hlk⟩ := hex
  refine ⟨fun hr => ?_, fun i hi => ?_⟩
  ·have := all_listed hb hs hr ops.size (Nat.le_refl _) k hkl
   rw [hlk] at this
   cases this
  ·obtain ⟨h1, o, ho, hall⟩ := mem_ready.1 hi
   have hil : i < ops.size := (Array.getElem?_eq_some_iff.1 ho).1
   have hneed : ∀ j, (needsOf .any ops i).contains j = true → listed.getD j false = true := by
    intro j hj
    refine needs_listed hc hs ops.size (depsOf .any ops i) (fun k hk2 => ?_) j (by simpa [needsOf] using hj)
    unfold depsOf at hk2
    rw [ho] at hk2
    simp only [List.mem_map, List.mem_filter, Array.mem_toList_iff] at hk2
    obtain ⟨e, ⟨he, hbd⟩, rfl⟩ := hk2
    exact hall e he hbd
   have hTi : T i = false := by
    cases hTi : T i with
    | false => rfl
    | true =>
     rcases hTn i hil hTi k hkl hTk with h | h
     ·rw [hneed k h] at hlk; cases hlk
     ·rw [h0 k h] at hlk; cases hlk
   have hli0 : l0.getD i false = false := by
    cases hl : l0.getD i false with
    | false => rfl
    | true =>
     have := h0 i hl
     rw [Array.getD_eq_getD_getElem?, Array.getElem?_eq_getElem (show i < listed.size by omega)] at h1 this
     simp only [Option.getD_some] at h1 this
     rw [h1] at this
     cases this
   refine wpOp_mono (fun a' w' => ?_) (mono_step ho hAA hd hk hsel hs h1 hneed hB hR (hst i hil hTi hli0 o ho) (fun j => hnlt i j hil))
   rintro ⟨f', rfl, hB', hR'⟩
   have hu := unl_step (ops := ops) hs hil h1
   have hu2 : unl ops (listed.setIfInBounds i true) = m + unl ops lm := by omega
   rw [← hu2]
   refine ih (listed.setIfInBounds i true) f' w' (by simp [hs]) (fun j x hx hj e he hbd => ?_) (fun j hj hTj => ?_) (fun j hj => getD_set_true (h0 j hj)) hB' hR' hu2
   ·by_cases e0 : i = j
    ·subst e0
     rw [ho] at hx
     cases hx
     exact getD_set_true (hall e he hbd)
    ·rw [getD_set_ne true e0] at hj
     exact getD_set_true (hc j x hx hj e he hbd)
   ·by_cases e0 : i = j
    ·subst e0
     rw [hTi] at hTj
     cases hTj
    ·rw [getD_set_ne false e0]
     exact hT j hj hTj
def closedB (ops : Array Oper) (listed : Array Bool) : Bool := (List.range ops.size).all fun j => !listed.getD j true || (depsOf .any ops j).all fun k => listed.getD k false
set_option maxRecDepth 100000 in
theorem closedB_spec {listed : Array Bool} (h : closedB ops listed = true) : closedL .any ops listed := by
 intro j x hx hj e he hbd
 unfold closedB at h
 rw [List.all_eq_true] at h
 have h1 := h j (List.mem_range.2 (Array.getElem?_eq_some_iff.1 hx).1)
 rw [hj] at h1
 simp only [Bool.not_true, Bool.false_or, List.all_eq_true] at h1
 exact h1 e.on (by
  unfold depsOf
  rw [hx]
  exact List.mem_map.2 ⟨e, List.mem_filter.2 ⟨by simpa using he, hbd⟩, rfl⟩)
def tailB (ops : Array Oper) (T : Nat → Bool) (l0 : Array Bool) : Bool := (List.range ops.size).all fun i => !T i || (List.range ops.size).all fun j => T j || (needsOf .any ops i).contains j || l0.getD j false
set_option maxRecDepth 100000 in
theorem wpAny_to_tail {n : Nat} {a : Act} {w : World} {l0 : Array Bool} (hb : edgesBack .any ops = true) (hd : dstsApart ops = true) (hk : looksBack .any ops = true) (hsel : Region.noSelect ops = true)
  (hnl : ((List.range ops.size).all fun i => (needsOf .any ops i).all fun j => decide (j < ops.size)) = true) (Rs : List MP) (T : Nat → Bool) (lm : Array Bool)
  (hlm : lm.size = ops.size) (hlT : ((List.range ops.size).all fun k => lm.getD k false == !T k) = true) (hs0 : l0.size = ops.size) (hc0 : closedB ops l0 = true) (hT0 : ((List.range ops.size).all fun j => !T j || !l0.getD j false) = true) (hTn : tailB ops T l0 = true) (hn : unl ops l0 = n)
  (f0 : Nat → Value) (ha : putL ops l0 f0 a ops.size = a) (hR0 : ∀ j ∈ (List.range ops.size).filter (fun j => l0.getD j false), (Rs.getD j MP.any).p (f0 j) w)
  (hAA : ∀ f, putA ops f a ops.size = AA f)
  (hst : Steps P ops Rs w AA ((List.range ops.size).filter fun j => !T j && !l0.getD j false))
  (hend : ∀ f w', Below w.heap.size w w' → (∀ j, j < ops.size → T j = false → (Rs.getD j MP.any).p (f j) w') → wpAny P .any ops Q (unl ops lm) lm (putL ops lm f a ops.size) w') : wpAny P .any ops Q n l0 a w := by
 have hmono : unl ops lm ≤ unl ops l0 := by
  unfold unl
  refine List.Sublist.length_le ?_
  have e1 : (List.range ops.size).filter (fun j => !lm.getD j false) = ((List.range ops.size).filter (fun j => !l0.getD j false)).filter (fun j => !lm.getD j false) := by
   rw [List.filter_filter]
   refine List.filter_congr (fun j hj => ?_)
   rw [List.all_eq_true] at hlT hT0
   have h1 := hlT j hj
   have h2 := hT0 j hj
   simp only [beq_iff_eq] at h1
   rw [h1]
   cases hTj : T j with
   | true => rw [hTj] at h2; simpa using h2
   | false => simp
  rw [e1]
  exact List.filter_sublist
 have h := wpAny_tail (P := P) (Q := Q) (w0 := w) hb hAA hd hk hsel T lm hlm (fun k hk => by rw [List.all_eq_true] at hlT; simpa using hlT k (List.mem_range.2 hk)) l0
  (fun i hi hTi j hj hTj => by
   unfold tailB at hTn
   rw [List.all_eq_true] at hTn
   have h1 := hTn i (List.mem_range.2 hi)
   rw [hTi] at h1
   simp only [Bool.not_true, Bool.false_or, List.all_eq_true] at h1
   have h2 := h1 j (List.mem_range.2 hj)
   rw [hTj] at h2
   simpa using h2)
  (fun i hi hTi hli o ho => hst i (List.mem_filter.2 ⟨List.mem_range.2 hi, by rw [hTi, hli]; rfl⟩) o ho)
  (fun i j hi hj => by
   rw [List.all_eq_true] at hnl
   have h1 := hnl i (List.mem_range.2 hi)
   rw [List.all_eq_true] at h1
   simpa using h1 j (by simpa using hj))
  hend (unl ops l0 - unl ops lm) l0 f0 w hs0 (closedB_spec hc0) (fun j hj hTj => by
   rw [List.all_eq_true] at hT0
   have h1 := hT0 j (List.mem_range.2 hj)
   rw [hTj] at h1
   simpa using h1) (fun _ h => h) (Below.refl _ _) (fun j hj hlj => hR0 j (List.mem_filter.2 ⟨List.mem_range.2 hj, hlj⟩)) (by omega)
 rw [hn, ha] at h
 exact h
set_option maxRecDepth 100000 in
theorem Steps.of_list {Rs : List MP} {l l' : List Nat} (e : l = l') (h : Steps P ops Rs w0 AA l') : Steps P ops Rs w0 AA l := e ▸ h
end
end Go.Proofs.YtnkeclpgpiogoaaGreat

/-! RgC -/
namespace Go.Proofs.YtnkeclpgpiogoaaGreat
open Go.RowKit
def MP.ob (base : Nat) (l : List UInt8) : MP := ⟨fun u w => ∃ A c, u = .slice A l.length c ∧ OB w base (.slice A l.length c) l, fun _ _ _ hb ⟨A, c, e, h⟩ => ⟨A, c, e, h.below hb⟩⟩
structure CQ (w wr : World) (k tx : Int) (av : Value) (v : Value) (acc : List Ch) : Prop where
 a : wr.heap[w.heap.size]? = some (.cells #[.int .u8 k, .int .i64 tx, av] 114 (0, 0))
 r : wr.heap[w.heap.size + 1]? = some (.cells #[.int .u8 0, .int .i64 0, .slice none 0 0] 114 (0, 0))
 o : wr.heap[w.heap.size + 2]? = some (.cells #[.int .u8 k, .int .i64 tx, v] 114 (0, 0))
 row : OCW wr w.heap.size v acc
 bel : Below w.heap.size w wr
section
variable {w wr w4 : World} {k tx : Int} {av v v4 : Value} {acc : List Ch}
set_option maxRecDepth 100000 in
theorem CQ.below (h : CQ w wr k tx av v acc) (hb : Below wr.heap.size wr w4) : CQ w w4 k tx av v acc :=
 ⟨(hb.block _ (Array.getElem?_eq_some_iff.1 h.a).1).trans h.a, (hb.block _ (Array.getElem?_eq_some_iff.1 h.r).1).trans h.r, (hb.block _ (Array.getElem?_eq_some_iff.1 h.o).1).trans h.o, h.row.below hb, gr_trans h.bel hb⟩
set_option maxRecDepth 100000 in
theorem CQ.push (h : CQ w wr k tx av v acc) {us : List (Int × Value × Value)} (r1 : wr.ownsRow w.heap.size 117 3 v acc.length (chs us)) (r2 : us.length = acc.length) (r3 : ∀ (i : Nat) (p : Ch) (q : Int × Value × Value), acc[i]? = some p → us[i]? = some q → q.1 = p.1 ∧ OB wr w.heap.size q.2.1 p.2.1 ∧ OW wr w.heap.size q.2.2 p.2.2) {a : Int} {u1 u2 : Value} {l : List UInt8} {ps : List Pc} (hu : OB wr w.heap.size u1 l) (hu2 : OW wr w.heap.size u2 ps)
  (ho : w4.ownsRow w.heap.size 117 3 v4 (acc.length + 1) (chs us ++ [.int .i64 a, u1, u2])) (hg : wr.grownBy w4 v.ownBlock) :
  w4.cell? ⟨w.heap.size + 2, 2, none⟩ = some v ∧ (∀ j, w4.frozen? ⟨w.heap.size + 2, j, none⟩ = false) ∧ CQ w (w4.setCell ⟨w.heap.size + 2, 2, none⟩ v4) k tx av v4 (acc ++ [(a, l, ps)]) := by
 have o : Off (fun k => v.ownBlock = some k) wr w4 := Off.of_grown hg (fun _ e => e)
 have hne : ∀ {j : Nat} {cs : Array Value}, wr.heap[j]? = some (.cells cs 114 (0, 0)) → w4.heap[j]? = some (.cells cs 114 (0, 0)) := fun {j cs} hj =>
  (o.block j (Array.getElem?_eq_some_iff.1 hj).1 (fun e => by
   obtain ⟨cur, hc⟩ := own_blk r1 e
   exact cells_ne hc hj (by decide))).trans hj
 have ha := hne h.a
 have hr := hne h.r
 have hc4 := hne h.o
 have o5 : Off (fun k => k = w.heap.size + 2) w4 (w4.setCell ⟨w.heap.size + 2, 2, none⟩ v4) := (Off.refl (fun k => k = w.heap.size + 2) w4).setCell _ rfl
 refine ⟨by rw [cell_of_row w4 _ 2 _ _ _ hc4]; rfl, fun j => by simp [World.frozen?, hc4], ?_, ?_, ?_, ?_, ?_⟩
 ·exact (o5.block _ (Array.getElem?_eq_some_iff.1 ha).1 (by omega)).trans ha
 ·exact (o5.block _ (Array.getElem?_eq_some_iff.1 hr).1 (by omega)).trans hr
 ·simp only [World.setCell, Array.getElem?_modify, if_pos, hc4]
  rfl
 ·have q := OCW.push (w4 := w4) r2 r3 hu hu2 hg (fun k hk => own_blk r1 hk) ho
  exact q.ty o5 (fun k e => by subst e; exact ⟨_, _, _, hc4, by decide, by decide, by decide⟩)
 ·exact (gr_own h.bel r1 hg).setCell (by simp) _
end
end Go.Proofs.YtnkeclpgpiogoaaGreat

/-! JnB -/
namespace Go.Proofs.YtnkeclpgpiogoaaGreat
open Go Go.RowKit
def ofN (ep c : Nat) : Nat := ep % 4294967296 * 4294967296 + c % 4294967296
set_option maxRecDepth 100000 in
theorem ofN_lt (ep c : Nat) : ofN ep c < 18446744073709551616 := by unfold ofN; omega
def sealL (v : Nat) (l : List UInt8) : List UInt8 := leB v 8 ++ (l ++ List.replicate (4080 - l.length) 0) ++ leB v 8
def payL (b : List UInt8) (i : Nat) : List UInt8 := leB (b.length - i * 4076) 4 ++ (b.drop (i * 4076)).take 4076
set_option maxRecDepth 100000 in
theorem payL_len (b : List UInt8) (i : Nat) : (payL b i).length ≤ 4080 := by unfold payL; rw [List.length_append, leB_length, List.length_take]; omega
set_option maxRecDepth 100000 in
theorem sealL_len {v : Nat} {l : List UInt8} (h : l.length ≤ 4080) : (sealL v l).length = 4096 := by unfold sealL; simp only [List.length_append, leB_length, List.length_replicate]; omega
def wsL (fi bl ep pl ct : Nat) (b : List UInt8) : List (Nat × List UInt8) := (List.range (needL b.length)).map fun i => (fi + (pl + i) % bl, sealL (ofN ep (ct + i)) (payL b i))
set_option maxRecDepth 100000 in
theorem wsL_len (fi bl ep pl ct : Nat) (b : List UInt8) : (wsL fi bl ep pl ct b).length = needL b.length := by simp [wsL]
set_option maxRecDepth 100000 in
theorem wsL_at {fi bl ep pl ct : Nat} {b : List UInt8} {i : Nat} (h : i < needL b.length) : (wsL fi bl ep pl ct b)[i]? = some (fi + (pl + i) % bl, sealL (ofN ep (ct + i)) (payL b i)) := by
 unfold wsL
 rw [List.getElem?_map, List.getElem?_range h]
 rfl
def putAll : DiskS → List (Nat × List UInt8) → DiskS × Int
 | D, [] => (D, 0)
 | D, p :: ps => if writeE D p.1 p.2.length ≠ 0 then (writeD D p.1 p.2, writeE D p.1 p.2.length) else putAll (writeD D p.1 p.2) ps
set_option maxRecDepth 100000 in
theorem putAll_snoc : ∀ (ps : List (Nat × List UInt8)) (D : DiskS) (p : Nat × List UInt8), putAll D (ps ++ [p]) = if (putAll D ps).2 ≠ 0 then putAll D ps else (writeD (putAll D ps).1 p.1 p.2, writeE (putAll D ps).1 p.1 p.2.length)
 | [], D, p => by
  simp only [List.nil_append, putAll]
  by_cases h : writeE D p.1 p.2.length = 0
  ·simp [h]
  ·simp [h]
 | q :: ps, D, p => by
  simp only [List.cons_append, putAll]
  by_cases h : writeE D q.1 q.2.length = 0
  ·simp only [h, ne_eq, not_true_eq_false, if_false]
   exact putAll_snoc ps _ p
  ·simp [h]
set_option maxRecDepth 100000 in
theorem putAll_stop : ∀ (ps qs : List (Nat × List UInt8)) (D : DiskS), (putAll D ps).2 ≠ 0 → putAll D (ps ++ qs) = putAll D ps
 | [], _, _, h => absurd rfl h
 | q :: ps, qs, D, h => by
  simp only [List.cons_append, putAll] at h ⊢
  by_cases e : writeE D q.1 q.2.length = 0
  ·simp only [e, ne_eq, not_true_eq_false, if_false] at h ⊢
   exact putAll_stop ps qs _ h
  ·simp [e]
def flushD (D : DiskS) (ws : List (Nat × List UInt8)) : DiskS := if (putAll D ws).2 ≠ 0 then (putAll D ws).1 else syncD (putAll D ws).1
def flushE (D : DiskS) (ws : List (Nat × List UInt8)) : Int := if (putAll D ws).2 ≠ 0 then (putAll D ws).2 else opC (putAll D ws).1
set_option maxRecDepth 100000 in
theorem writeD_pl (D : DiskS) (b : Int) (m : List UInt8) : (writeD D b m).pending.length ≤ D.pending.length + 1 ∧ (writeD D b m).blocks.length = D.blocks.length := by
 unfold writeD
 split
 ·exact ⟨Nat.le_succ _, rfl⟩
 ·split
  ·exact ⟨Nat.le_succ _, rfl⟩
  ·exact ⟨by simp, rfl⟩
set_option maxRecDepth 100000 in
theorem putAll_pl : ∀ (ps : List (Nat × List UInt8)) (D : DiskS), (putAll D ps).1.pending.length ≤ D.pending.length + ps.length ∧ (putAll D ps).1.blocks.length = D.blocks.length
 | [], D => ⟨Nat.le_refl _, rfl⟩
 | q :: ps, D => by
  have h := writeD_pl D q.1 q.2
  simp only [putAll]
  split
  ·exact ⟨by have := h.1; simp only [List.length_cons]; omega, h.2⟩
  ·have k := putAll_pl ps (writeD D q.1 q.2)
   exact ⟨by have := h.1; have := k.1; simp only [List.length_cons]; omega, k.2.trans h.2⟩
set_option maxRecDepth 100000 in
theorem DPost.more {w w1 w2 : World} {ok : Nat → Prop} {base g : Nat} {F : Nat → Prop} {D : DiskS} (h : DPost w ok base g F D w1) (hb : Below w1.heap.size w1 w2) : DPost w ok base g F D w2 := by
 obtain ⟨h1, F', h2, h3⟩ := h
 exact ⟨h1.trans (Off.of_below hb), F', h2.below hb, h3⟩
set_option maxRecDepth 100000 in
theorem Off.chain {S T : Nat → Prop} {w w1 w2 : World} (h : Off S w w1) (k : Off T w1 w2) (hT : ∀ j, T j → S j ∨ w.heap.size ≤ j) : Off S w w2 :=
 ⟨k.os.trans h.os, k.tape.trans h.tape, k.output.trans h.output, Nat.le_trans h.size k.size, fun j hj hS => (k.block j (Nat.lt_of_lt_of_le hj h.size) (fun ht => by
  rcases hT j ht with e | e
  ·exact hS e
  ·omega)).trans (h.block j hj hS)⟩
set_option maxRecDepth 100000 in
theorem DPost.trans {w w1 w2 : World} {ok : Nat → Prop} {base g : Nat} {F : Nat → Prop} {D D2 : DiskS} (h : DPost w ok base g F D w1) (k : ∀ F', IsD w1 (fun k => ok k ∨ w.heap.size ≤ k) base g F' D → DPost w1 (fun k => ok k ∨ w.heap.size ≤ k) base g F' D2 w2) : DPost w ok base g F D2 w2 := by
 obtain ⟨h1, F', h2, h3⟩ := h
 obtain ⟨k1, F2, k2, k3⟩ := k F' h2
 refine ⟨h1.chain k1 h3, F2, k2.mono (fun j _ hj => ?_), fun j hj => ?_⟩
 ·rcases hj with hj | hj
  ·exact hj
  ·exact .inr (Nat.le_trans h1.size hj)
 ·rcases k3 j hj with e | e
  ·exact h3 j e
  ·exact .inr (Nat.le_trans h1.size e)
def PlB (w : World) (b gr pl ct : Nat) : Prop := w.cell? ⟨b, 0, none⟩ = some (.pointer (some ⟨gr, 0, none⟩)) ∧ w.cell? ⟨b + 1, 0, none⟩ = some (.int .i64 (pl : Int)) ∧ w.cell? ⟨b + 2, 0, none⟩ = some (.int .i64 (ct : Int)) ∧ b + 2 < w.heap.size
set_option maxRecDepth 100000 in
theorem PlB.off {S : Nat → Prop} {w w' : World} {b gr pl ct : Nat} (h : PlB w b gr pl ct) (ho : Off S w w') (hS : ∀ k, S k → k < b ∨ b + 2 < k) : PlB w' b gr pl ct := by
 obtain ⟨h0, h1, h2, h3⟩ := h
 have key : ∀ (k o : Nat) (v : Value), k ≤ b + 2 → b ≤ k → w.cell? ⟨k, o, none⟩ = some v → w'.cell? ⟨k, o, none⟩ = some v := fun k o v hk hb hc => by
  have e := ho.block k (by omega) (fun hs => by have := hS k hs; omega)
  rw [← hc]
  simp only [World.cell?, e]
 exact ⟨key _ _ _ (by omega) (by omega) h0, key _ _ _ (by omega) (by omega) h1, key _ _ _ (by omega) (by omega) h2, Nat.lt_of_lt_of_le h3 ho.size⟩
def PlV (b : Nat) : Value := .func (.func 141) #[] #[.pointer (some ⟨b, 0, none⟩), .pointer (some ⟨b + 1, 0, none⟩), .pointer (some ⟨b + 2, 0, none⟩)]
set_option maxRecDepth 100000 in
theorem egPl : ∀ args w, (callFunc 141 args).run Tryz.prog w = .ok (.enter 141 args) w := enters_of Tryz.func141 (by kernel_rfl) rfl
set_option maxRecDepth 100000 in
theorem places_any (w : World) (gr pl ct : Nat) :
  Calls Tryz.prog 114 #[.pointer (some ⟨gr, 0, none⟩), .int .i64 (pl : Int), .int .i64 (ct : Int)] w fun e w' => e = .returned (PlV w.heap.size) ∧ PlB w' w.heap.size gr pl ct ∧ Below w.heap.size w w' := by
 have b1 := gr_alloc (gr_refl w) (.cells #[.pointer (some ⟨gr, 0, none⟩)] 200)
 have s1 : (w.alloc (.cells #[.pointer (some ⟨gr, 0, none⟩)] 200)).heap.size = w.heap.size + 1 := World.size_alloc _ _
 have h1 := heap_alloc_new w (.cells #[.pointer (some ⟨gr, 0, none⟩)] 200)
 have b2 := gr_alloc (gr_refl (w.alloc (.cells #[.pointer (some ⟨gr, 0, none⟩)] 200))) (.cells #[.int .i64 (pl : Int)] 3)
 have s2 : ((w.alloc (.cells #[.pointer (some ⟨gr, 0, none⟩)] 200)).alloc (.cells #[.int .i64 (pl : Int)] 3)).heap.size = w.heap.size + 1 + 1 := by rw [World.size_alloc, s1]
 have h2 := heap_alloc_new (w.alloc (.cells #[.pointer (some ⟨gr, 0, none⟩)] 200)) (.cells #[.int .i64 (pl : Int)] 3)
 have b3 := gr_alloc (gr_refl ((w.alloc (.cells #[.pointer (some ⟨gr, 0, none⟩)] 200)).alloc (.cells #[.int .i64 (pl : Int)] 3))) (.cells #[.int .i64 (ct : Int)] 3)
 have s3 : (((w.alloc (.cells #[.pointer (some ⟨gr, 0, none⟩)] 200)).alloc (.cells #[.int .i64 (pl : Int)] 3)).alloc (.cells #[.int .i64 (ct : Int)] 3)).heap.size = w.heap.size + 1 + 1 + 1 := by rw [World.size_alloc, s2]
 have h3 := heap_alloc_new ((w.alloc (.cells #[.pointer (some ⟨gr, 0, none⟩)] 200)).alloc (.cells #[.int .i64 (pl : Int)] 3)) (.cells #[.int .i64 (ct : Int)] 3)
 rw [s1] at h2 b2
 rw [s2] at h3 b3
 have p1 := (b3.block w.heap.size (by omega)).trans ((b2.block w.heap.size (by omega)).trans h1)
 have p2 := (b3.block (w.heap.size + 1) (by omega)).trans h2
 have HPL : Hid (PlB (((w.alloc (.cells #[.pointer (some ⟨gr, 0, none⟩)] 200)).alloc (.cells #[.int .i64 (pl : Int)] 3)).alloc (.cells #[.int .i64 (ct : Int)] 3)) w.heap.size gr pl ct) :=
  Lib.hid ⟨by rw [cell_of_row _ _ 0 _ _ _ p1]; rfl, by rw [cell_of_row _ _ 0 _ _ _ p2]; rfl, by rw [cell_of_row _ _ 0 _ _ _ h3]; rfl, by rw [s3]; omega⟩
 have HBL := Lib.hid (b1.trans ((b2.mono (by omega)).trans (b3.mono (by omega))))
 clear b1 s1 h1 b2 h2 b3 s3 h3 p1 p2 s2
 go_enter Tryz.func114, Tryz.ntmps114
 go_wp2_with fail
 go_ret
 exact ⟨rfl, HPL.out, HBL.out⟩
set_option maxRecDepth 100000 in
set_option maxHeartbeats 1000000 in
theorem placeC (w : World) (b gr fi bl ep pl ct i : Nat) (dp : Value) (h : PlB w b gr pl ct) (hr : RC w gr 0 dp fi bl ep) (h0 : 0 < bl) (hb : bl ≤ 1024) (hf : fi ≤ 4096) (hp : pl ≤ 1048576) (hc : ct ≤ 17179869184) (hi : i ≤ 1048576) :
  Calls Tryz.prog 141 #[.int .i64 (i : Int), .pointer (some ⟨b, 0, none⟩), .pointer (some ⟨b + 1, 0, none⟩), .pointer (some ⟨b + 2, 0, none⟩)] w fun e w' => e = .returned (.tuple #[.int .i64 ((fi + (pl + i) % bl : Nat) : Int), .int .u64 ((ofN ep (ct + i) : Nat) : Int)]) ∧ Below w.heap.size w w' := by
 obtain ⟨y0, y1, y2, _⟩ := h
 obtain ⟨_, c1, c2, c3⟩ := hr
 simp only [Nat.zero_add] at c1 c2 c3
 obtain ⟨x, hx⟩ : ∃ x : Nat, x = (pl + i) % bl := ⟨_, rfl⟩
 have hxl : x < bl := by rw [hx]; exact Nat.mod_lt _ h0
 have k1 : IntKind.i64.wrap ((pl : Int) + (i : Int)) = (pl : Int) + (i : Int) := by rw [IntKind.wrap_i64]; omega
 have k2 : Int.tmod ((pl : Int) + (i : Int)) (bl : Int) = (x : Int) := by
  have e : (pl : Int) + (i : Int) = ((pl + i : Nat) : Int) := by omega
  rw [e, Int.tmod_eq_emod_of_nonneg (by omega), hx]
  exact (Int.natCast_emod _ _).symm
 have k3 : IntKind.i64.wrap ((fi : Int) + (x : Int)) = (fi : Int) + (x : Int) := by rw [IntKind.wrap_i64]; omega
 have k4 : IntKind.i64.wrap ((ct : Int) + (i : Int)) = (ct : Int) + (i : Int) := by rw [IntKind.wrap_i64]; omega
 have hz : ((bl : Int) == 0) = false := beq_eq_false_iff_ne.2 (by omega)
 have hz' : ¬ ((bl : Int) = 0) := by omega
 have HE : Hid (((ep : Int) % 4294967296 * 4294967296 + ((ct : Int) + (i : Int)) % 4294967296) = ((ofN ep (ct + i) : Nat) : Int)) := Lib.hid (by unfold ofN; omega)
 have HX : Hid ((fi : Int) + (x : Int) = ((fi + (pl + i) % bl : Nat) : Int)) := Lib.hid (by rw [← hx]; omega)
 clear hx
 go_enter Tryz.func141, Tryz.ntmps141
 go_wp2_with (go_quiet ((go_at_call 138; exact Calls.quiet_of_same ((Of_any _ _ _).mono (fun _ _ h => ⟨h.1, h.2.symm⟩)))))
 go_ret2
 exact ⟨by rw [← HE.out, ← HX.out]; rfl, gr_drewN (gr_refl _) nq⟩
set_option maxRecDepth 100000 in
theorem PlB.below {w w' : World} {b gr pl ct : Nat} (h : PlB w b gr pl ct) (hb : Below w.heap.size w w') : PlB w' b gr pl ct :=
 h.off (S := fun _ => False) (Off.of_below hb) (fun _ h => h.elim)
set_option maxRecDepth 100000 in
theorem RC.off {S : Nat → Prop} {w w' : World} {gr o : Nat} {dp : Value} {fi bl ep : Int} (h : RC w gr o dp fi bl ep) (hg : gr < w.heap.size) (ho : Off S w w') (hs : ¬ S gr) : RC w' gr o dp fi bl ep := by
 have e := ho.block gr hg hs
 obtain ⟨h0, h1, h2, h3⟩ := h
 refine ⟨?_, ?_, ?_, ?_⟩
 ·rw [← h0]; simp only [World.cell?, e]
 ·rw [← h1]; simp only [World.cell?, e]
 ·rw [← h2]; simp only [World.cell?, e]
 ·rw [← h3]; simp only [World.cell?, e]
set_option maxRecDepth 100000 in
theorem RC.below {w w' : World} {gr o : Nat} {dp : Value} {fi bl ep : Int} (h : RC w gr o dp fi bl ep) (hg : gr < w.heap.size) (hb : Below w.heap.size w w') : RC w' gr o dp fi bl ep :=
 h.off hg (Off.of_below (S := fun _ => False) hb) (fun h => h)
set_option maxRecDepth 100000 in
theorem DPost.comp {w w1 w2 w3 : World} {ok : Nat → Prop} {base g : Nat} {F F1 : Nat → Prop} {D2 : DiskS} (h1 : Off F w w1) (h3 : ∀ k, F1 k → F k ∨ w.heap.size ≤ k) (hb : Below w1.heap.size w1 w2) (k : DPost w2 (fun k => ok k ∨ w.heap.size ≤ k) base g F1 D2 w3) : DPost w ok base g F D2 w3 := by
 obtain ⟨k1, F2, k2, k3⟩ := k
 have h12 : Off F w w2 := h1.trans (Off.of_below hb)
 refine ⟨h12.chain k1 h3, F2, k2.mono (fun j _ hj => ?_), fun j hj => ?_⟩
 ·rcases hj with hj | hj
  ·exact hj
  ·exact .inr (Nat.le_trans h12.size hj)
 ·rcases k3 j hj with e | e
  ·exact h3 j e
  ·exact .inr (Nat.le_trans h12.size e)
set_option maxRecDepth 100000 in
theorem DPost.pre {w w1 w2 : World} {ok : Nat → Prop} {base g : Nat} {F : Nat → Prop} {D : DiskS} (hb : Below w.heap.size w w1) (h : DPost w1 ok base g F D w2) : DPost w ok base g F D w2 := by
 obtain ⟨h1, F', h2, h3⟩ := h
 exact ⟨(Off.of_below hb).trans h1, F', h2.mono (fun j _ hj => hj.imp id (fun e => Nat.le_trans hb.size e)), fun j hj => (h3 j hj).imp id (fun e => Nat.le_trans hb.size e)⟩
set_option maxRecDepth 100000 in
theorem putAll_at {D : DiskS} {ws : List (Nat × List UInt8)} {i : Nat} {p : Nat × List UInt8} (hi : ws[i]? = some p) (h2 : (putAll D (ws.take i)).2 = 0) : putAll D (ws.take (i + 1)) = (writeD (putAll D (ws.take i)).1 p.1 p.2, writeE (putAll D (ws.take i)).1 p.1 p.2.length) := by
 rw [List.take_add_one, hi]
 show putAll D (ws.take i ++ [p]) = _
 rw [putAll_snoc, if_neg (by rw [h2]; simp)]
set_option maxRecDepth 100000 in
theorem putAll_fail {D : DiskS} {ws : List (Nat × List UInt8)} {k : Nat} (h : (putAll D (ws.take k)).2 ≠ 0) : putAll D ws = putAll D (ws.take k) := by
 conv => lhs; rw [← List.take_append_drop k ws]
 exact putAll_stop _ _ _ h
set_option maxRecDepth 100000 in
set_option maxHeartbeats 4000000 in
theorem write_any (w : World) (ok : Nat → Prop) (base gr gd : Nat) (F : Nat → Prop) (D : DiskS) (fi bl ep pl ct : Nat) (A : Option Addr) (n c : Nat) (b : List UInt8) (h : IsD w ok base gd F D) (hr : RC w gr 0 (.pointer (some ⟨gd, 0, none⟩)) fi bl ep) (hg : gr < w.heap.size ∧ ¬ F gr) (hb : BR w A n b) (hA : ∀ ad, A = some ad → ad.block < w.heap.size ∧ ¬ F ad.block) (hn : n ≤ 4173824) (hnc : n ≤ c) (h0 : 0 < bl) (hbl : bl ≤ 1024) (hfi : fi ≤ 4096) (hpl : pl ≤ 1048576) (hct : ct ≤ 8589934592) (hpd : D.pending.length ≤ 900000) :
  Calls Tryz.prog 86 #[.pointer (some ⟨gr, 0, none⟩), .int .i64 (pl : Int), .int .i64 (ct : Int), .slice A n c] w fun e w' => e = .returned (.int .i64 (flushE D (wsL fi bl ep pl ct b))) ∧ DPost w ok base gd F (flushD D (wsL fi bl ep pl ct b)) w' := by
 obtain ⟨i0, hi0, hz0, hz1, hz2⟩ := info_parts info_u8
 have HLEN := Lib.hid hb.len
 have HF := Lib.hid h.foot_lt
 have HD := Lib.hid h
 have HR := Lib.hid hr
 have HG := Lib.hid hg
 have HBB := Lib.hid hb
 have HAA := Lib.hid hA
 have hN : needL n ≤ 1024 := by unfold needL; omega
 clear h hr hg hb hA
 go_enter Tryz.func86, Tryz.ntmps86
 go_wp2_with fail
 refine (places_any w gr pl ct).mono ?_
 rintro e w1 ⟨rfl, hpb, hb1⟩
 have HPB := Lib.hid hpb
 have HB1 := Lib.hid hb1
 have HD1 := Lib.hid (DPost.same (HD.out.below hb1))
 have HR1 := Lib.hid (HR.out.below HG.out.1 hb1)
 have HW3 : Hid (w.heap.size + 2 < w1.heap.size) := Lib.hid hpb.2.2.2
 have HG1 : Hid (gr < w1.heap.size ∧ ¬ F gr) := Lib.hid ⟨Nat.lt_of_lt_of_le HG.out.1 hb1.size, HG.out.2⟩
 have HBB1 := Lib.hid (HBB.out.below hb1)
 clear hpb hb1
 go_wp2_with fail
 refine (needs_any n w1 (by omega)).mono ?_
 rintro e w2 ⟨rfl, rfl⟩
 unfold PlV
 obtain ⟨ws, hws⟩ : ∃ ws, ws = wsL fi bl ep pl ct b := ⟨_, rfl⟩
 have HWS := Lib.hid hws
 obtain ⟨N, hNN⟩ : ∃ N, N = needL n := ⟨_, rfl⟩
 have HNN := Lib.hid hNN
 rw [← hNN] at hN ⊢
 have HWL : Hid (ws.length = N) := Lib.hid (by rw [hws, wsL_len, HLEN.out, hNN])
 have egp := egPl
 clear hws hNN
 go_wp2_with fail
 go_loopw [10, 11, 12, 13, 14, 15, 16, 17, 25] (fun _ _ _ _ _ _ _ _ x wr => ∃ i, i ≤ N ∧ x = .int .i64 (i : Int) ∧ Hid ((putAll D (ws.take i)).2 = 0) ∧ PlB wr w.heap.size gr pl ct ∧ DPost w1 ok base gd F (putAll D (ws.take i)).1 wr) (fun _ _ _ _ _ _ _ _ x _ => N - (intOf x).toNat)
 case atStart => exact ⟨0, Nat.zero_le _, rfl, Lib.hid rfl, HPB.out, HD1.out⟩
 case round =>
  obtain ⟨i, hi, rfl, H2, hpb, hdp⟩ := hrel
  have HPB := Lib.hid hpb
  have HDP := Lib.hid hdp
  obtain ⟨hof, F1, hd1, hf1⟩ := hdp
  have HOF := Lib.hid hof
  have HD1 := Lib.hid hd1
  have HF1 := Lib.hid hf1
  have hpd1 := (putAll_pl (ws.take i) D).1
  rw [List.length_take, HWL.out] at hpd1
  have HPD : Hid ((putAll D (ws.take i)).1.pending.length ≤ 901024) := Lib.hid (by omega)
  clear hpb hof hd1 hf1 hpd1
  by_cases hlt : i < N
  ·have t1 : decide ((i : Int) < (N : Int)) = true := decide_eq_true (by omega)
   have t2 : decide (i < N) = true := decide_eq_true hlt
   have hin : i * 4076 < n := by have := HNN.out; unfold needL at this; omega
   obtain ⟨k, hk⟩ : ∃ k, k = i * 4076 := ⟨_, rfl⟩
   have hkl : k < n := by omega
   have hmul : (i : Int) * 4076 = (k : Int) := by omega
   have hmw : IntKind.i64.wrap ((i : Int) * 4076) = (k : Int) := by rw [IntKind.wrap_i64]; omega
   have hmw2 : IntKind.i64.wrap (k : Int) = (k : Int) := by rw [IntKind.wrap_i64]; omega
   have hcl := fun W => run_cut_l (P := Tryz.prog) W 35 5 i0 Tryz.underlying35 hi0 1 hz1 A n c (k : Int) k rfl (by omega)
   have HBw := Lib.hid (HBB1.out.off HOF.out (fun ad e _ => (HAA.out ad e).2))
   have HBR : Hid (BR wr (cutA A c k 1) (n - k) (b.drop k)) := Lib.hid (by
    have := HBw.out.cut (k := k) (j := n) (c := c) (by omega) (by omega) hnc
    rwa [List.take_of_length_le (by rw [List.length_drop, HLEN.out]; omega)] at this)
   obtain ⟨rn, hrn⟩ : ∃ rn, rn = n - k := ⟨_, rfl⟩
   obtain ⟨hr, hhr⟩ : ∃ hr, hr = min rn 4076 := ⟨_, rfl⟩
   have hrl : hr ≤ 4076 ∧ hr ≤ rn := by omega
   have hrn2 : rn ≤ 4173824 := by omega
   have hrc : hr ≤ c - k := by omega
   rw [← hrn] at HBR
   simp only [← hrn] at hcl
   have hwu : IntKind.u32.wrap (rn : Int) = (rn : Int) := by rw [IntKind.wrap_u32]; omega
   have hmin : (if (4076 : Int) < (rn : Int) then (4076 : Int) else (rn : Int)) = (hr : Int) := by split <;> omega
   have HPAY : Hid (payL b i = leB rn 4 ++ (b.drop k).take hr) := Lib.hid (by
    unfold payL
    rw [HLEN.out, ← hk, ← hrn]
    congr 1
    by_cases e : rn ≤ 4076
    ·rw [List.take_of_length_le (by rw [List.length_drop, HLEN.out]; omega), List.take_of_length_le (by rw [List.length_drop, HLEN.out]; omega)]
    ·rw [show hr = 4076 by omega])
   have HK := Lib.hid hk
   clear hk hrn hhr
   go_upto_region 6 with fail
   clear hcl
   have hch := fun W => run_cut_h (P := Tryz.prog) W 35 5 i0 Tryz.underlying35 hi0 1 hz1 (cutA A c k 1) rn (c - k) (hr : Int) hr rfl (by omega)
   have HCH := Lib.hid hch
   clear hch
   refine wp_region_any (by kernel_rfl) ?_
   refine' wpAny_to_tail (l0 := #[false, false, false, false, false, false, false, false, false, false, false]) (by kernel_rfl) (by kernel_rfl) (by kernel_rfl) (by kernel_rfl) (by kernel_rfl)
    [MP.is (.slice (cutA A c k 1) rn (c - k)), MP.is (.int .i64 (rn : Int)), MP.is (.int .u32 (rn : Int)), MP.ob wr.heap.size (leB rn 4), MP.is (.slice (cutA A c k 1) rn (c - k)), MP.is (.slice (cutA A c k 1) rn (c - k)), MP.is (.int .i64 (rn : Int)), MP.is (.int .i64 (hr : Int)), MP.is (.slice (cutA A c k 1) hr (c - k)), MP.any, MP.any]
    (fun j => j == 9 || j == 10) #[true, true, true, true, true, true, true, true, true, false, false] rfl (by kernel_rfl) rfl (by kernel_rfl) (by kernel_rfl) (by kernel_rfl) (by kernel_rfl) (fun _ => undef) (by rfl) ?hR01 ?hAA1 ?hst1 ?hend1
   case hR01 =>
    intro j hj
    have hj2 : j ∈ [] := hj
    cases hj2
   case hAA1 =>
    intro f
    conv => lhs; simp only [putA, dstOf, List.size_toArray, List.length_cons, List.length_nil, Nat.zero_add, Nat.reduceAdd, List.getElem?_toArray, List.getElem?_cons_zero, List.getElem?_cons_succ, Option.bind_some, Act.put, List.setIfInBounds_toArray, List.set_cons_zero, List.set_cons_succ]
    first | done | exact rfl
   case hst1 =>
    refine Steps.of_list (l' := [0, 1, 2, 3, 4, 5, 6, 7, 8]) (by kernel_rfl) ?_
    refine Steps.cons rfl ?_ ?_
    ·intro f wz hB h K Q hK
     try simp only [List.getElem_toArray, List.getElem_cons_zero]
     go_simp
     exact hK _ _ (gr_refl _) rfl
    refine Steps.cons rfl ?_ ?_
    ·intro f wz hB h K Q hK
     have h0 : (MP.is (.slice (cutA A c k 1) rn (c - k))).p (f 0) wz := h 0 (by kernel_rfl)
     have e0 : f 0 = (.slice (cutA A c k 1) rn (c - k)) := h0
     simp only [e0] at hK ⊢
     clear e0
     go_simp
     exact hK _ _ (gr_refl _) rfl
    refine Steps.cons rfl ?_ ?_
    ·intro f wz hB h K Q hK
     have h1 : (MP.is (.int .i64 (rn : Int))).p (f 1) wz := h 1 (by kernel_rfl)
     have e1 : f 1 = (.int .i64 (rn : Int)) := h1
     simp only [e1] at hK ⊢
     clear e1
     go_simp
     exact hK _ _ (gr_refl _) rfl
    refine Steps.cons rfl ?_ ?_
    ·intro f wz hB h K Q hK
     have h2 : (MP.is (.int .u32 (rn : Int))).p (f 2) wz := h 2 (by kernel_rfl)
     have e2 : f 2 = (.int .u32 (rn : Int)) := h2
     simp only [e2] at hK ⊢
     clear e2
     go_simp
     refine (Add32_any none 0 0 [] wz rn (BR.none_ _ _) (by omega) (by omega)).mono ?_
     rintro e w5 ⟨v5, rfl, ob5, hb5⟩
     rw [List.nil_append] at ob5
     obtain ⟨A5, c5, rfl, _, _⟩ := own_form ob5
     exact hK _ _ hb5 ⟨A5, c5, rfl, ob5.lower hB.size⟩
    refine Steps.cons rfl ?_ ?_
    ·intro f wz hB h K Q hK
     go_simp
     exact hK _ _ (gr_refl _) rfl
    refine Steps.cons rfl ?_ ?_
    ·intro f wz hB h K Q hK
     go_simp
     exact hK _ _ (gr_refl _) rfl
    refine Steps.cons rfl ?_ ?_
    ·intro f wz hB h K Q hK
     have h5 : (MP.is (.slice (cutA A c k 1) rn (c - k))).p (f 5) wz := h 5 (by kernel_rfl)
     have e5 : f 5 = (.slice (cutA A c k 1) rn (c - k)) := h5
     simp only [e5] at hK ⊢
     clear e5
     go_simp
     exact hK _ _ (gr_refl _) rfl
    refine Steps.cons rfl ?_ ?_
    ·intro f wz hB h K Q hK
     have h6 : (MP.is (.int .i64 (rn : Int))).p (f 6) wz := h 6 (by kernel_rfl)
     have e6 : f 6 = (.int .i64 (rn : Int)) := h6
     simp only [e6] at hK ⊢
     clear e6
     go_simp
     exact hK _ _ (gr_refl _) rfl
    refine Steps.cons rfl ?_ ?_
    ·intro f wz hB h K Q hK
     have h4 : (MP.is (.slice (cutA A c k 1) rn (c - k))).p (f 4) wz := h 4 (by kernel_rfl)
     have e4 : f 4 = (.slice (cutA A c k 1) rn (c - k)) := h4
     have h7 : (MP.is (.int .i64 (hr : Int))).p (f 7) wz := h 7 (by kernel_rfl)
     have e7 : f 7 = (.int .i64 (hr : Int)) := h7
     simp only [e4, e7] at hK ⊢
     clear e4 e7
     have hch := HCH.out
     go_simp
     exact hK _ _ (gr_refl _) rfl
    exact Steps.nil
   intro f w4 hB4 hR
   conv => arg 7; simp only [putL, dstOf, List.size_toArray, List.length_cons, List.length_nil, Nat.zero_add, Nat.reduceAdd, List.getElem?_toArray, List.getElem?_cons_zero, List.getElem?_cons_succ, Option.bind_some, Act.put, List.setIfInBounds_toArray, List.set_cons_zero, List.set_cons_succ, Array.getD_eq_getD_getElem?, Option.getD_some, if_true, if_false, Bool.false_eq_true]
   have e0 : f 0 = (.slice (cutA A c k 1) rn (c - k)) := hR 0 (by decide) rfl
   have e1 : f 1 = (.int .i64 (rn : Int)) := hR 1 (by decide) rfl
   have e2 : f 2 = (.int .u32 (rn : Int)) := hR 2 (by decide) rfl
   obtain ⟨A34, c34, e3, q34⟩ := (show (MP.ob wr.heap.size (leB rn 4)).p (f 3) w4 from hR 3 (by decide) rfl)
   have e4 : f 4 = (.slice (cutA A c k 1) rn (c - k)) := hR 4 (by decide) rfl
   have e5 : f 5 = (.slice (cutA A c k 1) rn (c - k)) := hR 5 (by decide) rfl
   have e6 : f 6 = (.int .i64 (rn : Int)) := hR 6 (by decide) rfl
   have e7 : f 7 = (.int .i64 (hr : Int)) := hR 7 (by decide) rfl
   have e8 : f 8 = (.slice (cutA A c k 1) hr (c - k)) := hR 8 (by decide) rfl
   simp only [e0, e1, e2, e3, e4, e5, e6, e7, e8]
   clear e0 e1 e2 e3 e4 e5 e6 e7 e8 hR
   have HB4 := Lib.hid hB4
   have HQ4 : Hid (w4.ownsRow wr.heap.size 5 1 (.slice A34 (leB rn 4).length c34) (leB rn 4).length ((leB rn 4).map bv)) := Lib.hid q34
   have HR4 : Hid (Rd w4 1 (cutA A c k 1) hr (((b.drop k).take hr).map bv)) := Lib.hid (HBR.out.pre hrl.2 |>.below (Below.trans (gr_drewN (gr_refl wr) 1) hB4))
   clear hB4 q34
   refine wpAny_of_held (S := fun _ => True) _ _ _ _ ?_
   refine wpAnyH_ready (rs := [9]) (by kernel_rfl) (by simp) ?_
   refine AllReadyH.cons rfl (fun KK hK => ?_) AllReadyH.nil
   rw [if_pos (by rfl)]
   refine wp_append_Rd _ (.tmp 35) (.tmp 40) _ rfl wr.heap.size 5 i0 _ 1 1 Tryz.underlying35 hi0 hz0 hz1 hz2 rfl (.slice A34 (leB rn 4).length c34) (leB rn 4).length _ rfl HQ4.out (cutA A c k 1) hr (c - k) _ rfl HR4.out (one_bv _) (by rw [leB_length]; omega) (by rw [leB_length]; simp only [maxLen]; omega) HB4.out.size ?_
   intro v8 w8 ho8 hg8 _ _
   have HO8 := Lib.hid ho8
   have HB8 := Lib.hid ((Below.trans (gr_drewN (gr_refl wr) 1) HB4.out).grown hg8 (Below.trans (gr_drewN (gr_refl wr) 1) HB4.out).size (fun j hj => (HQ4.out.lt j hj).1))
   clear ho8 hg8
   refine hK.out _ _ trivial (fun _ => ?_)
   clear hK KK
   try simp only [Act.put, List.setIfInBounds_toArray, List.set_cons_zero, List.set_cons_succ]
   refine wpAnyH_ready (rs := [10]) (by kernel_rfl) (by simp) ?_
   refine AllReadyH.cons rfl (fun KK hK => ?_) AllReadyH.nil
   go_simp
   refine hK.out _ _ trivial (fun _ => ?_)
   clear hK KK
   try simp only [List.setIfInBounds_toArray, List.set_cons_zero, List.set_cons_succ]
   refine wpAnyH_done (by kernel_rfl) ?_ _
   have hob : OB w8 wr.heap.size v8 (payL b i) := OB.of_own HO8.out (by rw [HPAY.out, List.map_append])
   obtain ⟨A8, c8, rfl, hbr8, _, _⟩ := hob.form
   have hm8l : (payL b i).length ≤ 4080 := payL_len b i
   have HSL := Lib.hid (sealL_len (v := ofN ep (ct + i)) hm8l)
   have HSE : Hid (sealL (ofN ep (ct + i)) (payL b i) = leB (ofN ep (ct + i)) 8 ++ (payL b i ++ List.replicate (4080 - (payL b i).length) 0) ++ leB (ofN ep (ct + i)) 8) := Lib.hid rfl
   generalize (payL b i).length = m8 at *
   have HBR8 := Lib.hid hbr8
   have HPB8 := Lib.hid (HPB.out.below HB8.out)
   have HRr := Lib.hid (HR1.out.off HG1.out.1 HOF.out HG1.out.2)
   have hgr : gr < wr.heap.size := Nat.lt_of_lt_of_le HG1.out.1 HOF.out.size
   have HGR := Lib.hid hgr
   have HR8 := Lib.hid (HRr.out.below hgr HB8.out)
   have hpc := placeC w8 w.heap.size gr fi bl ep pl ct i (.pointer (some ⟨gd, 0, none⟩)) HPB8.out HR8.out h0 hbl hfi hpl (by omega) (by omega)
   have hwi := HWS.out
   have hnm := ofN_lt ep (ct + i)
   have HWI := Lib.hid (wsL_at (fi := fi) (bl := bl) (ep := ep) (pl := pl) (ct := ct) (b := b) (i := i) (by rw [HLEN.out, ← HNN.out]; exact hlt))
   rw [← hwi] at HWI
   generalize ofN ep (ct + i) = num at *
   generalize fi + (pl + i) % bl = blk at *
   have HPC := Lib.hid hpc
   clear hob hbr8 hgr hpc hwi HO8 HQ4 HR4 HBw HBR HCH hwu hmin hrl hmul hmw hmw2
   go_wp2_with fail
   refine HPC.out.mono ?_
   rintro e w9 ⟨rfl, hb9⟩
   have HB9 := Lib.hid (gr_trans HB8.out hb9)
   have HBR9 := Lib.hid (HBR8.out.below hb9)
   clear hb9
   go_wp2_with fail
   refine (Seal_fits A8 m8 c8 num (payL b i) w9 HBR9.out hm8l hnm).mono ?_
   rintro e w10 ⟨r10, rfl, ob10, hb10⟩
   rw [← HSE.out] at ob10
   obtain ⟨q10, c10, rfl, hq1, hq2, hq3⟩ := ob10.full HSL.out
   obtain ⟨A', c', e', br10, _, _⟩ := ob10.formN HSL.out
   injection e' with e1 e2 e3
   subst e1 e3
   have HB10 := Lib.hid (gr_trans HB9.out hb10)
   have HBR10 := Lib.hid br10
   have hc0 := (HRr.out.below HGR.out HB10.out).1
   have HA10 : Hid (∀ ad, some (⟨q10, 0, none⟩ : Addr) = some ad → ¬ F1 ad.block) := Lib.hid (fun ad e hf => by
    injection e with e
    subst e
    have h1 := (HD1.out.foot_lt _ hf).2
    have h2 := HB9.out.size
    dsimp only at h1
    omega)
   have HD10 := Lib.hid (HD1.out.below HB10.out)
   clear hb10 ob10 br10
   go_wp2_with fail
   refine (Write_any w10 _ base gd F1 _ (blk : Int) (some ⟨q10, 0, none⟩) 4096 c10 _ HD10.out HBR10.out HA10.out (by omega) (Nat.le_trans HPD.out (by omega))).mono ?_
   rintro e w11 ⟨rfl, hdp11⟩
   have HDP11 := Lib.hid (DPost.comp HOF.out HF1.out HB10.out hdp11)
   have HPB11 := Lib.hid ((HPB.out.below HB10.out).off hdp11.1 (fun k hk => (HF1.out k hk).elim (fun h => .inl (HF.out k h).2) (fun h => .inr (Nat.lt_of_lt_of_le HW3.out h))))
   have HAT := Lib.hid (putAll_at HWI.out H2.out)
   have HFL := Lib.hid (putAll_fail (D := D) (ws := ws) (k := i + 1))
   dsimp only at HAT
   rw [HSL.out] at HAT
   generalize writeE (putAll D (ws.take i)).1 (blk : Int) 4096 = r at *
   clear hdp11
   by_cases hr0 : r = 0
   ·subst hr0
    go_wp2_with fail
    go_roundw
    case rel => exact ⟨i + 1, by omega, by go_num, Lib.hid (by rw [HAT.out]), HPB11.out, by rw [HAT.out]; exact HDP11.out⟩
    case measure => simp [intOf]; omega
   ·have t3 : (r != 0) = true := by rw [bne_iff_ne]; exact hr0
    have HR0 := Lib.hid hr0
    clear hr0
    go_wp2_with fail
    go_ret
    have hf := HFL.out (by rw [HAT.out]; exact HR0.out)
    rw [HAT.out] at hf
    rw [← HWS.out]
    refine ⟨ret_i ?_, ?_⟩
    ·unfold flushE
     rw [if_pos (by rw [hf]; exact HR0.out), hf]
    ·unfold flushD
     rw [if_pos (by rw [hf]; exact HR0.out), hf]
     exact DPost.pre HB1.out HDP11.out
  ·obtain rfl : i = N := by omega
   have t1 : decide ((i : Int) < (i : Int)) = false := decide_eq_false (by omega)
   have hc0 := (HR1.out.off HG1.out.1 HOF.out HG1.out.2).1
   have htk : ws.take i = ws := List.take_of_length_le (Nat.le_of_eq HWL.out)
   rw [htk] at HDP HD1 HPD H2
   have HSY := Lib.hid (Sync_any wr _ base gd F1 _ HD1.out (Nat.le_trans HPD.out (by omega)))
   have HTK := Lib.hid htk
   clear htk
   go_wp2_with fail
   refine HSY.out.mono ?_
   rintro e w2 ⟨rfl, hdp2⟩
   have HDP2 := Lib.hid (DPost.comp HOF.out HF1.out (gr_refl wr) hdp2)
   clear hdp2
   go_wp2_with fail
   go_ret
   rw [← HWS.out]
   refine ⟨ret_i ?_, ?_⟩
   ·unfold flushE
    rw [if_neg (by rw [H2.out]; simp)]
   ·unfold flushD
    rw [if_neg (by rw [H2.out]; simp)]
    exact DPost.pre HB1.out HDP2.out
end Go.Proofs.YtnkeclpgpiogoaaGreat

/-! JnD -/
namespace Go.Proofs.YtnkeclpgpiogoaaGreat
open Go Go.RowKit
structure JI (J : JnS) : Prop where
 b1 : 1 ≤ J.bl
 b2 : J.bl ≤ 1024
 f1 : J.fi ≤ 4096
 p1 : J.pl < J.bl
 u1 : J.us + needL J.waits.length ≤ J.bl
 c1 : J.ct + needL J.waits.length ≤ 4294967296
 l1 : J.la ≤ 1152921504606846976
def newJ (fi bl ep pl ct : Nat) : JnS := ⟨fi, bl, ep, pl, ct, 0, 0, 0, [], false, fun _ => False⟩
set_option maxRecDepth 100000 in
theorem newJ_ji {n fi bl ep pl ct : Nat} (hn : n ≤ 4096) (h : mayB n fi bl ep pl ct = true) : JI (newJ fi bl ep pl ct) := by
 unfold mayB at h
 simp only [Bool.and_eq_true, decide_eq_true_eq] at h
 obtain ⟨t0, t1, t2, t3, t4, t5, t6, t7, t8, t9⟩ := h
 exact ⟨by show 1 ≤ bl; omega, by show bl ≤ 1024; omega, by show fi ≤ 4096; omega, by show pl < bl; omega, by simp [newJ, needL], by simp [newJ, needL]; omega, Nat.zero_le _⟩
set_option maxRecDepth 100000 in
set_option maxHeartbeats 4000000 in
theorem JNew_yes (w : World) (ok : Nat → Prop) (base gd : Nat) (F : Nat → Prop) (D : DiskS) (fi bl ep pl ct : Nat) (h : IsD w ok base gd F D) (hm : mayB D.blocks.length fi bl ep pl ct = true) :
  Calls Tryz.prog 59 #[.pointer (some ⟨gd, 0, none⟩), .int .i64 (fi : Int), .int .i64 (bl : Int), .int .i64 (ep : Int), .int .i64 (pl : Int), .int .i64 (ct : Int)] w fun e w' => e = .returned (.tuple #[.pointer (some ⟨w.heap.size, 0, none⟩), .int .i64 0]) ∧ JB w' w.heap.size gd (newJ fi bl ep pl ct) (.slice none 0 0) ∧ Below w.heap.size w w' := by
 have hn : 1 ≤ D.blocks.length ∧ D.blocks.length ≤ 4096 := by
  obtain ⟨dr, dc, pv, dvs, pvs, hd, _⟩ := h
  exact ⟨hd.n1, hd.n2⟩
 have HD := Lib.hid h
 have HB := Lib.hid (fun W (hW : Below w.heap.size w W) => Blocks_any W ok base gd F D (h.below hW))
 generalize D.blocks.length = n at *
 obtain ⟨o, ho⟩ : ∃ o, o = Obj.cells #[.pointer (some ⟨gd, 0, none⟩), .int .i64 (fi : Int), .int .i64 (bl : Int), .int .i64 (ep : Int), .pointer none, .int .i64 (pl : Int), .int .i64 (ct : Int), .int .i64 0, .slice none 0 0, .int .i64 0, .int .i64 0, .bool false] 124 (0, 0) := ⟨_, rfl⟩
 have hbo := gr_alloc (gr_refl w) o
 have hnw : (w.alloc o).heap[w.heap.size]? = some o := heap_alloc_new w o
 have hnw' := hnw
 rw [congrArg some ho] at hnw'
 have HMB := Lib.hid (mayBe_yes (w.alloc o) n w.heap.size (.pointer (some ⟨gd, 0, none⟩)) fi bl ep pl ct ⟨by rw [cell_of_row _ _ 0 _ _ _ hnw']; rfl, by rw [cell_of_row _ _ 1 _ _ _ hnw']; rfl, by rw [cell_of_row _ _ 2 _ _ _ hnw']; rfl, by rw [cell_of_row _ _ 3 _ _ _ hnw']; rfl⟩ hn.2 (fun W hW => HB.out W (hbo.trans (hW.mono hbo.size))) hm)
 have HFIN : Hid (∀ w3, Below (w.alloc o).heap.size (w.alloc o) w3 → w3.cell? ⟨w.heap.size, 4, none⟩ = some (.pointer none) ∧ w3.frozen? ⟨w.heap.size, 4, none⟩ = false ∧ JB (w3.setCell ⟨w.heap.size, 4, none⟩ (.pointer (some ⟨w.heap.size, 0, none⟩))) w.heap.size gd (newJ fi bl ep pl ct) (.slice none 0 0) ∧ Below w.heap.size w (w3.setCell ⟨w.heap.size, 4, none⟩ (.pointer (some ⟨w.heap.size, 0, none⟩)))) := Lib.hid (fun w3 h3 => by
  have e := (h3.block w.heap.size (by rw [World.size_alloc]; omega)).trans hnw'
  refine ⟨by rw [cell_of_row _ _ 4 _ _ _ e]; rfl, by simp [World.frozen?, e], ?_, (hbo.trans (h3.mono hbo.size)).setCell (by simp) _⟩
  unfold JB
  simp only [World.setCell, Array.getElem?_modify, if_pos, e]
  rfl)
 have hbo' := hbo
 rw [ho] at hbo' HMB HFIN
 clear h hnw hnw' hbo hbo' ho
 go_enter Tryz.func59, Tryz.ntmps59
 go_wp2_with fail
 refine (HB.out w (gr_refl w)).mono ?_
 rintro e w1 ⟨rfl, rfl⟩
 have tn : ((n : Int) == 0) = false := beq_eq_false_iff_ne.2 (by omega)
 go_wp2_with fail
 refine HMB.out.mono ?_
 rintro e w3 ⟨rfl, hb3⟩
 obtain ⟨z1, z2, z3, z4⟩ := HFIN.out w3 hb3
 have Z3 := Lib.hid z3
 have Z4 := Lib.hid z4
 clear z3 z4 hb3 HFIN HMB
 go_wp2_with fail
 go_ret2
 exact ⟨rfl, Z3.out, Z4.out⟩
end Go.Proofs.YtnkeclpgpiogoaaGreat

/-! JnE -/
namespace Go.Proofs.YtnkeclpgpiogoaaGreat
open Go Go.RowKit
def appE (J : JnS) (r : Rec) : Int := if J.br then 4 else if r.right = false then 2 else if J.bl - J.us < needL (J.waits.length + (encR r).length) ∨ 4294967296 < J.ct + needL (J.waits.length + (encR r).length) then 5 else 0
def appJ (J : JnS) (r : Rec) : JnS := if appE J r = 0 then { J with waits := J.waits ++ encR r, la := J.la + 1 } else J
def appN (J : JnS) (r : Rec) : Nat := if appE J r = 0 then J.la + 1 else 0
set_option maxRecDepth 100000 in
theorem JI.app {J : JnS} (h : JI J) (r : Rec) (hl : J.la + 1 ≤ 1152921504606846976) : JI (appJ J r) := by
 unfold appJ
 split
 ·rename_i h0
  unfold appE at h0
  split at h0
  ·cases h0
  ·split at h0
   ·cases h0
   ·split at h0
    ·cases h0
    ·rename_i h3
     have hu := h.u1
     refine ⟨h.b1, h.b2, h.f1, h.p1, ?_, ?_, hl⟩
     ·show J.us + needL (J.waits ++ encR r).length ≤ J.bl
      rw [List.length_append]
      omega
     ·show J.ct + needL (J.waits ++ encR r).length ≤ 4294967296
      rw [List.length_append]
      omega
 ·exact h
def APost (w : World) (gj gd base : Nat) (wv : Value) (J : JnS) (w' : World) : Prop := ∃ wv', JB w' gj gd J wv' ∧ OB w' base wv' J.waits ∧ Off (fun k => k = gj ∨ wv.ownBlock = some k) w w' ∧ (wv'.ownBlock = wv.ownBlock ∨ ∀ k, wv'.ownBlock = some k → w.heap.size ≤ k)
set_option maxRecDepth 100000 in
theorem APost.below {w w' : World} {gj gd base : Nat} {wv : Value} {J : JnS} (h : JB w gj gd J wv) (ho : OB w base wv J.waits) (hb : Below w.heap.size w w') : APost w gj gd base wv J w' := ⟨wv, h.below hb, ho.below hb, Off.of_below hb, .inl rfl⟩
set_option maxRecDepth 100000 in
theorem JB.apart {w : World} {gj gd base : Nat} {wv v : Value} {J : JnS} {l : List UInt8} (h : JB w gj gd J wv) (ho : OB w base v l) : v.ownBlock ≠ some gj := fun e => by
 obtain ⟨cur, hc⟩ := own_blk ho e
 unfold JB at h
 rw [h] at hc
 injection hc with hc
 injection hc with _ hc _
 exact absurd hc (by decide)
set_option maxRecDepth 100000 in
theorem APost.done {w w6 w8 w' : World} {gj gd base : Nat} {wv wv' : Value} {J : JnS} {n : Nat} {l : List UInt8} (h : JB w gj gd J wv) (ho : OB w base wv J.waits) (hb : Below w.heap.size w w6) (hg : w6.grownBy w8 wv.ownBlock) (hbl : wv'.ownBlock = wv.ownBlock ∨ (wv'.ownBlock = some w6.heap.size ∧ w6.grownBy w8 none)) (ho8 : OB w8 base wv' l) (hw : w' = (w8.setCell ⟨gj, 8, none⟩ wv').setCell ⟨gj, 9, none⟩ (.int .i64 (n : Int))) : APost w gj gd base wv { J with waits := l, la := n } w' := by
 have hap := h.apart ho
 have hj6 := h.below hb
 have o8 : Off (fun k => wv.ownBlock = some k) w6 w8 := Off.of_grown hg (fun _ e => e)
 have hj8 : JB w8 gj gd J wv := hj6.off o8 hap
 have hjF := (hj8.s8 wv' l).s9 n
 have oF : Off (fun k => k = gj) w8 ((w8.setCell ⟨gj, 8, none⟩ wv').setCell ⟨gj, 9, none⟩ (.int .i64 (n : Int))) := ((Off.refl (fun k => k = gj) w8).setCell _ rfl).setCell _ rfl
 subst hw
 refine ⟨wv', hjF, ho8.ty oF (fun k e => by subst e; exact ⟨_, _, _, hj8, by decide⟩), ?_, ?_⟩
 ·exact ((Off.of_below hb).trans (o8.mono (fun _ _ e => .inr e))).trans (oF.mono (fun _ _ e => .inl e))
 ·rcases hbl with e | ⟨e, _⟩
  ·exact .inl e
  ·exact .inr (fun k hk => by rw [e] at hk; injection hk with hk; rw [← hk]; exact hb.size)
set_option maxRecDepth 100000 in
theorem needL_le {x : Nat} (h : needL x ≤ 1024) : x ≤ 4173824 := by unfold needL at h; omega
set_option maxRecDepth 100000 in
set_option maxHeartbeats 4000000 in
theorem JAppend_any {w : World} {gj gd base : Nat} {J : JnS} {wv : Value} (h : JB w gj gd J wv) (ho : OB w base wv J.waits) (hji : JI J) (hbase : base ≤ w.heap.size) (k : Nat) (tx : Int) (A : Option Addr) (n d : Nat) (cs : List Ch) (hc : CR w A n cs) (hn : n ≤ 9223372036854775807) (hpb : ∀ c ∈ cs, ∀ p ∈ c.2.2, p.1 ≤ 9223372036854775807) :
  Calls Tryz.prog 67 #[.pointer (some ⟨gj, 0, none⟩), .agg #[.int .u8 (k : Int), .int .i64 tx, .slice A n d]] w fun e w' => e = .returned (.tuple #[.int .i64 (appN J ⟨k, tx, cs⟩ : Int), .int .i64 (appE J ⟨k, tx, cs⟩)]) ∧ APost w gj gd base wv (appJ J ⟨k, tx, cs⟩) w' := by
 obtain ⟨Aw, cw, rfl, _, _, _⟩ := ho.form
 obtain ⟨lw, hlw⟩ : ∃ lw, lw = J.waits.length := ⟨_, rfl⟩
 rw [← hlw] at h ho ⊢
 have HLW' : Hid (J.waits.length = lw) := Lib.hid hlw.symm
 obtain ⟨o, hoo⟩ : ∃ o, o = Obj.cells #[.int .u8 (k : Int), .int .i64 tx, .slice A n d] 114 (0, 0) := ⟨_, rfl⟩
 have hb1 := gr_alloc (gr_refl w) o
 obtain ⟨i0, hi0, hz0, hz1, hz2⟩ := info_parts info_u8
 have HJ := Lib.hid h
 have HO := Lib.hid ho
 have HI := Lib.hid hji
 have HB1 := Lib.hid hb1
 have HST := Lib.hid (stands_any (h.below hb1))
 have HENC := Lib.hid (Encode_any k tx A n d cs (w.alloc o) (hc.below hb1) hn hpb)
 obtain ⟨r, hr⟩ : ∃ r : Rec, r = ⟨k, tx, cs⟩ := ⟨_, rfl⟩
 rw [← hr] at HENC ⊢
 have HR := Lib.hid hr
 have hwl := needL_le (Nat.le_trans (Nat.le_trans (Nat.le_add_left _ _) hji.u1) hji.b2)
 have hct := hji.c1
 have hbl := hji.b2
 have HA1 : Hid (∀ W, Below w.heap.size w W → APost w gj gd base (.slice Aw lw cw) J W) := Lib.hid (fun W hW => APost.below h ho hW)
 have HAPP : Hid (appE J r = if J.br then 4 else if r.right = false then 2 else if J.bl - J.us < needL (J.waits.length + (encR r).length) ∨ 4294967296 < J.ct + needL (J.waits.length + (encR r).length) then 5 else 0) := Lib.hid rfl
 have HAJ : Hid (appJ J r = if appE J r = 0 then { J with waits := J.waits ++ encR r, la := J.la + 1 } else J) := Lib.hid rfl
 have HAN : Hid (appN J r = if appE J r = 0 then J.la + 1 else 0) := Lib.hid rfl
 rw [← hlw] at HAPP hwl hct
 generalize appE J r = ae at *
 generalize appJ J r = aj at *
 generalize appN J r = an at *
 clear h ho hji hc hb1 hlw
 subst hoo
 go_enter Tryz.func67, Tryz.ntmps67
 go_wp2_with fail
 refine HST.out.mono ?_
 rintro e w1 ⟨rfl, rfl⟩
 unfold standE
 cases hbr : J.br
 ·rw [hbr] at HAPP
  have HAPP2 : Hid (ae = if r.right = false then 2 else if J.bl - J.us < needL (lw + (encR r).length) ∨ 4294967296 < J.ct + needL (lw + (encR r).length) then 5 else 0) := Lib.hid (HAPP.out)
  simp only [Bool.false_eq_true, if_false]
  clear hbr HAPP
  go_wp2_with fail
  refine HENC.out.mono ?_
  rintro e w2 ⟨v2, rfl, ob2, hb2⟩
  have HB2 := Lib.hid (gr_trans HB1.out hb2)
  have HOB2 := Lib.hid ob2
  have HEE : Hid (encE r = if r.right = true then 0 else 2) := Lib.hid rfl
  have HEL : Hid (encL r = if r.right = true then encR r else []) := Lib.hid rfl
  clear ob2 hb2
  cases hrr : r.right
  ·rw [hrr] at HEE HAPP2
   rw [show encE r = 2 from HEE.out]
   have ha : ae = 2 := HAPP2.out
   have HAE := Lib.hid ha
   clear hrr ha
   go_wp2_with fail
   go_ret2
   rw [HAJ.out, HAN.out, HAE.out]
   exact ⟨rfl, HA1.out _ HB2.out⟩
  ·rw [hrr] at HEE HAPP2 HEL
   have HAPP3 : Hid (ae = if J.bl - J.us < needL (lw + (encR r).length) ∨ 4294967296 < J.ct + needL (lw + (encR r).length) then 5 else 0) := Lib.hid HAPP2.out
   rw [show encE r = 0 from HEE.out]
   rw [show encL r = encR r from HEL.out] at HOB2
   have hel : (encR r).length ≤ 400004 := by rw [encR_len]; have := encB_small hrr; omega
   obtain ⟨Ab, cb, rfl, brb, _, _⟩ := HOB2.out.form
   have HJ2 := Lib.hid (HJ.out.below HB2.out)
   have HO2 := Lib.hid (HO.out.below HB2.out)
   have HBRB := Lib.hid brb
   have c8 := HJ2.out.c8
   have c6 := HJ2.out.c6
   have c9 := HJ2.out.c9
   have hus : J.us ≤ J.bl := Nat.le_trans (Nat.le_add_right _ _) HI.out.u1
   have hla := HI.out.l1
   clear hrr HAPP2 brb HEE HEL HENC
   generalize hle : (encR r).length = le at *
   have HLE' := Lib.hid hle
   clear hle
   go_wp2_with fail
   refine (needs_any (lw + le) w2 (by omega)).mono ?_
   rintro e w3 ⟨rfl, rfl⟩
   have HRM := Lib.hid (Room_any HJ2.out hus hbl)
   have hnn : needL (lw + le) ≤ 1200 := by unfold needL; omega
   generalize needL (lw + le) = nn at *
   have hrm : J.bl - J.us ≤ 1024 := by omega
   have HRMM : Hid (J.bl - J.us = J.bl - J.us) := Lib.hid rfl
   generalize J.bl - J.us = rm at *
   by_cases h1 : rm < nn
   ·have t1 : decide (rm < nn) = true := decide_eq_true h1
    have HAE : Hid (ae = 5) := Lib.hid (by rw [HAPP3.out, if_pos (.inl h1)])
    clear h1
    go_wp2_with fail
    refine HRM.out.mono ?_
    rintro e w4 ⟨rfl, hb4⟩
    have HB4 := Lib.hid (gr_trans HB2.out hb4)
    clear hb4
    go_wp2_with fail
    go_ret2
    rw [HAJ.out, HAN.out, HAE.out]
    exact ⟨rfl, HA1.out _ HB4.out⟩
   ·have t1 : decide (rm < nn) = false := decide_eq_false h1
    by_cases h2 : 4294967296 < J.ct + nn
    ·have t2 : decide ((4294967295 : Int) < (J.ct : Int) + (nn : Int) - 1) = true := decide_eq_true (by omega)
     have HAE : Hid (ae = 5) := Lib.hid (by rw [HAPP3.out, if_pos (.inr h2)])
     clear h1
     go_wp2_with fail
     refine HRM.out.mono ?_
     rintro e w4 ⟨rfl, hb4⟩
     have HB4 := Lib.hid (gr_trans HB2.out hb4)
     have c6' := (HJ2.out.below hb4).c6
     clear hb4
     go_wp2_with fail
     go_ret2
     rw [HAJ.out, HAN.out, HAE.out]
     exact ⟨rfl, HA1.out _ HB4.out⟩
    ·have t2 : decide ((4294967295 : Int) < (J.ct : Int) + (nn : Int) - 1) = false := decide_eq_false (by omega)
     have HAE : Hid (ae = 0) := Lib.hid (by rw [HAPP3.out, if_neg (by omega)])
     clear h1
     go_wp2_with fail
     refine HRM.out.mono ?_
     rintro e w4 ⟨rfl, hb4⟩
     have HB4 := Lib.hid (gr_trans HB2.out hb4)
     have c6' := (HJ2.out.below hb4).c6
     have HJ4 := Lib.hid (HJ2.out.below hb4)
     have HO4 := Lib.hid (HO2.out.below hb4)
     have HBR4 := Lib.hid (HBRB.out.below hb4)
     have hs4 := HB4.out.size
     have c8' := HJ4.out.c8
     have HOW : Hid (w4.ownsRow base 5 1 (.slice Aw lw cw) lw (J.waits.map bv)) := Lib.hid (by have := HO4.out; unfold OB at this; rw [HLW'.out] at this; exact this)
     have HBL : Hid (base ≤ w4.heap.size) := Lib.hid (Nat.le_trans hbase hs4)
     clear hb4
     go_wp2_with (at_builtin; refine wpList_append_Rd _ rfl (.tmp 50) (.tmp 51) _ rfl base 5 i0 _ 1 1 Tryz.underlying35 hi0 hz0 hz1 hz2 rfl (.slice Aw lw cw) lw _ rfl HOW.out Ab le cb ((encR r).map bv) rfl HBR4.out (one_bv _) (by omega) (by simp only [maxLen]; omega) HBL.out ?_; intro v8 w8 ho8 hg8 _ hbl8; obtain ⟨A8, c8, rfl, _, _⟩ := own_form ho8; have HO8 : Hid (OB w8 base (.slice A8 (lw + le) c8) (J.waits ++ encR r)) := Lib.hid (OB.of_own ho8 (by rw [List.map_append])); have HG8 := Lib.hid hg8; have HBL8 := Lib.hid hbl8; clear ho8 hg8 hbl8; have HJ8 := Lib.hid (HJ4.out.off (Off.of_grown (S := fun k => (Value.slice Aw lw cw).ownBlock = some k) HG8.out (fun _ e => e)) (HJ4.out.apart HO4.out)); have fz8 := HJ8.out.frozen 8; have d8 := HJ8.out.c8; have HJ9 := Lib.hid (HJ8.out.s8 (.slice A8 (lw + le) c8) (J.waits ++ encR r)); have d9 := HJ9.out.c9; have fz9 := HJ9.out.frozen 9; have HJX := Lib.hid (HJ9.out.s9 (J.la + 1)); have dX := HJX.out.c9)
     go_ret2
     rw [HAJ.out, HAN.out, HAE.out]
     exact ⟨rfl, APost.done HJ.out HO.out HB4.out HG8.out HBL8.out HO8.out (by rw [show ((J.la + 1 : Nat) : Int) = (J.la : Int) + 1 from rfl])⟩
 ·have ha : ae = 4 := by have := HAPP.out; rw [hbr] at this; exact this
  have HAE := Lib.hid ha
  simp only [if_true]
  clear hbr ha
  go_wp2_with fail
  go_ret2
  rw [HAJ.out, HAN.out, HAE.out]
  exact ⟨rfl, HA1.out _ HB1.out⟩
end Go.Proofs.YtnkeclpgpiogoaaGreat

/-! JnG -/
namespace Go.Proofs.YtnkeclpgpiogoaaGreat
open Go Go.RowKit
def wsJ (J : JnS) : List (Nat × List UInt8) := wsL J.fi J.bl J.ep J.pl J.ct J.waits
def fluE (D : DiskS) (J : JnS) : Int := if J.br then 4 else if J.waits.length = 0 then 0 else flushE D (wsJ J)
def fluD (D : DiskS) (J : JnS) : DiskS := if J.br = true ∨ J.waits.length = 0 then D else flushD D (wsJ J)
def fluJ (D : DiskS) (J : JnS) : JnS := if J.br = true ∨ J.waits.length = 0 then J else if flushE D (wsJ J) ≠ 0 then { J with br := true } else { J with pl := (J.pl + needL J.waits.length) % J.bl, ct := J.ct + needL J.waits.length, us := J.us + needL J.waits.length, waits := [], sy := J.la }
set_option maxRecDepth 100000 in
theorem JI.flu {J : JnS} (D : DiskS) (h : JI J) : JI (fluJ D J) := by
 unfold fluJ
 split
 ·exact h
 ·split
  ·exact ⟨h.b1, h.b2, h.f1, h.p1, h.u1, h.c1, h.l1⟩
  ·exact ⟨h.b1, h.b2, h.f1, Nat.mod_lt _ h.b1, by have := h.u1; simp [needL] at this ⊢; omega, by have := h.c1; simp [needL] at this ⊢; omega, h.l1⟩
def FPost (w : World) (ok : Nat → Prop) (base gj gd : Nat) (F : Nat → Prop) (D : DiskS) (J : JnS) (wv : Value) (w' : World) : Prop :=
 Off (fun k => F k ∨ k = gj) w w' ∧ ∃ wv' F', (wv' = wv ∨ wv' = .slice none 0 0) ∧ JB w' gj gd J wv' ∧ OB w' base wv' J.waits ∧ IsD w' (fun k => ok k ∨ w.heap.size ≤ k) base gd F' D ∧ ∀ k, F' k → F k ∨ w.heap.size ≤ k
set_option maxRecDepth 100000 in
theorem FPost.of {w w7 w' : World} {ok : Nat → Prop} {base gj gd : Nat} {F : Nat → Prop} {D : DiskS} {J J' : JnS} {wv wv' : Value} (hj : JB w gj gd J wv) (hF : ¬ F gj) (hd : DPost w ok base gd F D w7) (hw : wv' = wv ∨ wv' = .slice none 0 0) (ho : Off (fun k => k = gj) w7 w') (hj' : JB w' gj gd J' wv') (hob : OB w' base wv' J'.waits) : FPost w ok base gj gd F D J' wv w' := by
 obtain ⟨h1, F', h2, h3⟩ := hd
 have hj7 := hj.off h1 hF
 have hjl := hj.lt
 refine ⟨(h1.mono (fun _ _ e => .inl e)).trans (ho.mono (fun _ _ e => .inr e)), wv', F', hw, hj', hob, h2.off ho (fun k hk e => ?_) (fun k m e hb => ?_), h3⟩
 ·subst e
  rcases h3 k hk with e | e
  ·exact hF e
  ·omega
 ·subst e
  unfold JB at hj7
  unfold BB at hb
  rw [hj7] at hb
  injection hb with hb
  injection hb with _ hb _
  exact absurd hb (by decide)
set_option maxRecDepth 100000 in
theorem FPost.same {w w' : World} {ok : Nat → Prop} {base gj gd : Nat} {F : Nat → Prop} {D : DiskS} {J : JnS} {wv : Value} (hj : JB w gj gd J wv) (ho : OB w base wv J.waits) (hd : IsD w ok base gd F D) (hb : Below w.heap.size w w') : FPost w ok base gj gd F D J wv w' :=
 ⟨Off.of_below hb, wv, F, .inl rfl, hj.below hb, ho.below hb, (hd.below hb).mono (fun _ _ e => .inl e), fun _ e => .inl e⟩
set_option maxRecDepth 100000 in
set_option maxHeartbeats 4000000 in
theorem JFlush_any {w : World} {ok : Nat → Prop} {base gj gd : Nat} {F : Nat → Prop} {D : DiskS} {J : JnS} {wv : Value} (h : JB w gj gd J wv) (ho : OB w base wv J.waits) (hd : IsD w ok base gd F D) (hji : JI J) (hF : ¬ F gj) (hpd : D.pending.length ≤ 900000) :
  Calls Tryz.prog 41 #[.pointer (some ⟨gj, 0, none⟩)] w fun e w' => e = .returned (.int .i64 (fluE D J)) ∧ FPost w ok base gj gd F (fluD D J) (fluJ D J) wv w' := by
 obtain ⟨Aw, cw, rfl, brw, hlc, _⟩ := ho.form
 have HST := Lib.hid (stands_any h)
 have HSAME : Hid (FPost w ok base gj gd F D J (.slice Aw J.waits.length cw) w) := Lib.hid (FPost.same h ho hd (gr_refl w))
 have HJ := Lib.hid h
 have HO := Lib.hid ho
 have HD := Lib.hid hd
 have HI := Lib.hid hji
 have HBR := Lib.hid brw
 have HLC := Lib.hid hlc
 have HA : Hid (∀ ad, Aw = some ad → ad.block < w.heap.size ∧ ¬ F ad.block) := Lib.hid (fun ad e => by
  subst e
  obtain ⟨cur, fr, hc⟩ := own_at ho rfl
  exact ⟨(Array.getElem?_eq_some_iff.1 hc).1, fun hf => hd.foot_ty _ _ _ hf hc⟩)
 have HFE : Hid (fluE D J = if J.br then 4 else if J.waits.length = 0 then 0 else flushE D (wsJ J)) := Lib.hid rfl
 have HFD : Hid (fluD D J = if J.br = true ∨ J.waits.length = 0 then D else flushD D (wsJ J)) := Lib.hid rfl
 have HFJ : Hid (fluJ D J = if J.br = true ∨ J.waits.length = 0 then J else if flushE D (wsJ J) ≠ 0 then { J with br := true } else { J with pl := (J.pl + needL J.waits.length) % J.bl, ct := J.ct + needL J.waits.length, us := J.us + needL J.waits.length, waits := [], sy := J.la }) := Lib.hid rfl
 have c8 := h.c8
 have hwl := needL_le (Nat.le_trans (Nat.le_trans (Nat.le_add_left _ _) hji.u1) hji.b2)
 generalize fluE D J = fe at *
 generalize fluD D J = fd at *
 generalize fluJ D J = fj at *
 clear h ho hd hji brw hlc
 go_enter Tryz.func41, Tryz.ntmps41
 go_wp2_with fail
 refine HST.out.mono ?_
 rintro e w1 ⟨rfl, rfl⟩
 unfold standE
 cases hbr : J.br
 ·rw [hbr] at HFE
  simp only [Bool.false_eq_true, if_false]
  by_cases hl : J.waits.length = 0
  ·have t1 : ((J.waits.length : Int) == 0) = true := beq_iff_eq.2 (by omega)
   have HE : Hid (fe = 0 ∧ fd = D ∧ fj = J) := Lib.hid ⟨by rw [HFE.out, if_neg (by simp), if_pos hl], by rw [HFD.out, if_pos (.inr hl)], by rw [HFJ.out, if_pos (.inr hl)]⟩
   clear hl hbr
   go_wp2_with fail
   go_ret
   rw [HE.out.1, HE.out.2.1, HE.out.2.2]
   exact ⟨rfl, HSAME.out⟩
  ·have t1 : ((J.waits.length : Int) == 0) = false := beq_eq_false_iff_ne.2 (by omega)
   have HE : Hid (fe = flushE D (wsJ J) ∧ fd = flushD D (wsJ J) ∧ fj = if flushE D (wsJ J) ≠ 0 then { J with br := true } else { J with pl := (J.pl + needL J.waits.length) % J.bl, ct := J.ct + needL J.waits.length, us := J.us + needL J.waits.length, waits := [], sy := J.la }) := Lib.hid ⟨by rw [HFE.out, if_neg (by simp), if_neg hl], by rw [HFD.out, if_neg (by rw [hbr]; simp [hl])], by rw [HFJ.out, if_neg (by rw [hbr]; simp [hl])]⟩
   clear hl hbr HFE HFD HFJ
   go_upto_region 6 with fail
   have D2 := Lib.hid (show w.drew.cell? ⟨gj, 5, none⟩ = some (.int .i64 (J.pl : Int)) from HJ.out.c5)
   have D3 := Lib.hid (show w.drew.cell? ⟨gj, 6, none⟩ = some (.int .i64 (J.ct : Int)) from HJ.out.c6)
   have D8 := Lib.hid (show w.drew.cell? ⟨gj, 8, none⟩ = some (.slice Aw J.waits.length cw) from HJ.out.c8)
   refine wp_region_any (by kernel_rfl) ?_
   refine' wpAny_to_tail (l0 := #[false, false, false, false, false, false, false, false, false, false, false, false, false, false, false, false, false]) (by kernel_rfl) (by kernel_rfl) (by kernel_rfl) (by kernel_rfl) (by kernel_rfl)
    [MP.is (.pointer (some ⟨gj, 0, none⟩)), MP.is (.pointer (some ⟨gj, 0, none⟩)), MP.is (.pointer (some ⟨gj, 0, none⟩)), MP.is (.pointer (some ⟨gj, 0, none⟩)), MP.is (.pointer (some ⟨gj, 0, none⟩)), MP.is (.pointer (some ⟨gj, 5, none⟩)), MP.is (.int .i64 (J.pl : Int)), MP.is (.pointer (some ⟨gj, 0, none⟩)), MP.is (.pointer (some ⟨gj, 0, none⟩)), MP.is (.pointer (some ⟨gj, 6, none⟩)), MP.is (.int .i64 (J.ct : Int)), MP.is (.pointer (some ⟨gj, 0, none⟩)), MP.is (.pointer (some ⟨gj, 0, none⟩)), MP.is (.pointer (some ⟨gj, 8, none⟩)), MP.is (.slice Aw J.waits.length cw), MP.any, MP.any]
    (fun j => j == 15 || j == 16) #[true, true, true, true, true, true, true, true, true, true, true, true, true, true, true, false, false] rfl (by kernel_rfl) rfl (by kernel_rfl) (by kernel_rfl) (by kernel_rfl) (by kernel_rfl) (fun _ => undef) (by rfl) ?hR01 ?hAA1 ?hst1 ?hend1
   case hR01 =>
    intro j hj
    have hj2 : j ∈ [] := hj
    cases hj2
   case hAA1 =>
    intro f
    conv => lhs; simp only [putA, dstOf, List.size_toArray, List.length_cons, List.length_nil, Nat.zero_add, Nat.reduceAdd, List.getElem?_toArray, List.getElem?_cons_zero, List.getElem?_cons_succ, Option.bind_some, Act.put, List.setIfInBounds_toArray, List.set_cons_zero, List.set_cons_succ]
    first | done | exact rfl
   case hst1 =>
    refine Steps.of_list (l' := [0, 1, 2, 3, 4, 5, 6, 7, 8, 9, 10, 11, 12, 13, 14]) (by kernel_rfl) ?_
    refine Steps.cons rfl ?_ ?_
    ·intro f wz hB h K Q hK
     clear h
     try simp only [List.getElem_toArray, List.getElem_cons_zero]
     try rw [if_pos (by rfl)]
     go_simp
     exact hK _ _ (gr_refl _) rfl
    refine Steps.cons rfl ?_ ?_
    ·intro f wz hB h K Q hK
     have h0 : (MP.is (.pointer (some ⟨gj, 0, none⟩))).p (f 0) wz := h 0 (by kernel_rfl)
     have e0 : f 0 = (.pointer (some ⟨gj, 0, none⟩)) := h0
     simp only [e0] at hK ⊢
     clear e0
     clear h
     try rw [if_pos (by rfl)]
     go_simp
     exact hK _ _ (gr_refl _) rfl
    refine Steps.cons rfl ?_ ?_
    ·intro f wz hB h K Q hK
     have h1 : (MP.is (.pointer (some ⟨gj, 0, none⟩))).p (f 1) wz := h 1 (by kernel_rfl)
     have e1 : f 1 = (.pointer (some ⟨gj, 0, none⟩)) := h1
     simp only [e1] at hK ⊢
     clear e1
     clear h
     try rw [if_pos (by rfl)]
     go_simp
     exact hK _ _ (gr_refl _) rfl
    refine Steps.cons rfl ?_ ?_
    ·intro f wz hB h K Q hK
     clear h
     try rw [if_pos (by rfl)]
     go_simp
     exact hK _ _ (gr_refl _) rfl
    refine Steps.cons rfl ?_ ?_
    ·intro f wz hB h K Q hK
     have h3 : (MP.is (.pointer (some ⟨gj, 0, none⟩))).p (f 3) wz := h 3 (by kernel_rfl)
     have e3 : f 3 = (.pointer (some ⟨gj, 0, none⟩)) := h3
     simp only [e3] at hK ⊢
     clear e3
     clear h
     try rw [if_pos (by rfl)]
     go_simp
     exact hK _ _ (gr_refl _) rfl
    refine Steps.cons rfl ?_ ?_
    ·intro f wz hB h K Q hK
     have h4 : (MP.is (.pointer (some ⟨gj, 0, none⟩))).p (f 4) wz := h 4 (by kernel_rfl)
     have e4 : f 4 = (.pointer (some ⟨gj, 0, none⟩)) := h4
     simp only [e4] at hK ⊢
     clear e4
     clear h
     try rw [if_pos (by rfl)]
     go_simp
     exact hK _ _ (gr_refl _) rfl
    refine Steps.cons rfl ?_ ?_
    ·intro f wz hB h K Q hK
     have h5 : (MP.is (.pointer (some ⟨gj, 5, none⟩))).p (f 5) wz := h 5 (by kernel_rfl)
     have e5 : f 5 = (.pointer (some ⟨gj, 5, none⟩)) := h5
     simp only [e5] at hK ⊢
     clear e5
     clear h
     try rw [if_pos (by rfl)]
     have y0 := keep_of_below hB D2.out
     have y1 := keep_of_below hB D3.out
     have y2 := keep_of_below hB D8.out
     go_simp
     exact hK _ _ (gr_refl _) rfl
    refine Steps.cons rfl ?_ ?_
    ·intro f wz hB h K Q hK
     clear h
     try rw [if_pos (by rfl)]
     go_simp
     exact hK _ _ (gr_refl _) rfl
    refine Steps.cons rfl ?_ ?_
    ·intro f wz hB h K Q hK
     have h7 : (MP.is (.pointer (some ⟨gj, 0, none⟩))).p (f 7) wz := h 7 (by kernel_rfl)
     have e7 : f 7 = (.pointer (some ⟨gj, 0, none⟩)) := h7
     simp only [e7] at hK ⊢
     clear e7
     clear h
     try rw [if_pos (by rfl)]
     go_simp
     exact hK _ _ (gr_refl _) rfl
    refine Steps.cons rfl ?_ ?_
    ·intro f wz hB h K Q hK
     have h8 : (MP.is (.pointer (some ⟨gj, 0, none⟩))).p (f 8) wz := h 8 (by kernel_rfl)
     have e8 : f 8 = (.pointer (some ⟨gj, 0, none⟩)) := h8
     simp only [e8] at hK ⊢
     clear e8
     clear h
     try rw [if_pos (by rfl)]
     go_simp
     exact hK _ _ (gr_refl _) rfl
    refine Steps.cons rfl ?_ ?_
    ·intro f wz hB h K Q hK
     have h9 : (MP.is (.pointer (some ⟨gj, 6, none⟩))).p (f 9) wz := h 9 (by kernel_rfl)
     have e9 : f 9 = (.pointer (some ⟨gj, 6, none⟩)) := h9
     simp only [e9] at hK ⊢
     clear e9
     clear h
     try rw [if_pos (by rfl)]
     have y0 := keep_of_below hB D2.out
     have y1 := keep_of_below hB D3.out
     have y2 := keep_of_below hB D8.out
     go_simp
     exact hK _ _ (gr_refl _) rfl
    refine Steps.cons rfl ?_ ?_
    ·intro f wz hB h K Q hK
     clear h
     try rw [if_pos (by rfl)]
     go_simp
     exact hK _ _ (gr_refl _) rfl
    refine Steps.cons rfl ?_ ?_
    ·intro f wz hB h K Q hK
     have h11 : (MP.is (.pointer (some ⟨gj, 0, none⟩))).p (f 11) wz := h 11 (by kernel_rfl)
     have e11 : f 11 = (.pointer (some ⟨gj, 0, none⟩)) := h11
     simp only [e11] at hK ⊢
     clear e11
     clear h
     try rw [if_pos (by rfl)]
     go_simp
     exact hK _ _ (gr_refl _) rfl
    refine Steps.cons rfl ?_ ?_
    ·intro f wz hB h K Q hK
     have h12 : (MP.is (.pointer (some ⟨gj, 0, none⟩))).p (f 12) wz := h 12 (by kernel_rfl)
     have e12 : f 12 = (.pointer (some ⟨gj, 0, none⟩)) := h12
     simp only [e12] at hK ⊢
     clear e12
     clear h
     try rw [if_pos (by rfl)]
     go_simp
     exact hK _ _ (gr_refl _) rfl
    refine Steps.cons rfl ?_ ?_
    ·intro f wz hB h K Q hK
     have h13 : (MP.is (.pointer (some ⟨gj, 8, none⟩))).p (f 13) wz := h 13 (by kernel_rfl)
     have e13 : f 13 = (.pointer (some ⟨gj, 8, none⟩)) := h13
     simp only [e13] at hK ⊢
     clear e13
     clear h
     try rw [if_pos (by rfl)]
     have y0 := keep_of_below hB D2.out
     have y1 := keep_of_below hB D3.out
     have y2 := keep_of_below hB D8.out
     go_simp
     exact hK _ _ (gr_refl _) rfl
    exact Steps.nil
   intro f w4 hB4 hR
   conv => arg 7; simp only [putL, dstOf, List.size_toArray, List.length_cons, List.length_nil, Nat.zero_add, Nat.reduceAdd, List.getElem?_toArray, List.getElem?_cons_zero, List.getElem?_cons_succ, Option.bind_some, Act.put, List.setIfInBounds_toArray, List.set_cons_zero, List.set_cons_succ, Array.getD_eq_getD_getElem?, Option.getD_some, if_true, if_false, Bool.false_eq_true]
   have e0 : f 0 = (.pointer (some ⟨gj, 0, none⟩)) := hR 0 (by decide) rfl
   have e1 : f 1 = (.pointer (some ⟨gj, 0, none⟩)) := hR 1 (by decide) rfl
   have e2 : f 2 = (.pointer (some ⟨gj, 0, none⟩)) := hR 2 (by decide) rfl
   have e3 : f 3 = (.pointer (some ⟨gj, 0, none⟩)) := hR 3 (by decide) rfl
   have e4 : f 4 = (.pointer (some ⟨gj, 0, none⟩)) := hR 4 (by decide) rfl
   have e5 : f 5 = (.pointer (some ⟨gj, 5, none⟩)) := hR 5 (by decide) rfl
   have e6 : f 6 = (.int .i64 (J.pl : Int)) := hR 6 (by decide) rfl
   have e7 : f 7 = (.pointer (some ⟨gj, 0, none⟩)) := hR 7 (by decide) rfl
   have e8 : f 8 = (.pointer (some ⟨gj, 0, none⟩)) := hR 8 (by decide) rfl
   have e9 : f 9 = (.pointer (some ⟨gj, 6, none⟩)) := hR 9 (by decide) rfl
   have e10 : f 10 = (.int .i64 (J.ct : Int)) := hR 10 (by decide) rfl
   have e11 : f 11 = (.pointer (some ⟨gj, 0, none⟩)) := hR 11 (by decide) rfl
   have e12 : f 12 = (.pointer (some ⟨gj, 0, none⟩)) := hR 12 (by decide) rfl
   have e13 : f 13 = (.pointer (some ⟨gj, 8, none⟩)) := hR 13 (by decide) rfl
   have e14 : f 14 = (.slice Aw J.waits.length cw) := hR 14 (by decide) rfl
   simp only [e0, e1, e2, e3, e4, e5, e6, e7, e8, e9, e10, e11, e12, e13, e14]
   clear e0 e1 e2 e3 e4 e5 e6 e7 e8 e9 e10 e11 e12 e13 e14 hR
   have HB4 := Lib.hid (Below.trans (gr_drewN (gr_refl w) 1) hB4)
   have HD4 := Lib.hid (HD.out.below HB4.out)
   have HJ4 := Lib.hid (HJ.out.below HB4.out)
   have HWR := Lib.hid (write_any w4 ok base gj gd F D J.fi J.bl J.ep J.pl J.ct Aw J.waits.length cw J.waits HD4.out HJ4.out.rc ⟨HJ4.out.lt, hF⟩ (HBR.out.below HB4.out) (fun ad e => ⟨Nat.lt_of_lt_of_le (HA.out ad e).1 HB4.out.size, (HA.out ad e).2⟩) (by omega) HLC.out HI.out.b1 HI.out.b2 HI.out.f1 (by have := HI.out.p1; have := HI.out.b2; omega) (by have := HI.out.c1; omega) hpd)
   obtain ⟨r, hr⟩ : ∃ r, r = flushE D (wsJ J) := ⟨_, rfl⟩
   have HR0 : Hid (flushE D (wsJ J) = r) := Lib.hid hr.symm
   have HWR2 : Hid (Calls Tryz.prog 86 #[.pointer (some ⟨gj, 0, none⟩), .int .i64 (J.pl : Int), .int .i64 (J.ct : Int), .slice Aw J.waits.length cw] w4 fun e w' => e = .returned (.int .i64 r) ∧ DPost w ok base gd F (flushD D (wsJ J)) w') := Lib.hid (HWR.out.mono (fun e w' h => ⟨by rw [h.1, hr]; rfl, DPost.pre HB4.out h.2⟩))
   clear hB4 hr HWR
   refine wpAny_of_held (S := fun _ => True) _ _ _ _ ?_
   refine wpAnyH_ready (rs := [15]) (by kernel_rfl) (by simp) ?_
   refine AllReadyH.cons rfl (fun KK hK => ?_) AllReadyH.nil
   rw [if_pos (by rfl)]
   go_simp
   refine HWR2.out.mono ?_
   rintro e w7 ⟨rfl, hdp⟩
   have HDP := Lib.hid hdp
   clear hdp
   refine hK.out _ _ trivial (fun _ => ?_)
   clear hK KK
   try simp only [List.setIfInBounds_toArray, List.set_cons_zero, List.set_cons_succ]
   refine wpAnyH_ready (rs := [16]) (by kernel_rfl) (by simp) ?_
   refine AllReadyH.cons rfl (fun KK hK => ?_) AllReadyH.nil
   go_simp
   refine hK.out _ _ trivial (fun _ => ?_)
   clear hK KK
   try simp only [List.setIfInBounds_toArray, List.set_cons_zero, List.set_cons_succ]
   refine wpAnyH_done (by kernel_rfl) ?_ _
   by_cases hr0 : r = 0
   ·subst hr0
    have HJ7 := Lib.hid (HJ.out.off HDP.out.1 hF)
    have HO7 := Lib.hid ((HD.out.kb HDP.out.1).ob HO.out)
    have c8' := HJ7.out.c8
    go_wp2_with fail
    refine (needs_any J.waits.length w7 (by omega)).mono ?_
    rintro e w8 ⟨rfl, rfl⟩
    obtain ⟨nn, hnn⟩ : ∃ nn, nn = needL J.waits.length := ⟨_, rfl⟩
    have HNN := Lib.hid hnn
    have hnb : nn ≤ 1024 := by rw [hnn]; have := HI.out.u1; have := HI.out.b2; omega
    have hib := HI.out.b1
    have hib2 := HI.out.b2
    have hip := HI.out.p1
    have hic := HI.out.c1
    have hiu := HI.out.u1
    rw [← hnn] at hic hiu HE ⊢
    obtain ⟨x, hx⟩ : ∃ x : Nat, x = (J.pl + nn) % J.bl := ⟨_, rfl⟩
    have HX := Lib.hid hx
    have k1 : IntKind.i64.wrap ((J.pl : Int) + (nn : Int)) = (J.pl : Int) + (nn : Int) := by rw [IntKind.wrap_i64]; omega
    have k2 : Int.tmod ((J.pl : Int) + (nn : Int)) (J.bl : Int) = (x : Int) := by
     have e : (J.pl : Int) + (nn : Int) = ((J.pl + nn : Nat) : Int) := by omega
     rw [e, Int.tmod_eq_emod_of_nonneg (by omega), hx]
     exact (Int.natCast_emod _ _).symm
    have hz : ((J.bl : Int) == 0) = false := beq_eq_false_iff_ne.2 (by omega)
    have hz' : ¬ (J.bl = 0) := by omega
    clear hx hnn
    go_upto_region 11 with fail
    have E2 := Lib.hid (show w7.drew.cell? ⟨gj, 5, none⟩ = some (.int .i64 (J.pl : Int)) from HJ7.out.c5)
    have E3 := Lib.hid (show w7.drew.cell? ⟨gj, 2, none⟩ = some (.int .i64 (J.bl : Int)) from HJ7.out.c2)
    refine wp_region_any (by kernel_rfl) ?_
    refine' wpAny_to_tail (l0 := #[false, false, false, false, false, false, false, false, false, false, false, false, false, false, false, false]) (by kernel_rfl) (by kernel_rfl) (by kernel_rfl) (by kernel_rfl) (by kernel_rfl)
     [MP.is (.pointer (some ⟨gj, 0, none⟩)), MP.is (.pointer (some ⟨gj, 0, none⟩)), MP.is (.pointer (some ⟨gj, 0, none⟩)), MP.is (.pointer (some ⟨gj, 5, none⟩)), MP.is (.int .i64 (J.pl : Int)), MP.is (.int .i64 (nn : Int)), MP.is (.int .i64 ((J.pl : Int) + (nn : Int))), MP.is (.pointer (some ⟨gj, 0, none⟩)), MP.is (.pointer (some ⟨gj, 0, none⟩)), MP.is (.pointer (some ⟨gj, 0, none⟩)), MP.is (.pointer (some ⟨gj, 2, none⟩)), MP.is (.int .i64 (J.bl : Int)), MP.is (.int .i64 (x : Int)), MP.is (.pointer (some ⟨gj, 0, none⟩)), MP.is (.pointer (some ⟨gj, 5, none⟩)), MP.any]
     (fun j => j == 15) #[true, true, true, true, true, true, true, true, true, true, true, true, true, true, true, false] rfl (by kernel_rfl) rfl (by kernel_rfl) (by kernel_rfl) (by kernel_rfl) (by kernel_rfl) (fun _ => undef) (by rfl) ?hR02 ?hAA2 ?hst2 ?hend2
    case hR02 =>
     intro j hj
     have hj2 : j ∈ [] := hj
     cases hj2
    case hAA2 =>
     intro f
     conv => lhs; simp only [putA, dstOf, List.size_toArray, List.length_cons, List.length_nil, Nat.zero_add, Nat.reduceAdd, List.getElem?_toArray, List.getElem?_cons_zero, List.getElem?_cons_succ, Option.bind_some, Act.put, List.setIfInBounds_toArray, List.set_cons_zero, List.set_cons_succ]
     first | done | exact rfl
    case hst2 =>
     refine Steps.of_list (l' := [0, 1, 2, 3, 4, 5, 6, 7, 8, 9, 10, 11, 12, 13, 14]) (by kernel_rfl) ?_
     refine Steps.cons rfl ?_ ?_
     ·intro f wz hB h K Q hK
      clear h
      try simp only [List.getElem_toArray, List.getElem_cons_zero]
      try rw [if_pos (by rfl)]
      go_simp
      exact hK _ _ (gr_refl _) rfl
     refine Steps.cons rfl ?_ ?_
     ·intro f wz hB h K Q hK
      clear h
      try rw [if_pos (by rfl)]
      go_simp
      exact hK _ _ (gr_refl _) rfl
     refine Steps.cons rfl ?_ ?_
     ·intro f wz hB h K Q hK
      have h1 : (MP.is (.pointer (some ⟨gj, 0, none⟩))).p (f 1) wz := h 1 (by kernel_rfl)
      have e1 : f 1 = (.pointer (some ⟨gj, 0, none⟩)) := h1
      simp only [e1] at hK ⊢
      clear e1
      clear h
      try rw [if_pos (by rfl)]
      go_simp
      exact hK _ _ (gr_refl _) rfl
     refine Steps.cons rfl ?_ ?_
     ·intro f wz hB h K Q hK
      have h2 : (MP.is (.pointer (some ⟨gj, 0, none⟩))).p (f 2) wz := h 2 (by kernel_rfl)
      have e2 : f 2 = (.pointer (some ⟨gj, 0, none⟩)) := h2
      simp only [e2] at hK ⊢
      clear e2
      clear h
      try rw [if_pos (by rfl)]
      go_simp
      exact hK _ _ (gr_refl _) rfl
     refine Steps.cons rfl ?_ ?_
     ·intro f wz hB h K Q hK
      have h3 : (MP.is (.pointer (some ⟨gj, 5, none⟩))).p (f 3) wz := h 3 (by kernel_rfl)
      have e3 : f 3 = (.pointer (some ⟨gj, 5, none⟩)) := h3
      simp only [e3] at hK ⊢
      clear e3
      clear h
      try rw [if_pos (by rfl)]
      have y0 := keep_of_below hB E2.out
      have y1 := keep_of_below hB E3.out
      go_simp
      exact hK _ _ (gr_refl _) rfl
     refine Steps.cons rfl ?_ ?_
     ·intro f wz hB h K Q hK
      clear h
      try rw [if_pos (by rfl)]
      go_simp
      exact hK _ _ (gr_refl _) rfl
     refine Steps.cons rfl ?_ ?_
     ·intro f wz hB h K Q hK
      have h4 : (MP.is (.int .i64 (J.pl : Int))).p (f 4) wz := h 4 (by kernel_rfl)
      have e4 : f 4 = (.int .i64 (J.pl : Int)) := h4
      have h5 : (MP.is (.int .i64 (nn : Int))).p (f 5) wz := h 5 (by kernel_rfl)
      have e5 : f 5 = (.int .i64 (nn : Int)) := h5
      simp only [e4, e5] at hK ⊢
      clear e4 e5
      clear h
      try rw [if_pos (by rfl)]
      go_simp
      exact hK _ _ (gr_refl _) rfl
     refine Steps.cons rfl ?_ ?_
     ·intro f wz hB h K Q hK
      clear h
      try rw [if_pos (by rfl)]
      go_simp
      exact hK _ _ (gr_refl _) rfl
     refine Steps.cons rfl ?_ ?_
     ·intro f wz hB h K Q hK
      have h7 : (MP.is (.pointer (some ⟨gj, 0, none⟩))).p (f 7) wz := h 7 (by kernel_rfl)
      have e7 : f 7 = (.pointer (some ⟨gj, 0, none⟩)) := h7
      simp only [e7] at hK ⊢
      clear e7
      clear h
      try rw [if_pos (by rfl)]
      go_simp
      exact hK _ _ (gr_refl _) rfl
     refine Steps.cons rfl ?_ ?_
     ·intro f wz hB h K Q hK
      have h8 : (MP.is (.pointer (some ⟨gj, 0, none⟩))).p (f 8) wz := h 8 (by kernel_rfl)
      have e8 : f 8 = (.pointer (some ⟨gj, 0, none⟩)) := h8
      simp only [e8] at hK ⊢
      clear e8
      clear h
      try rw [if_pos (by rfl)]
      go_simp
      exact hK _ _ (gr_refl _) rfl
     refine Steps.cons rfl ?_ ?_
     ·intro f wz hB h K Q hK
      have h9 : (MP.is (.pointer (some ⟨gj, 0, none⟩))).p (f 9) wz := h 9 (by kernel_rfl)
      have e9 : f 9 = (.pointer (some ⟨gj, 0, none⟩)) := h9
      simp only [e9] at hK ⊢
      clear e9
      clear h
      try rw [if_pos (by rfl)]
      go_simp
      exact hK _ _ (gr_refl _) rfl
     refine Steps.cons rfl ?_ ?_
     ·intro f wz hB h K Q hK
      have h10 : (MP.is (.pointer (some ⟨gj, 2, none⟩))).p (f 10) wz := h 10 (by kernel_rfl)
      have e10 : f 10 = (.pointer (some ⟨gj, 2, none⟩)) := h10
      simp only [e10] at hK ⊢
      clear e10
      clear h
      try rw [if_pos (by rfl)]
      have y0 := keep_of_below hB E2.out
      have y1 := keep_of_below hB E3.out
      go_simp
      exact hK _ _ (gr_refl _) rfl
     refine Steps.cons rfl ?_ ?_
     ·intro f wz hB h K Q hK
      have h6 : (MP.is (.int .i64 ((J.pl : Int) + (nn : Int)))).p (f 6) wz := h 6 (by kernel_rfl)
      have e6 : f 6 = (.int .i64 ((J.pl : Int) + (nn : Int))) := h6
      have h11 : (MP.is (.int .i64 (J.bl : Int))).p (f 11) wz := h 11 (by kernel_rfl)
      have e11 : f 11 = (.int .i64 (J.bl : Int)) := h11
      simp only [e6, e11] at hK ⊢
      clear e6 e11
      clear h
      try rw [if_pos (by rfl)]
      go_simp
      exact hK _ _ (gr_refl _) rfl
     refine Steps.cons rfl ?_ ?_
     ·intro f wz hB h K Q hK
      have h0 : (MP.is (.pointer (some ⟨gj, 0, none⟩))).p (f 0) wz := h 0 (by kernel_rfl)
      have e0 : f 0 = (.pointer (some ⟨gj, 0, none⟩)) := h0
      simp only [e0] at hK ⊢
      clear e0
      clear h
      try rw [if_pos (by rfl)]
      go_simp
      exact hK _ _ (gr_refl _) rfl
     refine Steps.cons rfl ?_ ?_
     ·intro f wz hB h K Q hK
      have h13 : (MP.is (.pointer (some ⟨gj, 0, none⟩))).p (f 13) wz := h 13 (by kernel_rfl)
      have e13 : f 13 = (.pointer (some ⟨gj, 0, none⟩)) := h13
      simp only [e13] at hK ⊢
      clear e13
      clear h
      try rw [if_pos (by rfl)]
      go_simp
      exact hK _ _ (gr_refl _) rfl
     exact Steps.nil
    intro f w5 hB5 hR
    conv => arg 7; simp only [putL, dstOf, List.size_toArray, List.length_cons, List.length_nil, Nat.zero_add, Nat.reduceAdd, List.getElem?_toArray, List.getElem?_cons_zero, List.getElem?_cons_succ, Option.bind_some, Act.put, List.setIfInBounds_toArray, List.set_cons_zero, List.set_cons_succ, Array.getD_eq_getD_getElem?, Option.getD_some, if_true, if_false, Bool.false_eq_true]
    have e0 : f 0 = (.pointer (some ⟨gj, 0, none⟩)) := hR 0 (by decide) rfl
    have e1 : f 1 = (.pointer (some ⟨gj, 0, none⟩)) := hR 1 (by decide) rfl
    have e2 : f 2 = (.pointer (some ⟨gj, 0, none⟩)) := hR 2 (by decide) rfl
    have e3 : f 3 = (.pointer (some ⟨gj, 5, none⟩)) := hR 3 (by decide) rfl
    have e4 : f 4 = (.int .i64 (J.pl : Int)) := hR 4 (by decide) rfl
    have e5 : f 5 = (.int .i64 (nn : Int)) := hR 5 (by decide) rfl
    have e6 : f 6 = (.int .i64 ((J.pl : Int) + (nn : Int))) := hR 6 (by decide) rfl
    have e7 : f 7 = (.pointer (some ⟨gj, 0, none⟩)) := hR 7 (by decide) rfl
    have e8 : f 8 = (.pointer (some ⟨gj, 0, none⟩)) := hR 8 (by decide) rfl
    have e9 : f 9 = (.pointer (some ⟨gj, 0, none⟩)) := hR 9 (by decide) rfl
    have e10 : f 10 = (.pointer (some ⟨gj, 2, none⟩)) := hR 10 (by decide) rfl
    have e11 : f 11 = (.int .i64 (J.bl : Int)) := hR 11 (by decide) rfl
    have e12 : f 12 = (.int .i64 (x : Int)) := hR 12 (by decide) rfl
    have e13 : f 13 = (.pointer (some ⟨gj, 0, none⟩)) := hR 13 (by decide) rfl
    have e14 : f 14 = (.pointer (some ⟨gj, 5, none⟩)) := hR 14 (by decide) rfl
    simp only [e0, e1, e2, e3, e4, e5, e6, e7, e8, e9, e10, e11, e12, e13, e14]
    clear e0 e1 e2 e3 e4 e5 e6 e7 e8 e9 e10 e11 e12 e13 e14 hR
    have HB5 : Hid (Below w7.heap.size w7 w5) := Lib.hid (Below.trans (gr_drewN (gr_refl w7) 1) hB5)
    have HJ5 := Lib.hid (HJ7.out.below HB5.out)
    have f5 := HJ5.out.frozen 5
    have f6 := HJ5.out.frozen 6
    have f7 := HJ5.out.frozen 7
    have f8 := HJ5.out.frozen 8
    have f10 := HJ5.out.frozen 10
    have d5 := HJ5.out.c5
    have d6 := HJ5.out.c6
    have d7 := HJ5.out.c7
    have d8 := HJ5.out.c8
    have d9 := HJ5.out.c9
    have d10 := HJ5.out.c10
    have HJF := Lib.hid (((((HJ5.out.s5 x).s6 (J.ct + nn)).s7 (J.us + nn)).s8 (.slice none 0 0) []).s10 J.la)
    clear c8' c8 t1 k1 k2 hz hz'
    clear hB5
    refine wpAny_of_held (S := fun _ => True) _ _ _ _ ?_
    refine wpAnyH_ready (rs := [15]) (by kernel_rfl) (by simp) ?_
    refine AllReadyH.cons rfl (fun KK hK => ?_) AllReadyH.nil
    go_simp
    refine hK.out _ _ trivial (fun _ => ?_)
    clear hK KK
    try simp only [List.setIfInBounds_toArray, List.set_cons_zero, List.set_cons_succ]
    refine wpAnyH_done (by kernel_rfl) ?_ _
    go_wp2_with fail
    go_ret
    rw [HE.out.1, HE.out.2.1, HE.out.2.2, if_neg (by rw [HR0.out]; simp), ← HX.out]
    have hjf := HJF.out
    rw [Int.natCast_add J.ct nn, Int.natCast_add J.us nn] at hjf
    have oF := (((((Off.refl (fun k => k = gj) w5).setCell (j := 5) (.int .i64 (x : Int)) rfl).setCell (j := 6) (.int .i64 ((J.ct : Int) + (nn : Int))) rfl).setCell (j := 7) (.int .i64 ((J.us : Int) + (nn : Int))) rfl).setCell (j := 8) (.slice none 0 0) rfl).setCell (j := 10) (.int .i64 (J.la : Int)) rfl
    have hfin := FPost.of HJ.out hF (HDP.out.more HB5.out) (.inr rfl) oF hjf (OB.nil _ _)
    refine ⟨ret_i HR0.out.symm, ?_⟩
    exact hfin
   ·have t3 : (r != 0) = true := by rw [bne_iff_ne]; exact hr0
    have HN0 := Lib.hid hr0
    have HJ7 := Lib.hid (HJ.out.off HDP.out.1 hF)
    have HO7 := Lib.hid ((HD.out.kb HDP.out.1).ob HO.out)
    have c11 := HJ7.out.c11
    have f11 := HJ7.out.frozen 11
    clear hr0
    go_wp2_with fail
    go_ret
    rw [HE.out.1, HE.out.2.1, HE.out.2.2, if_pos (by rw [HR0.out]; exact HN0.out)]
    have oF : Off (fun k => k = gj) w7 (w7.setCell ⟨gj, 11, none⟩ (.bool true)) := (Off.refl (fun k => k = gj) w7).setCell _ rfl
    exact ⟨ret_i HR0.out.symm, FPost.of HJ.out hF HDP.out (.inl rfl) oF (HJ7.out.s11 true) (HO7.out.ty oF (fun k e => by subst e; exact ⟨_, _, _, HJ7.out, by decide⟩))⟩
 ·have HE : Hid (fe = 4 ∧ fd = D ∧ fj = J) := Lib.hid ⟨by rw [HFE.out, if_pos hbr], by rw [HFD.out, if_pos (.inl hbr)], by rw [HFJ.out, if_pos (.inl hbr)]⟩
  simp only [if_true]
  clear hbr
  go_wp2_with fail
  go_ret
  rw [HE.out.1, HE.out.2.1, HE.out.2.2]
  exact ⟨rfl, HSAME.out⟩
end Go.Proofs.YtnkeclpgpiogoaaGreat

/-! JnC -/
namespace Go.Proofs.YtnkeclpgpiogoaaGreat
open Go Go.RowKit
set_option maxRecDepth 100000 in
theorem lastL_len {bs : List (List UInt8)} {b n : Nat} : ∀ {ps : List (Nat × List UInt8)}, (bs.getD b []).length = n → (∀ p ∈ ps, p.2.length = n) → (lastL bs ps b).length = n := by
 intro ps h0 h
 unfold lastL
 generalize bs.getD b [] = z at h0
 induction ps generalizing z with
 | nil => exact h0
 | cons p ps ih =>
  simp only [List.foldl_cons]
  refine ih (fun q hq => h q (by simp [hq])) _ ?_
  split
  ·exact h p (by simp)
  ·exact h0
set_option maxRecDepth 100000 in
theorem IsD.lens {w : World} {ok : Nat → Prop} {base g : Nat} {F : Nat → Prop} {D : DiskS} (h : IsD w ok base g F D) : (∀ b, b < D.blocks.length → (D.blocks.getD b []).length = 4096) ∧ ∀ p ∈ D.pending, p.2.length = 4096 ∧ p.1 < D.blocks.length := by
 obtain ⟨dr, dc, pv, dvs, pvs, hd, _⟩ := h
 constructor
 ·intro b hb
  have h1 : b < dvs.length := by rw [hd.dl]; exact hb
  have := (hd.dv b dvs[b] D.blocks[b] (List.getElem?_eq_getElem h1) (List.getElem?_eq_getElem hb)).1
  rw [List.getD_eq_getElem?_getD, List.getElem?_eq_getElem hb]
  exact this
 ·intro p hp
  obtain ⟨i, hi, rfl⟩ := List.getElem_of_mem hp
  have h1 : i < pvs.length := by rw [hd.pl]; exact hi
  have := hd.pw i pvs[i] D.pending[i] (List.getElem?_eq_getElem h1) (List.getElem?_eq_getElem hi)
  exact ⟨this.2.2.1, this.2.1⟩
set_option maxRecDepth 100000 in
theorem IsD.blk_len {w : World} {ok : Nat → Prop} {base g : Nat} {F : Nat → Prop} {D : DiskS} (h : IsD w ok base g F D) {b : Nat} (hb : b < D.blocks.length) : (lastL D.blocks D.pending b).length = 4096 :=
 lastL_len (h.lens.1 b hb) (fun p hp => (h.lens.2 p hp).1)
def sN (s : List UInt8) : Nat := leN ((openP s).take 4)
def rdG (C : Nat → List UInt8) (V : Nat → Nat) : Nat → Nat → Nat → List UInt8 → Option (List UInt8)
 | 0, _, _, _ => none
 | f + 1, i, rest, acc =>
  if openE (C i) ≠ 0 ∨ openS (C i) ≠ V i then none
  else if sN (C i) = 0 ∨ (0 < i ∧ sN (C i) ≠ rest) then none
  else if sN (C i) ≤ 4076 then some (acc ++ ((openP (C i)).drop 4).take (sN (C i)))
  else rdG C V f (i + 1) (sN (C i) - 4076) (acc ++ ((openP (C i)).drop 4).take 4076)
set_option maxRecDepth 100000 in
theorem rdG_go {C : Nat → List UInt8} {V : Nat → Nat} {f i rest : Nat} {acc : List UInt8} (he : openE (C i) = 0) (hs : openS (C i) = V i) (h1 : sN (C i) ≠ 0) (h2 : 0 < i → sN (C i) = rest) : rdG C V (f + 1) i rest acc = if sN (C i) ≤ 4076 then some (acc ++ ((openP (C i)).drop 4).take (sN (C i))) else rdG C V f (i + 1) (sN (C i) - 4076) (acc ++ ((openP (C i)).drop 4).take 4076) := by
 conv => lhs; unfold rdG
 rw [if_neg (by rw [he, hs]; simp), if_neg (by rintro (h | ⟨h, k⟩); exact h1 h; exact k (h2 h))]
set_option maxRecDepth 100000 in
theorem rdG_bad {C : Nat → List UInt8} {V : Nat → Nat} {f i rest : Nat} {acc : List UInt8} (h : (openE (C i) ≠ 0 ∨ openS (C i) ≠ V i) ∨ (sN (C i) = 0 ∨ (0 < i ∧ sN (C i) ≠ rest))) : rdG C V (f + 1) i rest acc = none := by
 unfold rdG
 rcases h with h | h
 ·rw [if_pos h]
 ·by_cases k : openE (C i) ≠ 0 ∨ openS (C i) ≠ V i
  ·rw [if_pos k]
  ·rw [if_neg k, if_pos h]
def ringC (D : DiskS) (fi bl pl : Nat) (i : Nat) : List UInt8 := lastL D.blocks D.pending (fi + (pl + i) % bl)
def rdB (D : DiskS) (fi bl ep pl ct room : Nat) : Option (List UInt8) := rdG (ringC D fi bl pl) (fun i => ofN ep (ct + i)) room 0 0 []
def rdR (o : Option (List UInt8)) : List Rec := match o with
 | none => []
 | some b => if allE b = 0 then allR b else []
def rdN (o : Option (List UInt8)) : Nat := match o with
 | none => 0
 | some b => if allE b = 0 then needL b.length else 0
set_option maxRecDepth 100000 in
theorem sN_lt (s : List UInt8) : sN s < 4294967296 := by
 unfold sN
 have := leN_lt ((openP s).take 4)
 have h2 : ((openP s).take 4).length ≤ 4 := List.length_take_le _ _
 have h3 : 256 ^ ((openP s).take 4).length ≤ 256 ^ 4 := Nat.pow_le_pow_right (by omega) h2
 omega
set_option maxRecDepth 100000 in
theorem openP_len {s : List UInt8} (h : s.length = 4096) (he : openE s = 0) : (openP s).length = 4080 := by
 unfold openE at he
 unfold openP
 split at he
 ·rename_i hs
  rw [if_pos hs, List.length_take, List.length_drop, h]
  rfl
 ·omega
set_option maxRecDepth 100000 in
theorem numAt_sN {s : List UInt8} (h : (openP s).length = 4080) : numAt (openP s) 0 4 = some (sN s) := by
 unfold numAt
 rw [if_neg (by rw [h]; omega)]
 rfl
set_option maxRecDepth 100000 in
set_option maxHeartbeats 8000000 in
theorem read_any (w : World) (ok : Nat → Prop) (base gr gd : Nat) (F : Nat → Prop) (D : DiskS) (fi bl ep pl ct room : Nat) (h : IsD w ok base gd F D) (hr : RC w gr 0 (.pointer (some ⟨gd, 0, none⟩)) fi bl ep) (hg : gr < w.heap.size) (h0 : 0 < bl) (hbl : bl ≤ 1024) (hfb : fi + bl ≤ D.blocks.length) (hdn : D.down = false) (hpl : pl ≤ 1048576) (hct : ct ≤ 8589934592) (hpd : D.pending.length ≤ 1000000) (hroom : room ≤ 1024) :
  Calls Tryz.prog 90 #[.pointer (some ⟨gr, 0, none⟩), .int .i64 (pl : Int), .int .i64 (ct : Int), .int .i64 (room : Int)] w fun e w' => ∃ v, e = .returned (.tuple #[v, .int .i64 (rdN (rdB D fi bl ep pl ct room) : Int), .int .i64 0]) ∧ ORW w' w.heap.size v (rdR (rdB D fi bl ep pl ct room)) ∧ Below w.heap.size w w' := by
 have hfi : fi ≤ 4096 := by
  obtain ⟨dr, dc, pv, dvs, pvs, hd, _⟩ := h
  have := hd.n2
  omega
 have HD := Lib.hid h
 have HR := Lib.hid hr
 have HG := Lib.hid hg
 obtain ⟨res, hres⟩ : ∃ res, res = rdB D fi bl ep pl ct room := ⟨_, rfl⟩
 have HRES := Lib.hid hres
 rw [← hres]
 obtain ⟨i0, hi0, hz0, hz1, hz2⟩ := info_parts info_u8
 clear h hr hg hres
 go_enter Tryz.func90, Tryz.ntmps90
 go_wp2_with fail
 refine (places_any w gr pl ct).mono ?_
 rintro e w1 ⟨rfl, hpb, hb1⟩
 have HPB := Lib.hid hpb
 have HB1 := Lib.hid hb1
 have egp := egPl
 clear hpb hb1
 unfold PlV
 go_wp2_with fail
 go_loopw [12, 13, 14, 15, 16, 17, 18, 19, 20, 21, 22, 23, 24] (fun x12 x13 x14 _ _ _ _ _ _ _ _ _ _ wr => ∃ (i rest : Nat) (acc : List UInt8) (A : Option Addr) (c : Nat), i ≤ room ∧ rest ≤ 4294967295 ∧ x12 = .slice A acc.length c ∧ x13 = .int .i64 (rest : Int) ∧ x14 = .int .i64 (i : Int) ∧ acc.length ≤ 4076 * i ∧ Hid (OB wr w1.heap.size (.slice A acc.length c) acc) ∧ Hid (Below w1.heap.size w1 wr) ∧ Hid (i = 0 ∨ 0 < rest → res = rdG (ringC D fi bl pl) (fun i => ofN ep (ct + i)) (room - i) i rest acc) ∧ Hid (0 < i → rest = 0 → res = some acc)) (fun _ _ x14 _ _ _ _ _ _ _ _ _ _ _ => room + 1 - (intOf x14).toNat)
 case atStart => exact ⟨0, 0, [], none, 0, Nat.zero_le _, by omega, rfl, rfl, rfl, by simp, Lib.hid (OB.nil w1 w1.heap.size), Lib.hid (gr_refl w1), Lib.hid (fun _ => HRES.out), Lib.hid (fun h => absurd h (by omega))⟩
 case round =>
  obtain ⟨i, rest, acc, A, c, hi, hrest, rfl, rfl, rfl, hal, HOB, HBr, HQ1, HQ2⟩ := hrel
  have HPBr := Lib.hid (HPB.out.below HBr.out)
  have HDr := Lib.hid ((HD.out.below HB1.out).below HBr.out)
  have HGr : Hid (gr < wr.heap.size) := Lib.hid (Nat.lt_of_lt_of_le (Nat.lt_of_lt_of_le HG.out HB1.out.size) HBr.out.size)
  have HRr := Lib.hid ((HR.out.below HG.out HB1.out).below (Nat.lt_of_lt_of_le HG.out HB1.out.size) HBr.out)
  have HBW := Lib.hid (gr_trans HB1.out HBr.out)
  have ha1 : acc.length ≤ 4173824 := by omega
  have HAL := Lib.hid hal
  clear hal
  by_cases hgo : i = 0 ∨ 0 < rest
  ·have HQ := Lib.hid (HQ1.out hgo)
   by_cases hlt : i < room
   ·have HIX : Hid (i < room) := Lib.hid hlt
    have hpc := placeC wr w.heap.size gr fi bl ep pl ct i (.pointer (some ⟨gd, 0, none⟩)) HPBr.out HRr.out h0 hbl hfi hpl (by omega) (by omega)
    have hblk : fi + (pl + i) % bl < D.blocks.length := by
     have := Nat.mod_lt (pl + i) h0
     omega
    have HC : Hid (ringC D fi bl pl i = lastL D.blocks D.pending (fi + (pl + i) % bl)) := Lib.hid rfl
    have HL := Lib.hid (HDr.out.blk_len hblk)
    have hnm := ofN_lt ep (ct + i)
    have HBK := Lib.hid hblk
    have HSTEP := Lib.hid (rdG_go (C := ringC D fi bl pl) (V := fun i => ofN ep (ct + i)) (f := room - i - 1) (i := i) (rest := rest) (acc := acc))
    have HBAD := Lib.hid (rdG_bad (C := ringC D fi bl pl) (V := fun i => ofN ep (ct + i)) (f := room - i - 1) (i := i) (rest := rest) (acc := acc))
    rw [show room - i - 1 + 1 = room - i by omega, ← HQ.out, HC.out] at HSTEP HBAD
    rw [show room - i - 1 = room - (i + 1) by omega] at HSTEP
    generalize ofN ep (ct + i) = num at *
    generalize fi + (pl + i) % bl = blk at *
    have HPC := Lib.hid hpc
    obtain ⟨l, hl⟩ : ∃ l, l = lastL D.blocks D.pending blk := ⟨_, rfl⟩
    rw [← hl] at HL HSTEP HBAD
    have HLL := Lib.hid hl
    clear hpc hblk hl HQ HC HQ1 HQ2
    have tlt : decide (room ≤ i) = false := decide_eq_false (by omega)
    by_cases hz : i = 0
    ·have t1 : ((i : Int) == 0) = true := beq_iff_eq.2 (by omega)
     have HZ := Lib.hid hz
     have tip : decide (0 < i) = false := decide_eq_false (by omega)
     clear hz hgo hlt
     go_wp2_with fail
     refine HPC.out.mono ?_
     rintro e w3 ⟨rfl, hb3⟩
     have HB3 := Lib.hid hb3
     have hc0 := (HRr.out.below HGr.out hb3).1
     have HRD := Lib.hid (Read_good w3 _ base gd F D blk (HDr.out.below hb3) HBK.out hdn hpd)
     clear hb3
     go_wp2_with fail
     refine HRD.out.mono ?_
     rintro e w4 ⟨v4, rfl, ho4, hb4⟩
     rw [← HLL.out] at ho4
     obtain ⟨A4, c4, rfl, br4, hc4, _⟩ := ho4.formN HL.out
     have HB4 := Lib.hid (gr_trans HB3.out hb4)
     have HOP := Lib.hid (Open_any A4 c4 l w4 br4 hc4)
     clear ho4 hb4 br4 hc4 HRD HPC hc0
     go_wp2_with fail
     refine HOP.out.mono ?_
     rintro e w5 ⟨r5, rfl, ob5, hb5⟩
     have HB5 := Lib.hid (gr_trans HB4.out hb5)
     have HOB5 := Lib.hid ob5
     clear ob5 hb5 HOP
     by_cases he : openE l = 0
     ·by_cases hs : openS l = num
      ·have HPL := Lib.hid (openP_len HL.out he)
       obtain ⟨A5, c5, rfl, br5, hc5, hc5m⟩ := HOB5.out.formN HPL.out
       have HBR5 := Lib.hid br5
       have hu := U32_any A5 4080 c5 (openP l) w5 0 br5 (by omega) (by omega) (by omega)
       rw [numAt_sN HPL.out] at hu
       have hsn := sN_lt l
       have HGO := Lib.hid (HSTEP.out he hs)
       rw [Option.getD_some, Option.isSome_some] at hu
       have hcut := fun j => HBR5.out.cut (k := 4) (j := j) (c := c5)
       have HOBw := Lib.hid (HOB.out.below HB5.out)
       have HBw := Lib.hid (HBr.out.trans (HB5.out.mono HBr.out.size))
       have HBD := Lib.hid (fun h => HBAD.out (.inr h))
       clear HSTEP HBAD br5
       rw [he, hs]
       generalize sN l = sn at *
       have HU := Lib.hid hu
       have t6 : ((num : Int) != (num : Int)) = false := by simp
       have hw0 : IntKind.i64.wrap (sn : Int) = (sn : Int) := by rw [IntKind.wrap_i64]; omega
       clear he hs hu
       by_cases hs0 : sn = 0
       ·have HN : Hid (res = none) := Lib.hid (HBD.out (.inl hs0))
        have ts0 : ((sn : Int) == 0) = true := beq_iff_eq.2 (by omega)
        clear hs0 hcut
        go_wp2_with fail
        refine HU.out.mono ?_
        rintro e w6 ⟨rfl, rfl⟩
        go_wp2_with fail
        go_ret3
        exact ⟨.slice none 0 0, by rw [HN.out]; rfl, by rw [HN.out]; exact ORW.nil _ _, gr_trans HBW.out HB5.out⟩
       ·have ts0 : ((sn : Int) == 0) = false := beq_eq_false_iff_ne.2 (by omega)
        by_cases hs1 : 0 < i ∧ sn ≠ rest
        ·exact absurd hs1.1 (by have := HZ.out; omega)
        ·obtain ⟨hr, hhr⟩ : ∃ hr, hr = min sn 4076 := ⟨_, rfl⟩
         have hmin : (if (4076 : Int) < (sn : Int) then (4076 : Int) else (sn : Int)) = (hr : Int) := by split <;> omega
         have hrl : hr ≤ 4076 ∧ hr ≤ sn := by omega
         have hcl := fun W => run_cut_lh (P := Tryz.prog) W 35 5 i0 Tryz.underlying35 hi0 1 hz1 A5 4080 c5 4 (4 + (hr : Int)) 4 (4 + hr) rfl (by omega) (by omega) (by omega)
         have hbc := hcut (4 + hr) (by omega) (by omega) hc5
         rw [show 4 + hr - 4 = hr by omega] at hbc
         simp only [show 4 + hr - 4 = hr by omega] at hcl
         have HBC := Lib.hid hbc
         have HHR := Lib.hid hhr
         have HQ3 : Hid (¬ (0 < i ∧ sn ≠ rest)) := Lib.hid hs1
         have HS0 := Lib.hid hs0
         have hwa : IntKind.i64.wrap (4 + (hr : Int)) = 4 + (hr : Int) := by rw [IntKind.wrap_i64]; omega
         have hs63 := HBw.out.size
         have HZ2 := Lib.hid HZ.out
         clear hs0 hs1 hcut hhr hbc
         go_wp2_with fail
         refine HU.out.mono ?_
         rintro e w6 ⟨rfl, rfl⟩
         go_upto_region 21 with fail
         go_wp2_with (at_builtin; refine wpList_append_B _ rfl (.tmp 93) (.tmp 97) rfl rfl HOBw.out rfl HBC.out (by omega) hs63 ?_; intro A7 c7 w7 L HL7 hq7 o7 bb7 _; have HO7 := Lib.hid o7; have HB7 := Lib.hid (HBw.out.trans bb7); clear o7 bb7)
         have HG := HGO.out HS0.out (by have := HQ3.out; omega)
         go_roundw
         case rel =>
          refine ⟨i + 1, sn - hr, L, A7, c7, by have := HIX.out; omega, by omega, by rw [hq7], by go_num, by go_num, ?_, HO7, HB7, Lib.hid (fun h => ?_), Lib.hid (fun _ h => ?_)⟩
          ·have := HAL.out; omega
          ·have hm := HHR.out
           rw [HG, if_neg (by omega), HL7.out, show hr = 4076 by omega]
          ·have hm := HHR.out
           rw [HG, if_pos (by omega), HL7.out, show hr = sn by omega]
         case measure => simp [intOf]; omega
      ·have HN : Hid (res = none) := Lib.hid (HBAD.out (.inl (.inr hs)))
       have t6 : ((openS l : Int) != (num : Int)) = true := by rw [bne_iff_ne]; omega
       rw [he]
       clear he hs HSTEP HBAD
       go_wp2_with fail
       go_ret3
       exact ⟨.slice none 0 0, by rw [HN.out]; rfl, by rw [HN.out]; exact ORW.nil _ _, gr_trans HBW.out HB5.out⟩
     ·have HN : Hid (res = none) := Lib.hid (HBAD.out (.inl (.inl he)))
      have t6 : (openE l != 0) = true := by rw [bne_iff_ne]; exact he
      clear he HSTEP HBAD
      go_wp2_with fail
      go_ret3
      exact ⟨.slice none 0 0, by rw [HN.out]; rfl, by rw [HN.out]; exact ORW.nil _ _, gr_trans HBW.out HB5.out⟩
    ·have t1 : ((i : Int) == 0) = false := beq_eq_false_iff_ne.2 (by omega)
     have t2 : decide (0 < rest) = true := decide_eq_true (by omega)
     have HZ := Lib.hid hz
     have tip : decide (0 < i) = true := decide_eq_true (by omega)
     clear hz hgo hlt
     go_wp2_with fail
     refine HPC.out.mono ?_
     rintro e w3 ⟨rfl, hb3⟩
     have HB3 := Lib.hid hb3
     have hc0 := (HRr.out.below HGr.out hb3).1
     have HRD := Lib.hid (Read_good w3 _ base gd F D blk (HDr.out.below hb3) HBK.out hdn hpd)
     clear hb3
     go_wp2_with fail
     refine HRD.out.mono ?_
     rintro e w4 ⟨v4, rfl, ho4, hb4⟩
     rw [← HLL.out] at ho4
     obtain ⟨A4, c4, rfl, br4, hc4, _⟩ := ho4.formN HL.out
     have HB4 := Lib.hid (gr_trans HB3.out hb4)
     have HOP := Lib.hid (Open_any A4 c4 l w4 br4 hc4)
     clear ho4 hb4 br4 hc4 HRD HPC hc0
     go_wp2_with fail
     refine HOP.out.mono ?_
     rintro e w5 ⟨r5, rfl, ob5, hb5⟩
     have HB5 := Lib.hid (gr_trans HB4.out hb5)
     have HOB5 := Lib.hid ob5
     clear ob5 hb5 HOP
     by_cases he : openE l = 0
     ·by_cases hs : openS l = num
      ·have HPL := Lib.hid (openP_len HL.out he)
       obtain ⟨A5, c5, rfl, br5, hc5, hc5m⟩ := HOB5.out.formN HPL.out
       have HBR5 := Lib.hid br5
       have hu := U32_any A5 4080 c5 (openP l) w5 0 br5 (by omega) (by omega) (by omega)
       rw [numAt_sN HPL.out] at hu
       have hsn := sN_lt l
       have HGO := Lib.hid (HSTEP.out he hs)
       rw [Option.getD_some, Option.isSome_some] at hu
       have hcut := fun j => HBR5.out.cut (k := 4) (j := j) (c := c5)
       have HOBw := Lib.hid (HOB.out.below HB5.out)
       have HBw := Lib.hid (HBr.out.trans (HB5.out.mono HBr.out.size))
       have HBD := Lib.hid (fun h => HBAD.out (.inr h))
       clear HSTEP HBAD br5
       rw [he, hs]
       generalize sN l = sn at *
       have HU := Lib.hid hu
       have t6 : ((num : Int) != (num : Int)) = false := by simp
       have hw0 : IntKind.i64.wrap (sn : Int) = (sn : Int) := by rw [IntKind.wrap_i64]; omega
       clear he hs hu
       by_cases hs0 : sn = 0
       ·have HN : Hid (res = none) := Lib.hid (HBD.out (.inl hs0))
        have ts0 : ((sn : Int) == 0) = true := beq_iff_eq.2 (by omega)
        clear hs0 hcut
        go_wp2_with fail
        refine HU.out.mono ?_
        rintro e w6 ⟨rfl, rfl⟩
        go_wp2_with fail
        go_ret3
        exact ⟨.slice none 0 0, by rw [HN.out]; rfl, by rw [HN.out]; exact ORW.nil _ _, gr_trans HBW.out HB5.out⟩
       ·have ts0 : ((sn : Int) == 0) = false := beq_eq_false_iff_ne.2 (by omega)
        by_cases hs1 : 0 < i ∧ sn ≠ rest
        ·have HN : Hid (res = none) := Lib.hid (HBD.out (.inr hs1))
         have ts1 : ((sn : Int) != (rest : Int)) = true := by rw [bne_iff_ne]; omega
         clear hs0 hs1 hcut
         go_wp2_with fail
         refine HU.out.mono ?_
         rintro e w6 ⟨rfl, rfl⟩
         go_wp2_with fail
         go_ret3
         exact ⟨.slice none 0 0, by rw [HN.out]; rfl, by rw [HN.out]; exact ORW.nil _ _, gr_trans HBW.out HB5.out⟩
        ·obtain ⟨hr, hhr⟩ : ∃ hr, hr = min sn 4076 := ⟨_, rfl⟩
         have hmin : (if (4076 : Int) < (sn : Int) then (4076 : Int) else (sn : Int)) = (hr : Int) := by split <;> omega
         have hrl : hr ≤ 4076 ∧ hr ≤ sn := by omega
         have hcl := fun W => run_cut_lh (P := Tryz.prog) W 35 5 i0 Tryz.underlying35 hi0 1 hz1 A5 4080 c5 4 (4 + (hr : Int)) 4 (4 + hr) rfl (by omega) (by omega) (by omega)
         have hbc := hcut (4 + hr) (by omega) (by omega) hc5
         rw [show 4 + hr - 4 = hr by omega] at hbc
         simp only [show 4 + hr - 4 = hr by omega] at hcl
         have HBC := Lib.hid hbc
         have HHR := Lib.hid hhr
         have HQ3 : Hid (¬ (0 < i ∧ sn ≠ rest)) := Lib.hid hs1
         have HS0 := Lib.hid hs0
         have hwa : IntKind.i64.wrap (4 + (hr : Int)) = 4 + (hr : Int) := by rw [IntKind.wrap_i64]; omega
         have hs63 := HBw.out.size
         have ts1 : ((sn : Int) != (rest : Int)) = false := by rw [bne_eq_false_iff_eq]; have := HZ.out; omega
         clear hs0 hs1 hcut hhr hbc
         go_wp2_with fail
         refine HU.out.mono ?_
         rintro e w6 ⟨rfl, rfl⟩
         go_upto_region 21 with fail
         go_wp2_with (at_builtin; refine wpList_append_B _ rfl (.tmp 93) (.tmp 97) rfl rfl HOBw.out rfl HBC.out (by omega) hs63 ?_; intro A7 c7 w7 L HL7 hq7 o7 bb7 _; have HO7 := Lib.hid o7; have HB7 := Lib.hid (HBw.out.trans bb7); clear o7 bb7)
         have HG := HGO.out HS0.out (by have := HQ3.out; omega)
         go_roundw
         case rel =>
          refine ⟨i + 1, sn - hr, L, A7, c7, by have := HIX.out; omega, by omega, by rw [hq7], by go_num, by go_num, ?_, HO7, HB7, Lib.hid (fun h => ?_), Lib.hid (fun _ h => ?_)⟩
          ·have := HAL.out; omega
          ·have hm := HHR.out
           rw [HG, if_neg (by omega), HL7.out, show hr = 4076 by omega]
          ·have hm := HHR.out
           rw [HG, if_pos (by omega), HL7.out, show hr = sn by omega]
         case measure => simp [intOf]; omega
      ·have HN : Hid (res = none) := Lib.hid (HBAD.out (.inl (.inr hs)))
       have t6 : ((openS l : Int) != (num : Int)) = true := by rw [bne_iff_ne]; omega
       rw [he]
       clear he hs HSTEP HBAD
       go_wp2_with fail
       go_ret3
       exact ⟨.slice none 0 0, by rw [HN.out]; rfl, by rw [HN.out]; exact ORW.nil _ _, gr_trans HBW.out HB5.out⟩
     ·have HN : Hid (res = none) := Lib.hid (HBAD.out (.inl (.inl he)))
      have t6 : (openE l != 0) = true := by rw [bne_iff_ne]; exact he
      clear he HSTEP HBAD
      go_wp2_with fail
      go_ret3
      exact ⟨.slice none 0 0, by rw [HN.out]; rfl, by rw [HN.out]; exact ORW.nil _ _, gr_trans HBW.out HB5.out⟩
   ·obtain rfl : i = room := by omega
    have tlt : decide ((i : Int) ≤ (i : Int)) = true := decide_eq_true (by omega)
    have HN : Hid (res = none) := Lib.hid (by rw [HQ.out, Nat.sub_self]; rfl)
    by_cases hz : i = 0
    ·have t1 : ((i : Int) == 0) = true := beq_iff_eq.2 (by omega)
     clear hgo HQ1 HQ2 HQ
     go_wp2_with fail
     go_ret3
     exact ⟨.slice none 0 0, by rw [HN.out]; rfl, by rw [HN.out]; exact ORW.nil _ _, HBW.out⟩
    ·have t1 : ((i : Int) == 0) = false := beq_eq_false_iff_ne.2 (by omega)
     have t2 : decide (0 < rest) = true := decide_eq_true (by omega)
     clear hgo HQ1 HQ2 HQ
     go_wp2_with fail
     go_ret3
     exact ⟨.slice none 0 0, by rw [HN.out]; rfl, by rw [HN.out]; exact ORW.nil _ _, HBW.out⟩
  ·have hip : 0 < i := by omega
   obtain rfl : rest = 0 := by omega
   have HS := Lib.hid (HQ2.out hip rfl)
   have t1 : ((i : Int) == 0) = false := beq_eq_false_iff_ne.2 (by omega)
   have t2 : decide ((0 : Int) < ((0 : Nat) : Int)) = false := by decide
   have t3 : decide ((0 : Int) < 0) = false := by decide
   obtain ⟨A', c', e', br, hnc, hcm⟩ := HOB.out.form
   injection e' with e1 e2 e3
   subst e1 e3
   have HBRA := Lib.hid br
   have HNC := Lib.hid hnc
   have HCM := Lib.hid (show c ≤ 9223372036854775807 from hcm)
   clear hgo HQ1 HQ2 br hnc hcm
   generalize hm : acc.length = m at HBRA HNC ha1 ⊢
   have HM := Lib.hid hm
   clear hm
   have HALL := Lib.hid (All_any A m c acc wr HBRA.out (by omega) HNC.out HCM.out)
   go_wp2_with fail
   refine HALL.out.mono ?_
   rintro e w5 ⟨v5, rfl, ho5, hb5⟩
   have HO5 := Lib.hid ho5
   have HB5 := Lib.hid (gr_trans HBW.out hb5)
   clear ho5 hb5
   by_cases he : allE acc = 0
   ·have HN : Hid (rdN res = needL m ∧ rdR res = allR acc) := Lib.hid (by rw [HS.out]; unfold rdN rdR; dsimp only; rw [if_pos he, if_pos he, HM.out]; exact ⟨rfl, rfl⟩)
    rw [he]
    clear he
    go_wp2_with fail
    refine (needs_any m w5 (by omega)).mono ?_
    rintro e w6 ⟨rfl, rfl⟩
    go_wp2_with fail
    go_ret3
    exact ⟨v5, by rw [HN.out.1]; rfl, by rw [HN.out.2]; exact HO5.out.lower HBW.out.size, HB5.out⟩
   ·have HN : Hid (rdN res = 0 ∧ rdR res = []) := Lib.hid (by rw [HS.out]; unfold rdN rdR; dsimp only; rw [if_neg he, if_neg he]; exact ⟨rfl, rfl⟩)
    have t4 : ((allE acc : Int) != 0) = true := by rw [bne_iff_ne]; omega
    clear he
    go_wp2_with fail
    go_ret3
    exact ⟨.slice none 0 0, by rw [HN.out.1]; rfl, by rw [HN.out.2]; exact ORW.nil _ _, HB5.out⟩
end Go.Proofs.YtnkeclpgpiogoaaGreat

/-! JnF -/
namespace Go.Proofs.YtnkeclpgpiogoaaGreat
open Go Go.RowKit
set_option maxRecDepth 100000 in
theorem rdG_len {C : Nat → List UInt8} {V : Nat → Nat} : ∀ (f i rest : Nat) (acc b : List UInt8), rdG C V f i rest acc = some b → acc.length ≤ 4076 * i → b.length ≤ 4076 * (i + f) ∧ acc.length ≤ b.length
 | 0, _, _, _, _, h, _ => by unfold rdG at h; cases h
 | f + 1, i, rest, acc, b, h, ha => by
  unfold rdG at h
  split at h
  ·cases h
  ·split at h
   ·cases h
   ·split at h
    ·rename_i hs
     injection h with h
     subst h
     rw [List.length_append, List.length_take]
     have : min (sN (C i)) ((openP (C i)).drop 4).length ≤ 4076 := Nat.le_trans (Nat.min_le_left _ _) hs
     constructor
     ·omega
     ·omega
    ·have := rdG_len f (i + 1) _ _ b h (by rw [List.length_append, List.length_take]; have : min 4076 ((openP (C i)).drop 4).length ≤ 4076 := Nat.min_le_left _ _; omega)
     rw [List.length_append] at this
     constructor
     ·have := this.1; omega
     ·omega
set_option maxRecDepth 100000 in
theorem rdN_le (D : DiskS) (fi bl ep pl ct room : Nat) : rdN (rdB D fi bl ep pl ct room) ≤ room := by
 unfold rdN
 split
 ·omega
 ·rename_i b hb
  split
  ·have := (rdG_len room 0 0 [] b hb (by simp)).1
   unfold needL
   omega
  ·omega
set_option maxRecDepth 100000 in
theorem allF_len : ∀ (f : Nat) (acc : List Rec) (b : List UInt8), (allF f acc b).1.length ≤ acc.length + f
 | 0, acc, b => by unfold allF; exact Nat.le_refl _
 | f + 1, acc, b => by
  unfold allF
  split
  ·exact Nat.le_add_right _ _
  ·split
   ·exact Nat.zero_le _
   ·have := allF_len f (acc ++ [decR b]) (b.drop (decN b))
    rw [List.length_append] at this
    simp only [List.length_cons, List.length_nil] at this
    omega
set_option maxRecDepth 100000 in
theorem rdR_len (o : Option (List UInt8)) : (rdR o).length ≤ 4076 * rdN o := by
 unfold rdR rdN
 split
 ·exact Nat.zero_le _
 ·rename_i b
  split
  ·have := allF_len b.length [] b
   unfold allR needL
   simp only [List.length_nil] at this
   omega
  ·exact Nat.zero_le _
def scG (D : DiskS) (fi bl ep pl ct : Nat) : Nat → Nat → List Rec → List Rec × Nat
 | 0, used, acc => (acc, used)
 | f + 1, used, acc => if rdN (rdB D fi bl ep ((pl + used) % bl) (ct + used) (bl - used)) = 0 then (acc, used) else scG D fi bl ep pl ct f (used + rdN (rdB D fi bl ep ((pl + used) % bl) (ct + used) (bl - used))) (acc ++ rdR (rdB D fi bl ep ((pl + used) % bl) (ct + used) (bl - used)))
def scanR (D : DiskS) (fi bl ep pl ct : Nat) : List Rec := (scG D fi bl ep pl ct (bl + 1) 0 []).1
def scanU (D : DiskS) (fi bl ep pl ct : Nat) : Nat := (scG D fi bl ep pl ct (bl + 1) 0 []).2
set_option maxRecDepth 100000 in
theorem rcs_one (us : List (Int × Int × Value)) (h : ∀ q ∈ us, q.2.2.oneCell' = true) : ∀ u ∈ rcs us, u.oneCell' = true := by
 induction us with
 | nil => intro u hu; simp [rcs] at hu
 | cons p ps ih =>
  intro u hu
  simp only [rcs, List.mem_cons] at hu
  rcases hu with e | e | e | e
  ·subst e; rfl
  ·subst e; rfl
  ·subst e; exact h p (by simp)
  ·exact ih (fun q hq => h q (by simp [hq])) u e
set_option maxRecDepth 100000 in
theorem OCW.one {w : World} {base : Nat} {v : Value} {cs : List Ch} (h : OCW w base v cs) : v.oneCell' = true := by
 obtain ⟨A, c, rfl, _, _, _⟩ := h.cr
 rfl
set_option maxRecDepth 100000 in
theorem ORW.cat {w w4 : World} {base : Nat} {v v4 : Value} {rs ss : List Rec} {us ts : List (Int × Int × Value)} (ht : w.ownsRow base 114 3 v rs.length (rcs us)) (h2 : us.length = rs.length) (h3 : ∀ (i : Nat) (p : Rec) (q : Int × Int × Value), rs[i]? = some p → us[i]? = some q → q.1 = (p.kind : Int) ∧ q.2.1 = p.tx ∧ OCW w base q.2.2 p.cs) (k2 : ts.length = ss.length) (k3 : ∀ (i : Nat) (p : Rec) (q : Int × Int × Value), ss[i]? = some p → ts[i]? = some q → q.1 = (p.kind : Int) ∧ q.2.1 = p.tx ∧ OCW w base q.2.2 p.cs) (hg : w.grownBy w4 v.ownBlock)
  (ho : w4.ownsRow base 114 3 v4 (rs.length + ss.length) (rcs us ++ rcs ts)) : ORW w4 base v4 (rs ++ ss) := by
 have o : Off (fun k => v.ownBlock = some k) w w4 := Off.of_grown hg (fun _ e => e)
 have t1 : ∀ {x : Value} {m : List Ch}, OCW w base x m → OCW w4 base x m := fun {x m} hx => hx.ty o (fun k e => by
  obtain ⟨c2, e2⟩ := own_blk ht e
  exact ⟨_, _, _, e2, by decide, by decide, by decide⟩)
 refine ⟨us ++ ts, ?_, by rw [List.length_append, List.length_append, h2, k2], fun i p q hp hq => ?_⟩
 ·rw [List.length_append, rcs_append]
  exact ho
 ·rcases Nat.lt_or_ge i rs.length with hi | hi
  ·rw [List.getElem?_append_left hi] at hp
   rw [List.getElem?_append_left (by rw [h2]; exact hi)] at hq
   obtain ⟨h4, h5, h6⟩ := h3 i p q hp hq
   exact ⟨h4, h5, t1 h6⟩
  ·rw [List.getElem?_append_right hi] at hp
   rw [List.getElem?_append_right (by rw [h2]; exact hi), h2] at hq
   obtain ⟨h4, h5, h6⟩ := k3 _ p q hp hq
   exact ⟨h4, h5, t1 h6⟩
set_option maxRecDepth 100000 in
set_option maxHeartbeats 4000000 in
theorem JScan_any (w : World) (ok : Nat → Prop) (base gd : Nat) (F : Nat → Prop) (D : DiskS) (fi bl ep pl ct : Nat) (h : IsD w ok base gd F D) (hm : mayB D.blocks.length fi bl ep pl ct = true) (hdn : D.down = false) (hpd : D.pending.length ≤ 1000000) :
  Calls Tryz.prog 43 #[.pointer (some ⟨gd, 0, none⟩), .int .i64 (fi : Int), .int .i64 (bl : Int), .int .i64 (ep : Int), .int .i64 (pl : Int), .int .i64 (ct : Int)] w fun e w' => ∃ v, e = .returned (.tuple #[v, .int .i64 (((pl + scanU D fi bl ep pl ct) % bl : Nat) : Int), .int .i64 ((ct + scanU D fi bl ep pl ct : Nat) : Int), .int .i64 0]) ∧ ORW w' w.heap.size v (scanR D fi bl ep pl ct) ∧ Below w.heap.size w w' := by
 have hn : 1 ≤ D.blocks.length ∧ D.blocks.length ≤ 4096 := by
  obtain ⟨dr, dc, pv, dvs, pvs, hd, _⟩ := h
  exact ⟨hd.n1, hd.n2⟩
 have hmm := hm
 unfold mayB at hmm
 simp only [Bool.and_eq_true, decide_eq_true_eq] at hmm
 obtain ⟨t0, t1, t2, t3, t4, t5, t6, t7, t8, t9⟩ := hmm
 have hb1 : 1 ≤ bl := by omega
 have hb2 : bl ≤ 1024 := by omega
 have hfb : fi + bl ≤ D.blocks.length := by omega
 have hpl : pl < bl := by omega
 have hct : ct ≤ 4294967295 := by omega
 have HD := Lib.hid h
 have HFB := Lib.hid hfb
 have HB := Lib.hid (fun W (hW : Below w.heap.size w W) => Blocks_any W ok base gd F D (h.below hW))
 obtain ⟨i1, hi1, hy0, hy1, hy2⟩ := info_parts info_record
 obtain ⟨res, hres⟩ : ∃ res, res = scG D fi bl ep pl ct (bl + 1) 0 [] := ⟨_, rfl⟩
 have HU : Hid (scanU D fi bl ep pl ct = res.2 ∧ scanR D fi bl ep pl ct = res.1) := Lib.hid (by rw [hres]; exact ⟨rfl, rfl⟩)
 have HRES := Lib.hid hres
 rw [HU.out.1, HU.out.2]
 generalize hnn : D.blocks.length = n at hn hm HB
 obtain ⟨o, ho⟩ : ∃ o, o = Obj.cells #[.pointer (some ⟨gd, 0, none⟩), .int .i64 (fi : Int), .int .i64 (bl : Int), .int .i64 (ep : Int)] 122 (0, 0) := ⟨_, rfl⟩
 have hbo := gr_alloc (gr_refl w) o
 have hnw : (w.alloc o).heap[w.heap.size]? = some o := heap_alloc_new w o
 have hnw' := hnw
 rw [congrArg some ho] at hnw'
 have hrc : RC (w.alloc o) w.heap.size 0 (.pointer (some ⟨gd, 0, none⟩)) fi bl ep := ⟨by rw [cell_of_row _ _ 0 _ _ _ hnw']; rfl, by rw [cell_of_row _ _ 1 _ _ _ hnw']; rfl, by rw [cell_of_row _ _ 2 _ _ _ hnw']; rfl, by rw [cell_of_row _ _ 3 _ _ _ hnw']; rfl⟩
 have HRC := Lib.hid hrc
 have HSZ : Hid (w.heap.size < (w.alloc o).heap.size) := Lib.hid (by rw [World.size_alloc]; omega)
 have HMB := Lib.hid (mayBe_yes (w.alloc o) n w.heap.size (.pointer (some ⟨gd, 0, none⟩)) fi bl ep pl ct hrc hn.2 (fun W hW => HB.out W (hbo.trans (hW.mono hbo.size))) hm)
 have HBO := Lib.hid hbo
 rw [ho] at HBO HMB HRC HSZ
 clear h hnw hnw' hbo ho hrc hres hnn hm t0 t1 t2 t3 t4 t5 t6 t7 t8 t9 hfb
 go_enter Tryz.func43, Tryz.ntmps43
 go_wp2_with fail
 refine (HB.out w (gr_refl w)).mono ?_
 rintro e w1 ⟨rfl, rfl⟩
 have tn : ((n : Int) == 0) = false := beq_eq_false_iff_ne.2 (by omega)
 go_wp2_with fail
 refine HMB.out.mono ?_
 rintro e w3 ⟨rfl, hb3⟩
 have HB3 := Lib.hid (HBO.out.trans (hb3.mono HBO.out.size))
 have HR3 := Lib.hid (HRC.out.below HSZ.out hb3)
 have HS3 : Hid (w.heap.size < w3.heap.size) := Lib.hid (Nat.lt_of_lt_of_le HSZ.out hb3.size)
 clear hb3 HMB tn
 go_wp2_with fail
 go_loopw [17, 18, 19, 20, 21] (fun x17 x18 _ _ _ wr => ∃ (k used : Nat) (acc : List Rec) (A : Option Addr) (c : Nat), k ≤ used ∧ used ≤ bl ∧ x17 = .slice A acc.length c ∧ x18 = .int .i64 (used : Int) ∧ acc.length ≤ 4076 * used ∧ Hid (ORW wr w3.heap.size (.slice A acc.length c) acc) ∧ Hid (Below w3.heap.size w3 wr) ∧ Hid (res = scG D fi bl ep pl ct (bl + 1 - k) used acc)) (fun _ x18 _ _ _ _ => bl + 1 - (intOf x18).toNat)
 case atStart => exact ⟨0, 0, [], none, 0, Nat.le_refl _, Nat.zero_le _, rfl, rfl, by simp, Lib.hid (ORW.nil _ _), Lib.hid (gr_refl _), HRES⟩
 case round =>
  obtain ⟨k, used, acc, A, c, hk, hu, rfl, rfl, hal, HOR, HBr, HQ⟩ := hrel
  have HST : Hid (res = if rdN (rdB D fi bl ep ((pl + used) % bl) (ct + used) (bl - used)) = 0 then (acc, used) else scG D fi bl ep pl ct (bl + 1 - (k + 1)) (used + rdN (rdB D fi bl ep ((pl + used) % bl) (ct + used) (bl - used))) (acc ++ rdR (rdB D fi bl ep ((pl + used) % bl) (ct + used) (bl - used)))) := Lib.hid (by
   rw [HQ.out, show bl + 1 - k = (bl + 1 - (k + 1)) + 1 by omega]
   rfl)
  have HBW := Lib.hid (HB3.out.trans (HBr.out.mono HB3.out.size))
  have HRr := Lib.hid (HR3.out.below HS3.out HBr.out)
  have HSr : Hid (w.heap.size < wr.heap.size) := Lib.hid (Nat.lt_of_lt_of_le HS3.out HBr.out.size)
  have HDr := Lib.hid (HD.out.below HBW.out)
  obtain ⟨x, hx⟩ : ∃ x : Nat, x = (pl + used) % bl := ⟨_, rfl⟩
  have hxl : x < bl := by rw [hx]; exact Nat.mod_lt _ hb1
  obtain ⟨rm, hrm⟩ : ∃ rm : Nat, rm = bl - used := ⟨_, rfl⟩
  have hct2 : ct + used ≤ 8589934592 := by omega
  have HRD := Lib.hid (read_any wr ok base w.heap.size gd F D fi bl ep x (ct + used) rm HDr.out HRr.out HSr.out hb1 hb2 HFB.out hdn (by omega) hct2 hpd (by omega))
  have hrl := rdN_le D fi bl ep x (ct + used) rm
  have hrr := rdR_len (rdB D fi bl ep x (ct + used) rm)
  have k1 : IntKind.i64.wrap ((pl : Int) + (used : Int)) = (pl : Int) + (used : Int) := by rw [IntKind.wrap_i64]; omega
  have k2 : Int.tmod ((pl : Int) + (used : Int)) (bl : Int) = (x : Int) := by
   have e : (pl : Int) + (used : Int) = ((pl + used : Nat) : Int) := by omega
   rw [e, Int.tmod_eq_emod_of_nonneg (by omega), hx]
   exact (Int.natCast_emod _ _).symm
  have k3 : IntKind.i64.wrap ((bl : Int) - (used : Int)) = (rm : Int) := by rw [IntKind.wrap_i64]; omega
  have k4 : (bl : Int) - (used : Int) = (rm : Int) := by omega
  have k5 : ((ct + used : Nat) : Int) = (ct : Int) + (used : Int) := Int.natCast_add _ _
  have hz : ((bl : Int) == 0) = false := beq_eq_false_iff_ne.2 (by omega)
  have hz' : ¬ (bl = 0) := by omega
  have HX := Lib.hid hx
  have HRM := Lib.hid hrm
  rw [← hx, ← hrm] at HST
  rw [k5] at HRD
  have hrm2 : rm ≤ bl - used := by omega
  clear hx hrm HQ k5
  generalize rdN (rdB D fi bl ep x (ct + used) rm) = rn at *
  generalize rdR (rdB D fi bl ep x (ct + used) rm) = rr at *
  go_wp2_with fail
  refine HRD.out.mono ?_
  rintro e w5 ⟨v5, rfl, or5, hb5⟩
  have HOR5 := Lib.hid (or5.lower (b := w3.heap.size) HBr.out.size)
  have HB5 := Lib.hid (HBr.out.trans (hb5.mono HBr.out.size))
  have HORA := Lib.hid (HOR.out.below hb5)
  clear or5 hb5 HRD
  by_cases h0 : rn = 0
  ·have tz : ((rn : Int) == 0) = true := beq_iff_eq.2 (by omega)
   have HE : Hid (res = (acc, used)) := Lib.hid (by rw [HST.out, if_pos h0])
   clear h0
   go_wp2_with (go_quiet (fail))
   refine bodyPost_ret (v := .tuple #[.slice A acc.length c, .int .i64 (x : Int), .int .i64 ((ct : Int) + (used : Int)), .int .i64 0]) (by simp [results, Tryz.results43, go_sem]) rfl ?_
   rw [HE.out]
   exact ⟨_, by rw [← HX.out]; rfl, HORA.out.lower HB3.out.size, gr_drewN (HB3.out.trans (HB5.out.mono HB3.out.size)) nq⟩
  ·have tz : ((rn : Int) == 0) = false := beq_eq_false_iff_ne.2 (by omega)
   have HE : Hid (res = scG D fi bl ep pl ct (bl + 1 - (k + 1)) (used + rn) (acc ++ rr)) := Lib.hid (by rw [HST.out, if_neg h0])
   obtain ⟨us, u1, u2, u3⟩ := HORA.out
   obtain ⟨ts, s1, s2, s3⟩ := HOR5.out
   obtain ⟨A5, c5, rfl, hn5, hc5⟩ := own_form s1
   have U1 := Lib.hid u1
   have U2 := Lib.hid u2
   have U3 := Lib.hid u3
   have S2 := Lib.hid s2
   have S3 := Lib.hid s3
   have HRD5 : Hid (Rd w5 3 A5 rr.length (rcs ts)) := Lib.hid (own_rd s1)
   have H1 : Hid (∀ u ∈ rcs ts, u.oneCell' = true) := Lib.hid (rcs_one ts (fun q hq => by
    obtain ⟨i, hi, rfl⟩ := List.getElem_of_mem hq
    exact (s3 i (rr[i]'(by rw [← s2]; exact hi)) ts[i] (List.getElem?_eq_getElem _) (List.getElem?_eq_getElem hi)).2.2.one))
   have hsz := HB5.out.size
   have hal2 := HRM.out
   clear u1 u2 u3 s1 s2 s3
   generalize hla : acc.length = la at *
   generalize hlr : rr.length = lr at *
   have HLA := Lib.hid hla
   have HLR := Lib.hid hlr
   clear hla hlr hal2
   have hb40 : (la + lr + (la + lr) / 4 + 256) * 40 ≤ 281474976710656 := by omega
   have hmx : la + lr ≤ maxLen := by simp only [maxLen]; omega
   go_wp2_with (at_builtin; refine wpList_append_Rd _ rfl (.tmp 64) (.tmp 65) _ rfl w3.heap.size 114 i1 _ 3 40 Tryz.underlying62 hi1 hy0 hy1 hy2 rfl (.slice A la c) la (rcs us) rfl U1.out A5 lr c5 (rcs ts) rfl HRD5.out H1.out hb40 hmx hsz ?_; intro v8 w8 ho8 hg8 _ _; have HO8 := Lib.hid ho8; have HG8 := Lib.hid hg8; obtain ⟨A8, c8, rfl, _, _⟩ := own_form ho8; clear ho8 hg8)
   have or8 := ORW.cat (rs := acc) (ss := rr) (by rw [HLA.out]; exact U1.out) (by rw [HLA.out]; exact U2.out) U3.out (by rw [HLR.out]; exact S2.out) S3.out HG8.out (by rw [HLA.out, HLR.out]; exact HO8.out)
   have bw8 := HB5.out.grown HG8.out HB5.out.size (fun j hj => (U1.out.lt j hj).1)
   go_roundw
   case rel =>
    refine ⟨k + 1, used + rn, acc ++ rr, A8, c8, by omega, by omega, by rw [List.length_append, HLA.out, HLR.out], by go_num, by rw [List.length_append, HLA.out, HLR.out]; omega, Lib.hid (by rw [List.length_append, HLA.out, HLR.out]; exact or8), Lib.hid bw8, HE⟩
   case measure => simp [intOf]; omega
end Go.Proofs.YtnkeclpgpiogoaaGreat

/-! PlJ -/
namespace Go.Proofs.YtnkeclpgpiogoaaGreat
open Go Go.RowKit
set_option maxRecDepth 100000 in
theorem open_seal (a p : List UInt8) (ha : a.length = 8) (hp : p.length = 4080) : openP (a ++ p ++ a) = p ∧ openS (a ++ p ++ a) = leN a ∧ openE (a ++ p ++ a) = 0 := by
 have h1 : (a ++ p ++ a).take 8 = a := by rw [List.append_assoc]; exact List.take_left' ha
 have h2 : (a ++ p ++ a).drop 4088 = a := List.drop_left' (by rw [List.length_append, ha, hp])
 have h3 : ((a ++ p ++ a).drop 8).take 4080 = p := by rw [List.append_assoc, List.drop_left' ha]; exact List.take_left' hp
 have hs : sealed (a ++ p ++ a) = true := by unfold sealed; rw [h1, h2]; simp
 unfold openP openS openE
 rw [hs, h1, h3]
 exact ⟨rfl, rfl, rfl⟩
set_option maxRecDepth 100000 in
theorem openS_seal (v : Nat) (p : List UInt8) (hv : v < 18446744073709551616) (hp : p.length ≤ 4080) : openP (sealL v p) = p ++ List.replicate (4080 - p.length) 0 ∧ openS (sealL v p) = v ∧ openE (sealL v p) = 0 := by
 have h := open_seal (leB v 8) (p ++ List.replicate (4080 - p.length) 0) (leB_length v 8) (by rw [List.length_append, List.length_replicate]; omega)
 refine ⟨h.1, ?_, h.2.2⟩
 show openS (leB v 8 ++ (p ++ List.replicate (4080 - p.length) 0) ++ leB v 8) = v
 rw [h.2.1, leN_leB, Nat.mod_eq_of_lt (by omega)]
set_option maxRecDepth 100000 in
theorem sN_seal (v : Nat) (b : List UInt8) (i : Nat) (hv : v < 18446744073709551616) (hi : i * 4076 ≤ b.length) (hb : b.length < 4294967296) : sN (sealL v (payL b i)) = b.length - i * 4076 := by
 unfold sN
 rw [(openS_seal v (payL b i) hv (payL_len b i)).1]
 unfold payL
 rw [List.append_assoc, List.take_left' (leB_length _ 4), leN_leB, Nat.mod_eq_of_lt (by omega)]
set_option maxRecDepth 100000 in
theorem cut_seal (v : Nat) (b : List UInt8) (i k : Nat) (hv : v < 18446744073709551616) (hk : k ≤ 4076) (hb : i * 4076 + k ≤ b.length) : ((openP (sealL v (payL b i))).drop 4).take k = (b.drop (i * 4076)).take k := by
 rw [(openS_seal v (payL b i) hv (payL_len b i)).1]
 unfold payL
 rw [List.append_assoc, List.drop_left' (leB_length _ 4), List.take_append_of_le_length (by rw [List.length_take, List.length_drop]; omega), List.take_take, Nat.min_eq_left hk]
set_option maxRecDepth 100000 in
theorem needL_iff {i n : Nat} : i < needL n ↔ i * 4076 < n := by
 unfold needL
 constructor
 ·intro h; omega
 ·intro h; omega
set_option maxRecDepth 100000 in
set_option maxRecDepth 100000 in
theorem rdG_all {C : Nat → List UInt8} {V : Nat → Nat} {b : List UInt8} (hV : ∀ j, V j < 18446744073709551616) (hb : b.length < 4294967296) (hC : ∀ j, j < needL b.length → C j = sealL (V j) (payL b j)) : ∀ (f i : Nat), i < needL b.length → needL b.length ≤ i + f → rdG C V f i (b.length - i * 4076) (b.take (i * 4076)) = some b
 | 0, i, h1, h2 => by omega
 | f + 1, i, h1, h2 => by
  have hi := needL_iff.1 h1
  have hs := sN_seal (V i) b i (hV i) (by omega) hb
  have ho := openS_seal (V i) (payL b i) (hV i) (payL_len b i)
  rw [rdG_go (by rw [hC i h1]; exact ho.2.2) (by rw [hC i h1]; exact ho.2.1) (by rw [hC i h1, hs]; omega) (fun _ => by rw [hC i h1, hs]), hC i h1, hs]
  by_cases hl : b.length - i * 4076 ≤ 4076
  ·rw [if_pos hl, cut_seal _ _ _ _ (hV i) hl (by omega), ← List.take_add, show i * 4076 + (b.length - i * 4076) = b.length by omega, List.take_length]
  ·rw [if_neg hl, cut_seal _ _ _ _ (hV i) (Nat.le_refl _) (by omega), ← List.take_add, show b.length - i * 4076 - 4076 = b.length - (i + 1) * 4076 by omega, show i * 4076 + 4076 = (i + 1) * 4076 by omega]
   exact rdG_all hV hb hC f (i + 1) (needL_iff.2 (by omega)) (by omega)
set_option maxRecDepth 100000 in
theorem rdG_gap {C : Nat → List UInt8} {V : Nat → Nat} {b : List UInt8} (hV : ∀ j, V j < 18446744073709551616) (hb : b.length < 4294967296) {m : Nat} (hm : m < needL b.length) (hC : ∀ j, j < m → C j = sealL (V j) (payL b j)) : ∀ (f i : Nat), i ≤ m → (i + f ≤ m ∨ openE (C m) ≠ 0 ∨ openS (C m) ≠ V m) → rdG C V f i (b.length - i * 4076) (b.take (i * 4076)) = none
 | 0, i, h1, h2 => rfl
 | f + 1, i, h1, h2 => by
  rcases Nat.lt_or_ge i m with h | h
  ·have hi := needL_iff.1 (Nat.lt_trans h hm)
   have him := needL_iff.1 hm
   have hs := sN_seal (V i) b i (hV i) (by omega) hb
   have ho := openS_seal (V i) (payL b i) (hV i) (payL_len b i)
   rw [rdG_go (by rw [hC i h]; exact ho.2.2) (by rw [hC i h]; exact ho.2.1) (by rw [hC i h, hs]; omega) (fun _ => by rw [hC i h, hs]), hC i h, hs, if_neg (by have : i + 1 ≤ m := h; have : (i + 1) * 4076 ≤ m * 4076 := Nat.mul_le_mul_right _ this; omega), cut_seal _ _ _ _ (hV i) (Nat.le_refl _) (by have : i + 1 ≤ m := h; have : (i + 1) * 4076 ≤ m * 4076 := Nat.mul_le_mul_right _ this; omega), ← List.take_add, show b.length - i * 4076 - 4076 = b.length - (i + 1) * 4076 by omega, show i * 4076 + 4076 = (i + 1) * 4076 by omega]
   exact rdG_gap hV hb hm hC f (i + 1) h (h2.imp (fun h => by omega) (fun h => h))
  ·obtain rfl : i = m := by omega
   rcases h2 with h2 | h2
   ·omega
   ·exact rdG_bad (.inl h2)
set_option maxRecDepth 100000 in
theorem rd_there {C : Nat → List UInt8} {V : Nat → Nat} {f : List Rec} (hf : f ≠ []) (hr : ∀ r ∈ f, r.right = true) (hV : ∀ j, V j < 18446744073709551616) (hb : (joinE f).length < 4294967296) (hC : ∀ j, j < needL (joinE f).length → C j = sealL (V j) (payL (joinE f) j)) {room : Nat} (hroom : needL (joinE f).length ≤ room) : rdN (rdG C V room 0 0 []) = needL (joinE f).length ∧ rdR (rdG C V room 0 0 []) = f ∧ 0 < needL (joinE f).length := by
 have hpos : 0 < (joinE f).length := by
  cases f with
  | nil => exact absurd rfl hf
  | cons r rs =>
   have := joinE_ge (r :: rs)
   simp only [List.length_cons] at this
   omega
 have h0 : 0 < needL (joinE f).length := needL_iff.2 (by omega)
 have ha := all_join hr
 have key : rdG C V room 0 0 [] = some (joinE f) := by
  have := rdG_all hV hb hC room 0 h0 (by omega)
  rw [Nat.zero_mul, Nat.sub_zero, List.take_zero] at this
  cases room with
  | zero => omega
  | succ k =>
   have ho := openS_seal (V 0) (payL (joinE f) 0) (hV 0) (payL_len _ 0)
   have hs := sN_seal (V 0) (joinE f) 0 (hV 0) (by omega) hb
   rw [← this, rdG_go (rest := 0) (by rw [hC 0 h0]; exact ho.2.2) (by rw [hC 0 h0]; exact ho.2.1) (by rw [hC 0 h0, hs]; omega) (fun h => absurd h (by omega)), rdG_go (rest := (joinE f).length) (by rw [hC 0 h0]; exact ho.2.2) (by rw [hC 0 h0]; exact ho.2.1) (by rw [hC 0 h0, hs]; omega) (fun h => absurd h (by omega))]
 rw [key]
 unfold rdN rdR
 dsimp only
 rw [if_pos ha.2, if_pos ha.2, ha.1]
 exact ⟨rfl, rfl, h0⟩
set_option maxRecDepth 100000 in
theorem rd_not {C : Nat → List UInt8} {V : Nat → Nat} {b : List UInt8} (hV : ∀ j, V j < 18446744073709551616) (hb : b.length < 4294967296) {m : Nat} (hm : m < needL b.length) (hC : ∀ j, j < m → C j = sealL (V j) (payL b j)) {room : Nat} (h : room ≤ m ∨ openE (C m) ≠ 0 ∨ openS (C m) ≠ V m) : rdN (rdG C V room 0 0 []) = 0 := by
 have key : rdG C V room 0 0 [] = none := by
  have := rdG_gap hV hb hm hC room 0 (Nat.zero_le _) (by rw [Nat.zero_add]; exact h)
  rw [Nat.zero_mul, Nat.sub_zero, List.take_zero] at this
  cases room with
  | zero => rfl
  | succ k =>
   rcases Nat.eq_zero_or_pos m with e | e
   ·subst e
    rcases h with h | h
    ·omega
    ·exact rdG_bad (.inl h)
   ·have h0 : 0 < needL b.length := by omega
    have hi := needL_iff.1 hm
    have ho := openS_seal (V 0) (payL b 0) (hV 0) (payL_len _ 0)
    have hs := sN_seal (V 0) b 0 (hV 0) (by omega) hb
    rw [← this, rdG_go (rest := 0) (by rw [hC 0 e]; exact ho.2.2) (by rw [hC 0 e]; exact ho.2.1) (by rw [hC 0 e, hs]; omega) (fun h => absurd h (by omega)), rdG_go (rest := b.length) (by rw [hC 0 e]; exact ho.2.2) (by rw [hC 0 e]; exact ho.2.1) (by rw [hC 0 e, hs]; omega) (fun h => absurd h (by omega))]
 rw [key]
 rfl
/-! Flushes one behind the other. -/
def flN (f : List Rec) : Nat := needL (joinE f).length
def totL : List (List Rec) → Nat
 | [] => 0
 | f :: fs => flN f + totL fs
def LogAt (C : Nat → List UInt8) (V : Nat → Nat) : Nat → List (List Rec) → Prop
 | _, [] => True
 | o, f :: fs => (f ≠ [] ∧ (∀ r ∈ f, r.right = true) ∧ (joinE f).length < 4294967296 ∧ ∀ j, j < flN f → C (o + j) = sealL (V (o + j)) (payL (joinE f) j)) ∧ LogAt C V (o + flN f) fs
set_option maxRecDepth 100000 in
theorem totL_snoc (fs : List (List Rec)) (f : List Rec) : totL (fs ++ [f]) = totL fs + flN f := by
 induction fs with
 | nil => simp [totL]
 | cons g gs ih => simp only [List.cons_append, totL, ih]; omega
set_option maxRecDepth 100000 in
theorem LogAt.snoc {C : Nat → List UInt8} {V : Nat → Nat} : ∀ {fs : List (List Rec)} {o : Nat} {f : List Rec}, LogAt C V o fs → f ≠ [] → (∀ r ∈ f, r.right = true) → (joinE f).length < 4294967296 → (∀ j, j < flN f → C (o + totL fs + j) = sealL (V (o + totL fs + j)) (payL (joinE f) j)) → LogAt C V o (fs ++ [f])
 | [], o, f, _, h1, h2, h3, h4 => ⟨⟨h1, h2, h3, fun j hj => by have := h4 j hj; simpa [totL] using this⟩, trivial⟩
 | g :: gs, o, f, h, h1, h2, h3, h4 => ⟨h.1, LogAt.snoc h.2 h1 h2 h3 (fun j hj => by have := h4 j hj; simp only [totL] at this; rw [show o + flN g + totL gs + j = o + (flN g + totL gs) + j by omega]; exact this)⟩
set_option maxRecDepth 100000 in
theorem LogAt.cong {C C' : Nat → List UInt8} {V : Nat → Nat} : ∀ {fs : List (List Rec)} {o : Nat}, LogAt C V o fs → (∀ k, o ≤ k → k < o + totL fs → C' k = C k) → LogAt C' V o fs
 | [], _, _, _ => trivial
 | f :: fs, o, h, hc => ⟨⟨h.1.1, h.1.2.1, h.1.2.2.1, fun j hj => by rw [hc (o + j) (by omega) (by simp only [totL]; omega)]; exact h.1.2.2.2 j hj⟩, h.2.cong (fun k h1 h2 => hc k (by omega) (by simp only [totL]; omega))⟩
set_option maxRecDepth 100000 in
theorem ringC_sub (D : DiskS) (fi bl pl used : Nat) (j : Nat) : ringC D fi bl ((pl + used) % bl) j = ringC D fi bl pl (used + j) := by
 unfold ringC
 rw [Nat.mod_add_mod, Nat.add_assoc]
set_option maxRecDepth 100000 in
theorem scG_log (D : DiskS) (fi bl ep pl ct : Nat) : ∀ (fs : List (List Rec)) (f used : Nat) (acc : List Rec), LogAt (ringC D fi bl pl) (fun k => ofN ep (ct + k)) used fs → totL fs + used ≤ bl → fs.length < f → rdN (rdB D fi bl ep ((pl + (used + totL fs)) % bl) (ct + (used + totL fs)) (bl - (used + totL fs))) = 0 → scG D fi bl ep pl ct f used acc = (acc ++ fs.flatten, used + totL fs)
 | [], f, used, acc, _, _, hf, h0 => by
  cases f with
  | zero => omega
  | succ f =>
   unfold scG
   simp only [totL, Nat.add_zero] at h0
   rw [if_pos h0]
   simp [totL]
 | g :: gs, f, used, acc, h, ht, hf, h0 => by
  cases f with
  | zero => omega
  | succ f =>
   obtain ⟨⟨g1, g2, g3, g4⟩, h2⟩ := h
   simp only [totL] at ht h0
   have hd := rd_there (C := ringC D fi bl ((pl + used) % bl)) (V := fun i => ofN ep (ct + used + i)) g1 g2 (fun j => ofN_lt _ _) g3 (fun j hj => by rw [ringC_sub, Nat.add_assoc ct]; exact g4 j hj) (room := bl - used) (by unfold flN at ht; omega)
   unfold scG
   have e1 : rdN (rdB D fi bl ep ((pl + used) % bl) (ct + used) (bl - used)) = flN g := hd.1
   have e2 : rdR (rdB D fi bl ep ((pl + used) % bl) (ct + used) (bl - used)) = g := hd.2.1
   rw [e1, e2, if_neg (by have := hd.2.2; unfold flN; omega), scG_log D fi bl ep pl ct gs f (used + flN g) (acc ++ g) h2 (by omega) (by simp only [List.length_cons] at hf; omega) (by rw [Nat.add_assoc]; exact h0)]
   simp only [List.flatten_cons, List.append_assoc, totL, Nat.add_assoc]
set_option maxRecDepth 100000 in
theorem flN_pos {f : List Rec} (h : f ≠ []) : 0 < flN f := by
 unfold flN
 refine needL_iff.2 ?_
 cases f with
 | nil => exact absurd rfl h
 | cons r rs =>
  have := joinE_ge (r :: rs)
  simp only [List.length_cons] at this
  omega
set_option maxRecDepth 100000 in
theorem LogAt.len {C : Nat → List UInt8} {V : Nat → Nat} : ∀ {fs : List (List Rec)} {o : Nat}, LogAt C V o fs → fs.length ≤ totL fs
 | [], _, _ => Nat.zero_le _
 | f :: fs, o, h => by
  have h1 := flN_pos h.1.1
  have h2 := h.2.len
  simp only [List.length_cons, totL]
  omega
set_option maxRecDepth 100000 in
theorem scan_log {D : DiskS} {fi bl ep pl ct : Nat} {fs : List (List Rec)} (h : LogAt (ringC D fi bl pl) (fun k => ofN ep (ct + k)) 0 fs) (ht : totL fs ≤ bl) (h0 : rdN (rdB D fi bl ep ((pl + totL fs) % bl) (ct + totL fs) (bl - totL fs)) = 0) : scanR D fi bl ep pl ct = fs.flatten ∧ scanU D fi bl ep pl ct = totL fs := by
 have := scG_log D fi bl ep pl ct fs (bl + 1) 0 [] h (by omega) (by have := h.len; omega) (by simpa using h0)
 unfold scanR scanU
 rw [this]
 exact ⟨by simp, by simp⟩
def NoSt (s : List UInt8) (v : Nat) : Prop := openE s ≠ 0 ∨ openS s ≠ v
set_option maxRecDepth 100000 in
theorem scan_stop {D : DiskS} {fi bl ep pl ct : Nat} {T m : Nat} {b : List UInt8} (hb : b.length < 4294967296) (hm : m < needL b.length) (hC : ∀ j, j < m → ringC D fi bl pl (T + j) = sealL (ofN ep (ct + (T + j))) (payL b j)) (h : bl - T ≤ m ∨ NoSt (ringC D fi bl pl (T + m)) (ofN ep (ct + (T + m)))) : rdN (rdB D fi bl ep ((pl + T) % bl) (ct + T) (bl - T)) = 0 := by
 refine rd_not (b := b) (fun j => ofN_lt _ _) hb hm (fun j hj => ?_) ?_
 ·rw [ringC_sub, Nat.add_assoc ct]
  exact hC j hj
 ·rcases h with h | h
  ·exact .inl h
  ·refine .inr ?_
   rw [ringC_sub, Nat.add_assoc ct]
   exact h
set_option maxRecDepth 100000 in
theorem ofN_ne {ep ep' c c' : Nat} (h1 : ep < 4294967296) (h2 : ep' < 4294967296) (h3 : c < 4294967296) (h4 : c' < 4294967296) (h : ep ≠ ep' ∨ c ≠ c') : ofN ep c ≠ ofN ep' c' := by
 unfold ofN
 rw [Nat.mod_eq_of_lt h1, Nat.mod_eq_of_lt h2, Nat.mod_eq_of_lt h3, Nat.mod_eq_of_lt h4]
 omega
set_option maxRecDepth 100000 in
theorem NoSt.seal_ {v v' : Nat} {p : List UInt8} (hv : v < 18446744073709551616) (hp : p.length ≤ 4080) (h : v ≠ v') : NoSt (sealL v p) v' := .inr (by rw [(openS_seal v p hv hp).2.1]; exact h)
set_option maxRecDepth 100000 in
theorem zer_seal : zer = sealL 0 [] := by
 unfold zer sealL
 rw [show leB 0 8 = List.replicate 8 0 by rfl]
 simp only [List.length_nil, Nat.sub_zero, List.nil_append]
 rw [List.replicate_append_replicate, List.replicate_append_replicate]
set_option maxRecDepth 100000 in
theorem NoSt.zer_ {v : Nat} (h : 0 ≠ v) : NoSt zer v := by rw [zer_seal]; exact NoSt.seal_ (by omega) (by simp) h
end Go.Proofs.YtnkeclpgpiogoaaGreat

/-! PlK -/
namespace Go.Proofs.YtnkeclpgpiogoaaGreat
open Go Go.RowKit
set_option maxRecDepth 100000 in
theorem mod_apart {a b i j : Nat} (_hb : 0 < b) (hij : i < j) (hj : j < i + b) : (a + i) % b ≠ (a + j) % b := by
 intro h
 have h1 := Nat.sub_mod_eq_zero_of_mod_eq h.symm
 rw [show a + j - (a + i) = j - i by omega, Nat.mod_eq_of_lt (by omega)] at h1
 omega
set_option maxRecDepth 100000 in
theorem lastL_in {B : List (List UInt8)} {fi bl ep pl ct : Nat} {b : List UInt8} {m i : Nat} (hb : 0 < bl) (hi : i < m) (hm : m ≤ needL b.length) (hN : needL b.length ≤ bl) : lastL B ((wsL fi bl ep pl ct b).take m) (fi + (pl + i) % bl) = sealL (ofN ep (ct + i)) (payL b i) := by
 refine lastL_at (i := i) (p := (fi + (pl + i) % bl, sealL (ofN ep (ct + i)) (payL b i))) ?_ rfl (fun j q hj hq => ?_)
 ·rw [List.getElem?_take, if_pos hi]
  exact wsL_at (by omega)
 ·rw [List.getElem?_take] at hq
  split at hq
  ·rw [wsL_at (by omega)] at hq
   injection hq with hq
   subst hq
   have := mod_apart (a := pl) hb hj (by omega)
   dsimp only
   omega
  ·cases hq
set_option maxRecDepth 100000 in
theorem lastL_out {B : List (List UInt8)} {fi bl ep pl ct : Nat} {b : List UInt8} {m x : Nat} (hm : m ≤ needL b.length) (h : ∀ i, i < m → (pl + i) % bl ≠ x) : lastL B ((wsL fi bl ep pl ct b).take m) (fi + x) = B.getD (fi + x) [] := by
 refine lastL_none (fun p hp => ?_)
 obtain ⟨i, hi, rfl⟩ := List.getElem_of_mem hp
 have hl : i < m := by rw [List.length_take, wsL_len] at hi; omega
 have e : ((wsL fi bl ep pl ct b).take m)[i]? = some (fi + (pl + i) % bl, sealL (ofN ep (ct + i)) (payL b i)) := by
  rw [List.getElem?_take, if_pos hl]
  exact wsL_at (by omega)
 rw [List.getElem?_eq_getElem hi] at e
 injection e with e
 rw [e]
 have := h i hl
 dsimp only
 omega
structure Lg (B : List (List UInt8)) (J : JnS) (pl0 ct0 : Nat) (fs : List (List Rec)) (cur : List Rec) : Prop where
 ji : JI J
 br : J.br = false
 wl : J.waits = joinE cur
 wr : ∀ r ∈ cur, r.right = true
 fb : J.fi + J.bl ≤ B.length
 log : LogAt (fun k => B.getD (J.fi + (pl0 + k) % J.bl) []) (fun k => ofN J.ep (ct0 + k)) 0 fs
 us : J.us = totL fs
 pl : J.pl = (pl0 + totL fs) % J.bl
 ct : J.ct = ct0 + totL fs
 old : ∀ p, p < J.bl → ∀ c, J.ct ≤ c → c < 4294967296 → NoSt (B.getD (J.fi + p) []) (ofN J.ep c)
 ep : J.ep < 4294967296
section
variable {B : List (List UInt8)} {J : JnS} {pl0 ct0 : Nat} {fs : List (List Rec)} {cur : List Rec}
set_option maxRecDepth 100000 in
theorem Lg.need (h : Lg B J pl0 ct0 fs cur) : needL J.waits.length = flN cur := by rw [h.wl]; rfl
set_option maxRecDepth 100000 in
theorem Lg.fits (h : Lg B J pl0 ct0 fs cur) : totL fs + flN cur ≤ J.bl := by
 have := h.ji.u1
 rw [h.need, h.us] at this
 exact this
set_option maxRecDepth 100000 in
theorem Lg.counts (h : Lg B J pl0 ct0 fs cur) : J.ct + flN cur ≤ 4294967296 := by
 have := h.ji.c1
 rw [h.need] at this
 exact this
set_option maxRecDepth 100000 in
theorem Lg.bpos (h : Lg B J pl0 ct0 fs cur) : 0 < J.bl := h.ji.b1
set_option maxRecDepth 100000 in
theorem Lg.wlen (h : Lg B J pl0 ct0 fs cur) : (joinE cur).length < 4294967296 := by
 have h1 := needL_le (Nat.le_trans (Nat.le_trans (Nat.le_add_left _ _) h.ji.u1) h.ji.b2)
 rw [h.wl] at h1
 omega
set_option maxRecDepth 100000 in
theorem Lg.app (h : Lg B J pl0 ct0 fs cur) {r : Rec} (h0 : appE J r = 0) (hl : J.la + 1 ≤ 1152921504606846976) : Lg B (appJ J r) pl0 ct0 fs (cur ++ [r]) := by
 have hj := h.ji.app r hl
 have hr : r.right = true := by
  unfold appE at h0
  split at h0
  ·cases h0
  ·split at h0
   ·cases h0
   ·rename_i h1
    simpa using h1
 have e : appJ J r = { J with waits := J.waits ++ encR r, la := J.la + 1 } := by unfold appJ; rw [if_pos h0]
 rw [e] at hj ⊢
 refine ⟨hj, h.br, ?_, ?_, h.fb, h.log, h.us, h.pl, h.ct, h.old, h.ep⟩
 ·show J.waits ++ encR r = joinE (cur ++ [r])
  rw [joinE_snoc, h.wl]
 ·intro x hx
  rcases List.mem_append.1 hx with hx | hx
  ·exact h.wr x hx
  ·simp at hx
   subst hx
   exact hr
set_option maxRecDepth 100000 in
theorem Lg.carry (h : Lg B J pl0 ct0 fs cur) : (∀ i, i < flN cur → (carry B (wsJ J)).getD (J.fi + (J.pl + i) % J.bl) [] = sealL (ofN J.ep (J.ct + i)) (payL (joinE cur) i)) ∧ ∀ x, x < J.bl → (∀ i, i < flN cur → (J.pl + i) % J.bl ≠ x) → (carry B (wsJ J)).getD (J.fi + x) [] = B.getD (J.fi + x) [] := by
 have hfb := h.fb
 have hfit := h.fits
 have hw : wsJ J = (wsL J.fi J.bl J.ep J.pl J.ct (joinE cur)).take (flN cur) := by
  unfold wsJ
  rw [h.wl, List.take_of_length_le (by rw [wsL_len]; exact Nat.le_refl _)]
 constructor
 ·intro i hi
  rw [carry_at _ _ _ (by have := Nat.mod_lt (J.pl + i) h.bpos; omega), hw]
  exact lastL_in h.bpos hi (Nat.le_refl _) (by unfold flN at hfit; omega)
 ·intro x hx hi
  rw [carry_at _ _ _ (by omega), hw]
  exact lastL_out (Nat.le_refl _) hi
set_option maxRecDepth 100000 in
theorem Lg.place (h : Lg B J pl0 ct0 fs cur) (i : Nat) : (J.pl + i) % J.bl = (pl0 + (totL fs + i)) % J.bl := by
 rw [h.pl, Nat.mod_add_mod, Nat.add_assoc]
set_option maxRecDepth 100000 in
theorem Lg.flushed (h : Lg B J pl0 ct0 fs cur) (hc : cur ≠ []) : Lg (Go.Proofs.YtnkeclpgpiogoaaGreat.carry B (wsJ J)) { J with pl := (J.pl + needL J.waits.length) % J.bl, ct := J.ct + needL J.waits.length, us := J.us + needL J.waits.length, waits := [], sy := J.la } pl0 ct0 (fs ++ [cur]) [] := by
 obtain ⟨c1, c2⟩ := h.carry
 have hb := h.bpos
 have hfit := h.fits
 have hct := h.counts
 have hN := h.need
 refine ⟨⟨h.ji.b1, h.ji.b2, h.ji.f1, Nat.mod_lt _ h.ji.b1, by have := h.ji.u1; simp [needL] at this ⊢; omega, by have := h.ji.c1; simp [needL] at this ⊢; omega, h.ji.l1⟩, h.br, rfl, by simp, by rw [carry_len]; exact h.fb, ?_, ?_, ?_, ?_, ?_, h.ep⟩
 ·refine LogAt.snoc ?_ hc h.wr h.wlen (fun j hj => ?_)
  ·refine h.log.cong (fun k _ hk => ?_)
   refine c2 _ (Nat.mod_lt _ hb) (fun i hi => ?_)
   rw [h.place]
   exact (mod_apart hb (show k < totL fs + i by omega) (by omega)).symm
  ·have := c1 j hj
   rw [h.place, h.ct] at this
   simp only [Nat.zero_add]
   rw [this, Nat.add_assoc]
 ·show J.us + needL J.waits.length = totL (fs ++ [cur])
  rw [totL_snoc, h.us, hN]
 ·show (J.pl + needL J.waits.length) % J.bl = _
  rw [totL_snoc, hN, h.place]
 ·show J.ct + needL J.waits.length = _
  rw [totL_snoc, hN, h.ct, Nat.add_assoc]
 ·intro p hp c hc1 hc2
  show NoSt ((Go.Proofs.YtnkeclpgpiogoaaGreat.carry B (wsJ J)).getD (J.fi + p) []) (ofN J.ep c)
  have hc1' : J.ct + needL J.waits.length ≤ c := hc1
  rw [hN] at hc1'
  by_cases hx : ∃ i, i < flN cur ∧ (J.pl + i) % J.bl = p
  ·obtain ⟨i, hi, rfl⟩ := hx
   rw [c1 i hi]
   exact NoSt.seal_ (ofN_lt _ _) (payL_len _ _) (ofN_ne h.ep h.ep (by omega) hc2 (.inr (by omega)))
  ·rw [c2 p hp (fun i hi e => hx ⟨i, hi, e⟩)]
   exact h.old p hp c (by omega) hc2
end
def Blank (B : List (List UInt8)) (J : JnS) (pl0 T : Nat) : Prop := ∀ k, T ≤ k → k < J.bl → B.getD (J.fi + (pl0 + k) % J.bl) [] = zer
section
variable {B : List (List UInt8)} {J : JnS} {pl0 ct0 : Nat} {fs : List (List Rec)} {cur : List Rec}
end
end Go.Proofs.YtnkeclpgpiogoaaGreat

/-! PlY -/
namespace Go.Proofs.YtnkeclpgpiogoaaGreat
open Go Go.RowKit
set_option maxRecDepth 100000 in
theorem wsL_ok {B : List (List UInt8)} {fi bl ep pl ct : Nat} {b : List UInt8} (hb : 0 < bl) (hfb : fi + bl ≤ B.length) : ∀ p ∈ wsL fi bl ep pl ct b, p.1 < B.length ∧ p.2.length = 4096 := by
 intro p hp
 unfold wsL at hp
 rw [List.mem_map] at hp
 obtain ⟨i, _, rfl⟩ := hp
 have := Nat.mod_lt (pl + i) hb
 exact ⟨by dsimp only; omega, sealL_len (payL_len _ _)⟩
end Go.Proofs.YtnkeclpgpiogoaaGreat

/-! JnI -/
namespace Go.Proofs.YtnkeclpgpiogoaaGreat
open Go Go.RowKit
set_option maxRecDepth 100000 in
theorem IsD.kind {w : World} {ok : Nat → Prop} {base g : Nat} {F : Nat → Prop} {D : DiskS} (h : IsD w ok base g F D) {k : Nat} (hk : F k) : base ≤ k ∧ ∃ cs t fr, w.heap[k]? = some (.cells cs t fr) ∧ (t = 183 ∨ t = 35 ∨ t = 186) := by
 refine ⟨(h.foot_lt k hk).1, ?_⟩
 obtain ⟨dr, dc, pv, dvs, pvs, hd, hF⟩ := h
 rcases (hF k).1 hk with e | e | e
 ·subst e
  exact ⟨_, _, _, hd.db, .inl rfl⟩
 ·subst e
  obtain ⟨cur, hc⟩ := own_blk hd.dur rfl
  exact ⟨_, _, _, hc, .inr (.inl rfl)⟩
 ·obtain ⟨cur, hc⟩ := own_blk hd.pen e
  exact ⟨_, _, _, hc, .inr (.inr rfl)⟩
def MutT (t : TypeId) : Prop := t = 5 ∨ t = 183 ∨ t = 35 ∨ t = 186 ∨ t = 124
set_option maxRecDepth 100000 in
theorem mut3 {t : TypeId} (h : t = 183 ∨ t = 35 ∨ t = 186) : MutT t := .inr (h.imp id (fun h => h.imp id .inl))
def Mv (S S' : Nat → Prop) (w w' : World) : Prop := Off S w w' ∧ ∀ k, S' k → S k ∨ w.heap.size ≤ k
set_option maxRecDepth 100000 in
theorem Mv.of_below {S : Nat → Prop} {w w' : World} (h : Below w.heap.size w w') : Mv S S w w' := ⟨Off.of_below h, fun _ e => .inl e⟩
set_option maxRecDepth 100000 in
theorem Mv.trans {S S' S'' : Nat → Prop} {w w' w'' : World} (h : Mv S S' w w') (k : Mv S' S'' w' w'') : Mv S S'' w w'' :=
 ⟨h.1.chain k.1 h.2, fun j hj => by
  rcases k.2 j hj with e | e
  ·exact h.2 j e
  ·exact .inr (Nat.le_trans h.1.size e)⟩
structure JS (w0 w : World) (gd gj : Nat) (D : DiskS) (J : JnS) (S : Nat → Prop) : Prop where
 bel : Below w0.heap.size w0 w
 xl : ∀ k, J.ex k → k < w.heap.size
 ex : ∃ F wv, IsD w (fun k => w0.heap.size ≤ k ∧ k ≠ gj ∧ wv.ownBlock ≠ some k ∧ ¬ J.ex k) w0.heap.size gd F D ∧ JB w gj gd J wv ∧ OB w w0.heap.size wv J.waits ∧ w0.heap.size ≤ gj ∧ ¬ F gj ∧ JI J ∧ ∀ k, S k ↔ F k ∨ k = gj ∨ wv.ownBlock = some k
def DS (w0 w : World) (gd : Nat) (D : DiskS) (S : Nat → Prop) : Prop := Below w0.heap.size w0 w ∧ IsD w (fun k => w0.heap.size ≤ k) w0.heap.size gd S D
section
variable {w0 w w' : World} {gd gj : Nat} {D D' : DiskS} {J J' : JnS} {S S' : Nat → Prop}
set_option maxRecDepth 100000 in
theorem DS.below (h : DS w0 w gd D S) (hb : Below w.heap.size w w') : DS w0 w' gd D S := ⟨gr_trans h.1 hb, h.2.below hb⟩
set_option maxRecDepth 100000 in
theorem DS.kind (h : DS w0 w gd D S) {k : Nat} (hk : S k) : w0.heap.size ≤ k ∧ ∃ cs t fr, w.heap[k]? = some (.cells cs t fr) ∧ MutT t := by
 obtain ⟨h1, cs, t, fr, h2, h3⟩ := h.2.kind hk
 exact ⟨h1, cs, t, fr, h2, mut3 h3⟩
set_option maxRecDepth 100000 in
theorem DS.post (h : DS w0 w gd D S) (hp : DPost w (fun k => w0.heap.size ≤ k) w0.heap.size gd S D' w') : ∃ S', DS w0 w' gd D' S' ∧ Mv S S' w w' := by
 obtain ⟨h1, F', h2, h3⟩ := hp
 refine ⟨F', ⟨?_, h2.mono (fun j _ e => e.elim id (fun e => Nat.le_trans h.1.size e))⟩, h1, h3⟩
 exact h.1.trans (h1.below (fun k hk => (h.2.foot_lt k hk).1) h.1.size)
set_option maxRecDepth 100000 in
theorem JS.below (h : JS w0 w gd gj D J S) (hb : Below w.heap.size w w') : JS w0 w' gd gj D J S := by
 obtain ⟨F, wv, h1, h2, h3, h4, h5, h6, h7⟩ := h.ex
 exact ⟨gr_trans h.bel hb, fun k e => Nat.lt_of_lt_of_le (h.xl k e) hb.size, F, wv, h1.below hb, h2.below hb, h3.below hb, h4, h5, h6, h7⟩
set_option maxRecDepth 100000 in
theorem JS.kind (h : JS w0 w gd gj D J S) {k : Nat} (hk : S k) : w0.heap.size ≤ k ∧ ∃ cs t fr, w.heap[k]? = some (.cells cs t fr) ∧ MutT t := by
 obtain ⟨F, wv, h1, h2, h3, h4, h5, h6, h7⟩ := h.ex
 rcases (h7 k).1 hk with e | e | e
 ·obtain ⟨q1, cs, t, fr, q2, q3⟩ := h1.kind e
  exact ⟨q1, cs, t, fr, q2, mut3 q3⟩
 ·subst e
  exact ⟨h4, _, _, _, h2, .inr (.inr (.inr (.inr rfl)))⟩
 ·obtain ⟨cur, hc⟩ := own_blk h3 e
  exact ⟨(h3.lt k e).1, _, _, _, hc, .inl rfl⟩
set_option maxRecDepth 100000 in
theorem JS.ji (h : JS w0 w gd gj D J S) : JI J := by
 obtain ⟨F, wv, h1, h2, h3, h4, h5, h6, h7⟩ := h.ex
 exact h6
set_option maxRecDepth 100000 in
theorem JS.jb (h : JS w0 w gd gj D J S) : ∃ wv, JB w gj gd J wv := by
 obtain ⟨F, wv, h1, h2, h3, h4, h5, h6, h7⟩ := h.ex
 exact ⟨wv, h2⟩
set_option maxRecDepth 100000 in
theorem JS.isd (h : JS w0 w gd gj D J S) : ∃ ok F, IsD w ok w0.heap.size gd F D := by
 obtain ⟨F, wv, h1, h2, h3, h4, h5, h6, h7⟩ := h.ex
 exact ⟨_, F, h1⟩
set_option maxRecDepth 100000 in
theorem JS.ds (h : JS w0 w gd gj D J S) : ∃ S', DS w0 w gd D S' ∧ ∀ k, S' k → S k := by
 obtain ⟨F, wv, h1, h2, h3, h4, h5, h6, h7⟩ := h.ex
 exact ⟨F, ⟨h.bel, h1.mono (fun j _ e => e.1)⟩, fun k hk => (h7 k).2 (.inl hk)⟩
set_option maxRecDepth 100000 in
theorem JS.disk (h : JS w0 w gd gj D J S) {F : Nat → Prop} {wv : Value} (h1 : IsD w (fun k => w0.heap.size ≤ k ∧ k ≠ gj ∧ wv.ownBlock ≠ some k ∧ ¬ J.ex k) w0.heap.size gd F D) (h2 : JB w gj gd J wv) (h3 : OB w w0.heap.size wv J.waits) (h4 : w0.heap.size ≤ gj) (h5 : ¬ F gj) (h7 : ∀ k, S k ↔ F k ∨ k = gj ∨ wv.ownBlock = some k) (hp : DPost w (fun k => w0.heap.size ≤ k ∧ k ≠ gj ∧ wv.ownBlock ≠ some k ∧ ¬ J.ex k) w0.heap.size gd F D' w') : ∃ S', JS w0 w' gd gj D' J S' ∧ Mv S S' w w' := by
 have hgl := h2.lt
 have hkb := h1.kb hp.1
 have hfl := fun k hk => (h1.foot_lt k hk).1
 obtain ⟨p1, F', p2, p3⟩ := hp
 refine ⟨fun k => F' k ∨ k = gj ∨ wv.ownBlock = some k, ⟨h.bel.trans (p1.below hfl h.bel.size), fun k e => Nat.lt_of_lt_of_le (h.xl k e) p1.size, F', wv, p2.mono (fun j _ e => ?_), h2.off p1 h5, hkb.ob h3, h4, fun e => ?_, h.ji, fun k => Iff.rfl⟩, p1.mono (fun k _ e => (h7 k).2 (.inl e)), fun k hk => ?_⟩
 ·rcases e with e | e
  ·exact e
  ·refine ⟨Nat.le_trans h.bel.size e, by omega, fun e2 => ?_, fun e2 => ?_⟩
   ·have := (h3.lt j e2).2
    omega
   ·have := h.xl j e2
    omega
 ·rcases p3 gj e with e | e
  ·exact h5 e
  ·omega
 ·rcases hk with e | e | e
  ·exact (p3 k e).imp (fun e => (h7 k).2 (.inl e)) id
  ·exact .inl ((h7 k).2 (.inr (.inl e)))
  ·exact .inl ((h7 k).2 (.inr (.inr e)))
end
section
variable {w0 w w' : World} {gd gj : Nat} {D D' : DiskS} {J J' : JnS} {S S' : Nat → Prop}
set_option maxRecDepth 100000 in
theorem DNew_ds (n : Nat) (w0 w : World) (h1 : 1 ≤ n) (h2 : n ≤ 4096) (hb : Below w0.heap.size w0 w) :
  Calls Tryz.prog 58 #[.int .i64 (n : Int)] w fun e w' => ∃ gd S, e = .returned (.tuple #[.pointer (some ⟨gd, 0, none⟩), .int .i64 0]) ∧ DS w0 w' gd (newD n) S ∧ Below w.heap.size w w' ∧ ∀ k, S k → w.heap.size ≤ k := by
 refine (New_any n w h1 h2).mono ?_
 rintro e w' ⟨g, F, rfl, hd, hbb⟩
 exact ⟨g, F, rfl, ⟨gr_trans hb hbb, (hd.lower hb.size).mono (fun _ _ e => e.elim)⟩, hbb, fun k hk => (hd.foot_lt k hk).1⟩
set_option maxRecDepth 100000 in
theorem JNew_js (fi bl ep pl ct : Nat) (h : DS w0 w gd D S) (hm : mayB D.blocks.length fi bl ep pl ct = true) :
  Calls Tryz.prog 59 #[.pointer (some ⟨gd, 0, none⟩), .int .i64 (fi : Int), .int .i64 (bl : Int), .int .i64 (ep : Int), .int .i64 (pl : Int), .int .i64 (ct : Int)] w fun e w' => ∃ gj S', e = .returned (.tuple #[.pointer (some ⟨gj, 0, none⟩), .int .i64 0]) ∧ JS w0 w' gd gj D (newJ fi bl ep pl ct) S' ∧ Below w.heap.size w w' ∧ Mv S S' w w' := by
 refine (JNew_yes w _ _ gd S D fi bl ep pl ct h.2 hm).mono ?_
 rintro e w' ⟨rfl, hj, hb⟩
 have hd := h.2.sharp.below hb
 have hlen : D.blocks.length ≤ 4096 := by
  obtain ⟨dr, dc, pv, dvs, pvs, hd, _⟩ := h.2
  exact hd.n2
 refine ⟨w.heap.size, fun k => S k ∨ k = w.heap.size, rfl, ⟨gr_trans h.1 hb, fun _ e => False.elim e, S, .slice none 0 0, hd.mono (fun j _ e => ⟨e.1, by omega, by simp [Value.ownBlock], fun e2 => e2⟩), hj, OB.nil _ _, h.1.size, fun e => by have := (h.2.foot_lt _ e).2; omega, newJ_ji hlen hm, fun k => by simp [Value.ownBlock]⟩, hb, Off.of_below hb, fun k hk => hk.imp id (fun e => Nat.le_of_eq e.symm)⟩
set_option maxRecDepth 100000 in
theorem appJ_ex (J : JnS) (r : Rec) : (appJ J r).ex = J.ex := by
 unfold appJ
 split <;> rfl
set_option maxRecDepth 100000 in
theorem fluJ_ex (D : DiskS) (J : JnS) : (fluJ D J).ex = J.ex := by
 unfold fluJ
 split
 ·rfl
 ·split <;> rfl
set_option maxRecDepth 100000 in
theorem JAppend_js (h : JS w0 w gd gj D J S) (k : Nat) (tx : Int) (A : Option Addr) (n d : Nat) (cs : List Ch) (hc : CR w A n cs) (hn : n ≤ 9223372036854775807) (hpb : ∀ c ∈ cs, ∀ p ∈ c.2.2, p.1 ≤ 9223372036854775807) (hla : J.la + 1 ≤ 1152921504606846976) :
  Calls Tryz.prog 67 #[.pointer (some ⟨gj, 0, none⟩), .agg #[.int .u8 (k : Int), .int .i64 tx, .slice A n d]] w fun e w' => e = .returned (.tuple #[.int .i64 (appN J ⟨k, tx, cs⟩ : Int), .int .i64 (appE J ⟨k, tx, cs⟩)]) ∧ ∃ S', JS w0 w' gd gj D (appJ J ⟨k, tx, cs⟩) S' ∧ Mv S S' w w' := by
 obtain ⟨F, wv, h1, h2, h3, h4, h5, h6, h7⟩ := h.ex
 refine (JAppend_any h2 h3 h6 h.bel.size k tx A n d cs hc hn hpb).mono ?_
 rintro e w' ⟨rfl, wv', j1, j2, j3, j4⟩
 have hgl := h2.lt
 have hw := fun k hk => (h3.lt k hk).2
 have hfw : ∀ k, F k → wv.ownBlock ≠ some k := fun k hk e => by
  obtain ⟨cur, hc⟩ := own_blk h3 e
  exact h1.foot_ty _ _ _ hk hc
 have hd := h1.sharp.offO j3 (fun k hk e => by
  rcases e with e | e
  ·subst e; exact h5 hk
  ·exact hfw k hk e) (fun k e ho => by
  rcases e with e | e
  ·exact ho.1.2.1 e
  ·exact ho.1.2.2.1 e)
 refine ⟨rfl, fun k => F k ∨ k = gj ∨ wv'.ownBlock = some k, ⟨h.bel.trans (j3.below (fun k hk => ?_) h.bel.size), fun k e => Nat.lt_of_lt_of_le (h.xl k (by rw [appJ_ex] at e; exact e)) j3.size, F, wv', hd.mono (fun j _ e => ⟨e.1.1, e.1.2.1, ?_, by rw [appJ_ex]; exact e.1.2.2.2⟩), j1, j2, h4, h5, h6.app _ hla, fun k => Iff.rfl⟩, j3.mono (fun k _ e => (h7 k).2 ?_), fun k hk => ?_⟩
 ·rcases hk with e | e
  ·omega
  ·exact (h3.lt k e).1
 ·rcases j4 with e2 | e2
  ·rw [e2]; exact e.1.2.2.1
  ·intro e3
   have := e2 j e3
   omega
 ·rcases e with e | e
  ·exact .inr (.inl e)
  ·exact .inr (.inr e)
 ·rcases hk with e | e | e
  ·exact .inl ((h7 k).2 (.inl e))
  ·exact .inl ((h7 k).2 (.inr (.inl e)))
  ·rcases j4 with e2 | e2
   ·exact .inl ((h7 k).2 (.inr (.inr (e2 ▸ e))))
   ·exact .inr (e2 k e)
set_option maxRecDepth 100000 in
theorem JFlush_js (h : JS w0 w gd gj D J S) (hpd : D.pending.length ≤ 900000) :
  Calls Tryz.prog 41 #[.pointer (some ⟨gj, 0, none⟩)] w fun e w' => e = .returned (.int .i64 (fluE D J)) ∧ ∃ S', JS w0 w' gd gj (fluD D J) (fluJ D J) S' ∧ Mv S S' w w' := by
 obtain ⟨F, wv, h1, h2, h3, h4, h5, h6, h7⟩ := h.ex
 refine (JFlush_any h2 h3 h1 h6 h5 hpd).mono ?_
 rintro e w' ⟨rfl, p1, wv', F', p2, p3, p4, p5, p6⟩
 have hgl := h2.lt
 refine ⟨rfl, fun k => F' k ∨ k = gj ∨ wv'.ownBlock = some k, ⟨h.bel.trans (p1.below (fun k hk => ?_) h.bel.size), fun k e => Nat.lt_of_lt_of_le (h.xl k (by rw [fluJ_ex] at e; exact e)) p1.size, F', wv', p5.mono (fun j _ e => ?_), p3, p4, h4, fun e => ?_, h6.flu D, fun k => Iff.rfl⟩, p1.mono (fun k _ e => (h7 k).2 ?_), fun k hk => ?_⟩
 ·rcases hk with e | e
  ·exact (h1.foot_lt k e).1
  ·omega
 ·rcases e with e | e
  ·refine ⟨e.1, e.2.1, ?_, by rw [fluJ_ex]; exact e.2.2.2⟩
   rcases p2 with q | q
   ·rw [q]; exact e.2.2.1
   ·rw [q]; simp [Value.ownBlock]
  ·refine ⟨Nat.le_trans h.bel.size e, by omega, ?_, fun e2 => by rw [fluJ_ex] at e2; have := h.xl j e2; omega⟩
   rcases p2 with q | q
   ·rw [q]
    intro e2
    have := (h3.lt j e2).2
    omega
   ·rw [q]; simp [Value.ownBlock]
 ·rcases p6 gj e with e | e
  ·exact h5 e
  ·omega
 ·rcases e with e | e
  ·exact .inl e
  ·exact .inr (.inl e)
 ·rcases hk with e | e | e
  ·exact (p6 k e).imp (fun e => (h7 k).2 (.inl e)) id
  ·exact .inl ((h7 k).2 (.inr (.inl e)))
  ·rcases p2 with q | q
   ·rw [q] at e; exact .inl ((h7 k).2 (.inr (.inr e)))
   ·rw [q] at e; simp [Value.ownBlock] at e
set_option maxRecDepth 100000 in
theorem Arm_js (n : Int) (h : JS w0 w gd gj D J S) (hn : n ≤ 9223372036854775807) :
  Calls Tryz.prog 53 #[.pointer (some ⟨gd, 0, none⟩), .int .i64 n] w fun e w' => e = .returned (.int .i64 (armE n)) ∧ ∃ S', JS w0 w' gd gj (armD D n) J S' ∧ Mv S S' w w' := by
 obtain ⟨F, wv, h1, h2, h3, h4, h5, h6, h7⟩ := h.ex
 refine (Arm_any w _ _ gd F D n h1 hn).mono ?_
 rintro e w' ⟨rfl, hp⟩
 exact ⟨rfl, h.disk h1 h2 h3 h4 h5 h7 hp⟩
set_option maxRecDepth 100000 in
theorem Scan_js (fi bl ep pl ct : Nat) (h : DS w0 w gd D S) (hm : mayB D.blocks.length fi bl ep pl ct = true) (hdn : D.down = false) (hpd : D.pending.length ≤ 1000000) :
  Calls Tryz.prog 43 #[.pointer (some ⟨gd, 0, none⟩), .int .i64 (fi : Int), .int .i64 (bl : Int), .int .i64 (ep : Int), .int .i64 (pl : Int), .int .i64 (ct : Int)] w fun e w' => ∃ v, e = .returned (.tuple #[v, .int .i64 (((pl + scanU D fi bl ep pl ct) % bl : Nat) : Int), .int .i64 ((ct + scanU D fi bl ep pl ct : Nat) : Int), .int .i64 0]) ∧ ORW w' w.heap.size v (scanR D fi bl ep pl ct) ∧ Below w.heap.size w w' :=
 JScan_any w _ _ gd S D fi bl ep pl ct h.2 hm hdn hpd
end
/-! Rows beside. -/
end Go.Proofs.YtnkeclpgpiogoaaGreat

/-! EnA -/
namespace Go.Proofs.YtnkeclpgpiogoaaGreat
open Go Go.RowKit
structure EnS where
 d : DiskS
 j : JnS
 gj : Nat
 gb : Nat
 k : Bool
def EnS.wr (D : EnS) (b : Int) (m : List UInt8) : EnS := { D with d := writeD D.d b m }
def logE (D : EnS) (n : Int) : Int := if D.k = true ∧ n ≤ (D.j.sy : Int) then 0 else fluE D.d D.j
def logD (D : EnS) (n : Int) : EnS := if D.k = true ∧ n ≤ (D.j.sy : Int) then D else { D with d := fluD D.d D.j, j := fluJ D.d D.j }
set_option maxRecDepth 100000 in
theorem logD_gj (D : EnS) (n : Int) : (logD D n).gj = D.gj := by unfold logD; split <;> rfl
def trunc (w : World) (b : Nat) : World := { w with heap := (w.heap.toList.take b).toArray }
set_option maxRecDepth 100000 in
theorem trunc_size {w : World} {b : Nat} (h : b ≤ w.heap.size) : (trunc w b).heap.size = b := by
 show (w.heap.toList.take b).toArray.size = b
 rw [List.size_toArray, List.length_take, Array.length_toList]
 omega
set_option maxRecDepth 100000 in
theorem trunc_below {w : World} {b : Nat} (h : b ≤ w.heap.size) : Below (trunc w b).heap.size (trunc w b) w := by
 have hs := trunc_size h
 refine ⟨rfl, rfl, rfl, by rw [hs]; exact h, fun k hk => ?_⟩
 have e : (w.heap.toList.take b).toArray[k]? = w.heap[k]? := by
  rw [List.getElem?_toArray, List.getElem?_take, if_pos (by rw [hs] at hk; exact hk), Array.getElem?_toList]
 exact e.symm
set_option maxRecDepth 100000 in
theorem JS.base {w0 w1 w : World} {gd gj : Nat} {D : DiskS} {J : JnS} {S : Nat → Prop} (h : JS w0 w gd gj D J S) (hs : w1.heap.size = w0.heap.size) (hb : Below w1.heap.size w1 w) : JS w1 w gd gj D J S := by
 refine ⟨hb, h.xl, ?_⟩
 rw [hs]
 exact h.ex
def NE (w : World) (k : Nat) : Prop := ∃ o, w.heap[k]? = some o ∧ match o with
 | .cells _ t _ => t ≠ 183 ∧ t ≠ 35 ∧ t ≠ 186 ∧ t ≠ 5 ∧ t ≠ 124 ∧ t ≠ 50
 | _ => True
set_option maxRecDepth 100000 in
theorem NE.no {w : World} {k : Nat} (h : NE w k) {cs : Array Value} {t : TypeId} {fr : Nat × Nat} (hc : w.heap[k]? = some (.cells cs t fr)) : ¬ MutT t ∧ t ≠ 50 := by
 obtain ⟨o, h1, h2⟩ := h
 rw [hc] at h1
 injection h1 with h1
 subst h1
 obtain ⟨a1, a2, a3, a4, a5, a6⟩ := h2
 refine ⟨fun e => ?_, a6⟩
 rcases e with e | e | e | e | e
 ·exact a4 e
 ·exact a1 e
 ·exact a2 e
 ·exact a3 e
 ·exact a5 e
def IsE (w : World) (b0 gd : Nat) (F : Nat → Prop) (D : EnS) : Prop :=
 ∃ w0 : World, w0.heap.size = b0 ∧ JS w0 w gd D.gj D.d D.j F ∧ w.heap[D.gb]? = some (.cells #[.pointer (some ⟨D.gj, 0, none⟩)] 50 (0, 0)) ∧ b0 ≤ D.gb
section
variable {w w' w'' : World} {b0 gd : Nat} {D D' : EnS} {F F' F'' T : Nat → Prop}
set_option maxRecDepth 100000 in
theorem IsE.of {w0 : World} {gj gb : Nat} {d : DiskS} {j : JnS} {b : Bool} (h : JS w0 w gd gj d j F) (hb : w.heap[gb]? = some (.cells #[.pointer (some ⟨gj, 0, none⟩)] 50 (0, 0))) (hg : w0.heap.size ≤ gb) : IsE w w0.heap.size gd F ⟨d, j, gj, gb, b⟩ := ⟨w0, rfl, h, hb, hg⟩
set_option maxRecDepth 100000 in
theorem IsE.le (h : IsE w b0 gd F D) : b0 ≤ w.heap.size := by
 obtain ⟨w0, rfl, h1, _, _⟩ := h
 exact h1.bel.size
set_option maxRecDepth 100000 in
theorem IsE.js {w0 : World} (h : IsE w w0.heap.size gd F D) (hb : Below w0.heap.size w0 w) : JS w0 w gd D.gj D.d D.j F := by
 obtain ⟨w1, e, h1, _, _⟩ := h
 exact h1.base e.symm hb
set_option maxRecDepth 100000 in
theorem IsE.box (h : IsE w b0 gd F D) : w.heap[D.gb]? = some (.cells #[.pointer (some ⟨D.gj, 0, none⟩)] 50 (0, 0)) := by
 obtain ⟨_, _, _, h, _⟩ := h
 exact h
set_option maxRecDepth 100000 in
theorem IsE.kind (h : IsE w b0 gd F D) {k : Nat} (hk : F k) : b0 ≤ k ∧ ∃ cs t fr, w.heap[k]? = some (.cells cs t fr) ∧ MutT t := by
 obtain ⟨w0, rfl, h1, _, _⟩ := h
 exact h1.kind hk
set_option maxRecDepth 100000 in
theorem IsE.foot_lt (h : IsE w b0 gd F D) (k : Nat) (hk : F k) : b0 ≤ k ∧ k < w.heap.size := by
 obtain ⟨h1, cs, t, fr, h2, _⟩ := h.kind hk
 exact ⟨h1, (Array.getElem?_eq_some_iff.1 h2).1⟩
set_option maxRecDepth 100000 in
theorem IsE.below (h : IsE w b0 gd F D) (hb : Below w.heap.size w w') : IsE w' b0 gd F D := by
 obtain ⟨w0, h0, h1, h2, h3⟩ := h
 exact ⟨w0, h0, h1.below hb, (hb.block _ (Array.getElem?_eq_some_iff.1 h2).1).trans h2, h3⟩
set_option maxRecDepth 100000 in
theorem IsE.nf (h : IsE w b0 gd F D) {k : Nat} (hn : NE w k) : ¬ F k := fun hk => by
 obtain ⟨_, cs, t, fr, h1, h2⟩ := h.kind hk
 exact (hn.no h1).1 h2
set_option maxRecDepth 100000 in
theorem IsE.nb (h : IsE w b0 gd F D) (ho : Off T w w') (hT : ∀ k, T k → NE w k) : IsE w' b0 gd F D := by
 have hle := Nat.le_trans h.le ho.size
 have hbox : w'.heap[D.gb]? = w.heap[D.gb]? := ho.block _ (Array.getElem?_eq_some_iff.1 h.box).1 (fun e => ((hT _ e).no h.box).2 rfl)
 have hnf : ∀ k, F k → ¬ T k := fun k hk e => h.nf (hT k e) hk
 obtain ⟨w0, rfl, h1, h2, h3⟩ := h
 refine ⟨trunc w' w0.heap.size, trunc_size hle, ⟨trunc_below hle, fun k e => Nat.lt_of_lt_of_le (h1.xl k e) ho.size, ?_⟩, hbox.trans h2, h3⟩
 rw [trunc_size hle]
 obtain ⟨Fd, wv, j1, j2, j3, j4, j5, j6, j7⟩ := h1.ex
 refine ⟨Fd, wv, j1.off ho (fun k hk e => hnf k ((j7 k).2 (.inl hk)) e) (fun k m e hB => ((hT k e).no hB).1 (.inl rfl)), j2.off ho (hnf _ ((j7 _).2 (.inr (.inl rfl)))), j3.off ho (fun k hk e => hnf k ((j7 k).2 (.inr (.inr hk))) e), j4, j5, j6, j7⟩
def EStep (w : World) (b0 gd : Nat) (F : Nat → Prop) (D : EnS) (w' : World) : Prop := ∃ F', IsE w' b0 gd F' D ∧ Mv F F' w w'
set_option maxRecDepth 100000 in
theorem IsE.same (h : IsE w b0 gd F D) (hb : Below w.heap.size w w') : EStep w b0 gd F D w' := ⟨F, h.below hb, Mv.of_below hb⟩
set_option maxRecDepth 100000 in
theorem EStep.pre (hb : Below w.heap.size w w') (h : EStep w' b0 gd F D w'') : EStep w b0 gd F D w'' := by
 obtain ⟨F', h1, h2⟩ := h
 exact ⟨F', h1, (Mv.of_below hb).trans h2⟩
set_option maxRecDepth 100000 in
theorem IsE.next (h : IsE w b0 gd F D) : ∃ w0 : World, w0.heap.size = b0 ∧ JS w0 w gd D.gj D.d D.j F ∧ ∀ (w' : World) (d : DiskS) (j : JnS) (F' : Nat → Prop), JS w0 w' gd D.gj d j F' → Mv F F' w w' → IsE w' b0 gd F' { D with d := d, j := j } := by
 obtain ⟨w0, h0, h1, h2, h3⟩ := h
 refine ⟨w0, h0, h1, fun w' d j F' k1 k2 => ⟨w0, h0, k1, (k2.1.block _ (Array.getElem?_eq_some_iff.1 h2).1 (fun e => ?_)).trans h2, h3⟩⟩
 obtain ⟨_, cs, t, fr, q1, q2⟩ := h1.kind e
 rw [h2] at q1
 injection q1 with q1
 injection q1 with _ q1 _
 subst q1
 rcases q2 with e | e | e | e | e <;> revert e <;> decide
set_option maxRecDepth 100000 in
theorem Write_js {w0 : World} {gj : Nat} {D : DiskS} {J : JnS} {S : Nat → Prop} (h : JS w0 w gd gj D J S) (b : Int) (A : Option Addr) (n c : Nat) (m : List UInt8) (hm : BR w A n m) (hA : ∀ ad, A = some ad → ¬ S ad.block) (hn : n ≤ 9223372036854775807) (hpl : D.pending.length ≤ 1000000) :
  Calls Tryz.prog 117 #[.pointer (some ⟨gd, 0, none⟩), .int .i64 b, .slice A n c] w fun e w' => e = .returned (.int .i64 (writeE D b n)) ∧ ∃ S', JS w0 w' gd gj (writeD D b m) J S' ∧ Mv S S' w w' := by
 obtain ⟨F, wv, h1, h2, h3, h4, h5, h6, h7⟩ := h.ex
 refine (Write_any w _ _ gd F D b A n c m h1 hm (fun ad e hf => hA ad e ((h7 _).2 (.inl hf))) hn hpl).mono ?_
 rintro e w' ⟨rfl, hp⟩
 exact ⟨rfl, h.disk h1 h2 h3 h4 h5 h7 hp⟩
set_option maxRecDepth 100000 in
theorem Write_e (h : IsE w b0 gd F D) (b : Int) (A : Option Addr) (n c : Nat) (m : List UInt8) (hm : BR w A n m) (hA : ∀ ad, A = some ad → ¬ F ad.block) (hn : n ≤ 9223372036854775807) (hpl : D.d.pending.length ≤ 1000000) :
  Calls Tryz.prog 117 #[.pointer (some ⟨gd, 0, none⟩), .int .i64 b, .slice A n c] w fun e w' => e = .returned (.int .i64 (writeE D.d b n)) ∧ EStep w b0 gd F (D.wr b m) w' := by
 obtain ⟨w0, h0, h1, h2⟩ := h.next
 refine (Write_js h1 b A n c m hm hA hn hpl).mono ?_
 rintro e w' ⟨rfl, F', k1, k2⟩
 exact ⟨rfl, F', h2 _ _ _ _ k1 k2, k2⟩
set_option maxRecDepth 100000 in
theorem Read_e (h : IsE w b0 gd F D) (b : Int) (hpl : D.d.pending.length ≤ 1000000) :
  Calls Tryz.prog 75 #[.pointer (some ⟨gd, 0, none⟩), .int .i64 b] w fun e w' => ∃ v, e = .returned (.tuple #[v, .int .i64 (readE D.d b)]) ∧ OB w' w.heap.size v (readL D.d b) ∧ Below w.heap.size w w' := by
 obtain ⟨w0, h0, h1, h2⟩ := h.next
 obtain ⟨ok, Fd, hd⟩ := h1.isd
 exact Read_any w ok _ gd Fd D.d b hd hpl
set_option maxRecDepth 100000 in
theorem Flush_e (h : IsE w b0 gd F D) (hpd : D.d.pending.length ≤ 900000) :
  Calls Tryz.prog 41 #[.pointer (some ⟨D.gj, 0, none⟩)] w fun e w' => e = .returned (.int .i64 (fluE D.d D.j)) ∧ EStep w b0 gd F { D with d := fluD D.d D.j, j := fluJ D.d D.j } w' := by
 obtain ⟨w0, h0, h1, h2⟩ := h.next
 refine (JFlush_js h1 hpd).mono ?_
 rintro e w' ⟨rfl, F', k1, k2⟩
 exact ⟨rfl, F', h2 _ _ _ _ k1 k2, k2⟩
end
def LogV (wv : Value) (b0 gd : Nat) (D0 : EnS) : Prop :=
 ∃ fid lb, wv = .func (.func fid) #[] lb ∧ (∀ (args : Array Value) (W : World), (callFunc fid args).run Tryz.prog W = .ok (.enter fid args) W) ∧
  ∀ (n : Int) (W : World) (F : Nat → Prop) (D : EnS), D.gj = D0.gj → D.gb = D0.gb → D.k = D0.k → 0 ≤ n → IsE W b0 gd F D → D.d.pending.length ≤ 900000 →
   Calls Tryz.prog fid (#[.int .i64 n] ++ lb) W fun e W' => e = .returned (.int .i64 (logE D n)) ∧ EStep W b0 gd F (logD D n) W'
set_option maxRecDepth 100000 in
theorem LogV.to {wv : Value} {b0 gd : Nat} {D D' : EnS} (h : LogV wv b0 gd D) (h1 : D'.gj = D.gj) (h2 : D'.gb = D.gb) (h3 : D'.k = D.k) : LogV wv b0 gd D' := by
 obtain ⟨fid, lb, e, hc, hl⟩ := h
 exact ⟨fid, lb, e, hc, fun n W F E k1 k2 k3 => hl n W F E (k1.trans h1) (k2.trans h2) (k3.trans h3)⟩
set_option maxRecDepth 100000 in
theorem fluJ_shape (D : DiskS) (J : JnS) : (fluJ D J).fi = J.fi ∧ (fluJ D J).bl = J.bl ∧ (fluJ D J).ep = J.ep ∧ (fluJ D J).la = J.la := by
 unfold fluJ
 split
 ·exact ⟨rfl, rfl, rfl, rfl⟩
 ·split <;> exact ⟨rfl, rfl, rfl, rfl⟩
def SameG (E E' : EnS) : Prop := E'.gj = E.gj ∧ E'.gb = E.gb ∧ E'.k = E.k ∧ E'.j.fi = E.j.fi ∧ E'.j.bl = E.j.bl ∧ E'.j.ep = E.j.ep
set_option maxRecDepth 100000 in
theorem SameG.refl (E : EnS) : SameG E E := ⟨rfl, rfl, rfl, rfl, rfl, rfl⟩
set_option maxRecDepth 100000 in
theorem SameG.trans {A B C : EnS} (h : SameG A B) (k : SameG B C) : SameG A C := ⟨k.1.trans h.1, k.2.1.trans h.2.1, k.2.2.1.trans h.2.2.1, k.2.2.2.1.trans h.2.2.2.1, k.2.2.2.2.1.trans h.2.2.2.2.1, k.2.2.2.2.2.trans h.2.2.2.2.2⟩
set_option maxRecDepth 100000 in
theorem SameG.log (E : EnS) (n : Int) : SameG E (logD E n) := by
 unfold logD
 split
 ·exact SameG.refl E
 ·obtain ⟨h1, h2, h3, _⟩ := fluJ_shape E.d E.j
  exact ⟨rfl, rfl, rfl, h1, h2, h3⟩
set_option maxRecDepth 100000 in
theorem SameG.wr (E : EnS) (b : Int) (m : List UInt8) : SameG E (E.wr b m) := ⟨rfl, rfl, rfl, rfl, rfl, rfl⟩
set_option maxRecDepth 100000 in
theorem LogV.same {wv : Value} {b0 gd : Nat} {D D' : EnS} (h : LogV wv b0 gd D) (hs : SameG D D') : LogV wv b0 gd D' := h.to hs.1 hs.2.1 hs.2.2.1
set_option maxRecDepth 100000 in
theorem syncD_len (D : DiskS) : (syncD D).blocks.length = D.blocks.length := by
 unfold syncD
 split
 ·rfl
 ·exact carry_len _ _
set_option maxRecDepth 100000 in
theorem fluD_blocks (D : DiskS) (J : JnS) : (fluD D J).blocks.length = D.blocks.length := by
 unfold fluD
 split
 ·rfl
 ·unfold flushD
  split
  ·exact (putAll_pl _ _).2
  ·rw [syncD_len]
   exact (putAll_pl _ _).2
end Go.Proofs.YtnkeclpgpiogoaaGreat
