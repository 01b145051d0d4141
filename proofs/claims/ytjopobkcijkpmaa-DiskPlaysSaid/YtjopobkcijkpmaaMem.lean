/-
  A block that is known whole as bytes; copy into it. No statement of the program is proved here.
-/
import Derived.Test.YtjopobkcijkpmaaBase
import Derived.Laws.CopyOwn
import Derived.Laws.Cover3
namespace Go.Proofs.Ytjopobkcijkpmaa
open Go.RowKit

/-- Block g is just the bytes l, of element type uint8, none frozen. -/
def BB (w : World) (g : Nat) (l : List UInt8) : Prop := w.heap[g]? = some (.cells (l.map bv).toArray 5 (0, 0))

/-- The world in which block g has become the bytes l. -/
def setB (w : World) (g : Nat) (l : List UInt8) : World := w.setRow g (l.map bv).toArray

section
variable {w w' : World} {g : Nat} {l m : List UInt8}
theorem BB.lt (h : BB w g l) : g < w.heap.size := (Array.getElem?_eq_some_iff.1 h).1
theorem BB.zero (w : World) (n : Nat) : BB (w.alloc (.cells (zeroB n) 5)) w.heap.size (List.replicate n 0) := by
  unfold BB
  rw [heap_alloc_new w _]
  have : zeroB n = ((List.replicate n (0 : UInt8)).map bv).toArray := by rw [← zeroB_toList]
  rw [← this]
theorem BB.set_ (h : BB w g l) (m : List UInt8) : BB (setB w g m) g m := setRow_heap w g _ _ _ _ h
theorem BB.other {k : Nat} (h : BB w g l) (hk : g ≠ k) (m : List UInt8) : BB (setB w k m) g l := (setRow_other w k g _ hk).trans h
theorem BB.alloc (h : BB w g l) (o : Obj) : BB (w.alloc o) g l := (Below.heap_alloc w o g h.lt).trans h
theorem BB.below {B : Nat} (h : BB w g l) (hb : Below B w w') (hg : g < B) : BB w' g l := (hb.block g hg).trans h
theorem BB.kept (h : BB w g l) (hb : Below w.heap.size w w') : BB w' g l := h.below hb h.lt
theorem BB.drew (h : BB w g l) : BB w.drew g l := h
theorem BB.drewN (h : BB w g l) (n : Nat) : BB (w.drewN n) g l := h
@[simp] theorem setB_size (w : World) (g : Nat) (l : List UInt8) : (setB w g l).heap.size = w.heap.size := setRow_size w g _
theorem setB_below {B : Nat} {a : World} (h : Below B a w) (hg : B ≤ g) (m : List UInt8) : Below B a (setB w g m) :=
  h.trans ⟨rfl, rfl, rfl, by simp, fun k hk => setRow_other w g k _ (by omega)⟩
theorem setB_setB (w : World) (g : Nat) (l m : List UInt8) : setB (setB w g l) g m = setB w g m := setRow_setRow w g _ _
theorem setB_drew (w : World) (g : Nat) (l : List UInt8) : setB w.drew g l = (setB w g l).drew := rfl
theorem Rd.put {size n : Nat} {A : Option Addr} {xs : List Value} (h : Rd w size A n xs) (hg : ∀ ad, A = some ad → ad.block ≠ g) (m : List UInt8) : Rd (setB w g m) size A n xs :=
  ⟨h.1, fun hn => by
    obtain ⟨ad, e, hc⟩ := h.2 hn
    refine ⟨ad, e, fun j u hu => ?_⟩
    rw [← hc j u hu]
    exact World.cell?_of_block (setRow_other w g _ _ (by rw [block_of_add]; exact hg ad e))⟩
theorem BR.put {n : Nat} {A : Option Addr} (h : BR w A n l) (hg : ∀ ad, A = some ad → ad.block ≠ g) (m : List UInt8) : BR (setB w g m) A n l := Rd.put h hg m
/-- What is read in old memory stays: the block is new. -/
theorem BR.old {w0 : World} {n : Nat} {A : Option Addr} (h : BR w0 A n l) (hb : Below w0.heap.size w0 w) (hg : w0.heap.size ≤ g) (m : List UInt8) : BR (setB w g m) A n l :=
  h.below (setB_below hb hg m)
theorem BB.reads (h : BB w g l) {off n : Nat} (hn : off + n ≤ l.length) : BR w (some ⟨g, off, none⟩) n ((l.drop off).take n) := by
  refine ⟨by simp; omega, fun _ => ⟨_, rfl, fun j u hu => ?_⟩⟩
  rw [Go.WideShapes.add_plain]
  have hc := cell_of_row w g (off + j) _ _ _ h
  rw [hc]
  have hj : j < n := by
    rcases Nat.lt_or_ge j n with h | h
    · exact h
    · rw [List.getElem?_eq_none (by simp; omega)] at hu; cases hu
  simp [List.getElem?_drop, hj] at hu
  simpa using hu
theorem BB.readsAll (h : BB w g l) : BR w (some ⟨g, 0, none⟩) l.length l := by
  have := h.reads (off := 0) (n := l.length) (by omega)
  simpa using this
theorem BB.cell (h : BB w g l) {j : Nat} (hj : j < l.length) : w.cell? ⟨g, j, none⟩ = some (.int .u8 ((l.getD j 0).toNat : Int)) := by
  rw [cell_of_row w g j _ _ _ h]
  simp [hj, bv, List.getD]
theorem BB.frozen (h : BB w g l) (j : Nat) : w.frozen? ⟨g, j, none⟩ = false := by
  unfold BB at h
  simp [World.frozen?, h]
theorem BB.own (h : BB w g l) {base : Nat} (hb : base ≤ g) (hm : l.length ≤ maxLen) : OB w base (.slice (some ⟨g, 0, none⟩) l.length l.length) l := by
  refine ⟨by simp, .inr ⟨g, l.length, _, rfl, hb, h, Nat.le_refl _, hm, by simp, ?_⟩⟩
  simp only [Nat.mul_one]
  exact List.take_of_length_le (by simp)
theorem BB.setCell (h : BB w g l) (j : Nat) (x : UInt8) : BB (w.setCell ⟨g, j, none⟩ (bv x)) g (l.set j x) := by
  unfold BB at h ⊢
  simp only [World.setCell, Array.getElem?_modify, if_pos, h]
  simp
theorem BB.setInt (h : BB w g l) (j : Nat) (v : Int) (h0 : 0 ≤ v) (h1 : v < 256) : BB (w.setCell ⟨g, j, none⟩ (.int .u8 v)) g (l.set j (UInt8.ofNat v.toNat)) := by
  have e : (.int .u8 v : Value) = bv (UInt8.ofNat v.toNat) := by
    unfold bv
    congr 1
    rw [UInt8.toNat_ofNat']
    omega
  rw [e]
  exact h.setCell j _
theorem BB.ne {t : TypeId} {cs : Array Value} {k : Nat} {fr : Nat × Nat} (h : BB w g l) (hk : w.heap[k]? = some (.cells cs t fr)) (ht : t ≠ 5) : g ≠ k := by
  rintro rfl
  unfold BB at h
  rw [h] at hk
  injection hk with hk
  injection hk with _ h2
  exact ht h2.symm
end

/-- copy into a block that is known whole. -/
theorem run_copy_B (w : World) (ty : TypeId) (g off dl dc : Nat) (l s : List UInt8) (dp A : Option Addr) (m c k : Nat) (h : BB w g l) (hs : BR w A m s) (hk : Nat.min m dl = k) (hdp : 0 < k → dp = some ⟨g, off, none⟩) (hfit : off + k ≤ l.length) :
    (Builtin.copy_ #[33, 33] ty #[.slice dp dl dc, .slice A m c]).run Try.prog w = .ok (goInt k) (setB w g (splice l off (s.take k))) := by
  obtain ⟨i0, hi0, hz0, hz1, hz2⟩ := info_parts info_u8
  have hsl := hs.len
  have hkm : k ≤ m := by rw [← hk]; exact Nat.min_le_left _ _
  have hcs : (s.take k).length = k := by rw [List.length_take]; omega
  rcases Nat.eq_zero_or_pos k with h0 | h0
  · subst h0
    have e : setB w g (splice l off (s.take 0)) = w := by
      unfold setB
      have : splice l off (s.take 0) = l := by simp [splice]
      rw [this]
      exact setRow_self w g _ _ _ h
    rw [e]
    have := run_copy_none (P := Try.prog) w 33 33 ty 5 dp A dl dc m c Try.underlying33 (by simp [hi0, hz1]) hk
    simpa using this
  · obtain rfl := hdp h0
    obtain ⟨ad, rfl, hc⟩ := hs.2 (by omega)
    have := run_copy_row (P := Try.prog) w 33 33 ty 5 g off dl dc ad m c (l.map bv).toArray 5 ((s.take k).map bv) Try.underlying33 (by simp [hi0, hz1]) h (by rw [List.length_map, hcs, hk])
      (fun j u hu => hc j u (by
        rw [List.map_take, List.getElem?_take] at hu
        split at hu
        · exact hu
        · cases hu)) (by simp only [List.length_map, hcs]; simpa using hfit) (one_bv _)
    rw [this, List.length_map, hcs]
    unfold setB splice
    rw [hcs]
    simp [List.map_take, List.map_drop]

section
variable {P : Program} (w : World)
theorem run_equalIn_int (d : Nat) (e : TypeId) (k : IntKind) (he : P.underlying e = some (.int k)) (a b : Int) : (Op.equalIn (d + 1) e (.int k a) (.int k b)).run P w = .ok (a == b) w := by
  simp [Op.equalIn, run_underlying he]

theorem run_part_int (e : TypeId) (k : IntKind) (he : P.underlying e = some (.int k)) (xs : List Int) (j : Nat) (hj : j < xs.length) : (part e (xs.map (Value.int k)).toArray j).run P w = .ok (.int k (xs.getD j 0)) w := by
  simp [part, isAgg, run_underlying he, hj, List.getD]

theorem run_eqArr_loop (d : Nat) (e : TypeId) (k : IntKind) (he : P.underlying e = some (.int k)) (xs ys : List Int) (n : Nat) (hx : xs.length = n) (hy : ys.length = n) :
    ∀ (m j : Nat), j + m = n → (forIn (List.range' j m) ((none, ()) : Option Bool × Unit) (fun i _ => do
        if !(← Op.equalIn (d + 1) e (← part e (xs.map (Value.int k)).toArray (i * 1)) (← part e (ys.map (Value.int k)).toArray (i * 1))) then pure (ForInStep.done (some false, ())) else pure (ForInStep.yield (none, ())))).run P w =
      .ok (if xs.drop j = ys.drop j then (none, ()) else (some false, ())) w
  | 0, j, h => by
    have h1 : xs.drop j = [] := List.drop_eq_nil_of_le (by omega)
    have h2 : ys.drop j = [] := List.drop_eq_nil_of_le (by omega)
    simp [h1, h2]
  | m + 1, j, h => by
    have ih := run_eqArr_loop d e k he xs ys n hx hy m (j + 1) (by omega)
    have d1 : xs.drop j = xs.getD j 0 :: xs.drop (j + 1) := by rw [List.drop_eq_getElem_cons (by omega)]; simp [List.getD, List.getElem?_eq_getElem (show j < xs.length by omega)]
    have d2 : ys.drop j = ys.getD j 0 :: ys.drop (j + 1) := by rw [List.drop_eq_getElem_cons (by omega)]; simp [List.getD, List.getElem?_eq_getElem (show j < ys.length by omega)]
    rw [List.range'_succ, List.forIn_cons]
    simp only [Nat.mul_one] at ih ⊢
    simp only [Sem.run_bind, run_part_int w e k he xs j (by omega), run_part_int w e k he ys j (by omega), Result.andThen, run_equalIn_int w d e k he]
    by_cases hq : xs.getD j 0 = ys.getD j 0
    · simp only [hq, beq_self_eq_true, Bool.not_true, Bool.false_eq_true, if_false, Sem.run_pure]
      rw [ih, d1, d2, hq]
      simp
    · simp only [beq_eq_false_iff_ne.2 hq, Bool.not_false, if_true, Sem.run_pure]
      rw [d1, d2, if_neg (by intro h; injection h with h1; exact hq h1)]

theorem run_eqArr (d : Nat) (t e : TypeId) (i : TypeInfo) (k : IntKind) (n : Nat) (ht : P.underlying t = some (.array n e)) (he : P.underlying e = some (.int k)) (hi : P.info? e = some i) (hs : i.size = 1) (xs ys : List Int) (hx : xs.length = n) (hy : ys.length = n) :
    (Op.equalIn (d + 2) t (.agg (xs.map (Value.int k)).toArray) (.agg (ys.map (Value.int k)).toArray)).run P w = .ok (xs == ys) w := by
  have h := run_eqArr_loop (P := P) w d e k he xs ys n hx hy n 0 (by omega)
  unfold Op.equalIn
  simp only [Sem.run_bind, run_underlying ht, Result.andThen, sizeOf, typeInfo, hi, program, Sem.run, Std.Legacy.Range.forIn_eq_forIn_range', Std.Legacy.Range.size]
  simp only [Nat.sub_zero, Nat.add_sub_cancel, Nat.div_one]
  simp only [Sem.run_pure, hs]
  rw [h]
  by_cases hq : xs = ys
  · simp [hq]
  · simp [hq]
end

theorem BR.cells8 {w : World} {g o : Nat} {x0 x1 x2 x3 x4 x5 x6 x7 : UInt8} (h : BR w (some ⟨g, o, none⟩) 8 [x0, x1, x2, x3, x4, x5, x6, x7]) :
    w.cell? ⟨g, o, none⟩ = some (.int .u8 (x0.toNat : Int)) ∧ w.cell? ⟨g, o + 1, none⟩ = some (.int .u8 (x1.toNat : Int)) ∧ w.cell? ⟨g, o + 2, none⟩ = some (.int .u8 (x2.toNat : Int)) ∧ w.cell? ⟨g, o + 3, none⟩ = some (.int .u8 (x3.toNat : Int)) ∧
    w.cell? ⟨g, o + 4, none⟩ = some (.int .u8 (x4.toNat : Int)) ∧ w.cell? ⟨g, o + 5, none⟩ = some (.int .u8 (x5.toNat : Int)) ∧ w.cell? ⟨g, o + 6, none⟩ = some (.int .u8 (x6.toNat : Int)) ∧ w.cell? ⟨g, o + 7, none⟩ = some (.int .u8 (x7.toNat : Int)) := by
  obtain ⟨g', o', e, hc⟩ := Rd.plain h (by omega) (by omega)
  cases e
  exact ⟨hc 0 _ rfl, hc 1 _ rfl, hc 2 _ rfl, hc 3 _ rfl, hc 4 _ rfl, hc 5 _ rfl, hc 6 _ rfl, hc 7 _ rfl⟩

theorem list8 (l : List UInt8) (h : l.length = 8) : ∃ x0 x1 x2 x3 x4 x5 x6 x7, l = [x0, x1, x2, x3, x4, x5, x6, x7] := by
  match l, h with
  | [x0, x1, x2, x3, x4, x5, x6, x7], _ => exact ⟨x0, x1, x2, x3, x4, x5, x6, x7, rfl⟩

end Go.Proofs.Ytjopobkcijkpmaa
