/-
  change.Diff: the pieces of two pages.
-/
import Derived.Test.YthpjjoahffagcaaDfB
import Derived.Laws.EntriesVeiled
import Derived.Shelf.Abstract
namespace Go.Proofs.Ythpjjoahffagcaa
open Go.RowKit Go.Shelf

attribute [local go_sem] Oper.semAt_some

/-- What has been made at some unlike places: the pieces, the beginning of the one that is being made, and its end (nought: none). -/
def dstep (b : List UInt8) (s : List Pc × Nat × Nat) (x : Nat) : List Pc × Nat × Nat :=
  if s.2.2 = 0 ∨ 8 < x + 1 - s.2.2 then (dput b s.1 s.2.1 s.2.2, x, x + 1) else (s.1, s.2.1, x + 1)

def dst (a b : List UInt8) (k : Nat) : List Pc × Nat × Nat := ((unlTo a b 4080).take k).foldl (dstep b) ([], 0, 0)

/-- The pieces that make b of a. -/
def diffL (a b : List UInt8) : List Pc := dput b (dst a b (unlTo a b 4080).length).1 (dst a b (unlTo a b 4080).length).2.1 (dst a b (unlTo a b 4080).length).2.2

theorem dst_succ {a b : List UInt8} {k x : Nat} (h : (unlTo a b 4080)[k]? = some x) : dst a b (k + 1) = dstep b (dst a b k) x := by
  unfold dst
  obtain ⟨hk, e⟩ := List.getElem?_eq_some_iff.1 h
  rw [List.take_succ_eq_append_getElem hk, List.foldl_append, e]
  rfl

theorem dput_len (b : List UInt8) (ps : List Pc) (f e : Nat) : (dput b ps f e).length ≤ ps.length + 1 := by
  unfold dput; split <;> simp

/-- The places rise, and lie below m. -/
theorem unlTo_lt (a b : List UInt8) (m k x : Nat) (h : (unlTo a b m)[k]? = some x) : x < m := by
  have := List.mem_of_getElem? h
  unfold unlTo at this
  simpa using (List.mem_filter.1 this).1

theorem unlTo_rise (a b : List UInt8) (m : Nat) : (unlTo a b m).Pairwise (· < ·) := by
  unfold unlTo
  exact List.pairwise_lt_range.filter _

theorem unlTo_len (a b : List UInt8) (m : Nat) : (unlTo a b m).length ≤ m := by
  unfold unlTo
  exact Nat.le_trans (List.length_filter_le _ _) (by simp)

theorem dst_inv (a b : List UInt8) : ∀ (k : Nat), k ≤ (unlTo a b 4080).length →
    (dst a b k).1.length ≤ k ∧ (dst a b k).2.2 ≤ 4080 ∧ (0 < (dst a b k).2.2 → (dst a b k).2.1 < (dst a b k).2.2) ∧ (∀ x, (unlTo a b 4080)[k]? = some x → (dst a b k).2.2 ≤ x)
  | 0, _ => ⟨Nat.le_refl _, Nat.zero_le _, fun h => absurd h (Nat.lt_irrefl _), fun _ _ => Nat.zero_le _⟩
  | k + 1, h => by
    obtain ⟨h1, h2, h3, h4⟩ := dst_inv a b k (by omega)
    obtain ⟨x, hx⟩ : ∃ x, (unlTo a b 4080)[k]? = some x := ⟨_, List.getElem?_eq_getElem (by omega)⟩
    have hlt := unlTo_lt a b _ _ _ hx
    have hle := h4 x hx
    have hnext : ∀ y, (unlTo a b 4080)[k + 1]? = some y → x + 1 ≤ y := by
      intro y hy
      obtain ⟨hk, e⟩ := List.getElem?_eq_some_iff.1 hx
      obtain ⟨hk', e'⟩ := List.getElem?_eq_some_iff.1 hy
      have := List.pairwise_iff_getElem.1 (unlTo_rise a b 4080) k (k + 1) hk hk' (by omega)
      omega
    rw [dst_succ hx]
    unfold dstep
    have := dput_len b (dst a b k).1 (dst a b k).2.1 (dst a b k).2.2
    split
    · exact ⟨by dsimp only; omega, by dsimp only; omega, fun _ => by dsimp only; omega, hnext⟩
    · rename_i hn
      exact ⟨by dsimp only; omega, by dsimp only; omega, fun _ => by dsimp only; omega, hnext⟩

theorem dput_zero (b : List UInt8) (ps : List Pc) (f : Nat) : dput b ps f 0 = ps := if_pos rfl

/-- All that change.Diff's loop keeps in its boxes. -/
structure DI (n₀ : Nat) (w : World) (A B : Option Addr) (ca cb : Nat) (s : List Pc × Nat × Nat) (W : World) : Prop where
  l : ∃ v, Boxed W (n₀ + 1) 22 v ∧ OP W n₀ v s.1
  f : Boxed W (n₀ + 1 + 1) 3 (.int .i64 (s.2.1 : Int))
  e : Boxed W (n₀ + 1 + 1 + 1) 3 (.int .i64 ((s.2.2 : Int) - 1))
  n : Boxed W n₀ 26 (.slice B 4080 cb)
  p : Boxed W (n₀ + 1 + 1 + 1 + 1) 1 (.func (.func 36) #[] #[.pointer (some ⟨n₀ + 1 + 1 + 1, 0, none⟩), .pointer (some ⟨n₀ + 1, 0, none⟩), .pointer (some ⟨n₀ + 1 + 1, 0, none⟩), .pointer (some ⟨n₀, 0, none⟩)])
  a : Boxed W (n₀ + 1 + 1 + 1 + 1 + 1) 26 (.slice A 4080 ca)
  b : Boxed W (n₀ + 1 + 1 + 1 + 1 + 1 + 1) 26 (.slice B 4080 cb)
  below : Below n₀ w W

section
variable {n₀ : Nat} {w W W' : World} {A B : Option Addr} {ca cb : Nat} {s : List Pc × Nat × Nat}
theorem DI.ck (h : DI n₀ w A B ca cb s W) (hk : CK W W') (hb : Below n₀ w W') : DI n₀ w A B ca cb s W' := by
  obtain ⟨v, hv, ho⟩ := h.l
  exact ⟨⟨v, hk _ _ _ _ hv, ho.ck hk⟩, hk _ _ _ _ h.f, hk _ _ _ _ h.e, hk _ _ _ _ h.n, hk _ _ _ _ h.p, hk _ _ _ _ h.a, hk _ _ _ _ h.b, hb⟩
/-- Where only the row of pieces has turned. -/
theorem DI.ct (h : DI n₀ w A B ca cb s W) (hk : CT W W') (hb : Below n₀ w W') {v : Value} {ps : List Pc} (hv : Boxed W' (n₀ + 1) 22 v) (ho : OP W' n₀ v ps) : DI n₀ w A B ca cb (ps, s.2.1, s.2.2) W' :=
  ⟨⟨v, hv, ho⟩, hk.box h.f (by decide) (by decide), hk.box h.e (by decide) (by decide), hk.box h.n (by decide) (by decide), hk.box h.p (by decide) (by decide), hk.box h.a (by decide) (by decide), hk.box h.b (by decide) (by decide), hb⟩
theorem boxed_other {k j : Nat} {t : TypeId} {v u : Value} (h : Boxed W k t v) (hj : k ≠ j) : Boxed (W.setCell ⟨j, 0, none⟩ u) k t v := h.kept (grownBy_setCell' W j u) (by simpa using hj)
theorem OP.setInt {v : Value} {ps : List Pc} {k : Nat} {x u : Value} (h : OP W n₀ v ps) (hb : Boxed W k 3 x) : OP (W.setCell ⟨k, 0, none⟩ u) n₀ v ps := by
  obtain ⟨us, ho, hl, hv, hd⟩ := h
  exact ⟨us, ho.kept (grownBy_setCell' W k u) (.inr (hb.not_row (by decide) ho).symm), hl, fun i p q hp hq => ⟨(hv i p q hp hq).1, World.ownsRow.kept (hv i p q hp hq).2 (grownBy_setCell' W k u) (.inr (hb.not_row (by decide) (hv i p q hp hq).2).symm)⟩, hd⟩
theorem DI.setF (h : DI n₀ w A B ca cb s W) (x : Nat) : DI n₀ w A B ca cb (s.1, x, s.2.2) (W.setCell ⟨n₀ + 1 + 1, 0, none⟩ (.int .i64 (x : Int))) := by
  obtain ⟨v, hv, ho⟩ := h.l
  exact ⟨⟨v, boxed_other hv (by omega), ho.setInt h.f⟩, h.f.set _, boxed_other h.e (by omega), boxed_other h.n (by omega), boxed_other h.p (by omega), boxed_other h.a (by omega), boxed_other h.b (by omega), h.below.setCell (p := ⟨n₀ + 1 + 1, 0, none⟩) (by dsimp only; omega) _⟩
theorem DI.setE (h : DI n₀ w A B ca cb s W) (x : Nat) : DI n₀ w A B ca cb (s.1, s.2.1, x + 1) (W.setCell ⟨n₀ + 1 + 1 + 1, 0, none⟩ (.int .i64 (x : Int))) := by
  obtain ⟨v, hv, ho⟩ := h.l
  refine ⟨⟨v, boxed_other hv (by omega), ho.setInt h.e⟩, boxed_other h.f (by omega), ?_, boxed_other h.n (by omega), boxed_other h.p (by omega), boxed_other h.a (by omega), boxed_other h.b (by omega), h.below.setCell (p := ⟨n₀ + 1 + 1 + 1, 0, none⟩) (by dsimp only; omega) _⟩
  have : (((x + 1 : Nat) : Int) - 1) = (x : Int) := by omega
  dsimp only
  rw [this]
  exact h.e.set _
theorem DI.kp {s' : List Pc × Nat × Nat} (h : DI n₀ w A B ca cb s W) (h' : DI n₀ w A B ca cb s' W') (hb : Below n₀ W W') : Kp2 n₀ (n₀ + 1 + 1 + 1 + 1 + 1) (n₀ + 1 + 1 + 1 + 1 + 1 + 1) W W' :=
  ⟨hb, fun o e => by rw [h'.a, ← e, h.a], fun o e => by rw [h'.b, ← e, h.b]⟩
theorem DI.own (hw : n₀ = w.heap.size) {M : Nat} (hM : n₀ ≤ M) (a b : List UInt8) : OwnFrom M (fun k W => DI n₀ w A B ca cb (dst a b k) W) := by
  intro k X Y row h hg hr
  subst hw
  exact h.ck (CK.of_grownBy hg fun r e => (hr r e).2) ((ownFrom_below (Nat.le_refl _) hM : OwnFrom M (fun (_ : Nat) W => Below w.heap.size w W)) k X Y row h.below hg hr)
end

/-- What 'put' makes of the boxes: the piece that is being made has joined. -/
theorem put_any (n₀ : Nat) (w W : World) (hw : n₀ = w.heap.size) (A B : Option Addr) (ca cb : Nat) (b : List UInt8) (s : List Pc × Nat × Nat) (hI : DI n₀ w A B ca cb s W) (hb : BR w B 4080 b) (hcb : 4080 ≤ cb)
    (h1 : s.1.length ≤ 4080) (h2 : s.2.2 ≤ 4080) (h3 : 0 < s.2.2 → s.2.1 < s.2.2) :
    Calls Try.prog 36 #[.pointer (some ⟨n₀ + 1 + 1 + 1, 0, none⟩), .pointer (some ⟨n₀ + 1, 0, none⟩), .pointer (some ⟨n₀ + 1 + 1, 0, none⟩), .pointer (some ⟨n₀, 0, none⟩)] W fun r W' => (∃ u, r = .returned u) ∧
      DI n₀ w A B ca cb (dput b s.1 s.2.1 s.2.2, s.2.1, s.2.2) W' ∧ KeepsOthers W W' ∧ Below n₀ W W' := by
  subst hw
  obtain ⟨ps, f, e⟩ := s
  dsimp only at h1 h2 h3 ⊢
  rcases Nat.eq_zero_or_pos e with h0 | h0
  · subst h0
    have he := hI.e
    dsimp only at he
    refine (put_none W _ _ _ _ (by simpa using he)).mono ?_
    rintro r w' ⟨hr, rfl⟩
    rw [dput_zero]
    exact ⟨hr, hI, KeepsOthers.refl _, Below.refl _ _⟩
  · obtain ⟨e, rfl⟩ : ∃ e', e = e' + 1 := ⟨e - 1, by omega⟩
    have he := hI.e
    have hz : (((e + 1 : Nat) : Int) - 1) = (e : Int) := by omega
    dsimp only at he
    rw [hz] at he
    obtain ⟨v, hv, ho⟩ := hI.l
    refine (put_some W _ _ _ _ w.heap.size v ps f e B cb b he hv hI.f hI.n (hb.below hI.below) hcb ho hI.below.size (by omega) (by omega) (by omega) h1).mono ?_
    rintro r w' ⟨hr, v', hv', ho', ht, hk, hb'⟩
    exact ⟨hr, hI.ct ht (hI.below.trans hb') hv' ho', hk, hb'⟩

set_option maxRecDepth 100000 in
set_option maxHeartbeats 2000000 in
theorem Diff_any (A B : Option Addr) (ca cb : Nat) (a b : List UInt8) (w : World) (ha : BR w A 4080 a) (hb : BR w B 4080 b) (hcb : 4080 ≤ cb) :
    Calls Try.prog 9 #[.slice A 4080 ca, .slice B 4080 cb] w fun r w' => ∃ v, r = .returned (.tuple #[v, .int .i64 0]) ∧ OP w' w.heap.size v (diffL a b) ∧ Below w.heap.size w w' := by
  refine (callsIn_wide (n := 9)).1 ?_
  refine callsIn_of_wp_marks Try.func9 rfl trivial ?_ rfl
  simp only [Try.ntmps9, List.size_toArray, List.length_cons, List.length_nil, Nat.reduceAdd, Nat.reduceSub, Array.replicate_succ, Array.replicate_zero, List.push_toArray, List.append_toArray, List.nil_append, List.cons_append]
  gi_wp2_with (refine ⟨trivial, ?_⟩; gi_at_call 38; refine (callsIn_wide.2 (unlike_any _ _ _ _ _ _ _)).mono ?_; rintro e w' ⟨rfl, rfl⟩)
  have h0 : DI w.heap.size w A B ca cb ([], 0, 0) (((((((w.alloc (.cells #[.slice B 4080 cb] 26)).alloc (.cells #[.slice none 0 0] 22)).alloc (.cells #[.int .i64 0] 3)).alloc (.cells #[.int .i64 (-1)] 3)).alloc
      (.cells #[.func (.func 36) #[] #[.pointer (some ⟨w.heap.size + 1 + 1 + 1, 0, none⟩), .pointer (some ⟨w.heap.size + 1, 0, none⟩), .pointer (some ⟨w.heap.size + 1 + 1, 0, none⟩), .pointer (some ⟨w.heap.size, 0, none⟩)]] 1)).alloc
      (.cells #[.slice A 4080 ca] 26)).alloc (.cells #[.slice B 4080 cb] 26)) := by
    have hnew : ∀ (W : World) (t : TypeId) (v : Value) (k : Nat), W.heap.size = k → Boxed (W.alloc (.cells #[v] t)) k t v := fun W t v k e => e ▸ Boxed.new W t v
    refine ⟨⟨.slice none 0 0, ?_, OP.nil _ _⟩, ?_, ?_, ?_, ?_, ?_, ?_, ?_⟩
    · exact (((((hnew _ _ _ _ (by simp)).alloc _).alloc _).alloc _).alloc _).alloc _
    · exact ((((hnew _ _ _ _ (by simp)).alloc _).alloc _).alloc _).alloc _
    · exact (((hnew _ _ _ _ (by simp)).alloc _).alloc _).alloc _
    · exact ((((((hnew _ _ _ _ (by simp)).alloc _).alloc _).alloc _).alloc _).alloc _).alloc _
    · exact ((hnew _ _ _ _ (by simp)).alloc _).alloc _
    · exact (hnew _ _ _ _ (by simp)).alloc _
    · exact hnew _ _ _ _ (by simp)
    · exact gr_alloc (gr_alloc (gr_alloc (gr_alloc (gr_alloc (gr_alloc (gr_alloc (gr_refl w) _) _) _) _) _) _) _
  obtain ⟨W0, hW0⟩ : ∃ W0, (((((((w.alloc (.cells #[.slice B 4080 cb] 26)).alloc (.cells #[.slice none 0 0] 22)).alloc (.cells #[.int .i64 0] 3)).alloc (.cells #[.int .i64 (-1)] 3)).alloc
      (.cells #[.func (.func 36) #[] #[.pointer (some ⟨w.heap.size + 1 + 1 + 1, 0, none⟩), .pointer (some ⟨w.heap.size + 1, 0, none⟩), .pointer (some ⟨w.heap.size + 1 + 1, 0, none⟩), .pointer (some ⟨w.heap.size, 0, none⟩)]] 1)).alloc
      (.cells #[.slice A 4080 ca] 26)).alloc (.cells #[.slice B 4080 cb] 26)) = W0 := ⟨_, rfl⟩
  have hsz : W0.heap.size = w.heap.size + 7 := by rw [← hW0]; simp
  rw [hW0] at h0 ⊢
  clear hW0
  obtain ⟨n₀, hn₀⟩ : ∃ n₀, n₀ = w.heap.size := ⟨_, rfl⟩
  rw [← hn₀] at h0 hsz ⊢
  have HN := Lib.hid hn₀
  have HZ := Lib.hid hsz
  have hle : n₀ ≤ W0.heap.size := by omega
  have hown := DI.own (A := A) (B := B) (ca := ca) (cb := cb) hn₀ hle a b
  clear hn₀ hsz
  refine rangeFunc_rounds rfl (by omega) (gf := 55) (lb := #[.pointer (some ⟨n₀ + 1 + 1 + 1 + 1 + 1, 0, none⟩), .pointer (some ⟨n₀ + 1 + 1 + 1 + 1 + 1 + 1, 0, none⟩)]) rfl trivial (enters_of Try.func55 (by kernel_rfl) rfl)
    (encs := fun x : Nat => #[.int .i64 (x : Int)]) (unlTo a b 4080) (Kp := Kp2 n₀ (n₀ + 1 + 1 + 1 + 1 + 1) (n₀ + 1 + 1 + 1 + 1 + 1 + 1)) Kp2.trans ?put ?seq (fun _ => rfl)
    (fun k W => DI n₀ w A B ca cb (dst a b k) W) hown h0
    (fun x => { tmps := #[.slice A 4080 ca, .slice B 4080 cb, undef, .pointer (some ⟨n₀, 0, none⟩), .slice none 0 0, .int .i64 0, .pointer (some ⟨n₀ + 1, 0, none⟩), .pointer (some ⟨n₀ + 1 + 1, 0, none⟩), .pointer (some ⟨n₀ + 1 + 1 + 1, 0, none⟩), .pointer (some ⟨n₀ + 1 + 1 + 1 + 1, 0, none⟩), .int .i64 (x : Int),
      .slice A 4080 ca, .int .i64 4080, .bool false, .bool false, .slice B 4080 cb, .int .i64 4080, .bool false, .bool false, .func (.func 36) #[] #[.pointer (some ⟨n₀ + 1 + 1 + 1, 0, none⟩), .pointer (some ⟨n₀ + 1, 0, none⟩), .pointer (some ⟨n₀ + 1 + 1, 0, none⟩), .pointer (some ⟨n₀, 0, none⟩)],
      .slice A 4080 ca, .slice B 4080 cb, .func (.func 55) #[] #[.pointer (some ⟨n₀ + 1 + 1 + 1 + 1 + 1, 0, none⟩), .pointer (some ⟨n₀ + 1 + 1 + 1 + 1 + 1 + 1, 0, none⟩)], .int .i64 (x : Int), undef, undef, undef, undef, undef, undef, undef, undef, undef, undef, undef, undef, undef, undef, undef], defers := [] })
    ?assign ?body ?done
  case put =>
    intro W l o o' hl ho hc
    have hz := HZ.out
    exact ⟨(Below.refl n₀ W).grown (grownBy_putObj' W l o') (by have := (Array.getElem?_eq_some_iff.1 ho).1; omega) (fun k e => by cases e; omega), fun u e => (World.putObj_heap_other (by omega)).trans e, fun u e => (World.putObj_heap_other (by omega)).trans e⟩
  case seq =>
    intro l J W hB hJ hY hJ0
    have hz := HN.out
    subst hz
    have hA := h0.a
    have hBb := h0.b
    have hW : Below w.heap.size w W := h0.below.trans (hB.mono hle)
    refine unlike1_in 8 l _ _ w A B ca cb a b ha hb J hJ hY W hW ?_ ?_ hJ0
    · exact (hB.block _ hA.lt).trans hA
    · exact (hB.block _ hBb.lt).trans hBb
  case assign =>
    intro l x W K hK
    gi_wp2
    exact hK
  case body =>
    intro l k x W hx hI
    obtain ⟨hk, -⟩ := List.getElem?_eq_some_iff.1 hx
    obtain ⟨i1, i2, i3, i4⟩ := dst_inv a b k (by omega)
    have i4' := i4 x hx
    have hul := unlTo_len a b 4080
    have hxl := unlTo_lt a b 4080 k x hx
    have HS := Lib.hid (dst_succ (b := b) hx)
    have hp := put_any n₀ w W HN.out A B ca cb b _ hI hb hcb (by omega) i2 i3
    clear hx i4
    generalize dst a b k = s at *
    obtain ⟨ps, f, e⟩ := s
    dsimp only at i1 i2 i3 i4' hp
    have HP := Lib.hid hp
    have HI := Lib.hid hI
    clear hp hI h0 hown
    have hcp := HI.out.p.cell
    have hfin : (e = 0 ∨ 8 < x + 1 - e) → ∀ W1, DI n₀ w A B ca cb (dput b ps f e, f, e) W1 → KeepsOthers W W1 → Below n₀ W W1 →
        KeepsFrom W0.heap.size W ((W1.setCell ⟨n₀ + 1 + 1, 0, none⟩ (.int .i64 (x : Int))).setCell ⟨n₀ + 1 + 1 + 1, 0, none⟩ (.int .i64 (x : Int))) ∧
        Kp2 n₀ (n₀ + 1 + 1 + 1 + 1 + 1) (n₀ + 1 + 1 + 1 + 1 + 1 + 1) W ((W1.setCell ⟨n₀ + 1 + 1, 0, none⟩ (.int .i64 (x : Int))).setCell ⟨n₀ + 1 + 1 + 1, 0, none⟩ (.int .i64 (x : Int))) ∧
        DI n₀ w A B ca cb (dst a b (k + 1)) ((W1.setCell ⟨n₀ + 1 + 1, 0, none⟩ (.int .i64 (x : Int))).setCell ⟨n₀ + 1 + 1 + 1, 0, none⟩ (.int .i64 (x : Int))) := by
      intro hc W1 hI1 hk1 hb1
      have hst : dst a b (k + 1) = (dput b ps f e, x, x + 1) := by rw [HS.out]; unfold dstep; rw [if_pos hc]
      rw [hst]
      have h2 := (hI1.setF x).setE x
      exact ⟨((hk1.trans (KeepsOthers.setCell _ _ _)).trans (KeepsOthers.setCell _ _ _)).from _, HI.out.kp h2 ((hb1.setCell (p := ⟨n₀ + 1 + 1, 0, none⟩) (by dsimp only; omega) _).setCell (p := ⟨n₀ + 1 + 1 + 1, 0, none⟩) (by dsimp only; omega) _), h2⟩
    have HFIN := Lib.hid hfin
    clear hfin
    rcases Nat.eq_zero_or_pos e with h0 | h0
    · subst h0
      have hce : W.cell? ⟨n₀ + 1 + 1 + 1, 0, none⟩ = some (.int .i64 (-1)) := HI.out.e.cell
      gi_wp2_with fail
      refine ⟨trivial, ?_⟩
      refine (CallsIn.inRound l (callsIn_wide.2 HP.out)).mono ?_
      rintro r W1 ⟨⟨u, rfl⟩, hI1, hk1, hb1⟩
      have c1 := hI1.f.cell
      have z1 := hI1.f.frozen
      have c2 := ((hI1.setF x).e).cell
      have z2 := ((hI1.setF x).e).frozen
      dsimp only at c1 c2
      have HF := Lib.hid (HFIN.out (by simp) W1 (by exact hI1) hk1 hb1)
      gi_wp2_with fail
      exact HF.out
    · obtain ⟨e, rfl⟩ : ∃ e', e = e' + 1 := ⟨e - 1, by omega⟩
      have hce := HI.out.e.cell
      have hz : (((e + 1 : Nat) : Int) - 1) = (e : Int) := by omega
      dsimp only at hce
      rw [hz] at hce
      clear hz
      have hneg : decide ((e : Int) < 0) = false := by simp
      have hsub : IntKind.i64.wrap ((x : Int) - (e : Int)) = (x : Int) - (e : Int) := by rw [IntKind.wrap_i64]; omega
      by_cases hc : e + 8 < x
      · have hgt : decide (8 < (x : Int) - (e : Int)) = true := by simp; omega
        gi_wp2_with fail
        refine ⟨trivial, ?_⟩
        refine (CallsIn.inRound l (callsIn_wide.2 HP.out)).mono ?_
        rintro r W1 ⟨⟨u, rfl⟩, hI1, hk1, hb1⟩
        have c1 := hI1.f.cell
        have z1 := hI1.f.frozen
        have c2 := ((hI1.setF x).e).cell
        have z2 := ((hI1.setF x).e).frozen
        dsimp only at c1 c2
        have HF := Lib.hid (HFIN.out (.inr (by omega)) W1 hI1 hk1 hb1)
        gi_wp2_with fail
        exact HF.out
      · have hgt : decide (8 < (x : Int) - (e : Int)) = false := by simp; omega
        have z2 := HI.out.e.frozen
        have HF := Lib.hid (show dst a b (k + 1) = (ps, f, x + 1) by rw [HS.out]; unfold dstep; rw [if_neg (by dsimp only; omega)])
        gi_wp2_with fail
        have h2 := HI.out.setE x
        show KeepsFrom _ _ _ ∧ Kp2 _ _ _ _ _ ∧ DI _ _ _ _ _ _ (dst a b (k + 1)) _
        rw [HF.out]
        exact ⟨(KeepsOthers.setCell _ _ _).from _, HI.out.kp h2 ((Below.refl n₀ W).setCell (p := ⟨n₀ + 1 + 1 + 1, 0, none⟩) (by dsimp only; omega) _), h2⟩
  case done =>
    intro D W hD hI hK
    obtain ⟨i1, i2, i3, -⟩ := dst_inv a b (unlTo a b 4080).length (Nat.le_refl _)
    have hul := unlTo_len a b 4080
    have hp := put_any n₀ w W HN.out A B ca cb b _ hI hb hcb (by omega) i2 i3
    have HP := Lib.hid hp
    have HI := Lib.hid hI
    clear hp hI h0 hown
    have hcp := HI.out.p.cell
    gi_wp2_with fail
    refine ⟨trivial, ?_⟩
    refine (callsIn_wide.2 HP.out).mono ?_
    rintro r W1 ⟨⟨u, rfl⟩, hI1, hk1, hb1⟩
    obtain ⟨v, hv, ho⟩ := hI1.l
    have hcv := hv.cell
    have HK := Lib.hid (hk1.same _ _ hK rfl)
    have HO := Lib.hid ho
    clear ho hv hK
    gi_wp2_with fail
    refine ⟨by simp, .inl ⟨_, _, rfl, run_takeDeferred HK.out, ?_⟩⟩
    have hz := HN.out
    subst hz
    have hck : CK W1 (W1.putObj D (.deferred none)) := CK.of_grownBy (grownBy_putObj' W1 D _) (fun r e => by cases e; exact ⟨_, HK.out, rfl⟩)
    have hbb : Below w.heap.size W1 (W1.putObj D (.deferred none)) := (Below.refl _ W1).grown (grownBy_putObj' W1 D _) (by have := (Array.getElem?_eq_some_iff.1 HK.out).1; omega) (fun k e => by cases e; omega)
    exact ⟨_, (by simp [results, Try.results9, go_sem]), v, rfl, HO.out.ck hck, hI1.below.trans hbb⟩

set_option maxRecDepth 100000 in
set_option maxHeartbeats 2000000 in
theorem Diff_bad (A B : Option Addr) (na nb ca cb : Nat) (w : World) (h : na ≠ 4080 ∨ nb ≠ 4080) (ha : na ≤ 9223372036854775807) (_hb : nb ≤ 9223372036854775807) :
    Calls Try.prog 9 #[.slice A na ca, .slice B nb cb] w fun r w' => r = .returned (.tuple #[.slice none 0 0, .int .i64 2]) ∧ Below w.heap.size w w' := by
  by_cases h1 : na = 4080
  · subst h1
    have hn : ((nb : Int) != 4080) = true := by rw [bne_iff_ne]; omega
    clear h
    go_enter Try.func9, Try.ntmps9
    go_wp2_with fail
    go_ret2
    exact ⟨rfl, gr_alloc (gr_refl w) _⟩
  · have hn : ((na : Int) != 4080) = true := by rw [bne_iff_ne]; omega
    clear h
    go_enter Try.func9, Try.ntmps9
    go_wp2_with fail
    go_ret2
    exact ⟨rfl, gr_alloc (gr_refl w) _⟩

end Go.Proofs.Ythpjjoahffagcaa
