/-
  Contracts: the document's table: Begin, End, Bury, New.
-/
import Derived.Test.YtjopobkcijkpmaaSnW
namespace Go.Proofs.Ytjopobkcijkpmaa
open Go.RowKit

theorem info_one : (Try.prog.info? 136).map (fun i => (i.zero, i.size, i.bytes)) = some (some (.agg #[.int .i64 0, .int .i64 0, .int .i64 0]), 3, 24) := by kernel_rfl
/-- What a call of the document's leaves: a list, the old one or a new one. -/
def RN (w w' : World) (A A' : Option Addr) (n' : Nat) (l' : List (Int × Int × Int)) : Prop := R3 w' A' n' l' ∧ Below w.heap.size w w' ∧ (A' = A ∨ ∀ ad, A' = some ad → w.heap.size ≤ ad.block ∧ ad.block < w'.heap.size)

section
variable {w w' : World} {g : Nat} {A A' : Option Addr} {n c n' c' : Nat} {f ne la f' ne' la' : Int}
theorem BX.s1 {x : Int} (h : BX w g A n c f ne la) : BX (w.setCell ⟨g, 1, none⟩ (.int .i64 x)) g A n c x ne la := by unfold BX at h ⊢; simp only [World.setCell, Array.getElem?_modify, if_pos, h]; rfl
theorem BX.put (h : BX w g A n c f ne la) (A' : Option Addr) (n' c' : Nat) (f' ne' la' : Int) : BX ((((w.setCell ⟨g, 0, none⟩ (.slice A' n' c')).setCell ⟨g, 1, none⟩ (.int .i64 f')).setCell ⟨g, 2, none⟩ (.int .i64 ne')).setCell ⟨g, 3, none⟩ (.int .i64 la')) g A' n' c' f' ne' la' := h.s0.s1.s2.s3
theorem set4_below {w0 : World} {B : Nat} (h : Below B w0 w) (hg : B ≤ g) (v0 v1 v2 v3 : Value) : Below B w0 ((((w.setCell ⟨g, 0, none⟩ v0).setCell ⟨g, 1, none⟩ v1).setCell ⟨g, 2, none⟩ v2).setCell ⟨g, 3, none⟩ v3) :=
  (((h.setCell (p := ⟨g, 0, none⟩) hg _).setCell (p := ⟨g, 1, none⟩) hg _).setCell (p := ⟨g, 2, none⟩) hg _).setCell (p := ⟨g, 3, none⟩) hg _
end

set_option maxRecDepth 100000 in
set_option maxHeartbeats 2000000 in
theorem rBegin_any (A : Option Addr) (n c : Nat) (R : RefS) (w : World) (hr : R3 w A n R.ones) (hn : n ≤ 1000) (h1 : 1 ≤ R.next) (h2 : R.next ≤ 4611686018427387904) :
    Calls Try.prog 54 #[rvV A n c R.first R.next R.last] w fun e w' => ∃ A' n' c', e = .returned (.tuple #[rvV A' n' c' (begR R).first (begR R).next (begR R).last, .int .i64 (begRN R), .int .i64 (begRE R)]) ∧ RN w w' A A' n' (begR R).ones := by
  obtain ⟨i0, hi0, hz0, hz1, hz2⟩ := info_parts info_one
  have HI : Hid (begRF R = (decide (16 ≤ (allR R.ones 1).length) || R.next == 4611686018427387904)) := Lib.hid rfl
  have HBR : Hid (begR R = if begRF R then R else { R with ones := R.ones ++ [(R.next, 1, R.last)], next := R.next + 1 }) := Lib.hid rfl
  have HBN : Hid (begRN R = if begRF R then 0 else R.next) := Lib.hid rfl
  have HBE : Hid (begRE R = if begRF R then 5 else 0) := Lib.hid rfl
  generalize begR R = R' at *
  generalize begRN R = rn at *
  generalize begRE R = re at *
  generalize begRF R = rf at *
  obtain ⟨l, f, ne, la⟩ := R
  dsimp only at *
  have hb0 := gr_alloc (gr_alloc (gr_refl w) (.cells #[.slice A n c, .int .i64 f, .int .i64 ne, .int .i64 la] 92)) (.cells #[.slice none 0 0, .int .i64 0, .int .i64 0, .int .i64 0] 92)
  have HB := Lib.hid hb0
  have HX := Lib.hid ((BX.new w A n c f ne la).below (gr_alloc (gr_refl _) (.cells #[.slice none 0 0, .int .i64 0, .int .i64 0, .int .i64 0] 92)))
  have HZ : Hid (BX ((w.alloc (.cells #[.slice A n c, .int .i64 f, .int .i64 ne, .int .i64 la] 92)).alloc (.cells #[.slice none 0 0, .int .i64 0, .int .i64 0, .int .i64 0] 92)) (w.heap.size + 1) none 0 0 0 0 0) := Lib.hid (by
    have := BX.new (w.alloc (.cells #[.slice A n c, .int .i64 f, .int .i64 ne, .int .i64 la] 92)) none 0 0 0 0 0
    rw [World.size_alloc] at this
    exact this)
  have HAL := Lib.hid (rAll_any A n c f ne la 1 l _ (hr.below hb0) hn)
  have HR := Lib.hid (fun (W : World) (hW : Below w.heap.size w W) => hr.below hW)
  have HL := Lib.hid hr.2
  have hal := all_len l 1
  rw [hr.2] at hal
  clear hr hb0
  generalize allR l 1 = os at *
  unfold rvV at *
  go_enter Try.func54, Try.ntmps54
  go_wp2_with fail
  generalize (w.alloc (.cells #[.slice A n c, .int .i64 f, .int .i64 ne, .int .i64 la] 92)).alloc (.cells #[.slice none 0 0, .int .i64 0, .int .i64 0, .int .i64 0] 92) = W at *
  refine HAL.out.mono ?_
  clear HAL
  rintro e w1 ⟨Bo, mo, rfl, ho, hb1⟩
  clear ho
  have hw1 := gr_trans HB.out hb1
  have bx1 := HX.out.below hb1
  have zx1 := HZ.out.below hb1
  clear hb1
  have c0 := bx1.c0
  have c1 := bx1.c1
  have c2 := bx1.c2
  have c3 := bx1.c3
  have y0 := zx1.c0
  have y1 := zx1.c1
  have y2 := zx1.c2
  have y3 := zx1.c3
  have f0 := zx1.frozen 0
  have f1 := zx1.frozen 1
  have f2 := zx1.frozen 2
  have f3 := zx1.frozen 3
  generalize os.length = no at *
  have r1 := HR.out w1 hw1
  by_cases hf : 16 ≤ no ∨ ne = 4611686018427387904
  · have hrf : rf = true := by
      rw [HI.out]
      rcases hf with h | h <;> simp [h]
    have HR1 : Hid (R' = ⟨l, f, ne, la⟩ ∧ rn = 0 ∧ re = 5) := Lib.hid (by rw [HBR.out, HBN.out, HBE.out, hrf]; exact ⟨rfl, rfl, rfl⟩)
    have hcs : decide ((16 : Int) ≤ (no : Int)) = true ∨ (decide ((16 : Int) ≤ (no : Int)) = false ∧ (ne == 4611686018427387904) = true) := by
      by_cases h : 16 ≤ no
      · exact .inl (by simp; omega)
      · exact .inr ⟨by simp; omega, by rcases hf with h' | h'; exact absurd h' h; simpa using h'⟩
    clear hf hrf HI HBR HBN HBE
    rcases hcs with t1 | ⟨t1, t2⟩
    all_goals
      go_wp2_with fail
      have bxf := zx1.put A n c f ne la
      have hbf := set4_below hw1 (Nat.le_succ w.heap.size) (.slice A n c) (.int .i64 f) (.int .i64 ne) (.int .i64 la)
      clear c0 c1 c2 c3 y0 y1 y2 y3 f0 f1 f2 f3 bx1 zx1 hw1 r1
      generalize (((w1.setCell ⟨w.heap.size + 1, 0, none⟩ (.slice A n c)).setCell ⟨w.heap.size + 1, 1, none⟩ (.int .i64 f)).setCell ⟨w.heap.size + 1, 2, none⟩ (.int .i64 ne)).setCell ⟨w.heap.size + 1, 3, none⟩ (.int .i64 la) = wf at *
      have z0 := bxf.c0
      have z1 := bxf.c1
      have z2 := bxf.c2
      have z3 := bxf.c3
      refine bodyPost_ret (v := .tuple #[.agg #[.slice A n c, .int .i64 f, .int .i64 ne, .int .i64 la], .int .i64 0, .int .i64 5]) (by simp [results, Try.results54, go_sem, z0, z1, z2, z3]) rfl ⟨A, n, c, ?_, ?_⟩
      · rw [HR1.out.1, HR1.out.2.1, HR1.out.2.2]
      · rw [HR1.out.1]
        exact ⟨HR.out _ hbf, hbf, .inl rfl⟩
  · have hrf : rf = false := by
      rw [HI.out]
      simp
      omega
    have HR1 : Hid (R' = ⟨l ++ [(ne, 1, la)], f, ne + 1, la⟩ ∧ rn = ne ∧ re = 0) := Lib.hid (by rw [HBR.out, HBN.out, HBE.out, hrf]; exact ⟨rfl, rfl, rfl⟩)
    have t1 : decide ((16 : Int) ≤ (no : Int)) = false := by simp; omega
    have t2 : (ne == 4611686018427387904) = false := by rw [beq_eq_false_iff_ne]; omega
    have hne : ne < 4611686018427387904 := by omega
    have HRD : Hid (Rd w1 3 A n (onesC l)) := Lib.hid r1.1
    have HO1 := Lib.hid (ones_one l)
    have hsz1 := hw1.size
    have hzl : w.heap.size + 1 < w1.heap.size := zx1.lt
    -- behind the first append
    have HFA : Hid (∀ (v5 : Value) (w2 : World), w2.ownsRow w1.heap.size 136 3 v5 (0 + n) ([] ++ onesC l) → w1.grownBy w2 (Value.slice none 0 0).ownBlock → ∃ A5 c5, v5 = .slice A5 n c5 ∧ w2.ownsRow w1.heap.size 136 3 (.slice A5 n c5) n (onesC l) ∧ Below w1.heap.size w1 w2 ∧ BX w2 w.heap.size A n c f ne la) := Lib.hid (fun v5 w2 k1 k2 => by
      rw [Nat.zero_add, List.nil_append] at k1
      obtain ⟨A5, c5, rfl, _, _⟩ := own_form k1
      have hb2 : Below w1.heap.size w1 w2 := (gr_refl w1).grown k2 (Nat.le_refl _) (by simp [Value.ownBlock])
      exact ⟨A5, c5, rfl, k1, hb2, bx1.below hb2⟩)
    have HFB : Hid (∀ (A5 : Option Addr) (c5 : Nat) (w2 w3 : World) (v6 : Value), Below w1.heap.size w1 w2 → w2.ownsRow w1.heap.size 136 3 (.slice A5 n c5) n (onesC l) → w3.ownsRow w1.heap.size 136 3 v6 (n + 1) (onesC l ++ [.int .i64 ne, .int .i64 1, .int .i64 la]) → (w2.alloc (.cells #[.int .i64 ne, .int .i64 1, .int .i64 la] 136)).grownBy w3 (Value.slice A5 n c5).ownBlock →
        ∃ A6 c6, v6 = .slice A6 (n + 1) c6 ∧ BX w3 w.heap.size A n c f ne la ∧ BX w3 (w.heap.size + 1) none 0 0 0 0 0 ∧ Below w.heap.size w w3 ∧ R3 w3 A6 (n + 1) (l ++ [(ne, 1, la)]) ∧ ∀ ad, A6 = some ad → w1.heap.size ≤ ad.block ∧ ad.block < w3.heap.size) := Lib.hid (fun A5 c5 w2 w3 v6 k0 k1 k2 k3 => by
      obtain ⟨A6, c6, rfl, _, _⟩ := own_form k2
      have hb3 : Below w1.heap.size w1 w3 := (gr_alloc k0 _).grown k3 (by have := k0.size; rw [World.size_alloc]; omega) (fun k e => (k1.lt k e).1)
      refine ⟨A6, c6, rfl, bx1.below hb3, zx1.below hb3, gr_trans hw1 hb3, ⟨?_, by rw [List.length_append, HL.out]; rfl⟩, fun ad e => ?_⟩
      · rw [ones_snoc]
        exact own_rd k2
      · subst e
        exact k2.lt _ rfl)
    have hmx : n + 1 ≤ maxLen := by simp only [maxLen]; omega
    have HONE : Hid (∀ u ∈ ([.int .i64 ne, .int .i64 1, .int .i64 la] : List Value), u.oneCell' = true) := Lib.hid (by simp [Value.oneCell'])
    clear hf hrf HI HBR HBN HBE y0 y1 y2 y3 f0 f1 f2 f3 bx1 zx1 r1
    go_wp2_with (first
      | (at_builtin; refine wpList_append_Rd _ rfl (.tmp 16) (.tmp 18) _ rfl w1.heap.size 136 i0 _ 3 24 Try.underlying90 hi0 hz0 hz1 hz2 rfl (.slice none 0 0) 0 [] rfl ⟨rfl, .inl ⟨rfl, rfl⟩⟩ A n c _ rfl HRD.out HO1.out (by omega) (by simp only [maxLen]; omega) (Nat.le_refl _) ?_; intro v5 w2 k1 k2 _ _; obtain ⟨A5, c5, rfl, ho5, hb2, bx2⟩ := HFA.out v5 w2 k1 k2; have c0 := bx2.c0; have c1 := bx2.c1; have c2 := bx2.c2; have c3 := bx2.c3; have HO5 := Lib.hid ho5; have hsz2 := hb2.size; clear k1 k2 bx2 ho5)
      | (at_builtin; refine wpList_append_Rd _ rfl (.tmp 20) (.tmp 26) _ rfl w1.heap.size 136 i0 _ 3 24 Try.underlying90 hi0 hz0 hz1 hz2 rfl (.slice A5 n c5) n (onesC l) rfl (HO5.out.alloc _) (some ⟨w2.heap.size, 0, none⟩) 1 1 [.int .i64 ne, .int .i64 1, .int .i64 la] rfl (Rd.new w2 _ #[_, _, _] 1 3 rfl) HONE.out (by omega) hmx (by rw [World.size_alloc]; omega) ?_; intro v6 w3 k1 k2 _ _; obtain ⟨A6, c6, rfl, bx3, zx3, hb3, r3, hbk⟩ := HFB.out A5 c5 w2 w3 v6 hb2 HO5.out k1 k2; have d0 := bx3.c0; have d1 := bx3.c1; have d2 := bx3.c2; have d3 := bx3.c3; have g0 := bx3.frozen 0; have g2 := bx3.frozen 2; clear k1 k2))
    have og : Off (· = w.heap.size) w3 ((w3.setCell ⟨w.heap.size, 0, none⟩ (.slice A6 (n + 1) c6)).setCell ⟨w.heap.size, 2, none⟩ (.int .i64 (ne + 1))) := ((Off.refl (fun x => x = w.heap.size) w3).setCell _ rfl).setCell _ rfl
    have bx4 : BX ((w3.setCell ⟨w.heap.size, 0, none⟩ (.slice A6 (n + 1) c6)).setCell ⟨w.heap.size, 2, none⟩ (.int .i64 (ne + 1))) w.heap.size A6 (n + 1) c6 f (ne + 1) la := bx3.s0.s2
    have zx4 := zx3.off og (by omega)
    have hb4 := hb3.trans (og.below (fun k e => by omega) hb3.size)
    have hs34 := og.size
    have r4 := r3.1.off og (fun ad e _ => by have := (hbk ad e).1; omega)
    clear og bx3 zx3 hb3 r3 d0 d1 d2 d3 g0 g2
    generalize (w3.setCell ⟨w.heap.size, 0, none⟩ (.slice A6 (n + 1) c6)).setCell ⟨w.heap.size, 2, none⟩ (.int .i64 (ne + 1)) = w4 at *
    have c0 := bx4.c0
    have c1 := bx4.c1
    have c2 := bx4.c2
    have c3 := bx4.c3
    have y0 := zx4.c0
    have y1 := zx4.c1
    have y2 := zx4.c2
    have y3 := zx4.c3
    have f0 := zx4.frozen 0
    have f1 := zx4.frozen 1
    have f2 := zx4.frozen 2
    have f3 := zx4.frozen 3
    have hwr : IntKind.i64.wrap (ne + 1 - 1) = ne := by
      rw [show ne + 1 - 1 = ne by omega]
      exact IntWalk.i64_in _ (by omega)
    have bxf := zx4.put A6 (n + 1) c6 f (ne + 1) la
    have HBF := Lib.hid bxf
    have HBW := Lib.hid (set4_below hb4 (Nat.le_succ w.heap.size) (.slice A6 (n + 1) c6) (.int .i64 f) (.int .i64 (ne + 1)) (.int .i64 la))
    have of4 : Off (fun x => x = w.heap.size + 1) w4 ((((w4.setCell ⟨w.heap.size + 1, 0, none⟩ (.slice A6 (n + 1) c6)).setCell ⟨w.heap.size + 1, 1, none⟩ (.int .i64 f)).setCell ⟨w.heap.size + 1, 2, none⟩ (.int .i64 (ne + 1))).setCell ⟨w.heap.size + 1, 3, none⟩ (.int .i64 la)) := ((((Off.refl (fun x => x = w.heap.size + 1) w4).setCell _ rfl).setCell _ rfl).setCell _ rfl).setCell _ rfl
    have HR4 := Lib.hid (r4.off of4 (fun ad e _ => by have := (hbk ad e).1; omega))
    have HBK : Hid (∀ ad, A6 = some ad → w.heap.size ≤ ad.block ∧ ad.block < w4.heap.size) := Lib.hid (fun ad e => ⟨by have := (hbk ad e).1; omega, by have := (hbk ad e).2; omega⟩)
    clear bx4 zx4 hb4 r4 bxf of4 hbk
    have HS4 := Lib.hid (Off.size (S := fun _ => True) ((((Off.refl (fun _ => True) w4).setCell (g := w.heap.size + 1) (j := 0) (.slice A6 (n + 1) c6) trivial).setCell (g := w.heap.size + 1) (j := 1) (.int .i64 f) trivial).setCell (g := w.heap.size + 1) (j := 2) (.int .i64 (ne + 1)) trivial |>.setCell (g := w.heap.size + 1) (j := 3) (.int .i64 la) trivial))
    go_region
    all_goals
      clear c0 c1 c2 c3 y0 y1 y2 y3 f0 f1 f2 f3 hwr
      generalize (((w4.setCell ⟨w.heap.size + 1, 0, none⟩ (.slice A6 (n + 1) c6)).setCell ⟨w.heap.size + 1, 1, none⟩ (.int .i64 f)).setCell ⟨w.heap.size + 1, 2, none⟩ (.int .i64 (ne + 1))).setCell ⟨w.heap.size + 1, 3, none⟩ (.int .i64 la) = wf at *
      have bxd : BX wf.drew (w.heap.size + 1) A6 (n + 1) c6 f (ne + 1) la := HBF.out
      have z0 := bxd.c0
      have z1 := bxd.c1
      have z2 := bxd.c2
      have z3 := bxd.c3
      go_wp2_with fail
      refine bodyPost_ret (v := .tuple #[.agg #[.slice A6 (n + 1) c6, .int .i64 f, .int .i64 (ne + 1), .int .i64 la], .int .i64 ne, .int .i64 0]) (by simp [results, Try.results54, go_sem, z0, z1, z2, z3]) rfl ⟨A6, n + 1, c6, ?_, ?_⟩
      · rw [HR1.out.1, HR1.out.2.1, HR1.out.2.2]
      · rw [HR1.out.1]
        exact ⟨⟨HR4.out, by rw [List.length_append, HL.out]; rfl⟩, gr_drew HBW.out, .inr (fun ad e => ⟨(HBK.out ad e).1, Nat.lt_of_lt_of_le (HBK.out ad e).2 HS4.out⟩)⟩

theorem ones_set (l : List (Int × Int × Int)) (o : Int × Int × Int) : ∀ i, i < l.length → (((onesC l).set (i * 3) (.int .i64 o.1)).set (i * 3 + 1) (.int .i64 o.2.1)).set (i * 3 + 2) (.int .i64 o.2.2) = onesC (l.set i o) := by
  induction l with
  | nil => intro i hi; simp at hi
  | cons a l ih =>
    intro i hi
    have e : onesC (a :: l) = .int .i64 a.1 :: .int .i64 a.2.1 :: .int .i64 a.2.2 :: onesC l := rfl
    cases i with
    | zero => rfl
    | succ i =>
      have h2 := ih i (by simpa using hi)
      rw [e, show (i + 1) * 3 = i * 3 + 1 + 1 + 1 by omega, show i * 3 + 1 + 1 + 1 + 1 = i * 3 + 1 + 1 + 1 + 1 from rfl, show i * 3 + 1 + 1 + 1 + 2 = i * 3 + 2 + 1 + 1 + 1 by omega]
      simp only [List.set_cons_succ]
      rw [h2]
      rfl

set_option maxRecDepth 100000 in
set_option maxHeartbeats 4000000 in
theorem rEnd_any (A : Option Addr) (n c : Nat) (R : RefS) (x t : Int) (w : World) (hr : R3 w A n R.ones) (hn : n ≤ 1000) (h1 : 0 ≤ R.last) (h2 : R.last ≤ 1000000) :
    Calls Try.prog 55 #[rvV A n c R.first R.next R.last, .int .i64 x, .int .i64 t] w fun e w' => ∃ A' n' c', e = .returned (.tuple #[rvV A' n' c' (endR R x t).first (endR R x t).next (endR R x t).last, .int .i64 (endRE R x t)]) ∧ RN w w' A A' n' (endR R x t).ones := by
  obtain ⟨i0, hi0, hz0, hz1, hz2⟩ := info_parts info_one
  have HI : Hid (endRE R x t = if isR R.ones x 1 = false then 9 else if t = 3 ∧ 64 ≤ (allR R.ones 3).length then 5 else 0) := Lib.hid rfl
  have HER : Hid (endR R x t = if endRE R x t ≠ 0 then R else { R with ones := R.ones.set (fndI R.ones x).toNat (x, t, if t = 2 then R.last + 1 else R.last), last := if t = 2 then R.last + 1 else R.last }) := Lib.hid rfl
  have HIS : Hid (isR R.ones x 1 = match fnd R.ones x with | some q => q.1 == 1 | none => false) := Lib.hid rfl
  generalize endR R x t = R' at *
  generalize endRE R x t = re at *
  obtain ⟨l, f, ne, la⟩ := R
  dsimp only at *
  have hb0 := gr_alloc (gr_alloc (gr_refl w) (.cells #[.slice A n c, .int .i64 f, .int .i64 ne, .int .i64 la] 92)) (.cells #[.slice none 0 0, .int .i64 0, .int .i64 0, .int .i64 0] 92)
  have HB := Lib.hid hb0
  have HX := Lib.hid ((BX.new w A n c f ne la).below (gr_alloc (gr_refl _) (.cells #[.slice none 0 0, .int .i64 0, .int .i64 0, .int .i64 0] 92)))
  have HZ : Hid (BX ((w.alloc (.cells #[.slice A n c, .int .i64 f, .int .i64 ne, .int .i64 la] 92)).alloc (.cells #[.slice none 0 0, .int .i64 0, .int .i64 0, .int .i64 0] 92)) (w.heap.size + 1) none 0 0 0 0 0) := Lib.hid (by
    have := BX.new (w.alloc (.cells #[.slice A n c, .int .i64 f, .int .i64 ne, .int .i64 la] 92)) none 0 0 0 0 0
    rw [World.size_alloc] at this
    exact this)
  have HOP := Lib.hid (rIsOpen_any A n c f ne la x l _ (hr.below hb0) (by omega))
  have HAL := Lib.hid (fun (W : World) (hW : R3 W A n l) => rAll_any A n c f ne la 3 l W hW hn)
  have HFF := Lib.hid (fun (W : World) (hW : R3 W A n l) => rfind_any A n c f ne la x l W hW (by omega))
  have HR := Lib.hid (fun (W : World) (hW : Below w.heap.size w W) => hr.below hW)
  have HL := Lib.hid hr.2
  have hal := all_len l 3
  rw [hr.2] at hal
  clear hr hb0
  generalize allR l 3 = os at *
  generalize isR l x 1 = io at *
  unfold rvV at *
  go_enter Try.func55, Try.ntmps55
  go_wp2_with fail
  generalize (w.alloc (.cells #[.slice A n c, .int .i64 f, .int .i64 ne, .int .i64 la] 92)).alloc (.cells #[.slice none 0 0, .int .i64 0, .int .i64 0, .int .i64 0] 92) = W at *
  refine HOP.out.mono ?_
  clear HOP
  rintro e w1 ⟨rfl, hb1⟩
  have hw1 := gr_trans HB.out hb1
  have bx1 := HX.out.below hb1
  have zx1 := HZ.out.below hb1
  clear hb1
  have c0 := bx1.c0
  have c1 := bx1.c1
  have c2 := bx1.c2
  have c3 := bx1.c3
  have y0 := zx1.c0
  have y1 := zx1.c1
  have y2 := zx1.c2
  have y3 := zx1.c3
  have f0 := zx1.frozen 0
  have f1 := zx1.frozen 1
  have f2 := zx1.frozen 2
  have f3 := zx1.frozen 3
  cases io
  · have HR1 : Hid (R' = ⟨l, f, ne, la⟩ ∧ re = 9) := Lib.hid (by
      have h9 : re = 9 := by rw [HI.out, if_pos rfl]
      exact ⟨by rw [HER.out, if_pos (by rw [h9]; decide)], h9⟩)
    go_wp2_with fail
    clear c0 c1 c2 c3 y0 y1 y2 y3 f0 f1 f2 f3
    have bxf := zx1.put A n c f ne la
    have hbf := set4_below hw1 (Nat.le_succ w.heap.size) (.slice A n c) (.int .i64 f) (.int .i64 ne) (.int .i64 la)
    generalize (((w1.setCell ⟨w.heap.size + 1, 0, none⟩ (.slice A n c)).setCell ⟨w.heap.size + 1, 1, none⟩ (.int .i64 f)).setCell ⟨w.heap.size + 1, 2, none⟩ (.int .i64 ne)).setCell ⟨w.heap.size + 1, 3, none⟩ (.int .i64 la) = wf at *
    have z0 := bxf.c0
    have z1 := bxf.c1
    have z2 := bxf.c2
    have z3 := bxf.c3
    refine bodyPost_ret (v := .tuple #[.agg #[.slice A n c, .int .i64 f, .int .i64 ne, .int .i64 la], .int .i64 9]) (by simp [results, Try.results55, go_sem, z0, z1, z2, z3]) rfl ⟨A, n, c, ?_, ?_⟩
    · rw [HR1.out.1, HR1.out.2]
    · rw [HR1.out.1]
      exact ⟨HR.out _ hbf, hbf, .inl rfl⟩
  · have HI2 : Hid (re = if t = 3 ∧ 64 ≤ os.length then 5 else 0) := Lib.hid (by rw [HI.out, if_neg (by simp)])
    clear HI
    by_cases hfull : t = 3 ∧ 64 ≤ os.length
    · have HR1 : Hid (R' = ⟨l, f, ne, la⟩ ∧ re = 5) := Lib.hid (by
        have h9 : re = 5 := by rw [HI2.out, if_pos hfull]
        exact ⟨by rw [HER.out, if_pos (by rw [h9]; decide)], h9⟩)
      obtain ⟨ht3, hos⟩ := hfull
      have t1 : (t == 3) = true := by simpa using ht3
      clear ht3
      generalize os.length = no at *
      have t2 : decide ((64 : Int) ≤ (no : Int)) = true := by simp; omega
      go_wp2_with fail
      refine (HAL.out _ (HR.out _ hw1)).mono ?_
      rintro e w2 ⟨Bo, mo, rfl, _, hb2⟩
      have hw2 := gr_trans hw1 hb2
      have bx2 := bx1.below hb2
      have zx2 := zx1.below hb2
      clear hb2 bx1 zx1 c0 c1 c2 c3 y0 y1 y2 y3 f0 f1 f2 f3
      have c0 := bx2.c0
      have c1 := bx2.c1
      have c2 := bx2.c2
      have c3 := bx2.c3
      have y0 := zx2.c0
      have y1 := zx2.c1
      have y2 := zx2.c2
      have y3 := zx2.c3
      have f0 := zx2.frozen 0
      have f1 := zx2.frozen 1
      have f2 := zx2.frozen 2
      have f3 := zx2.frozen 3
      go_wp2_with fail
      clear c0 c1 c2 c3 y0 y1 y2 y3 f0 f1 f2 f3
      have bxf := zx2.put A n c f ne la
      have hbf := set4_below hw2 (Nat.le_succ w.heap.size) (.slice A n c) (.int .i64 f) (.int .i64 ne) (.int .i64 la)
      generalize (((w2.setCell ⟨w.heap.size + 1, 0, none⟩ (.slice A n c)).setCell ⟨w.heap.size + 1, 1, none⟩ (.int .i64 f)).setCell ⟨w.heap.size + 1, 2, none⟩ (.int .i64 ne)).setCell ⟨w.heap.size + 1, 3, none⟩ (.int .i64 la) = wf at *
      have z0 := bxf.c0
      have z1 := bxf.c1
      have z2 := bxf.c2
      have z3 := bxf.c3
      refine bodyPost_ret (v := .tuple #[.agg #[.slice A n c, .int .i64 f, .int .i64 ne, .int .i64 la], .int .i64 5]) (by simp [results, Try.results55, go_sem, z0, z1, z2, z3]) rfl ⟨A, n, c, ?_, ?_⟩
      · rw [HR1.out.1, HR1.out.2]
      · rw [HR1.out.1]
        exact ⟨HR.out _ hbf, hbf, .inl rfl⟩
    · have hre : re = 0 := by rw [HI2.out, if_neg hfull]
      have HR1 : Hid (R' = ⟨l.set (fndI l x).toNat (x, t, if t = 2 then la + 1 else la), f, ne, if t = 2 then la + 1 else la⟩ ∧ re = 0) := Lib.hid ⟨by rw [HER.out, if_neg (by simp [hre])], hre⟩
      have hcase : ((t == 3) = true ∧ (t == 2) = false ∧ t ≠ 2 ∧ os.length < 64) ∨ ((t == 3) = false ∧ (t == 2) = true ∧ t = 2) ∨ ((t == 3) = false ∧ (t == 2) = false ∧ t ≠ 2) := by
        by_cases e3 : t = 3
        · exact .inl ⟨by simpa using e3, by simp [e3], by omega, by omega⟩
        · by_cases e2 : t = 2
          · exact .inr (.inl ⟨by simpa using e3, by simpa using e2, e2⟩)
          · exact .inr (.inr ⟨by simpa using e3, by simpa using e2, e2⟩)
      clear hfull hre HI2 HER
      rcases hcase with ⟨t1, t2, ht2, hos⟩ | ⟨t1, t2, ht2⟩ | ⟨t1, t2, ht2⟩
      · generalize hosl : os.length = no at *
        have t3 : decide ((64 : Int) ≤ (no : Int)) = false := by simp; omega
        clear hosl
        go_wp2_with fail
        refine (HAL.out _ (HR.out _ hw1)).mono ?_
        rintro e w1b ⟨Bo, mo, rfl, _, hb2⟩
        have hwa := gr_trans hw1 hb2
        have bxa := bx1.below hb2
        have zxa := zx1.below hb2
        clear hb2 hw1 bx1 zx1 c0 c1 c2 c3 y0 y1 y2 y3 f0 f1 f2 f3
        have c0 := bxa.c0
        have c1 := bxa.c1
        have c2 := bxa.c2
        have c3 := bxa.c3
        have y0 := zxa.c0
        have y1 := zxa.c1
        have y2 := zxa.c2
        have y3 := zxa.c3
        have f0 := zxa.frozen 0
        have f1 := zxa.frozen 1
        have f2 := zxa.frozen 2
        have f3 := zxa.frozen 3
        have r1 := HR.out w1b hwa
        have hfd := r1.found x
        have HRD : Hid (Rd w1b 3 A n (onesC l)) := Lib.hid r1.1
        have HO1 := Lib.hid (ones_one l)
        have hzl : w.heap.size + 1 < w1b.heap.size := zxa.lt
        have HFA : Hid (∀ (v5 : Value) (w2 : World), w2.ownsRow w1b.heap.size 136 3 v5 (0 + n) ([] ++ onesC l) → w1b.grownBy w2 (Value.slice none 0 0).ownBlock → ∃ A5 c5, v5 = .slice A5 n c5 ∧ w2.ownsRow w1b.heap.size 136 3 (.slice A5 n c5) n (onesC l) ∧ Below w1b.heap.size w1b w2 ∧ BX w2 w.heap.size A n c f ne la) := Lib.hid (fun v5 w2 k1 k2 => by
          rw [Nat.zero_add, List.nil_append] at k1
          obtain ⟨A5, c5, rfl, _, _⟩ := own_form k1
          have hb2 : Below w1b.heap.size w1b w2 := (gr_refl w1b).grown k2 (Nat.le_refl _) (by simp [Value.ownBlock])
          exact ⟨A5, c5, rfl, k1, hb2, bxa.below hb2⟩)
        clear c0 c1 c2 c3 y0 y1 y2 y3 f0 f1 f2 f3 r1
        have c0 := bxa.c0
        have c1 := bxa.c1
        have c2 := bxa.c2
        have c3 := bxa.c3
        go_wp2_with (at_builtin; refine wpList_append_Rd _ rfl (.tmp 24) (.tmp 26) _ rfl w1b.heap.size 136 i0 _ 3 24 Try.underlying90 hi0 hz0 hz1 hz2 rfl (.slice none 0 0) 0 [] rfl ⟨rfl, .inl ⟨rfl, rfl⟩⟩ A n c _ rfl HRD.out HO1.out (by omega) (by simp only [maxLen]; omega) (Nat.le_refl _) ?_; intro v5 w2 k1 k2 _ _; obtain ⟨A5, c5, rfl, ho5, hb2, bx2⟩ := HFA.out v5 w2 k1 k2; have d0 := bx2.c0; have d1 := bx2.c1; have d2 := bx2.c2; have d3 := bx2.c3; clear k1 k2)
        clear d0 d1 d2 d3 c0 c1 c2 c3
        have zx2 := zxa.below hb2
        have hw2 := gr_trans hwa hb2
        rcases hfd with ⟨q1, q2⟩ | ⟨i, g, o, q, hi, q1, q2, e1, _, _⟩
        · have := HIS.out
          rw [q2] at this
          cases this
        have X := HFF.out w2 (HR.out w2 hw2)
        rw [q1] at X
        have HF2 := Lib.hid X
        have HR2 : Hid (R' = ⟨l.set i (x, t, la), f, ne, la⟩ ∧ re = 0) := Lib.hid (by
          have := HR1.out
          rw [q1, Int.toNat_natCast, if_neg ht2] at this
          exact this)
        clear X q1 q2 HR1 HIS hb2
        refine HF2.out.mono ?_
        rintro e w3 ⟨rfl, hb3⟩
        have hw3 := gr_trans hw2 hb3
        have bx3 := bx2.below hb3
        have zx3 := zx2.below hb3
        have ho3 : w3.ownsRow w1b.heap.size 136 3 (.slice A5 n c5) n (onesC l) := ownsRow_off ho5 (Off.of_below (S := fun _ => False) hb3) (fun _ _ h => h)
        clear hb3 bx2 zx2 hw2 ho5 HF2
        go_upto_region 10 with fail
        rcases ho3.2 with ⟨_, e0⟩ | ⟨g5, cap5, cur5, e5, hg5, _, _, _, _, _⟩
        · omega
        cases e5
        have hil : i < l.length := by rw [HL.out]; exact hi
        obtain ⟨m0, m1, m2⟩ := ones_get l i hil
        have p0 : w3.cell? ⟨g5, i * 3, none⟩ = some (.int .i64 (l.getD i (0, 0, 0)).1) := by have := ho3.cells (g := g5) rfl (i * 3) _ m0; rwa [add_plain] at this
        have p1 : w3.cell? ⟨g5, i * 3 + 1, none⟩ = some (.int .i64 (l.getD i (0, 0, 0)).2.1) := by have := ho3.cells (g := g5) rfl (i * 3 + 1) _ m1; rwa [add_plain] at this
        have p2 : w3.cell? ⟨g5, i * 3 + 2, none⟩ = some (.int .i64 (l.getD i (0, 0, 0)).2.2) := by have := ho3.cells (g := g5) rfl (i * 3 + 2) _ m2; rwa [add_plain] at this
        have fz : ∀ j, w3.frozen? ⟨g5, j, none⟩ = false := fun j => by
          rcases ho3.2 with ⟨e0, _⟩ | ⟨g', cap', cur', e', _, h3, _⟩
          · cases e0
          · cases e'
            simp [World.frozen?, h3]
        have fz0 := fz (i * 3)
        have fz1 := fz (i * 3 + 1)
        have fz2 := fz (i * 3 + 2)
        have i0' : (0 : Int) ≤ (i : Int) := Int.natCast_nonneg _
        have i1' : (i : Int) < (n : Int) := by omega
        have c3 := bx3.c3
        obtain ⟨s1, s2⟩ := World.ownsRow.stored ho3 (i * 3) (.int .i64 x)
        obtain ⟨s3, s4⟩ := World.ownsRow.stored s1 (i * 3 + 1) (.int .i64 t)
        obtain ⟨s5, s6⟩ := World.ownsRow.stored s3 (i * 3 + 2) (.int .i64 (la))
        rw [ones_set l (x, t, la) i hil] at s5
        have og5 : Off (fun k => k = g5) w3 (((w3.setCell ⟨g5, i * 3, none⟩ (.int .i64 x)).setCell ⟨g5, i * 3 + 1, none⟩ (.int .i64 t)).setCell ⟨g5, i * 3 + 2, none⟩ (.int .i64 (la))) := (((Off.refl (fun k => k = g5) w3).setCell _ rfl).setCell _ rfl).setCell _ rfl
        have bx5 := bx3.off og5 (by omega)
        have zx5 := zx3.off og5 (by omega)
        have hw5 := hw3.trans (og5.below (fun k e => by omega) hw3.size)
        have HS5 := Lib.hid s5
        clear fz m0 m1 m2 s1 s2 s3 s4 s5 s6 og5 bx3 zx3 hw3 ho3
        generalize (l.getD i (0, 0, 0)).1 = l0 at *
        generalize (l.getD i (0, 0, 0)).2.1 = l1 at *
        generalize (l.getD i (0, 0, 0)).2.2 = l2 at *
        go_upto_region 11 with fail
        clear p0 p1 p2 fz0 fz1 fz2 c3
        generalize ((w3.setCell ⟨g5, i * 3, none⟩ (.int .i64 x)).setCell ⟨g5, i * 3 + 1, none⟩ (.int .i64 t)).setCell ⟨g5, i * 3 + 2, none⟩ (.int .i64 (la)) = w5 at *
        have c0 := bx5.c0
        have g0 := bx5.frozen 0
        go_upto_region 12 with fail
        have og6 : Off (fun k => k = w.heap.size) w5 (w5.setCell ⟨w.heap.size, 0, none⟩ (.slice (some ⟨g5, 0, none⟩) n c5)) := (Off.refl (fun k => k = w.heap.size) w5).setCell _ rfl
        have bx6 : BX (w5.setCell ⟨w.heap.size, 0, none⟩ (.slice (some ⟨g5, 0, none⟩) n c5)) w.heap.size (some ⟨g5, 0, none⟩) n c5 f ne (la) := bx5.s0
        have zx6 := zx5.off og6 (by omega)
        have hw6 := hw5.trans (og6.below (fun k e => by omega) hw5.size)
        have HS6 := Lib.hid (ownsRow_off HS5.out og6 (fun k e e' => by have := (HS5.out.lt k e).1; omega))
        clear c0 g0 og6 bx5 zx5 hw5 HS5
        generalize w5.setCell ⟨w.heap.size, 0, none⟩ (.slice (some ⟨g5, 0, none⟩) n c5) = w6 at *
        have c0 := bx6.c0
        have c1 := bx6.c1
        have c2 := bx6.c2
        have c3 := bx6.c3
        have y0 := zx6.c0
        have y1 := zx6.c1
        have y2 := zx6.c2
        have y3 := zx6.c3
        have f0 := zx6.frozen 0
        have f1 := zx6.frozen 1
        have f2 := zx6.frozen 2
        have f3 := zx6.frozen 3
        go_wp2_with fail
        clear c0 c1 c2 c3 y0 y1 y2 y3 f0 f1 f2 f3
        have of7 : Off (fun k => k = w.heap.size + 1) w6 ((((w6.setCell ⟨w.heap.size + 1, 0, none⟩ (.slice (some ⟨g5, 0, none⟩) n c5)).setCell ⟨w.heap.size + 1, 1, none⟩ (.int .i64 f)).setCell ⟨w.heap.size + 1, 2, none⟩ (.int .i64 ne)).setCell ⟨w.heap.size + 1, 3, none⟩ (.int .i64 (la))) := ((((Off.refl (fun k => k = w.heap.size + 1) w6).setCell _ rfl).setCell _ rfl).setCell _ rfl).setCell _ rfl
        have HS7 := Lib.hid (ownsRow_off HS6.out of7 (fun k e e' => by have := (HS6.out.lt k e).1; omega))
        have bxf := zx6.put (some ⟨g5, 0, none⟩) n c5 f ne (la)
        have hbf := set4_below hw6 (Nat.le_succ w.heap.size) (.slice (some ⟨g5, 0, none⟩) n c5) (.int .i64 f) (.int .i64 ne) (.int .i64 (la))
        clear bx6 zx6 hw6 of7 HS6
        generalize (((w6.setCell ⟨w.heap.size + 1, 0, none⟩ (.slice (some ⟨g5, 0, none⟩) n c5)).setCell ⟨w.heap.size + 1, 1, none⟩ (.int .i64 f)).setCell ⟨w.heap.size + 1, 2, none⟩ (.int .i64 ne)).setCell ⟨w.heap.size + 1, 3, none⟩ (.int .i64 (la)) = wf at *
        have z0 := bxf.c0
        have z1 := bxf.c1
        have z2 := bxf.c2
        have z3 := bxf.c3
        refine bodyPost_ret (v := .tuple #[.agg #[.slice (some ⟨g5, 0, none⟩) n c5, .int .i64 f, .int .i64 ne, .int .i64 (la)], .int .i64 0]) (by simp [results, Try.results55, go_sem, z0, z1, z2, z3]) rfl ⟨(some ⟨g5, 0, none⟩), n, c5, ?_, ?_⟩
        · rw [HR2.out.1, HR2.out.2]
        · rw [HR2.out.1]
          exact ⟨⟨own_rd HS7.out, by rw [List.length_set, HL.out]⟩, hbf, .inr (fun ad e => by cases e; exact ⟨by show w.heap.size ≤ g5; omega, (HS7.out.lt _ rfl).2⟩)⟩
      · have hwa := hw1
        have bxa := bx1
        have zxa := zx1
        clear hw1 bx1 zx1 c0 c1 c2 c3 y0 y1 y2 y3 f0 f1 f2 f3
        have HT2 := Lib.hid ht2
        clear ht2
        have c0 := bxa.c0
        have c1 := bxa.c1
        have c2 := bxa.c2
        have c3 := bxa.c3
        have y0 := zxa.c0
        have y1 := zxa.c1
        have y2 := zxa.c2
        have y3 := zxa.c3
        have f0 := zxa.frozen 0
        have f1 := zxa.frozen 1
        have f2 := zxa.frozen 2
        have f3 := zxa.frozen 3
        have r1 := HR.out w1 hwa
        have hfd := r1.found x
        have HRD : Hid (Rd w1 3 A n (onesC l)) := Lib.hid r1.1
        have HO1 := Lib.hid (ones_one l)
        have hzl : w.heap.size + 1 < w1.heap.size := zxa.lt
        have HFA : Hid (∀ (v5 : Value) (w2 : World), w2.ownsRow w1.heap.size 136 3 v5 (0 + n) ([] ++ onesC l) → w1.grownBy w2 (Value.slice none 0 0).ownBlock → ∃ A5 c5, v5 = .slice A5 n c5 ∧ w2.ownsRow w1.heap.size 136 3 (.slice A5 n c5) n (onesC l) ∧ Below w1.heap.size w1 w2 ∧ BX w2 w.heap.size A n c f ne la) := Lib.hid (fun v5 w2 k1 k2 => by
          rw [Nat.zero_add, List.nil_append] at k1
          obtain ⟨A5, c5, rfl, _, _⟩ := own_form k1
          have hb2 : Below w1.heap.size w1 w2 := (gr_refl w1).grown k2 (Nat.le_refl _) (by simp [Value.ownBlock])
          exact ⟨A5, c5, rfl, k1, hb2, bxa.below hb2⟩)
        clear c0 c1 c2 c3 y0 y1 y2 y3 f0 f1 f2 f3 r1
        have c0 := bxa.c0
        have c1 := bxa.c1
        have c2 := bxa.c2
        have c3 := bxa.c3
        go_wp2_with (at_builtin; refine wpList_append_Rd _ rfl (.tmp 24) (.tmp 26) _ rfl w1.heap.size 136 i0 _ 3 24 Try.underlying90 hi0 hz0 hz1 hz2 rfl (.slice none 0 0) 0 [] rfl ⟨rfl, .inl ⟨rfl, rfl⟩⟩ A n c _ rfl HRD.out HO1.out (by omega) (by simp only [maxLen]; omega) (Nat.le_refl _) ?_; intro v5 w2 k1 k2 _ _; obtain ⟨A5, c5, rfl, ho5, hb2, bx2⟩ := HFA.out v5 w2 k1 k2; have d0 := bx2.c0; have d1 := bx2.c1; have d2 := bx2.c2; have d3 := bx2.c3; clear k1 k2)
        clear d0 d1 d2 d3 c0 c1 c2 c3
        have zx2 := zxa.below hb2
        have hw2 := gr_trans hwa hb2
        rcases hfd with ⟨q1, q2⟩ | ⟨i, g, o, q, hi, q1, q2, e1, _, _⟩
        · have := HIS.out
          rw [q2] at this
          cases this
        have X := HFF.out w2 (HR.out w2 hw2)
        rw [q1] at X
        have HF2 := Lib.hid X
        have HR2 : Hid (R' = ⟨l.set i (x, t, la + 1), f, ne, la + 1⟩ ∧ re = 0) := Lib.hid (by
          have := HR1.out
          rw [q1, Int.toNat_natCast, if_pos HT2.out] at this
          exact this)
        clear X q1 q2 HR1 HIS hb2
        refine HF2.out.mono ?_
        rintro e w3 ⟨rfl, hb3⟩
        have hw3 := gr_trans hw2 hb3
        have bx3 := bx2.below hb3
        have zx3 := zx2.below hb3
        have ho3 : w3.ownsRow w1.heap.size 136 3 (.slice A5 n c5) n (onesC l) := ownsRow_off ho5 (Off.of_below (S := fun _ => False) hb3) (fun _ _ h => h)
        clear hb3 bx2 zx2 hw2 ho5 HF2
        have c3 := bx3.c3
        have g3 := bx3.frozen 3
        go_upto_region 10 with fail
        have og4 : Off (fun k => k = w.heap.size) w3 (w3.setCell ⟨w.heap.size, 3, none⟩ (.int .i64 (la + 1))) := (Off.refl (fun k => k = w.heap.size) w3).setCell _ rfl
        have bx4 : BX (w3.setCell ⟨w.heap.size, 3, none⟩ (.int .i64 (la + 1))) w.heap.size A n c f ne (la + 1) := bx3.s3
        have zx4 := zx3.off og4 (by omega)
        have hw4 := hw3.trans (og4.below (fun k e => by omega) hw3.size)
        have ho4 := ownsRow_off ho3 og4 (fun k e e' => by have := (ho3.lt k e).1; omega)
        clear c3 g3 og4 bx3 zx3 hw3 ho3
        generalize w3.setCell ⟨w.heap.size, 3, none⟩ (.int .i64 (la + 1)) = w4 at *
        rcases ho4.2 with ⟨_, e0⟩ | ⟨g5, cap5, cur5, e5, hg5, _, _, _, _, _⟩
        · omega
        cases e5
        have hil : i < l.length := by rw [HL.out]; exact hi
        obtain ⟨m0, m1, m2⟩ := ones_get l i hil
        have p0 : w4.cell? ⟨g5, i * 3, none⟩ = some (.int .i64 (l.getD i (0, 0, 0)).1) := by have := ho4.cells (g := g5) rfl (i * 3) _ m0; rwa [add_plain] at this
        have p1 : w4.cell? ⟨g5, i * 3 + 1, none⟩ = some (.int .i64 (l.getD i (0, 0, 0)).2.1) := by have := ho4.cells (g := g5) rfl (i * 3 + 1) _ m1; rwa [add_plain] at this
        have p2 : w4.cell? ⟨g5, i * 3 + 2, none⟩ = some (.int .i64 (l.getD i (0, 0, 0)).2.2) := by have := ho4.cells (g := g5) rfl (i * 3 + 2) _ m2; rwa [add_plain] at this
        have fz : ∀ j, w4.frozen? ⟨g5, j, none⟩ = false := fun j => by
          rcases ho4.2 with ⟨e0, _⟩ | ⟨g', cap', cur', e', _, h3, _⟩
          · cases e0
          · cases e'
            simp [World.frozen?, h3]
        have fz0 := fz (i * 3)
        have fz1 := fz (i * 3 + 1)
        have fz2 := fz (i * 3 + 2)
        have i0' : (0 : Int) ≤ (i : Int) := Int.natCast_nonneg _
        have i1' : (i : Int) < (n : Int) := by omega
        have c3 := bx4.c3
        obtain ⟨s1, s2⟩ := World.ownsRow.stored ho4 (i * 3) (.int .i64 x)
        obtain ⟨s3, s4⟩ := World.ownsRow.stored s1 (i * 3 + 1) (.int .i64 t)
        obtain ⟨s5, s6⟩ := World.ownsRow.stored s3 (i * 3 + 2) (.int .i64 (la + 1))
        rw [ones_set l (x, t, la + 1) i hil] at s5
        have og5 : Off (fun k => k = g5) w4 (((w4.setCell ⟨g5, i * 3, none⟩ (.int .i64 x)).setCell ⟨g5, i * 3 + 1, none⟩ (.int .i64 t)).setCell ⟨g5, i * 3 + 2, none⟩ (.int .i64 (la + 1))) := (((Off.refl (fun k => k = g5) w4).setCell _ rfl).setCell _ rfl).setCell _ rfl
        have bx5 := bx4.off og5 (by omega)
        have zx5 := zx4.off og5 (by omega)
        have hw5 := hw4.trans (og5.below (fun k e => by omega) hw4.size)
        have HS5 := Lib.hid s5
        clear fz m0 m1 m2 s1 s2 s3 s4 s5 s6 og5 bx4 zx4 hw4 ho4
        generalize (l.getD i (0, 0, 0)).1 = l0 at *
        generalize (l.getD i (0, 0, 0)).2.1 = l1 at *
        generalize (l.getD i (0, 0, 0)).2.2 = l2 at *
        go_upto_region 11 with fail
        clear p0 p1 p2 fz0 fz1 fz2 c3
        generalize ((w4.setCell ⟨g5, i * 3, none⟩ (.int .i64 x)).setCell ⟨g5, i * 3 + 1, none⟩ (.int .i64 t)).setCell ⟨g5, i * 3 + 2, none⟩ (.int .i64 (la + 1)) = w5 at *
        have c0 := bx5.c0
        have g0 := bx5.frozen 0
        go_upto_region 12 with fail
        have og6 : Off (fun k => k = w.heap.size) w5 (w5.setCell ⟨w.heap.size, 0, none⟩ (.slice (some ⟨g5, 0, none⟩) n c5)) := (Off.refl (fun k => k = w.heap.size) w5).setCell _ rfl
        have bx6 : BX (w5.setCell ⟨w.heap.size, 0, none⟩ (.slice (some ⟨g5, 0, none⟩) n c5)) w.heap.size (some ⟨g5, 0, none⟩) n c5 f ne (la + 1) := bx5.s0
        have zx6 := zx5.off og6 (by omega)
        have hw6 := hw5.trans (og6.below (fun k e => by omega) hw5.size)
        have HS6 := Lib.hid (ownsRow_off HS5.out og6 (fun k e e' => by have := (HS5.out.lt k e).1; omega))
        clear c0 g0 og6 bx5 zx5 hw5 HS5
        generalize w5.setCell ⟨w.heap.size, 0, none⟩ (.slice (some ⟨g5, 0, none⟩) n c5) = w6 at *
        have c0 := bx6.c0
        have c1 := bx6.c1
        have c2 := bx6.c2
        have c3 := bx6.c3
        have y0 := zx6.c0
        have y1 := zx6.c1
        have y2 := zx6.c2
        have y3 := zx6.c3
        have f0 := zx6.frozen 0
        have f1 := zx6.frozen 1
        have f2 := zx6.frozen 2
        have f3 := zx6.frozen 3
        go_wp2_with fail
        clear c0 c1 c2 c3 y0 y1 y2 y3 f0 f1 f2 f3
        have of7 : Off (fun k => k = w.heap.size + 1) w6 ((((w6.setCell ⟨w.heap.size + 1, 0, none⟩ (.slice (some ⟨g5, 0, none⟩) n c5)).setCell ⟨w.heap.size + 1, 1, none⟩ (.int .i64 f)).setCell ⟨w.heap.size + 1, 2, none⟩ (.int .i64 ne)).setCell ⟨w.heap.size + 1, 3, none⟩ (.int .i64 (la + 1))) := ((((Off.refl (fun k => k = w.heap.size + 1) w6).setCell _ rfl).setCell _ rfl).setCell _ rfl).setCell _ rfl
        have HS7 := Lib.hid (ownsRow_off HS6.out of7 (fun k e e' => by have := (HS6.out.lt k e).1; omega))
        have bxf := zx6.put (some ⟨g5, 0, none⟩) n c5 f ne (la + 1)
        have hbf := set4_below hw6 (Nat.le_succ w.heap.size) (.slice (some ⟨g5, 0, none⟩) n c5) (.int .i64 f) (.int .i64 ne) (.int .i64 (la + 1))
        clear bx6 zx6 hw6 of7 HS6
        generalize (((w6.setCell ⟨w.heap.size + 1, 0, none⟩ (.slice (some ⟨g5, 0, none⟩) n c5)).setCell ⟨w.heap.size + 1, 1, none⟩ (.int .i64 f)).setCell ⟨w.heap.size + 1, 2, none⟩ (.int .i64 ne)).setCell ⟨w.heap.size + 1, 3, none⟩ (.int .i64 (la + 1)) = wf at *
        have z0 := bxf.c0
        have z1 := bxf.c1
        have z2 := bxf.c2
        have z3 := bxf.c3
        refine bodyPost_ret (v := .tuple #[.agg #[.slice (some ⟨g5, 0, none⟩) n c5, .int .i64 f, .int .i64 ne, .int .i64 (la + 1)], .int .i64 0]) (by simp [results, Try.results55, go_sem, z0, z1, z2, z3]) rfl ⟨(some ⟨g5, 0, none⟩), n, c5, ?_, ?_⟩
        · rw [HR2.out.1, HR2.out.2]
        · rw [HR2.out.1]
          exact ⟨⟨own_rd HS7.out, by rw [List.length_set, HL.out]⟩, hbf, .inr (fun ad e => by cases e; exact ⟨by show w.heap.size ≤ g5; omega, (HS7.out.lt _ rfl).2⟩)⟩
      · have hwa := hw1
        have bxa := bx1
        have zxa := zx1
        clear hw1 bx1 zx1 c0 c1 c2 c3 y0 y1 y2 y3 f0 f1 f2 f3
        have c0 := bxa.c0
        have c1 := bxa.c1
        have c2 := bxa.c2
        have c3 := bxa.c3
        have y0 := zxa.c0
        have y1 := zxa.c1
        have y2 := zxa.c2
        have y3 := zxa.c3
        have f0 := zxa.frozen 0
        have f1 := zxa.frozen 1
        have f2 := zxa.frozen 2
        have f3 := zxa.frozen 3
        have r1 := HR.out w1 hwa
        have hfd := r1.found x
        have HRD : Hid (Rd w1 3 A n (onesC l)) := Lib.hid r1.1
        have HO1 := Lib.hid (ones_one l)
        have hzl : w.heap.size + 1 < w1.heap.size := zxa.lt
        have HFA : Hid (∀ (v5 : Value) (w2 : World), w2.ownsRow w1.heap.size 136 3 v5 (0 + n) ([] ++ onesC l) → w1.grownBy w2 (Value.slice none 0 0).ownBlock → ∃ A5 c5, v5 = .slice A5 n c5 ∧ w2.ownsRow w1.heap.size 136 3 (.slice A5 n c5) n (onesC l) ∧ Below w1.heap.size w1 w2 ∧ BX w2 w.heap.size A n c f ne la) := Lib.hid (fun v5 w2 k1 k2 => by
          rw [Nat.zero_add, List.nil_append] at k1
          obtain ⟨A5, c5, rfl, _, _⟩ := own_form k1
          have hb2 : Below w1.heap.size w1 w2 := (gr_refl w1).grown k2 (Nat.le_refl _) (by simp [Value.ownBlock])
          exact ⟨A5, c5, rfl, k1, hb2, bxa.below hb2⟩)
        clear c0 c1 c2 c3 y0 y1 y2 y3 f0 f1 f2 f3 r1
        have c0 := bxa.c0
        have c1 := bxa.c1
        have c2 := bxa.c2
        have c3 := bxa.c3
        go_wp2_with (at_builtin; refine wpList_append_Rd _ rfl (.tmp 24) (.tmp 26) _ rfl w1.heap.size 136 i0 _ 3 24 Try.underlying90 hi0 hz0 hz1 hz2 rfl (.slice none 0 0) 0 [] rfl ⟨rfl, .inl ⟨rfl, rfl⟩⟩ A n c _ rfl HRD.out HO1.out (by omega) (by simp only [maxLen]; omega) (Nat.le_refl _) ?_; intro v5 w2 k1 k2 _ _; obtain ⟨A5, c5, rfl, ho5, hb2, bx2⟩ := HFA.out v5 w2 k1 k2; have d0 := bx2.c0; have d1 := bx2.c1; have d2 := bx2.c2; have d3 := bx2.c3; clear k1 k2)
        clear d0 d1 d2 d3 c0 c1 c2 c3
        have zx2 := zxa.below hb2
        have hw2 := gr_trans hwa hb2
        rcases hfd with ⟨q1, q2⟩ | ⟨i, g, o, q, hi, q1, q2, e1, _, _⟩
        · have := HIS.out
          rw [q2] at this
          cases this
        have X := HFF.out w2 (HR.out w2 hw2)
        rw [q1] at X
        have HF2 := Lib.hid X
        have HR2 : Hid (R' = ⟨l.set i (x, t, la), f, ne, la⟩ ∧ re = 0) := Lib.hid (by
          have := HR1.out
          rw [q1, Int.toNat_natCast, if_neg ht2] at this
          exact this)
        clear X q1 q2 HR1 HIS hb2
        refine HF2.out.mono ?_
        rintro e w3 ⟨rfl, hb3⟩
        have hw3 := gr_trans hw2 hb3
        have bx3 := bx2.below hb3
        have zx3 := zx2.below hb3
        have ho3 : w3.ownsRow w1.heap.size 136 3 (.slice A5 n c5) n (onesC l) := ownsRow_off ho5 (Off.of_below (S := fun _ => False) hb3) (fun _ _ h => h)
        clear hb3 bx2 zx2 hw2 ho5 HF2
        go_upto_region 10 with fail
        rcases ho3.2 with ⟨_, e0⟩ | ⟨g5, cap5, cur5, e5, hg5, _, _, _, _, _⟩
        · omega
        cases e5
        have hil : i < l.length := by rw [HL.out]; exact hi
        obtain ⟨m0, m1, m2⟩ := ones_get l i hil
        have p0 : w3.cell? ⟨g5, i * 3, none⟩ = some (.int .i64 (l.getD i (0, 0, 0)).1) := by have := ho3.cells (g := g5) rfl (i * 3) _ m0; rwa [add_plain] at this
        have p1 : w3.cell? ⟨g5, i * 3 + 1, none⟩ = some (.int .i64 (l.getD i (0, 0, 0)).2.1) := by have := ho3.cells (g := g5) rfl (i * 3 + 1) _ m1; rwa [add_plain] at this
        have p2 : w3.cell? ⟨g5, i * 3 + 2, none⟩ = some (.int .i64 (l.getD i (0, 0, 0)).2.2) := by have := ho3.cells (g := g5) rfl (i * 3 + 2) _ m2; rwa [add_plain] at this
        have fz : ∀ j, w3.frozen? ⟨g5, j, none⟩ = false := fun j => by
          rcases ho3.2 with ⟨e0, _⟩ | ⟨g', cap', cur', e', _, h3, _⟩
          · cases e0
          · cases e'
            simp [World.frozen?, h3]
        have fz0 := fz (i * 3)
        have fz1 := fz (i * 3 + 1)
        have fz2 := fz (i * 3 + 2)
        have i0' : (0 : Int) ≤ (i : Int) := Int.natCast_nonneg _
        have i1' : (i : Int) < (n : Int) := by omega
        have c3 := bx3.c3
        obtain ⟨s1, s2⟩ := World.ownsRow.stored ho3 (i * 3) (.int .i64 x)
        obtain ⟨s3, s4⟩ := World.ownsRow.stored s1 (i * 3 + 1) (.int .i64 t)
        obtain ⟨s5, s6⟩ := World.ownsRow.stored s3 (i * 3 + 2) (.int .i64 (la))
        rw [ones_set l (x, t, la) i hil] at s5
        have og5 : Off (fun k => k = g5) w3 (((w3.setCell ⟨g5, i * 3, none⟩ (.int .i64 x)).setCell ⟨g5, i * 3 + 1, none⟩ (.int .i64 t)).setCell ⟨g5, i * 3 + 2, none⟩ (.int .i64 (la))) := (((Off.refl (fun k => k = g5) w3).setCell _ rfl).setCell _ rfl).setCell _ rfl
        have bx5 := bx3.off og5 (by omega)
        have zx5 := zx3.off og5 (by omega)
        have hw5 := hw3.trans (og5.below (fun k e => by omega) hw3.size)
        have HS5 := Lib.hid s5
        clear fz m0 m1 m2 s1 s2 s3 s4 s5 s6 og5 bx3 zx3 hw3 ho3
        generalize (l.getD i (0, 0, 0)).1 = l0 at *
        generalize (l.getD i (0, 0, 0)).2.1 = l1 at *
        generalize (l.getD i (0, 0, 0)).2.2 = l2 at *
        go_upto_region 11 with fail
        clear p0 p1 p2 fz0 fz1 fz2 c3
        generalize ((w3.setCell ⟨g5, i * 3, none⟩ (.int .i64 x)).setCell ⟨g5, i * 3 + 1, none⟩ (.int .i64 t)).setCell ⟨g5, i * 3 + 2, none⟩ (.int .i64 (la)) = w5 at *
        have c0 := bx5.c0
        have g0 := bx5.frozen 0
        go_upto_region 12 with fail
        have og6 : Off (fun k => k = w.heap.size) w5 (w5.setCell ⟨w.heap.size, 0, none⟩ (.slice (some ⟨g5, 0, none⟩) n c5)) := (Off.refl (fun k => k = w.heap.size) w5).setCell _ rfl
        have bx6 : BX (w5.setCell ⟨w.heap.size, 0, none⟩ (.slice (some ⟨g5, 0, none⟩) n c5)) w.heap.size (some ⟨g5, 0, none⟩) n c5 f ne (la) := bx5.s0
        have zx6 := zx5.off og6 (by omega)
        have hw6 := hw5.trans (og6.below (fun k e => by omega) hw5.size)
        have HS6 := Lib.hid (ownsRow_off HS5.out og6 (fun k e e' => by have := (HS5.out.lt k e).1; omega))
        clear c0 g0 og6 bx5 zx5 hw5 HS5
        generalize w5.setCell ⟨w.heap.size, 0, none⟩ (.slice (some ⟨g5, 0, none⟩) n c5) = w6 at *
        have c0 := bx6.c0
        have c1 := bx6.c1
        have c2 := bx6.c2
        have c3 := bx6.c3
        have y0 := zx6.c0
        have y1 := zx6.c1
        have y2 := zx6.c2
        have y3 := zx6.c3
        have f0 := zx6.frozen 0
        have f1 := zx6.frozen 1
        have f2 := zx6.frozen 2
        have f3 := zx6.frozen 3
        go_wp2_with fail
        clear c0 c1 c2 c3 y0 y1 y2 y3 f0 f1 f2 f3
        have of7 : Off (fun k => k = w.heap.size + 1) w6 ((((w6.setCell ⟨w.heap.size + 1, 0, none⟩ (.slice (some ⟨g5, 0, none⟩) n c5)).setCell ⟨w.heap.size + 1, 1, none⟩ (.int .i64 f)).setCell ⟨w.heap.size + 1, 2, none⟩ (.int .i64 ne)).setCell ⟨w.heap.size + 1, 3, none⟩ (.int .i64 (la))) := ((((Off.refl (fun k => k = w.heap.size + 1) w6).setCell _ rfl).setCell _ rfl).setCell _ rfl).setCell _ rfl
        have HS7 := Lib.hid (ownsRow_off HS6.out of7 (fun k e e' => by have := (HS6.out.lt k e).1; omega))
        have bxf := zx6.put (some ⟨g5, 0, none⟩) n c5 f ne (la)
        have hbf := set4_below hw6 (Nat.le_succ w.heap.size) (.slice (some ⟨g5, 0, none⟩) n c5) (.int .i64 f) (.int .i64 ne) (.int .i64 (la))
        clear bx6 zx6 hw6 of7 HS6
        generalize (((w6.setCell ⟨w.heap.size + 1, 0, none⟩ (.slice (some ⟨g5, 0, none⟩) n c5)).setCell ⟨w.heap.size + 1, 1, none⟩ (.int .i64 f)).setCell ⟨w.heap.size + 1, 2, none⟩ (.int .i64 ne)).setCell ⟨w.heap.size + 1, 3, none⟩ (.int .i64 (la)) = wf at *
        have z0 := bxf.c0
        have z1 := bxf.c1
        have z2 := bxf.c2
        have z3 := bxf.c3
        refine bodyPost_ret (v := .tuple #[.agg #[.slice (some ⟨g5, 0, none⟩) n c5, .int .i64 f, .int .i64 ne, .int .i64 (la)], .int .i64 0]) (by simp [results, Try.results55, go_sem, z0, z1, z2, z3]) rfl ⟨(some ⟨g5, 0, none⟩), n, c5, ?_, ?_⟩
        · rw [HR2.out.1, HR2.out.2]
        · rw [HR2.out.1]
          exact ⟨⟨own_rd HS7.out, by rw [List.length_set, HL.out]⟩, hbf, .inr (fun ad e => by cases e; exact ⟨by show w.heap.size ≤ g5; omega, (HS7.out.lt _ rfl).2⟩)⟩

end Go.Proofs.Ytjopobkcijkpmaa
