/-
  Contracts: the document's table: Visible, Conflict, ToAll.
-/
import Derived.Test.YtjopobkcijkpmaaSnV
import Derived.Deep.RegionHeld3
namespace Go.Proofs.Ytjopobkcijkpmaa
open Go.RowKit

theorem gr_drew {a w : World} (h : Below a.heap.size a w) : Below a.heap.size a w.drew := ⟨h.os, h.tape, h.output, h.size, h.block⟩

set_option maxRecDepth 100000 in
set_option maxHeartbeats 2000000 in
theorem rVisible_any (A : Option Addr) (n c : Nat) (R : RefS) (x y : Int) (w : World) (hr : R3 w A n R.ones) (hn : n ≤ 1000000) :
    Calls Try.prog 93 #[rvV A n c R.first R.next R.last, .int .i64 x, .int .i64 y] w fun e w' => e = .returned (.bool (visR R x y)) ∧ Below w.heap.size w w' := by
  have HI : Hid (visR R x y = (isR R.ones x 1 && (y == x || byR R y (plR R x)))) := Lib.hid rfl
  have HPL : Hid (∀ q, fnd R.ones x = some q → plR R x = q.2) := Lib.hid (fun q hq => by unfold plR; rw [hq]; rfl)
  have HIS : Hid (isR R.ones x 1 = match fnd R.ones x with | some q => q.1 == 1 | none => false) := Lib.hid rfl
  generalize visR R x y = r at *
  have hby := fun (p : Int) (W : World) (hW : R3 W A n R.ones) => rby_any A n c R y p W hW hn
  generalize byR R y = byf at *
  generalize plR R x = pl at *
  obtain ⟨l, f, ne, la⟩ := R
  dsimp only at *
  have hb0 := gr_alloc (gr_refl w) (.cells #[.slice A n c, .int .i64 f, .int .i64 ne, .int .i64 la] 92)
  have HO := Lib.hid (rIsOpen_any A n c f ne la x l _ (hr.below hb0) hn)
  have HX := Lib.hid (BX.new w A n c f ne la)
  have HB := Lib.hid hb0
  have HR := Lib.hid (fun (W : World) (hW : Below (w.alloc (.cells #[.slice A n c, .int .i64 f, .int .i64 ne, .int .i64 la] 92)).heap.size (w.alloc (.cells #[.slice A n c, .int .i64 f, .int .i64 ne, .int .i64 la] 92)) W) => hr.below (gr_trans hb0 hW))
  have HFF := Lib.hid (fun (W : World) (hW : R3 W A n l) => rfind_any A n c f ne la x l W hW hn)
  have HBY := Lib.hid hby
  clear hb0 hr hby
  generalize isR l x 1 = io at *
  unfold rvV at *
  go_enter Try.func93, Try.ntmps93
  go_wp2_with fail
  generalize w.alloc (.cells #[.slice A n c, .int .i64 f, .int .i64 ne, .int .i64 la] 92) = W at *
  refine HO.out.mono ?_
  rintro e w1 ⟨rfl, hb1⟩
  clear HO
  cases io
  · have hrr := HI.out
    rw [Bool.false_and] at hrr
    subst hrr
    go_wp2_with fail
    go_ret
    exact ⟨rfl, gr_trans HB.out hb1⟩
  · have HRR := HI.out
    rw [Bool.true_and] at HRR
    have HRR := Lib.hid HRR
    clear HI
    have r1 := HR.out w1 hb1
    have bx1 := HX.out.below hb1
    have hb1w := gr_trans HB.out hb1
    by_cases hxy : y = x
    · have t1 : (y == x) = true := by simpa using hxy
      have HR1 : Hid (r = true) := Lib.hid (by rw [HRR.out, t1, Bool.true_or])
      clear HRR r1 bx1 HPL HIS HFF HBY HR HX HB hb1 hxy
      go_wp2_with fail
      go_quiet (fail)
      go_wp2_with fail
      go_ret
      exact ⟨by rw [HR1.out]; rfl, gr_drewN hb1w _⟩
    · have t1 : (y == x) = false := by simpa using hxy
      rw [t1, Bool.false_or] at HRR
      have hfd := r1.found x
      rcases hfd with ⟨h1, h2⟩ | ⟨i, g, o, q, hi, h1, h2, rfl, d1, d2⟩
      · have := HIS.out
        rw [h2] at this
        cases this
      · rw [HPL.out q h2] at HRR
        have HK : Hid (∀ W' : World, Below w1.heap.size w1 W' → W'.cell? ⟨w.heap.size, 0, none⟩ = some (.slice (some ⟨g, o, none⟩) n c) ∧ W'.cell? ⟨w.heap.size, 1, none⟩ = some (.int .i64 f) ∧ W'.cell? ⟨w.heap.size, 2, none⟩ = some (.int .i64 ne) ∧ W'.cell? ⟨w.heap.size, 3, none⟩ = some (.int .i64 la) ∧ W'.cell? ⟨g, o + i * 3 + 2, none⟩ = some (.int .i64 q.2)) := Lib.hid (fun W' hW => ⟨(bx1.below hW).c0, (bx1.below hW).c1, (bx1.below hW).c2, (bx1.below hW).c3, keep_of_below hW d2⟩)
        have HF2 : Hid (∀ W' : World, Below w1.heap.size w1 W' → Calls Try.prog 91 #[.agg #[.slice (some ⟨g, o, none⟩) n c, .int .i64 f, .int .i64 ne, .int .i64 la], .int .i64 x] W' fun e w' => e = .returned (.int .i64 (i : Int)) ∧ Below W'.heap.size W' w') := Lib.hid (fun W' hW => by
          have := HFF.out W' (r1.below hW)
          rw [h1] at this
          exact this)
        have HBY2 := Lib.hid (fun (W' : World) (hW : Below w1.heap.size w1 W') => HBY.out q.2 W' (r1.below hW))
        obtain ⟨q1, q2⟩ := q
        dsimp only at *
        have i0 : (0 : Int) ≤ (i : Int) := Int.natCast_nonneg _
        have i1 : (i : Int) < (n : Int) := by omega
        have HW1 := Lib.hid hb1w
        clear h1 h2 r1 bx1 d1 d2 hxy HPL HIS HFF HBY HR HX HB hb1w hb1
        obtain ⟨s0, s1, s2, s3, s4⟩ := HK.out w1 (gr_refl w1)
        go_wp2_with fail
        go_region_held3 (fun W' => W'.cell? ⟨w.heap.size, 0, none⟩ = some (.slice (some ⟨g, o, none⟩) n c) ∧ W'.cell? ⟨w.heap.size, 1, none⟩ = some (.int .i64 f) ∧ W'.cell? ⟨w.heap.size, 2, none⟩ = some (.int .i64 ne) ∧ W'.cell? ⟨w.heap.size, 3, none⟩ = some (.int .i64 la) ∧ W'.cell? ⟨g, o + i * 3 + 2, none⟩ = some (.int .i64 q2))
          (first | go_keep | exact HK.out _ hb3 | exact HK.out _ hb2)
          (first
            | (go_at_call 91; refine (HF2.out _ (gr_drew (gr_refl w1))).mono ?_; rintro e w2 ⟨rfl, hb2'⟩; have hb2 : Below w1.heap.size w1 w2 := ⟨hb2'.os, hb2'.tape, hb2'.output, hb2'.size, hb2'.block⟩)
            | (go_at_call 108; refine (HBY2.out _ hb2).mono ?_; rintro e w3 ⟨rfl, hb3'⟩; have hb3 := gr_trans hb2 hb3'))
        go_wp2_with fail
        go_ret
        exact ⟨by rw [HRR.out]; rfl, gr_trans HW1.out hb3⟩

set_option maxRecDepth 100000 in
set_option maxHeartbeats 2000000 in
theorem rConflict_any (A : Option Addr) (n c : Nat) (R : RefS) (x y : Int) (w : World) (hr : R3 w A n R.ones) (hn : n ≤ 1000000) :
    Calls Try.prog 94 #[rvV A n c R.first R.next R.last, .int .i64 x, .int .i64 y] w fun e w' => e = .returned (.int .i64 (confR R x y)) ∧ Below w.heap.size w w' := by
  have HI : Hid (confR R x y = if isR R.ones x 1 = false then 9 else if y ≠ x ∧ isR R.ones y 1 = true then 7 else if byR R y R.last = true ∧ visR R x y = false then 8 else 0) := Lib.hid rfl
  have HO := Lib.hid (fun (W : World) (z : Int) (hW : R3 W A n R.ones) => rIsOpen_any A n c R.first R.next R.last z R.ones W hW hn)
  have HBY := Lib.hid (fun (W : World) (hW : R3 W A n R.ones) => rby_any A n c R y R.last W hW hn)
  have HV := Lib.hid (fun (W : World) (hW : R3 W A n R.ones) => rVisible_any A n c R x y W hW hn)
  generalize confR R x y = r at *
  generalize byR R y R.last = bl at *
  generalize visR R x y = vi at *
  obtain ⟨l, f, ne, la⟩ := R
  dsimp only at *
  have hb0 := gr_alloc (gr_refl w) (.cells #[.slice A n c, .int .i64 f, .int .i64 ne, .int .i64 la] 92)
  have HB := Lib.hid hb0
  have bx0 := BX.new w A n c f ne la
  have HR := Lib.hid (fun (W : World) (hW : Below w.heap.size w W) => hr.below hW)
  have HOX := Lib.hid (fun (W : World) hW => HO.out W x hW)
  have HOY := Lib.hid (fun (W : World) hW => HO.out W y hW)
  clear hr HO hb0
  generalize isR l x 1 = ix at *
  generalize isR l y 1 = iy at *
  unfold rvV at *
  go_enter Try.func94, Try.ntmps94
  go_wp2_with fail
  generalize w.alloc (.cells #[.slice A n c, .int .i64 f, .int .i64 ne, .int .i64 la] 92) = W at *
  refine (HOX.out _ (HR.out _ HB.out)).mono ?_
  rintro e w1 ⟨rfl, hb1⟩
  have hw1 := gr_trans HB.out hb1
  have bx1 := bx0.below hb1
  clear hb1 HOX bx0
  cases ix
  · have HR1 : Hid (r = 9) := Lib.hid (by rw [HI.out, if_pos rfl])
    go_wp2_with fail
    go_ret
    exact ⟨by rw [HR1.out]; rfl, hw1⟩
  · have HRR : Hid (r = if y ≠ x ∧ iy = true then 7 else if bl = true ∧ vi = false then 8 else 0) := Lib.hid (by rw [HI.out, if_neg (by simp)])
    clear HI
    have HTL : Hid (∀ (w2 : World), Below w.heap.size w w2 → BX w2 w.heap.size A n c f ne la → True) := Lib.hid (fun _ _ _ => trivial)
    clear HTL
    have c0 := bx1.c0
    have c1 := bx1.c1
    have c2 := bx1.c2
    have c3 := bx1.c3
    by_cases hxy : y = x
    · have t1 : (y != x) = false := by simpa using hxy
      have HR2 : Hid (r = if bl = true ∧ vi = false then 8 else 0) := Lib.hid (by rw [HRR.out, if_neg (fun h => h.1 hxy)])
      clear HRR hxy
      go_wp2_with fail
      refine (HBY.out _ (HR.out _ hw1)).mono ?_
      rintro e w3 ⟨rfl, hb3⟩
      have hw3 := gr_trans hw1 hb3
      have bx3 := bx1.below hb3
      have d0 := bx3.c0
      have d1 := bx3.c1
      have d2 := bx3.c2
      have d3 := bx3.c3
      clear hb3 bx1 c0 c1 c2 c3
      cases bl
      · go_wp2_with fail
        go_ret
        exact ⟨by rw [HR2.out, if_neg (by simp)]; rfl, hw3⟩
      · go_wp2_with fail
        refine (HV.out _ (HR.out _ hw3)).mono ?_
        rintro e w4 ⟨rfl, hb4⟩
        have hw4 := gr_trans hw3 hb4
        clear hb4
        cases vi
        · go_wp2_with fail
          go_ret
          exact ⟨by rw [HR2.out, if_pos (by simp)]; rfl, hw4⟩
        · go_wp2_with fail
          go_ret
          exact ⟨by rw [HR2.out, if_neg (by simp)]; rfl, hw4⟩
    · have t1 : (y != x) = true := by simpa using hxy
      have HXY := Lib.hid hxy
      clear hxy
      go_wp2_with fail
      refine (HOY.out _ (HR.out _ hw1)).mono ?_
      rintro e w2 ⟨rfl, hb2⟩
      have hw2 := gr_trans hw1 hb2
      have bx2 := bx1.below hb2
      have e0 := bx2.c0
      have e1 := bx2.c1
      have e2 := bx2.c2
      have e3 := bx2.c3
      clear hb2 bx1 c0 c1 c2 c3 hw1
      cases iy
      · have HR2 : Hid (r = if bl = true ∧ vi = false then 8 else 0) := Lib.hid (by rw [HRR.out, if_neg (fun h => by cases h.2)])
        clear HRR
        go_wp2_with fail
        refine (HBY.out _ (HR.out _ hw2)).mono ?_
        rintro e w3 ⟨rfl, hb3⟩
        have hw3 := gr_trans hw2 hb3
        have bx3 := bx2.below hb3
        have d0 := bx3.c0
        have d1 := bx3.c1
        have d2 := bx3.c2
        have d3 := bx3.c3
        clear hb3 bx2 e0 e1 e2 e3
        cases bl
        · go_wp2_with fail
          go_ret
          exact ⟨by rw [HR2.out, if_neg (by simp)]; rfl, hw3⟩
        · go_wp2_with fail
          refine (HV.out _ (HR.out _ hw3)).mono ?_
          rintro e w4 ⟨rfl, hb4⟩
          have hw4 := gr_trans hw3 hb4
          clear hb4
          cases vi
          · go_wp2_with fail
            go_ret
            exact ⟨by rw [HR2.out, if_pos (by simp)]; rfl, hw4⟩
          · go_wp2_with fail
            go_ret
            exact ⟨by rw [HR2.out, if_neg (by simp)]; rfl, hw4⟩
      · have HR2 : Hid (r = 7) := Lib.hid (by rw [HRR.out, if_pos ⟨HXY.out, rfl⟩])
        go_wp2_with fail
        go_ret
        exact ⟨by rw [HR2.out]; rfl, hw2⟩

set_option maxRecDepth 100000 in
set_option maxHeartbeats 2000000 in
theorem rToAll_any (A : Option Addr) (n c : Nat) (R : RefS) (y : Int) (w : World) (hr : R3 w A n R.ones) (hri : Ris R.ones) (hn : n ≤ 1000) :
    Calls Try.prog 92 #[rvV A n c R.first R.next R.last, .int .i64 y] w fun e w' => e = .returned (.bool (toAllR R y)) ∧ Below w.heap.size w w' := by
  have HI : Hid (toAllR R y = ((allR R.ones 1).all (fun n => byR R y (plR R n)) && byR R y R.last)) := Lib.hid rfl
  have HBY := Lib.hid (fun (W : World) (p : Int) (hW : R3 W A n R.ones) => rby_any A n c R y p W hW (by omega))
  have HPL : Hid (∀ x q, fnd R.ones x = some q → plR R x = q.2) := Lib.hid (fun x q hq => by unfold plR; rw [hq]; rfl)
  have HMM : Hid (∀ x, x ∈ allR R.ones 1 → ∃ q, fnd R.ones x = some q) := Lib.hid (fun x hx => by
    have h := hri.isR hx
    unfold isR at h
    cases hq : fnd R.ones x with
    | none => rw [hq] at h; cases h
    | some q => exact ⟨q, rfl⟩)
  have hal := all_len R.ones 1
  rw [hr.2] at hal
  generalize toAllR R y = r at *
  generalize byR R y = byf at *
  generalize plR R = pl at *
  obtain ⟨l, f, ne, la⟩ := R
  dsimp only at *
  have hb0 := gr_alloc (gr_refl w) (.cells #[.slice A n c, .int .i64 f, .int .i64 ne, .int .i64 la] 92)
  have HB := Lib.hid hb0
  have HX := Lib.hid (BX.new w A n c f ne la)
  have HAL := Lib.hid (rAll_any A n c f ne la 1 l _ (hr.below hb0) hn)
  have HR := Lib.hid (fun (W : World) (hW : Below w.heap.size w W) => hr.below hW)
  have HFF := Lib.hid (fun (W : World) (x : Int) (hW : R3 W A n l) => rfind_any A n c f ne la x l W hW (by omega))
  clear hr hb0 hri
  generalize allR l 1 = os at *
  unfold rvV at *
  go_enter Try.func92, Try.ntmps92
  go_wp2_with fail
  generalize w.alloc (.cells #[.slice A n c, .int .i64 f, .int .i64 ne, .int .i64 la] 92) = W at *
  refine HAL.out.mono ?_
  clear HAL
  rintro e w1 ⟨Bo, mo, rfl, ho, hb1⟩
  have hw1 := gr_trans HB.out hb1
  have bx1 := HX.out.below hb1
  clear hb1
  generalize hno : os.length = no at *
  have HNO := Lib.hid hno
  clear hno
  have HW1 := Lib.hid hw1
  have HBX := Lib.hid bx1
  have HOO := Lib.hid ho
  clear hw1 bx1 ho
  go_wp2_with fail
  go_loopw [6] (fun i wr => ∃ k : Nat, k ≤ no ∧ i = .int .i64 k ∧ Hid ((os.take k).all (fun n => byf (pl n)) = true) ∧ Below w1.heap.size w1 wr) (fun i _ => no - (intOf i).toNat)
  case atStart => exact ⟨0, by omega, rfl, Lib.hid rfl, gr_refl w1⟩
  case round =>
    obtain ⟨k, hk, rfl, HK, hbr⟩ := hrel
    obtain ⟨wo, rfl⟩ : ∃ wo : World, wo = wr := ⟨_, rfl⟩
    have hwr := gr_trans HW1.out hbr
    have bxr := HBX.out.below hbr
    have r1 := HR.out wo hwr
    by_cases hlt : k < no
    · have t1 : decide ((k : Int) < (no : Int)) = true := by simp; omega
      have t2 : decide (k < no) = true := by simp; omega
      have k0 : (0 : Int) ≤ (k : Int) := Int.natCast_nonneg _
      have k1 : (k : Int) < (no : Int) := by omega
      have hko : k < os.length := by rw [HNO.out]; exact hlt
      obtain ⟨gb, ob, cb', e1, hcb⟩ := (HOO.out.below hbr).intAt hlt
      cases e1
      obtain ⟨q, hq⟩ := HMM.out _ (getD_mem hko)
      have HSN : Hid ((os.take (k + 1)).all (fun n => byf (pl n)) = ((os.take k).all (fun n => byf (pl n)) && byf (pl (os.getD k 0)))) := Lib.hid (all_snoc _ _ _ hko 0)
      have hpl := HPL.out _ q hq
      rcases r1.found (os.getD k 0) with ⟨h1, h2⟩ | ⟨i, g, o, q', hi, h1, h2, rfl, d1, d2⟩
      · rw [hq] at h2; cases h2
      · rw [hq] at h2
        cases h2
        rw [hpl, HK.out, Bool.true_and] at HSN
        have HALLF : Hid (byf q.2 = false → os.all (fun n => byf (pl n)) = false) := Lib.hid (fun hf => by
          cases ha : os.all (fun n => byf (pl n)) with
          | false => rfl
          | true =>
            have := List.all_eq_true.1 ha _ (getD_mem hko)
            rw [hpl, hf] at this
            cases this)
        have HF2 : Hid (∀ W' : World, Below wo.heap.size wo W' → Calls Try.prog 91 #[.agg #[.slice (some ⟨g, o, none⟩) n c, .int .i64 f, .int .i64 ne, .int .i64 la], .int .i64 (os.getD k 0)] W' fun e w' => e = .returned (.int .i64 (i : Int)) ∧ Below W'.heap.size W' w') := Lib.hid (fun W' hW => by
          have := HFF.out W' (os.getD k 0) (r1.below hW)
          rw [h1] at this
          exact this)
        have HBY2 := Lib.hid (fun (W' : World) (hW : Below wo.heap.size wo W') => HBY.out W' q.2 (r1.below hW))
        have HK2 : Hid (∀ W' : World, Below wo.heap.size wo W' → W'.cell? ⟨w.heap.size, 0, none⟩ = some (.slice (some ⟨g, o, none⟩) n c) ∧ W'.cell? ⟨w.heap.size, 1, none⟩ = some (.int .i64 f) ∧ W'.cell? ⟨w.heap.size, 2, none⟩ = some (.int .i64 ne) ∧ W'.cell? ⟨w.heap.size, 3, none⟩ = some (.int .i64 la) ∧ W'.cell? ⟨gb, ob + k, none⟩ = some (.int .i64 (os.getD k 0)) ∧ W'.cell? ⟨g, o + i * 3 + 2, none⟩ = some (.int .i64 q.2)) := Lib.hid (fun W' hW => ⟨(bxr.below hW).c0, (bxr.below hW).c1, (bxr.below hW).c2, (bxr.below hW).c3, keep_of_below hW hcb, keep_of_below hW d2⟩)
        obtain ⟨q1, q2⟩ := q
        dsimp only at *
        generalize os.getD k 0 = xo at *
        have i0 : (0 : Int) ≤ (i : Int) := Int.natCast_nonneg _
        have i1 : (i : Int) < (n : Int) := by omega
        clear h1 hq r1 bxr d1 d2 hpl hcb HPL HMM HFF HBY HX HB HR
        obtain ⟨s0, s1, s2, s3, s4, s5⟩ := HK2.out wo (gr_refl wo)
        generalize byf q2 = bq at *
        cases bq
        · have HR0 : Hid (r = false) := Lib.hid (by rw [HI.out, HALLF.out rfl, Bool.false_and])
          go_wp2_with fail
          go_region_held3 (fun W' => W'.cell? ⟨w.heap.size, 0, none⟩ = some (.slice (some ⟨g, o, none⟩) n c) ∧ W'.cell? ⟨w.heap.size, 1, none⟩ = some (.int .i64 f) ∧ W'.cell? ⟨w.heap.size, 2, none⟩ = some (.int .i64 ne) ∧ W'.cell? ⟨w.heap.size, 3, none⟩ = some (.int .i64 la) ∧ W'.cell? ⟨gb, ob + k, none⟩ = some (.int .i64 xo) ∧ W'.cell? ⟨g, o + i * 3 + 2, none⟩ = some (.int .i64 q2))
            (first | go_keep | exact HK2.out _ hb3 | exact HK2.out _ hb2)
            (first
              | (go_at_call 91; refine (HF2.out _ (gr_drew (gr_refl wo))).mono ?_; rintro e w2 ⟨rfl, hb2'⟩; have hb2 : Below wo.heap.size wo w2 := ⟨hb2'.os, hb2'.tape, hb2'.output, hb2'.size, hb2'.block⟩)
              | (go_at_call 108; refine (HBY2.out _ hb2).mono ?_; rintro e w3 ⟨rfl, hb3'⟩; have hb3 := gr_trans hb2 hb3'))
          go_wp2_with fail
          go_ret
          exact ⟨by rw [HR0.out]; rfl, gr_trans hwr hb3⟩
        · go_wp2_with fail
          go_region_held3 (fun W' => W'.cell? ⟨w.heap.size, 0, none⟩ = some (.slice (some ⟨g, o, none⟩) n c) ∧ W'.cell? ⟨w.heap.size, 1, none⟩ = some (.int .i64 f) ∧ W'.cell? ⟨w.heap.size, 2, none⟩ = some (.int .i64 ne) ∧ W'.cell? ⟨w.heap.size, 3, none⟩ = some (.int .i64 la) ∧ W'.cell? ⟨gb, ob + k, none⟩ = some (.int .i64 xo) ∧ W'.cell? ⟨g, o + i * 3 + 2, none⟩ = some (.int .i64 q2))
            (first | go_keep | exact HK2.out _ hb3 | exact HK2.out _ hb2)
            (first
              | (go_at_call 91; refine (HF2.out _ (gr_drew (gr_refl wo))).mono ?_; rintro e w2 ⟨rfl, hb2'⟩; have hb2 : Below wo.heap.size wo w2 := ⟨hb2'.os, hb2'.tape, hb2'.output, hb2'.size, hb2'.block⟩)
              | (go_at_call 108; refine (HBY2.out _ hb2).mono ?_; rintro e w3 ⟨rfl, hb3'⟩; have hb3 := gr_trans hb2 hb3'))
          go_wp2_with fail
          go_roundw
          case rel => exact ⟨k + 1, by omega, by go_num, HSN, gr_trans hbr hb3⟩
          case measure => simp [intOf]; omega
    · have t1 : decide ((k : Int) < (no : Int)) = false := by simp; omega
      have t2 : decide (k < no) = false := by simp; omega
      have HR0 : Hid (r = byf la) := Lib.hid (by
        have := HK.out
        rw [List.take_of_length_le (by rw [HNO.out]; omega)] at this
        rw [HI.out, this, Bool.true_and])
      have c0 := bxr.c0
      have c1 := bxr.c1
      have c2 := bxr.c2
      have c3 := bxr.c3
      have HBL := Lib.hid (HBY.out wo la r1)
      clear r1 bxr HI HK
      go_wp2_with fail
      refine HBL.out.mono ?_
      rintro e w3 ⟨rfl, hb3⟩
      go_wp2_with fail
      go_ret
      exact ⟨by rw [HR0.out]; rfl, gr_trans hwr hb3⟩

end Go.Proofs.Ytjopobkcijkpmaa
