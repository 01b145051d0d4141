/-
  The walk of SnapshotPlays.
-/
import Derived.Test.YtjopobkcijkpmaaSpA
import Derived.Test.YtjopobkcijkpmaaOpC
import Derived.Deep.CutBlock
import Derived.Deep.DeepCutAuto
import Derived.Deep.RegionHeld3
namespace Go.Proofs.Ytjopobkcijkpmaa
open Go.RowKit

/-- What holds at the head of each round. -/
structure PL (k : Nat) (nx : Int) (T : TabS) (R : RefS) : Prop where
  sim : Sim T R
  n : R.ones.length ≤ 64 + k
  l : R.last ≤ k
  f : R.first = nx

theorem begR_ones (R : RefS) : (begR R).ones.length ≤ R.ones.length + 1 ∧ (begR R).last = R.last ∧ (begR R).first = R.first := by
  unfold begR
  split
  · exact ⟨by omega, rfl, rfl⟩
  · exact ⟨by simp, rfl, rfl⟩
theorem endR_ones (R : RefS) (x t : Int) : (endR R x t).ones.length = R.ones.length ∧ (endR R x t).last ≤ R.last + 1 ∧ (endR R x t).first = R.first := by
  unfold endR
  split
  · exact ⟨rfl, by omega, rfl⟩
  · refine ⟨by simp, ?_, rfl⟩
    unfold endRL
    dsimp only
    split <;> omega
section
variable {k : Nat} {nx : Int} {T : TabS} {R : RefS}
theorem PL.mono {k' : Nat} (h : PL k nx T R) (hk : k ≤ k') : PL k' nx T R := ⟨h.sim, by have := h.n; omega, by have := h.l; omega, h.f⟩
theorem PL.beg (h : PL k nx T R) : PL (k + 1) nx (begT T) (begR R) := by
  obtain ⟨h1, h2, h3⟩ := begR_ones R
  exact ⟨h.sim.beg, by have := h.n; omega, by have := h.l; omega, by rw [h3, h.f]⟩
theorem PL.com (h : PL k nx T R) (x : Int) : PL (k + 1) nx (comT T x) (endR R x 2) := by
  obtain ⟨h1, h2, h3⟩ := endR_ones R x 2
  exact ⟨h.sim.com x, by have := h.n; omega, by have := h.l; omega, by rw [h3, h.f]⟩
theorem PL.abo (h : PL k nx T R) (x : Int) : PL (k + 1) nx (aboT T x) (endR R x 4) := by
  obtain ⟨h1, h2, h3⟩ := endR_ones R x 4
  exact ⟨h.sim.abo x, by have := h.n; omega, by have := h.l; omega, by rw [h3, h.f]⟩
theorem PL.kil (h : PL k nx T R) (x : Int) : PL (k + 1) nx (kilT T x) (endR R x 3) := by
  obtain ⟨h1, h2, h3⟩ := endR_ones R x 3
  exact ⟨h.sim.kil x, by have := h.n; omega, by have := h.l; omega, by rw [h3, h.f]⟩
theorem PL.bury (h : PL k nx T R) : PL (k + 1) nx (burT T) (buryR R) := by
  refine ⟨h.sim.bury, ?_, ?_, h.f⟩
  · have := h.n
    unfold buryR
    simp
    omega
  · have := h.l
    unfold buryR
    dsimp only
    omega
theorem PL.dead (h : PL k nx T R) : ∀ x ∈ T.dead, -9223372036854775808 ≤ x ∧ x ≤ 9223372036854775807 := by
  intro x hx
  rw [h.sim.de] at hx
  obtain ⟨p, hp⟩ := mem_all.1 hx
  have h1 := h.sim.rg _ hp
  have h2 := h.sim.n2
  dsimp only at h1
  omega
end

set_option maxRecDepth 100000 in
set_option maxHeartbeats 8000000 in
theorem SnapshotPlays_bad (nx : Int) (A : Option Addr) (n c : Nat) (l : List Int) (S : Option Addr) (m d : Nat) (w : World) (ha : IR w A n l) (hn : n ≤ 17592186043904) (hbad : nx < 1 ∨ 4611686018427387904 < nx ∨ 64 < n ∨ ¬ Rise 0 nx l) :
    Calls Try.prog 13 #[.int .i64 nx, .slice A n c, .slice S m d] w fun e w' => e = .returned (.bool true) ∧ Below w.heap.size w w' := by
  have HRN : Hid (∀ W : World, Below w.heap.size w W → Calls Try.prog 53 #[.int .i64 nx, .slice A n c] W fun e w' => e = .returned (.tuple #[rvV none 0 0 0 0 0, .int .i64 2]) ∧ Below W.heap.size W w') := Lib.hid (fun W hW => by
    by_cases hb2 : nx < 1 ∨ 4611686018427387904 < nx ∨ 64 < n
    · exact rNew_bad nx A n c l W hb2
    · have hnr : ¬ Rise 0 nx l := by
        rcases hbad with h | h | h | h
        · exact absurd (.inl h) hb2
        · exact absurd (.inr (.inl h)) hb2
        · exact absurd (.inr (.inr h)) hb2
        · exact h
      refine (rNew_loop nx A n c l W (ha.below hW) (by omega) (by omega) (by omega)).mono ?_
      rintro e w' (⟨h, _⟩ | ⟨_, h⟩)
      · exact absurd h hnr
      · exact h)
  have HNB := Lib.hid (fun (W : World) (B : Option Addr) (b : Nat) (hW : IR W B n l) => NewT_bad nx B n b l W hW hbad)
  have HCI := Lib.hid (CopyInts_any A n c l w ha hn)
  have HSI := Lib.hid (fun (W : World) (B : Option Addr) (b : Nat) (h1 : IR W B n l) (hW : Below w.heap.size w W) => by
    have h := SameIntsL_any B A n n b c l l W h1 (ha.below hW) (by omega) (by omega)
    rw [show (l == l) = true from by simp] at h
    exact h)
  clear ha hbad hn
  unfold rvV at *
  go_enter Try.func13, Try.ntmps13
  go_wp2_with fail
  refine HCI.out.mono ?_
  rintro e w1 ⟨B, b, rfl, ho, hb1⟩
  have hr1 : IR w1 B n l := own_rd ho
  clear ho HCI
  go_wp2_with fail
  refine (HNB.out _ _ _ hr1).mono ?_
  rintro e w2 ⟨rfl, hb2⟩
  have hw2 := gr_trans hb1 hb2
  have hr2 := hr1.below hb2
  clear hb1 hb2 hr1 HNB
  go_wp2_with fail
  refine (HRN.out _ hw2).mono ?_
  rintro e w3 ⟨rfl, hb3⟩
  have hw3 := gr_trans hw2 hb3
  have hr3 := hr2.below hb3
  clear hw2 hb3 hr2 HRN
  have hw4 := gr_alloc hw3 (.cells #[.slice none 0 0, .int .i64 0, .int .i64 0, .int .i64 0] 92)
  have hr4 := hr3.below (gr_alloc (gr_refl w3) (.cells #[.slice none 0 0, .int .i64 0, .int .i64 0, .int .i64 0] 92))
  go_wp2_with fail
  refine (HSI.out _ _ _ hr4 hw4).mono ?_
  rintro e w5 ⟨rfl, hb5⟩
  have hw5 := gr_trans hw4 hb5
  clear hw3 hr3 hr4 hw4 hb5 HSI
  go_wp2_with fail
  refine (awake14_any _).mono ?_
  rintro e w6 ⟨rfl, hb6⟩
  go_wp2_with fail
  go_ret
  exact ⟨rfl, gr_trans hw5 hb6⟩

theorem Bury_tq {w0 w : World} {g : Nat} {T : TabS} {Q : Nat → Prop} (h : TSQ w0 w g T Q) (hr : ∀ x ∈ T.dead, -9223372036854775808 ≤ x ∧ x ≤ 9223372036854775807) : Calls Try.prog 51 #[.pointer (some ⟨g, 0, none⟩)] w fun e w' => ∃ v, e = .returned v ∧ w'.ownsRow w0.heap.size 3 1 v T.dead.length (T.dead.map (Value.int .i64)) ∧ TSQ w0 w' g (burT T) Q ∧ Off (fun k => ¬ Q k) w w' := by
  obtain ⟨k1, F, k2, k3⟩ := h
  refine (Bury_any w _ g F T k2 hr).mono ?_
  rintro e w' ⟨v, rfl, q1, q2, F', q3, q4, _⟩
  exact ⟨v, rfl, q1, ⟨k1.trans (q2.below (fun k hk => (k2.foot_lt k hk).1) k1.size), F', q3, fun k hk => ⟨fun hf => (k3 k hk).1 (q4 k hf), Nat.lt_of_lt_of_le (k3 k hk).2 q2.size⟩⟩, q2.mono (fun k _ hf hq => (k3 k hq).1 hf)⟩
theorem PI.sub {w wr : World} {g bx : Nat} {X Y : Nat → Prop} {T : TabS} {A : Option Addr} {n c : Nat} {R : RefS} (h : PI w wr g bx X T A n c R) (hY : ∀ k, Y k → X k) : PI w wr g bx Y T A n c R := h.more (gr_refl wr) (fun k hk => .inl (hY k hk))

set_option maxRecDepth 100000 in
set_option maxHeartbeats 16000000 in
theorem SnapshotPlays_good (nx : Int) (A : Option Addr) (n c : Nat) (l : List Int) (S : Option Addr) (m d : Nat) (ps : List (Int × Int)) (w : World) (ha : IR w A n l) (hs : O2 w S m ps) (hp : ∀ p ∈ ps, -9223372036854775808 ≤ p.2 ∧ p.2 ≤ 9223372036854775807) (h1 : 1 ≤ nx) (h2 : nx ≤ 4611686018427387904) (hn : n ≤ 64) (hr : Rise 0 nx l) (hpl : ps.length = m) :
    Calls Try.prog 13 #[.int .i64 nx, .slice A n c, .slice S m d] w fun e w' => e = .returned (.bool true) ∧ Below w.heap.size w w' := by
  have HRN : Hid (∀ W : World, Below w.heap.size w W → Calls Try.prog 53 #[.int .i64 nx, .slice A n c] W fun e w' => ∃ A' n' c', e = .returned (.tuple #[rvV A' n' c' nx nx 0, .int .i64 0]) ∧ RN W w' none A' n' (newR nx l).ones) := Lib.hid (fun W hW => by
    refine (rNew_loop nx A n c l W (ha.below hW) h1 h2 hn).mono ?_
    rintro e w' (⟨_, h⟩ | ⟨h, _⟩)
    · exact h
    · exact absurd hr h)
  have HNG := Lib.hid (fun (W : World) (B : Option Addr) (b : Nat) (hW : IR W B n l) => NewT_any nx B n b l W hW h1 h2 hn hr)
  have HCI := Lib.hid (CopyInts_any A n c l w ha (by omega))
  have HSI := Lib.hid (fun (W : World) (B : Option Addr) (b : Nat) (h1 : IR W B n l) (hW : Below w.heap.size w W) => by
    have h := SameIntsL_any B A n n b c l l W h1 (ha.below hW) (by omega) (by omega)
    rw [show (l == l) = true from by simp] at h
    exact h)
  have HPL : Hid (PL 0 nx (newT nx l) (newR nx l)) := Lib.hid ⟨Sim.new nx l h1 h2 hr, by have := ha.len; unfold newR; simp; omega, by simp [newR], rfl⟩
  have HSC := Lib.hid hs
  have HPP : Hid (∀ k, k < m → -9223372036854775808 ≤ (ps.getD k (0, 0)).2 ∧ (ps.getD k (0, 0)).2 ≤ 9223372036854775807) := Lib.hid (fun k hk => by
    have hk' : k < ps.length := by omega
    have e : ps.getD k (0, 0) = ps[k] := by simp [List.getD, List.getElem?_eq_getElem hk']
    rw [e]
    exact hp _ (List.getElem_mem hk'))
  have HN : Hid ((newR nx l).first = nx ∧ (newR nx l).next = nx ∧ (newR nx l).last = 0) := Lib.hid ⟨rfl, rfl, rfl⟩
  clear ha hs hp hr hpl
  generalize newR nx l = R0 at *
  generalize newT nx l = T0 at *
  unfold rvV at *
  go_enter Try.func13, Try.ntmps13
  go_wp2_with fail
  refine HCI.out.mono ?_
  rintro e w1 ⟨B, b, rfl, ho, hb1⟩
  have hr1 : IR w1 B n l := own_rd ho
  clear ho HCI
  go_wp2_with fail
  refine (HNG.out _ _ _ hr1).mono ?_
  rintro e w2 ⟨g, F, rfl, ht2, hb2⟩
  have s2 : TSt w w2 g T0 := ⟨gr_trans hb1 hb2, F, ht2.lower hb1.size⟩
  have hr2 := hr1.below hb2
  clear hb1 hb2 hr1 HNG ht2
  go_wp2_with fail
  refine (HRN.out _ s2.1).mono ?_
  rintro e w3 ⟨A', n', c', rfl, rn⟩
  have hr3 := hr2.below rn.2.1
  clear hr2 HRN
  have pi4 : PI w (w3.alloc (.cells #[.slice A' n' c', .int .i64 nx, .int .i64 nx, .int .i64 0] 92)) g w3.heap.size (fun _ => False) T0 A' n' c' R0 := by
    have hb34 := gr_alloc (gr_refl w3) (.cells #[.slice A' n' c', .int .i64 nx, .int .i64 nx, .int .i64 0] 92)
    have hs34 : (w3.alloc (.cells #[.slice A' n' c', .int .i64 nx, .int .i64 nx, .int .i64 0] 92)).heap.size = w3.heap.size + 1 := World.size_alloc _ _
    have hs23 := rn.2.1.size
    have hs2 := s2.1.size
    have hbl : ∀ ad, A' = some ad → w2.heap.size ≤ ad.block ∧ ad.block < w3.heap.size := fun ad e => by
      rcases rn.2.2 with r | r
      · rw [r] at e; cases e
      · exact r ad e
    refine ⟨s2.more (gr_trans rn.2.1 hb34) (fun k hk => ?_), ?_, rn.1.below hb34, by omega, fun ad e => by have := hbl ad e; omega⟩
    · rcases hk with rfl | ⟨ad, e, rfl⟩ | hk
      · exact ⟨hs23, by omega⟩
      · have := hbl ad e
        exact ⟨this.1, by omega⟩
      · exact hk.elim
    · rw [HN.out.1, HN.out.2.1, HN.out.2.2]
      exact BX.new w3 A' n' c' nx nx 0
  have hr4 := hr3.below (gr_alloc (gr_refl w3) (.cells #[.slice A' n' c', .int .i64 nx, .int .i64 nx, .int .i64 0] 92))
  clear rn s2 hr3 HN
  go_wp2_with fail
  generalize w3.alloc (.cells #[.slice A' n' c', .int .i64 nx, .int .i64 nx, .int .i64 0] 92) = w4 at *
  generalize w3.heap.size = bx at *
  refine (HSI.out _ _ _ hr4 pi4.1.1).mono ?_
  rintro e w5 ⟨rfl, hb5⟩
  have pi5 := pi4.below hb5
  clear hb5 pi4 hr4 HSI
  go_wp2_with fail
  go_loopw [12, 13, 14, 15, 16, 17, 18, 19, 20, 21, 22] (fun i _ _ _ _ _ _ _ _ _ _ wr => ∃ (k : Nat) (T : TabS) (A' : Option Addr) (n' c' : Nat) (R : RefS), k ≤ m ∧ k ≤ 60 ∧ i = .int .i64 k ∧ Hid (PL k nx T R) ∧ PI w wr g bx (fun _ => False) T A' n' c' R) (fun i _ _ _ _ _ _ _ _ _ _ _ => 60 - (intOf i).toNat)
  case atStart => exact ⟨0, T0, A', n', c', R0, by omega, by omega, rfl, HPL, pi5⟩
  case round =>
    clear pi5 HPL
    obtain ⟨k, T, A2, n2, c2, R, hkm, hk60, rfl, HP, pi⟩ := hrel
    by_cases hlt : k < m ∧ k < 60
    · have t1 : decide ((k : Int) < (m : Int)) = true := by simp; omega
      have t2 : decide (k < m) = true := by simp; omega
      have t3 : decide ((k : Int) < 60) = true := by simp; omega
      have j0 : (0 : Int) ≤ (k : Int) := Int.natCast_nonneg _
      have j1 : (k : Int) < (m : Int) := by omega
      obtain ⟨gs, os, rfl, q0, q1⟩ := HSC.out k hlt.1
      have q0 := keep_of_below pi.1.1 q0
      have q1 := keep_of_below pi.1.1 q1
      have hpb := HPP.out k hlt.1
      generalize ps.getD k (0, 0) = po at *
      obtain ⟨kd, tx⟩ := po
      dsimp only at *
      obtain ⟨hl1, hl2⟩ := hlt
      go_upto_block 2 with fail
      have pi0 : PI w (wr.alloc (.cells #[.int .i64 kd, .int .i64 tx] 96)) g bx (fun j => j = wr.heap.size) T A2 n2 c2 R := pi.more (gr_alloc (gr_refl wr) _) (fun j e => .inr (by rw [World.size_alloc]; omega))
      have ob : (wr.alloc (.cells #[.int .i64 kd, .int .i64 tx] 96)).cell? ⟨wr.heap.size, 0, none⟩ = some (.int .i64 kd) ∧ (wr.alloc (.cells #[.int .i64 kd, .int .i64 tx] 96)).cell? ⟨wr.heap.size, 1, none⟩ = some (.int .i64 tx) := by
        have h := heap_alloc_new wr (.cells #[.int .i64 kd, .int .i64 tx] 96)
        exact ⟨by rw [cell_of_row _ _ _ _ _ _ h]; rfl, by rw [cell_of_row _ _ _ _ _ _ h]; rfl⟩
      clear pi q0 q1
      generalize wr.alloc (.cells #[.int .i64 kd, .int .i64 tx] 96) = wo at *
      generalize wr.heap.size = gb at *
      have hn2 := pi0.2.2.1.2
      have hpn := HP.out.n
      have hpl := HP.out.l
      have hp0 := HP.out.sim.l0
      have hp1 := HP.out.sim.n1
      have hp2 := HP.out.sim.n2
      go_cut [] (fun wx => ∃ (T' : TabS) (A' : Option Addr) (n' c' : Nat) (R' : RefS), Hid (PL (k + 1) nx T' R') ∧ PI w wx g bx (fun _ => False) T' A' n' c' R')
      case first =>
        have hcase : (kd == 1) = true ∨ ((kd == 1) = false ∧ (kd == 2) = true) ∨ ((kd == 1) = false ∧ (kd == 2) = false ∧ (kd == 3) = true) ∨ ((kd == 1) = false ∧ (kd == 2) = false ∧ (kd == 3) = false ∧ (kd == 4) = true) ∨ ((kd == 1) = false ∧ (kd == 2) = false ∧ (kd == 3) = false ∧ (kd == 4) = false ∧ (kd == 5) = true) ∨ ((kd == 1) = false ∧ (kd == 2) = false ∧ (kd == 3) = false ∧ (kd == 4) = false ∧ (kd == 5) = false) := by
          cases h1 : kd == 1 <;> cases h2 : kd == 2 <;> cases h3 : kd == 3 <;> cases h4 : kd == 4 <;> cases h5 : kd == 5 <;> simp
        rcases hcase with r1 | ⟨r1, r2⟩ | ⟨r1, r2, r3⟩ | ⟨r1, r2, r3, r4⟩ | ⟨r1, r2, r3, r4, r5⟩ | ⟨r1, r2, r3, r4, r5⟩
        · have X := Begin_tq pi0.1
          rw [HP.out.sim.begN, HP.out.sim.begE] at X
          have HCL := Lib.hid X
          have HPB := Lib.hid HP.out.beg
          have H92 := Lib.hid (fun (W : World) (hW : R3 W A2 n2 R.ones) => rBegin_any A2 n2 c2 R W hW (by omega) hp1 hp2)
          have HPC := Lib.hid (fun (W : World) h1 h2 => pi0.called (T' := begT T) (w' := W) h1 h2)
          have e1 : (begRN R != begRN R) = false := by simp
          have e2 : (begRE R != begRE R) = false := by simp
          clear X ob pi0
          generalize begRN R = rn at *
          generalize begRE R = re at *
          go_wp2_with fail
          refine HCL.out.mono ?_
          rintro e w5 ⟨rfl, s5, o5⟩
          have pi5 := HPC.out w5 s5 o5
          have bx5 := pi5.2.1
          clear s5 o5 HCL HPC
          have c0 := bx5.c0
          have c1 := bx5.c1
          have c2 := bx5.c2
          have c3 := bx5.c3
          have z0 := bx5.frozen 0
          have z1 := bx5.frozen 1
          have z2 := bx5.frozen 2
          have z3 := bx5.frozen 3
          have X := H92.out w5 pi5.2.2.1
          unfold rvV at X
          have H922 := Lib.hid X
          clear X H92 bx5
          go_wp2_with fail
          refine H922.out.mono ?_
          rintro e w6 ⟨A6, n6, c6, rfl, rn6⟩
          have hb67 := gr_alloc (gr_refl w6) (.cells #[.slice A6 n6 c6, .int .i64 (begR R).first, .int .i64 (begR R).next, .int .i64 (begR R).last] 92)
          have pi7 := pi5.put (c' := c6) rn6 hb67
          have bx7 := (pi5.below rn6.2.1).2.1.below hb67
          clear c0 c1 c2 c3 z0 z1 z2 z3 H922 hb67 rn6 pi5
          have c0 := bx7.c0
          have c1 := bx7.c1
          have c2 := bx7.c2
          have c3 := bx7.c3
          have z0 := bx7.frozen 0
          have z1 := bx7.frozen 1
          have z2 := bx7.frozen 2
          have z3 := bx7.frozen 3
          generalize (begR R).first = rf at *
          generalize (begR R).next = rx at *
          generalize (begR R).last = rl at *
          go_wp2_with fail
          go_meet
          exact ⟨_, _, _, _, _, HPB, pi7.sub (fun j e => e.elim)⟩
        · obtain rfl : kd = 2 := by simpa using r2
          clear r1 r2
          have pi1 := pi0.below (gr_alloc (gr_refl wo) (.cells #[.int .i64 0, .int .i64 0, .int .i64 2, .int .i64 4, .int .i64 3] 3))
          have ob1 := keep_of_below (gr_alloc (gr_refl wo) (.cells #[.int .i64 0, .int .i64 0, .int .i64 2, .int .i64 4, .int .i64 3] 3)) ob.1
          have ob2 := keep_of_below (gr_alloc (gr_refl wo) (.cells #[.int .i64 0, .int .i64 0, .int .i64 2, .int .i64 4, .int .i64 3] 3)) ob.2
          have X := Commit_tq tx pi1.1 hpb.1 hpb.2 (by rw [← HP.out.sim.la]; exact hp0) (by rw [← HP.out.sim.la]; omega)
          rw [HP.out.sim.askE tx 2 (by decide)] at X
          have HCL := Lib.hid X
          have HPB := Lib.hid (HP.out.com tx)
          have HPC := Lib.hid (fun (W : World) h1 h2 => pi1.called (T' := comT T tx) (w' := W) h1 h2)
          have HOT := Lib.hid (fun (W : World) (h : Off (fun j => ¬ (j = bx ∨ blk A2 j ∨ j = gb)) (wo.alloc (.cells #[.int .i64 0, .int .i64 0, .int .i64 2, .int .i64 4, .int .i64 3] 3)) W) => PI.cellX (p := ⟨gb, 1, none⟩) h rfl ob2)
          have H92 := Lib.hid (fun (W : World) (hW : R3 W A2 n2 R.ones) => rEnd_any A2 n2 c2 R tx 2 W hW (by omega) hp0 (by omega))
          have e2 : (endRE R tx 2 != endRE R tx 2) = false := by simp
          clear X ob pi0 pi1
          generalize endRE R tx 2 = re at *
          go_wp2_with fail
          refine HCL.out.mono ?_
          rintro e w5 ⟨rfl, s5, o5⟩
          have pi5 := HPC.out w5 s5 o5
          have ot := HOT.out w5 o5
          have bx5 := pi5.2.1
          clear s5 o5 HCL HPC HOT ob1 ob2
          have c0 := bx5.c0
          have c1 := bx5.c1
          have c2 := bx5.c2
          have c3 := bx5.c3
          have z0 := bx5.frozen 0
          have z1 := bx5.frozen 1
          have z2 := bx5.frozen 2
          have z3 := bx5.frozen 3
          have X := H92.out w5 pi5.2.2.1
          unfold rvV at X
          have H922 := Lib.hid X
          clear X H92 bx5
          go_wp2_with fail
          refine H922.out.mono ?_
          rintro e w6 ⟨A6, n6, c6, rfl, rn6⟩
          have hb67 := gr_alloc (gr_refl w6) (.cells #[.slice A6 n6 c6, .int .i64 (endR R tx 2).first, .int .i64 (endR R tx 2).next, .int .i64 (endR R tx 2).last] 92)
          have pi7 := pi5.put (c' := c6) rn6 hb67
          have bx7 := (pi5.below rn6.2.1).2.1.below hb67
          clear c0 c1 c2 c3 z0 z1 z2 z3 H922 hb67 rn6 pi5 ot
          have c0 := bx7.c0
          have c1 := bx7.c1
          have c2 := bx7.c2
          have c3 := bx7.c3
          have z0 := bx7.frozen 0
          have z1 := bx7.frozen 1
          have z2 := bx7.frozen 2
          have z3 := bx7.frozen 3
          generalize (endR R tx 2).first = rf at *
          generalize (endR R tx 2).next = rx at *
          generalize (endR R tx 2).last = rl at *
          go_wp2_with fail
          go_meet
          exact ⟨_, _, _, _, _, HPB, pi7.sub (fun j e => e.elim)⟩
        · obtain rfl : kd = 3 := by simpa using r3
          clear r1 r2 r3
          have pi1 := pi0.below (gr_alloc (gr_refl wo) (.cells #[.int .i64 0, .int .i64 0, .int .i64 2, .int .i64 4, .int .i64 3] 3))
          have ob1 := keep_of_below (gr_alloc (gr_refl wo) (.cells #[.int .i64 0, .int .i64 0, .int .i64 2, .int .i64 4, .int .i64 3] 3)) ob.1
          have ob2 := keep_of_below (gr_alloc (gr_refl wo) (.cells #[.int .i64 0, .int .i64 0, .int .i64 2, .int .i64 4, .int .i64 3] 3)) ob.2
          have X := Abort_tq tx pi1.1 hpb.1 hpb.2
          rw [HP.out.sim.askE tx 4 (by decide)] at X
          have HCL := Lib.hid X
          have HPB := Lib.hid (HP.out.abo tx)
          have HPC := Lib.hid (fun (W : World) h1 h2 => pi1.called (T' := aboT T tx) (w' := W) h1 h2)
          have HOT := Lib.hid (fun (W : World) (h : Off (fun j => ¬ (j = bx ∨ blk A2 j ∨ j = gb)) (wo.alloc (.cells #[.int .i64 0, .int .i64 0, .int .i64 2, .int .i64 4, .int .i64 3] 3)) W) => PI.cellX (p := ⟨gb, 1, none⟩) h rfl ob2)
          have H92 := Lib.hid (fun (W : World) (hW : R3 W A2 n2 R.ones) => rEnd_any A2 n2 c2 R tx 4 W hW (by omega) hp0 (by omega))
          have e2 : (endRE R tx 4 != endRE R tx 4) = false := by simp
          clear X ob pi0 pi1
          generalize endRE R tx 4 = re at *
          go_wp2_with fail
          refine HCL.out.mono ?_
          rintro e w5 ⟨rfl, s5, o5⟩
          have pi5 := HPC.out w5 s5 o5
          have ot := HOT.out w5 o5
          have bx5 := pi5.2.1
          clear s5 o5 HCL HPC HOT ob1 ob2
          have c0 := bx5.c0
          have c1 := bx5.c1
          have c2 := bx5.c2
          have c3 := bx5.c3
          have z0 := bx5.frozen 0
          have z1 := bx5.frozen 1
          have z2 := bx5.frozen 2
          have z3 := bx5.frozen 3
          have X := H92.out w5 pi5.2.2.1
          unfold rvV at X
          have H922 := Lib.hid X
          clear X H92 bx5
          go_wp2_with fail
          refine H922.out.mono ?_
          rintro e w6 ⟨A6, n6, c6, rfl, rn6⟩
          have hb67 := gr_alloc (gr_refl w6) (.cells #[.slice A6 n6 c6, .int .i64 (endR R tx 4).first, .int .i64 (endR R tx 4).next, .int .i64 (endR R tx 4).last] 92)
          have pi7 := pi5.put (c' := c6) rn6 hb67
          have bx7 := (pi5.below rn6.2.1).2.1.below hb67
          clear c0 c1 c2 c3 z0 z1 z2 z3 H922 hb67 rn6 pi5 ot
          have c0 := bx7.c0
          have c1 := bx7.c1
          have c2 := bx7.c2
          have c3 := bx7.c3
          have z0 := bx7.frozen 0
          have z1 := bx7.frozen 1
          have z2 := bx7.frozen 2
          have z3 := bx7.frozen 3
          generalize (endR R tx 4).first = rf at *
          generalize (endR R tx 4).next = rx at *
          generalize (endR R tx 4).last = rl at *
          go_wp2_with fail
          go_meet
          exact ⟨_, _, _, _, _, HPB, pi7.sub (fun j e => e.elim)⟩
        · obtain rfl : kd = 4 := by simpa using r4
          clear r1 r2 r3 r4
          have pi1 := pi0.below (gr_alloc (gr_refl wo) (.cells #[.int .i64 0, .int .i64 0, .int .i64 2, .int .i64 4, .int .i64 3] 3))
          have ob1 := keep_of_below (gr_alloc (gr_refl wo) (.cells #[.int .i64 0, .int .i64 0, .int .i64 2, .int .i64 4, .int .i64 3] 3)) ob.1
          have ob2 := keep_of_below (gr_alloc (gr_refl wo) (.cells #[.int .i64 0, .int .i64 0, .int .i64 2, .int .i64 4, .int .i64 3] 3)) ob.2
          have X := Kill_tq tx pi1.1 hpb.1 hpb.2
          rw [HP.out.sim.kilE tx] at X
          have HCL := Lib.hid X
          have HPB := Lib.hid (HP.out.kil tx)
          have HPC := Lib.hid (fun (W : World) h1 h2 => pi1.called (T' := kilT T tx) (w' := W) h1 h2)
          have HOT := Lib.hid (fun (W : World) (h : Off (fun j => ¬ (j = bx ∨ blk A2 j ∨ j = gb)) (wo.alloc (.cells #[.int .i64 0, .int .i64 0, .int .i64 2, .int .i64 4, .int .i64 3] 3)) W) => PI.cellX (p := ⟨gb, 1, none⟩) h rfl ob2)
          have H92 := Lib.hid (fun (W : World) (hW : R3 W A2 n2 R.ones) => rEnd_any A2 n2 c2 R tx 3 W hW (by omega) hp0 (by omega))
          have e2 : (endRE R tx 3 != endRE R tx 3) = false := by simp
          clear X ob pi0 pi1
          generalize endRE R tx 3 = re at *
          go_wp2_with fail
          refine HCL.out.mono ?_
          rintro e w5 ⟨rfl, s5, o5⟩
          have pi5 := HPC.out w5 s5 o5
          have ot := HOT.out w5 o5
          have bx5 := pi5.2.1
          clear s5 o5 HCL HPC HOT ob1 ob2
          have c0 := bx5.c0
          have c1 := bx5.c1
          have c2 := bx5.c2
          have c3 := bx5.c3
          have z0 := bx5.frozen 0
          have z1 := bx5.frozen 1
          have z2 := bx5.frozen 2
          have z3 := bx5.frozen 3
          have X := H92.out w5 pi5.2.2.1
          unfold rvV at X
          have H922 := Lib.hid X
          clear X H92 bx5
          go_wp2_with fail
          refine H922.out.mono ?_
          rintro e w6 ⟨A6, n6, c6, rfl, rn6⟩
          have hb67 := gr_alloc (gr_refl w6) (.cells #[.slice A6 n6 c6, .int .i64 (endR R tx 3).first, .int .i64 (endR R tx 3).next, .int .i64 (endR R tx 3).last] 92)
          have pi7 := pi5.put (c' := c6) rn6 hb67
          have bx7 := (pi5.below rn6.2.1).2.1.below hb67
          clear c0 c1 c2 c3 z0 z1 z2 z3 H922 hb67 rn6 pi5 ot
          have c0 := bx7.c0
          have c1 := bx7.c1
          have c2 := bx7.c2
          have c3 := bx7.c3
          have z0 := bx7.frozen 0
          have z1 := bx7.frozen 1
          have z2 := bx7.frozen 2
          have z3 := bx7.frozen 3
          generalize (endR R tx 3).first = rf at *
          generalize (endR R tx 3).next = rx at *
          generalize (endR R tx 3).last = rl at *
          go_wp2_with fail
          go_meet
          exact ⟨_, _, _, _, _, HPB, pi7.sub (fun j e => e.elim)⟩
        · obtain rfl : kd = 5 := by simpa using r5
          clear r1 r2 r3 r4
          have pid := pi0.below (gr_drew (gr_refl wo))
          have HCL := Lib.hid (Bury_tq pid.1 HP.out.dead)
          have HPB := Lib.hid HP.out.bury
          have HPC := Lib.hid (fun (W : World) h1 h2 => pid.called (T' := burT T) (w' := W) h1 h2)
          have HAL := Lib.hid (fun (W : World) (hW : R3 W A2 n2 R.ones) => by
            have h := rAll_any A2 n2 c2 R.first R.next R.last 3 R.ones W hW (by omega)
            rw [← HP.out.sim.de] at h
            unfold rvV at h
            exact h)
          have hdl : T.dead.length ≤ 1000 := by rw [HP.out.sim.de]; have := all_len R.ones 3; omega
          have H92 := Lib.hid (fun (W : World) (hW : R3 W A2 n2 R.ones) => by
            have h := rBury_any A2 n2 c2 R W hW (by omega)
            unfold rvV at h
            exact h)
          have HBX : Hid (∀ (W : World) (TT : TabS), PI w W g bx (fun j => j = gb) TT A2 n2 c2 R → W.cell? ⟨bx, 0, none⟩ = some (.slice A2 n2 c2) ∧ W.cell? ⟨bx, 1, none⟩ = some (.int .i64 R.first) ∧ W.cell? ⟨bx, 2, none⟩ = some (.int .i64 R.next) ∧ W.cell? ⟨bx, 3, none⟩ = some (.int .i64 R.last)) := Lib.hid (fun W TT h => ⟨h.2.1.c0, h.2.1.c1, h.2.1.c2, h.2.1.c3⟩)
          obtain ⟨c0, c1, c2', c3⟩ := HBX.out wo T pi0
          have HSI := Lib.hid (fun (a b : World) (Ao Bo : Option Addr) (co mo b0 b1 : Nat) (h1 : a.ownsRow b0 3 1 (.slice Ao T.dead.length co) T.dead.length (T.dead.map (Value.int .i64))) (h2 : OR b b1 3 (.slice Bo T.dead.length mo) T.dead.length (T.dead.map (Value.int .i64))) (h3 : Below a.heap.size a b) => by
            have h := SameInts_any Ao Bo T.dead.length T.dead.length co mo T.dead T.dead b (IR.below (own_rd h1) h3) h2.rd (by omega) (by omega)
            rw [show (T.dead == T.dead) = true from by simp] at h
            exact h)
          clear ob pi0 pid
          generalize T.dead.length = nd at *
          generalize T.dead.map (Value.int .i64) = xd at *
          generalize hrf : R.first = rf at HBX HAL H92 c1
          generalize hrx : R.next = rx at HBX HAL H92 c2'
          generalize hrl : R.last = rl at HBX HAL H92 c3
          have HRF := Lib.hid hrf
          have HRX := Lib.hid hrx
          have HRL := Lib.hid hrl
          clear hrf hrx hrl
          go_upto_region 35 with fail
          go_cut [137] (fun b wx => b = .bool false ∧ PI w wx g bx (fun j => j = gb) (burT T) A2 n2 c2 R)
          case first =>
            go_region_held3 (fun W' => W'.cell? ⟨bx, 0, none⟩ = some (.slice A2 n2 c2) ∧ W'.cell? ⟨bx, 1, none⟩ = some (.int .i64 rf) ∧ W'.cell? ⟨bx, 2, none⟩ = some (.int .i64 rx) ∧ W'.cell? ⟨bx, 3, none⟩ = some (.int .i64 rl))
              (first | go_keep | exact HBX.out _ _ pi7 | exact HBX.out _ _ pi6 | exact HBX.out _ _ pi5)
              (first
                | (go_at_call 51; refine HCL.out.mono ?_; rintro e w5 ⟨v5, rfl, ho5, s5, o5⟩; obtain ⟨Ad, cd, rfl, _, _⟩ := own_form ho5; have pi5 := HPC.out w5 s5 o5)
                | (go_at_call 56; refine (HAL.out _ pi5.2.2.1).mono ?_; rintro e w6 ⟨Bd, md, rfl, ho6, hb6⟩; have pi6 := pi5.below hb6)
                | (go_at_call 48; refine (HSI.out _ _ Ad Bd cd md _ _ ho5 ho6 hb6).mono ?_; rintro e w7 ⟨rfl, hb7⟩; have pi7 := pi6.below hb7))
            all_goals
              go_wp2_with fail
              go_meet
              exact ⟨rfl, pi7⟩
          case rest =>
            obtain ⟨rfl, pi5⟩ := hcut
            clear c0 c1 c2' c3
            obtain ⟨c0, c1, c2', c3⟩ := HBX.out _ _ pi5
            have H922 := Lib.hid (H92.out _ pi5.2.2.1)
            go_wp2_with fail
            refine H922.out.mono ?_
            rintro e w6 ⟨A6, n6, c6, rfl, rn6⟩
            have pi7 := pi5.put (c' := c6) rn6 (gr_refl w6)
            have bx7 := (pi5.below rn6.2.1).2.1
            clear c0 c1 c2' c3 H922 rn6 pi5 H92 HBX HAL HSI HCL HPC
            have c0 := bx7.c0
            have c1 := bx7.c1
            have c2 := bx7.c2
            have c3 := bx7.c3
            have z0 := bx7.frozen 0
            have z1 := bx7.frozen 1
            have z2 := bx7.frozen 2
            have z3 := bx7.frozen 3
            generalize (buryR R).first = rf' at *
            generalize (buryR R).next = rx' at *
            generalize (buryR R).last = rl' at *
            go_wp2_with fail
            go_meet
            exact ⟨_, _, _, _, _, HPB, pi7.sub (fun j e => e.elim)⟩
        · go_wp2_with fail
          go_meet
          exact ⟨T, A2, n2, c2, R, Lib.hid (HP.out.mono (by omega)), pi0.sub (fun j e => e.elim)⟩
      case rest =>
        clear pi0 HP hn2 hpn hpl hp0 hp1 hp2 ob
        obtain ⟨T', A9, n9, c9, R', HP, pi⟩ := hcut
        have hn9 := pi.2.2.1.2
        have hpn := HP.out.n
        have X := looks_any w g T' A9 n9 c9 R' wc pi.1.ts pi.2.2.1 HP.out.sim (by omega) (by rw [HP.out.f]; exact h1) (by rw [HP.out.f]; exact h2)
        unfold rvV at X
        have HLK := Lib.hid X
        have bxc := pi.2.1
        clear X hn9
        have c0 := bxc.c0
        have c1 := bxc.c1
        have c2 := bxc.c2
        have c3 := bxc.c3
        have z0 := bxc.frozen 0
        have z1 := bxc.frozen 1
        have z2 := bxc.frozen 2
        have z3 := bxc.frozen 3
        generalize R'.first = rf at *
        generalize R'.next = rx at *
        generalize R'.last = rl at *
        go_wp2_with fail
        refine HLK.out.mono ?_
        rintro e w9 ⟨rfl, hb9⟩
        go_wp2_with fail
        go_roundw
        case rel => exact ⟨k + 1, T', A9, n9, c9, R', by omega, by omega, by go_num, HP, pi.below hb9⟩
        case measure => simp [intOf]; omega
    · have hend : (decide ((k : Int) < (m : Int)) = false ∧ decide (k < m) = false) ∨ (k < m ∧ decide ((k : Int) < 60) = false ∧ decide ((k : Int) < (m : Int)) = true ∧ decide (k < m) = true) := by
        rcases Nat.lt_or_ge k m with h | h
        · exact .inr ⟨h, by simp; omega, by simp; omega, by simp; omega⟩
        · exact .inl ⟨by simp; omega, by simp; omega⟩
      clear hlt
      rcases hend with ⟨t1, t2⟩ | ⟨t0, t1, t2, t3⟩
      all_goals
        go_wp2_with fail
        refine (awake14_any _).mono ?_
        rintro e z1 ⟨rfl, hz⟩
        go_wp2_with fail
        go_ret
        exact ⟨rfl, gr_trans pi.1.1 hz⟩

theorem SnapshotPlays_any (nx : Int) (A : Option Addr) (n c : Nat) (l : List Int) (S : Option Addr) (m d : Nat) (ps : List (Int × Int)) (w : World) (ha : IR w A n l) (hs : O2 w S m ps) (hp : ∀ p ∈ ps, -9223372036854775808 ≤ p.2 ∧ p.2 ≤ 9223372036854775807) (hpl : ps.length = m) (hn : n ≤ 17592186043904) :
    Calls Try.prog 13 #[.int .i64 nx, .slice A n c, .slice S m d] w fun e w' => e = .returned (.bool true) ∧ Below w.heap.size w w' := by
  by_cases hbad : nx < 1 ∨ 4611686018427387904 < nx ∨ 64 < n ∨ ¬ Rise 0 nx l
  · exact SnapshotPlays_bad nx A n c l S m d w ha hn hbad
  · have h1 : 1 ≤ nx := Int.not_lt.1 (fun h => hbad (.inl h))
    have h2 : nx ≤ 4611686018427387904 := Int.not_lt.1 (fun h => hbad (.inr (.inl h)))
    have h3 : n ≤ 64 := Nat.not_lt.1 (fun h => hbad (.inr (.inr (.inl h))))
    have h4 : Rise 0 nx l := Classical.byContradiction (fun h => hbad (.inr (.inr (.inr h))))
    exact SnapshotPlays_good nx A n c l S m d ps w ha hs hp h1 h2 h3 h4 hpl

end Go.Proofs.Ytjopobkcijkpmaa
