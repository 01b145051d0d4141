/-
  The walk of DiskSpares.
-/
import Derived.Test.YtjopobkcijkpmaaDkM
namespace Go.Proofs.Ytjopobkcijkpmaa
open Go.RowKit

/-- One of four. -/
def pick4 {α : Type} (a b c d : α) (j : Nat) : α := if j = 0 then a else if j = 1 then b else if j = 2 then c else d

/-- Four lists of 4096 bytes in blocks of their own. -/
theorem four_apart {w : World} {base q0 q1 q2 q3 c0 c1 c2 c3 : Nat} {l0 l1 l2 l3 : List UInt8} (h0 : OB w base (.slice (some ⟨q0, 0, none⟩) 4096 c0) l0) (h1 : OB w base (.slice (some ⟨q1, 0, none⟩) 4096 c1) l1) (h2 : OB w base (.slice (some ⟨q2, 0, none⟩) 4096 c2) l2)
    (h3 : OB w base (.slice (some ⟨q3, 0, none⟩) 4096 c3) l3) (e0 : l0.length = 4096) (e1 : l1.length = 4096) (e2 : l2.length = 4096) (e3 : l3.length = 4096) (n01 : q0 ≠ q1) (n02 : q0 ≠ q2) (n03 : q0 ≠ q3) (n12 : q1 ≠ q2) (n13 : q1 ≠ q3) (n23 : q2 ≠ q3) :
    Ap1 w base 4 (pick4 (some ⟨q0, 0, none⟩) (some ⟨q1, 0, none⟩) (some ⟨q2, 0, none⟩) (some ⟨q3, 0, none⟩)) (fun _ => 4096) (pick4 c0 c1 c2 c3) (pick4 l0 l1 l2 l3) ∧
    ApD 4 (pick4 (some ⟨q0, 0, none⟩) (some ⟨q1, 0, none⟩) (some ⟨q2, 0, none⟩) (some ⟨q3, 0, none⟩)) (fun _ => 4096) (pick4 c0 c1 c2 c3) ∧
    (∀ k, apS 4 (pick4 (some ⟨q0, 0, none⟩) (some ⟨q1, 0, none⟩) (some ⟨q2, 0, none⟩) (some ⟨q3, 0, none⟩)) (fun _ => 4096) (pick4 c0 c1 c2 c3) k → k = q0 ∨ k = q1 ∨ k = q2 ∨ k = q3) ∧
    (∀ j, j < 4 → (#[.slice (some ⟨q0, 0, none⟩) 4096 c0, .slice (some ⟨q1, 0, none⟩) 4096 c1, .slice (some ⟨q2, 0, none⟩) 4096 c2, .slice (some ⟨q3, 0, none⟩) 4096 c3] : Array Value)[j]? = some (apV (pick4 (some ⟨q0, 0, none⟩) (some ⟨q1, 0, none⟩) (some ⟨q2, 0, none⟩) (some ⟨q3, 0, none⟩)) (fun _ => 4096) (pick4 c0 c1 c2 c3) j)) := by
  have four : ∀ j : Nat, j < 4 → j = 0 ∨ j = 1 ∨ j = 2 ∨ j = 3 := fun j hj => by omega
  refine ⟨⟨fun j hj => ?_, fun j hj => ?_⟩, fun i j hi hj hne => ?_, fun k ⟨j, hj, e⟩ => ?_, fun j hj => ?_⟩
  · rcases four j hj with rfl | rfl | rfl | rfl
    · exact h0
    · exact h1
    · exact h2
    · exact h3
  · rcases four j hj with rfl | rfl | rfl | rfl
    · exact e0
    · exact e1
    · exact e2
    · exact e3
  · refine .inr ?_
    have hb : ∀ i, i < 4 → (apV (pick4 (some ⟨q0, 0, none⟩) (some ⟨q1, 0, none⟩) (some ⟨q2, 0, none⟩) (some ⟨q3, 0, none⟩)) (fun _ => 4096) (pick4 c0 c1 c2 c3) i).ownBlock = some (pick4 q0 q1 q2 q3 i) := fun i hi => by
      rcases four i hi with rfl | rfl | rfl | rfl <;> rfl
    rw [hb i hi, hb j hj]
    intro e
    injection e with e
    unfold pick4 at e
    rcases four i hi with rfl | rfl | rfl | rfl <;> rcases four j hj with rfl | rfl | rfl | rfl <;> simp at e <;> omega
  · rcases four j hj with rfl | rfl | rfl | rfl
    · exact .inl (Option.some.inj e).symm
    · exact .inr (.inl (Option.some.inj e).symm)
    · exact .inr (.inr (.inl (Option.some.inj e).symm))
    · exact .inr (.inr (.inr (Option.some.inj e).symm))
  · rcases four j hj with rfl | rfl | rfl | rfl <;> rfl

set_option maxRecDepth 100000 in
set_option maxHeartbeats 2000000 in
theorem DiskSpares_any (seed : Int) (w : World) :
    Calls Try.prog 4 #[.int .i64 seed] w fun e w' => e = .returned (.bool true) ∧ Below w.heap.size w w' := by
  have hLl := madeL_len seed 4096
  go_enter Try.func4, Try.ntmps4
  have HLL := Lib.hid hLl
  clear hLl
  go_wp2_with fail
  refine (New_any 2 w (by omega) (by omega)).mono ?_
  rw [newD_calm]
  rintro e w1 ⟨g, F, rfl, hd, hb⟩
  go_wp2_with fail
  refine (Made_any seed 4096 w1 (by omega)).mono ?_
  rintro e w2 ⟨rfl, hB, hb1⟩
  have hF1 := fun k hk => (hd.foot_lt k hk).2
  have hd2 := hd.below hb1
  have hr := hB.readsAll
  rw [HLL.out] at hr
  have X := Write_any w2 _ _ g F _ 1 _ 4096 4096 _ hd2 hr (fun ad e hf => by cases e; have := hF1 _ hf; dsimp only at this; omega) (by omega) (by simp [calmD])
  have e1 := writeE_calm (List.replicate 2 zer) [] 1 (by simp)
  have e2 := writeD_calm (List.replicate 2 zer) [] 1 (madeL seed 4096) (by simp) HLL.out
  rw [show ((1 : Nat) : Int) = 1 from rfl] at e1 e2
  rw [e1, e2] at X
  have HX := Lib.hid X
  have HF1 := Lib.hid hF1
  have hs1 := hb1.size
  have hs2 := hB.lt
  clear X e1 e2 hd hr hF1
  go_wp2_with fail
  refine HX.out.mono ?_
  clear HX
  rintro e w3 ⟨rfl, ho3, F2, hd3, hF2⟩
  have hi3 := (hd2.kb ho3).bb hB
  have hsw := hb.size
  have hs3 := ho3.size
  have hd3' := hd3.sharp
  have hb3 := (gr_trans hb hb1).trans (ho3.below (fun k hk => (hd2.foot_lt k hk).1) (gr_trans hb hb1).size)
  have HF2 : Hid (∀ k, F2 k → (k < w1.heap.size ∨ w2.heap.size ≤ k) ∧ k < w3.heap.size) := Lib.hid (fun k hk => ⟨(hF2 k hk).imp_left (HF1.out k), (hd3.foot_lt k hk).2⟩)
  clear hd2 hd3 hB hF2 ho3 hb hb1
  have X := Read_any w3 _ _ g F2 _ 1 hd3' (by simp [calmD])
  have e1 := readE_calm (List.replicate 2 zer) [(1, madeL seed 4096)] 1 (by simp)
  have e2 := readL_calm (List.replicate 2 zer) [(1, madeL seed 4096)] 1 (by simp)
  rw [show ((1 : Nat) : Int) = 1 from rfl] at e1 e2
  rw [List.nil_append, e1, e2, show lastL (List.replicate 2 zer) [(1, madeL seed 4096)] 1 = madeL seed 4096 from rfl] at X
  have HX := Lib.hid X
  clear X e1 e2
  go_wp2_with fail
  refine HX.out.mono ?_
  clear HX
  rintro e w4 ⟨va, rfl, hoa, hb4⟩
  obtain ⟨qa, ca, rfl, hqa1, hqa2, _⟩ := hoa.full HLL.out
  have hd4 := hd3'.below hb4
  have hi4 := hi3.kept hb4
  have hs4 := hb4.size
  clear hd3' hi3
  have X := Sync_any w4 _ _ g F2 _ hd4 (by simp [calmD])
  rw [opC_calm, syncD_calm, List.nil_append, show carry (List.replicate 2 zer) [(1, madeL seed 4096)] = [zer, madeL seed 4096] from rfl] at X
  have HX := Lib.hid X
  clear X
  go_wp2_with fail
  refine HX.out.mono ?_
  clear HX
  rintro e w5 ⟨rfl, ho5, F3, hd5, hF3⟩
  have hk5 := hd4.kb ho5
  have hi5 := hk5.bb hi4
  have hoa5 := hk5.ob hoa
  have hs5 := ho5.size
  have hd5' := hd5.sharp
  have hb5 := (gr_trans hb3 hb4).trans (ho5.below (fun k hk => (hd4.foot_lt k hk).1) (gr_trans hb3 hb4).size)
  have HF3 : Hid (∀ k, F3 k → ((k < w1.heap.size ∨ w2.heap.size ≤ k) ∧ k < w3.heap.size) ∨ (w4.heap.size ≤ k ∧ k < w5.heap.size)) := Lib.hid (fun k hk => by
    have h5 := (hd5.foot_lt k hk).2
    rcases hF3 k hk with h | h
    · exact .inl (HF2.out k h)
    · exact .inr ⟨h, h5⟩)
  clear hd4 hd5 hF3 ho5 hk5 hi4 hoa HF2
  have X := Read_any w5 _ _ g F3 _ 1 hd5' (by simp [calmD])
  have e1 := readE_calm [zer, madeL seed 4096] [] 1 (by simp)
  have e2 := readL_calm [zer, madeL seed 4096] [] 1 (by simp)
  rw [show ((1 : Nat) : Int) = 1 from rfl] at e1 e2
  rw [e1, e2, show lastL [zer, madeL seed 4096] [] 1 = madeL seed 4096 from rfl] at X
  have HX := Lib.hid X
  clear X e1 e2
  go_wp2_with fail
  refine HX.out.mono ?_
  clear HX
  rintro e w6 ⟨vb, rfl, hob, hb6⟩
  obtain ⟨qb, cb, rfl, hqb1, hqb2, _⟩ := hob.full HLL.out
  have hd6 := hd5'.below hb6
  have hi6 := hi5.kept hb6
  have hoa6 := hoa5.below hb6
  have hs6 := hb6.size
  clear hd5' hi5 hoa5
  have X := Durable_any w6 _ _ g F3 _ 1 hd6
  have e1 := askE_calm [zer, madeL seed 4096] [] 1 (by simp)
  have e2 := durL_calm [zer, madeL seed 4096] [] 1 (by simp)
  rw [show ((1 : Nat) : Int) = 1 from rfl] at e1 e2
  rw [e1, e2, show [zer, madeL seed 4096].getD 1 [] = madeL seed 4096 from rfl] at X
  have HX := Lib.hid X
  clear X e1 e2
  go_wp2_with fail
  refine HX.out.mono ?_
  clear HX
  rintro e w7 ⟨vc, rfl, hoc, hb7⟩
  obtain ⟨qc, cc, rfl, hqc1, hqc2, _⟩ := hoc.full HLL.out
  have hd7 := hd6.below hb7
  have hi7 := hi6.kept hb7
  have hoa7 := hoa6.below hb7
  have hob7 := hob.below hb7
  have hs7 := hb7.size
  clear hd6 hi6 hoa6 hob
  have hb77 := gr_trans (gr_trans hb5 hb6) hb7
  clear hb5 hb6 hb7 hb3 hb4
  go_wp2_with fail
  refine (sameB_own _ _ (madeL seed 4096) _ hoa7 hob7).mono ?_
  rintro e w' ⟨rfl, rfl⟩
  go_wp2_with fail
  refine (sameB_own _ _ (madeL seed 4096) _ hob7 hoc).mono ?_
  rintro e w' ⟨rfl, rfl⟩
  have hsB := hb77.size
  have hb8 := gr_alloc (gr_refl w7) (.cells #[.slice (some ⟨qa, 0, none⟩) 4096 ca, .slice (some ⟨qb, 0, none⟩) 4096 cb, .slice (some ⟨qc, 0, none⟩) 4096 cc, .slice (some ⟨w1.heap.size, 0, none⟩) 4096 4096] 33)
  have hoi7 := hi7.own (base := w1.heap.size) (Nat.le_refl _) (by rw [HLL.out]; simp [maxLen])
  rw [HLL.out] at hoi7
  have hd8 := hd7.below hb8
  obtain ⟨p1, p2, p3, p4⟩ := four_apart (w := w7.alloc (.cells #[.slice (some ⟨qa, 0, none⟩) 4096 ca, .slice (some ⟨qb, 0, none⟩) 4096 cb, .slice (some ⟨qc, 0, none⟩) 4096 cc, .slice (some ⟨w1.heap.size, 0, none⟩) 4096 4096] 33)) (base := w1.heap.size)
    ((hoa7.below hb8).lower (by omega)) ((hob7.below hb8).lower (by omega)) ((hoc.below hb8).lower (by omega)) (hoi7.below hb8) HLL.out HLL.out HLL.out HLL.out (by omega) (by omega) (by omega) (by omega) (by omega) (by omega)
  have X := ApartBytes_off w7.heap.size 4 4 w1.heap.size _ (0, 0) _ _ _ _ _ p1 p2 (heap_alloc_new w7 _) p4 (fun _ _ => by omega) (by rw [World.size_alloc]; omega) (by omega)
  have HX := Lib.hid X
  have HP3 := Lib.hid p3
  clear X p1 p2 p3 p4 hoa7 hob7 hoc hoi7 hi7 hd7
  go_wp2_with fail
  refine HX.out.mono ?_
  clear HX
  rintro e w9 ⟨rfl, ho9⟩
  have hd9 := hd8.offO ho9 (fun k hk hs => by
    have h1 := HF3.out k hk
    have h2 := HP3.out k hs
    omega) (fun k hs hok => by
    have h2 := HP3.out k hs
    have h3 : (((False ∨ w2.heap.size ≤ k) ∧ k < w3.heap.size) ∨ w4.heap.size ≤ k) ∧ k < w5.heap.size := hok
    rw [false_or] at h3
    omega)
  have hb9 := (gr_trans hb77 hb8).trans (ho9.below (B := w.heap.size) (fun k hs => by
    have h2 := HP3.out k hs
    omega) (by rw [World.size_alloc]; omega))
  have X := Read_any w9 _ _ g F3 _ 1 hd9 (by simp [calmD])
  have e1 := readE_calm [zer, madeL seed 4096] [] 1 (by simp)
  have e2 := readL_calm [zer, madeL seed 4096] [] 1 (by simp)
  rw [show ((1 : Nat) : Int) = 1 from rfl] at e1 e2
  rw [e1, e2, show lastL [zer, madeL seed 4096] [] 1 = madeL seed 4096 from rfl] at X
  have HX := Lib.hid X
  clear X e1 e2 hd8 hd9 ho9 hb77 hb8
  go_wp2_with fail
  refine HX.out.mono ?_
  clear HX
  rintro e w10 ⟨vz, rfl, hoz, hb10⟩
  obtain ⟨qz, cz, rfl, hqz1, hqz2, _⟩ := hoz.full HLL.out
  go_wp2_with fail
  refine (Made_any seed 4096 w10 (by omega)).mono ?_
  rintro e w11 ⟨rfl, hB11, hb11⟩
  have hom := hB11.own (base := w10.heap.size) (Nat.le_refl _) (by rw [HLL.out]; simp [maxLen])
  rw [HLL.out] at hom
  have hoz' := hoz.below hb11
  clear hoz hB11
  go_wp2_with fail
  refine (sameB_own _ _ (madeL seed 4096) _ hoz' hom).mono ?_
  rintro e w' ⟨rfl, rfl⟩
  go_wp2_with fail
  refine (awake03_any _).mono ?_
  rintro e w12 ⟨rfl, hb12⟩
  go_wp2
  go_ret
  exact ⟨rfl, gr_trans (gr_trans (gr_trans hb9 hb10) hb11) hb12⟩

end Go.Proofs.Ytjopobkcijkpmaa
