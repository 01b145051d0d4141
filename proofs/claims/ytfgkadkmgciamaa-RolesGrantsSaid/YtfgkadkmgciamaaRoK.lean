/-
  Join and Leave: the program's and the reference's.
-/
import Derived.Test.YtfgkadkmgciamaaRoJ
import Derived.Test.YtfgkadkmgciamaaRgn
namespace Go.Proofs.Ytfgkadkmgciamaa
open Go Go.RowKit

theorem CI.full {l : List Mb} {role : Str} : ∀ (k : Nat) (order : List Str) (p : Nat), CI l role order p → 2 * (l.length + 1) ≤ k + order.length + p → ∃ o2, CI l role o2 o2.length
  | 0, order, p, h, hk => by
    have h1 := h.len
    have h2 := h.le
    obtain rfl : p = order.length := by omega
    exact ⟨order, h⟩
  | k + 1, order, p, h, hk => by
    have h2 := h.le
    by_cases hp : p = order.length
    · subst hp
      exact ⟨order, h⟩
    · have hlt : p < order.length := by omega
      have hx : order[p]? = some order[p] := List.getElem?_eq_getElem hlt
      by_cases hc : ∃ m ∈ l, m.1 = order[p] ∧ m.2 ∉ order
      · obtain ⟨m, hm, e, hn⟩ := hc
        exact CI.full k _ p (h.push (by rw [e]; exact hx) hm hn) (by rw [List.length_append]; simp; omega)
      · exact CI.full k order (p + 1) (h.next hx fun m hm e => Classical.byContradiction fun hn => hc ⟨m, hm, e, hn⟩) (by omega)
theorem clos_exists (l : List Mb) (role : Str) : ∃ ss, Clos l role ss := by
  obtain ⟨o2, h⟩ := CI.full (2 * (l.length + 1)) [role] 0 (CI.start l role) (by omega)
  exact ⟨_, h.clos (List.Perm.refl _)⟩
theorem clos_len {l : List Mb} {role : Str} {ss : List Str} (h : Clos l role ss) : ss.length ≤ l.length + 1 := by
  obtain ⟨o2, h2⟩ := CI.full (2 * (l.length + 1)) [role] 0 (CI.start l role) (by omega)
  rw [Clos.unique h (h2.clos (List.Perm.refl _)), List.length_mergeSort]
  exact h2.len

/-- A slice of strings that reads as ss. -/
def VS (w : World) (v : Value) (ss : List Str) : Prop := ∃ A c, v = .slice A ss.length c ∧ ER ES 1 w A ss.length ss
theorem VS.below {w w' : World} {v : Value} {ss : List Str} (h : VS w v ss) (hb : Below w.heap.size w w') : VS w' v ss := by
  obtain ⟨A, c, e, h1⟩ := h
  exact ⟨A, c, e, h1.below hb⟩
def MP.vs (ss : List Str) : MP := ⟨fun v w => VS w v ss, fun _ _ _ hb h => h.below hb⟩
theorem EO.vs {T : TypeId} {w : World} {base : Nat} {v : Value} {ss : List Str} (h : EO ES 1 T w base v ss) : VS w v ss := by
  obtain ⟨A, c, e, h1, _⟩ := h.form
  exact ⟨A, c, e, h1⟩
/-- A slice of members that the region has made. -/
def MP.em (l : List Mb) (base : Nat) : MP := ⟨fun v w => ∃ A c, v = .slice A l.length c ∧ EO EM 2 52 w base (.slice A l.length c) l, fun _ _ _ hb h => by
  obtain ⟨A, c, e, h1⟩ := h
  exact ⟨A, c, e, h1.below hb⟩⟩
/-- One member, laid by the region. -/
def MP.m1 (m : Mb) : MP := ⟨fun v w => ∃ g, v = .slice (some ⟨g, 0, none⟩) 1 1 ∧ Rd w 2 (some ⟨g, 0, none⟩) 1 (EM m), fun _ _ _ hb h => by
  obtain ⟨g, e, h1⟩ := h
  exact ⟨g, e, h1.below hb⟩⟩

theorem Closure_at {l : List Mb} {role : Str} {cl : List Str} (hcl : Clos l role cl) (A : Option Addr) (n c : Nat) (w : World) (h : ER EM 2 w A n l) (hn : n ≤ 4398046511103) (hf : Fit l) (hr : role.length ≤ maxLen) :
    Calls Try.prog 29 #[.slice A n c, .string ⟨role.toArray⟩] w fun e w' => ∃ v, e = .returned v ∧ EO ES 1 9 w' w.heap.size v cl ∧ Below w.heap.size w w' := by
  refine (Closure_any A n c l role w h hn hf hr).mono ?_
  rintro e w' ⟨v, ss, rfl, h1, h2, _, h4⟩
  rw [Clos.unique h1 hcl] at h2
  exact ⟨v, rfl, h2, h4⟩
theorem refClosure_at {l : List Mb} {role : Str} {cl : List Str} (hcl : Clos l role cl) (A : Option Addr) (n c : Nat) (w : World) (h : ER EM 2 w A n l) (hn : n ≤ 4398046511103) :
    Calls Try.prog 30 #[.slice A n c, .string ⟨role.toArray⟩] w fun e w' => ∃ v, e = .returned v ∧ EO ES 1 9 w' w.heap.size v cl ∧ Below w.heap.size w w' := by
  refine (refClosure_any A n c l role w h hn).mono ?_
  rintro e w' ⟨v, ss, rfl, h1, h2, _, h4⟩
  rw [Clos.unique h1 hcl] at h2
  exact ⟨v, rfl, h2, h4⟩

/-- What Join answers. -/
def JoinP (l : List Mb) (m : Mb) (base : Nat) (e : Ending) (w' : World) : Prop :=
  (e = .returned (.tuple #[.slice none 0 0, .int .i64 321]) ∧ m ∈ l) ∨ (e = .returned (.tuple #[.slice none 0 0, .int .i64 310]) ∧ m ∉ l ∧ Reach l m.2 m.1) ∨
  ∃ v, e = .returned (.tuple #[v, .int .i64 0]) ∧ m ∉ l ∧ ¬ Reach l m.2 m.1 ∧ EO EM 2 52 w' base v (l ++ [m])
/-- What Leave answers. -/
def LeaveP (l : List Mb) (m : Mb) (base : Nat) (e : Ending) (w' : World) : Prop :=
  (e = .returned (.tuple #[.slice none 0 0, .int .i64 311]) ∧ m ∉ l) ∨ ∃ v, e = .returned (.tuple #[v, .int .i64 0]) ∧ m ∈ l ∧ EO EM 2 52 w' base v (l.filter fun x => !(x.1 == m.1 && x.2 == m.2))

set_option maxRecDepth 100000 in
set_option maxHeartbeats 4000000 in
theorem Join_any (A : Option Addr) (n c : Nat) (l : List Mb) (m : Mb) (w : World) (h : ER EM 2 w A n l) (hn : n ≤ 4398046511103) (hf : Fit l) (hm2 : m.2.length ≤ maxLen) :
    Calls Try.prog 24 #[.slice A n c, .agg #[.string ⟨m.1.toArray⟩, .string ⟨m.2.toArray⟩]] w fun e w' => JoinP l m w.heap.size e w' ∧ Below w.heap.size w w' := by
  obtain ⟨cl, hcl⟩ := clos_exists l m.2
  have HCL := Lib.hid hcl
  have hcn := clos_len hcl
  rw [h.1] at hcn
  have HM2 := Lib.hid hm2
  have HA := Lib.hid (gr_alloc (gr_refl w) (.cells #[.string ⟨m.1.toArray⟩, .string ⟨m.2.toArray⟩] 52))
  have HC := Lib.hid (heap_alloc_new w (.cells #[.string ⟨m.1.toArray⟩, .string ⟨m.2.toArray⟩] 52))
  have HS := Lib.hid (h.below HA.out)
  have HL := Lib.hid h.1
  have HF := Lib.hid hf
  obtain ⟨r1, hr1⟩ : ∃ r, r = hasM l m := ⟨_, rfl⟩
  obtain ⟨r2, hr2⟩ : ∃ r, r = cl.contains m.1 := ⟨_, rfl⟩
  have HR1 := Lib.hid hr1
  have HR2 := Lib.hid hr2
  clear h hf hm2 hcl hr1 hr2
  go_enter Try.func24, Try.ntmps24
  go_upto_region 1 with fail
  generalize w.alloc (.cells #[.string ⟨m.1.toArray⟩, .string ⟨m.2.toArray⟩] 52) = w1 at *
  have c0 : w1.cell? ⟨w.heap.size, 0, none⟩ = some (.string ⟨m.1.toArray⟩) := by rw [cell_of_row w1 _ 0 _ _ _ HC.out]; rfl
  have c1 : w1.cell? ⟨w.heap.size, 1, none⟩ = some (.string ⟨m.2.toArray⟩) := by rw [cell_of_row w1 _ 1 _ _ _ HC.out]; rfl
  have C0 := Lib.hid c0
  have C1 := Lib.hid c1
  go_wp2_with fail
  refine (ContainsM_any A n c l m w1 HS.out (by omega)).mono ?_
  rintro e w2 ⟨rfl, hb2⟩
  rw [← HR1.out]
  have HB2 := Lib.hid (gr_trans HA.out hb2)
  have HS2 := Lib.hid (HS.out.below hb2)
  have D0 := Lib.hid (keep_of_below hb2 C0.out)
  have D1 := Lib.hid (keep_of_below hb2 C1.out)
  clear hb2 c0 c1
  cases r1
  · have HNM : Hid (m ∉ l) := Lib.hid (fun hm => by have := HR1.out; rw [hasM_iff.2 hm] at this; cases this)
    go_upto_region 3 with fail
    refine' wp_region_mono (by kernel_rfl) (by kernel_rfl) (by kernel_rfl) (by kernel_rfl) (by kernel_rfl) (by kernel_rfl)
      [MP.is (.slice A n c), MP.is (.pointer (some ⟨w.heap.size, 1, none⟩)), MP.is (.string ⟨m.2.toArray⟩), MP.vs cl, MP.is (.pointer (some ⟨w.heap.size, 0, none⟩)), MP.is (.string ⟨m.1.toArray⟩), MP.is (.bool r2)] ?hAA1 ?hst1 ?hend1
    case hAA1 =>
      intro f
      conv => lhs; simp only [putA, dstOf, List.size_toArray, List.length_cons, List.length_nil, Nat.zero_add, Nat.reduceAdd, List.getElem?_toArray, List.getElem?_cons_zero, List.getElem?_cons_succ, Option.bind_some, Act.put, List.setIfInBounds_toArray, List.set_cons_zero, List.set_cons_succ]
      first | done | exact rfl
    case hst1 =>
      change Steps _ _ _ _ _ [0, 1, 2, 3, 4, 5, 6]
      refine Steps.cons rfl ?_ ?_
      · intro f wz hB h K Q hK
        try simp only [List.getElem_toArray, List.getElem_cons_zero]
        go_simp
        exact hK _ _ (gr_refl _) rfl
      refine Steps.cons rfl ?_ ?_
      · intro f wz hB h K Q hK
        try simp only [List.getElem_toArray, List.getElem_cons_succ, List.getElem_cons_zero]
        go_simp
        exact hK _ _ (gr_refl _) rfl
      refine Steps.cons rfl ?_ ?_
      · intro f wz hB h K Q hK
        have h1 : (MP.is (.pointer (some ⟨w.heap.size, 1, none⟩))).p (f 1) wz := h 1 (by kernel_rfl)
        have e1 : f 1 = (.pointer (some ⟨w.heap.size, 1, none⟩)) := h1
        simp only [e1] at hK ⊢
        clear e1
        try simp only [List.getElem_toArray, List.getElem_cons_succ, List.getElem_cons_zero]
        have y0 := keep_of_below (bel_drew hB) D0.out
        have y1 := keep_of_below (bel_drew hB) D1.out
        go_simp
        exact hK _ _ (gr_refl _) rfl
      refine Steps.cons rfl ?_ ?_
      · intro f wz hB h K Q hK
        have h0 : (MP.is (.slice A n c)).p (f 0) wz := h 0 (by kernel_rfl)
        have e0 : f 0 = (.slice A n c) := h0
        have h2 : (MP.is (.string ⟨m.2.toArray⟩)).p (f 2) wz := h 2 (by kernel_rfl)
        have e2 : f 2 = (.string ⟨m.2.toArray⟩) := h2
        simp only [e0, e2] at hK ⊢
        clear e0 e2
        try simp only [List.getElem_toArray, List.getElem_cons_succ, List.getElem_cons_zero]
        go_simp
        refine (Closure_at HCL.out A n c wz (HS2.out.below (bel_drew hB)) (by omega) HF.out HM2.out).mono ?_
        rintro e w5 ⟨v5, rfl, ho5, hb5⟩
        exact hK _ _ hb5 ho5.vs
      refine Steps.cons rfl ?_ ?_
      · intro f wz hB h K Q hK
        try simp only [List.getElem_toArray, List.getElem_cons_succ, List.getElem_cons_zero]
        go_simp
        exact hK _ _ (gr_refl _) rfl
      refine Steps.cons rfl ?_ ?_
      · intro f wz hB h K Q hK
        have h4 : (MP.is (.pointer (some ⟨w.heap.size, 0, none⟩))).p (f 4) wz := h 4 (by kernel_rfl)
        have e4 : f 4 = (.pointer (some ⟨w.heap.size, 0, none⟩)) := h4
        simp only [e4] at hK ⊢
        clear e4
        try simp only [List.getElem_toArray, List.getElem_cons_succ, List.getElem_cons_zero]
        have y0 := keep_of_below (bel_drew hB) D0.out
        have y1 := keep_of_below (bel_drew hB) D1.out
        go_simp
        exact hK _ _ (gr_refl _) rfl
      refine Steps.cons rfl ?_ ?_
      · intro f wz hB h K Q hK
        have h3 : (MP.vs cl).p (f 3) wz := h 3 (by kernel_rfl)
        obtain ⟨A3, c3, e3, q3⟩ := h3
        have h5 : (MP.is (.string ⟨m.1.toArray⟩)).p (f 5) wz := h 5 (by kernel_rfl)
        have e5 : f 5 = (.string ⟨m.1.toArray⟩) := h5
        simp only [e3, e5] at hK ⊢
        clear e3 e5
        try simp only [List.getElem_toArray, List.getElem_cons_succ, List.getElem_cons_zero]
        go_simp
        refine (ContainsS_any A3 cl.length c3 cl m.1 wz q3 (by omega)).mono ?_
        rintro e w5 ⟨rfl, rfl⟩
        exact hK _ _ (gr_refl _) (by rw [← HR2.out]; rfl)
      exact Steps.nil
    intro f w3 hB3 hR
    have e0 : f 0 = (.slice A n c) := hR 0 (by decide)
    have e1 : f 1 = (.pointer (some ⟨w.heap.size, 1, none⟩)) := hR 1 (by decide)
    have e2 : f 2 = (.string ⟨m.2.toArray⟩) := hR 2 (by decide)
    obtain ⟨A33, c33, e3, q33⟩ := (show (MP.vs cl).p (f 3) w3 from hR 3 (by decide))
    have e4 : f 4 = (.pointer (some ⟨w.heap.size, 0, none⟩)) := hR 4 (by decide)
    have e5 : f 5 = (.string ⟨m.1.toArray⟩) := hR 5 (by decide)
    have e6 : f 6 = (.bool r2) := hR 6 (by decide)
    simp only [e0, e1, e2, e3, e4, e5, e6]
    clear e0 e1 e2 e3 e4 e5 e6 hR
    have hd3 := bel_drew hB3
    have HB3 := Lib.hid (gr_trans HB2.out hd3)
    have HS3 := Lib.hid (HS2.out.below hd3)
    have D0' := Lib.hid (keep_of_below hd3 D0.out)
    have D1' := Lib.hid (keep_of_below hd3 D1.out)
    clear hd3 hB3 D0 D1
    cases r2
    · have HNR : Hid (¬ Reach l m.2 m.1) := Lib.hid (fun hr => by have := HR2.out; rw [List.contains_iff_mem.2 ((HCL.out.2 _).2 hr)] at this; cases this)
      have c0 := D0'.out
      have c1 := D1'.out
      go_upto_region 5 with fail
      have HCC : Hid (∀ BX BY W, BX = .cells #[.string ⟨m.1.toArray⟩, .string ⟨m.2.toArray⟩] 52 → BY = .cells #[.slice A n c, .slice (some ⟨w3.heap.size, 0, none⟩) 1 1] 50 → W = (w3.alloc BX).alloc BY → Calls Try.prog 51 #[.slice (some ⟨w3.heap.size + 1, 0, none⟩) 2 2] W fun e w' => ∃ v, e = .returned v ∧ EO EM 2 52 w' w.heap.size v (l ++ [m]) ∧ Below w.heap.size w w') := Lib.hid (by
        intro BX BY W hBX hBY hW
        have hb4 := gr_alloc (gr_refl w3) BX
        have hs4 : (w3.alloc BX).heap.size = w3.heap.size + 1 := World.size_alloc _ _
        have hb5 := gr_alloc (gr_refl (w3.alloc BX)) BY
        have hc5 := heap_alloc_new (w3.alloc BX) BY
        rw [hs4, ← hW] at hc5
        rw [← hW] at hb5
        have hER : ER EM 2 (w3.alloc BX) (some ⟨w3.heap.size, 0, none⟩) 1 [m] := ⟨rfl, by rw [hBX]; exact rd_new1 w3 52 2 (EM m) rfl⟩
        rw [hBY] at hc5
        refine (ConcatMb_any A (some ⟨w3.heap.size, 0, none⟩) n 1 c 1 (w3.heap.size + 1) l [m] W ((HS3.out.below hb4).below hb5) (hER.below hb5) (by rw [cell_of_row W _ 0 _ _ _ hc5]; rfl) (by rw [cell_of_row W _ 1 _ _ _ hc5]; rfl) (by omega)).mono ?_
        rintro e w' ⟨v, rfl, ho, hb⟩
        have hbw : Below w.heap.size w W := HB3.out.trans ((hb4.trans (hb5.mono hb4.size)).mono HB3.out.size)
        exact ⟨v, rfl, ho.lower hbw.size, hbw.trans (hb.mono hbw.size)⟩)
      go_wp2_with fail
      refine (HCC.out _ _ _ rfl rfl rfl).mono ?_
      rintro e w6 ⟨v6, rfl, ho6, hb6⟩
      have HO6 := Lib.hid ho6
      have HB6 := Lib.hid hb6
      clear ho6 hb6 HCC
      go_wp2_with fail
      go_ret2
      exact ⟨.inr (.inr ⟨v6, rfl, HNM.out, HNR.out, HO6.out⟩), HB6.out⟩
    · have HRR : Hid (Reach l m.2 m.1) := Lib.hid ((HCL.out.2 _).1 (List.contains_iff_mem.1 HR2.out.symm))
      go_wp2_with fail
      go_ret2
      exact ⟨.inr (.inl ⟨rfl, HNM.out, HRR.out⟩), HB3.out⟩
  · have HM : Hid (m ∈ l) := Lib.hid (hasM_iff.1 HR1.out.symm)
    go_wp2_with fail
    go_ret2
    exact ⟨.inl ⟨rfl, HM.out⟩, HB2.out⟩

theorem filt_take {l : List Mb} {j : Nat} {x : Mb} (p : Mb → Bool) (h : l[j]? = some x) : (l.take (j + 1)).filter p = (l.take j).filter p ++ (if p x then [x] else []) := by
  rw [take_snoc h, List.filter_append]
  congr 1
  cases hp : p x <;> simp [hp]
theorem filt_len {l : List Mb} {m : Mb} : (l.filter (fun x => !(x.1 == m.1 && x.2 == m.2))).length = l.length ↔ m ∉ l := by
  rw [List.length_filter_eq_length_iff]
  constructor
  · intro h hm
    have := h m hm
    simp at this
  · intro h x hx
    by_cases e : x.1 = m.1 ∧ x.2 = m.2
    · exact absurd (by rw [← Prod.ext e.1 e.2]; exact hx) h
    · simp only [Bool.not_eq_true', Bool.and_eq_false_iff, beq_eq_false_iff_ne]
      by_cases e1 : x.1 = m.1
      · exact .inr (fun e2 => e ⟨e1, e2⟩)
      · exact .inl e1

set_option maxRecDepth 100000 in
set_option maxHeartbeats 4000000 in
theorem Leave_any (A : Option Addr) (n c : Nat) (l : List Mb) (m : Mb) (w : World) (h : ER EM 2 w A n l) (hn : n ≤ 4398046511103) :
    Calls Try.prog 26 #[.slice A n c, .agg #[.string ⟨m.1.toArray⟩, .string ⟨m.2.toArray⟩]] w fun e w' => LeaveP l m w.heap.size e w' ∧ Below w.heap.size w w' := by
  obtain ⟨i0, z, hi0, hz0, hzs, hz1, hz2⟩ := info_Mb'
  have HA := Lib.hid (gr_alloc (gr_refl w) (.cells #[.string ⟨m.1.toArray⟩, .string ⟨m.2.toArray⟩] 52))
  have HC := Lib.hid (heap_alloc_new w (.cells #[.string ⟨m.1.toArray⟩, .string ⟨m.2.toArray⟩] 52))
  have HS := Lib.hid (h.below HA.out)
  have HL := Lib.hid h.1
  clear h
  go_enter Try.func26, Try.ntmps26
  obtain ⟨r1, hr1⟩ : ∃ r, r = hasM l m := ⟨_, rfl⟩
  have HR1 := Lib.hid hr1
  clear hr1
  go_upto_region 1 with fail
  generalize w.alloc (.cells #[.string ⟨m.1.toArray⟩, .string ⟨m.2.toArray⟩] 52) = w1 at *
  have c0 : w1.cell? ⟨w.heap.size, 0, none⟩ = some (.string ⟨m.1.toArray⟩) := by rw [cell_of_row w1 _ 0 _ _ _ HC.out]; rfl
  have c1 : w1.cell? ⟨w.heap.size, 1, none⟩ = some (.string ⟨m.2.toArray⟩) := by rw [cell_of_row w1 _ 1 _ _ _ HC.out]; rfl
  have C0 := Lib.hid c0
  have C1 := Lib.hid c1
  go_wp2_with fail
  refine (ContainsM_any A n c l m w1 HS.out (by omega)).mono ?_
  rintro e w2 ⟨rfl, hb2⟩
  rw [← HR1.out]
  have HB2 := Lib.hid (gr_trans HA.out hb2)
  have HS2 := Lib.hid (HS.out.below hb2)
  have D0 := Lib.hid (keep_of_below hb2 C0.out)
  have D1 := Lib.hid (keep_of_below hb2 C1.out)
  clear hb2 c0 c1
  cases r1
  · have HNM : Hid (m ∉ l) := Lib.hid (fun hm => by have := HR1.out; rw [hasM_iff.2 hm] at this; cases this)
    go_wp2_with fail
    go_ret2
    exact ⟨.inl ⟨rfl, HNM.out⟩, HB2.out⟩
  · have HM : Hid (m ∈ l) := Lib.hid (hasM_iff.1 HR1.out.symm)
    go_wp2_with fail
    go_loopw [6, 8, 15] (fun v _ i wr => ∃ (j : Nat), j ≤ n ∧ i = .int .i64 (j : Int) ∧ EO EM 2 52 wr w2.heap.size v ((l.take j).filter (fun x => !(x.1 == m.1 && x.2 == m.2))) ∧ Below w2.heap.size w2 wr) (fun _ _ i _ => n - (intOf i).toNat)
    case atStart => exact ⟨0, Nat.zero_le _, rfl, by simpa using EO.nil _ _, gr_refl w2⟩
    case round =>
      obtain ⟨j, hj, rfl, heo, hb⟩ := hrel
      obtain ⟨Av, cv, rfl, _, _, _⟩ := heo.form
      obtain ⟨L, hLL⟩ : ∃ L, L = ((l.take j).filter (fun x => !(x.1 == m.1 && x.2 == m.2))).length := ⟨_, rfl⟩
      have hLn : L ≤ n := by
        rw [hLL]
        refine Nat.le_trans (List.length_filter_le _ _) ?_
        rw [List.length_take, HL.out]
        omega
      rw [← hLL] at heo ⊢
      have HLL := Lib.hid hLL
      have HEO := Lib.hid heo
      have hbw := HB2.out.trans (hb.mono HB2.out.size)
      have HBW := Lib.hid hbw
      have HB := Lib.hid hb
      clear hLL heo
      by_cases hlt : j < n
      · have t1 : decide ((j : Int) < (n : Int)) = true := decide_eq_true (by omega)
        have t2 : decide (j < n) = true := decide_eq_true hlt
        have i0' : (0 : Int) ≤ (j : Int) := Int.natCast_nonneg _
        have i1' : (j : Int) < (n : Int) := by omega
        obtain ⟨g, o, x, rfl, hx, q0, q1⟩ := (HS2.out.below hb).atMb hlt
        have HT := Lib.hid (filt_take (fun x => !(x.1 == m.1 && x.2 == m.2)) hx)
        obtain ⟨r, hr⟩ : ∃ r, r = (x.1 == m.1 && x.2 == m.2) := ⟨_, rfl⟩
        rw [← hr] at HT
        have HR := Lib.hid hr
        have hneq : ∀ W, Sem.run Try.prog (binOp .neq 52 (.agg #[.string ⟨x.1.toArray⟩, .string ⟨x.2.toArray⟩]) (.agg #[.string ⟨m.1.toArray⟩, .string ⟨m.2.toArray⟩])) W = .ok (.bool (!r)) W := fun W => by rw [hr]; exact run_neqM x m W
        have hmx : L + 1 ≤ maxLen := by simp only [maxLen]; omega
        have hba := gr_alloc (gr_refl wr) (.cells #[.string ⟨x.1.toArray⟩, .string ⟨x.2.toArray⟩] 52)
        have hca : (wr.alloc (.cells #[.string ⟨x.1.toArray⟩, .string ⟨x.2.toArray⟩] 52)).heap[wr.heap.size]? = some (.cells #[.string ⟨x.1.toArray⟩, .string ⟨x.2.toArray⟩] 52 (0, 0)) := heap_alloc_new wr _
        clear hx hr hbw
        go_upto_region 7 with fail
        generalize wr.alloc (.cells #[.string ⟨x.1.toArray⟩, .string ⟨x.2.toArray⟩] 52) = w3 at *
        have c0 : w3.cell? ⟨wr.heap.size, 0, none⟩ = some (.string ⟨x.1.toArray⟩) := by rw [cell_of_row w3 _ 0 _ _ _ hca]; rfl
        have c1 : w3.cell? ⟨wr.heap.size, 1, none⟩ = some (.string ⟨x.2.toArray⟩) := by rw [cell_of_row w3 _ 1 _ _ _ hca]; rfl
        have d0 := keep_of_below hba (keep_of_below hb D0.out)
        have d1 := keep_of_below hba (keep_of_below hb D1.out)
        have HOW : Hid (w3.ownsRow w2.heap.size 52 2 (.slice Av L cv) L (((l.take j).filter (fun x => !(x.1 == m.1 && x.2 == m.2))).flatMap EM)) := Lib.hid (by have := HEO.out.below hba; unfold EO at this; rw [← HLL.out] at this; exact this)
        have HB3 := Lib.hid (gr_trans HB.out hba)
        have HBW3 := Lib.hid (HBW.out.trans (hba.mono HBW.out.size))
        have HE3 := Lib.hid (HEO.out.below hba)
        clear hba hca hb q0 q1
        cases r
        · go_wp2_with (at_builtin; refine wpList_append_Rd _ rfl (.tmp 22) (.tmp 24) _ rfl w2.heap.size 52 i0 _ 2 32 Try.underlying50 hi0 hz0 hz1 hz2 hzs (.slice Av L cv) L _ rfl (ownsRow_off (S := fun _ => False) HOW.out (Off.of_below (gr_alloc (gr_refl w3) _)) (fun _ _ h => h)) (some ⟨w3.heap.size, 0, none⟩) 1 1 (EM x) rfl (rd_new1 _ _ _ _ rfl) (EM_one x) (by omega) hmx (gr_alloc HB3.out _).size ?_; intro v4 w4 hown4 hg4 _ _; have hb4 : Below w2.heap.size w2 w4 := (gr_alloc HB3.out _).grown hg4 (gr_alloc HB3.out _).size (fun j hj => (HOW.out.lt j hj).1))
          have R1 := EO.snoc hown4 HLL.out.symm
          have HR4 := Lib.hid R1
          have HB4 := Lib.hid hb4
          clear R1 hown4 hg4 hb4
          go_wp2_with fail
          go_roundw
          case rel => exact ⟨j + 1, by omega, by go_num, by rw [HT.out]; exact HR4.out, HB4.out⟩
          case measure => simp [intOf]; omega
        · go_wp2_with fail
          go_roundw
          case rel => exact ⟨j + 1, by omega, by go_num, by rw [HT.out]; simpa using HE3.out, HB3.out⟩
          case measure => simp [intOf]; omega
      · obtain rfl : j = n := by omega
        have t1 : decide ((j : Int) < (j : Int)) = false := decide_eq_false (by omega)
        have HF : Hid (EO EM 2 52 wr w2.heap.size (.slice Av L cv) (l.filter (fun x => !(x.1 == m.1 && x.2 == m.2)))) := Lib.hid (by have := HEO.out; rwa [List.take_of_length_le (by rw [HL.out]; omega)] at this)
        clear hb hbw
        go_wp2_with fail
        go_ret2
        exact ⟨.inr ⟨_, rfl, HM.out, HF.out.lower HB2.out.size⟩, HBW.out⟩

set_option maxRecDepth 100000 in
set_option maxHeartbeats 4000000 in
theorem refLeave_any (A : Option Addr) (n c : Nat) (l : List Mb) (m : Mb) (w : World) (h : ER EM 2 w A n l) (hn : n ≤ 4398046511103) :
    Calls Try.prog 27 #[.slice A n c, .agg #[.string ⟨m.1.toArray⟩, .string ⟨m.2.toArray⟩]] w fun e w' => LeaveP l m w.heap.size e w' ∧ Below w.heap.size w w' := by
  obtain ⟨i0, z, hi0, hz0, hzs, hz1, hz2⟩ := info_Mb'
  have HA := Lib.hid (gr_alloc (gr_refl w) (.cells #[.string ⟨m.1.toArray⟩, .string ⟨m.2.toArray⟩] 52))
  have HC := Lib.hid (heap_alloc_new w (.cells #[.string ⟨m.1.toArray⟩, .string ⟨m.2.toArray⟩] 52))
  have HS := Lib.hid (h.below HA.out)
  have HL := Lib.hid h.1
  clear h
  go_enter Try.func27, Try.ntmps27
  go_upto_region 1 with fail
  generalize w.alloc (.cells #[.string ⟨m.1.toArray⟩, .string ⟨m.2.toArray⟩] 52) = w2 at *
  have c0 : w2.cell? ⟨w.heap.size, 0, none⟩ = some (.string ⟨m.1.toArray⟩) := by rw [cell_of_row w2 _ 0 _ _ _ HC.out]; rfl
  have c1 : w2.cell? ⟨w.heap.size, 1, none⟩ = some (.string ⟨m.2.toArray⟩) := by rw [cell_of_row w2 _ 1 _ _ _ HC.out]; rfl
  have D0 := Lib.hid c0
  have D1 := Lib.hid c1
  have HB2 := HA
  have HS2 := HS
  clear c0 c1
  go_wp2_with fail
  go_loopw [6, 7] (fun v i wr => ∃ (j : Nat), j ≤ n ∧ i = .int .i64 (j : Int) ∧ EO EM 2 52 wr w2.heap.size v ((l.take j).filter (fun x => !(x.1 == m.1 && x.2 == m.2))) ∧ Below w2.heap.size w2 wr) (fun _ i _ => n - (intOf i).toNat)
  case atStart => exact ⟨0, Nat.zero_le _, rfl, by simpa using EO.nil _ _, gr_refl w2⟩
  case round =>
    obtain ⟨j, hj, rfl, heo, hb⟩ := hrel
    obtain ⟨Av, cv, rfl, _, _, _⟩ := heo.form
    obtain ⟨L, hLL⟩ : ∃ L, L = ((l.take j).filter (fun x => !(x.1 == m.1 && x.2 == m.2))).length := ⟨_, rfl⟩
    have hLn : L ≤ n := by
      rw [hLL]
      refine Nat.le_trans (List.length_filter_le _ _) ?_
      rw [List.length_take, HL.out]
      omega
    rw [← hLL] at heo ⊢
    have HLL := Lib.hid hLL
    have HEO := Lib.hid heo
    have hbw := HB2.out.trans (hb.mono HB2.out.size)
    have HBW := Lib.hid hbw
    have HB := Lib.hid hb
    clear hLL heo
    by_cases hlt : j < n
    · have t1 : decide ((j : Int) < (n : Int)) = true := decide_eq_true (by omega)
      have t2 : decide (j < n) = true := decide_eq_true hlt
      have i0' : (0 : Int) ≤ (j : Int) := Int.natCast_nonneg _
      have i1' : (j : Int) < (n : Int) := by omega
      obtain ⟨g, o, x, rfl, hx, q0, q1⟩ := (HS2.out.below hb).atMb hlt
      have HT := Lib.hid (filt_take (fun x => !(x.1 == m.1 && x.2 == m.2)) hx)
      obtain ⟨r, hr⟩ : ∃ r, r = (x.1 == m.1 && x.2 == m.2) := ⟨_, rfl⟩
      rw [← hr] at HT
      have HR := Lib.hid hr
      have hneq : ∀ W, Sem.run Try.prog (binOp .neq 52 (.agg #[.string ⟨x.1.toArray⟩, .string ⟨x.2.toArray⟩]) (.agg #[.string ⟨m.1.toArray⟩, .string ⟨m.2.toArray⟩])) W = .ok (.bool (!r)) W := fun W => by rw [hr]; exact run_neqM x m W
      have hmx : L + 1 ≤ maxLen := by simp only [maxLen]; omega
      have d0 := keep_of_below hb D0.out
      have d1 := keep_of_below hb D1.out
      clear hx hr hbw
      go_upto_if 19 with (go_quiet (fail))
      have hd := gr_drewN (gr_refl wr) nq
      have q0 := keep_of_below hd q0
      have q1 := keep_of_below hd q1
      have HOW : Hid ((wr.drewN nq).ownsRow w2.heap.size 52 2 (.slice Av L cv) L (((l.take j).filter (fun x => !(x.1 == m.1 && x.2 == m.2))).flatMap EM)) := Lib.hid (by have := HEO.out.below hd; unfold EO at this; rw [← HLL.out] at this; exact this)
      have HB3 := Lib.hid (gr_trans HB.out hd)
      have HBW3 := Lib.hid (HBW.out.trans (hd.mono HBW.out.size))
      have HE3 := Lib.hid (HEO.out.below hd)
      clear hd hb
      generalize wr.drewN nq = w3 at *
      cases r
      · go_wp2_with (at_builtin; refine wpList_append_Rd _ rfl (.tmp 20) (.tmp 25) _ rfl w2.heap.size 52 i0 _ 2 32 Try.underlying50 hi0 hz0 hz1 hz2 hzs (.slice Av L cv) L _ rfl (ownsRow_off (S := fun _ => False) HOW.out (Off.of_below (gr_alloc (gr_refl w3) _)) (fun _ _ h => h)) (some ⟨w3.heap.size, 0, none⟩) 1 1 (EM x) rfl (rd_new1 _ _ _ _ rfl) (EM_one x) (by omega) hmx (gr_alloc HB3.out _).size ?_; intro v4 w4 hown4 hg4 _ _; have hb4 : Below w2.heap.size w2 w4 := (gr_alloc HB3.out _).grown hg4 (gr_alloc HB3.out _).size (fun j hj => (HOW.out.lt j hj).1))
        have R1 := EO.snoc hown4 HLL.out.symm
        have HR4 := Lib.hid R1
        have HB4 := Lib.hid hb4
        clear R1 hown4 hg4 hb4
        go_wp2_with fail
        go_roundw
        case rel => exact ⟨j + 1, by omega, by go_num, by rw [HT.out]; exact HR4.out, HB4.out⟩
        case measure => simp [intOf]; omega
      · go_wp2_with fail
        go_roundw
        case rel => exact ⟨j + 1, by omega, by go_num, by rw [HT.out]; simpa using HE3.out, HB3.out⟩
        case measure => simp [intOf]; omega
    · obtain rfl : j = n := by omega
      have t1 : decide ((j : Int) < (j : Int)) = false := decide_eq_false (by omega)
      have HF : Hid (EO EM 2 52 wr w2.heap.size (.slice Av L cv) (l.filter (fun x => !(x.1 == m.1 && x.2 == m.2)))) := Lib.hid (by have := HEO.out; rwa [List.take_of_length_le (by rw [HL.out]; omega)] at this)
      clear hb hbw
      have hLf : L = (l.filter (fun x => !(x.1 == m.1 && x.2 == m.2))).length := by rw [HLL.out, List.take_of_length_le (by rw [HL.out]; omega)]
      have hiff := filt_len (l := l) (m := m)
      rw [← hLf, HL.out] at hiff
      have HIF := Lib.hid hiff
      clear hLf hiff
      by_cases hq : L = j
      · have t2 : ((L : Int) == (j : Int)) = true := beq_iff_eq.2 (by omega)
        have HNM := Lib.hid (HIF.out.1 hq)
        clear hq
        go_wp2_with fail
        go_ret2
        exact ⟨.inl ⟨rfl, HNM.out⟩, HBW.out⟩
      · have t2 : ((L : Int) == (j : Int)) = false := beq_eq_false_iff_ne.2 (by omega)
        have HM : Hid (m ∈ l) := Lib.hid (Classical.byContradiction fun h => hq (HIF.out.2 h))
        clear hq
        go_wp2_with fail
        go_ret2
        exact ⟨.inr ⟨_, rfl, HM.out, HF.out.lower HB2.out.size⟩, HBW.out⟩

set_option maxRecDepth 100000 in
set_option maxHeartbeats 4000000 in
theorem refJoin_any (A : Option Addr) (n c : Nat) (l : List Mb) (m : Mb) (w : World) (h : ER EM 2 w A n l) (hn : n ≤ 4398046511103) :
    Calls Try.prog 25 #[.slice A n c, .agg #[.string ⟨m.1.toArray⟩, .string ⟨m.2.toArray⟩]] w fun e w' => JoinP l m w.heap.size e w' ∧ Below w.heap.size w w' := by
  obtain ⟨i0, z, hi0, hz0, hzs, hz1, hz2⟩ := info_Mb'
  obtain ⟨cl, hcl⟩ := clos_exists l m.2
  have HCL := Lib.hid hcl
  have hcn := clos_len hcl
  rw [h.1] at hcn
  have HA := Lib.hid (gr_alloc (gr_refl w) (.cells #[.string ⟨m.1.toArray⟩, .string ⟨m.2.toArray⟩] 52))
  have HC := Lib.hid (heap_alloc_new w (.cells #[.string ⟨m.1.toArray⟩, .string ⟨m.2.toArray⟩] 52))
  have HS := Lib.hid (h.below HA.out)
  have HL := Lib.hid h.1
  obtain ⟨r2, hr2⟩ : ∃ r, r = cl.contains m.1 := ⟨_, rfl⟩
  have HR2 := Lib.hid hr2
  clear h hcl hr2
  go_enter Try.func25, Try.ntmps25
  go_upto_region 1 with fail
  generalize w.alloc (.cells #[.string ⟨m.1.toArray⟩, .string ⟨m.2.toArray⟩] 52) = w2 at *
  have c0 : w2.cell? ⟨w.heap.size, 0, none⟩ = some (.string ⟨m.1.toArray⟩) := by rw [cell_of_row w2 _ 0 _ _ _ HC.out]; rfl
  have c1 : w2.cell? ⟨w.heap.size, 1, none⟩ = some (.string ⟨m.2.toArray⟩) := by rw [cell_of_row w2 _ 1 _ _ _ HC.out]; rfl
  have D0 := Lib.hid c0
  have D1 := Lib.hid c1
  clear c0 c1
  go_wp2_with fail
  go_loopw [6] (fun i wr => ∃ (j : Nat), j ≤ n ∧ i = .int .i64 (j : Int) ∧ Below w2.heap.size w2 wr ∧ Hid (m ∉ l.take j)) (fun i _ => n - (intOf i).toNat)
  case atStart => exact ⟨0, Nat.zero_le _, rfl, gr_refl _, Lib.hid (by simp)⟩
  case round =>
    obtain ⟨j, hj, rfl, hb, HK⟩ := hrel
    have HB := Lib.hid hb
    by_cases hlt : j < n
    · have t1 : decide ((j : Int) < (n : Int)) = true := decide_eq_true (by omega)
      have t2 : decide (j < n) = true := decide_eq_true hlt
      have i0' : (0 : Int) ≤ (j : Int) := Int.natCast_nonneg _
      have i1' : (j : Int) < (n : Int) := by omega
      obtain ⟨g, o, x, rfl, hx, q0, q1⟩ := (HS.out.below hb).atMb hlt
      have d0 := keep_of_below hb D0.out
      have d1 := keep_of_below hb D1.out
      have HT := Lib.hid (take_snoc hx)
      have HXM := Lib.hid (List.mem_of_getElem? hx)
      obtain ⟨r, hr⟩ : ∃ r, r = (x.1 == m.1 && x.2 == m.2) := ⟨_, rfl⟩
      have HR := Lib.hid hr
      have heq : ∀ W, Sem.run Try.prog (binOp .eql 52 (.agg #[.string ⟨x.1.toArray⟩, .string ⟨x.2.toArray⟩]) (.agg #[.string ⟨m.1.toArray⟩, .string ⟨m.2.toArray⟩])) W = .ok (.bool r) W := fun W => by rw [hr]; exact run_eqlM x m W
      clear hx hr hb
      cases r
      · go_wp2_with (go_quiet (fail))
        have HB2 := Lib.hid (gr_trans HB.out (gr_drewN (gr_refl wr) nq))
        go_roundw
        case rel => exact ⟨j + 1, by omega, by go_num, HB2.out, Lib.hid (fun hm => by
          rw [HT.out] at hm
          rcases List.mem_append.1 hm with hm | hm
          · exact HK.out hm
          · have e := List.mem_singleton.1 hm
            have e2 := HR.out
            rw [e] at e2
            simp at e2)⟩
        case measure => simp [intOf]; omega
      · have HM : Hid (m ∈ l) := Lib.hid (by
          have e2 := HR.out.symm
          simp only [Bool.and_eq_true, beq_iff_eq] at e2
          rw [← Prod.ext e2.1 e2.2]
          exact HXM.out)
        go_wp2_with (go_quiet (fail))
        have HB2 := Lib.hid (gr_trans HA.out (gr_trans HB.out (gr_drewN (gr_refl wr) nq)))
        go_ret2
        exact ⟨.inl ⟨rfl, HM.out⟩, HB2.out⟩
    · obtain rfl : j = n := by omega
      have t1 : decide ((j : Int) < (j : Int)) = false := decide_eq_false (by omega)
      have HNM : Hid (m ∉ l) := Lib.hid (by have := HK.out; rwa [List.take_of_length_le (by rw [HL.out]; omega)] at this)
      have E0 := Lib.hid (keep_of_below hb D0.out)
      have E1 := Lib.hid (keep_of_below hb D1.out)
      have HS2 := Lib.hid (HS.out.below hb)
      have HB2 := Lib.hid (gr_trans HA.out hb)
      clear hb D0 D1 HK HB
      go_upto_region 6 with fail
      refine' wp_region_mono (by kernel_rfl) (by kernel_rfl) (by kernel_rfl) (by kernel_rfl) (by kernel_rfl) (by kernel_rfl)
        [MP.is (.slice A j c), MP.is (.pointer (some ⟨w.heap.size, 1, none⟩)), MP.is (.string ⟨m.2.toArray⟩), MP.vs cl, MP.is (.pointer (some ⟨w.heap.size, 0, none⟩)), MP.is (.string ⟨m.1.toArray⟩), MP.is (.bool r2)] ?hAA2 ?hst2 ?hend2
      case hAA2 =>
        intro f
        conv => lhs; simp only [putA, dstOf, List.size_toArray, List.length_cons, List.length_nil, Nat.zero_add, Nat.reduceAdd, List.getElem?_toArray, List.getElem?_cons_zero, List.getElem?_cons_succ, Option.bind_some, Act.put, List.setIfInBounds_toArray, List.set_cons_zero, List.set_cons_succ]
        first | done | exact rfl
      case hst2 =>
        change Steps _ _ _ _ _ [0, 1, 2, 3, 4, 5, 6]
        refine Steps.cons rfl ?_ ?_
        · intro f wz hB h K Q hK
          try simp only [List.getElem_toArray, List.getElem_cons_zero]
          go_simp
          exact hK _ _ (gr_refl _) rfl
        refine Steps.cons rfl ?_ ?_
        · intro f wz hB h K Q hK
          try simp only [List.getElem_toArray, List.getElem_cons_succ, List.getElem_cons_zero]
          go_simp
          exact hK _ _ (gr_refl _) rfl
        refine Steps.cons rfl ?_ ?_
        · intro f wz hB h K Q hK
          have h1 : (MP.is (.pointer (some ⟨w.heap.size, 1, none⟩))).p (f 1) wz := h 1 (by kernel_rfl)
          have e1 : f 1 = (.pointer (some ⟨w.heap.size, 1, none⟩)) := h1
          simp only [e1] at hK ⊢
          clear e1
          try simp only [List.getElem_toArray, List.getElem_cons_succ, List.getElem_cons_zero]
          have y0 := keep_of_below (bel_drew hB) E0.out
          have y1 := keep_of_below (bel_drew hB) E1.out
          go_simp
          exact hK _ _ (gr_refl _) rfl
        refine Steps.cons rfl ?_ ?_
        · intro f wz hB h K Q hK
          have h0 : (MP.is (.slice A j c)).p (f 0) wz := h 0 (by kernel_rfl)
          have e0 : f 0 = (.slice A j c) := h0
          have h2 : (MP.is (.string ⟨m.2.toArray⟩)).p (f 2) wz := h 2 (by kernel_rfl)
          have e2 : f 2 = (.string ⟨m.2.toArray⟩) := h2
          simp only [e0, e2] at hK ⊢
          clear e0 e2
          try simp only [List.getElem_toArray, List.getElem_cons_succ, List.getElem_cons_zero]
          go_simp
          refine (refClosure_at HCL.out A j c wz (HS2.out.below (bel_drew hB)) (by omega)).mono ?_
          rintro e w5 ⟨v5, rfl, ho5, hb5⟩
          exact hK _ _ hb5 ho5.vs
        refine Steps.cons rfl ?_ ?_
        · intro f wz hB h K Q hK
          try simp only [List.getElem_toArray, List.getElem_cons_succ, List.getElem_cons_zero]
          go_simp
          exact hK _ _ (gr_refl _) rfl
        refine Steps.cons rfl ?_ ?_
        · intro f wz hB h K Q hK
          have h4 : (MP.is (.pointer (some ⟨w.heap.size, 0, none⟩))).p (f 4) wz := h 4 (by kernel_rfl)
          have e4 : f 4 = (.pointer (some ⟨w.heap.size, 0, none⟩)) := h4
          simp only [e4] at hK ⊢
          clear e4
          try simp only [List.getElem_toArray, List.getElem_cons_succ, List.getElem_cons_zero]
          have y0 := keep_of_below (bel_drew hB) E0.out
          have y1 := keep_of_below (bel_drew hB) E1.out
          go_simp
          exact hK _ _ (gr_refl _) rfl
        refine Steps.cons rfl ?_ ?_
        · intro f wz hB h K Q hK
          have h3 : (MP.vs cl).p (f 3) wz := h 3 (by kernel_rfl)
          obtain ⟨A3, c3, e3, q3⟩ := h3
          have h5 : (MP.is (.string ⟨m.1.toArray⟩)).p (f 5) wz := h 5 (by kernel_rfl)
          have e5 : f 5 = (.string ⟨m.1.toArray⟩) := h5
          simp only [e3, e5] at hK ⊢
          clear e3 e5
          try simp only [List.getElem_toArray, List.getElem_cons_succ, List.getElem_cons_zero]
          go_simp
          refine (In_any A3 cl.length c3 cl m.1 wz (SL_of_ER q3) (by omega)).mono ?_
          rintro e w5 ⟨rfl, rfl⟩
          exact hK _ _ (gr_refl _) (by rw [← HR2.out]; rfl)
        exact Steps.nil
      intro f w3 hB3 hR
      have e0 : f 0 = (.slice A j c) := hR 0 (by decide)
      have e1 : f 1 = (.pointer (some ⟨w.heap.size, 1, none⟩)) := hR 1 (by decide)
      have e2 : f 2 = (.string ⟨m.2.toArray⟩) := hR 2 (by decide)
      obtain ⟨A33, c33, e3, q33⟩ := (show (MP.vs cl).p (f 3) w3 from hR 3 (by decide))
      have e4 : f 4 = (.pointer (some ⟨w.heap.size, 0, none⟩)) := hR 4 (by decide)
      have e5 : f 5 = (.string ⟨m.1.toArray⟩) := hR 5 (by decide)
      have e6 : f 6 = (.bool r2) := hR 6 (by decide)
      simp only [e0, e1, e2, e3, e4, e5, e6]
      clear e0 e1 e2 e3 e4 e5 e6 hR
      have hd3 := bel_drew hB3
      have HB3 := Lib.hid (gr_trans HB2.out hd3)
      have HS3 := Lib.hid (HS2.out.below hd3)
      have D0' := Lib.hid (keep_of_below hd3 E0.out)
      have D1' := Lib.hid (keep_of_below hd3 E1.out)
      clear hd3 hB3 E0 E1
      cases r2
      · have HNR : Hid (¬ Reach l m.2 m.1) := Lib.hid (fun hr => by have := HR2.out; rw [List.contains_iff_mem.2 ((HCL.out.2 _).2 hr)] at this; cases this)
        go_upto_region 8 with fail
        have F0 := Lib.hid (show w3.drew.cell? ⟨w.heap.size, 0, none⟩ = some (.string ⟨m.1.toArray⟩) from D0'.out)
        have F1 := Lib.hid (show w3.drew.cell? ⟨w.heap.size, 1, none⟩ = some (.string ⟨m.2.toArray⟩) from D1'.out)
        have HSd : Hid (ER EM 2 w3.drew A j l) := Lib.hid (HS3.out.below (gr_drewN (gr_refl w3) 1))
        have HBd : Hid (Below w.heap.size w w3.drew) := Lib.hid (gr_drewN HB3.out 1)
        refine wp_region_any (by kernel_rfl) ?_
        refine' wpAny_to_tail (l0 := #[false, false, false, false, false, false, false]) (by kernel_rfl) (by kernel_rfl) (by kernel_rfl) (by kernel_rfl) (by kernel_rfl)
          [MP.is (.slice A j c), MP.em l w.heap.size, MP.is (.agg #[.string ⟨m.1.toArray⟩, .string ⟨m.2.toArray⟩]), MP.m1 m, MP.any, MP.any, MP.any]
          (fun j => j == 4 || j == 5 || j == 6) #[true, true, true, true, false, false, false] rfl (by kernel_rfl) rfl (by kernel_rfl) (by kernel_rfl) (by kernel_rfl) (by kernel_rfl) (fun _ => undef) (by rfl) ?hR03 ?hAA3 ?hst3 ?hend3
        case hR03 =>
          intro j hj
          have hj2 : j ∈ [] := hj
          cases hj2
        case hAA3 =>
          intro f
          conv => lhs; simp only [putA, dstOf, List.size_toArray, List.length_cons, List.length_nil, Nat.zero_add, Nat.reduceAdd, List.getElem?_toArray, List.getElem?_cons_zero, List.getElem?_cons_succ, Option.bind_some, Act.put, List.setIfInBounds_toArray, List.set_cons_zero, List.set_cons_succ]
          first | done | exact rfl
        case hst3 =>
          refine Steps.of_list (l' := [0, 1, 2, 3]) (by kernel_rfl) ?_
          refine Steps.cons rfl ?_ ?_
          · intro f wz hB h K Q hK
            try simp only [List.getElem_toArray, List.getElem_cons_zero]
            go_simp
            exact hK _ _ (gr_refl _) rfl
          refine Steps.cons rfl ?_ ?_
          · intro f wz hB h K Q hK
            have h0 : (MP.is (.slice A j c)).p (f 0) wz := h 0 (by kernel_rfl)
            have e0 : f 0 = (.slice A j c) := h0
            simp only [e0] at hK ⊢
            clear e0
            try simp only [List.getElem_toArray, List.getElem_cons_succ, List.getElem_cons_zero]
            go_simp
            refine (CopyMembers_any A j c l wz (HSd.out.below hB) (by omega)).mono ?_
            rintro e w5 ⟨v5, rfl, ob5, hb5⟩
            obtain ⟨A5, c5, rfl, _, _, _⟩ := ob5.form
            exact hK _ _ hb5 ⟨A5, c5, rfl, ob5.lower (Nat.le_trans HBd.out.size hB.size)⟩
          refine Steps.cons rfl ?_ ?_
          · intro f wz hB h K Q hK
            try simp only [List.getElem_toArray, List.getElem_cons_succ, List.getElem_cons_zero]
            have y0 := keep_of_below hB F0.out
            have y1 := keep_of_below hB F1.out
            go_simp
            exact hK _ _ (gr_refl _) rfl
          refine Steps.cons rfl ?_ ?_
          · intro f wz hB h K Q hK
            have h2 : (MP.is (.agg #[.string ⟨m.1.toArray⟩, .string ⟨m.2.toArray⟩])).p (f 2) wz := h 2 (by kernel_rfl)
            have e2 : f 2 = (.agg #[.string ⟨m.1.toArray⟩, .string ⟨m.2.toArray⟩]) := h2
            simp only [e2] at hK ⊢
            clear e2
            try simp only [List.getElem_toArray, List.getElem_cons_succ, List.getElem_cons_zero]
            go_simp
            exact hK _ _ (gr_alloc (gr_refl wz) _) ⟨_, rfl, rd_new1 wz 52 2 (EM m) rfl⟩
          exact Steps.nil
        intro f w4 hB4 hR
        conv => arg 7; simp only [putL, dstOf, List.size_toArray, List.length_cons, List.length_nil, Nat.zero_add, Nat.reduceAdd, List.getElem?_toArray, List.getElem?_cons_zero, List.getElem?_cons_succ, Option.bind_some, Act.put, List.setIfInBounds_toArray, List.set_cons_zero, List.set_cons_succ, Array.getD_eq_getD_getElem?, Option.getD_some, if_true, if_false, Bool.false_eq_true]
        have e0 : f 0 = (.slice A j c) := hR 0 (by decide) rfl
        obtain ⟨A14, c14, e1, q14⟩ := (show (MP.em l w.heap.size).p (f 1) w4 from hR 1 (by decide) rfl)
        have e2 : f 2 = (.agg #[.string ⟨m.1.toArray⟩, .string ⟨m.2.toArray⟩]) := hR 2 (by decide) rfl
        obtain ⟨g34, e3, r34⟩ := (show (MP.m1 m).p (f 3) w4 from hR 3 (by decide) rfl)
        simp only [e0, e1, e2, e3]
        clear e0 e1 e2 e3 hR
        have HOW : Hid (w4.ownsRow w.heap.size 52 2 (.slice A14 l.length c14) j (l.flatMap EM)) := Lib.hid (by have := q14; unfold EO at this; rw [HL.out] at this ⊢; exact this)
        have HB4 := Lib.hid (HBd.out.trans (hB4.mono HBd.out.size))
        have hmx : j + 1 ≤ maxLen := by simp only [maxLen]; omega
        clear hB4 q14
        refine wpAny_of_held (S := fun _ => True) _ _ _ _ ?_
        refine wpAnyH_ready (rs := [4]) (by kernel_rfl) (by simp) ?_
        refine AllReadyH.cons rfl (fun KK hK => ?_) AllReadyH.nil
        try simp only [List.getElem_toArray, List.getElem_cons_succ, List.getElem_cons_zero]
        rw [if_pos (by rfl)]
        refine wp_append_Rd _ (.tmp 27) (.tmp 29) _ rfl w.heap.size 52 i0 _ 2 32 Try.underlying50 hi0 hz0 hz1 hz2 hzs (.slice A14 l.length c14) j _ rfl HOW.out (some ⟨g34, 0, none⟩) 1 1 (EM m) rfl r34 (EM_one m) (by omega) hmx HB4.out.size ?_
        intro v8 w8 ho8 hg8 _ _
        have HO8 := Lib.hid (EO.snoc ho8 HL.out)
        have HB8 := Lib.hid (HB4.out.grown hg8 HB4.out.size (fun j hj => (HOW.out.lt j hj).1))
        clear ho8 hg8
        refine hK.out _ _ trivial (fun _ => ?_)
        clear hK KK
        try simp only [Act.put, List.setIfInBounds_toArray, List.set_cons_zero, List.set_cons_succ]
        refine wpAnyH_ready (rs := [5]) (by kernel_rfl) (by simp) ?_
        refine AllReadyH.cons rfl (fun KK hK => ?_) AllReadyH.nil
        try simp only [List.getElem_toArray, List.getElem_cons_succ, List.getElem_cons_zero]
        go_simp
        refine hK.out _ _ trivial (fun _ => ?_)
        clear hK KK
        try simp only [List.setIfInBounds_toArray, List.set_cons_zero, List.set_cons_succ]
        refine wpAnyH_ready (rs := [6]) (by kernel_rfl) (by simp) ?_
        refine AllReadyH.cons rfl (fun KK hK => ?_) AllReadyH.nil
        try simp only [List.getElem_toArray, List.getElem_cons_succ, List.getElem_cons_zero]
        go_simp
        refine hK.out _ _ trivial (fun _ => ?_)
        clear hK KK
        try simp only [List.setIfInBounds_toArray, List.set_cons_zero, List.set_cons_succ]
        refine wpAnyH_done (by kernel_rfl) ?_ _
        go_wp2_with fail
        go_ret2
        exact ⟨.inr (.inr ⟨_, rfl, HNM.out, HNR.out, HO8.out⟩), HB8.out⟩
      · have HRR : Hid (Reach l m.2 m.1) := Lib.hid ((HCL.out.2 _).1 (List.contains_iff_mem.1 HR2.out.symm))
        go_wp2_with fail
        go_ret2
        exact ⟨.inr (.inl ⟨rfl, HNM.out, HRR.out⟩), HB3.out⟩

end Go.Proofs.Ytfgkadkmgciamaa
