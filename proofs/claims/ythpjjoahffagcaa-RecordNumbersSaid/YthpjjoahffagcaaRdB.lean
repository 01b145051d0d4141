/-
  The reader: two, four, eight, image, part.
-/
import Derived.Test.YthpjjoahffagcaaRdA
namespace Go.Proofs.Ythpjjoahffagcaa
open Go.RowKit

theorem numAt_fit {b : List UInt8} {x k : Nat} (h : x + k ≤ b.length) : numAt b (x : Int) k = some (leN ((b.drop x).take k)) := by
  unfold numAt
  rw [if_neg (by omega), Int.toNat_natCast]
theorem leN_fit {b : List UInt8} {x k : Nat} (h : x + k ≤ b.length) : leN ((b.drop x).take k) < 256 ^ k := by
  have h1 := leN_lt ((b.drop x).take k)
  rwa [List.length_take, List.length_drop, Nat.min_eq_left (by omega)] at h1
theorem OB.rset {w : World} {rb : Nat} {A : Option Addr} {n c a base : Nat} {bad : Bool} {v : Value} {l : List UInt8} (h : OB w base v l) (hr : RB w rb A n c a bad) (j : Nat) (x : Value) : OB (w.setCell ⟨rb, j, none⟩ x) base v l := by
  refine h.off ((Off.refl (· = rb) w).setCell x rfl) (fun k hk e => ?_)
  obtain ⟨cur, hc⟩ := own_blk h hk
  rw [e] at hc
  exact cells_ne hc hr (by decide)
theorem toI_wrap (v : Nat) (h : v < 18446744073709551616) : wrap64 (v : Int) = toI v := by
  unfold wrap64 toI
  split <;> omega
/-- The two ways of a field. -/
theorem num_ways {n k : Nat} {b : List UInt8} (hb : b.length = n) (s : Option Nat) : (pNext n k s = none ∧ pNum b k s = (0, none)) ∨ ∃ x, s = some x ∧ x + k ≤ n ∧ pNum b k s = (leN ((b.drop x).take k), some (x + k)) := by
  cases s with
  | none => exact .inl ⟨rfl, rfl⟩
  | some a =>
    by_cases h : a + k ≤ n
    · exact .inr ⟨a, rfl, h, by unfold pNum; simp only; rw [if_pos (by omega)]⟩
    · exact .inl ⟨by unfold pNext; simp only; rw [if_neg h], by unfold pNum; simp only; rw [if_neg (by omega)]⟩

set_option maxRecDepth 100000 in
set_option maxHeartbeats 400000 in
theorem two_any (w : World) (rb : Nat) (A : Option Addr) (n c : Nat) (b : List UInt8) (s : Option Nat) (h : RSt w rb A n c s) (hb : BR w A n b) (hA : ∀ ad, A = some ad → 0 < n → ad.block ≠ rb) (hn : n ≤ 9223372036854775807) :
    Calls Try.prog 58 #[.pointer (some ⟨rb, 0, none⟩)] w fun e w' => e = .returned (.int .i64 ((pNum b 2 s).1 : Int)) ∧ RSt w' rb A n c (pNum b 2 s).2 ∧ Off (· = rb) w w' := by
  have hl := hb.len
  rcases num_ways (k := 2) hl s with ⟨hp, e1⟩ | ⟨x, rfl, hf, e1⟩
  · rw [e1]
    have HX := Lib.hid (next_no w rb A n c 2 s h hp hn)
    clear hp e1 h hl
    go_enter Try.func58, Try.ntmps58
    go_wp2_with fail
    refine HX.out.mono ?_
    rintro e w1 ⟨rfl, h1, h2⟩
    go_wp2_with fail
    go_ret
    exact ⟨rfl, h1, h2⟩
  · obtain ⟨a, ha, hr, hx⟩ := h
    obtain rfl := hx x rfl
    rw [e1]
    have h3 := numAt_fit (b := b) (x := x) (k := 2) (by omega)
    have h4 := leN_fit (b := b) (x := x) (k := 2) (by omega)
    generalize leN ((b.drop x).take 2) = v at *
    have HX := Lib.hid (next_fits w rb A n c x 2 hr hf hn)
    have HU : Hid (∀ w', BR w' A n b → Calls Try.prog 68 #[.slice A n c, .int .i64 (x : Int)] w' fun e w2 => e = .returned (.tuple #[.int .u16 (v : Int), .bool true]) ∧ w' = w2) := Lib.hid (fun w' hb' => by
      have X := U16_any A n c b w' (x : Int) hb' hn (by omega) (by omega)
      rw [h3] at X
      exact X)
    have HB : Hid (∀ w', Off (· = rb) w w' → BR w' A n b) := Lib.hid (fun w' ho => hb.off ho hA)
    have HV : Hid (v < 18446744073709551616) := Lib.hid (Nat.lt_of_lt_of_le h4 (by decide))
    have b3 : (0 : Int) ≤ (v : Int) := Int.natCast_nonneg _
    have b4 : (v : Int) ≤ 65535 := by omega
    clear e1 hr hb hA hx h3 h4 hl
    go_enter Try.func58, Try.ntmps58
    go_wp2_with fail
    refine HX.out.mono ?_
    rintro e w1 ⟨rfl, h1, h2⟩
    have q0 := h1.c0
    have HR := Lib.hid h1
    have HW := Lib.hid (HB.out w1 h2)
    clear h1 HX HB
    go_wp2_with fail
    refine (HU.out _ HW.out).mono ?_
    rintro e w' ⟨rfl, rfl⟩
    go_wp2_with fail
    go_ret
    exact ⟨rfl, RSt.some_ HR.out hf, h2⟩

set_option maxRecDepth 100000 in
set_option maxHeartbeats 400000 in
theorem four_any (w : World) (rb : Nat) (A : Option Addr) (n c : Nat) (b : List UInt8) (s : Option Nat) (h : RSt w rb A n c s) (hb : BR w A n b) (hA : ∀ ad, A = some ad → 0 < n → ad.block ≠ rb) (hn : n ≤ 9223372036854775807) :
    Calls Try.prog 70 #[.pointer (some ⟨rb, 0, none⟩)] w fun e w' => e = .returned (.int .i64 ((pNum b 4 s).1 : Int)) ∧ RSt w' rb A n c (pNum b 4 s).2 ∧ Off (· = rb) w w' := by
  have hl := hb.len
  rcases num_ways (k := 4) hl s with ⟨hp, e1⟩ | ⟨x, rfl, hf, e1⟩
  · rw [e1]
    have HX := Lib.hid (next_no w rb A n c 4 s h hp hn)
    clear hp e1 h hl
    go_enter Try.func70, Try.ntmps70
    go_wp2_with fail
    refine HX.out.mono ?_
    rintro e w1 ⟨rfl, h1, h2⟩
    go_wp2_with fail
    go_ret
    exact ⟨rfl, h1, h2⟩
  · obtain ⟨a, ha, hr, hx⟩ := h
    obtain rfl := hx x rfl
    rw [e1]
    have h3 := numAt_fit (b := b) (x := x) (k := 4) (by omega)
    have h4 := leN_fit (b := b) (x := x) (k := 4) (by omega)
    generalize leN ((b.drop x).take 4) = v at *
    have HX := Lib.hid (next_fits w rb A n c x 4 hr hf hn)
    have HU : Hid (∀ w', BR w' A n b → Calls Try.prog 39 #[.slice A n c, .int .i64 (x : Int)] w' fun e w2 => e = .returned (.tuple #[.int .u32 (v : Int), .bool true]) ∧ w' = w2) := Lib.hid (fun w' hb' => by
      have X := U32_any A n c b w' (x : Int) hb' hn (by omega) (by omega)
      rw [h3] at X
      exact X)
    have HB : Hid (∀ w', Off (· = rb) w w' → BR w' A n b) := Lib.hid (fun w' ho => hb.off ho hA)
    have HV : Hid (v < 18446744073709551616) := Lib.hid (Nat.lt_of_lt_of_le h4 (by decide))
    have b3 : (0 : Int) ≤ (v : Int) := Int.natCast_nonneg _
    have b4 : (v : Int) ≤ 4294967295 := by omega
    clear e1 hr hb hA hx h3 h4 hl
    go_enter Try.func70, Try.ntmps70
    go_wp2_with fail
    refine HX.out.mono ?_
    rintro e w1 ⟨rfl, h1, h2⟩
    have q0 := h1.c0
    have HR := Lib.hid h1
    have HW := Lib.hid (HB.out w1 h2)
    clear h1 HX HB
    go_wp2_with fail
    refine (HU.out _ HW.out).mono ?_
    rintro e w' ⟨rfl, rfl⟩
    go_wp2_with fail
    go_ret
    exact ⟨rfl, RSt.some_ HR.out hf, h2⟩

set_option maxRecDepth 100000 in
set_option maxHeartbeats 400000 in
theorem eight_any (w : World) (rb : Nat) (A : Option Addr) (n c : Nat) (b : List UInt8) (s : Option Nat) (h : RSt w rb A n c s) (hb : BR w A n b) (hA : ∀ ad, A = some ad → 0 < n → ad.block ≠ rb) (hn : n ≤ 9223372036854775807) :
    Calls Try.prog 59 #[.pointer (some ⟨rb, 0, none⟩)] w fun e w' => e = .returned (.int .i64 (toI (pNum b 8 s).1)) ∧ RSt w' rb A n c (pNum b 8 s).2 ∧ Off (· = rb) w w' := by
  have hl := hb.len
  rcases num_ways (k := 8) hl s with ⟨hp, e1⟩ | ⟨x, rfl, hf, e1⟩
  · rw [e1]
    have HX := Lib.hid (next_no w rb A n c 8 s h hp hn)
    clear hp e1 h hl
    go_enter Try.func59, Try.ntmps59
    go_wp2_with fail
    refine HX.out.mono ?_
    rintro e w1 ⟨rfl, h1, h2⟩
    go_wp2_with fail
    go_ret
    exact ⟨rfl, h1, h2⟩
  · obtain ⟨a, ha, hr, hx⟩ := h
    obtain rfl := hx x rfl
    rw [e1]
    have h3 := numAt_fit (b := b) (x := x) (k := 8) (by omega)
    have h4 := leN_fit (b := b) (x := x) (k := 8) (by omega)
    generalize leN ((b.drop x).take 8) = v at *
    have HX := Lib.hid (next_fits w rb A n c x 8 hr hf hn)
    have HU : Hid (∀ w', BR w' A n b → Calls Try.prog 69 #[.slice A n c, .int .i64 (x : Int)] w' fun e w2 => e = .returned (.tuple #[.int .u64 (v : Int), .bool true]) ∧ w' = w2) := Lib.hid (fun w' hb' => by
      have X := U64_any A n c b w' (x : Int) hb' hn (by omega) (by omega)
      rw [h3] at X
      exact X)
    have HB : Hid (∀ w', Off (· = rb) w w' → BR w' A n b) := Lib.hid (fun w' ho => hb.off ho hA)
    have HV : Hid (v < 18446744073709551616) := Lib.hid (Nat.lt_of_lt_of_le h4 (by decide))
    have b3 : (0 : Int) ≤ (v : Int) := Int.natCast_nonneg _
    skip
    clear e1 hr hb hA hx h3 h4 hl
    go_enter Try.func59, Try.ntmps59
    go_wp2_with fail
    refine HX.out.mono ?_
    rintro e w1 ⟨rfl, h1, h2⟩
    have q0 := h1.c0
    have HR := Lib.hid h1
    have HW := Lib.hid (HB.out w1 h2)
    clear h1 HX HB
    go_wp2_with fail
    refine (HU.out _ HW.out).mono ?_
    rintro e w' ⟨rfl, rfl⟩
    go_wp2_with fail
    go_ret
    exact ⟨ret_i (toI_wrap v HV.out), RSt.some_ HR.out hf, h2⟩

set_option maxRecDepth 100000 in
set_option maxHeartbeats 400000 in
theorem image_any (w : World) (rb : Nat) (A : Option Addr) (n c : Nat) (b : List UInt8) (s : Option Nat) (h : RSt w rb A n c s) (hb : BR w A n b) (hA : ∀ ad, A = some ad → 0 < n → ad.block ≠ rb) (hn : n ≤ 9223372036854775807) (hnc : n ≤ c) :
    Calls Try.prog 72 #[.pointer (some ⟨rb, 0, none⟩)] w fun e w' => ∃ v, e = .returned v ∧ OB w' w.heap.size v (pImage b s).1 ∧ RSt w' rb A n c (pImage b s).2 ∧ Off (· = rb) w w' := by
  obtain ⟨i0, hi0, hz0, hz1, hz2⟩ := info_parts info_u8
  have hl := hb.len
  have hw : (pNext n 4080 s = none ∧ pImage b s = ([], none)) ∨ ∃ x, s = some x ∧ x + 4080 ≤ n ∧ pImage b s = ((b.drop x).take 4080, some (x + 4080)) := by
    cases s with
    | none => exact .inl ⟨rfl, rfl⟩
    | some a =>
      by_cases h : a + 4080 ≤ n
      · exact .inr ⟨a, rfl, h, by unfold pImage; simp only; rw [if_pos (by omega)]⟩
      · exact .inl ⟨by unfold pNext; simp only; rw [if_neg h], by unfold pImage; simp only; rw [if_neg (by omega)]⟩
  rcases hw with ⟨hp, e1⟩ | ⟨x, rfl, hf, e1⟩
  · rw [e1]
    have HX := Lib.hid (next_no w rb A n c 4080 s h hp hn)
    clear hp e1 h hl
    go_enter Try.func72, Try.ntmps72
    go_wp2_with fail
    refine HX.out.mono ?_
    rintro e w1 ⟨rfl, h1, h2⟩
    go_wp2_with fail
    go_ret
    exact ⟨_, rfl, OB.nil _ _, h1, h2⟩
  · obtain ⟨a, ha, hr, hx⟩ := h
    obtain rfl := hx x rfl
    rw [e1]
    have HX := Lib.hid (next_fits w rb A n c x 4080 hr hf hn)
    have hcut := fun W => run_cut_lh (P := Try.prog) W 26 5 i0 Try.underlying26 hi0 1 hz1 A n c (x : Int) ((x : Int) + 4080) x (x + 4080) rfl (by omega) (by omega) (by omega)
    rw [show x + 4080 - x = 4080 from by omega] at hcut
    have HB : Hid (∀ w', Off (· = rb) w w' → BR w' (cutA A c x 1) 4080 ((b.drop x).take 4080)) := Lib.hid (fun w' ho => by
      have h := (hb.off ho hA).cut (k := x) (j := x + 4080) (c := c) (by omega) (by omega) hnc
      rwa [show x + 4080 - x = 4080 from by omega] at h)
    clear e1 hb hA hx hl
    go_enter Try.func72, Try.ntmps72
    go_wp2_with fail
    refine HX.out.mono ?_
    rintro e w1 ⟨rfl, h1, h2⟩
    have q0 := h1.c0
    have q1 := h1.c1
    rw [show ((x + 4080 : Nat) : Int) = (x : Int) + 4080 from by omega] at q1
    have HR := Lib.hid h1
    have HW := Lib.hid (HB.out w1 h2)
    clear h1 HX HB hr
    go_wp2_with fail
    go_region_held3 (fun W => W.cell? ⟨rb, 0, none⟩ = some (.slice A n c) ∧ W.cell? ⟨rb, 1, none⟩ = some (.int .i64 ((x : Int) + 4080)))
      (first | exact ⟨q0, q1⟩ | exact ⟨keep_of_below hb5 q0, keep_of_below hb5 q1⟩)
      (first | (go_at_call 37; refine (Clone_any _ _ _ _ _ HW.out.drew (by omega)).mono ?_; rintro e w5 ⟨v5, rfl, ob5, hb5⟩))
    go_wp2_with fail
    go_ret
    exact ⟨v5, rfl, ob5.lower h2.size, RSt.some_ (HR.out.below (bel_drew hb5)) hf, h2.trans (Off.of_below (bel_drew hb5))⟩

set_option maxRecDepth 100000 in
set_option maxHeartbeats 400000 in
theorem part_any (w : World) (rb : Nat) (A : Option Addr) (n c : Nat) (b : List UInt8) (s : Option Nat) (h : RSt w rb A n c s) (hb : BR w A n b) (_hA : ∀ ad, A = some ad → 0 < n → ad.block ≠ rb) (hn : n ≤ 211106232532992) (hnc : n ≤ c) (hc : c ≤ 9223372036854775807) :
    Calls Try.prog 71 #[.pointer (some ⟨rb, 0, none⟩)] w fun e w' => ∃ v, e = .returned v ∧ OB w' w.heap.size v (pPart b s).1 ∧ RSt w' rb A n c (pPart b s).2 ∧ Off (· = rb) w w' := by
  have hl := hb.len
  obtain ⟨a, ha, hr, hx⟩ := h
  have q0 := hr.c0
  have q1 := hr.c1
  have q2 := hr.c2
  have HR := Lib.hid hr
  have HB := Lib.hid hb
  rcases s with _ | x
  · have HP : Hid (∀ W, BR W A n b → Calls Try.prog 73 #[.slice A n c, .int .i64 (a : Int)] W fun e w' => ∃ v, e = .returned (.tuple #[v, .int .i64 ((((partAt b (a : Int)).map (·.2)).getD 0 : Nat) : Int), .bool (partAt b (a : Int)).isSome]) ∧ OB w' W.heap.size v (((partAt b (a : Int)).map (·.1)).getD []) ∧ Below W.heap.size W w') := Lib.hid (fun W hW => Part_any A n c b W (a : Int) hW hnc hn hc (by omega) (by omega))
    generalize (((partAt b (a : Int)).map (·.2)).getD 0 : Nat) = pe at *
    generalize (partAt b (a : Int)).isSome = ok at *
    generalize ((partAt b (a : Int)).map (·.1)).getD [] = pl at *
    clear hx hr hb
    go_enter Try.func71, Try.ntmps71
    go_wp2_with fail
    go_region_held3 (fun W => W.cell? ⟨rb, 0, none⟩ = some (.slice A n c) ∧ W.cell? ⟨rb, 1, none⟩ = some (.int .i64 (a : Int)))
      (first | exact ⟨q0, q1⟩ | exact ⟨keep_of_below hb5 q0, keep_of_below hb5 q1⟩)
      (first | (go_at_call 73; refine (HP.out _ HB.out.drew).mono ?_; rintro e w5 ⟨v5, rfl, ob5, hb5⟩))
    have hr5 := HR.out.below (bel_drew hb5)
    have ho5 : Off (· = rb) w w5 := Off.of_below (bel_drew hb5)
    obtain ⟨Av, cv, rfl, _, _⟩ := own_form ob5
    have HOB := Lib.hid ob5
    have HR5 := Lib.hid hr5
    have p2 := hr5.c2
    have z2 := hr5.frozen 2
    clear hr5 ob5 q0 q1 q2 hb5
    go_wp2_with fail
    go_ret
    exact ⟨_, rfl, OB.nil _ _, RSt.none_ (HR5.out.s2 true) ha, ho5.setCell _ rfl⟩
  · obtain rfl : a = x := (hx x rfl).symm
    rcases hq : partAt b (a : Int) with _ | ⟨l, pe⟩
    · have HP : Hid (∀ W, BR W A n b → Calls Try.prog 73 #[.slice A n c, .int .i64 (a : Int)] W fun e w' => ∃ v, e = .returned (.tuple #[v, .int .i64 (0 : Int), .bool false]) ∧ OB w' W.heap.size v [] ∧ Below W.heap.size W w') := Lib.hid (fun W hW => by
        have X := Part_any A n c b W (a : Int) hW hnc hn hc (by omega) (by omega)
        rw [hq] at X
        exact X)
      have e1 : pPart b (some a) = ([], none) := by unfold pPart; simp only; rw [hq]
      rw [e1]
      clear hx hr hb hq e1
      go_enter Try.func71, Try.ntmps71
      go_wp2_with fail
      go_region_held3 (fun W => W.cell? ⟨rb, 0, none⟩ = some (.slice A n c) ∧ W.cell? ⟨rb, 1, none⟩ = some (.int .i64 (a : Int)))
        (first | exact ⟨q0, q1⟩ | exact ⟨keep_of_below hb5 q0, keep_of_below hb5 q1⟩)
        (first | (go_at_call 73; refine (HP.out _ HB.out.drew).mono ?_; rintro e w5 ⟨v5, rfl, ob5, hb5⟩))
      have hr5 := HR.out.below (bel_drew hb5)
      have ho5 : Off (· = rb) w w5 := Off.of_below (bel_drew hb5)
      obtain ⟨Av, cv, rfl, _, _⟩ := own_form ob5
      have HOB := Lib.hid ob5
      have HR5 := Lib.hid hr5
      have p2 := hr5.c2
      have z2 := hr5.frozen 2
      clear hr5 ob5 q0 q1 q2 hb5
      go_wp2_with fail
      go_ret
      exact ⟨_, rfl, OB.nil _ _, RSt.none_ (HR5.out.s2 true) ha, ho5.setCell _ rfl⟩
    · have HP : Hid (∀ W, BR W A n b → Calls Try.prog 73 #[.slice A n c, .int .i64 (a : Int)] W fun e w' => ∃ v, e = .returned (.tuple #[v, .int .i64 (pe : Int), .bool true]) ∧ OB w' W.heap.size v l ∧ Below W.heap.size W w') := Lib.hid (fun W hW => by
        have X := Part_any A n c b W (a : Int) hW hnc hn hc (by omega) (by omega)
        rw [hq] at X
        exact X)
      have e1 : pPart b (some a) = (l, some pe) := by unfold pPart; simp only; rw [hq]
      have hpe : pe ≤ n := by
        have h2 : (pPart b (some a)).2 = some pe := by rw [e1]
        have := (pPart_s h2).1.le
        omega
      rw [e1]
      clear hx hr hb hq e1
      go_enter Try.func71, Try.ntmps71
      go_wp2_with fail
      go_region_held3 (fun W => W.cell? ⟨rb, 0, none⟩ = some (.slice A n c) ∧ W.cell? ⟨rb, 1, none⟩ = some (.int .i64 (a : Int)))
        (first | exact ⟨q0, q1⟩ | exact ⟨keep_of_below hb5 q0, keep_of_below hb5 q1⟩)
        (first | (go_at_call 73; refine (HP.out _ HB.out.drew).mono ?_; rintro e w5 ⟨v5, rfl, ob5, hb5⟩))
      have hr5 := HR.out.below (bel_drew hb5)
      have ho5 : Off (· = rb) w w5 := Off.of_below (bel_drew hb5)
      obtain ⟨Av, cv, rfl, _, _⟩ := own_form ob5
      have HOB := Lib.hid ob5
      have HR5 := Lib.hid hr5
      have p2 := hr5.c2
      have z2 := hr5.frozen 1
      clear hr5 ob5 q0 q1 q2 hb5
      go_wp2_with fail
      go_ret
      exact ⟨_, rfl, HOB.out.rset HR5.out _ _, RSt.some_ (HR5.out.s1i rfl) hpe, ho5.setCell _ rfl⟩

end Go.Proofs.Ythpjjoahffagcaa
