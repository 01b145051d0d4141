/-
  Texts of this claim, joined: RdB, RdC, RdD, RdE, RdF, RdG, RdH, Rf, DfA, DfB, DfC. No statement of the program is proved here.
-/
import Derived.Test.YtnkeclpgpiogoaaGreatPkE2
import Derived.RangeFuncBound
import Derived.RangeFuncCalls
import Derived.RangeFuncLeaves
import Derived.OwnWalkIn
import Derived.TacticsInMore
import Derived.LoopNIn
import Derived.LoopIn
import Derived.Sort.QuietIn
import Derived.RegionIn
import Derived.BigRegionIn
import Derived.Stop.RegionWithIn
import Derived.Test.YtnkeclpgpiogoaaGreatPkE1
import Derived.Deep.RegionHeldLaw
import Derived.Laws.EntriesVeiled
import Derived.Shelf.Abstract
/-! RdB -/
namespace Go.Proofs.YtnkeclpgpiogoaaGreat
open Go.RowKit
set_option maxRecDepth 100000 in
theorem numAt_fit {b : List UInt8} {x k : Nat} (h : x + k ≤ b.length) : numAt b (x : Int) k = some (leN ((b.drop x).take k)) := by
 unfold numAt
 rw [if_neg (by omega), Int.toNat_natCast]
set_option maxRecDepth 100000 in
theorem leN_fit {b : List UInt8} {x k : Nat} (h : x + k ≤ b.length) : leN ((b.drop x).take k) < 256 ^ k := by
 have h1 := leN_lt ((b.drop x).take k)
 rwa [List.length_take, List.length_drop, Nat.min_eq_left (by omega)] at h1
set_option maxRecDepth 100000 in
theorem OB.rset {w : World} {rb : Nat} {A : Option Addr} {n c a base : Nat} {bad : Bool} {v : Value} {l : List UInt8} (h : OB w base v l) (hr : RB w rb A n c a bad) (j : Nat) (x : Value) : OB (w.setCell ⟨rb, j, none⟩ x) base v l := by
 refine h.off ((Off.refl (· = rb) w).setCell x rfl) (fun k hk e => ?_)
 obtain ⟨cur, hc⟩ := own_blk h hk
 rw [e] at hc
 exact cells_ne hc hr (by decide)
set_option maxRecDepth 100000 in
theorem toI_wrap (v : Nat) (h : v < 18446744073709551616) : wrap64 (v : Int) = toI v := by
 unfold wrap64 toI
 split <;> omega
set_option maxRecDepth 100000 in
theorem num_ways {n k : Nat} {b : List UInt8} (hb : b.length = n) (s : Option Nat) : (pNext n k s = none ∧ pNum b k s = (0, none)) ∨ ∃ x, s = some x ∧ x + k ≤ n ∧ pNum b k s = (leN ((b.drop x).take k), some (x + k)) := by
 cases s with
 | none => exact .inl ⟨rfl, rfl⟩
 | some a =>
  by_cases h : a + k ≤ n
  ·exact .inr ⟨a, rfl, h, by unfold pNum; simp only; rw [if_pos (by omega)]⟩
  ·exact .inl ⟨by unfold pNext; simp only; rw [if_neg h], by unfold pNum; simp only; rw [if_neg (by omega)]⟩
set_option maxRecDepth 100000 in
set_option maxHeartbeats 400000 in
theorem two_any (w : World) (rb : Nat) (A : Option Addr) (n c : Nat) (b : List UInt8) (s : Option Nat) (h : RSt w rb A n c s) (hb : BR w A n b) (hA : ∀ ad, A = some ad → 0 < n → ad.block ≠ rb) (hn : n ≤ 9223372036854775807) :
  Calls Tryz.prog 177 #[.pointer (some ⟨rb, 0, none⟩)] w fun e w' => e = .returned (.int .i64 ((pNum b 2 s).1 : Int)) ∧ RSt w' rb A n c (pNum b 2 s).2 ∧ Off (· = rb) w w' := by
 have hl := hb.len
 rcases num_ways (k := 2) hl s with ⟨hp, e1⟩ | ⟨x, rfl, hf, e1⟩
 ·rw [e1]
  have HX := Lib.hid (next_no w rb A n c 2 s h hp hn)
  clear hp e1 h hl
  go_enter Tryz.func177, Tryz.ntmps177
  go_wp2_with fail
  refine HX.out.mono ?_
  rintro e w1 ⟨rfl, h1, h2⟩
  go_wp2_with fail
  go_ret
  exact ⟨rfl, h1, h2⟩
 ·obtain ⟨a, ha, hr, hx⟩ := h
  obtain rfl := hx x rfl
  rw [e1]
  have h3 := numAt_fit (b := b) (x := x) (k := 2) (by omega)
  have h4 := leN_fit (b := b) (x := x) (k := 2) (by omega)
  generalize leN ((b.drop x).take 2) = v at *
  have HX := Lib.hid (next_fits w rb A n c x 2 hr hf hn)
  have HU : Hid (∀ w', BR w' A n b → Calls Tryz.prog 195 #[.slice A n c, .int .i64 (x : Int)] w' fun e w2 => e = .returned (.tuple #[.int .u16 (v : Int), .bool true]) ∧ w' = w2) := Lib.hid (fun w' hb' => by
   have X := U16_any A n c b w' (x : Int) hb' hn (by omega) (by omega)
   rw [h3] at X
   exact X)
  have HB : Hid (∀ w', Off (· = rb) w w' → BR w' A n b) := Lib.hid (fun w' ho => hb.off ho hA)
  have HV : Hid (v < 18446744073709551616) := Lib.hid (Nat.lt_of_lt_of_le h4 (by decide))
  have b3 : (0 : Int) ≤ (v : Int) := Int.natCast_nonneg _
  have b4 : (v : Int) ≤ 65535 := by omega
  clear e1 hr hb hA hx h3 h4 hl
  go_enter Tryz.func177, Tryz.ntmps177
  go_wp2_with fail
  refine HX.out.mono ?_
  rintro e w1 ⟨rfl, h1, h2⟩
  have q0 := h1.c0
  have HR := Lib.hid h1
  have HW := Lib.hid (HB.out w1 h2)
  clear h1 HX HB
  go_wp2_with fail
  refine (HU.out _ HW.out).mono ?_
  rintro e w' ⟨rfl, rfl⟩
  go_wp2_with fail
  go_ret
  exact ⟨rfl, RSt.some_ HR.out hf, h2⟩
set_option maxRecDepth 100000 in
set_option maxHeartbeats 400000 in
theorem four_any (w : World) (rb : Nat) (A : Option Addr) (n c : Nat) (b : List UInt8) (s : Option Nat) (h : RSt w rb A n c s) (hb : BR w A n b) (hA : ∀ ad, A = some ad → 0 < n → ad.block ≠ rb) (hn : n ≤ 9223372036854775807) :
  Calls Tryz.prog 196 #[.pointer (some ⟨rb, 0, none⟩)] w fun e w' => e = .returned (.int .i64 ((pNum b 4 s).1 : Int)) ∧ RSt w' rb A n c (pNum b 4 s).2 ∧ Off (· = rb) w w' := by
 have hl := hb.len
 rcases num_ways (k := 4) hl s with ⟨hp, e1⟩ | ⟨x, rfl, hf, e1⟩
 ·rw [e1]
  have HX := Lib.hid (next_no w rb A n c 4 s h hp hn)
  clear hp e1 h hl
  go_enter Tryz.func196, Tryz.ntmps196
  go_wp2_with fail
  refine HX.out.mono ?_
  rintro e w1 ⟨rfl, h1, h2⟩
  go_wp2_with fail
  go_ret
  exact ⟨rfl, h1, h2⟩
 ·obtain ⟨a, ha, hr, hx⟩ := h
  obtain rfl := hx x rfl
  rw [e1]
  have h3 := numAt_fit (b := b) (x := x) (k := 4) (by omega)
  have h4 := leN_fit (b := b) (x := x) (k := 4) (by omega)
  generalize leN ((b.drop x).take 4) = v at *
  have HX := Lib.hid (next_fits w rb A n c x 4 hr hf hn)
  have HU : Hid (∀ w', BR w' A n b → Calls Tryz.prog 119 #[.slice A n c, .int .i64 (x : Int)] w' fun e w2 => e = .returned (.tuple #[.int .u32 (v : Int), .bool true]) ∧ w' = w2) := Lib.hid (fun w' hb' => by
   have X := U32_any A n c b w' (x : Int) hb' hn (by omega) (by omega)
   rw [h3] at X
   exact X)
  have HB : Hid (∀ w', Off (· = rb) w w' → BR w' A n b) := Lib.hid (fun w' ho => hb.off ho hA)
  have HV : Hid (v < 18446744073709551616) := Lib.hid (Nat.lt_of_lt_of_le h4 (by decide))
  have b3 : (0 : Int) ≤ (v : Int) := Int.natCast_nonneg _
  have b4 : (v : Int) ≤ 4294967295 := by omega
  clear e1 hr hb hA hx h3 h4 hl
  go_enter Tryz.func196, Tryz.ntmps196
  go_wp2_with fail
  refine HX.out.mono ?_
  rintro e w1 ⟨rfl, h1, h2⟩
  have q0 := h1.c0
  have HR := Lib.hid h1
  have HW := Lib.hid (HB.out w1 h2)
  clear h1 HX HB
  go_wp2_with fail
  refine (HU.out _ HW.out).mono ?_
  rintro e w' ⟨rfl, rfl⟩
  go_wp2_with fail
  go_ret
  exact ⟨rfl, RSt.some_ HR.out hf, h2⟩
set_option maxRecDepth 100000 in
set_option maxHeartbeats 400000 in
theorem eight_any (w : World) (rb : Nat) (A : Option Addr) (n c : Nat) (b : List UInt8) (s : Option Nat) (h : RSt w rb A n c s) (hb : BR w A n b) (hA : ∀ ad, A = some ad → 0 < n → ad.block ≠ rb) (hn : n ≤ 9223372036854775807) :
  Calls Tryz.prog 178 #[.pointer (some ⟨rb, 0, none⟩)] w fun e w' => e = .returned (.int .i64 (toI (pNum b 8 s).1)) ∧ RSt w' rb A n c (pNum b 8 s).2 ∧ Off (· = rb) w w' := by
 have hl := hb.len
 rcases num_ways (k := 8) hl s with ⟨hp, e1⟩ | ⟨x, rfl, hf, e1⟩
 ·rw [e1]
  have HX := Lib.hid (next_no w rb A n c 8 s h hp hn)
  clear hp e1 h hl
  go_enter Tryz.func178, Tryz.ntmps178
  go_wp2_with fail
  refine HX.out.mono ?_
  rintro e w1 ⟨rfl, h1, h2⟩
  go_wp2_with fail
  go_ret
  exact ⟨rfl, h1, h2⟩
 ·obtain ⟨a, ha, hr, hx⟩ := h
  obtain rfl := hx x rfl
  rw [e1]
  have h3 := numAt_fit (b := b) (x := x) (k := 8) (by omega)
  have h4 := leN_fit (b := b) (x := x) (k := 8) (by omega)
  generalize leN ((b.drop x).take 8) = v at *
  have HX := Lib.hid (next_fits w rb A n c x 8 hr hf hn)
  have HU : Hid (∀ w', BR w' A n b → Calls Tryz.prog 112 #[.slice A n c, .int .i64 (x : Int)] w' fun e w2 => e = .returned (.tuple #[.int .u64 (v : Int), .bool true]) ∧ w' = w2) := Lib.hid (fun w' hb' => by
   have X := U64_any A n c b w' (x : Int) hb' hn (by omega) (by omega)
   rw [h3] at X
   exact X)
  have HB : Hid (∀ w', Off (· = rb) w w' → BR w' A n b) := Lib.hid (fun w' ho => hb.off ho hA)
  have HV : Hid (v < 18446744073709551616) := Lib.hid (Nat.lt_of_lt_of_le h4 (by decide))
  have b3 : (0 : Int) ≤ (v : Int) := Int.natCast_nonneg _
  skip
  clear e1 hr hb hA hx h3 h4 hl
  go_enter Tryz.func178, Tryz.ntmps178
  go_wp2_with fail
  refine HX.out.mono ?_
  rintro e w1 ⟨rfl, h1, h2⟩
  have q0 := h1.c0
  have HR := Lib.hid h1
  have HW := Lib.hid (HB.out w1 h2)
  clear h1 HX HB
  go_wp2_with fail
  refine (HU.out _ HW.out).mono ?_
  rintro e w' ⟨rfl, rfl⟩
  go_wp2_with fail
  go_ret
  exact ⟨ret_i (toI_wrap v HV.out), RSt.some_ HR.out hf, h2⟩
set_option maxRecDepth 100000 in
set_option maxHeartbeats 400000 in
theorem image_any (w : World) (rb : Nat) (A : Option Addr) (n c : Nat) (b : List UInt8) (s : Option Nat) (h : RSt w rb A n c s) (hb : BR w A n b) (hA : ∀ ad, A = some ad → 0 < n → ad.block ≠ rb) (hn : n ≤ 9223372036854775807) (hnc : n ≤ c) :
  Calls Tryz.prog 198 #[.pointer (some ⟨rb, 0, none⟩)] w fun e w' => ∃ v, e = .returned v ∧ OB w' w.heap.size v (pImage b s).1 ∧ RSt w' rb A n c (pImage b s).2 ∧ Off (· = rb) w w' := by
 obtain ⟨i0, hi0, hz0, hz1, hz2⟩ := info_parts info_u8
 have hl := hb.len
 have hw : (pNext n 4080 s = none ∧ pImage b s = ([], none)) ∨ ∃ x, s = some x ∧ x + 4080 ≤ n ∧ pImage b s = ((b.drop x).take 4080, some (x + 4080)) := by
  cases s with
  | none => exact .inl ⟨rfl, rfl⟩
  | some a =>
   by_cases h : a + 4080 ≤ n
   ·exact .inr ⟨a, rfl, h, by unfold pImage; simp only; rw [if_pos (by omega)]⟩
   ·exact .inl ⟨by unfold pNext; simp only; rw [if_neg h], by unfold pImage; simp only; rw [if_neg (by omega)]⟩
 rcases hw with ⟨hp, e1⟩ | ⟨x, rfl, hf, e1⟩
 ·rw [e1]
  have HX := Lib.hid (next_no w rb A n c 4080 s h hp hn)
  clear hp e1 h hl
  go_enter Tryz.func198, Tryz.ntmps198
  go_wp2_with fail
  refine HX.out.mono ?_
  rintro e w1 ⟨rfl, h1, h2⟩
  go_wp2_with fail
  go_ret
  exact ⟨_, rfl, OB.nil _ _, h1, h2⟩
 ·obtain ⟨a, ha, hr, hx⟩ := h
  obtain rfl := hx x rfl
  rw [e1]
  have HX := Lib.hid (next_fits w rb A n c x 4080 hr hf hn)
  have hcut := fun W => run_cut_lh (P := Tryz.prog) W 35 5 i0 Tryz.underlying35 hi0 1 hz1 A n c (x : Int) ((x : Int) + 4080) x (x + 4080) rfl (by omega) (by omega) (by omega)
  rw [show x + 4080 - x = 4080 from by omega] at hcut
  have HB : Hid (∀ w', Off (· = rb) w w' → BR w' (cutA A c x 1) 4080 ((b.drop x).take 4080)) := Lib.hid (fun w' ho => by
   have h := (hb.off ho hA).cut (k := x) (j := x + 4080) (c := c) (by omega) (by omega) hnc
   rwa [show x + 4080 - x = 4080 from by omega] at h)
  clear e1 hb hA hx hl
  go_enter Tryz.func198, Tryz.ntmps198
  go_wp2_with fail
  refine HX.out.mono ?_
  rintro e w1 ⟨rfl, h1, h2⟩
  have q0 := h1.c0
  have q1 := h1.c1
  rw [show ((x + 4080 : Nat) : Int) = (x : Int) + 4080 from by omega] at q1
  have HR := Lib.hid h1
  have HW := Lib.hid (HB.out w1 h2)
  clear h1 HX HB hr
  go_wp2_with fail
  go_region_held3 (fun W => W.cell? ⟨rb, 0, none⟩ = some (.slice A n c) ∧ W.cell? ⟨rb, 1, none⟩ = some (.int .i64 ((x : Int) + 4080)))
   (first | exact ⟨q0, q1⟩ | exact ⟨keep_of_below hb5 q0, keep_of_below hb5 q1⟩)
   (first | (go_at_call 70; refine (Clone_any _ _ _ _ _ HW.out.drew (by omega)).mono ?_; rintro e w5 ⟨v5, rfl, ob5, hb5⟩))
  go_wp2_with fail
  go_ret
  exact ⟨v5, rfl, ob5.lower h2.size, RSt.some_ (HR.out.below (bel_drew hb5)) hf, h2.trans (Off.of_below (bel_drew hb5))⟩
set_option maxRecDepth 100000 in
set_option maxHeartbeats 400000 in
theorem part_any (w : World) (rb : Nat) (A : Option Addr) (n c : Nat) (b : List UInt8) (s : Option Nat) (h : RSt w rb A n c s) (hb : BR w A n b) (_hA : ∀ ad, A = some ad → 0 < n → ad.block ≠ rb) (hn : n ≤ 211106232532992) (hnc : n ≤ c) (hc : c ≤ 9223372036854775807) :
  Calls Tryz.prog 197 #[.pointer (some ⟨rb, 0, none⟩)] w fun e w' => ∃ v, e = .returned v ∧ OB w' w.heap.size v (pPart b s).1 ∧ RSt w' rb A n c (pPart b s).2 ∧ Off (· = rb) w w' := by
 have hl := hb.len
 obtain ⟨a, ha, hr, hx⟩ := h
 have q0 := hr.c0
 have q1 := hr.c1
 have q2 := hr.c2
 have HR := Lib.hid hr
 have HB := Lib.hid hb
 rcases s with _ | x
 ·have HP : Hid (∀ W, BR W A n b → Calls Tryz.prog 207 #[.slice A n c, .int .i64 (a : Int)] W fun e w' => ∃ v, e = .returned (.tuple #[v, .int .i64 ((((partAt b (a : Int)).map (·.2)).getD 0 : Nat) : Int), .bool (partAt b (a : Int)).isSome]) ∧ OB w' W.heap.size v (((partAt b (a : Int)).map (·.1)).getD []) ∧ Below W.heap.size W w') := Lib.hid (fun W hW => Part_any A n c b W (a : Int) hW hnc hn hc (by omega) (by omega))
  generalize (((partAt b (a : Int)).map (·.2)).getD 0 : Nat) = pe at *
  generalize (partAt b (a : Int)).isSome = ok at *
  generalize ((partAt b (a : Int)).map (·.1)).getD [] = pl at *
  clear hx hr hb
  go_enter Tryz.func197, Tryz.ntmps197
  go_wp2_with fail
  go_region_held3 (fun W => W.cell? ⟨rb, 0, none⟩ = some (.slice A n c) ∧ W.cell? ⟨rb, 1, none⟩ = some (.int .i64 (a : Int)))
   (first | exact ⟨q0, q1⟩ | exact ⟨keep_of_below hb5 q0, keep_of_below hb5 q1⟩)
   (first | (go_at_call 207; refine (HP.out _ HB.out.drew).mono ?_; rintro e w5 ⟨v5, rfl, ob5, hb5⟩))
  have hr5 := HR.out.below (bel_drew hb5)
  have ho5 : Off (· = rb) w w5 := Off.of_below (bel_drew hb5)
  obtain ⟨Av, cv, rfl, _, _⟩ := own_form ob5
  have HOB := Lib.hid ob5
  have HR5 := Lib.hid hr5
  have p2 := hr5.c2
  have z2 := hr5.frozen 2
  clear hr5 ob5 q0 q1 q2 hb5
  go_wp2_with fail
  go_ret
  exact ⟨_, rfl, OB.nil _ _, RSt.none_ (HR5.out.s2 true) ha, ho5.setCell _ rfl⟩
 ·obtain rfl : a = x := (hx x rfl).symm
  rcases hq : partAt b (a : Int) with _ | ⟨l, pe⟩
  ·have HP : Hid (∀ W, BR W A n b → Calls Tryz.prog 207 #[.slice A n c, .int .i64 (a : Int)] W fun e w' => ∃ v, e = .returned (.tuple #[v, .int .i64 (0 : Int), .bool false]) ∧ OB w' W.heap.size v [] ∧ Below W.heap.size W w') := Lib.hid (fun W hW => by
    have X := Part_any A n c b W (a : Int) hW hnc hn hc (by omega) (by omega)
    rw [hq] at X
    exact X)
   have e1 : pPart b (some a) = ([], none) := by unfold pPart; simp only; rw [hq]
   rw [e1]
   clear hx hr hb hq e1
   go_enter Tryz.func197, Tryz.ntmps197
   go_wp2_with fail
   go_region_held3 (fun W => W.cell? ⟨rb, 0, none⟩ = some (.slice A n c) ∧ W.cell? ⟨rb, 1, none⟩ = some (.int .i64 (a : Int)))
    (first | exact ⟨q0, q1⟩ | exact ⟨keep_of_below hb5 q0, keep_of_below hb5 q1⟩)
    (first | (go_at_call 207; refine (HP.out _ HB.out.drew).mono ?_; rintro e w5 ⟨v5, rfl, ob5, hb5⟩))
   have hr5 := HR.out.below (bel_drew hb5)
   have ho5 : Off (· = rb) w w5 := Off.of_below (bel_drew hb5)
   obtain ⟨Av, cv, rfl, _, _⟩ := own_form ob5
   have HOB := Lib.hid ob5
   have HR5 := Lib.hid hr5
   have p2 := hr5.c2
   have z2 := hr5.frozen 2
   clear hr5 ob5 q0 q1 q2 hb5
   go_wp2_with fail
   go_ret
   exact ⟨_, rfl, OB.nil _ _, RSt.none_ (HR5.out.s2 true) ha, ho5.setCell _ rfl⟩
  ·have HP : Hid (∀ W, BR W A n b → Calls Tryz.prog 207 #[.slice A n c, .int .i64 (a : Int)] W fun e w' => ∃ v, e = .returned (.tuple #[v, .int .i64 (pe : Int), .bool true]) ∧ OB w' W.heap.size v l ∧ Below W.heap.size W w') := Lib.hid (fun W hW => by
    have X := Part_any A n c b W (a : Int) hW hnc hn hc (by omega) (by omega)
    rw [hq] at X
    exact X)
   have e1 : pPart b (some a) = (l, some pe) := by unfold pPart; simp only; rw [hq]
   have hpe : pe ≤ n := by
    have h2 : (pPart b (some a)).2 = some pe := by rw [e1]
    have := (pPart_s h2).1.le
    omega
   rw [e1]
   clear hx hr hb hq e1
   go_enter Tryz.func197, Tryz.ntmps197
   go_wp2_with fail
   go_region_held3 (fun W => W.cell? ⟨rb, 0, none⟩ = some (.slice A n c) ∧ W.cell? ⟨rb, 1, none⟩ = some (.int .i64 (a : Int)))
    (first | exact ⟨q0, q1⟩ | exact ⟨keep_of_below hb5 q0, keep_of_below hb5 q1⟩)
    (first | (go_at_call 207; refine (HP.out _ HB.out.drew).mono ?_; rintro e w5 ⟨v5, rfl, ob5, hb5⟩))
   have hr5 := HR.out.below (bel_drew hb5)
   have ho5 : Off (· = rb) w w5 := Off.of_below (bel_drew hb5)
   obtain ⟨Av, cv, rfl, _, _⟩ := own_form ob5
   have HOB := Lib.hid ob5
   have HR5 := Lib.hid hr5
   have p2 := hr5.c2
   have z2 := hr5.frozen 1
   clear hr5 ob5 q0 q1 q2 hb5
   go_wp2_with fail
   go_ret
   exact ⟨_, rfl, HOB.out.rset HR5.out _ _, RSt.some_ (HR5.out.s1i rfl) hpe, ho5.setCell _ rfl⟩
end Go.Proofs.YtnkeclpgpiogoaaGreat

/-! RdC -/
namespace Go.Proofs.YtnkeclpgpiogoaaGreat
open Go.RowKit
def OW (w : World) (base : Nat) (v : Value) (ps : List Pc) : Prop :=
 ∃ us : List (Int × Value), w.ownsRow base 199 2 v ps.length (pcs us) ∧ us.length = ps.length ∧ ∀ (i : Nat) (p : Pc) (q : Int × Value), ps[i]? = some p → us[i]? = some q → q.1 = p.1 ∧ OB w base q.2 p.2
section
variable {w w' w4 : World} {base : Nat} {v v4 : Value} {ps : List Pc}
set_option maxRecDepth 100000 in
theorem OW.nil (w : World) (base : Nat) : OW w base (.slice none 0 0) [] := ⟨[], ⟨rfl, .inl ⟨rfl, rfl⟩⟩, rfl, fun i p q h => by simp at h⟩
set_option maxRecDepth 100000 in
theorem OW.off {S : Nat → Prop} (h : OW w base v ps) (ho : Off S w w') (hS : ∀ k, base ≤ k → ¬ S k) : OW w' base v ps := by
 obtain ⟨us, h1, h2, h3⟩ := h
 refine ⟨us, ownsRow_off h1 ho (fun k hk => hS k (h1.lt k hk).1), h2, fun i p q hp hq => ?_⟩
 obtain ⟨h4, h5⟩ := h3 i p q hp hq
 exact ⟨h4, h5.off ho (fun k hk => hS k (h5.lt k hk).1)⟩
set_option maxRecDepth 100000 in
theorem OW.below (h : OW w base v ps) (hb : Below w.heap.size w w') : OW w' base v ps := h.off (S := fun _ => False) (Off.of_below hb) (fun _ _ h => h)
set_option maxRecDepth 100000 in
theorem OW.lower {b : Nat} (h : OW w base v ps) (hb : b ≤ base) : OW w b v ps := by
 obtain ⟨us, h1, h2, h3⟩ := h
 exact ⟨us, own_lower h1 hb, h2, fun i p q hp hq => ⟨(h3 i p q hp hq).1, (h3 i p q hp hq).2.lower hb⟩⟩
set_option maxRecDepth 100000 in
theorem OW.vp (h : OW w base v ps) : VP w v ps := by
 obtain ⟨us, h1, h2, h3⟩ := h
 obtain ⟨A, c, e, hn, hm⟩ := own_form h1
 refine ⟨A, c, e, ⟨us, ?_, h2, fun i p q hp hq => ⟨(h3 i p q hp hq).1, (h3 i p q hp hq).2.vb⟩⟩, hn, hm⟩
 rw [e] at h1
 exact Rd.of_own h1
set_option maxRecDepth 100000 in
theorem OW.ty {S : Nat → Prop} (h : OW w base v ps) (ho : Off S w w') (hS : ∀ k, S k → ∃ cs t fr, w.heap[k]? = some (.cells cs t fr) ∧ t ≠ 5 ∧ t ≠ 199) : OW w' base v ps := by
 obtain ⟨us, h1, h2, h3⟩ := h
 refine ⟨us, ownsRow_off h1 ho (fun k hk hs => ?_), h2, fun i p q hp hq => ?_⟩
 ·obtain ⟨cs, t, fr, e1, _, e3⟩ := hS k hs
  obtain ⟨cur, hc⟩ := own_blk h1 hk
  exact cells_ne e1 hc e3
 ·obtain ⟨h4, h5⟩ := h3 i p q hp hq
  refine ⟨h4, h5.off ho (fun k hk hs => ?_)⟩
  obtain ⟨cs, t, fr, e1, e2, _⟩ := hS k hs
  obtain ⟨cur, hc⟩ := own_blk h5 hk
  exact cells_ne e1 hc e2
set_option maxRecDepth 100000 in
theorem OB.ty {S : Nat → Prop} {l : List UInt8} (h : OB w base v l) (ho : Off S w w') (hS : ∀ k, S k → ∃ cs t fr, w.heap[k]? = some (.cells cs t fr) ∧ t ≠ 5) : OB w' base v l := by
 refine h.off ho (fun k hk hs => ?_)
 obtain ⟨cs, t, fr, e1, e2⟩ := hS k hs
 obtain ⟨cur, hc⟩ := own_blk h hk
 exact cells_ne e1 hc e2
set_option maxRecDepth 100000 in
theorem OW.push {us : List (Int × Value)} (h2 : us.length = ps.length) (h3 : ∀ (i : Nat) (p : Pc) (q : Int × Value), ps[i]? = some p → us[i]? = some q → q.1 = p.1 ∧ OB w base q.2 p.2) {a : Int} {u : Value} {l : List UInt8} (hu : OB w base u l) (hg : w.grownBy w4 v.ownBlock) (hv : ∀ k, v.ownBlock = some k → ∃ cur, w.heap[k]? = some (.cells cur 199 (0, 0)))
  (ho : w4.ownsRow base 199 2 v4 (ps.length + 1) (pcs us ++ [.int .i64 a, u])) : OW w4 base v4 (ps ++ [(a, l)]) := by
 have o : Off (fun k => v.ownBlock = some k) w w4 := Off.of_grown hg (fun _ e => e)
 have ty : ∀ {x : Value} {m : List UInt8}, OB w base x m → OB w4 base x m := fun {x m} hx => hx.off o (fun k hk e => by
  obtain ⟨c1, e1⟩ := own_blk hx hk
  obtain ⟨c2, e2⟩ := hv k e
  exact cells_ne e1 e2 (by decide))
 refine ⟨us ++ [(a, u)], ?_, by rw [List.length_append, List.length_append, h2]; rfl, fun i p q hp hq => ?_⟩
 ·rw [List.length_append, pcs_append]
  exact ho
 ·rcases Nat.lt_or_ge i ps.length with hi | hi
  ·rw [List.getElem?_append_left hi] at hp
   rw [List.getElem?_append_left (by rw [h2]; exact hi)] at hq
   obtain ⟨h4, h5⟩ := h3 i p q hp hq
   exact ⟨h4, ty h5⟩
  ·rw [List.getElem?_append_right hi] at hp
   rw [List.getElem?_append_right (by rw [h2]; exact hi), h2] at hq
   obtain h0 | h0 : i - ps.length = 0 ∨ 1 ≤ i - ps.length := by omega
   ·rw [h0] at hp hq
    simp at hp hq
    subst hp hq
    exact ⟨rfl, ty hu⟩
   ·rw [List.getElem?_eq_none (by simpa using h0)] at hp
    cases hp
end
structure CW (w0 w : World) (rb cb : Nat) (A : Option Addr) (n c : Nat) (s : Option Nat) (pg : Int) (v1 v2 : Value) (img : List UInt8) (ps : List Pc) : Prop where
 off : Off (· = rb) w0 w
 rs : RSt w rb A n c s
 cbk : w.heap[cb]? = some (.cells #[.int .i64 pg, v1, v2] 117 (0, 0))
 cn : w0.heap.size ≤ cb
 row : OW w w0.heap.size v2 ps
 o1 : OB w w0.heap.size v1 img
 rl : rb < w0.heap.size
section
variable {w0 w w' w4 : World} {rb cb : Nat} {A : Option Addr} {n c : Nat} {s s' : Option Nat} {pg : Int} {v1 v2 : Value} {img : List UInt8} {ps : List Pc}
set_option maxRecDepth 100000 in
theorem RSt.nb (h : RSt w rb A n c s) : ∃ a, a ≤ n ∧ RB w rb A n c a s.isNone := by
 obtain ⟨a, h1, h2, _⟩ := h
 exact ⟨a, h1, h2⟩
set_option maxRecDepth 100000 in
theorem CW.turn (h : CW w0 w rb cb A n c s pg v1 v2 img ps) (ho : Off (· = rb) w w') (hr : RSt w' rb A n c s') : CW w0 w' rb cb A n c s' pg v1 v2 img ps := by
 have hs : ∀ k, w0.heap.size ≤ k → ¬ k = rb := fun k hk e => by have := h.rl; omega
 exact ⟨h.off.trans ho, hr, (ho.block cb (Array.getElem?_eq_some_iff.1 h.cbk).1 (hs cb h.cn)).trans h.cbk, h.cn, h.row.off ho hs, h.o1.off ho (fun k hk => hs k (h.o1.lt k hk).1), h.rl⟩
set_option maxRecDepth 100000 in
theorem CW.below (h : CW w0 w rb cb A n c s pg v1 v2 img ps) (hb : Below w.heap.size w w') : CW w0 w' rb cb A n c s pg v1 v2 img ps := h.turn (Off.of_below hb) (h.rs.below hb)
set_option maxRecDepth 100000 in
theorem CW.c0 (h : CW w0 w rb cb A n c s pg v1 v2 img ps) : w.cell? ⟨cb, 0, none⟩ = some (.int .i64 pg) := by rw [cell_of_row w cb 0 _ _ _ h.cbk]; rfl
set_option maxRecDepth 100000 in
theorem CW.c1 (h : CW w0 w rb cb A n c s pg v1 v2 img ps) : w.cell? ⟨cb, 1, none⟩ = some v1 := by rw [cell_of_row w cb 1 _ _ _ h.cbk]; rfl
set_option maxRecDepth 100000 in
theorem CW.c2 (h : CW w0 w rb cb A n c s pg v1 v2 img ps) : w.cell? ⟨cb, 2, none⟩ = some v2 := by rw [cell_of_row w cb 2 _ _ _ h.cbk]; rfl
set_option maxRecDepth 100000 in
theorem CW.fz (h : CW w0 w rb cb A n c s pg v1 v2 img ps) (j : Nat) : w.frozen? ⟨cb, j, none⟩ = false := by simp [World.frozen?, h.cbk]
end
section
variable {w0 w w' w4 : World} {rb cb : Nat} {A : Option Addr} {n c : Nat} {s s' : Option Nat} {pg : Int} {v1 v2 v4 : Value} {img : List UInt8} {ps : List Pc}
set_option maxRecDepth 100000 in
theorem CW.push (h : CW w0 w rb cb A n c s pg v1 v2 img ps) {us : List (Int × Value)} (r1 : w.ownsRow w0.heap.size 199 2 v2 ps.length (pcs us)) (r2 : us.length = ps.length) (r3 : ∀ (i : Nat) (p : Pc) (q : Int × Value), ps[i]? = some p → us[i]? = some q → q.1 = p.1 ∧ OB w w0.heap.size q.2 p.2) {a : Int} {u : Value} {l : List UInt8} (hu : OB w w0.heap.size u l)
  (ho : w4.ownsRow w0.heap.size 199 2 v4 (ps.length + 1) (pcs us ++ [.int .i64 a, u])) (hg : (w.alloc (.cells #[.int .i64 a, u] 199)).grownBy w4 v2.ownBlock) :
  w4.cell? ⟨cb, 2, none⟩ = some v2 ∧ (∀ j, w4.frozen? ⟨cb, j, none⟩ = false) ∧ CW w0 (w4.setCell ⟨cb, 2, none⟩ v4) rb cb A n c s pg v1 v4 img (ps ++ [(a, l)]) := by
 have hB := gr_alloc (gr_refl w) (.cells #[.int .i64 a, u] 199)
 have hb := h.below hB
 have o : Off (fun k => v2.ownBlock = some k) (w.alloc (.cells #[.int .i64 a, u] 199)) w4 := Off.of_grown hg (fun _ e => e)
 have hrow : ∀ k, v2.ownBlock = some k → ∃ cur, (w.alloc (.cells #[.int .i64 a, u] 199)).heap[k]? = some (.cells cur 199 (0, 0)) := fun k hk => by
  obtain ⟨cur, hc⟩ := own_blk r1 hk
  exact ⟨cur, (hB.block k (Array.getElem?_eq_some_iff.1 hc).1).trans hc⟩
 have hlow : ∀ k, v2.ownBlock = some k → w0.heap.size ≤ k := fun k hk => (r1.lt k hk).1
 have hcb : v2.ownBlock ≠ some cb := fun e => by
  obtain ⟨cur, hc⟩ := hrow cb e
  exact cells_ne hc hb.cbk (by decide)
 have hc4 : w4.heap[cb]? = some (.cells #[.int .i64 pg, v1, v2] 117 (0, 0)) := (o.block cb (Array.getElem?_eq_some_iff.1 hb.cbk).1 hcb).trans hb.cbk
 have o5 : Off (fun k => k = cb) w4 (w4.setCell ⟨cb, 2, none⟩ v4) := (Off.refl (fun k => k = cb) w4).setCell _ rfl
 have hrb : rb ≠ cb := fun e => by have := h.rl; have := h.cn; omega
 refine ⟨by rw [cell_of_row w4 cb 2 _ _ _ hc4]; rfl, fun j => by simp [World.frozen?, hc4], ?_, ?_, ?_, h.cn, ?_, ?_, h.rl⟩
 ·exact (hb.off.grownNew hg hlow).setNew h.cn _ _
 ·exact (hb.rs.off o (fun e => by have := hlow _ e; have := h.rl; omega)).off o5 hrb
 ·simp only [World.setCell, Array.getElem?_modify, if_pos, hc4]
  rfl
 ·have q := OW.push (w4 := w4) r2 (fun i p q hp hq => ⟨(r3 i p q hp hq).1, (r3 i p q hp hq).2.below hB⟩) (hu.below hB) hg hrow ho
  exact q.ty o5 (fun k e => by subst e; exact ⟨_, _, _, hc4, by decide, by decide⟩)
 ·have q := hb.o1.ty o (fun k e => by obtain ⟨cur, hc⟩ := hrow k e; exact ⟨_, _, _, hc, by decide⟩)
  exact q.ty o5 (fun k e => by subst e; exact ⟨_, _, _, hc4, by decide⟩)
end
end Go.Proofs.YtnkeclpgpiogoaaGreat

/-! RdD -/
namespace Go.Proofs.YtnkeclpgpiogoaaGreat
open Go.RowKit
set_option maxRecDepth 100000 in
theorem CW.done {w w0 w' : World} {rb cb ra : Nat} {A : Option Addr} {n c : Nat} {s : Option Nat} {pg : Int} {v1 v2 : Value} {img : List UInt8} {ps : List Pc} (h : CW w0 w' rb cb A n c s pg v1 v2 img ps) (hra : w.heap.size = ra) (hbA : Below w.heap.size w w0) (hz : w0.heap[ra]? = some (.cells #[.int .i64 0, .slice none 0 0, .slice none 0 0] 117 (0, 0))) (hrl : rb < ra) (hcb : ra < cb) :
  w'.heap[ra]? = some (.cells #[.int .i64 0, .slice none 0 0, .slice none 0 0] 117 (0, 0)) ∧ ∀ w2, w2 = ((w'.setCell ⟨ra, 0, none⟩ (.int .i64 pg)).setCell ⟨ra, 1, none⟩ v1).setCell ⟨ra, 2, none⟩ v2 →
   w2.heap[ra]? = some (.cells #[.int .i64 pg, v1, v2] 117 (0, 0)) ∧ OB w2 w.heap.size v1 img ∧ OW w2 w.heap.size v2 ps ∧ RSt w2 rb A n c s ∧ Off (· = rb) w w2 := by
 have hz' : w'.heap[ra]? = some (.cells #[.int .i64 0, .slice none 0 0, .slice none 0 0] 117 (0, 0)) := (h.off.block ra (Array.getElem?_eq_some_iff.1 hz).1 (by omega)).trans hz
 refine ⟨hz', ?_⟩
 rintro w2 rfl
 have o : Off (fun k => k = ra) w' (((w'.setCell ⟨ra, 0, none⟩ (.int .i64 pg)).setCell ⟨ra, 1, none⟩ v1).setCell ⟨ra, 2, none⟩ v2) := (((Off.refl (fun k => k = ra) w').setCell _ rfl).setCell _ rfl).setCell _ rfl
 have ht : ∀ k, k = ra → ∃ cs t fr, w'.heap[k]? = some (.cells cs t fr) ∧ t ≠ 5 ∧ t ≠ 199 := fun k e => by subst e; exact ⟨_, _, _, hz', by decide, by decide⟩
 have hlow := hbA.size
 refine ⟨?_, (h.o1.ty o (fun k e => by obtain ⟨cs, t, fr, e1, e2, _⟩ := ht k e; exact ⟨cs, t, fr, e1, e2⟩)).lower hlow, (h.row.ty o ht).lower hlow, h.rs.off o (by omega), ?_⟩
 ·simp only [World.setCell, Array.getElem?_modify, if_pos, hz']
  rfl
 ·exact ((((Off.of_below hbA).trans h.off).setNew (by omega) _ _).setNew (by omega) _ _).setNew (by omega) _ _
set_option maxRecDepth 100000 in
theorem CW.drew {w0 w : World} {rb cb : Nat} {A : Option Addr} {n c : Nat} {s : Option Nat} {pg : Int} {v1 v2 : Value} {img : List UInt8} {ps : List Pc} (h : CW w0 w rb cb A n c s pg v1 v2 img ps) : CW w0 w.drew rb cb A n c s pg v1 v2 img ps := h.below (gr_drewN (gr_refl _) 1)
set_option maxRecDepth 100000 in
theorem CW.bad {w0 w : World} {rb cb : Nat} {A : Option Addr} {n c a : Nat} {s : Option Nat} {b : Bool} {pg : Int} {v1 v2 : Value} {img : List UInt8} {ps : List Pc} (h : CW w0 w rb cb A n c s pg v1 v2 img ps) (hr : RB w rb A n c a b) (ha : a ≤ n) : CW w0 (w.setCell ⟨rb, 2, none⟩ (.bool true)) rb cb A n c none pg v1 v2 img ps :=
 h.turn ((Off.refl (· = rb) w).setCell _ rfl) (RSt.none_ (hr.s2 true) ha)
set_option maxRecDepth 100000 in
theorem CW.image {w0 w : World} {rb cb : Nat} {A : Option Addr} {n c : Nat} {s : Option Nat} {pg : Int} {u v1 : Value} {im img : List UInt8} (h : CW w0 w rb cb A n c s pg u (.slice none 0 0) im []) (ov : OB w w0.heap.size v1 img) : CW w0 (w.setCell ⟨cb, 1, none⟩ v1) rb cb A n c s pg v1 (.slice none 0 0) img [] := by
 have o5 : Off (fun k => k = cb) w (w.setCell ⟨cb, 1, none⟩ v1) := (Off.refl (fun k => k = cb) w).setCell _ rfl
 have hrb : rb ≠ cb := fun e => by have := h.rl; have := h.cn; omega
 refine ⟨h.off.setNew h.cn _ _, h.rs.off o5 hrb, ?_, h.cn, OW.nil _ _, ov.ty o5 (fun k e => by subst e; exact ⟨_, _, _, h.cbk, by decide⟩), h.rl⟩
 have hc := h.cbk
 simp only [World.setCell, Array.getElem?_modify, if_pos, hc]
 rfl
set_option maxRecDepth 100000 in
set_option maxHeartbeats 8000000 in
theorem change_any (w : World) (rb : Nat) (A : Option Addr) (n c : Nat) (b : List UInt8) (s : Option Nat) (h : RSt w rb A n c s) (hb : BR w A n b) (hA : ∀ ad, A = some ad → 0 < n → ad.block ≠ rb) (hn : n ≤ 211106232532992) (hnc : n ≤ c) (hc : c ≤ 9223372036854775807) :
  Calls Tryz.prog 179 #[.pointer (some ⟨rb, 0, none⟩)] w fun e w' => ∃ v1 v2, e = .returned (.agg #[.int .i64 (pChange b s).1.1, v1, v2]) ∧ OB w' w.heap.size v1 (pChange b s).1.2.1 ∧ OW w' w.heap.size v2 (pChange b s).1.2.2 ∧ RSt w' rb A n c (pChange b s).2 ∧ Off (· = rb) w w' := by
 obtain ⟨i1, hi1, hy0, hy1, hy2⟩ := info_parts info_piece
 have HB : Hid (∀ w', Off (· = rb) w w' → BR w' A n b) := Lib.hid (fun w' ho => hb.off ho hA)
 have HA := Lib.hid hA
 have HRL := Lib.hid h.lt
 have hr := h.below (gr_alloc (gr_refl w) (.cells #[.int .i64 0, .slice none 0 0, .slice none 0 0] 117))
 have HR := Lib.hid hr
 have hbA := gr_alloc (gr_refl w) (.cells #[.int .i64 0, .slice none 0 0, .slice none 0 0] 117)
 have HBA := Lib.hid hbA
 have HZ := Lib.hid (heap_alloc_new w (.cells #[.int .i64 0, .slice none 0 0, .slice none 0 0] 117))
 have HSZ : Hid (w.heap.size + 1 = (w.alloc (.cells #[.int .i64 0, .slice none 0 0, .slice none 0 0] 117)).heap.size) := Lib.hid (by rw [World.size_alloc])
 clear hr hbA
 obtain ⟨pg, s1, e4⟩ : ∃ pg s1, pNum b 4 s = (pg, s1) := ⟨_, _, rfl⟩
 obtain ⟨fm, s2, e1⟩ : ∃ fm s2, pNum b 1 s1 = (fm, s2) := ⟨_, _, rfl⟩
 obtain ⟨pm, s3, e2⟩ : ∃ pm s3, pNum b 2 s2 = (pm, s3) := ⟨_, _, rfl⟩
 obtain ⟨pim, s4, ei⟩ : ∃ pim s4, pImage b s2 = (pim, s4) := ⟨_, _, rfl⟩
 obtain ⟨pps, s5, ep⟩ : ∃ pps s5, pPieces b pm [] s3 = (pps, s5) := ⟨_, _, rfl⟩
 have hpg : pg < 256 ^ 4 := by have := pNum_lt b 4 s; rw [e4] at this; exact this
 have hfm : fm < 256 ^ 1 := by have := pNum_lt b 1 s1; rw [e1] at this; exact this
 have hpm : pm < 256 ^ 2 := by have := pNum_lt b 2 s2; rw [e2] at this; exact this
 have E4 : Hid (∀ w', RSt w' rb A n c s → BR w' A n b → Calls Tryz.prog 196 #[.pointer (some ⟨rb, 0, none⟩)] w' fun e w2 => e = .returned (.int .i64 (pg : Int)) ∧ RSt w2 rb A n c s1 ∧ Off (· = rb) w' w2) := Lib.hid (fun w' h1 h2 => by
  have X := four_any w' rb A n c b s h1 h2 hA (by omega)
  rw [e4] at X
  exact X)
 have E1 : Hid (∀ w', RSt w' rb A n c s1 → BR w' A n b → Calls Tryz.prog 176 #[.pointer (some ⟨rb, 0, none⟩)] w' fun e w2 => e = .returned (.int .i64 (fm : Int)) ∧ RSt w2 rb A n c s2 ∧ Off (· = rb) w' w2) := Lib.hid (fun w' h1 h2 => by
  have X := one_any w' rb A n c b s1 h1 h2 hA (by omega)
  rw [e1] at X
  exact X)
 have E2 : Hid (∀ w', RSt w' rb A n c s2 → BR w' A n b → Calls Tryz.prog 177 #[.pointer (some ⟨rb, 0, none⟩)] w' fun e w2 => e = .returned (.int .i64 (pm : Int)) ∧ RSt w2 rb A n c s3 ∧ Off (· = rb) w' w2) := Lib.hid (fun w' h1 h2 => by
  have X := two_any w' rb A n c b s2 h1 h2 hA (by omega)
  rw [e2] at X
  exact X)
 have EI : Hid (∀ w', RSt w' rb A n c s2 → BR w' A n b → Calls Tryz.prog 198 #[.pointer (some ⟨rb, 0, none⟩)] w' fun e w2 => ∃ v, e = .returned v ∧ OB w2 w'.heap.size v pim ∧ RSt w2 rb A n c s4 ∧ Off (· = rb) w' w2) := Lib.hid (fun w' h1 h2 => by
  have X := image_any w' rb A n c b s2 h1 h2 hA (by omega) hnc
  rw [ei] at X
  exact X)
 have HP1 : Hid (fm = 1 → pChange b s = (((pg : Int), pim, []), s4)) := Lib.hid (fun h => by
  unfold pChange
  simp only [e4, e1, ei]
  rw [if_pos h])
 have HP0 : Hid (fm = 0 → pChange b s = (((pg : Int), [], pps), s5)) := Lib.hid (fun h => by
  unfold pChange
  simp only [e4, e1, e2, ep]
  rw [if_neg (by omega), if_pos h])
 have HPX : Hid (fm ≠ 1 → fm ≠ 0 → pChange b s = (((pg : Int), [], []), none)) := Lib.hid (fun h h' => by
  unfold pChange
  simp only [e4, e1]
  rw [if_neg h, if_neg h'])
 have EP := Lib.hid ep
 clear hb hA e4 e1 e2 ei ep h
 go_enter Tryz.func179, Tryz.ntmps179
 go_wp2_with fail
 generalize hwA : w.alloc (.cells #[.int .i64 0, .slice none 0 0, .slice none 0 0] 117) = wA at *
 clear hwA
 have oA : Off (· = rb) w wA := Off.of_below HBA.out
 have OA := Lib.hid oA
 refine (E4.out wA HR.out (HB.out _ oA)).mono ?_
 rintro e w1 ⟨rfl, h1, o1⟩
 have H1 := Lib.hid h1
 have O1 := Lib.hid o1
 clear h1 o1 oA HR E4
 go_wp2_with fail
 generalize hcb : w1.heap.size = cb at *
 have bw := gr_alloc (gr_refl w1) (.cells #[.int .i64 (pg : Int), .slice none 0 0, .slice none 0 0] 117)
 have cw : CW wA (w1.alloc (.cells #[.int .i64 (pg : Int), .slice none 0 0, .slice none 0 0] 117)) rb cb A n c s1 (pg : Int) (.slice none 0 0) (.slice none 0 0) [] [] :=
  ⟨O1.out.trans (Off.of_below bw), H1.out.below bw, by rw [← hcb]; exact heap_alloc_new w1 _, by rw [← hcb]; exact O1.out.size, OW.nil _ _, OB.nil _ _, by have := HRL.out; have := HSZ.out; omega⟩
 have HCL : Hid (w.heap.size < cb) := Lib.hid (by have h := O1.out.size; have h2 := HSZ.out; omega)
 clear bw H1 O1 hcb
 generalize w1.alloc (.cells #[.int .i64 (pg : Int), .slice none 0 0, .slice none 0 0] 117) = W2 at *
 have HX := Lib.hid (E1.out W2 cw.rs (HB.out _ (OA.out.trans cw.off)))
 have HCW := Lib.hid cw
 clear cw E1
 go_wp2_with fail
 refine HX.out.mono ?_
 rintro e w3 ⟨rfl, h3, o3⟩
 have cw3 := HCW.out.turn o3 h3
 clear HX HCW h3 o3
 by_cases f1 : fm = 1
 ·subst f1
  have HX := Lib.hid (EI.out w3 cw3.rs (HB.out _ (OA.out.trans cw3.off)))
  have HCW := Lib.hid cw3
  clear cw3 hfm E2 EI
  go_wp2_with fail
  refine HX.out.mono ?_
  rintro e w4 ⟨v1, rfl, ov, h4, o4⟩
  have cw4 := HCW.out.turn o4 h4
  have ov2 := ov.lower HCW.out.off.size
  clear HX HCW h4 o4 ov
  obtain ⟨A1, c1, rfl, _, _⟩ := own_form ov2
  have y1 := cw4.c1
  have z1 := cw4.fz 1
  have HCW := Lib.hid (cw4.image ov2)
  clear cw4 ov2
  go_upto_region 14 with fail
  generalize w4.setCell ⟨cb, 1, none⟩ (.slice A1 pim.length c1) = w9 at *
  have HD := Lib.hid (HCW.out.done rfl HBA.out HZ.out HRL.out HCL.out)
  have k0 := HCW.out.c0
  have k1 := HCW.out.c1
  have k2 := HCW.out.c2
  have r0 : w9.cell? ⟨w.heap.size, 0, none⟩ = some (.int .i64 0) := by rw [cell_of_row w9 _ 0 _ _ _ HD.out.1]; rfl
  have r1 : w9.cell? ⟨w.heap.size, 1, none⟩ = some (.slice none 0 0) := by rw [cell_of_row w9 _ 1 _ _ _ HD.out.1]; rfl
  have r2 : w9.cell? ⟨w.heap.size, 2, none⟩ = some (.slice none 0 0) := by rw [cell_of_row w9 _ 2 _ _ _ HD.out.1]; rfl
  have g0 : w9.frozen? ⟨w.heap.size, 0, none⟩ = false := by simp [World.frozen?, HD.out.1]
  have g1 : w9.frozen? ⟨w.heap.size, 1, none⟩ = false := by simp [World.frozen?, HD.out.1]
  have g2 : w9.frozen? ⟨w.heap.size, 2, none⟩ = false := by simp [World.frozen?, HD.out.1]
  go_wp2_with fail
  obtain ⟨f1, f2, f3, f4, f5⟩ := HD.out.2 _ rfl
  clear HD k0 k1 k2 r0 r1 r2 g0 g1 g2
  generalize ((w9.setCell ⟨w.heap.size, 0, none⟩ (.int .i64 (pg : Int))).setCell ⟨w.heap.size, 1, none⟩ (.slice A1 pim.length c1)).setCell ⟨w.heap.size, 2, none⟩ (.slice none 0 0) = wf at *
  have z0 : wf.cell? ⟨w.heap.size, 0, none⟩ = some (.int .i64 (pg : Int)) := by rw [cell_of_row wf _ 0 _ _ _ f1]; rfl
  have z1 : wf.cell? ⟨w.heap.size, 1, none⟩ = some ((.slice A1 pim.length c1)) := by rw [cell_of_row wf _ 1 _ _ _ f1]; rfl
  have z2 : wf.cell? ⟨w.heap.size, 2, none⟩ = some ((.slice none 0 0)) := by rw [cell_of_row wf _ 2 _ _ _ f1]; rfl
  refine bodyPost_ret (v := .agg #[.int .i64 (pg : Int), (.slice A1 pim.length c1), (.slice none 0 0)]) (by simp [results, Tryz.results179, go_sem, z0, z1, z2]) rfl ?_
  rw [HP1.out (by simp)]
  exact ⟨_, _, rfl, f2, f3, f4, f5⟩
 ·by_cases f0 : fm = 0
  ·subst f0
   have HX := Lib.hid (E2.out w3 cw3.rs (HB.out _ (OA.out.trans cw3.off)))
   have HCW := Lib.hid cw3
   clear cw3 hfm EI E2 f1
   go_wp2_with fail
   refine HX.out.mono ?_
   rintro e w4 ⟨rfl, h4, o4⟩
   have cw4 := HCW.out.turn o4 h4
   have b0 : (0 : Int) ≤ (pm : Int) := Int.natCast_nonneg _
   have b1 : (pm : Int) ≤ 65535 := by omega
   clear HX HCW h4 o4
   go_wp2_with fail
   go_loopw [35] (fun i wr => ∃ (k : Nat) (acc : List Pc) (st : Option Nat) (v2 : Value), k ≤ pm ∧ i = .int .i64 k ∧ acc.length ≤ k ∧ CW wA wr rb cb A n c st (pg : Int) (.slice none 0 0) v2 [] acc ∧ Hid (pPieces b (pm - k) acc st = (pps, s5))) (fun i _ => pm - (intOf i).toNat)
   case atStart => exact ⟨0, [], s3, _, by omega, rfl, by simp, cw4, EP⟩
   case round =>
    clear cw4 EP
    obtain ⟨k, acc, st, v2, hk, rfl, hacc, cw5, HE⟩ := hrel
    obtain ⟨A2, c2, hv2, _, _⟩ := own_form cw5.row.choose_spec.1
    subst hv2
    by_cases hlt : k < pm
    ·have t1 : decide ((k : Int) < (pm : Int)) = true := by simp; omega
     have t2 : decide (k < pm) = true := by simp; omega
     obtain ⟨a, ha, hrb⟩ := cw5.rs.nb
     have k2 := hrb.c2
     cases st with
     | none =>
      obtain ⟨h1, h2⟩ : acc = pps ∧ none = s5 := by
       have h := HE.out
       rw [show pm - k = (pm - k - 1) + 1 from by omega] at h
       unfold pPieces at h
       injection h with h1 h2
       exact ⟨h1, h2⟩
      subst h1 h2
      have k2' : wr.cell? ⟨rb, 2, none⟩ = some (.bool true) := k2
      have HCW := Lib.hid cw5
      clear k2 hrb ha cw5 HE hacc hlt hk
      go_upto_region 14 with fail
      generalize wr = w9 at *
      have HD := Lib.hid (HCW.out.done rfl HBA.out HZ.out HRL.out HCL.out)
      have k0 := HCW.out.c0
      have k1 := HCW.out.c1
      have k2 := HCW.out.c2
      have r0 : w9.cell? ⟨w.heap.size, 0, none⟩ = some (.int .i64 0) := by rw [cell_of_row w9 _ 0 _ _ _ HD.out.1]; rfl
      have r1 : w9.cell? ⟨w.heap.size, 1, none⟩ = some (.slice none 0 0) := by rw [cell_of_row w9 _ 1 _ _ _ HD.out.1]; rfl
      have r2 : w9.cell? ⟨w.heap.size, 2, none⟩ = some (.slice none 0 0) := by rw [cell_of_row w9 _ 2 _ _ _ HD.out.1]; rfl
      have g0 : w9.frozen? ⟨w.heap.size, 0, none⟩ = false := by simp [World.frozen?, HD.out.1]
      have g1 : w9.frozen? ⟨w.heap.size, 1, none⟩ = false := by simp [World.frozen?, HD.out.1]
      have g2 : w9.frozen? ⟨w.heap.size, 2, none⟩ = false := by simp [World.frozen?, HD.out.1]
      go_wp2_with fail
      obtain ⟨f1, f2, f3, f4, f5⟩ := HD.out.2 _ rfl
      clear HD k0 k1 k2 r0 r1 r2 g0 g1 g2
      generalize ((w9.setCell ⟨w.heap.size, 0, none⟩ (.int .i64 (pg : Int))).setCell ⟨w.heap.size, 1, none⟩ (.slice none 0 0)).setCell ⟨w.heap.size, 2, none⟩ (.slice A2 acc.length c2) = wf at *
      have z0 : wf.cell? ⟨w.heap.size, 0, none⟩ = some (.int .i64 (pg : Int)) := by rw [cell_of_row wf _ 0 _ _ _ f1]; rfl
      have z1 : wf.cell? ⟨w.heap.size, 1, none⟩ = some ((.slice none 0 0)) := by rw [cell_of_row wf _ 1 _ _ _ f1]; rfl
      have z2 : wf.cell? ⟨w.heap.size, 2, none⟩ = some ((.slice A2 acc.length c2)) := by rw [cell_of_row wf _ 2 _ _ _ f1]; rfl
      refine bodyPost_ret (v := .agg #[.int .i64 (pg : Int), (.slice none 0 0), (.slice A2 acc.length c2)]) (by simp [results, Tryz.results179, go_sem, z0, z1, z2]) rfl ?_
      rw [HP0.out (by simp)]
      exact ⟨_, _, rfl, f2, f3, f4, f5⟩
     | some x =>
      have k2' : wr.cell? ⟨rb, 2, none⟩ = some (.bool false) := k2
      obtain ⟨pt, sa, eT⟩ : ∃ pt sa, pNum b 2 (some x) = (pt, sa) := ⟨_, _, rfl⟩
      obtain ⟨pl, sb, eP⟩ : ∃ pl sb, pPart b sa = (pl, sb) := ⟨_, _, rfl⟩
      have HE2 : Hid (pPieces b (pm - (k + 1)) (acc ++ [((pt : Int), pl)]) sb = (pps, s5)) := Lib.hid (by
       have h := HE.out
       rw [show pm - k = (pm - (k + 1)) + 1 from by omega] at h
       unfold pPieces at h
       simp only [eT, eP] at h
       exact h)
      have ET : Hid (∀ w', RSt w' rb A n c (some x) → BR w' A n b → Calls Tryz.prog 177 #[.pointer (some ⟨rb, 0, none⟩)] w' fun e w2 => e = .returned (.int .i64 (pt : Int)) ∧ RSt w2 rb A n c sa ∧ Off (· = rb) w' w2) := Lib.hid (fun w' h1 h2 => by
       have X := two_any w' rb A n c b (some x) h1 h2 HA.out (by omega)
       rw [eT] at X
       exact X)
      have EPT : Hid (∀ w', RSt w' rb A n c sa → BR w' A n b → Calls Tryz.prog 197 #[.pointer (some ⟨rb, 0, none⟩)] w' fun e w2 => ∃ v, e = .returned v ∧ OB w2 w'.heap.size v pl ∧ RSt w2 rb A n c sb ∧ Off (· = rb) w' w2) := Lib.hid (fun w' h1 h2 => by
       have X := part_any w' rb A n c b sa h1 h2 HA.out hn hnc hc
       rw [eP] at X
       exact X)
      have y2 := cw5.c2
      have HCW := Lib.hid cw5
      clear k2 hrb ha cw5 HE eT eP
      go_wp2_with fail
      refine wp_region_lastL (by kernel_rfl) (by simp) (by kernel_rfl) (by kernel_rfl) ?_
      simp only [List.dropLast, List.length_cons, List.length_nil]
      refine wpAny_of_held (S := fun W => W.cell? ⟨cb, 2, none⟩ = some (.slice A2 acc.length c2)) _ _ _ _ ?_
      have hHeld : wr.drew.cell? ⟨cb, 2, none⟩ = some (.slice A2 acc.length c2) := y2
      have cwd := HCW.out.drew
      refine wpAnyH_take (i := 0) (v := ?_) rfl (by kernel_rfl) (by kernel_rfl) (by kernel_rfl) (fun _ _ _ h => h) (Or.inl ⟨by rfl, ?_⟩) hHeld ?_
      rotate_left
      ·intro W hS
       (try dsimp only at hS)
       obtain s1 := hS
       (go_simp; try with_reducible rfl)
      try simp only [Act.put, List.setIfInBounds_toArray]
      refine wpAnyH_take (i := 1) (v := ?_) rfl (by kernel_rfl) (by kernel_rfl) (by kernel_rfl) (fun _ _ _ h => h) (Or.inl ⟨by rfl, ?_⟩) hHeld ?_
      rotate_left
      ·intro W hS
       (try dsimp only at hS)
       obtain s1 := hS
       (go_simp; try with_reducible rfl)
      try simp only [Act.put]
      refine wpAnyH_take (i := 2) (v := ?_) rfl (by kernel_rfl) (by kernel_rfl) (by kernel_rfl) (fun _ _ _ h => h) (Or.inl ⟨by rfl, ?_⟩) hHeld ?_
      rotate_left
      ·intro W hS
       (try dsimp only at hS)
       obtain s1 := hS
       (go_simp; try with_reducible rfl)
      try simp only [Act.put]
      refine wpAnyH_take (i := 4) (v := ?_) rfl (by kernel_rfl) (by kernel_rfl) (by kernel_rfl) (fun _ _ _ h => h) (Or.inl ⟨by rfl, ?_⟩) hHeld ?_
      rotate_left
      ·intro W hS
       (try dsimp only at hS)
       obtain s1 := hS
       (go_simp; try with_reducible rfl)
      try simp only [Act.put]
      refine wpAnyH_ready (rs := [3]) (by kernel_rfl) (by simp) ?_
      refine AllReadyH.cons rfl (fun KK hK => ?_) AllReadyH.nil
      go_simp
      refine (ET.out _ cwd.rs (HB.out _ (OA.out.trans cwd.off))).mono ?_
      rintro e w6 ⟨rfl, h6, o6⟩
      have cw6 := cwd.turn o6 h6
      dsimp only
      refine hK.out _ _ ?_ (fun hHeld2 => ?_)
      ·exact cw6.c2
      clear hK KK hHeld
      have hHeld := hHeld2
      clear hHeld2
      try simp only [Act.put, List.setIfInBounds_toArray, List.set_cons_zero, List.set_cons_succ]
      refine wpAnyH_ready (rs := [5]) (by kernel_rfl) (by simp) ?_
      refine AllReadyH.cons rfl (fun KK hK => ?_) AllReadyH.nil
      go_simp
      refine (EPT.out _ cw6.rs (HB.out _ (OA.out.trans cw6.off))).mono ?_
      rintro e w7 ⟨vp, rfl, ovp, h7, o7⟩
      have cw7 := cw6.turn o7 h7
      have ov7 := ovp.lower cw6.off.size
      obtain ⟨Ap, cp, rfl, _, _⟩ := own_form ovp
      dsimp only
      refine hK.out _ _ ?_ (fun hHeld2 => ?_)
      ·exact cw7.c2
      clear hK KK hHeld
      have hHeld := hHeld2
      clear hHeld2
      try simp only [Act.put, List.setIfInBounds_toArray, List.set_cons_zero, List.set_cons_succ]
      refine wpAnyH_take (i := 6) (v := ?_) rfl (by kernel_rfl) (by kernel_rfl) (by kernel_rfl) (fun _ _ _ h => h) (Or.inl ⟨by rfl, ?_⟩) hHeld ?_
      rotate_left
      ·intro W hS
       (try dsimp only at hS)
       obtain s1 := hS
       (go_simp; try with_reducible rfl)
      try simp only [Act.put, List.setIfInBounds_toArray]
      refine wpAnyH_ready (rs := [7]) (by kernel_rfl) (by simp) ?_
      refine AllReadyH.cons rfl (fun KK hK => ?_) AllReadyH.nil
      go_simp
      refine hK.out _ _ ?_ (fun hHeld2 => ?_)
      ·exact (cw7.below (gr_alloc (gr_refl w7) (.cells #[.int .i64 (pt : Int), .slice Ap pl.length cp] 199))).c2
      clear hK KK hHeld
      have hHeld := hHeld2
      clear hHeld2
      try simp only [Act.put, List.setIfInBounds_toArray, List.set_cons_zero, List.set_cons_succ]
      refine wpAnyH_ready (rs := [8]) (by kernel_rfl) (by simp) ?_
      refine AllReadyH.cons rfl (fun KK hK => ?_) AllReadyH.nil
      obtain ⟨us, r1, r2, r3⟩ := cw7.row
      have hsz := cw7.off.size
      rw [if_pos (by rfl)]
      refine wp_append_Rd _ (.tmp 42) (.tmp 48) _ rfl wA.heap.size 199 i1 _ 2 32 Tryz.underlying115 hi1 hy0 hy1 hy2 rfl (.slice A2 acc.length c2) acc.length (pcs us) rfl (r1.alloc _) (some ⟨w7.heap.size, 0, none⟩) 1 1 [.int .i64 (pt : Int), .slice Ap pl.length cp] rfl (Rd.new w7 _ #[.int .i64 (pt : Int), .slice Ap pl.length cp] 1 2 rfl) (by simp [Value.oneCell']) (by omega) (by simp only [maxLen]; omega) (by rw [World.size_alloc]; omega) ?_
      intro v8 w8 ho8 hg8 _ _
      obtain ⟨y8, z8, cw8⟩ := cw7.push r1 r2 r3 ov7 ho8 hg8
      obtain ⟨A8, c8, rfl, _, _⟩ := own_form ho8
      have z8' := z8 2
      have HC8 := Lib.hid cw8
      clear ho8 hg8 z8 cw8 r1 r2 r3 us ov7 ovp cw7 h7 o7 cw6 h6 o6 cwd
      refine hK.out _ _ ?_ (fun hHeld2 => ?_)
      ·exact y8
      clear hK KK hHeld
      have hHeld := hHeld2
      clear hHeld2
      try simp only [Act.put, List.setIfInBounds_toArray]
      refine wpAnyH_take (i := 9) (v := ?_) rfl (by kernel_rfl) (by kernel_rfl) (by kernel_rfl) (fun _ _ _ h => h) (Or.inl ⟨by rfl, ?_⟩) hHeld ?_
      rotate_left
      ·intro W hS
       (try dsimp only at hS)
       obtain s1 := hS
       (go_simp; try with_reducible rfl)
      try simp only [Act.put]
      refine wpAnyH_done (by kernel_rfl) ?_ _
      refine lastQ_step (o := _) rfl (fun KK hK => ?_)
      go_simp
      refine hK _ _ ?_
      go_wp2_with fail
      go_roundw
      case rel => exact ⟨k + 1, _, sb, _, by omega, by go_num, by rw [List.length_append]; simp; omega, HC8.out, HE2⟩
      case measure => simp [intOf]; omega
    ·obtain rfl : pm = k := by omega
     have t1 : decide ((pm : Int) < (pm : Int)) = false := by simp
     have t2 : decide (pm < pm) = false := by simp
     obtain ⟨h1, h2⟩ : acc = pps ∧ st = s5 := by
      have h := HE.out
      rw [Nat.sub_self] at h
      unfold pPieces at h
      injection h with h1 h2
      exact ⟨h1, h2⟩
     subst h1 h2
     have HCW := Lib.hid cw5
     clear cw5 HE hacc hlt hk
     go_upto_region 14 with fail
     generalize wr = w9 at *
     have HD := Lib.hid (HCW.out.done rfl HBA.out HZ.out HRL.out HCL.out)
     have k0 := HCW.out.c0
     have k1 := HCW.out.c1
     have k2 := HCW.out.c2
     have r0 : w9.cell? ⟨w.heap.size, 0, none⟩ = some (.int .i64 0) := by rw [cell_of_row w9 _ 0 _ _ _ HD.out.1]; rfl
     have r1 : w9.cell? ⟨w.heap.size, 1, none⟩ = some (.slice none 0 0) := by rw [cell_of_row w9 _ 1 _ _ _ HD.out.1]; rfl
     have r2 : w9.cell? ⟨w.heap.size, 2, none⟩ = some (.slice none 0 0) := by rw [cell_of_row w9 _ 2 _ _ _ HD.out.1]; rfl
     have g0 : w9.frozen? ⟨w.heap.size, 0, none⟩ = false := by simp [World.frozen?, HD.out.1]
     have g1 : w9.frozen? ⟨w.heap.size, 1, none⟩ = false := by simp [World.frozen?, HD.out.1]
     have g2 : w9.frozen? ⟨w.heap.size, 2, none⟩ = false := by simp [World.frozen?, HD.out.1]
     go_wp2_with fail
     obtain ⟨f1, f2, f3, f4, f5⟩ := HD.out.2 _ rfl
     clear HD k0 k1 k2 r0 r1 r2 g0 g1 g2
     generalize ((w9.setCell ⟨w.heap.size, 0, none⟩ (.int .i64 (pg : Int))).setCell ⟨w.heap.size, 1, none⟩ (.slice none 0 0)).setCell ⟨w.heap.size, 2, none⟩ (.slice A2 acc.length c2) = wf at *
     have z0 : wf.cell? ⟨w.heap.size, 0, none⟩ = some (.int .i64 (pg : Int)) := by rw [cell_of_row wf _ 0 _ _ _ f1]; rfl
     have z1 : wf.cell? ⟨w.heap.size, 1, none⟩ = some ((.slice none 0 0)) := by rw [cell_of_row wf _ 1 _ _ _ f1]; rfl
     have z2 : wf.cell? ⟨w.heap.size, 2, none⟩ = some ((.slice A2 acc.length c2)) := by rw [cell_of_row wf _ 2 _ _ _ f1]; rfl
     refine bodyPost_ret (v := .agg #[.int .i64 (pg : Int), (.slice none 0 0), (.slice A2 acc.length c2)]) (by simp [results, Tryz.results179, go_sem, z0, z1, z2]) rfl ?_
     rw [HP0.out (by simp)]
     exact ⟨_, _, rfl, f2, f3, f4, f5⟩
  ·have hx1 : ((fm : Int) == 1) = false := beq_eq_false_iff_ne.2 (by omega)
   have hx0 : ((fm : Int) == 0) = false := beq_eq_false_iff_ne.2 (by omega)
   have HPY := Lib.hid (HPX.out f1 f0)
   obtain ⟨a, ha, hrb⟩ := cw3.rs.nb
   have k2 := hrb.c2
   have z2 := hrb.frozen 2
   have HCW := Lib.hid (cw3.bad hrb ha)
   clear cw3 hfm f1 f0 E2 EI HP1 HP0 HPX EP hrb ha
   go_upto_region 14 with fail
   generalize w3.setCell ⟨rb, 2, none⟩ (.bool true) = w9 at *
   have HD := Lib.hid (HCW.out.done rfl HBA.out HZ.out HRL.out HCL.out)
   have k0 := HCW.out.c0
   have k1 := HCW.out.c1
   have k2 := HCW.out.c2
   have r0 : w9.cell? ⟨w.heap.size, 0, none⟩ = some (.int .i64 0) := by rw [cell_of_row w9 _ 0 _ _ _ HD.out.1]; rfl
   have r1 : w9.cell? ⟨w.heap.size, 1, none⟩ = some (.slice none 0 0) := by rw [cell_of_row w9 _ 1 _ _ _ HD.out.1]; rfl
   have r2 : w9.cell? ⟨w.heap.size, 2, none⟩ = some (.slice none 0 0) := by rw [cell_of_row w9 _ 2 _ _ _ HD.out.1]; rfl
   have g0 : w9.frozen? ⟨w.heap.size, 0, none⟩ = false := by simp [World.frozen?, HD.out.1]
   have g1 : w9.frozen? ⟨w.heap.size, 1, none⟩ = false := by simp [World.frozen?, HD.out.1]
   have g2 : w9.frozen? ⟨w.heap.size, 2, none⟩ = false := by simp [World.frozen?, HD.out.1]
   go_wp2_with fail
   obtain ⟨f1, f2, f3, f4, f5⟩ := HD.out.2 _ rfl
   clear HD k0 k1 k2 r0 r1 r2 g0 g1 g2
   generalize ((w9.setCell ⟨w.heap.size, 0, none⟩ (.int .i64 (pg : Int))).setCell ⟨w.heap.size, 1, none⟩ (.slice none 0 0)).setCell ⟨w.heap.size, 2, none⟩ (.slice none 0 0) = wf at *
   have z0 : wf.cell? ⟨w.heap.size, 0, none⟩ = some (.int .i64 (pg : Int)) := by rw [cell_of_row wf _ 0 _ _ _ f1]; rfl
   have z1 : wf.cell? ⟨w.heap.size, 1, none⟩ = some ((.slice none 0 0)) := by rw [cell_of_row wf _ 1 _ _ _ f1]; rfl
   have z2 : wf.cell? ⟨w.heap.size, 2, none⟩ = some ((.slice none 0 0)) := by rw [cell_of_row wf _ 2 _ _ _ f1]; rfl
   refine bodyPost_ret (v := .agg #[.int .i64 (pg : Int), (.slice none 0 0), (.slice none 0 0)]) (by simp [results, Tryz.results179, go_sem, z0, z1, z2]) rfl ?_
   rw [HPY.out]
   exact ⟨_, _, rfl, f2, f3, f4, f5⟩
end Go.Proofs.YtnkeclpgpiogoaaGreat

/-! RdE -/
namespace Go.Proofs.YtnkeclpgpiogoaaGreat
open Go.RowKit
def OCW (w : World) (base : Nat) (v : Value) (cs : List Ch) : Prop :=
 ∃ us : List (Int × Value × Value), w.ownsRow base 117 3 v cs.length (chs us) ∧ us.length = cs.length ∧ ∀ (i : Nat) (p : Ch) (q : Int × Value × Value), cs[i]? = some p → us[i]? = some q → q.1 = p.1 ∧ OB w base q.2.1 p.2.1 ∧ OW w base q.2.2 p.2.2
def CT3 (t : TypeId) : Prop := t ≠ 5 ∧ t ≠ 199 ∧ t ≠ 117
section
variable {w w' w4 : World} {base : Nat} {v v4 : Value} {cs : List Ch}
set_option maxRecDepth 100000 in
theorem OCW.nil (w : World) (base : Nat) : OCW w base (.slice none 0 0) [] := ⟨[], ⟨rfl, .inl ⟨rfl, rfl⟩⟩, rfl, fun i p q h => by simp at h⟩
set_option maxRecDepth 100000 in
theorem OCW.off {S : Nat → Prop} (h : OCW w base v cs) (ho : Off S w w') (hS : ∀ k, base ≤ k → ¬ S k) : OCW w' base v cs := by
 obtain ⟨us, h1, h2, h3⟩ := h
 refine ⟨us, ownsRow_off h1 ho (fun k hk => hS k (h1.lt k hk).1), h2, fun i p q hp hq => ?_⟩
 obtain ⟨h4, h5, h6⟩ := h3 i p q hp hq
 exact ⟨h4, h5.off ho (fun k hk => hS k (h5.lt k hk).1), h6.off ho hS⟩
set_option maxRecDepth 100000 in
theorem OCW.below (h : OCW w base v cs) (hb : Below w.heap.size w w') : OCW w' base v cs := h.off (S := fun _ => False) (Off.of_below hb) (fun _ _ h => h)
set_option maxRecDepth 100000 in
theorem OCW.lower {b : Nat} (h : OCW w base v cs) (hb : b ≤ base) : OCW w b v cs := by
 obtain ⟨us, h1, h2, h3⟩ := h
 exact ⟨us, own_lower h1 hb, h2, fun i p q hp hq => ⟨(h3 i p q hp hq).1, (h3 i p q hp hq).2.1.lower hb, (h3 i p q hp hq).2.2.lower hb⟩⟩
set_option maxRecDepth 100000 in
theorem OCW.ty {S : Nat → Prop} (h : OCW w base v cs) (ho : Off S w w') (hS : ∀ k, S k → ∃ cs t fr, w.heap[k]? = some (.cells cs t fr) ∧ CT3 t) : OCW w' base v cs := by
 obtain ⟨us, h1, h2, h3⟩ := h
 refine ⟨us, ownsRow_off h1 ho (fun k hk hs => ?_), h2, fun i p q hp hq => ?_⟩
 ·obtain ⟨cs, t, fr, e1, e3⟩ := hS k hs
  obtain ⟨cur, hc⟩ := own_blk h1 hk
  exact cells_ne e1 hc e3.2.2
 ·obtain ⟨h4, h5, h6⟩ := h3 i p q hp hq
  refine ⟨h4, h5.ty ho (fun k hk => ?_), h6.ty ho (fun k hk => ?_)⟩
  ·obtain ⟨cs, t, fr, e1, e2⟩ := hS k hk
   exact ⟨cs, t, fr, e1, e2.1⟩
  ·obtain ⟨cs, t, fr, e1, e2⟩ := hS k hk
   exact ⟨cs, t, fr, e1, e2.1, e2.2.1⟩
set_option maxRecDepth 100000 in
theorem OCW.cr (h : OCW w base v cs) : ∃ A c, v = .slice A cs.length c ∧ CR w A cs.length cs ∧ cs.length ≤ c ∧ c ≤ maxLen := by
 obtain ⟨us, h1, h2, h3⟩ := h
 obtain ⟨A, c, e, hn, hm⟩ := own_form h1
 refine ⟨A, c, e, ⟨us, ?_, h2, fun i p q hp hq => ⟨(h3 i p q hp hq).1, (h3 i p q hp hq).2.1.vb, (h3 i p q hp hq).2.2.vp⟩⟩, hn, hm⟩
 rw [e] at h1
 exact Rd.of_own h1
set_option maxRecDepth 100000 in
theorem OCW.push {us : List (Int × Value × Value)} (h2 : us.length = cs.length) (h3 : ∀ (i : Nat) (p : Ch) (q : Int × Value × Value), cs[i]? = some p → us[i]? = some q → q.1 = p.1 ∧ OB w base q.2.1 p.2.1 ∧ OW w base q.2.2 p.2.2) {a : Int} {u1 u2 : Value} {l : List UInt8} {ps : List Pc} (hu : OB w base u1 l) (hu2 : OW w base u2 ps) (hg : w.grownBy w4 v.ownBlock) (hv : ∀ k, v.ownBlock = some k → ∃ cur, w.heap[k]? = some (.cells cur 117 (0, 0)))
  (ho : w4.ownsRow base 117 3 v4 (cs.length + 1) (chs us ++ [.int .i64 a, u1, u2])) : OCW w4 base v4 (cs ++ [(a, l, ps)]) := by
 have o : Off (fun k => v.ownBlock = some k) w w4 := Off.of_grown hg (fun _ e => e)
 have t1 : ∀ {x : Value} {m : List UInt8}, OB w base x m → OB w4 base x m := fun {x m} hx => hx.ty o (fun k e => by
  obtain ⟨c2, e2⟩ := hv k e
  exact ⟨_, _, _, e2, by decide⟩)
 have t2 : ∀ {x : Value} {m : List Pc}, OW w base x m → OW w4 base x m := fun {x m} hx => hx.ty o (fun k e => by
  obtain ⟨c2, e2⟩ := hv k e
  exact ⟨_, _, _, e2, by decide, by decide⟩)
 refine ⟨us ++ [(a, u1, u2)], ?_, by rw [List.length_append, List.length_append, h2]; rfl, fun i p q hp hq => ?_⟩
 ·rw [List.length_append, chs_append]
  exact ho
 ·rcases Nat.lt_or_ge i cs.length with hi | hi
  ·rw [List.getElem?_append_left hi] at hp
   rw [List.getElem?_append_left (by rw [h2]; exact hi)] at hq
   obtain ⟨h4, h5, h6⟩ := h3 i p q hp hq
   exact ⟨h4, t1 h5, t2 h6⟩
  ·rw [List.getElem?_append_right hi] at hp
   rw [List.getElem?_append_right (by rw [h2]; exact hi), h2] at hq
   obtain h0 | h0 : i - cs.length = 0 ∨ 1 ≤ i - cs.length := by omega
   ·rw [h0] at hp hq
    simp at hp hq
    subst hp hq
    exact ⟨rfl, t1 hu, t2 hu2⟩
   ·rw [List.getElem?_eq_none (by simpa using h0)] at hp
    cases hp
end
structure VW (w0 w : World) (rb cb : Nat) (A : Option Addr) (n c : Nat) (s : Option Nat) (kd tx : Int) (v2 : Value) (cs : List Ch) : Prop where
 off : Off (· = rb) w0 w
 rs : RSt w rb A n c s
 cbk : w.heap[cb]? = some (.cells #[.int .u8 kd, .int .i64 tx, v2] 114 (0, 0))
 cn : w0.heap.size ≤ cb
 row : OCW w w0.heap.size v2 cs
 rl : rb < w0.heap.size
section
variable {w0 w w' w4 : World} {rb cb : Nat} {A : Option Addr} {n c : Nat} {s s' : Option Nat} {kd tx : Int} {v2 v4 : Value} {cs : List Ch}
set_option maxRecDepth 100000 in
theorem VW.turn (h : VW w0 w rb cb A n c s kd tx v2 cs) (ho : Off (· = rb) w w') (hr : RSt w' rb A n c s') : VW w0 w' rb cb A n c s' kd tx v2 cs := by
 have hs : ∀ k, w0.heap.size ≤ k → ¬ k = rb := fun k hk e => by have := h.rl; omega
 exact ⟨h.off.trans ho, hr, (ho.block cb (Array.getElem?_eq_some_iff.1 h.cbk).1 (hs cb h.cn)).trans h.cbk, h.cn, h.row.off ho hs, h.rl⟩
set_option maxRecDepth 100000 in
theorem VW.below (h : VW w0 w rb cb A n c s kd tx v2 cs) (hb : Below w.heap.size w w') : VW w0 w' rb cb A n c s kd tx v2 cs := h.turn (Off.of_below hb) (h.rs.below hb)
set_option maxRecDepth 100000 in
theorem VW.drew (h : VW w0 w rb cb A n c s kd tx v2 cs) : VW w0 w.drew rb cb A n c s kd tx v2 cs := h.below (gr_drewN (gr_refl _) 1)
set_option maxRecDepth 100000 in
theorem VW.c0 (h : VW w0 w rb cb A n c s kd tx v2 cs) : w.cell? ⟨cb, 0, none⟩ = some (.int .u8 kd) := by rw [cell_of_row w cb 0 _ _ _ h.cbk]; rfl
set_option maxRecDepth 100000 in
theorem VW.c1 (h : VW w0 w rb cb A n c s kd tx v2 cs) : w.cell? ⟨cb, 1, none⟩ = some (.int .i64 tx) := by rw [cell_of_row w cb 1 _ _ _ h.cbk]; rfl
set_option maxRecDepth 100000 in
theorem VW.c2 (h : VW w0 w rb cb A n c s kd tx v2 cs) : w.cell? ⟨cb, 2, none⟩ = some v2 := by rw [cell_of_row w cb 2 _ _ _ h.cbk]; rfl
set_option maxRecDepth 100000 in
theorem VW.push (h : VW w0 w rb cb A n c s kd tx v2 cs) {us : List (Int × Value × Value)} (r1 : w.ownsRow w0.heap.size 117 3 v2 cs.length (chs us)) (r2 : us.length = cs.length) (r3 : ∀ (i : Nat) (p : Ch) (q : Int × Value × Value), cs[i]? = some p → us[i]? = some q → q.1 = p.1 ∧ OB w w0.heap.size q.2.1 p.2.1 ∧ OW w w0.heap.size q.2.2 p.2.2) {a : Int} {u1 u2 : Value} {l : List UInt8} {ps : List Pc} (hu : OB w w0.heap.size u1 l) (hu2 : OW w w0.heap.size u2 ps)
  (ho : w4.ownsRow w0.heap.size 117 3 v4 (cs.length + 1) (chs us ++ [.int .i64 a, u1, u2])) (hg : (w.alloc (.cells #[.int .i64 a, u1, u2] 117)).grownBy w4 v2.ownBlock) :
  w4.cell? ⟨cb, 2, none⟩ = some v2 ∧ (∀ j, w4.frozen? ⟨cb, j, none⟩ = false) ∧ VW w0 (w4.setCell ⟨cb, 2, none⟩ v4) rb cb A n c s kd tx v4 (cs ++ [(a, l, ps)]) := by
 have hB := gr_alloc (gr_refl w) (.cells #[.int .i64 a, u1, u2] 117)
 have hb := h.below hB
 have o : Off (fun k => v2.ownBlock = some k) (w.alloc (.cells #[.int .i64 a, u1, u2] 117)) w4 := Off.of_grown hg (fun _ e => e)
 have hrow : ∀ k, v2.ownBlock = some k → ∃ cur, (w.alloc (.cells #[.int .i64 a, u1, u2] 117)).heap[k]? = some (.cells cur 117 (0, 0)) := fun k hk => by
  obtain ⟨cur, hc⟩ := own_blk r1 hk
  exact ⟨cur, (hB.block k (Array.getElem?_eq_some_iff.1 hc).1).trans hc⟩
 have hlow : ∀ k, v2.ownBlock = some k → w0.heap.size ≤ k := fun k hk => (r1.lt k hk).1
 have hcb : v2.ownBlock ≠ some cb := fun e => by
  obtain ⟨cur, hc⟩ := hrow cb e
  exact cells_ne hc hb.cbk (by decide)
 have hc4 : w4.heap[cb]? = some (.cells #[.int .u8 kd, .int .i64 tx, v2] 114 (0, 0)) := (o.block cb (Array.getElem?_eq_some_iff.1 hb.cbk).1 hcb).trans hb.cbk
 have o5 : Off (fun k => k = cb) w4 (w4.setCell ⟨cb, 2, none⟩ v4) := (Off.refl (fun k => k = cb) w4).setCell _ rfl
 have hrb : rb ≠ cb := fun e => by have := h.rl; have := h.cn; omega
 refine ⟨by rw [cell_of_row w4 cb 2 _ _ _ hc4]; rfl, fun j => by simp [World.frozen?, hc4], ?_, ?_, ?_, h.cn, ?_, h.rl⟩
 ·exact (hb.off.grownNew hg hlow).setNew h.cn _ _
 ·exact (hb.rs.off o (fun e => by have := hlow _ e; have := h.rl; omega)).off o5 hrb
 ·simp only [World.setCell, Array.getElem?_modify, if_pos, hc4]
  rfl
 ·have q := OCW.push (w4 := w4) r2 (fun i p q hp hq => ⟨(r3 i p q hp hq).1, (r3 i p q hp hq).2.1.below hB, (r3 i p q hp hq).2.2.below hB⟩) (hu.below hB) (hu2.below hB) hg hrow ho
  exact q.ty o5 (fun k e => by subst e; exact ⟨_, _, _, hc4, by decide, by decide, by decide⟩)
set_option maxRecDepth 100000 in
theorem VW.done {w w0 w' : World} {rb cb ra : Nat} {A : Option Addr} {n c : Nat} {s : Option Nat} {kd tx : Int} {v2 : Value} {cs : List Ch} (h : VW w0 w' rb cb A n c s kd tx v2 cs) (hra : w.heap.size = ra) (hbA : Below w.heap.size w w0) (hz : w0.heap[ra]? = some (.cells #[.int .u8 0, .int .i64 0, .slice none 0 0] 114 (0, 0))) (hrl : rb < ra) (hcb : ra < cb) :
  w'.heap[ra]? = some (.cells #[.int .u8 0, .int .i64 0, .slice none 0 0] 114 (0, 0)) ∧ ∀ w2, w2 = ((w'.setCell ⟨ra, 0, none⟩ (.int .u8 kd)).setCell ⟨ra, 1, none⟩ (.int .i64 tx)).setCell ⟨ra, 2, none⟩ v2 →
   w2.heap[ra]? = some (.cells #[.int .u8 kd, .int .i64 tx, v2] 114 (0, 0)) ∧ OCW w2 w.heap.size v2 cs ∧ RSt w2 rb A n c s ∧ Off (· = rb) w w2 := by
 have hz' : w'.heap[ra]? = some (.cells #[.int .u8 0, .int .i64 0, .slice none 0 0] 114 (0, 0)) := (h.off.block ra (Array.getElem?_eq_some_iff.1 hz).1 (by omega)).trans hz
 refine ⟨hz', ?_⟩
 rintro w2 rfl
 have o : Off (fun k => k = ra) w' (((w'.setCell ⟨ra, 0, none⟩ (.int .u8 kd)).setCell ⟨ra, 1, none⟩ (.int .i64 tx)).setCell ⟨ra, 2, none⟩ v2) := (((Off.refl (fun k => k = ra) w').setCell _ rfl).setCell _ rfl).setCell _ rfl
 have hlow := hbA.size
 refine ⟨?_, (h.row.ty o (fun k e => by subst e; exact ⟨_, _, _, hz', by decide, by decide, by decide⟩)).lower hlow, h.rs.off o (by omega), ?_⟩
 ·simp only [World.setCell, Array.getElem?_modify, if_pos, hz']
  rfl
 ·exact ((((Off.of_below hbA).trans h.off).setNew (by omega) _ _).setNew (by omega) _ _).setNew (by omega) _ _
end
set_option maxRecDepth 100000 in
theorem info_change : (Tryz.prog.info? 117).map (fun i => (i.zero, i.size, i.bytes)) = some (some (.agg #[.int .i64 0, .slice none 0 0, .slice none 0 0]), 3, 56) := by kernel_rfl
set_option maxRecDepth 100000 in
set_option maxHeartbeats 8000000 in
theorem record_any (w : World) (rb : Nat) (A : Option Addr) (n c : Nat) (b : List UInt8) (h : RSt w rb A n c (some 0)) (hb : BR w A n b) (hA : ∀ ad, A = some ad → 0 < n → ad.block ≠ rb) (hn : n ≤ 211106232532992) (hnc : n ≤ c) (hc : c ≤ 9223372036854775807) :
  Calls Tryz.prog 158 #[.pointer (some ⟨rb, 0, none⟩)] w fun e w' => ∃ v, e = .returned (.agg #[.int .u8 ((pRecord b).1.kind : Int), .int .i64 (pRecord b).1.tx, v]) ∧ OCW w' w.heap.size v (pRecord b).1.cs ∧ RSt w' rb A n c (pRecord b).2 ∧ Off (· = rb) w w' := by
 obtain ⟨i1, hi1, hy0, hy1, hy2⟩ := info_parts info_change
 have HB : Hid (∀ w', Off (· = rb) w w' → BR w' A n b) := Lib.hid (fun w' ho => hb.off ho hA)
 have HA := Lib.hid hA
 have HRL := Lib.hid h.lt
 have hr := h.below (gr_alloc (gr_refl w) (.cells #[.int .u8 0, .int .i64 0, .slice none 0 0] 114))
 have HR := Lib.hid hr
 have hbA := gr_alloc (gr_refl w) (.cells #[.int .u8 0, .int .i64 0, .slice none 0 0] 114)
 have HBA := Lib.hid hbA
 have HZ := Lib.hid (heap_alloc_new w (.cells #[.int .u8 0, .int .i64 0, .slice none 0 0] 114))
 have HSZ : Hid (w.heap.size + 1 = (w.alloc (.cells #[.int .u8 0, .int .i64 0, .slice none 0 0] 114)).heap.size) := Lib.hid (by rw [World.size_alloc])
 clear hr hbA
 obtain ⟨kd, s1, e1⟩ : ∃ kd s1, pNum b 1 (some 0) = (kd, s1) := ⟨_, _, rfl⟩
 obtain ⟨tx, s2, e8⟩ : ∃ tx s2, pNum b 8 s1 = (tx, s2) := ⟨_, _, rfl⟩
 obtain ⟨pm, s3, e2⟩ : ∃ pm s3, pNum b 2 s2 = (pm, s3) := ⟨_, _, rfl⟩
 obtain ⟨pcs, s5, ep⟩ : ∃ pcs s5, pChanges b pm [] s3 = (pcs, s5) := ⟨_, _, rfl⟩
 have hkd : kd < 256 ^ 1 := by have := pNum_lt b 1 (some 0); rw [e1] at this; exact this
 have hpm : pm < 256 ^ 2 := by have := pNum_lt b 2 s2; rw [e2] at this; exact this
 have E1 : Hid (∀ w', RSt w' rb A n c (some 0) → BR w' A n b → Calls Tryz.prog 176 #[.pointer (some ⟨rb, 0, none⟩)] w' fun e w2 => e = .returned (.int .i64 (kd : Int)) ∧ RSt w2 rb A n c s1 ∧ Off (· = rb) w' w2) := Lib.hid (fun w' h1 h2 => by
  have X := one_any w' rb A n c b (some 0) h1 h2 hA (by omega)
  rw [e1] at X
  exact X)
 have E8 : Hid (∀ w', RSt w' rb A n c s1 → BR w' A n b → Calls Tryz.prog 178 #[.pointer (some ⟨rb, 0, none⟩)] w' fun e w2 => e = .returned (.int .i64 (toI tx)) ∧ RSt w2 rb A n c s2 ∧ Off (· = rb) w' w2) := Lib.hid (fun w' h1 h2 => by
  have X := eight_any w' rb A n c b s1 h1 h2 hA (by omega)
  rw [e8] at X
  exact X)
 have E2 : Hid (∀ w', RSt w' rb A n c s2 → BR w' A n b → Calls Tryz.prog 177 #[.pointer (some ⟨rb, 0, none⟩)] w' fun e w2 => e = .returned (.int .i64 (pm : Int)) ∧ RSt w2 rb A n c s3 ∧ Off (· = rb) w' w2) := Lib.hid (fun w' h1 h2 => by
  have X := two_any w' rb A n c b s2 h1 h2 hA (by omega)
  rw [e2] at X
  exact X)
 have HP : Hid (pRecord b = (⟨kd, toI tx, pcs⟩, s5)) := Lib.hid (by
  unfold pRecord
  simp only [e1, e8, e2, ep])
 have EP := Lib.hid ep
 clear hb hA e1 e8 e2 ep h
 generalize toI tx = ti at *
 go_enter Tryz.func158, Tryz.ntmps158
 go_wp2_with fail
 generalize hwA : w.alloc (.cells #[.int .u8 0, .int .i64 0, .slice none 0 0] 114) = wA at *
 clear hwA
 have oA : Off (· = rb) w wA := Off.of_below HBA.out
 have OA := Lib.hid oA
 refine (E1.out wA HR.out (HB.out _ oA)).mono ?_
 rintro e w1 ⟨rfl, h1, o1⟩
 have HX := Lib.hid (E8.out w1 h1 (HB.out _ (oA.trans o1)))
 have O1 := Lib.hid o1
 have b3 : (0 : Int) ≤ (kd : Int) := Int.natCast_nonneg _
 have b4 : (kd : Int) ≤ 255 := by omega
 clear h1 o1 oA HR E1 E8
 go_wp2_with fail
 refine HX.out.mono ?_
 rintro e w2 ⟨rfl, h2, o2⟩
 have H2 := Lib.hid h2
 have O2 := Lib.hid (O1.out.trans o2)
 clear h2 o2 HX O1
 go_wp2_with fail
 generalize hcb : w2.heap.size = cb at *
 have bw := gr_alloc (gr_refl w2) (.cells #[.int .u8 (kd : Int), .int .i64 ti, .slice none 0 0] 114)
 have vw : VW wA (w2.alloc (.cells #[.int .u8 (kd : Int), .int .i64 ti, .slice none 0 0] 114)) rb cb A n c s2 (kd : Int) ti (.slice none 0 0) [] :=
  ⟨O2.out.trans (Off.of_below bw), H2.out.below bw, by rw [← hcb]; exact heap_alloc_new w2 _, by rw [← hcb]; exact O2.out.size, OCW.nil _ _, by have := HRL.out; have := HSZ.out; omega⟩
 have HCL : Hid (w.heap.size < cb) := Lib.hid (by have h := O2.out.size; have h2 := HSZ.out; omega)
 clear bw H2 O2 hcb
 generalize w2.alloc (.cells #[.int .u8 (kd : Int), .int .i64 ti, .slice none 0 0] 114) = W2 at *
 have HX := Lib.hid (E2.out W2 vw.rs (HB.out _ (OA.out.trans vw.off)))
 have HCW := Lib.hid vw
 clear vw E2
 go_wp2_with fail
 refine HX.out.mono ?_
 rintro e w4 ⟨rfl, h4, o4⟩
 have cw4 := HCW.out.turn o4 h4
 have b0 : (0 : Int) ≤ (pm : Int) := Int.natCast_nonneg _
 have b1 : (pm : Int) ≤ 65535 := by omega
 clear HX HCW h4 o4
 go_wp2_with fail
 go_loopw [23] (fun i wr => ∃ (k : Nat) (acc : List Ch) (st : Option Nat) (v2 : Value), k ≤ pm ∧ i = .int .i64 k ∧ acc.length ≤ k ∧ VW wA wr rb cb A n c st (kd : Int) ti v2 acc ∧ Hid (pChanges b (pm - k) acc st = (pcs, s5))) (fun i _ => pm - (intOf i).toNat)
 case atStart => exact ⟨0, [], s3, _, by omega, rfl, by simp, cw4, EP⟩
 case round =>
  clear cw4 EP
  obtain ⟨k, acc, st, v2, hk, rfl, hacc, cw5, HE⟩ := hrel
  obtain ⟨A2, c2, hv2, _, _⟩ := own_form cw5.row.choose_spec.1
  subst hv2
  by_cases hlt : k < pm
  ·have t1 : decide ((k : Int) < (pm : Int)) = true := by simp; omega
   have t2 : decide (k < pm) = true := by simp; omega
   obtain ⟨a, ha, hrb⟩ := cw5.rs.nb
   have k2 := hrb.c2
   cases st with
   | none =>
    obtain ⟨h1, h2⟩ : acc = pcs ∧ none = s5 := by
     have h := HE.out
     rw [show pm - k = (pm - k - 1) + 1 from by omega] at h
     unfold pChanges at h
     injection h with h1 h2
     exact ⟨h1, h2⟩
    subst h1 h2
    have k2' : wr.cell? ⟨rb, 2, none⟩ = some (.bool true) := k2
    have HCW := Lib.hid cw5
    clear k2 hrb ha cw5 HE hacc hlt hk
    go_upto_region 9 with fail
    generalize wr = w9 at *
    have HD := Lib.hid (HCW.out.done rfl HBA.out HZ.out HRL.out HCL.out)
    have k0 := HCW.out.c0
    have k1 := HCW.out.c1
    have k2 := HCW.out.c2
    have r0 : w9.cell? ⟨w.heap.size, 0, none⟩ = some (.int .u8 0) := by rw [cell_of_row w9 _ 0 _ _ _ HD.out.1]; rfl
    have r1 : w9.cell? ⟨w.heap.size, 1, none⟩ = some (.int .i64 0) := by rw [cell_of_row w9 _ 1 _ _ _ HD.out.1]; rfl
    have r2 : w9.cell? ⟨w.heap.size, 2, none⟩ = some (.slice none 0 0) := by rw [cell_of_row w9 _ 2 _ _ _ HD.out.1]; rfl
    have g0 : w9.frozen? ⟨w.heap.size, 0, none⟩ = false := by simp [World.frozen?, HD.out.1]
    have g1 : w9.frozen? ⟨w.heap.size, 1, none⟩ = false := by simp [World.frozen?, HD.out.1]
    have g2 : w9.frozen? ⟨w.heap.size, 2, none⟩ = false := by simp [World.frozen?, HD.out.1]
    go_wp2_with fail
    obtain ⟨f1, f2, f4, f5⟩ := HD.out.2 _ rfl
    clear HD k0 k1 k2 r0 r1 r2 g0 g1 g2
    generalize ((w9.setCell ⟨w.heap.size, 0, none⟩ (.int .u8 (kd : Int))).setCell ⟨w.heap.size, 1, none⟩ (.int .i64 ti)).setCell ⟨w.heap.size, 2, none⟩ (.slice A2 acc.length c2) = wf at *
    have z0 : wf.cell? ⟨w.heap.size, 0, none⟩ = some (.int .u8 (kd : Int)) := by rw [cell_of_row wf _ 0 _ _ _ f1]; rfl
    have z1 : wf.cell? ⟨w.heap.size, 1, none⟩ = some (.int .i64 ti) := by rw [cell_of_row wf _ 1 _ _ _ f1]; rfl
    have z2 : wf.cell? ⟨w.heap.size, 2, none⟩ = some ((.slice A2 acc.length c2)) := by rw [cell_of_row wf _ 2 _ _ _ f1]; rfl
    refine bodyPost_ret (v := .agg #[.int .u8 (kd : Int), .int .i64 ti, (.slice A2 acc.length c2)]) (by simp [results, Tryz.results158, go_sem, z0, z1, z2]) rfl ?_
    rw [HP.out]
    exact ⟨_, rfl, f2, f4, f5⟩
   | some x =>
    have k2' : wr.cell? ⟨rb, 2, none⟩ = some (.bool false) := k2
    obtain ⟨⟨pg, img, pps⟩, sb, eC⟩ : ∃ ch sb, pChange b (some x) = (ch, sb) := ⟨_, _, rfl⟩
    have HE2 : Hid (pChanges b (pm - (k + 1)) (acc ++ [(pg, img, pps)]) sb = (pcs, s5)) := Lib.hid (by
     have h := HE.out
     rw [show pm - k = (pm - (k + 1)) + 1 from by omega] at h
     unfold pChanges at h
     simp only [eC] at h
     exact h)
    have EC : Hid (∀ w', RSt w' rb A n c (some x) → BR w' A n b → Calls Tryz.prog 179 #[.pointer (some ⟨rb, 0, none⟩)] w' fun e w2 => ∃ v1 v2, e = .returned (.agg #[.int .i64 pg, v1, v2]) ∧ OB w2 w'.heap.size v1 img ∧ OW w2 w'.heap.size v2 pps ∧ RSt w2 rb A n c sb ∧ Off (· = rb) w' w2) := Lib.hid (fun w' h1 h2 => by
     have X := change_any w' rb A n c b (some x) h1 h2 HA.out hn hnc hc
     rw [eC] at X
     exact X)
    have y2 := cw5.c2
    have HCW := Lib.hid cw5
    clear k2 hrb ha cw5 HE eC
    go_wp2_with fail
    refine wp_region_lastL (by kernel_rfl) (by simp) (by kernel_rfl) (by kernel_rfl) ?_
    simp only [List.dropLast, List.length_cons, List.length_nil]
    refine wpAny_of_held (S := fun W => W.cell? ⟨cb, 2, none⟩ = some (.slice A2 acc.length c2)) _ _ _ _ ?_
    have hHeld : wr.drew.cell? ⟨cb, 2, none⟩ = some (.slice A2 acc.length c2) := y2
    have cwd := HCW.out.drew
    refine wpAnyH_take (i := 0) (v := ?_) rfl (by kernel_rfl) (by kernel_rfl) (by kernel_rfl) (fun _ _ _ h => h) (Or.inl ⟨by rfl, ?_⟩) hHeld ?_
    rotate_left
    ·intro W hS
     (try dsimp only at hS)
     obtain s1 := hS
     (go_simp; try with_reducible rfl)
    try simp only [Act.put, List.setIfInBounds_toArray]
    refine wpAnyH_take (i := 1) (v := ?_) rfl (by kernel_rfl) (by kernel_rfl) (by kernel_rfl) (fun _ _ _ h => h) (Or.inl ⟨by rfl, ?_⟩) hHeld ?_
    rotate_left
    ·intro W hS
     (try dsimp only at hS)
     obtain s1 := hS
     (go_simp; try with_reducible rfl)
    try simp only [Act.put]
    refine wpAnyH_take (i := 2) (v := ?_) rfl (by kernel_rfl) (by kernel_rfl) (by kernel_rfl) (fun _ _ _ h => h) (Or.inl ⟨by rfl, ?_⟩) hHeld ?_
    rotate_left
    ·intro W hS
     (try dsimp only at hS)
     obtain s1 := hS
     (go_simp; try with_reducible rfl)
    try simp only [Act.put]
    refine wpAnyH_ready (rs := [3]) (by kernel_rfl) (by simp) ?_
    refine AllReadyH.cons rfl (fun KK hK => ?_) AllReadyH.nil
    go_simp
    refine (EC.out _ cwd.rs (HB.out _ (OA.out.trans cwd.off))).mono ?_
    rintro e w7 ⟨u1, u2, rfl, ov1, ov2, h7, o7⟩
    have cw7 := cwd.turn o7 h7
    have ov1' := ov1.lower cwd.off.size
    have ov2' := ov2.lower cwd.off.size
    obtain ⟨Ap, cp, rfl, _, _⟩ := own_form ov1
    obtain ⟨Aq, cq, rfl, _, _⟩ := own_form ov2.choose_spec.1
    dsimp only
    refine hK.out _ _ ?_ (fun hHeld2 => ?_)
    ·exact cw7.c2
    clear hK KK hHeld
    have hHeld := hHeld2
    clear hHeld2
    try simp only [Act.put, List.setIfInBounds_toArray, List.set_cons_zero, List.set_cons_succ]
    refine wpAnyH_ready (rs := [4]) (by kernel_rfl) (by simp) ?_
    refine AllReadyH.cons rfl (fun KK hK => ?_) AllReadyH.nil
    go_simp
    refine hK.out _ _ ?_ (fun hHeld2 => ?_)
    ·exact (cw7.below (gr_alloc (gr_refl w7) (.cells #[.int .i64 pg, .slice Ap img.length cp, .slice Aq pps.length cq] 117))).c2
    clear hK KK hHeld
    have hHeld := hHeld2
    clear hHeld2
    try simp only [Act.put, List.setIfInBounds_toArray, List.set_cons_zero, List.set_cons_succ]
    refine wpAnyH_ready (rs := [5]) (by kernel_rfl) (by simp) ?_
    refine AllReadyH.cons rfl (fun KK hK => ?_) AllReadyH.nil
    obtain ⟨us, r1, r2, r3⟩ := cw7.row
    have hsz := cw7.off.size
    rw [if_pos (by rfl)]
    refine wp_append_Rd _ (.tmp 30) (.tmp 33) _ rfl wA.heap.size 117 i1 _ 3 56 Tryz.underlying112 hi1 hy0 hy1 hy2 rfl (.slice A2 acc.length c2) acc.length (chs us) rfl (r1.alloc _) (some ⟨w7.heap.size, 0, none⟩) 1 1 [.int .i64 pg, .slice Ap img.length cp, .slice Aq pps.length cq] rfl (Rd.new w7 _ #[.int .i64 pg, .slice Ap img.length cp, .slice Aq pps.length cq] 1 3 rfl) (by simp [Value.oneCell']) (by omega) (by simp only [maxLen]; omega) (by rw [World.size_alloc]; omega) ?_
    intro v8 w8 ho8 hg8 _ _
    obtain ⟨y8, z8, cw8⟩ := cw7.push r1 r2 r3 ov1' ov2' ho8 hg8
    obtain ⟨A8, c8, rfl, _, _⟩ := own_form ho8
    have z8' := z8 2
    have HC8 := Lib.hid cw8
    clear ho8 hg8 z8 cw8 r1 r2 r3 us ov1 ov2 ov1' ov2' cw7 h7 o7 cwd
    refine hK.out _ _ ?_ (fun hHeld2 => ?_)
    ·exact y8
    clear hK KK hHeld
    have hHeld := hHeld2
    clear hHeld2
    try simp only [Act.put, List.setIfInBounds_toArray]
    refine wpAnyH_take (i := 6) (v := ?_) rfl (by kernel_rfl) (by kernel_rfl) (by kernel_rfl) (fun _ _ _ h => h) (Or.inl ⟨by rfl, ?_⟩) hHeld ?_
    rotate_left
    ·intro W hS
     (try dsimp only at hS)
     obtain s1 := hS
     (go_simp; try with_reducible rfl)
    try simp only [Act.put]
    refine wpAnyH_done (by kernel_rfl) ?_ _
    refine lastQ_step (o := _) rfl (fun KK hK => ?_)
    go_simp
    refine hK _ _ ?_
    go_wp2_with fail
    go_roundw
    case rel => exact ⟨k + 1, _, sb, _, by omega, by go_num, by rw [List.length_append]; simp; omega, HC8.out, HE2⟩
    case measure => simp [intOf]; omega
  ·obtain rfl : pm = k := by omega
   have t1 : decide ((pm : Int) < (pm : Int)) = false := by simp
   have t2 : decide (pm < pm) = false := by simp
   obtain ⟨h1, h2⟩ : acc = pcs ∧ st = s5 := by
    have h := HE.out
    rw [Nat.sub_self] at h
    unfold pChanges at h
    injection h with h1 h2
    exact ⟨h1, h2⟩
   subst h1 h2
   have HCW := Lib.hid cw5
   clear cw5 HE hacc hlt hk
   go_upto_region 9 with fail
   generalize wr = w9 at *
   have HD := Lib.hid (HCW.out.done rfl HBA.out HZ.out HRL.out HCL.out)
   have k0 := HCW.out.c0
   have k1 := HCW.out.c1
   have k2 := HCW.out.c2
   have r0 : w9.cell? ⟨w.heap.size, 0, none⟩ = some (.int .u8 0) := by rw [cell_of_row w9 _ 0 _ _ _ HD.out.1]; rfl
   have r1 : w9.cell? ⟨w.heap.size, 1, none⟩ = some (.int .i64 0) := by rw [cell_of_row w9 _ 1 _ _ _ HD.out.1]; rfl
   have r2 : w9.cell? ⟨w.heap.size, 2, none⟩ = some (.slice none 0 0) := by rw [cell_of_row w9 _ 2 _ _ _ HD.out.1]; rfl
   have g0 : w9.frozen? ⟨w.heap.size, 0, none⟩ = false := by simp [World.frozen?, HD.out.1]
   have g1 : w9.frozen? ⟨w.heap.size, 1, none⟩ = false := by simp [World.frozen?, HD.out.1]
   have g2 : w9.frozen? ⟨w.heap.size, 2, none⟩ = false := by simp [World.frozen?, HD.out.1]
   go_wp2_with fail
   obtain ⟨f1, f2, f4, f5⟩ := HD.out.2 _ rfl
   clear HD k0 k1 k2 r0 r1 r2 g0 g1 g2
   generalize ((w9.setCell ⟨w.heap.size, 0, none⟩ (.int .u8 (kd : Int))).setCell ⟨w.heap.size, 1, none⟩ (.int .i64 ti)).setCell ⟨w.heap.size, 2, none⟩ (.slice A2 acc.length c2) = wf at *
   have z0 : wf.cell? ⟨w.heap.size, 0, none⟩ = some (.int .u8 (kd : Int)) := by rw [cell_of_row wf _ 0 _ _ _ f1]; rfl
   have z1 : wf.cell? ⟨w.heap.size, 1, none⟩ = some (.int .i64 ti) := by rw [cell_of_row wf _ 1 _ _ _ f1]; rfl
   have z2 : wf.cell? ⟨w.heap.size, 2, none⟩ = some ((.slice A2 acc.length c2)) := by rw [cell_of_row wf _ 2 _ _ _ f1]; rfl
   refine bodyPost_ret (v := .agg #[.int .u8 (kd : Int), .int .i64 ti, (.slice A2 acc.length c2)]) (by simp [results, Tryz.results158, go_sem, z0, z1, z2]) rfl ?_
   rw [HP.out]
   exact ⟨_, rfl, f2, f4, f5⟩
end Go.Proofs.YtnkeclpgpiogoaaGreat

/-! RdF -/
namespace Go.Proofs.YtnkeclpgpiogoaaGreat
open Go.RowKit
/-! Plain: what Decode tells. -/
def rec0 : Rec := ⟨0, 0, []⟩
def said (b : List UInt8) : Nat := leN (b.take 4)
def body (b : List UInt8) : List UInt8 := (b.drop 4).take (said b)
def short (b : List UInt8) : Prop := b.length < 4 ∨ b.length < 4 + said b
def fine (b : List UInt8) : Prop := (pRecord (body b)).2 = some (said b) ∧ (pRecord (body b)).1.right = true
instance (b : List UInt8) : Decidable (short b) := by unfold short; infer_instance
instance (b : List UInt8) : Decidable (fine b) := by unfold fine; infer_instance
def decR (b : List UInt8) : Rec := if short b then rec0 else if fine b then (pRecord (body b)).1 else rec0
def decN (b : List UInt8) : Nat := if short b then 0 else if fine b then 4 + said b else 0
def decE (b : List UInt8) : Nat := if short b then 150 else if fine b then 0 else 151
set_option maxRecDepth 100000 in
theorem pPieces_hi {b : List UInt8} : ∀ (n : Nat) (acc : List Pc) (s : Option Nat), (∀ p ∈ acc, p.1 ≤ 65535) → ∀ p ∈ (pPieces b n acc s).1, p.1 ≤ 65535
 | 0, acc, s, h => by unfold pPieces; exact h
 | n + 1, acc, none, h => by unfold pPieces; exact h
 | n + 1, acc, some a, h => by
  unfold pPieces
  refine pPieces_hi n _ _ (fun p hp => ?_)
  rcases List.mem_append.1 hp with hp | hp
  ·exact h p hp
  ·simp at hp
   subst hp
   have := pNum_lt b 2 (some a)
   simp only
   omega
set_option maxRecDepth 100000 in
theorem pChange_hi (b : List UInt8) (s : Option Nat) : ∀ p ∈ (pChange b s).1.2.2, p.1 ≤ 65535 := by
 unfold pChange
 simp only
 split
 ·simp
 ·split
  ·exact pPieces_hi _ _ _ (by simp)
  ·simp
set_option maxRecDepth 100000 in
theorem pChanges_hi {b : List UInt8} : ∀ (n : Nat) (acc : List Ch) (s : Option Nat), (∀ c ∈ acc, ∀ p ∈ c.2.2, p.1 ≤ 65535) → ∀ c ∈ (pChanges b n acc s).1, ∀ p ∈ c.2.2, p.1 ≤ 65535
 | 0, acc, s, h => by unfold pChanges; exact h
 | n + 1, acc, none, h => by unfold pChanges; exact h
 | n + 1, acc, some a, h => by
  unfold pChanges
  refine pChanges_hi n _ _ (fun c hc => ?_)
  rcases List.mem_append.1 hc with hc | hc
  ·exact h c hc
  ·simp at hc
   subst hc
   exact pChange_hi b (some a)
set_option maxRecDepth 100000 in
theorem pChanges_len {b : List UInt8} : ∀ (n : Nat) (acc : List Ch) (s : Option Nat), (pChanges b n acc s).1.length ≤ acc.length + n
 | 0, acc, s => by unfold pChanges; simp
 | n + 1, acc, none => by unfold pChanges; simp
 | n + 1, acc, some a => by
  unfold pChanges
  have := pChanges_len (b := b) n (acc ++ [(pChange b (some a)).1]) (pChange b (some a)).2
  rw [List.length_append] at this
  simp at this
  omega
set_option maxRecDepth 100000 in
theorem pRecord_hi (b : List UInt8) : ∀ c ∈ (pRecord b).1.cs, ∀ p ∈ c.2.2, p.1 ≤ 65535 := by
 unfold pRecord
 simp only
 exact pChanges_hi _ _ _ (by simp)
set_option maxRecDepth 100000 in
theorem pRecord_len (b : List UInt8) : (pRecord b).1.cs.length ≤ 65535 := by
 unfold pRecord
 simp only
 have h1 := pChanges_len (b := b) (pNum b 2 (pNum b 8 (pNum b 1 (some 0)).2).2).1 [] (pNum b 2 (pNum b 8 (pNum b 1 (some 0)).2).2).2
 have h2 := pNum_lt b 2 (pNum b 8 (pNum b 1 (some 0)).2).2
 simp only [List.length_nil] at h1
 omega
set_option maxRecDepth 100000 in
theorem rec_put {w : World} {ra : Nat} {x0 x1 x2 : Value} (hz : w.heap[ra]? = some (.cells #[x0, x1, x2] 114 (0, 0))) (v0 v1 v2 : Value) :
  (((w.setCell ⟨ra, 0, none⟩ v0).setCell ⟨ra, 1, none⟩ v1).setCell ⟨ra, 2, none⟩ v2).heap[ra]? = some (.cells #[v0, v1, v2] 114 (0, 0)) := by
 simp only [World.setCell, Array.getElem?_modify, if_pos, hz]
 rfl
set_option maxRecDepth 100000 in
set_option maxHeartbeats 8000000 in
theorem Decode_any (A : Option Addr) (n c : Nat) (b : List UInt8) (w : World) (hb : BR w A n b) (hn : n ≤ 211106232532992) (hnc : n ≤ c) (hc : c ≤ 9223372036854775807) :
  Calls Tryz.prog 144 #[.slice A n c] w fun e w' => ∃ v, e = .returned (.tuple #[.agg #[.int .u8 ((decR b).kind : Int), .int .i64 (decR b).tx, v], .int .i64 (decN b : Int), .int .i64 (decE b : Int)]) ∧ OCW w' w.heap.size v (decR b).cs ∧ Below w.heap.size w w' := by
 obtain ⟨i0, hi0, hz0, hz1, hz2⟩ := info_parts info_u8
 have hl := hb.len
 have hU := fun (W : World) (hW : BR W A n b) => U32_any A n c b W 0 hW (by omega) (by omega) (by omega)
 have hz := heap_alloc_new w (.cells #[.int .u8 0, .int .i64 0, .slice none 0 0] 114)
 have hbA := gr_alloc (gr_refl w) (.cells #[.int .u8 0, .int .i64 0, .slice none 0 0] 114)
 have HBW := Lib.hid (hb.below hbA)
 have HZ := Lib.hid hz
 have HBA := Lib.hid hbA
 have hsz : (w.alloc (.cells #[.int .u8 0, .int .i64 0, .slice none 0 0] 114)).heap.size = w.heap.size + 1 := by rw [World.size_alloc]
 have HSZ := Lib.hid hsz
 have HL := Lib.hid hl
 by_cases h4 : n < 4
 ·-- too short for the length
  have e1 : numAt b 0 4 = none := by
   unfold numAt
   rw [if_pos (by omega)]
  have hs : short b := .inl (by omega)
  have HR : Hid (decR b = rec0 ∧ decN b = 0 ∧ decE b = 150) := Lib.hid ⟨by unfold decR; rw [if_pos hs], by unfold decN; rw [if_pos hs], by unfold decE; rw [if_pos hs]⟩
  rw [e1] at hU
  have HU := Lib.hid hU
  clear hU e1 hs hb hl hz hbA hsz h4
  go_enter Tryz.func144, Tryz.ntmps144
  go_wp2_with fail
  generalize w.alloc (.cells #[.int .u8 0, .int .i64 0, .slice none 0 0] 114) = wA at *
  refine (HU.out _ HBW.out).mono ?_
  rintro e w' ⟨rfl, rfl⟩
  have r0 : wA.cell? ⟨w.heap.size, 0, none⟩ = some (.int .u8 0) := by rw [cell_of_row wA _ 0 _ _ _ HZ.out]; rfl
  have r1 : wA.cell? ⟨w.heap.size, 1, none⟩ = some (.int .i64 0) := by rw [cell_of_row wA _ 1 _ _ _ HZ.out]; rfl
  have r2 : wA.cell? ⟨w.heap.size, 2, none⟩ = some (.slice none 0 0) := by rw [cell_of_row wA _ 2 _ _ _ HZ.out]; rfl
  have g0 : wA.frozen? ⟨w.heap.size, 0, none⟩ = false := by simp [World.frozen?, HZ.out]
  have g1 : wA.frozen? ⟨w.heap.size, 1, none⟩ = false := by simp [World.frozen?, HZ.out]
  have g2 : wA.frozen? ⟨w.heap.size, 2, none⟩ = false := by simp [World.frozen?, HZ.out]
  go_wp2_with fail
  have f1 := rec_put HZ.out (.int .u8 0) (.int .i64 0) (.slice none 0 0)
  have f5 : Below w.heap.size w ((((wA).setCell ⟨w.heap.size, 0, none⟩ (.int .u8 0)).setCell ⟨w.heap.size, 1, none⟩ (.int .i64 0)).setCell ⟨w.heap.size, 2, none⟩ (.slice none 0 0)) := ((HBA.out.setCell (p := ⟨w.heap.size, 0, none⟩) (Nat.le_refl _) _).setCell (p := ⟨w.heap.size, 1, none⟩) (Nat.le_refl _) _).setCell (p := ⟨w.heap.size, 2, none⟩) (Nat.le_refl _) _
  clear r0 r1 r2 g0 g1 g2
  generalize ((wA.setCell ⟨w.heap.size, 0, none⟩ (.int .u8 0)).setCell ⟨w.heap.size, 1, none⟩ (.int .i64 0)).setCell ⟨w.heap.size, 2, none⟩ (.slice none 0 0) = wf at *
  have z0 : wf.cell? ⟨w.heap.size, 0, none⟩ = some (.int .u8 0) := by rw [cell_of_row wf _ 0 _ _ _ f1]; rfl
  have z1 : wf.cell? ⟨w.heap.size, 1, none⟩ = some (.int .i64 0) := by rw [cell_of_row wf _ 1 _ _ _ f1]; rfl
  have z2 : wf.cell? ⟨w.heap.size, 2, none⟩ = some (.slice none 0 0) := by rw [cell_of_row wf _ 2 _ _ _ f1]; rfl
  refine bodyPost_ret (v := .tuple #[.agg #[.int .u8 0, .int .i64 0, .slice none 0 0], .int .i64 0, .int .i64 150]) (by simp [results, Tryz.results144, go_sem, z0, z1, z2]) rfl ?_
  rw [HR.out.1, HR.out.2.1, HR.out.2.2]
  exact ⟨_, rfl, OCW.nil _ _, f5⟩
 ·have e1 : numAt b 0 4 = some (said b) := by
   have := numAt_fit (b := b) (x := 0) (k := 4) (by omega)
   rw [List.drop_zero] at this
   exact this
  have hsd : said b < 4294967296 := by
   have := leN_fit (b := b) (x := 0) (k := 4) (by omega)
   rw [List.drop_zero] at this
   exact this
  rw [e1] at hU
  have HU : Hid (∀ W, BR W A n b → Calls Tryz.prog 119 #[.slice A n c, .int .i64 0] W fun e w' => e = .returned (.tuple #[.int .u32 (said b : Int), .bool true]) ∧ W = w') := Lib.hid hU
  clear hU e1
  by_cases h5 : n < 4 + said b
  ·have hs : short b := .inr (by omega)
   have HR : Hid (decR b = rec0 ∧ decN b = 0 ∧ decE b = 150) := Lib.hid ⟨by unfold decR; rw [if_pos hs], by unfold decN; rw [if_pos hs], by unfold decE; rw [if_pos hs]⟩
   generalize said b = sd at *
   have t1 : decide ((n : Int) - 4 < (sd : Int)) = true := by simp; omega
   have b0 : (0 : Int) ≤ (sd : Int) := Int.natCast_nonneg _
   have b1 : (sd : Int) ≤ 4294967295 := by omega
   have b2 : (4 : Int) ≤ (n : Int) := by omega
   have b3 : (n : Int) ≤ 211106232532992 := by omega
   clear hs hb hl hz hbA hsz h4 h5 hsd
   go_enter Tryz.func144, Tryz.ntmps144
   go_wp2_with fail
   generalize w.alloc (.cells #[.int .u8 0, .int .i64 0, .slice none 0 0] 114) = wA at *
   refine (HU.out _ HBW.out).mono ?_
   rintro e w' ⟨rfl, rfl⟩
   have r0 : wA.cell? ⟨w.heap.size, 0, none⟩ = some (.int .u8 0) := by rw [cell_of_row wA _ 0 _ _ _ HZ.out]; rfl
   have r1 : wA.cell? ⟨w.heap.size, 1, none⟩ = some (.int .i64 0) := by rw [cell_of_row wA _ 1 _ _ _ HZ.out]; rfl
   have r2 : wA.cell? ⟨w.heap.size, 2, none⟩ = some (.slice none 0 0) := by rw [cell_of_row wA _ 2 _ _ _ HZ.out]; rfl
   have g0 : wA.frozen? ⟨w.heap.size, 0, none⟩ = false := by simp [World.frozen?, HZ.out]
   have g1 : wA.frozen? ⟨w.heap.size, 1, none⟩ = false := by simp [World.frozen?, HZ.out]
   have g2 : wA.frozen? ⟨w.heap.size, 2, none⟩ = false := by simp [World.frozen?, HZ.out]
   go_wp2_with fail
   have f1 := rec_put HZ.out (.int .u8 0) (.int .i64 0) (.slice none 0 0)
   have f5 : Below w.heap.size w ((((wA).setCell ⟨w.heap.size, 0, none⟩ (.int .u8 0)).setCell ⟨w.heap.size, 1, none⟩ (.int .i64 0)).setCell ⟨w.heap.size, 2, none⟩ (.slice none 0 0)) := ((HBA.out.setCell (p := ⟨w.heap.size, 0, none⟩) (Nat.le_refl _) _).setCell (p := ⟨w.heap.size, 1, none⟩) (Nat.le_refl _) _).setCell (p := ⟨w.heap.size, 2, none⟩) (Nat.le_refl _) _
   clear r0 r1 r2 g0 g1 g2
   generalize ((wA.setCell ⟨w.heap.size, 0, none⟩ (.int .u8 0)).setCell ⟨w.heap.size, 1, none⟩ (.int .i64 0)).setCell ⟨w.heap.size, 2, none⟩ (.slice none 0 0) = wf at *
   have z0 : wf.cell? ⟨w.heap.size, 0, none⟩ = some (.int .u8 0) := by rw [cell_of_row wf _ 0 _ _ _ f1]; rfl
   have z1 : wf.cell? ⟨w.heap.size, 1, none⟩ = some (.int .i64 0) := by rw [cell_of_row wf _ 1 _ _ _ f1]; rfl
   have z2 : wf.cell? ⟨w.heap.size, 2, none⟩ = some (.slice none 0 0) := by rw [cell_of_row wf _ 2 _ _ _ f1]; rfl
   refine bodyPost_ret (v := .tuple #[.agg #[.int .u8 0, .int .i64 0, .slice none 0 0], .int .i64 0, .int .i64 150]) (by simp [results, Tryz.results144, go_sem, z0, z1, z2]) rfl ?_
   rw [HR.out.1, HR.out.2.1, HR.out.2.2]
   exact ⟨_, rfl, OCW.nil _ _, f5⟩
  ·have hs : ¬ short b := by unfold short; omega
   have hbl : (body b).length = said b := by unfold body; rw [List.length_take, List.length_drop]; omega
   have HRC := Lib.hid (fun (W : World) (rb : Nat) (h1 : RSt W rb (cutA A c 4 1) (said b) (c - 4) (some 0)) (h2 : BR W (cutA A c 4 1) (said b) (body b)) (h3 : ∀ ad, cutA A c 4 1 = some ad → 0 < said b → ad.block ≠ rb) => record_any W rb (cutA A c 4 1) (said b) (c - 4) (body b) h1 h2 h3 (by omega) (by omega) (by omega))
   have HBB : Hid (∀ W, BR W A n b → BR W (cutA A c 4 1) (said b) (body b)) := Lib.hid (fun W hW => by
    have h := hW.cut (k := 4) (j := 4 + said b) (c := c) (by omega) (by omega) hnc
    rw [show 4 + said b - 4 = said b from by omega] at h
    exact h)
   have HNB : Hid (∀ ad, cutA A c 4 1 = some ad → 0 < said b → ad.block < w.heap.size) := Lib.hid (fun ad e h0 => by
    obtain ⟨g, o, rfl, kc⟩ := hb.at_ (k := 0) (by omega)
    have hlt : g < w.heap.size := World.block_lt_of_cell? w _ kc
    unfold cutA at e
    rw [if_neg (by omega)] at e
    simp [Addr.add_lit] at e
    subst e
    exact hlt)
   have hcut := fun W => run_cut_lh (P := Tryz.prog) W 35 5 i0 Tryz.underlying35 hi0 1 hz1 A n c (4 : Int) (4 + (said b : Int)) 4 (4 + said b) rfl (by omega) (by omega) (by omega)
   rw [show 4 + said b - 4 = said b from by omega] at hcut
   have HDR : Hid (decR b = if fine b then (pRecord (body b)).1 else rec0) := Lib.hid (by unfold decR; rw [if_neg hs])
   have HDN : Hid (decN b = if fine b then 4 + said b else 0) := Lib.hid (by unfold decN; rw [if_neg hs])
   have HDE : Hid (decE b = if fine b then 0 else 151) := Lib.hid (by unfold decE; rw [if_neg hs])
   have HFI : Hid (fine b ↔ (pRecord (body b)).2 = some (said b) ∧ (pRecord (body b)).1.right = true) := Lib.hid Iff.rfl
   have HHI := Lib.hid (pRecord_hi (body b))
   have HLE := Lib.hid (pRecord_len (body b))
   generalize pRecord (body b) = pr at *
   obtain ⟨⟨kd, tx, cs⟩, st⟩ := pr
   simp only at HHI HLE HFI HRC
   generalize body b = bd at *
   generalize said b = sd at *
   have t1 : decide ((n : Int) - 4 < (sd : Int)) = false := by simp; omega
   have b0 : (0 : Int) ≤ (sd : Int) := Int.natCast_nonneg _
   have b1 : (sd : Int) ≤ 4294967295 := by omega
   have b2 : (4 : Int) ≤ (n : Int) := by omega
   have b3 : (n : Int) ≤ 211106232532992 := by omega
   clear hs hb hl hz hbA hsz h4 h5 hsd hbl
   go_enter Tryz.func144, Tryz.ntmps144
   go_wp2_with fail
   generalize w.alloc (.cells #[.int .u8 0, .int .i64 0, .slice none 0 0] 114) = wA at *
   refine (HU.out _ HBW.out).mono ?_
   rintro e w' ⟨rfl, rfl⟩
   go_wp2_with fail
   generalize hrb : wA.heap.size = rb at *
   have hbR := gr_alloc (gr_refl wA) (.cells #[.slice (cutA A c 4 1) sd (c - 4), .int .i64 0, .bool false] 243)
   have hrs : RSt (wA.alloc (.cells #[.slice (cutA A c 4 1) sd (c - 4), .int .i64 0, .bool false] 243)) rb (cutA A c 4 1) sd (c - 4) (some 0) := ⟨0, by omega, by rw [← hrb]; exact heap_alloc_new wA _, fun x e => by injection e with e; exact e.symm⟩
   have HX := Lib.hid (HRC.out _ rb hrs (HBB.out _ (HBW.out.below hbR)) (fun ad e h0 => by have := HNB.out ad e h0; have := HSZ.out; omega))
   have HBR := Lib.hid hbR
   have HRB : Hid (wA.heap.size = rb) := Lib.hid hrb
   clear hbR hrs hrb HRC HBB HNB HBW HU
   generalize wA.alloc (.cells #[.slice (cutA A c 4 1) sd (c - 4), .int .i64 0, .bool false] 243) = wB at *
   go_wp2_with fail
   refine HX.out.mono ?_
   rintro e w3 ⟨v3, rfl, oc3, rs3, o3⟩
   obtain ⟨A3, c3, rfl, hcr3, hc3, hm3⟩ := oc3.cr
   have hz3 : w3.heap[w.heap.size]? = some (.cells #[.int .u8 0, .int .i64 0, .slice none 0 0] 114 (0, 0)) := by
    have hlt : w.heap.size < wA.heap.size := by have := HSZ.out; have := HRB.out; omega
    have h1 := (HBR.out.block w.heap.size hlt).trans HZ.out
    have hlt2 : w.heap.size < wB.heap.size := Nat.lt_of_lt_of_le hlt HBR.out.size
    have hlt3 : w.heap.size ≠ rb := by have := HRB.out; omega
    exact (o3.block w.heap.size hlt2 hlt3).trans h1
   have hb3 : Below w.heap.size w w3 := (HBA.out.trans (HBR.out.mono HBA.out.size)).trans (o3.below (B := w.heap.size) (fun k e => by have := HRB.out; have := HSZ.out; omega) (by have := HBR.out.size; have := HSZ.out; have := HRB.out; omega))
   have ocw3 := oc3.lower (b := w.heap.size) (by have := HBR.out.size; have := HSZ.out; have := HRB.out; omega)
   have HOC := Lib.hid ocw3
   have HZ3 := Lib.hid hz3
   have HB3 := Lib.hid hb3
   have HCR := Lib.hid hcr3
   have HRS := Lib.hid rs3
   clear oc3 ocw3 hz3 hb3 hcr3 rs3 o3 HX HBR HBA HZ
   go_upto_region 7 with fail
   have hbC := gr_alloc (gr_refl w3) (.cells #[.int .u8 (kd : Int), .int .i64 tx, .slice A3 cs.length c3] 114)
   have hnC := heap_alloc_new w3 (.cells #[.int .u8 (kd : Int), .int .i64 tx, .slice A3 cs.length c3] 114)
   have HOC2 := Lib.hid (HOC.out.below hbC)
   have HZ4 : Hid ((w3.alloc (.cells #[.int .u8 (kd : Int), .int .i64 tx, .slice A3 cs.length c3] 114)).heap[w.heap.size]? = some (.cells #[.int .u8 0, .int .i64 0, .slice none 0 0] 114 (0, 0))) := Lib.hid ((hbC.block _ (Array.getElem?_eq_some_iff.1 HZ3.out).1).trans HZ3.out)
   have HB4 := Lib.hid (gr_trans HB3.out hbC)
   have HCR2 := Lib.hid (HCR.out.below hbC)
   have hrs4 := HRS.out.below hbC
   generalize hvb : w3.heap.size = vb at *
   have HVB := Lib.hid hvb
   have q0 : (w3.alloc (.cells #[.int .u8 (kd : Int), .int .i64 tx, .slice A3 cs.length c3] 114)).cell? ⟨vb, 0, none⟩ = some (.int .u8 (kd : Int)) := by rw [cell_of_row _ vb 0 _ _ _ hnC]; rfl
   have q1 : (w3.alloc (.cells #[.int .u8 (kd : Int), .int .i64 tx, .slice A3 cs.length c3] 114)).cell? ⟨vb, 1, none⟩ = some (.int .i64 tx) := by rw [cell_of_row _ vb 1 _ _ _ hnC]; rfl
   have q2 : (w3.alloc (.cells #[.int .u8 (kd : Int), .int .i64 tx, .slice A3 cs.length c3] 114)).cell? ⟨vb, 2, none⟩ = some (.slice A3 cs.length c3) := by rw [cell_of_row _ vb 2 _ _ _ hnC]; rfl
   clear hbC hnC HOC HZ3 HB3 HCR HRS hvb
   generalize w3.alloc (.cells #[.int .u8 (kd : Int), .int .i64 tx, .slice A3 cs.length c3] 114) = wC at *
   obtain ⟨a, ha, hrb4, hx⟩ := hrs4
   have p0 := hrb4.c0
   have p1 := hrb4.c1
   have p2 := hrb4.c2
   have HZ := HZ4
   have HBA := HB4
   by_cases hst : st = some sd
   ·subst hst
    obtain rfl : a = sd := (hx sd rfl).symm
    have p2' : wC.cell? ⟨rb, 2, none⟩ = some (.bool false) := p2
    have t9 : ((a : Int) != (a : Int)) = false := by simp
    have HRT := Lib.hid (Right_any (kd : Int) tx A3 cs.length c3 cs wC HCR2.out (by have := HLE.out; omega) (fun c hc p hp => by have := HHI.out c hc p hp; omega))
    clear p2 hrb4 ha hx
    cases hrt : rightR (kd : Int) tx cs with
    | false =>
     have HR : Hid (decR b = rec0 ∧ decN b = 0 ∧ decE b = 151) := Lib.hid (by
      have hf : ¬ fine b := fun h => by
       have := (HFI.out.1 h).2
       unfold Rec.right at this
       simp only at this
       rw [hrt] at this
       cases this
      rw [HDR.out, HDN.out, HDE.out, if_neg hf, if_neg hf, if_neg hf]
      exact ⟨rfl, rfl, rfl⟩)
     rw [hrt] at HRT
     clear hrt HDR HDN HDE HFI HHI HLE
     go_wp2_with fail
     refine HRT.out.mono ?_
     rintro e w5 ⟨rfl, hb5⟩
     have HZ := Lib.hid ((hb5.block _ (Array.getElem?_eq_some_iff.1 HZ4.out).1).trans HZ4.out)
     have HBA := Lib.hid (gr_trans HB4.out hb5)
     clear HZ4 HB4 hb5 HRT q0 q1 q2 p0 p1 p2'
     have r0 : w5.cell? ⟨w.heap.size, 0, none⟩ = some (.int .u8 0) := by rw [cell_of_row w5 _ 0 _ _ _ HZ.out]; rfl
     have r1 : w5.cell? ⟨w.heap.size, 1, none⟩ = some (.int .i64 0) := by rw [cell_of_row w5 _ 1 _ _ _ HZ.out]; rfl
     have r2 : w5.cell? ⟨w.heap.size, 2, none⟩ = some (.slice none 0 0) := by rw [cell_of_row w5 _ 2 _ _ _ HZ.out]; rfl
     have g0 : w5.frozen? ⟨w.heap.size, 0, none⟩ = false := by simp [World.frozen?, HZ.out]
     have g1 : w5.frozen? ⟨w.heap.size, 1, none⟩ = false := by simp [World.frozen?, HZ.out]
     have g2 : w5.frozen? ⟨w.heap.size, 2, none⟩ = false := by simp [World.frozen?, HZ.out]
     go_wp2_with fail
     have f1 := rec_put HZ.out (.int .u8 0) (.int .i64 0) (.slice none 0 0)
     have f5 : Below w.heap.size w ((((w5).setCell ⟨w.heap.size, 0, none⟩ (.int .u8 0)).setCell ⟨w.heap.size, 1, none⟩ (.int .i64 0)).setCell ⟨w.heap.size, 2, none⟩ (.slice none 0 0)) := ((HBA.out.setCell (p := ⟨w.heap.size, 0, none⟩) (Nat.le_refl _) _).setCell (p := ⟨w.heap.size, 1, none⟩) (Nat.le_refl _) _).setCell (p := ⟨w.heap.size, 2, none⟩) (Nat.le_refl _) _
     clear r0 r1 r2 g0 g1 g2
     generalize ((w5.setCell ⟨w.heap.size, 0, none⟩ (.int .u8 0)).setCell ⟨w.heap.size, 1, none⟩ (.int .i64 0)).setCell ⟨w.heap.size, 2, none⟩ (.slice none 0 0) = wf at *
     have z0 : wf.cell? ⟨w.heap.size, 0, none⟩ = some (.int .u8 0) := by rw [cell_of_row wf _ 0 _ _ _ f1]; rfl
     have z1 : wf.cell? ⟨w.heap.size, 1, none⟩ = some (.int .i64 0) := by rw [cell_of_row wf _ 1 _ _ _ f1]; rfl
     have z2 : wf.cell? ⟨w.heap.size, 2, none⟩ = some (.slice none 0 0) := by rw [cell_of_row wf _ 2 _ _ _ f1]; rfl
     refine bodyPost_ret (v := .tuple #[.agg #[.int .u8 0, .int .i64 0, .slice none 0 0], .int .i64 0, .int .i64 151]) (by simp [results, Tryz.results144, go_sem, z0, z1, z2]) rfl ?_
     rw [HR.out.1, HR.out.2.1, HR.out.2.2]
     exact ⟨_, rfl, OCW.nil _ _, f5⟩
    | true =>
     have HR : Hid (decR b = ⟨kd, tx, cs⟩ ∧ decN b = 4 + a ∧ decE b = 0) := Lib.hid (by
      have hf : fine b := HFI.out.2 ⟨rfl, hrt⟩
      rw [HDR.out, HDN.out, HDE.out, if_pos hf, if_pos hf, if_pos hf]
      exact ⟨rfl, rfl, rfl⟩)
     rw [hrt] at HRT
     clear hrt HDR HDN HDE HFI HHI HLE
     go_wp2_with fail
     refine HRT.out.mono ?_
     rintro e w5 ⟨rfl, hb5⟩
     have HZ := Lib.hid ((hb5.block _ (Array.getElem?_eq_some_iff.1 HZ4.out).1).trans HZ4.out)
     have HBA := Lib.hid (gr_trans HB4.out hb5)
     have HOC3 := Lib.hid (HOC2.out.below hb5)
     have q0' := keep_of_below hb5 q0
     have q1' := keep_of_below hb5 q1
     have q2' := keep_of_below hb5 q2
     clear HZ4 HB4 hb5 HRT q0 q1 q2 p0 p1 p2' HOC2
     have r0 : w5.cell? ⟨w.heap.size, 0, none⟩ = some (.int .u8 0) := by rw [cell_of_row w5 _ 0 _ _ _ HZ.out]; rfl
     have r1 : w5.cell? ⟨w.heap.size, 1, none⟩ = some (.int .i64 0) := by rw [cell_of_row w5 _ 1 _ _ _ HZ.out]; rfl
     have r2 : w5.cell? ⟨w.heap.size, 2, none⟩ = some (.slice none 0 0) := by rw [cell_of_row w5 _ 2 _ _ _ HZ.out]; rfl
     have g0 : w5.frozen? ⟨w.heap.size, 0, none⟩ = false := by simp [World.frozen?, HZ.out]
     have g1 : w5.frozen? ⟨w.heap.size, 1, none⟩ = false := by simp [World.frozen?, HZ.out]
     have g2 : w5.frozen? ⟨w.heap.size, 2, none⟩ = false := by simp [World.frozen?, HZ.out]
     go_wp2_with fail
     have f1 := rec_put HZ.out (.int .u8 (kd : Int)) (.int .i64 tx) (.slice A3 cs.length c3)
     have f5 : Below w.heap.size w ((((w5).setCell ⟨w.heap.size, 0, none⟩ (.int .u8 (kd : Int))).setCell ⟨w.heap.size, 1, none⟩ (.int .i64 tx)).setCell ⟨w.heap.size, 2, none⟩ (.slice A3 cs.length c3)) := ((HBA.out.setCell (p := ⟨w.heap.size, 0, none⟩) (Nat.le_refl _) _).setCell (p := ⟨w.heap.size, 1, none⟩) (Nat.le_refl _) _).setCell (p := ⟨w.heap.size, 2, none⟩) (Nat.le_refl _) _
     have f6 := HOC3.out.ty (((((Off.refl (fun k => k = w.heap.size) w5).setCell (g := w.heap.size) (j := 0) (.int .u8 (kd : Int)) rfl).setCell (g := w.heap.size) (j := 1) (.int .i64 tx) rfl).setCell (g := w.heap.size) (j := 2) (.slice A3 cs.length c3) rfl)) (fun k e => by subst e; exact ⟨_, _, _, HZ.out, by decide, by decide, by decide⟩)
     clear r0 r1 r2 g0 g1 g2
     generalize ((w5.setCell ⟨w.heap.size, 0, none⟩ (.int .u8 (kd : Int))).setCell ⟨w.heap.size, 1, none⟩ (.int .i64 tx)).setCell ⟨w.heap.size, 2, none⟩ (.slice A3 cs.length c3) = wf at *
     have z0 : wf.cell? ⟨w.heap.size, 0, none⟩ = some (.int .u8 (kd : Int)) := by rw [cell_of_row wf _ 0 _ _ _ f1]; rfl
     have z1 : wf.cell? ⟨w.heap.size, 1, none⟩ = some (.int .i64 tx) := by rw [cell_of_row wf _ 1 _ _ _ f1]; rfl
     have z2 : wf.cell? ⟨w.heap.size, 2, none⟩ = some (.slice A3 cs.length c3) := by rw [cell_of_row wf _ 2 _ _ _ f1]; rfl
     refine bodyPost_ret (v := .tuple #[.agg #[.int .u8 (kd : Int), .int .i64 tx, .slice A3 cs.length c3], .int .i64 (4 + (a : Int)), .int .i64 0]) (by simp [results, Tryz.results144, go_sem, z0, z1, z2]) rfl ?_
     rw [HR.out.1, HR.out.2.1, HR.out.2.2]
     exact ⟨_, by go_num, f6, f5⟩
   ·have HR : Hid (decR b = rec0 ∧ decN b = 0 ∧ decE b = 151) := Lib.hid (by
     have hf : ¬ fine b := fun h => hst (HFI.out.1 h).1
     rw [HDR.out, HDN.out, HDE.out, if_neg hf, if_neg hf, if_neg hf]
     exact ⟨rfl, rfl, rfl⟩)
    clear HDR HDN HDE HFI HHI HLE
    cases st with
    | none =>
     have p2' : wC.cell? ⟨rb, 2, none⟩ = some (.bool true) := p2
     clear p2 hst hx hrb4 ha HCR2 HOC2
     have r0 : wC.cell? ⟨w.heap.size, 0, none⟩ = some (.int .u8 0) := by rw [cell_of_row wC _ 0 _ _ _ HZ.out]; rfl
     have r1 : wC.cell? ⟨w.heap.size, 1, none⟩ = some (.int .i64 0) := by rw [cell_of_row wC _ 1 _ _ _ HZ.out]; rfl
     have r2 : wC.cell? ⟨w.heap.size, 2, none⟩ = some (.slice none 0 0) := by rw [cell_of_row wC _ 2 _ _ _ HZ.out]; rfl
     have g0 : wC.frozen? ⟨w.heap.size, 0, none⟩ = false := by simp [World.frozen?, HZ.out]
     have g1 : wC.frozen? ⟨w.heap.size, 1, none⟩ = false := by simp [World.frozen?, HZ.out]
     have g2 : wC.frozen? ⟨w.heap.size, 2, none⟩ = false := by simp [World.frozen?, HZ.out]
     go_wp2_with fail
     have f1 := rec_put HZ.out (.int .u8 0) (.int .i64 0) (.slice none 0 0)
     have f5 : Below w.heap.size w ((((wC).setCell ⟨w.heap.size, 0, none⟩ (.int .u8 0)).setCell ⟨w.heap.size, 1, none⟩ (.int .i64 0)).setCell ⟨w.heap.size, 2, none⟩ (.slice none 0 0)) := ((HBA.out.setCell (p := ⟨w.heap.size, 0, none⟩) (Nat.le_refl _) _).setCell (p := ⟨w.heap.size, 1, none⟩) (Nat.le_refl _) _).setCell (p := ⟨w.heap.size, 2, none⟩) (Nat.le_refl _) _
     clear r0 r1 r2 g0 g1 g2
     generalize ((wC.setCell ⟨w.heap.size, 0, none⟩ (.int .u8 0)).setCell ⟨w.heap.size, 1, none⟩ (.int .i64 0)).setCell ⟨w.heap.size, 2, none⟩ (.slice none 0 0) = wf at *
     have z0 : wf.cell? ⟨w.heap.size, 0, none⟩ = some (.int .u8 0) := by rw [cell_of_row wf _ 0 _ _ _ f1]; rfl
     have z1 : wf.cell? ⟨w.heap.size, 1, none⟩ = some (.int .i64 0) := by rw [cell_of_row wf _ 1 _ _ _ f1]; rfl
     have z2 : wf.cell? ⟨w.heap.size, 2, none⟩ = some (.slice none 0 0) := by rw [cell_of_row wf _ 2 _ _ _ f1]; rfl
     refine bodyPost_ret (v := .tuple #[.agg #[.int .u8 0, .int .i64 0, .slice none 0 0], .int .i64 0, .int .i64 151]) (by simp [results, Tryz.results144, go_sem, z0, z1, z2]) rfl ?_
     rw [HR.out.1, HR.out.2.1, HR.out.2.2]
     exact ⟨_, rfl, OCW.nil _ _, f5⟩
    | some x =>
     have p2' : wC.cell? ⟨rb, 2, none⟩ = some (.bool false) := p2
     have hax : a ≠ sd := fun e => hst (by rw [hx x rfl, e])
     have t9 : ((a : Int) != (sd : Int)) = true := by simp; omega
     clear p2 hst hx hrb4 ha hax HCR2 HOC2
     have r0 : wC.cell? ⟨w.heap.size, 0, none⟩ = some (.int .u8 0) := by rw [cell_of_row wC _ 0 _ _ _ HZ.out]; rfl
     have r1 : wC.cell? ⟨w.heap.size, 1, none⟩ = some (.int .i64 0) := by rw [cell_of_row wC _ 1 _ _ _ HZ.out]; rfl
     have r2 : wC.cell? ⟨w.heap.size, 2, none⟩ = some (.slice none 0 0) := by rw [cell_of_row wC _ 2 _ _ _ HZ.out]; rfl
     have g0 : wC.frozen? ⟨w.heap.size, 0, none⟩ = false := by simp [World.frozen?, HZ.out]
     have g1 : wC.frozen? ⟨w.heap.size, 1, none⟩ = false := by simp [World.frozen?, HZ.out]
     have g2 : wC.frozen? ⟨w.heap.size, 2, none⟩ = false := by simp [World.frozen?, HZ.out]
     go_wp2_with fail
     have f1 := rec_put HZ.out (.int .u8 0) (.int .i64 0) (.slice none 0 0)
     have f5 : Below w.heap.size w ((((wC).setCell ⟨w.heap.size, 0, none⟩ (.int .u8 0)).setCell ⟨w.heap.size, 1, none⟩ (.int .i64 0)).setCell ⟨w.heap.size, 2, none⟩ (.slice none 0 0)) := ((HBA.out.setCell (p := ⟨w.heap.size, 0, none⟩) (Nat.le_refl _) _).setCell (p := ⟨w.heap.size, 1, none⟩) (Nat.le_refl _) _).setCell (p := ⟨w.heap.size, 2, none⟩) (Nat.le_refl _) _
     clear r0 r1 r2 g0 g1 g2
     generalize ((wC.setCell ⟨w.heap.size, 0, none⟩ (.int .u8 0)).setCell ⟨w.heap.size, 1, none⟩ (.int .i64 0)).setCell ⟨w.heap.size, 2, none⟩ (.slice none 0 0) = wf at *
     have z0 : wf.cell? ⟨w.heap.size, 0, none⟩ = some (.int .u8 0) := by rw [cell_of_row wf _ 0 _ _ _ f1]; rfl
     have z1 : wf.cell? ⟨w.heap.size, 1, none⟩ = some (.int .i64 0) := by rw [cell_of_row wf _ 1 _ _ _ f1]; rfl
     have z2 : wf.cell? ⟨w.heap.size, 2, none⟩ = some (.slice none 0 0) := by rw [cell_of_row wf _ 2 _ _ _ f1]; rfl
     refine bodyPost_ret (v := .tuple #[.agg #[.int .u8 0, .int .i64 0, .slice none 0 0], .int .i64 0, .int .i64 151]) (by simp [results, Tryz.results144, go_sem, z0, z1, z2]) rfl ?_
     rw [HR.out.1, HR.out.2.1, HR.out.2.2]
     exact ⟨_, rfl, OCW.nil _ _, f5⟩
end Go.Proofs.YtnkeclpgpiogoaaGreat

/-! RdG -/
namespace Go.Proofs.YtnkeclpgpiogoaaGreat
open Go.RowKit
def NB (w w' : World) : Prop := ∀ (k : Nat) (cs : Array Value) (t : TypeId) (fr : Nat × Nat), t ≠ 5 → w.heap[k]? = some (.cells cs t fr) → w'.heap[k]? = some (.cells cs t fr)
set_option maxRecDepth 100000 in
theorem NB.below {w w' : World} (h : Below w.heap.size w w') : NB w w' := fun k _cs _t _fr _ hk => (h.block k (Array.getElem?_eq_some_iff.1 hk).1).trans hk
section
variable (w : World)
set_option maxRecDepth 100000 in
theorem wpList_append_B {ops : Array Oper} {rest : List Oper} {o : Oper} {a : Act} {Q : Exit → Act → World → Prop} (hgd : o.guard = none) (s x : Operand)
  (ho : o.op = .call { callee := .builtin .append, args := #[s, x], argTypes := #[35, 35] })
  {base : Nat} {v : Value} {l m : List UInt8} (hs : a.eval s = v) (hv : OB w base v l) {A : Option Addr} {n c : Nat} (hx : a.eval x = .slice A n c) (hr : BR w A n m) (hsz : l.length + n ≤ 140737488355328) (hbase : base ≤ w.heap.size)
  (h : ∀ A' c' w' L, Hid (L = l ++ m) → L.length = l.length + n → OB w' base (.slice A' L.length c') L → Below base w w' → NB w w' → wpList Tryz.prog ops Q rest (a.put o.dst (.slice A' L.length c')) w') : wpList Tryz.prog ops Q (o :: rest) a w := by
 obtain ⟨i0, hi0, hz0, hz1, hz2⟩ := info_parts info_u8
 have hlen : (l ++ m).length = l.length + n := by rw [List.length_append, hr.len]
 refine wpList_append_Rd w hgd s x 35 ho base 5 i0 _ 1 1 Tryz.underlying35 hi0 hz0 hz1 hz2 rfl v l.length (l.map bv) hs hv A n c (m.map bv) hx hr (one_bv _) (by omega) (by simp only [maxLen]; omega) hbase ?_
 intro v' w' hown hg _ _
 have ho' : OB w' base v' (l ++ m) := by
  unfold OB
  rw [hlen, List.map_append]
  exact hown
 obtain ⟨A', c', rfl, _, _⟩ := own_form ho'
 refine h A' c' w' (l ++ m) (Lib.hid rfl) hlen ho' ⟨hg.os, hg.tape, hg.output, hg.size, fun k hk => hg.block k (Nat.lt_of_lt_of_le hk hbase) (fun e => ?_)⟩ (fun k cs t fr ht hk => (hg.block k (Array.getElem?_eq_some_iff.1 hk).1 (fun e => ?_)).trans hk)
 ·have := (hv.lt k e.symm).1
  omega
 ·obtain ⟨cur, hc⟩ := own_blk hv e.symm
  exact cells_ne hk hc ht
end
set_option maxRecDepth 100000 in
theorem encPs_snoc (ps : List Pc) (p : Pc) : encPs (ps ++ [p]) = encPs ps ++ encP p := by
 induction ps with
 | nil => simp [encPs]
 | cons q ps ih => simp only [List.cons_append, encPs, ih, List.append_assoc]
set_option maxRecDepth 100000 in
theorem encCs_snoc (cs : List Ch) (c : Ch) : encCs (cs ++ [c]) = encCs cs ++ encC c := by
 induction cs with
 | nil => simp [encCs]
 | cons q cs ih => simp only [List.cons_append, encCs, ih, List.append_assoc]
set_option maxRecDepth 100000 in
theorem encPs_take {ps : List Pc} {k : Nat} (hk : k < ps.length) : encPs (ps.take (k + 1)) = encPs (ps.take k) ++ encP (ps.getD k (0, [])) := by
 rw [List.take_succ_eq_append_getElem hk, encPs_snoc, pc_getD' hk]
set_option maxRecDepth 100000 in
theorem encCs_take {cs : List Ch} {k : Nat} (hk : k < cs.length) : encCs (cs.take (k + 1)) = encCs (cs.take k) ++ encC (cs.getD k ch0) := by
 rw [List.take_succ_eq_append_getElem hk, encCs_snoc]
 simp [List.getD, List.getElem?_eq_getElem hk]
def encE (r : Rec) : Nat := if r.right = true then 0 else 2
def encL (r : Rec) : List UInt8 := if r.right = true then encR r else []
def B3 (w : World) (g : Nat) (x0 x1 x2 : Value) (t : TypeId) : Prop := t ≠ 5 ∧ w.heap[g]? = some (.cells #[x0, x1, x2] t (0, 0))
def B2 (w : World) (g : Nat) (x0 x1 : Value) (t : TypeId) : Prop := t ≠ 5 ∧ w.heap[g]? = some (.cells #[x0, x1] t (0, 0))
section
variable {w w' : World} {g : Nat} {x0 x1 x2 : Value} {t : TypeId}
set_option maxRecDepth 100000 in
theorem B3.new (w : World) (x0 x1 x2 : Value) {t : TypeId} (ht : t ≠ 5) : B3 (w.alloc (.cells #[x0, x1, x2] t)) w.heap.size x0 x1 x2 t := ⟨ht, heap_alloc_new w _⟩
set_option maxRecDepth 100000 in
theorem B2.new (w : World) (x0 x1 : Value) {t : TypeId} (ht : t ≠ 5) : B2 (w.alloc (.cells #[x0, x1] t)) w.heap.size x0 x1 t := ⟨ht, heap_alloc_new w _⟩
set_option maxRecDepth 100000 in
theorem B3.nb (h : B3 w g x0 x1 x2 t) (k : NB w w') : B3 w' g x0 x1 x2 t := ⟨h.1, k _ _ _ _ h.1 h.2⟩
set_option maxRecDepth 100000 in
theorem B2.nb (h : B2 w g x0 x1 t) (k : NB w w') : B2 w' g x0 x1 t := ⟨h.1, k _ _ _ _ h.1 h.2⟩
set_option maxRecDepth 100000 in
theorem B3.c0 (h : B3 w g x0 x1 x2 t) : w.cell? ⟨g, 0, none⟩ = some x0 := by rw [cell_of_row w g 0 _ _ _ h.2]; rfl
set_option maxRecDepth 100000 in
theorem B3.c1 (h : B3 w g x0 x1 x2 t) : w.cell? ⟨g, 1, none⟩ = some x1 := by rw [cell_of_row w g 1 _ _ _ h.2]; rfl
set_option maxRecDepth 100000 in
theorem B3.c2 (h : B3 w g x0 x1 x2 t) : w.cell? ⟨g, 2, none⟩ = some x2 := by rw [cell_of_row w g 2 _ _ _ h.2]; rfl
set_option maxRecDepth 100000 in
theorem B2.c0 (h : B2 w g x0 x1 t) : w.cell? ⟨g, 0, none⟩ = some x0 := by rw [cell_of_row w g 0 _ _ _ h.2]; rfl
set_option maxRecDepth 100000 in
theorem B2.c1 (h : B2 w g x0 x1 t) : w.cell? ⟨g, 1, none⟩ = some x1 := by rw [cell_of_row w g 1 _ _ _ h.2]; rfl
end
set_option maxRecDepth 100000 in
theorem encPs_sum : ∀ (ps : List Pc) (s : Int), 0 ≤ s → s ≤ 4080 → rpFrom s ps = true → ((encPs ps).length : Int) + s ≤ 4 * ps.length + 4080
 | [], s, _, h2, _ => by simp [encPs]; omega
 | p :: ps, s, h0, h2, h => by
  unfold rpFrom at h
  split at h
  ·cases h
  ·rename_i hc
   have ih := encPs_sum ps (p.1 + p.2.length) (by omega) (by omega) h
   unfold encPs encP
   simp only [List.length_append, leB_length, List.length_cons]
   omega
set_option maxRecDepth 100000 in
theorem encCs_sum : ∀ (cs : List Ch) (s : Int), -1 ≤ s → rcFrom s cs = true → (encCs cs).length ≤ 20500 * cs.length
 | [], _, _, _ => by simp [encCs]
 | c :: cs, s, hs, h => by
  unfold rcFrom at h
  split at h
  ·cases h
  ·rename_i hc
   split at h
   ·rename_i hi
    split at h
    ·cases h
    ·rename_i hn
     have ih := encCs_sum cs c.1 (by omega) h
     unfold encCs encC
     rw [if_pos hi]
     simp only [List.length_append, leB_length, List.length_cons]
     omega
   ·rename_i hi
    split at h
    ·rename_i hr
     have ih := encCs_sum cs c.1 (by omega) h
     have h1 := encPs_sum c.2.2 0 (by omega) (by omega) hr
     have h2 := (rpFrom_good _ 0 (Int.le_refl _) hr).2
     have h3 : c.2.2.length ≤ 4080 := by
      rcases h2 with e | e
      ·rw [e]; simp
      ·omega
     unfold encCs encC
     rw [if_neg hi]
     simp only [List.length_append, leB_length, List.length_cons]
     omega
    ·cases h
set_option maxRecDepth 100000 in
theorem encB_small {r : Rec} (h : r.right = true) : (encB r).length ≤ 400000 := by
 have h4 := (right_good h).2.2.2.1
 have hc : (encCs r.cs).length ≤ 20500 * r.cs.length := by
  unfold Rec.right rightR at h
  split at h
  ·cases h
  ·split at h
   ·have h0 : r.cs = [] := List.eq_nil_of_length_eq_zero (of_decide_eq_true h)
    rw [h0]
    simp [encCs]
   ·split at h
    ·rw [Bool.and_eq_true] at h
     exact encCs_sum _ _ (Int.le_refl _) h.2
    ·cases h
 unfold encB
 simp only [List.length_cons, List.length_append, leB_length]
 omega
set_option maxRecDepth 100000 in
set_option maxHeartbeats 8000000 in
theorem Encode_no (k : Int) (tx : Int) (A : Option Addr) (n d : Nat) (cs : List Ch) (w : World) (hc : CR w A n cs) (hn : n ≤ 9223372036854775807) (hpb : ∀ c ∈ cs, ∀ p ∈ c.2.2, p.1 ≤ 9223372036854775807) (hr : rightR k tx cs = false) :
  Calls Tryz.prog 108 #[.agg #[.int .u8 k, .int .i64 tx, .slice A n d]] w fun e w' => e = .returned (.tuple #[.slice none 0 0, .int .i64 2]) ∧ Below w.heap.size w w' := by
 have hB := gr_alloc (gr_refl w) (.cells #[.int .u8 k, .int .i64 tx, .slice A n d] 114)
 have X := Right_any k tx A n d cs _ (hc.below hB) hn hpb
 rw [hr] at X
 have HX := Lib.hid X
 have HB := Lib.hid hB
 clear hr hc hpb X hB
 go_enter Tryz.func108, Tryz.ntmps108
 go_wp2_with fail
 refine HX.out.mono ?_
 rintro e w1 ⟨rfl, hb1⟩
 go_wp2_with fail
 go_ret2
 exact ⟨rfl, gr_trans HB.out hb1⟩
set_option maxRecDepth 100000 in
set_option maxHeartbeats 16000000 in
theorem Encode_yes (k tx : Nat) (A : Option Addr) (n d : Nat) (cs : List Ch) (w : World) (hc : CR w A n cs) (hpb : ∀ c ∈ cs, ∀ p ∈ c.2.2, p.1 ≤ 9223372036854775807) (hr : (Rec.mk k tx cs).right = true) :
  Calls Tryz.prog 108 #[.agg #[.int .u8 (k : Int), .int .i64 (tx : Int), .slice A n d]] w fun e w' => ∃ v, e = .returned (.tuple #[v, .int .i64 0]) ∧ OB w' w.heap.size v (encR ⟨k, tx, cs⟩) ∧ Below w.heap.size w w' := by
 obtain ⟨g1, g2, g3, g4, g5⟩ := right_good hr
 simp only at g1 g2 g3 g4 g5
 have hlen := hc.len
 have hB := gr_alloc (gr_refl w) (.cells #[.int .u8 (k : Int), .int .i64 (tx : Int), .slice A n d] 114)
 have X := Right_any (k : Int) (tx : Int) A n d cs _ (hc.below hB) (by omega) hpb
 have hr' : rightR (k : Int) (tx : Int) cs = true := hr
 rw [hr'] at X
 have HX := Lib.hid X
 have HBX := Lib.hid (B3.new w (.int .u8 (k : Int)) (.int .i64 (tx : Int)) (.slice A n d) (t := 114) (by decide))
 have HB := Lib.hid hB
 have HC := Lib.hid (hc.below hB)
 have HSM := Lib.hid (encB_small hr)
 have HBA := Lib.hid hB
 have G5 := Lib.hid g5
 have HLN := Lib.hid hlen
 have b1 : (0 : Int) ≤ (k : Int) := Int.natCast_nonneg _
 have b2 : (k : Int) ≤ 255 := by omega
 have b3 : (0 : Int) ≤ (tx : Int) := Int.natCast_nonneg _
 have b4 : (tx : Int) ≤ 4611686018427387904 := g3
 have b5 : (0 : Int) ≤ (n : Int) := Int.natCast_nonneg _
 have b6 : (n : Int) ≤ 16 := by omega
 clear hr hr' hc hpb X hB g1 g2 g3 g5 hlen
 go_enter Tryz.func108, Tryz.ntmps108
 go_wp2_with fail
 generalize w.alloc (.cells #[.int .u8 (k : Int), .int .i64 (tx : Int), .slice A n d] 114) = wA at *
 refine HX.out.mono ?_
 rintro e w1 ⟨rfl, hb1⟩
 have hs1 := hb1.size
 have bw1 := gr_alloc hb1 (.cells #[.int .u8 (k : Int)] 5)
 have HBX1 := Lib.hid (HBX.out.nb (NB.below hb1))
 have r0 := HBX1.out.c0
 have ob1 : OB (w1.alloc (.cells #[.int .u8 (k : Int)] 5)) wA.heap.size (.slice (some ⟨w1.heap.size, 0, none⟩) 1 1) [UInt8.ofNat k] := by
  have e : (.int .u8 (k : Int) : Value) = bv (UInt8.ofNat k) := by
   unfold bv
   rw [UInt8.toNat_ofNat', Nat.mod_eq_of_lt (by omega)]
  rw [e]
  exact ⟨rfl, .inr ⟨_, 1, _, rfl, hs1, heap_alloc_new w1 _, Nat.le_refl _, by simp [maxLen], rfl, rfl⟩⟩
 have HBX2 := Lib.hid (HBX1.out.nb (NB.below (gr_alloc (gr_refl w1) (.cells #[.int .u8 (k : Int)] 5))))
 have r1 := HBX2.out.c1
 have OB0 := Lib.hid ob1
 have BW0 := Lib.hid bw1
 clear hb1 HX HBX HBX1 bw1 ob1 hs1
 go_wp2_with fail
 generalize w1.alloc (.cells #[.int .u8 (k : Int)] 5) = W0 at *
 clear r0 r1
 refine (Add64_any none 0 0 [] _ (tx) (BR.none_ _ _) (by omega) (by omega)).mono ?_
 rintro e X0 ⟨vx0, rfl, obx0, hbx0⟩
 rw [List.nil_append] at obx0
 obtain ⟨Ax0, cx0, rfl, brx0, _, _⟩ := obx0.formN (n := 8) (leB_length _ _)
 have OBa0 := Lib.hid (OB0.out.below hbx0)
 have BWa0 := Lib.hid (BW0.out.trans (hbx0.mono BW0.out.size))
 have BRa0 := Lib.hid brx0
 have HBX2a0 := Lib.hid (HBX2.out.nb (NB.below hbx0))
 clear obx0 hbx0 brx0 OB0 BW0 HBX2
 go_wp2_with (at_builtin; refine wpList_append_B _ rfl (.tmp 17) (.tmp 21) rfl rfl OBa0.out rfl (BRa0.out) (by simp) BWa0.out.size ?_; intro A1 c1 W1 L1 HL1 hq1 o1 bb1 nb1; have hl1 := Nat.le_of_eq hq1; clear hq1; have OBb1 := Lib.hid o1; have BWb1 := Lib.hid (BWa0.out.trans bb1); have HBX2a0b1 := Lib.hid (HBX2a0.out.nb nb1); clear o1 bb1 nb1; have y1 := HBX2a0b1.out.c2)
 clear OBa0 BWa0 HBX2a0
 simp only [List.length_cons, List.length_nil, Nat.zero_add] at hl1
 refine (Add16_any none 0 0 [] _ (n) (BR.none_ _ _) (by omega) (by omega)).mono ?_
 rintro e X2 ⟨vx2, rfl, obx2, hbx2⟩
 rw [List.nil_append] at obx2
 obtain ⟨Ax2, cx2, rfl, brx2, _, _⟩ := obx2.formN (n := 2) (leB_length _ _)
 have OBa2 := Lib.hid (OBb1.out.below hbx2)
 have BWa2 := Lib.hid (BWb1.out.trans (hbx2.mono BWb1.out.size))
 have BRa2 := Lib.hid brx2
 have HBX2a0b1a2 := Lib.hid (HBX2a0b1.out.nb (NB.below hbx2))
 clear obx2 hbx2 brx2 OBb1 BWb1 HBX2a0b1
 go_wp2_with (at_builtin; refine wpList_append_B _ rfl (.tmp 23) (.tmp 28) rfl rfl OBa2.out rfl (BRa2.out) (by omega) BWa2.out.size ?_; intro A3 c3 W3 L3 HL3 hq3 o3 bb3 nb3; have hl3 := Nat.le_of_eq hq3; clear hq3; have OBb3 := Lib.hid o3; have BWb3 := Lib.hid (BWa2.out.trans bb3); have HBX2a0b1a2b3 := Lib.hid (HBX2a0b1a2.out.nb nb3); clear o3 bb3 nb3; have y3 := HBX2a0b1a2b3.out.c2)
 clear OBa2 BWa2 HBX2a0b1a2
 clear y1 y3
 have y2 := HBX2a0b1a2b3.out.c2
 go_wp2_with fail
 clear y2
 have HD : Hid (L3 = UInt8.ofNat k :: (leB tx 8 ++ leB n 2)) := Lib.hid (by rw [HL3.out, HL1.out]; simp)
 have hd3 : L3.length ≤ 11 := by omega
 clear HL1 HL3 hl1 hl3 HBX2a0b1a2b3
 go_loopw [4, 6, 8, 9, 10, 33] (fun v _ _ _ _ i wr => ∃ (j : Nat) (L : List UInt8) (Av : Option Addr) (cv : Nat), j ≤ n ∧ i = .int .i64 j ∧ v = .slice Av L.length cv ∧ L.length ≤ 100 + j * 4300000000 ∧ Hid (OB wr wA.heap.size (.slice Av L.length cv) L) ∧ Hid (Below wA.heap.size wA wr) ∧ Hid (L = UInt8.ofNat k :: (leB tx 8 ++ (leB n 2 ++ encCs (cs.take j))))) (fun _ _ _ _ _ i _ => n - (intOf i).toNat)
 case atStart => exact ⟨0, L3, A3, c3, by omega, rfl, rfl, by omega, OBb3, BWb3, Lib.hid (by rw [HD.out]; simp [encCs])⟩
 case round =>
  clear OBb3 BWb3 HD hd3
  obtain ⟨j, L, Av, cv, hj, rfl, rfl, hL, OB9, BW9, HE⟩ := hrel
  by_cases hlt : j < n
  ·have t1 : decide ((j : Int) < (n : Int)) = true := by simp; omega
   have t2 : decide (j < n) = true := by simp; omega
   have hjl : j < cs.length := by rw [HLN.out]; exact hlt
   obtain ⟨g, o, B, cB, D, cD, rfl, p0, p1, p2, p3, p4, p5, p6, p7, p8⟩ := HC.out.at_ (i := j) hlt
   have HET := Lib.hid (encCs_take hjl)
   have HG := Lib.hid (G5.out (cs.getD j ch0) (ch_mem hjl))
   generalize cs.getD j ch0 = ch at *
   obtain ⟨pg, img, pps⟩ := ch
   simp only at p0 p1 p2 p3 p4 p5 p6 p7 p8
   have hg := HG.out
   obtain ⟨pgn, rfl⟩ := Int.eq_ofNat_of_zero_le hg.1
   have i1 : (0 : Int) ≤ (pgn : Int) := Int.natCast_nonneg _
   have i2 : (pgn : Int) ≤ 4294967295 := by have := hg.2.1; simp only at this; omega
   have i3 : pgn < 4294967296 := by omega
   have i4 : (0 : Int) ≤ (j : Int) := Int.natCast_nonneg _
   have i5 : (j : Int) < (n : Int) := by omega
   have i6 : pps.length ≤ 65535 := by have := hg.2.2.2.1; simp only at this; omega
   have i7 : img.length ≤ 4080 := by have := hg.2.2.1; simp only at this; omega
   have p0' := keep_of_below BW9.out p0
   have p1' := keep_of_below BW9.out p1
   have p2' := keep_of_below BW9.out p2
   have HP3 := Lib.hid p3
   have HP6 := Lib.hid p6
   have HGP := Lib.hid hg.2.2.2.2
   clear hg hjl hlt p0 p1 p2 p3 p4 p5 p6 p7 p8
   go_upto_region 9 with fail
   generalize hcb : wr.heap.size = cb at *
   have hbx := gr_alloc (gr_refl wr) (.cells #[.int .i64 (pgn : Int), .slice B img.length cB, .slice D pps.length cD] 117)
   have HCB := Lib.hid (B3.new wr (.int .i64 (pgn : Int)) (.slice B img.length cB) (.slice D pps.length cD) (t := 117) (by decide))
   rw [hcb] at HCB
   have OBd := Lib.hid (OB9.out.below hbx)
   have BWd := Lib.hid (BW9.out.trans (hbx.mono BW9.out.size))
   clear hbx hcb OB9 BW9 p0' p1' p2'
   generalize wr.alloc (.cells #[.int .i64 (pgn : Int), .slice B img.length cB, .slice D pps.length cD] 117) = Wd at *
   have c0 := HCB.out.c0
   go_wp2_with fail
   clear c0
   by_cases him : 0 < img.length
   ·have t3 : decide ((0 : Int) < (img.length : Int)) = true := decide_eq_true (by omega)
    have t4 : decide (0 < img.length) = true := decide_eq_true (by omega)
    refine (Add32_any none 0 0 [] _ (pgn) (BR.none_ _ _) (by omega) (by omega)).mono ?_
    rintro e X4 ⟨vx4, rfl, obx4, hbx4⟩
    rw [List.nil_append] at obx4
    obtain ⟨Ax4, cx4, rfl, brx4, _, _⟩ := obx4.formN (n := 4) (leB_length _ _)
    have OBa4 := Lib.hid (OBd.out.below hbx4)
    have BWa4 := Lib.hid (BWd.out.trans (hbx4.mono BWd.out.size))
    have BRa4 := Lib.hid brx4
    have HCBa4 := Lib.hid (HCB.out.nb (NB.below hbx4))
    clear obx4 hbx4 brx4 OBd BWd HCB
    go_upto_region 10 with (at_builtin; refine wpList_append_B _ rfl (.tmp 37) (.tmp 41) rfl rfl OBa4.out rfl (BRa4.out) (by omega) BWa4.out.size ?_; intro A5 c5 W5 L5 HL5 hq5 o5 bb5 nb5; have hl5 := Nat.le_of_eq hq5; clear hq5; have OBb5 := Lib.hid o5; have BWb5 := Lib.hid (BWa4.out.trans bb5); have HCBa4b5 := Lib.hid (HCBa4.out.nb nb5); clear o5 bb5 nb5)
    clear OBa4 BWa4 HCBa4
    have ym := HCBa4b5.out.c1
    go_upto_region 11 with fail
    clear ym
    have hbl6 := gr_alloc (gr_refl W5) (.cells #[.int .u8 1] 5)
    have OBl6 := Lib.hid (OBb5.out.below hbl6)
    have BWl6 := Lib.hid (BWb5.out.trans (hbl6.mono BWb5.out.size))
    have BRl6 := Lib.hid (BR.litAt W5 5 [1] #[.int .u8 1] _ 1 rfl rfl rfl)
    have HCBa4b5l6 := Lib.hid (HCBa4b5.out.nb (NB.below hbl6))
    clear hbl6 OBb5 BWb5 HCBa4b5
    go_upto_region 12 with (at_builtin; refine wpList_append_B _ rfl (.tmp 47) (.tmp 48) rfl rfl OBl6.out rfl (BRl6.out) (by omega) BWl6.out.size ?_; intro A7 c7 W7 L7 HL7 hq7 o7 bb7 nb7; have hl7 := Nat.le_of_eq hq7; clear hq7; have OBb7 := Lib.hid o7; have BWb7 := Lib.hid (BWl6.out.trans bb7); have HCBa4b5l6b7 := Lib.hid (HCBa4b5l6.out.nb nb7); clear o7 bb7 nb7)
    clear OBl6 BWl6 HCBa4b5l6
    have yb := HCBa4b5l6b7.out.c1
    have HI := Lib.hid (HP3.out.below BWb7.out)
    go_wp2_with (at_builtin; refine wpList_append_B _ rfl (.tmp 50) (.tmp 52) rfl rfl OBb7.out rfl (HI.out) (by omega) BWb7.out.size ?_; intro A8 c8 W8 L8 HL8 hq8 o8 bb8 nb8; have hl8 := Nat.le_of_eq hq8; clear hq8; have OBb8 := Lib.hid o8; have BWb8 := Lib.hid (BWb7.out.trans bb8); have HCBa4b5l6b7b8 := Lib.hid (HCBa4b5l6b7.out.nb nb8); clear o8 bb8 nb8)
    clear OBb7 BWb7 HCBa4b5l6b7
    clear HI yb
    go_roundw
    case rel => exact ⟨j + 1, L8, A8, c8, by omega, by go_num, rfl, by omega, OBb8, BWb8, Lib.hid (by rw [HL8.out, HL7.out, HL5.out, HE.out, HET.out]; unfold encC; simp only; rw [if_pos him]; simp)⟩
    case measure => simp [intOf]; omega
   ·have t3 : decide ((0 : Int) < (img.length : Int)) = false := decide_eq_false (by omega)
    have t4 : decide (0 < img.length) = false := decide_eq_false (by omega)
    refine (Add32_any none 0 0 [] _ (pgn) (BR.none_ _ _) (by omega) (by omega)).mono ?_
    rintro e X9 ⟨vx9, rfl, obx9, hbx9⟩
    rw [List.nil_append] at obx9
    obtain ⟨Ax9, cx9, rfl, brx9, _, _⟩ := obx9.formN (n := 4) (leB_length _ _)
    have OBa9 := Lib.hid (OBd.out.below hbx9)
    have BWa9 := Lib.hid (BWd.out.trans (hbx9.mono BWd.out.size))
    have BRa9 := Lib.hid brx9
    have HCBa9 := Lib.hid (HCB.out.nb (NB.below hbx9))
    clear obx9 hbx9 brx9 OBd BWd HCB
    go_upto_region 10 with (at_builtin; refine wpList_append_B _ rfl (.tmp 37) (.tmp 41) rfl rfl OBa9.out rfl (BRa9.out) (by omega) BWa9.out.size ?_; intro A10 c10 W10 L10 HL10 hq10 o10 bb10 nb10; have hl10 := Nat.le_of_eq hq10; clear hq10; have OBb10 := Lib.hid o10; have BWb10 := Lib.hid (BWa9.out.trans bb10); have HCBa9b10 := Lib.hid (HCBa9.out.nb nb10); clear o10 bb10 nb10)
    clear OBa9 BWa9 HCBa9
    have ym := HCBa9b10.out.c1
    go_upto_region 13 with fail
    clear ym
    have hbl11 := gr_alloc (gr_refl W10) (.cells #[.int .u8 0] 5)
    have OBl11 := Lib.hid (OBb10.out.below hbl11)
    have BWl11 := Lib.hid (BWb10.out.trans (hbl11.mono BWb10.out.size))
    have BRl11 := Lib.hid (BR.litAt W10 5 [0] #[.int .u8 0] _ 1 rfl rfl rfl)
    have HCBa9b10l11 := Lib.hid (HCBa9b10.out.nb (NB.below hbl11))
    clear hbl11 OBb10 BWb10 HCBa9b10
    go_upto_region 14 with (at_builtin; refine wpList_append_B _ rfl (.tmp 54) (.tmp 55) rfl rfl OBl11.out rfl (BRl11.out) (by omega) BWl11.out.size ?_; intro A12 c12 W12 L12 HL12 hq12 o12 bb12 nb12; have hl12 := Nat.le_of_eq hq12; clear hq12; have OBb12 := Lib.hid o12; have BWb12 := Lib.hid (BWl11.out.trans bb12); have HCBa9b10l11b12 := Lib.hid (HCBa9b10l11.out.nb nb12); clear o12 bb12 nb12)
    clear OBl11 BWl11 HCBa9b10l11
    have yb := HCBa9b10l11b12.out.c2
    have s1 : (0 : Int) ≤ (pps.length : Int) := Int.natCast_nonneg _
    have s2 : (pps.length : Int) ≤ 65535 := by omega
    go_wp2_with fail
    clear yb
    refine (Add16_any none 0 0 [] _ (pps.length) (BR.none_ _ _) (by omega) (by omega)).mono ?_
    rintro e X13 ⟨vx13, rfl, obx13, hbx13⟩
    rw [List.nil_append] at obx13
    obtain ⟨Ax13, cx13, rfl, brx13, _, _⟩ := obx13.formN (n := 2) (leB_length _ _)
    have OBa13 := Lib.hid (OBb12.out.below hbx13)
    have BWa13 := Lib.hid (BWb12.out.trans (hbx13.mono BWb12.out.size))
    have BRa13 := Lib.hid brx13
    have HCBa9b10l11b12a13 := Lib.hid (HCBa9b10l11b12.out.nb (NB.below hbx13))
    clear obx13 hbx13 brx13 OBb12 BWb12 HCBa9b10l11b12
    go_upto_region 15 with (at_builtin; refine wpList_append_B _ rfl (.tmp 57) (.tmp 62) rfl rfl OBa13.out rfl (BRa13.out) (by omega) BWa13.out.size ?_; intro A14 c14 W14 L14 HL14 hq14 o14 bb14 nb14; have hl14 := Nat.le_of_eq hq14; clear hq14; have OBb14 := Lib.hid o14; have BWb14 := Lib.hid (BWa13.out.trans bb14); have HCBa9b10l11b12a13b14 := Lib.hid (HCBa9b10l11b12a13.out.nb nb14); clear o14 bb14 nb14)
    clear OBa13 BWa13 HCBa9b10l11b12a13
    have yc := HCBa9b10l11b12a13b14.out.c2
    go_wp2_with fail
    clear yc
    have HD : Hid (L14 = L ++ (leB pgn 4 ++ (0 :: leB pps.length 2))) := Lib.hid (by rw [HL14.out, HL12.out, HL10.out]; simp)
    have hd3 : L14.length ≤ L.length + 7 := by omega
    clear HL10 HL12 HL14 hl10 hl12 hl14 HCBa9b10l11b12a13b14
    generalize L14 = Lm at *
    go_loopw [4, 8, 9, 10, 67] (fun v _ _ _ i wr => ∃ (q : Nat) (M : List UInt8) (Am : Option Addr) (cm : Nat), q ≤ pps.length ∧ i = .int .i64 q ∧ v = .slice Am M.length cm ∧ M.length ≤ Lm.length + 65540 * q ∧ Hid (OB wr wA.heap.size (.slice Am M.length cm) M) ∧ Hid (Below wA.heap.size wA wr) ∧ Hid (M = Lm ++ encPs (pps.take q))) (fun _ _ _ _ i _ => pps.length - (intOf i).toNat)
    case atStart => exact ⟨0, Lm, A14, c14, by omega, rfl, rfl, by omega, OBb14, BWb14, Lib.hid (by simp [encPs])⟩
    case round =>
     clear OBb14 BWb14
     obtain ⟨q, M, Am, cm, hq, rfl, rfl, hM, OBm, BWm, HM⟩ := hrel
     by_cases hlt : q < pps.length
     ·have u1 : decide ((q : Int) < (pps.length : Int)) = true := decide_eq_true (by omega)
      have u2 : decide (q < pps.length) = true := decide_eq_true hlt
      obtain ⟨gp, op, Bp, cp, rfl, p0, p1, p2, p3, p4⟩ := HP6.out.at_ (i := q) hlt
      have HPT := Lib.hid (encPs_take hlt)
      have hg := HGP.out (pps.getD q (0, [])) (pc_mem hlt)
      generalize pps.getD q (0, []) = pc at *
      obtain ⟨pa, pl⟩ := pc
      simp only at p0 p1 p2 p3 p4
      obtain ⟨pan, rfl⟩ := Int.eq_ofNat_of_zero_le hg.1
      have v1 : (0 : Int) ≤ (pan : Int) := Int.natCast_nonneg _
      have v2 : (pan : Int) ≤ 65535 := by have := hg.2.1; simp only at this; omega
      have v3 : pl.length ≤ 65535 := by have := hg.2.2; simp only at this; omega
      have v4 : (0 : Int) ≤ (q : Int) := Int.natCast_nonneg _
      have v5 : (q : Int) < (pps.length : Int) := by omega
      have p0' := keep_of_below BWm.out p0
      have p1' := keep_of_below BWm.out p1
      have HPB := Lib.hid p2
      clear hg hlt p0 p1 p2 p3 p4
      go_upto_region 18 with fail
      generalize hpb : wr.heap.size = pb at *
      have hbx := gr_alloc (gr_refl wr) (.cells #[.int .i64 (pan : Int), .slice Bp pl.length cp] 199)
      have HP2 := Lib.hid (B2.new wr (.int .i64 (pan : Int)) (.slice Bp pl.length cp) (t := 199) (by decide))
      rw [hpb] at HP2
      have OBn := Lib.hid (OBm.out.below hbx)
      have BWn := Lib.hid (BWm.out.trans (hbx.mono BWm.out.size))
      clear hbx hpb OBm BWm p0' p1'
      generalize wr.alloc (.cells #[.int .i64 (pan : Int), .slice Bp pl.length cp] 199) = Wn at *
      have z0 := HP2.out.c0
      have z1 := HP2.out.c1
      have HPC := Lib.hid (HPB.out.below BWn.out)
      have wq : IntKind.u16.wrap (pan : Int) = (pan : Int) := IntWalk.u16_in _ ⟨v1, v2⟩
      go_region_held3 (fun W => W.cell? ⟨pb, 0, none⟩ = some (.int .i64 (pan : Int)) ∧ W.cell? ⟨pb, 1, none⟩ = some (.slice Bp pl.length cp))
       (first | exact ⟨z0, z1⟩ | exact ⟨keep_of_below hx1 z0, keep_of_below hx1 z1⟩ | exact ⟨keep_of_below hx2 (keep_of_below hx1 z0), keep_of_below hx2 (keep_of_below hx1 z1)⟩)
       (first
        | (go_at_call 133; refine (Add16_any none 0 0 [] _ pan (BR.none_ _ _) (by omega) (by omega)).mono ?_; rintro e x1 ⟨vx, rfl, ox1, hx1⟩; rw [List.nil_append] at ox1; obtain ⟨Ax, cx, rfl, brx, _, _⟩ := ox1.formN (n := 2) (leB_length _ _))
        | (go_at_call 134; refine (AddPart_fits _ _ 2 _ pl.length _ (leB pan 2) pl _ brx (HPC.out.drew.below hx1) (by omega) (by omega)).mono ?_; rintro e x2 ⟨vy, rfl, ox2, hx2⟩))
      have hxx := gr_trans (bel_drew hx1) hx2
      obtain ⟨Ay, cy, rfl, bry, _, _⟩ := ox2.form
      have OBo := Lib.hid (OBn.out.below hxx)
      have BWo := Lib.hid (BWn.out.trans (hxx.mono BWn.out.size))
      have BRo := Lib.hid bry
      have ly : (leB pan 2 ++ leB pl.length 2 ++ pl).length ≤ 65539 := by rw [List.length_append, List.length_append, leB_length, leB_length]; omega
      have HLY : Hid (leB pan 2 ++ leB pl.length 2 ++ pl = encP ((pan : Int), pl)) := Lib.hid (by unfold encP; simp)
      clear wq hx1 hx2 hxx brx bry ox1 ox2 OBn BWn HP2 z0 z1 HPC
      generalize leB pan 2 ++ leB pl.length 2 ++ pl = ep at *
      go_wp2_with (at_builtin; refine wpList_append_B _ rfl (.tmp 84) (.tmp 85) rfl rfl OBo.out rfl BRo.out (by omega) BWo.out.size ?_; intro A9 c9 W9 L9 HL9 hq9 o9 bb9 nb9; have hl9 := Nat.le_of_eq hq9; clear hq9; have OB9 := Lib.hid o9; have BW9 := Lib.hid (BWo.out.trans bb9); clear o9 bb9 nb9)
      go_roundw
      case rel => exact ⟨q + 1, L9, A9, c9, by omega, by go_num, rfl, by omega, OB9, BW9, Lib.hid (by rw [HL9.out, HM.out, HPT.out, HLY.out]; simp)⟩
      case measure => simp [intOf]; omega
     ·obtain rfl : q = pps.length := by omega
      have u1 : decide ((pps.length : Int) < (pps.length : Int)) = false := decide_eq_false (by omega)
      have u2 : decide (pps.length < pps.length) = false := decide_eq_false (by omega)
      go_wp2_with fail
      go_roundw
      case rel => exact ⟨j + 1, M, Am, cm, by omega, by go_num, rfl, by omega, OBm, BWm, Lib.hid (by rw [HM.out, HD.out, HE.out, HET.out]; unfold encC; simp only; rw [if_neg him, List.take_length]; simp)⟩
      case measure => simp [intOf]; omega
  ·obtain rfl : n = j := by omega
   have t1 : decide ((n : Int) < (n : Int)) = false := decide_eq_false (by omega)
   have t2 : decide (n < n) = false := decide_eq_false (by omega)
   have hL2 : L.length ≤ 68800000100 := by omega
   have l0 : (0 : Int) ≤ (L.length : Int) := Int.natCast_nonneg _
   have HBL : Hid (L = encB ⟨k, tx, cs⟩) := Lib.hid (by
    rw [HE.out, List.take_of_length_le (Nat.le_of_eq HLN.out), ← HLN.out]
    unfold encB
    simp)
   have hL3 : L.length ≤ 400000 := by rw [HBL.out]; exact HSM.out
   have l1 : (L.length : Int) ≤ 4294967295 := by omega
   clear HE hL
   go_wp2_with fail
   refine (Add32_any none 0 0 [] _ L.length (BR.none_ _ _) (by omega) (by omega)).mono ?_
   rintro e x5 ⟨v5, rfl, ob5, hb5⟩
   rw [List.nil_append] at ob5
   obtain ⟨A5, c5, rfl, br5, _, _⟩ := ob5.formN (n := 4) (leB_length _ _)
   have OB5 := Lib.hid ob5
   obtain ⟨A7, c7, e7, br7, _, _⟩ := (OB9.out.below hb5).form
   injection e7 with e7 _ e8
   subst e7 e8
   have BR7 := Lib.hid br7
   have BW5 := Lib.hid (BW9.out.trans (hb5.mono BW9.out.size))
   have HSZ := Lib.hid (hb5.size)
   clear ob5 br5 br7 hb5 OB9
   go_wp2_with (at_builtin; refine wpList_append_B _ rfl (.tmp 92) (.tmp 93) rfl rfl OB5.out rfl BR7.out (by rw [leB_length]; omega) HSZ.out ?_; intro A9 c9 W9 L9 HL9 hq9 o9 bb9 nb9; clear hq9 nb9)
   go_ret2
   refine ⟨_, rfl, ?_, ?_⟩
   ·have hL9 : L9 = encR ⟨k, tx, cs⟩ := by
     rw [HL9.out, HBL.out]
     rfl
    rw [← hL9]
    exact o9.lower (Nat.le_trans HBA.out.size BW9.out.size)
   ·exact (HBA.out.trans (BW5.out.mono HBA.out.size)).trans (bb9.mono (Nat.le_trans HBA.out.size BW9.out.size))
end Go.Proofs.YtnkeclpgpiogoaaGreat

/-! RdH -/
namespace Go.Proofs.YtnkeclpgpiogoaaGreat
open Go.RowKit
set_option maxRecDepth 100000 in
theorem Encode_any (k : Nat) (tx : Int) (A : Option Addr) (n d : Nat) (cs : List Ch) (w : World) (hc : CR w A n cs) (hn : n ≤ 9223372036854775807) (hpb : ∀ c ∈ cs, ∀ p ∈ c.2.2, p.1 ≤ 9223372036854775807) :
  Calls Tryz.prog 108 #[.agg #[.int .u8 (k : Int), .int .i64 tx, .slice A n d]] w fun e w' => ∃ v, e = .returned (.tuple #[v, .int .i64 (encE ⟨k, tx, cs⟩ : Int)]) ∧ OB w' w.heap.size v (encL ⟨k, tx, cs⟩) ∧ Below w.heap.size w w' := by
 cases hr : (Rec.mk k tx cs).right with
 | false =>
  refine (Encode_no (k : Int) tx A n d cs w hc hn hpb hr).mono ?_
  rintro e w' ⟨rfl, hb⟩
  unfold encE encL
  rw [hr]
  exact ⟨_, rfl, OB.nil _ _, hb⟩
 | true =>
  have g := (right_good hr).2.1
  obtain ⟨t, rfl⟩ := Int.eq_ofNat_of_zero_le g
  refine (Encode_yes k t A n d cs w hc hpb hr).mono ?_
  rintro e w' ⟨v, rfl, ho, hb⟩
  unfold encE encL
  rw [hr]
  exact ⟨v, rfl, ho, hb⟩
def rcs : List (Int × Int × Value) → List Value
 | [] => []
 | p :: ps => .int .u8 p.1 :: .int .i64 p.2.1 :: p.2.2 :: rcs ps
set_option maxRecDepth 100000 in
theorem rcs_length (ps : List (Int × Int × Value)) : (rcs ps).length = ps.length * 3 := by
 induction ps with
 | nil => rfl
 | cons p ps ih => simp only [rcs, List.length_cons, ih]; omega
set_option maxRecDepth 100000 in
theorem rcs_append (ps qs : List (Int × Int × Value)) : rcs (ps ++ qs) = rcs ps ++ rcs qs := by
 induction ps with
 | nil => rfl
 | cons p ps ih => simp only [List.cons_append, rcs, ih]
def ORW (w : World) (base : Nat) (v : Value) (rs : List Rec) : Prop :=
 ∃ us : List (Int × Int × Value), w.ownsRow base 114 3 v rs.length (rcs us) ∧ us.length = rs.length ∧ ∀ (i : Nat) (p : Rec) (q : Int × Int × Value), rs[i]? = some p → us[i]? = some q → q.1 = (p.kind : Int) ∧ q.2.1 = p.tx ∧ OCW w base q.2.2 p.cs
section
variable {w w' w4 : World} {base : Nat} {v v4 : Value} {rs : List Rec}
set_option maxRecDepth 100000 in
theorem ORW.nil (w : World) (base : Nat) : ORW w base (.slice none 0 0) [] := ⟨[], ⟨rfl, .inl ⟨rfl, rfl⟩⟩, rfl, fun i p q h => by simp at h⟩
set_option maxRecDepth 100000 in
theorem ORW.below (h : ORW w base v rs) (hb : Below w.heap.size w w') : ORW w' base v rs := by
 obtain ⟨us, h1, h2, h3⟩ := h
 exact ⟨us, ownsRow_off (S := fun _ => False) h1 (Off.of_below hb) (fun _ _ h => h), h2, fun i p q hp hq => ⟨(h3 i p q hp hq).1, (h3 i p q hp hq).2.1, (h3 i p q hp hq).2.2.below hb⟩⟩
set_option maxRecDepth 100000 in
theorem ORW.lower {b : Nat} (h : ORW w base v rs) (hb : b ≤ base) : ORW w b v rs := by
 obtain ⟨us, h1, h2, h3⟩ := h
 exact ⟨us, own_lower h1 hb, h2, fun i p q hp hq => ⟨(h3 i p q hp hq).1, (h3 i p q hp hq).2.1, (h3 i p q hp hq).2.2.lower hb⟩⟩
set_option maxRecDepth 100000 in
theorem ORW.push {us : List (Int × Int × Value)} (h2 : us.length = rs.length) (h3 : ∀ (i : Nat) (p : Rec) (q : Int × Int × Value), rs[i]? = some p → us[i]? = some q → q.1 = (p.kind : Int) ∧ q.2.1 = p.tx ∧ OCW w base q.2.2 p.cs) {k : Nat} {tx : Int} {u : Value} {cs : List Ch} (hu : OCW w base u cs) (hg : w.grownBy w4 v.ownBlock) (hv : ∀ k, v.ownBlock = some k → ∃ cur, w.heap[k]? = some (.cells cur 114 (0, 0)))
  (ho : w4.ownsRow base 114 3 v4 (rs.length + 1) (rcs us ++ [.int .u8 (k : Int), .int .i64 tx, u])) : ORW w4 base v4 (rs ++ [⟨k, tx, cs⟩]) := by
 have o : Off (fun k => v.ownBlock = some k) w w4 := Off.of_grown hg (fun _ e => e)
 have t1 : ∀ {x : Value} {m : List Ch}, OCW w base x m → OCW w4 base x m := fun {x m} hx => hx.ty o (fun k e => by
  obtain ⟨c2, e2⟩ := hv k e
  exact ⟨_, _, _, e2, by decide, by decide, by decide⟩)
 refine ⟨us ++ [((k : Int), tx, u)], ?_, by rw [List.length_append, List.length_append, h2]; rfl, fun i p q hp hq => ?_⟩
 ·rw [List.length_append, rcs_append]
  exact ho
 ·rcases Nat.lt_or_ge i rs.length with hi | hi
  ·rw [List.getElem?_append_left hi] at hp
   rw [List.getElem?_append_left (by rw [h2]; exact hi)] at hq
   obtain ⟨h4, h5, h6⟩ := h3 i p q hp hq
   exact ⟨h4, h5, t1 h6⟩
  ·rw [List.getElem?_append_right hi] at hp
   rw [List.getElem?_append_right (by rw [h2]; exact hi), h2] at hq
   obtain h0 | h0 : i - rs.length = 0 ∨ 1 ≤ i - rs.length := by omega
   ·rw [h0] at hp hq
    simp at hp hq
    subst hp hq
    exact ⟨rfl, rfl, t1 hu⟩
   ·rw [List.getElem?_eq_none (by simpa using h0)] at hp
    cases hp
end
/-! Plain: All. -/
def allF : Nat → List Rec → List UInt8 → List Rec × Nat
 | 0, acc, _ => (acc, 0)
 | f + 1, acc, b => if b = [] then (acc, 0) else if decE b ≠ 0 then ([], decE b) else allF f (acc ++ [decR b]) (b.drop (decN b))
def allR (b : List UInt8) : List Rec := (allF b.length [] b).1
def allE (b : List UInt8) : Nat := (allF b.length [] b).2
set_option maxRecDepth 100000 in
theorem decN_le {b : List UInt8} (h : decE b = 0) : 4 ≤ decN b ∧ decN b ≤ b.length := by
 unfold decE at h
 unfold decN
 split at h
 ·omega
 ·rename_i hs
  rw [if_neg hs]
  split at h
  ·rename_i hf
   rw [if_pos hf]
   unfold short at hs
   omega
  ·omega
set_option maxRecDepth 100000 in
theorem allF_step {f : Nat} {acc : List Rec} {b : List UInt8} (hl : b.length ≤ f) (h0 : b ≠ []) : allF f acc b = if decE b ≠ 0 then ([], decE b) else allF (f - 1) (acc ++ [decR b]) (b.drop (decN b)) := by
 cases f with
 | zero => exact absurd (List.eq_nil_of_length_eq_zero (by omega)) h0
 | succ f =>
  show (if b = [] then (acc, 0) else _) = _
  rw [if_neg h0]
  rfl
set_option maxRecDepth 100000 in
theorem allF_nil (f : Nat) (acc : List Rec) : allF f acc [] = (acc, 0) := by
 cases f with
 | zero => rfl
 | succ f => show (if ([] : List UInt8) = [] then (acc, 0) else _) = _; rw [if_pos rfl]
set_option maxRecDepth 100000 in
theorem info_record : (Tryz.prog.info? 114).map (fun i => (i.zero, i.size, i.bytes)) = some (some (.agg #[.int .u8 0, .int .i64 0, .slice none 0 0]), 3, 40) := by kernel_rfl
set_option maxRecDepth 100000 in
set_option maxHeartbeats 4000000 in
theorem All_any (A : Option Addr) (n c : Nat) (b : List UInt8) (w : World) (hb : BR w A n b) (hn : n ≤ 1073741824) (hnc : n ≤ c) (hc : c ≤ 9223372036854775807) :
  Calls Tryz.prog 120 #[.slice A n c] w fun e w' => ∃ v, e = .returned (.tuple #[v, .int .i64 (allE b : Int)]) ∧ ORW w' w.heap.size v (allR b) ∧ Below w.heap.size w w' := by
 obtain ⟨i0, hi0, hz0, hz1, hz2⟩ := info_parts info_u8
 obtain ⟨i1, hi1, hy0, hy1, hy2⟩ := info_parts info_record
 have HL := Lib.hid hb.len
 have HFA : Hid (allF b.length [] b = (allR b, allE b)) := Lib.hid rfl
 generalize allR b = ar at *
 generalize allE b = ae at *
 go_enter Tryz.func120, Tryz.ntmps120
 go_wp2_with fail
 go_loopw [0, 2, 3, 4, 5, 6, 7] (fun bv _ _ v _ _ _ wr => ∃ (f : Nat) (acc : List Rec) (b' : List UInt8) (A' : Option Addr) (n' c' : Nat) (Av : Option Addr) (cv : Nat), bv = .slice A' n' c' ∧ BR w A' n' b' ∧ n' ≤ c' ∧ c' ≤ 9223372036854775807 ∧ n' ≤ f ∧ acc.length + n' ≤ n ∧ v = .slice Av acc.length cv ∧ Hid (ORW wr w.heap.size (.slice Av acc.length cv) acc) ∧ Hid (Below w.heap.size w wr) ∧ Hid (allF f acc b' = (ar, ae))) (fun bv _ _ _ _ _ _ _ => match bv with | .slice _ k _ => k | _ => 0)
 case atStart => exact ⟨b.length, [], b, A, n, c, none, 0, rfl, hb, hnc, hc, by rw [HL.out]; exact Nat.le_refl _, by simp, rfl, Lib.hid (ORW.nil _ _), Lib.hid (gr_refl _), HFA⟩
 case round =>
  clear hb HFA HL
  obtain ⟨f, acc, b', A', n', c', Av, cv, rfl, hb', hnc', hc', hnf, hacc, rfl, HOR, HBW, HE⟩ := hrel
  have hl := hb'.len
  by_cases h0 : 0 < n'
  ·have t1 : decide ((0 : Int) < (n' : Int)) = true := decide_eq_true (by omega)
   have t2 : decide (0 < n') = true := decide_eq_true h0
   have hne : b' ≠ [] := fun e => by rw [e] at hl; simp at hl; omega
   have hst := allF_step (f := f) (acc := acc) (b := b') (by omega) hne
   have HD := Decode_any A' n' c' b' wr (hb'.below HBW.out) (by omega) hnc' hc'
   have HB := Lib.hid hb'
   have HE' := HE.out
   rw [hst] at HE'
   by_cases hde : decE b' = 0
   ·have hdn := decN_le hde
    rw [hde] at HD
    rw [hde, if_neg (by simp)] at HE'
    have hcut := fun W => run_cut_l (P := Tryz.prog) W 35 5 i0 Tryz.underlying35 hi0 1 hz1 A' n' c' (decN b' : Int) (decN b') rfl (by omega)
    generalize decN b' = dn at *
    generalize decR b' = dr at *
    obtain ⟨kd, tx, cs⟩ := dr
    simp only at HD
    have HX := Lib.hid HD
    have HE2 := Lib.hid HE'
    have HBN := Lib.hid (BR.cut hb' (k := dn) (j := n') (c := c') (by omega) (Nat.le_refl _) hnc')
    have hld : (b'.drop dn).take (n' - dn) = b'.drop dn := List.take_of_length_le (by rw [List.length_drop]; omega)
    rw [hld] at HBN
    have d1 : (0 : Int) ≤ (dn : Int) := Int.natCast_nonneg _
    have d2 : (dn : Int) ≤ (n' : Int) := by omega
    clear HD HE HE' hst hne hde hb' hld
    go_wp2_with fail
    refine HX.out.mono ?_
    rintro e w5 ⟨v5, rfl, oc5, hb5⟩
    obtain ⟨A5, c5, rfl, _, _, _⟩ := oc5.cr
    have hbw5 := gr_trans HBW.out hb5
    have oc5' := oc5.lower HBW.out.size
    have or5 := HOR.out.below hb5
    clear HX hb5 oc5 HOR HBW
    go_upto_region 6 with fail
    have hb6 := gr_alloc (gr_refl w5) (.cells #[.int .u8 (kd : Int), .int .i64 tx, .slice A5 cs.length c5] 114)
    have hbx := B3.new w5 (.int .u8 (kd : Int)) (.int .i64 tx) (.slice A5 cs.length c5) (t := 114) (by decide)
    have hbw6 := gr_trans hbw5 hb6
    have oc6 := oc5'.below hb6
    have or6 := or5.below hb6
    generalize hvb : w5.heap.size = vb at *
    clear hb6 hbw5 oc5' or5 hvb
    generalize w5.alloc (.cells #[.int .u8 (kd : Int), .int .i64 tx, .slice A5 cs.length c5] 114) = w6 at *
    have q0 := hbx.c0
    have q1 := hbx.c1
    have q2 := hbx.c2
    have hb7 := gr_alloc (gr_refl w6) (.cells #[.int .u8 (kd : Int), .int .i64 tx, .slice A5 cs.length c5] 114)
    have HBW7 := Lib.hid (gr_trans hbw6 hb7)
    have HOC7 := Lib.hid (oc6.below hb7)
    obtain ⟨us, r1, r2, r3⟩ := or6.below hb7
    have HR1 := Lib.hid r1
    have HR2 := Lib.hid r2
    have HR3 := Lib.hid r3
    have hsz := hbw6.size
    clear hb7 hbw6 oc6 or6 r1 r2 r3 hbx
    go_wp2_with (at_builtin; refine wpList_append_Rd _ rfl (.tmp 20) (.tmp 22) _ rfl w.heap.size 114 i1 _ 3 40 Tryz.underlying62 hi1 hy0 hy1 hy2 rfl (.slice Av acc.length cv) acc.length (rcs us) rfl HR1.out (some ⟨w6.heap.size, 0, none⟩) 1 1 [.int .u8 (kd : Int), .int .i64 tx, .slice A5 cs.length c5] rfl (Rd.new w6 _ #[.int .u8 (kd : Int), .int .i64 tx, .slice A5 cs.length c5] 1 3 rfl) (by simp [Value.oneCell']) (by omega) (by simp only [maxLen]; omega) (by rw [World.size_alloc]; omega) ?_; intro v8 w8 ho8 hg8 _ _; have HO8 := Lib.hid ho8; have HG8 := Lib.hid hg8; obtain ⟨A8, c8, rfl, _, _⟩ := own_form ho8; clear ho8 hg8)
    have or8 := ORW.push HR2.out HR3.out HOC7.out HG8.out (fun k hk => own_blk HR1.out hk) HO8.out
    have bw8 := gr_own HBW7.out HR1.out HG8.out
    go_roundw
    case rel => exact ⟨f - 1, acc ++ [⟨kd, tx, cs⟩], b'.drop dn, cutA A' c' dn 1, n' - dn, c' - dn, A8, c8, rfl, HBN.out, by omega, by omega, by omega, by rw [List.length_append]; simp; omega, by rw [List.length_append]; rfl, Lib.hid (by rw [List.length_append]; exact or8), Lib.hid bw8, HE2⟩
    case measure => simp; omega
   ·rw [if_pos hde] at HE'
    injection HE' with h1 h2
    have hde2 : ((decE b' : Int) != 0) = true := by simp; exact hde
    have HAR : Hid (ar = []) := Lib.hid h1.symm
    have HAE : Hid (ae = decE b') := Lib.hid h2.symm
    clear h1 h2
    generalize decE b' = de at *
    generalize decN b' = dn at *
    generalize decR b' = dr at *
    obtain ⟨kd, tx, cs⟩ := dr
    simp only at HD
    have HX := Lib.hid HD
    clear HD HE hst hne hde hb'
    go_wp2_with fail
    refine HX.out.mono ?_
    rintro e w5 ⟨v5, rfl, oc5, hb5⟩
    obtain ⟨A5, c5, rfl, _, _, _⟩ := oc5.cr
    have hbw5 := gr_trans HBW.out hb5
    clear HX hb5 oc5 HOR HBW
    go_wp2_with fail
    go_ret2
    rw [HAR.out, HAE.out]
    exact ⟨.slice none 0 0, rfl, ORW.nil _ _, gr_alloc hbw5 _⟩
  ·obtain rfl : n' = 0 := by omega
   have t1 : decide ((0 : Int) < ((0 : Nat) : Int)) = false := rfl
   have hnil : b' = [] := List.eq_nil_of_length_eq_zero hl
   subst hnil
   have hE := HE.out
   rw [allF_nil] at hE
   injection hE with h1 h2
   subst h1 h2
   clear hb' hl HE
   go_wp2_with fail
   go_ret2
   exact ⟨_, rfl, HOR.out, HBW.out⟩
end Go.Proofs.YtnkeclpgpiogoaaGreat

/-! Rf -/
namespace Go.Proofs.YtnkeclpgpiogoaaGreat
open Go.RowKit
def goesOn {σ : Type} (B : Nat) (Kp : World → World → Prop) (I : σ → World → Prop) (s : σ) (W : World) : Exit → Act → World → Prop
 | .normal, _, W' => KeepsFrom B W W' ∧ Kp W W' ∧ I s W'
 | _, _, _ => False
set_option maxRecDepth 100000 in
theorem rangeFunc_rounds {F : Fence} {n : Nat} {P : Program} {g : Operand} {ps : Array Tmp} {assign body : Code} {Q : Exit → Act → World → Prop} {a : Act} {w : World}
  (hro : F.round = none) (h1 : 1 ≤ n) {gf : Nat} {lb : Array Value} (hg : a.eval g = .func (.func gf) #[] lb) (hFg : F.fn gf) (eg : ∀ args w, (callFunc gf args).run P w = .ok (.enter gf args) w)
  {α : Type} {encs : α → Array Value} (xs : List α) {Kp : World → World → Prop}
  (hKt : ∀ {A B C : World}, Kp A B → Kp B C → Kp A C) (hput : ∀ (W : World) (l : Nat) (o o' : Obj), w.heap.size ≤ l → W.heap[l]? = some o → o.isCells = false → Kp W (W.putObj l o'))
  (hseq : ∀ (l : Nat) (J : Nat → World → Prop) (W : World), Below w.heap.size w W → (∀ k W m, J k W → J k (World.drewN W m)) →
   (∀ k x W1, xs[k]? = some x → J k W1 → YieldAt F (n - 1 - 1) P l (encs x) W1 fun e W' => e = .returned (.bool true) ∧ J (k + 1) W' ∧ Kp W1 W') →
   J 0 W → CallsIn F (n - 1) P gf (#[.func (.yield l) #[] #[]] ++ lb) W fun e W' => (∃ v, e = .returned v) ∧ J xs.length W')
  (hps : ∀ x, (encs x).size = ps.size)
  (I : Nat → World → Prop) (hI : OwnFrom w.heap.size I) (h0 : I 0 w) (a₁ : α → Act)
  (hassign : ∀ (l : Nat) (x : α) (W : World) (K : Act → World → Prop), K (a₁ x) W →
   assign.wpIn (F.inRound l) (n - 1 - 1) P (Exit.then K (fun _ _ _ => False)) { tmps := (ps.zip (encs x)).foldl (fun t (p, v) => t.setIfInBounds p v) a.tmps, defers := [] } W)
  (hbody : ∀ (l k : Nat) (x : α) (W : World), xs[k]? = some x → I k W → body.wpIn (F.inRound l) (n - 1 - 1) P (goesOn w.heap.size Kp I (k + 1) W) (a₁ x) W)
  (hdone : ∀ (D : Nat) (W : World), w.heap.size ≤ D → I xs.length W → W.heap[D]? = some (.deferred (some [])) → Q .normal { a with defers := { target := .collected D, args := #[] } :: a.defers } W) :
  (Code.rangeFunc g ps assign body).wpIn F n P Q a w := by
 refine wpIn_rangeFunc ?_
 intro fn hfn
 rw [hro]
 obtain ⟨rec, hrec⟩ : ∃ rec : LoopState → Option Code → Loop, rec = fun st pe => { state := st, pending := pe, fn, tmps := a.tmps, params := ps, assign, body, defers := w.heap.size } := ⟨_, rfl⟩
 obtain ⟨W1, hW1⟩ : ∃ W1, (w.alloc (.deferred (some []))).alloc (.loop (rec .ready none)) = W1 := ⟨_, rfl⟩
 have hL1 : W1.heap[w.heap.size + 1]? = some (.loop (rec .ready none)) := by
  rw [← hW1]; have := World.alloc_heap_new (w.alloc (.deferred (some []))) (.loop (rec .ready none)); rwa [World.size_alloc] at this
 have hK1 : W1.heap[w.heap.size]? = some (.deferred (some [])) := by
  rw [← hW1]; exact (Below.heap_alloc _ _ _ (by simp)).trans (World.alloc_heap_new w _)
 have hI1 : I 0 W1 := by rw [← hW1]; exact hI.alloc _ (hI.alloc _ h0)
 have hb1 : Below w.heap.size w W1 := by
  rw [← hW1]; exact ((Below.refl _ w).alloc (Nat.le_refl _) _).alloc (by simp) _
 refine ⟨w.heap.size + 1, [{ target := .collected w.heap.size, args := #[] }], W1, { target := .fn (.func gf) lb, args := #[.func (.yield (w.heap.size + 1)) #[] #[]] }, W1, gf,
  #[.func (.yield (w.heap.size + 1)) #[] #[]] ++ lb, W1, ?_, ?_, ?_, ?_, fun _ => h1, ?_⟩
 ·rw [← hW1, hrec]; exact run_enterLoop_outer _ _ _ _ _
 ·simp only [resolve, hg]
  simp [go_sem]
 ·intro f' hf'; simp [Target.leads] at hf'; subst hf'; exact hFg
 ·simp [invoke, go_sem, eg]
 ·refine (hseq (w.heap.size + 1)
   (fun k W => I k W ∧ W.heap[w.heap.size + 1]? = some (.loop (rec .ready none)) ∧ W.heap[w.heap.size]? = some (.deferred (some [])))
   W1 hb1 (fun k W _ ⟨h1, h2, h3⟩ => ⟨hI k W _ none h1 ⟨rfl, rfl, rfl, Nat.le_refl _, fun _ _ _ => rfl⟩ (fun r e => by cases e), h2, h3⟩) ?_ ⟨hI1, hL1, hK1⟩).mono ?_
  ·rintro k x W hx ⟨hi, hl, hk⟩
   have hlt : w.heap.size + 1 < W.heap.size := (Array.getElem?_eq_some_iff.1 hl).1
   have hy := run_yield (P := P) (args := encs x) hl (by rw [hrec]; exact hps x)
   rw [hrec] at hy
   refine ⟨fn, _, assign, body, hy, roundIn_of_wpIn hfn (hassign _ x W _ ⟨_, run_beginRound hl (by rw [hrec]), ?_⟩)⟩
   have hl2 : (W.putObj (w.heap.size + 1) (.loop { rec .ready none with state := .busy })).heap[w.heap.size + 1]? = some (.loop { rec .ready none with state := .busy }) := World.putObj_heap_same hlt
   have hk2 : (W.putObj (w.heap.size + 1) (.loop { rec .ready none with state := .busy })).heap[w.heap.size]? = some (.deferred (some [])) := (World.putObj_heap_other (by omega)).trans hk
   have hw2 : Kp W (W.putObj (w.heap.size + 1) (.loop { rec .ready none with state := .busy })) := hput _ _ _ _ (by omega) hl rfl
   refine wpIn_mono (hbody _ k x _ hx (hI.putObj _ hi (by omega) hl rfl)) ?_
   rintro e a3 W3 hp
   cases e with
   | normal =>
    obtain ⟨hk3, hkp3, hi3⟩ := hp
    have hl3 := hk3.same _ _ (by omega) hl2 rfl
    have hr := run_endRound (P := P) none hl3
    rw [hrec] at hr
    have hl4 := World.putObj_heap_same (o := .loop (rec .ready none)) (Array.getElem?_eq_some_iff.1 hl3).1
    have hk4 : (W3.putObj (w.heap.size + 1) (.loop (rec .ready none))).heap[w.heap.size]? = some (.deferred (some [])) := (World.putObj_heap_other (by omega)).trans (hk3.same _ _ (Nat.le_refl _) hk2 rfl)
    have hi4 := hI.putObj (.loop (rec .ready none)) hi3 (by omega) hl3 rfl
    have hb4 := hput W3 _ _ (.loop (rec .ready none)) (by omega) hl3 rfl
    refine ⟨_, _, hr, rfl, ?_, hKt (hKt hw2 hkp3) ?_⟩
    ·rw [hrec] at hl4 hk4 hi4 ⊢
     exact ⟨hi4, hl4, hk4⟩
    ·rw [hrec] at hb4
     exact hb4
   | _ => exact hp.elim
  ·rintro e W2 ⟨⟨v, rfl⟩, hi, hl, hk⟩
   exact ⟨none, _, by have := run_endLoop (P := P) hl (by rw [hrec]; simp); rw [hrec] at this; exact this, hdone _ _ (Nat.le_refl _) (hI.putObj _ hi (by omega) hl rfl) ((World.putObj_heap_other (by omega)).trans hk)⟩
end Go.Proofs.YtnkeclpgpiogoaaGreat

/-! DfA -/
namespace Go.Proofs.YtnkeclpgpiogoaaGreat
open Go.RowKit
attribute [local go_sem] Oper.semAt_some
def unlTo (a b : List UInt8) (m : Nat) : List Nat := (List.range m).filter fun i => a.getD i 0 != b.getD i 0
set_option maxRecDepth 100000 in
theorem unlTo_succ_eq {a b : List UInt8} {i : Nat} (h : a.getD i 0 = b.getD i 0) : unlTo a b (i + 1) = unlTo a b i := by
 simp only [unlTo, List.range_succ, List.filter_append]
 simp only [List.filter_cons, List.filter_nil, h, bne_self_eq_false, Bool.false_eq_true, if_false, List.append_nil]
set_option maxRecDepth 100000 in
theorem unlTo_succ_ne {a b : List UInt8} {i : Nat} (h : a.getD i 0 ≠ b.getD i 0) : unlTo a b (i + 1) = unlTo a b i ++ [i] := by
 have h' : (a.getD i 0 != b.getD i 0) = true := by simpa using h
 simp only [unlTo, List.range_succ, List.filter_append]
 simp only [List.filter_cons, List.filter_nil, h', if_true]
set_option maxRecDepth 100000 in
theorem unlTo_pre {a b : List UInt8} {i m : Nat} (h : i ≤ m) : unlTo a b i <+: unlTo a b m := by
 induction m with
 | zero =>
      obtain rfl : i = 0 := by omega
      exact List.prefix_rfl
 | succ m ih =>
  rcases Nat.lt_or_ge i (m + 1) with h1 | h1
  ·refine (ih (by omega)).trans ?_
   by_cases e : a.getD m 0 = b.getD m 0
   ·rw [unlTo_succ_eq e]; exact List.prefix_rfl
   ·rw [unlTo_succ_ne e]; exact List.prefix_append _ _
  ·obtain rfl : i = m + 1 := by omega
   exact List.prefix_rfl
set_option maxRecDepth 100000 in
theorem unlTo_at {a b : List UInt8} {i m : Nat} (hi : i < m) (h : a.getD i 0 ≠ b.getD i 0) : (unlTo a b m)[(unlTo a b i).length]? = some i := by
 obtain ⟨t, ht⟩ := unlTo_pre (a := a) (b := b) (show i + 1 ≤ m by omega)
 rw [← ht, unlTo_succ_ne h]
 simp
def Kp2 (n₀ Ba Bb : Nat) (W W' : World) : Prop := Below n₀ W W' ∧ (∀ o, W.heap[Ba]? = some o → W'.heap[Ba]? = some o) ∧ (∀ o, W.heap[Bb]? = some o → W'.heap[Bb]? = some o)
set_option maxRecDepth 100000 in
theorem Kp2.trans {n₀ Ba Bb : Nat} {A B C : World} (h : Kp2 n₀ Ba Bb A B) (k : Kp2 n₀ Ba Bb B C) : Kp2 n₀ Ba Bb A C := ⟨h.1.trans k.1, fun o e => k.2.1 o (h.2.1 o e), fun o e => k.2.2 o (h.2.2 o e)⟩
set_option maxRecDepth 100000 in
theorem toNat_ne_int (x y : UInt8) : (((x.toNat : Int) == (y.toNat : Int))) = (x == y) := by
 by_cases h : x = y
 ·subst h; rw [beq_self_eq_true, beq_self_eq_true]
 ·have : (x.toNat : Int) ≠ (y.toNat : Int) := fun e => h (UInt8.toNat_inj.1 (by omega))
  rw [beq_eq_false_iff_ne.2 this, beq_eq_false_iff_ne.2 h]
set_option maxRecDepth 100000 in
set_option maxHeartbeats 2000000 in
theorem unlike1_in (n : Nat) (l Ba Bb : Nat) (w0 : World) (A B : Option Addr) (ca cb : Nat) (a b : List UInt8)
  (ha : BR w0 A 4080 a) (hb : BR w0 B 4080 b) (J : Nat → World → Prop) (hJd : ∀ k W m, J k W → J k (World.drewN W m))
  (hY : ∀ k x W1, (unlTo a b 4080)[k]? = some x → J k W1 → YieldAt Fence.wide (n - 1) Tryz.prog l #[.int .i64 (x : Int)] W1 fun e W' => e = .returned (.bool true) ∧ J (k + 1) W' ∧ Kp2 w0.heap.size Ba Bb W1 W')
  (W : World) (hW : Below w0.heap.size w0 W) (hBa : Boxed W Ba 35 (.slice A 4080 ca)) (hBb : Boxed W Bb 35 (.slice B 4080 cb)) (h0 : J 0 W) :
  CallsIn Fence.wide n Tryz.prog 148 #[.func (.yield l) #[] #[], .pointer (some ⟨Ba, 0, none⟩), .pointer (some ⟨Bb, 0, none⟩)] W fun e W' => (∃ v, e = .returned v) ∧ J (unlTo a b 4080).length W' := by
 obtain ⟨g, o, rfl, -⟩ := ha.at_ (k := 0) (by omega)
 obtain ⟨g', o', rfl, -⟩ := hb.at_ (k := 0) (by omega)
 have HY := Lib.hid hY
 clear hY
 refine callsIn_of_wp Tryz.func148 rfl trivial ?_ rfl
 simp only [Tryz.ntmps148, List.size_toArray, List.length_cons, List.length_nil, Nat.reduceAdd, Nat.reduceSub, Array.replicate_succ, Array.replicate_zero, List.push_toArray, List.append_toArray, List.nil_append, List.cons_append]
 have hca := hBa.cell
 gi_wp2
 gi_loopw [7] (fun p wr => ∃ i : Nat, i ≤ 4080 ∧ p = .int .i64 (i : Int) ∧ Below w0.heap.size w0 wr ∧ Boxed wr Ba 35 (.slice (some ⟨g, o, none⟩) 4080 ca) ∧ Boxed wr Bb 35 (.slice (some ⟨g', o', none⟩) 4080 cb) ∧ J (unlTo a b i).length wr)
  (fun p _ => 4080 - (intOf p).toNat)
 case atStart => exact ⟨0, Nat.zero_le _, rfl, hW, hBa, hBb, h0⟩
 case round =>
  obtain ⟨i, hi, rfl, hB, hba, hbb, hJ⟩ := hrel
  by_cases hlt : i < 4080
  ·have hca' := hba.cell
   have hcb' := hbb.cell
   obtain ⟨g1, o1, e1, c1⟩ := (ha.below hB).at_ (k := i) hlt
   cases e1
   obtain ⟨g2, o2, e2, c2⟩ := (hb.below hB).at_ (k := i) hlt
   cases e2
   have ht := toNat_ne_int (a.getD i 0) (b.getD i 0)
   change wr.cell? _ = some (.int .u8 _) at c1 c2
   generalize ((a.getD i 0).toNat : Int) = xa at *
   generalize ((b.getD i 0).toNat : Int) = xb at *
   by_cases hd : a.getD i 0 = b.getD i 0
   ·rw [hd, beq_self_eq_true] at ht
    have hx : xa = xb := by simpa using ht
    clear ht
    subst hx
    gi_wp2
    refine wpIn_region_quiet_lit rfl (by kernel_rfl) (by kernel_rfl) ?_
    repeat (gi_big_quiet_step (fail))
    refine BigFrame.wpQuietIn_skip (by intro _ _ _ _; exact trivial) rfl ?_
    simp only [Act.put, List.setIfInBounds_toArray, List.set_cons_succ, List.set_cons_zero]
    repeat (gi_big_quiet_step (fail))
    refine wpQuietIn_nil ?_
    intro _ hw'
    obtain ⟨nq, hw''⟩ := hw'
    subst hw''
    gi_wp2
    go_roundw
    case rel => exact ⟨i + 1, by omega, by simp, gr_drewN hB nq, hba, hbb, by rw [unlTo_succ_eq hd]; exact hJd _ _ _ hJ⟩
    case measure => simp [intOf]; omega
   ·obtain ⟨fn, tmps, assign, body, hy, hR⟩ := HY.out _ i wr.drew (unlTo_at hlt hd) (hJd _ _ 1 hJ)
    rw [beq_eq_false_iff_ne.2 hd] at ht
    have ht' : (xa != xb) = true := by simpa using ht
    gi_wp2
    gi_region_with ((try go_simp); refine ⟨fun h => (by cases h), ?_⟩; refine hR.mono ?_; rintro e W3 ⟨rfl, hJ3, hk3⟩)
    all_goals
     gi_wp2
     go_roundw
     case rel => exact ⟨i + 1, by omega, by simp, (gr_drewN hB 1).trans hk3.1, hk3.2.1 _ hba, hk3.2.2 _ hbb, by rw [unlTo_succ_ne hd, List.length_append]; exact hJ3⟩
     case measure => simp [intOf]; omega
  ·obtain rfl : i = 4080 := by omega
   gi_wp2
   go_end0
   exact ⟨⟨_, rfl⟩, hJ⟩
end Go.Proofs.YtnkeclpgpiogoaaGreat

/-! DfB -/
namespace Go.Proofs.YtnkeclpgpiogoaaGreat
open Go.RowKit
def CT (w w' : World) : Prop := ∀ (k : Nat) (c : Array Value) (t : TypeId) (f : Nat × Nat), t ≠ 115 → t ≠ 199 → w.heap[k]? = some (.cells c t f) → w'.heap[k]? = some (.cells c t f)
section
variable {w w' w'' : World}
set_option maxRecDepth 100000 in
theorem CT.refl (w : World) : CT w w := fun _ _ _ _ _ _ h => h
set_option maxRecDepth 100000 in
theorem CT.alloc (o : Obj) : CT w (w.alloc o) := fun k _ _ _ _ _ h => (Below.heap_alloc w o k (Array.getElem?_eq_some_iff.1 h).1).trans h
set_option maxRecDepth 100000 in
theorem CT.trans (h : CT w w') (k : CT w' w'') : CT w w'' := fun _ _ _ _ h1 h2 e => k _ _ _ _ h1 h2 (h _ _ _ _ h1 h2 e)
set_option maxRecDepth 100000 in
theorem CT.of_below (hb : Below w.heap.size w w') : CT w w' := fun k _ _ _ _ _ h => (hb.block k (Array.getElem?_eq_some_iff.1 h).1).trans h
set_option maxRecDepth 100000 in
theorem CT.of_grownBy {row : Option Nat} (hg : w.grownBy w' row) (hr : ∀ r, row = some r → ∃ c t f, w.heap[r]? = some (.cells c t f) ∧ (t = 115 ∨ t = 199)) : CT w w' := by
 intro k c t f h1 h2 h
 have hlt : k < w.heap.size := (Array.getElem?_eq_some_iff.1 h).1
 rw [hg.block k hlt (fun e => by
  obtain ⟨c', t', f', ho, hc⟩ := hr k e.symm
  rw [h] at ho
  cases ho
  rcases hc with rfl | rfl
  ·exact h1 rfl
  ·exact h2 rfl), h]
set_option maxRecDepth 100000 in
theorem CT.of_row {base size n : Nat} {v : Value} {xs : List Value} (ho : w.ownsRow base 199 size v n xs) (hg : w.grownBy w' v.ownBlock) : CT w w' := by
 refine CT.of_grownBy hg fun r e => ?_
 rcases ho.2 with ⟨rfl, _⟩ | ⟨g, cap, cur, rfl, _, hgb, _⟩
 ·simp [Value.ownBlock] at e
 ·obtain rfl : g = r := by simpa [Value.ownBlock] using e
  exact ⟨_, _, _, hgb, .inr rfl⟩
set_option maxRecDepth 100000 in
theorem CT.setBox {B : Nat} {v : Value} (hB : Boxed w B 115 v) (u : Value) : CT w (w.setCell ⟨B, 0, none⟩ u) :=
 CT.of_grownBy (grownBy_setCell' w B u) fun r e => by cases e; exact ⟨_, _, _, hB, .inl rfl⟩
set_option maxRecDepth 100000 in
theorem CT.own (h : CT w w') {base : Nat} {e : TypeId} (h1 : e ≠ 115) (h2 : e ≠ 199) {size : Nat} {v : Value} {n : Nat} {xs : List Value} (ho : w.ownsRow base e size v n xs) : w'.ownsRow base e size v n xs := by
 refine ⟨ho.1, ?_⟩
 rcases ho.2 with h0 | ⟨g, cap, cur, hv, hb, hg, r⟩
 ·exact .inl h0
 ·exact .inr ⟨g, cap, cur, hv, hb, h _ _ _ _ h1 h2 hg, r⟩
set_option maxRecDepth 100000 in
theorem CT.ob (h : CT w w') {base : Nat} {v : Value} {l : List UInt8} (ho : OB w base v l) : OB w' base v l := CT.own h (by decide) (by decide) ho
set_option maxRecDepth 100000 in
theorem CT.box (h : CT w w') {B : Nat} {t : TypeId} {v : Value} (hb : Boxed w B t v) (h1 : t ≠ 115) (h2 : t ≠ 199) : Boxed w' B t v := h _ _ _ _ h1 h2 hb
end
set_option maxRecDepth 100000 in
theorem keeps_of_below {w w' : World} (h : Below w.heap.size w w') : KeepsOthers w w' := ⟨h.size, fun k _ hk _ => (h.block k (Array.getElem?_eq_some_iff.1 hk).1).trans hk⟩
set_option maxRecDepth 100000 in
theorem keeps_of_row {w w' : World} {base size n : Nat} {e : TypeId} {v : Value} {xs : List Value} (ho : w.ownsRow base e size v n xs) (hg : w.grownBy w' v.ownBlock) : KeepsOthers w w' := by
 refine KeepsOthers.of_grownBy hg fun j o ej hj => ?_
 rcases ho.2 with ⟨rfl, _⟩ | ⟨g, cap, cur, rfl, _, hgb, _⟩
 ·simp [Value.ownBlock] at ej
 ·obtain rfl : g = j := by simpa [Value.ownBlock] using ej
  rw [hgb] at hj; cases hj; rfl
set_option maxRecDepth 100000 in
theorem Boxed_below {w w' : World} {B : Nat} {t : TypeId} {v : Value} (h : Boxed w B t v) (hb : Below w.heap.size w w') : Boxed w' B t v := (hb.block B h.lt).trans h
set_option maxRecDepth 100000 in
theorem rd_two (w : World) (x y : Value) (t : TypeId) : Rd (w.alloc (.cells #[x, y] t)) 2 (some ⟨w.heap.size, 0, none⟩) 1 [x, y] := by
 have hw := World.alloc_heap_new w (.cells #[x, y] t)
 have hc : ∀ (j : Nat) (u : Value), (#[x, y] : Array Value)[j]? = some u → (w.alloc (.cells #[x, y] t)).cell? ⟨w.heap.size, j, none⟩ = some u := by
  intro j u h
  unfold World.cell?
  dsimp only
  rw [hw]
  exact h
 refine ⟨rfl, fun _ => ⟨_, rfl, ?_⟩⟩
 intro k u hk
 match k, hk with
 | 0, hk => exact hc 0 u hk
 | 1, hk => exact hc 1 u hk
 | k + 2, hk => simp at hk
def dput (b : List UInt8) (ps : List Pc) (f e : Nat) : List Pc := if e = 0 then ps else ps ++ [((f : Int), (b.drop f).take (e - f))]
set_option maxRecDepth 100000 in
theorem unlike_any (A B : Option Addr) (na nb ca cb : Nat) (w : World) :
  Calls Tryz.prog 128 #[.slice A na ca, .slice B nb cb] w fun r w' => r = .returned (.func (.func 148) #[] #[.pointer (some ⟨w.heap.size, 0, none⟩), .pointer (some ⟨w.heap.size + 1, 0, none⟩)]) ∧
   w' = (w.alloc (.cells #[.slice A na ca] 35)).alloc (.cells #[.slice B nb cb] 35) := by
 go_enter Tryz.func128, Tryz.ntmps128
 go_wp2_with fail
 go_ret
 exact ⟨by simp, rfl⟩
set_option maxRecDepth 100000 in
set_option maxHeartbeats 2000000 in
theorem put_none (w : World) (BL Bl BF BN : Nat) (hL : Boxed w BL 3 (.int .i64 (-1))) :
  Calls Tryz.prog 127 #[.pointer (some ⟨BL, 0, none⟩), .pointer (some ⟨Bl, 0, none⟩), .pointer (some ⟨BF, 0, none⟩), .pointer (some ⟨BN, 0, none⟩)] w fun r w' => (∃ u, r = .returned u) ∧ w' = w := by
 have hc := hL.cell
 go_enter Tryz.func127, Tryz.ntmps127
 go_wp2_with fail
 go_end0
 exact ⟨⟨_, rfl⟩, rfl⟩
set_option maxRecDepth 100000 in
set_option maxHeartbeats 4000000 in
theorem put_some (w : World) (BL Bl BF BN n₀ : Nat) (v : Value) (ps : List Pc) (f e : Nat) (B : Option Addr) (cb : Nat) (b : List UInt8)
  (hL : Boxed w BL 3 (.int .i64 (e : Int))) (hl : Boxed w Bl 115 v) (hF : Boxed w BF 3 (.int .i64 (f : Int))) (hN : Boxed w BN 35 (.slice B 4080 cb)) (hb : BR w B 4080 b) (hcb : 4080 ≤ cb)
  (ho : OP w n₀ v ps) (hn₀ : n₀ ≤ w.heap.size) (hBl : n₀ ≤ Bl) (hfe : f ≤ e) (he : e < 4080) (hlen : ps.length ≤ 4080) :
  Calls Tryz.prog 127 #[.pointer (some ⟨BL, 0, none⟩), .pointer (some ⟨Bl, 0, none⟩), .pointer (some ⟨BF, 0, none⟩), .pointer (some ⟨BN, 0, none⟩)] w fun r w' => (∃ u, r = .returned u) ∧
   ∃ v', Boxed w' Bl 115 v' ∧ OP w' n₀ v' (dput b ps f (e + 1)) ∧ CT w w' ∧ KeepsOthers w w' ∧ Below n₀ w w' := by
 obtain ⟨i0, hi0, hz0, hz1, hz2⟩ := info_parts info_u8
 obtain ⟨i1, hi1, hy0, hy1, hy2⟩ := info_parts info_piece
 obtain ⟨us, hrow, hul, huv, hdis⟩ := ho
 obtain ⟨Av, cv, rfl, _, _⟩ := own_form hrow
 have hcL := hL.cell
 have hcl := hl.cell
 have hcF := hF.cell
 have hcN := hN.cell
 have hcut := fun W => run_cut_lh (P := Tryz.prog) W 35 5 i0 Tryz.underlying35 hi0 1 hz1 B 4080 cb (f : Int) ((e : Int) + 1) f (e + 1) rfl (by omega) (by omega) (by omega)
 have hb' := hb.cut (k := f) (j := e + 1) (c := cb) (by omega) (by omega) hcb
 generalize cutA B cb f 1 = Bc at *
 have CL := Lib.hid (Clone_any Bc (e + 1 - f) (cb - f) ((b.drop f).take (e + 1 - f)) w.drew hb' (by omega))
 go_enter Tryz.func127, Tryz.ntmps127
 go_wp2_with fail
 have hwr : IntKind.i64.wrap ((e : Int) + 1) = (e : Int) + 1 := by rw [IntKind.wrap_i64]; omega
 have HLEN : Hid (((b.drop f).take (e + 1 - f)).length = e + 1 - f) := Lib.hid (by rw [List.length_take, List.length_drop, hb.len]; omega)
 have hl' : Boxed w.drew Bl 115 (.slice Av ps.length cv) := hl
 have hF' : Boxed w.drew BF 3 (.int .i64 (f : Int)) := hF
 have HL := Lib.hid hl'
 have HF := Lib.hid hF'
 have HR := Lib.hid hrow.drew
 have hone : ∀ (A3 : Option Addr) (c3 : Nat), ∀ u ∈ [Value.int .i64 (f : Int), .slice A3 (e + 1 - f) c3], u.oneCell' = true := by
  intro A3 c3 u hu
  simp only [List.mem_cons, List.not_mem_nil, or_false] at hu
  rcases hu with rfl | rfl <;> rfl
 have hby : (ps.length + 1 + (ps.length + 1) / 4 + 256) * 32 ≤ 281474976710656 := by omega
 have hmx : ps.length + 1 ≤ maxLen := by simp only [maxLen]; omega
 have hal : ∀ (w3 : World) (o : Obj), n₀ ≤ w3.heap.size → n₀ ≤ (w3.alloc o).heap.size := fun w3 o h => by rw [World.size_alloc]; omega
 have hbox : ∀ (w3 w4 : World) (o : Obj), Below w.drew.heap.size w.drew w3 → (w3.alloc o).grownBy w4 (Value.slice Av ps.length cv).ownBlock → Boxed w4 Bl 115 (.slice Av ps.length cv) := by
  intro w3 w4 o hb4 hg4
  have h3 : (w3.alloc o).ownsRow n₀ 199 2 (.slice Av ps.length cv) ps.length (pcs us) := (CK.own (CK.of_below hb4) hrow.drew).alloc o
  have b3 : Boxed (w3.alloc o) Bl 115 (.slice Av ps.length cv) := (Boxed_below hl' hb4).alloc o
  exact b3.kept hg4 (b3.not_row (by decide) h3)
 have Hbox := Lib.hid hbox
 have Hone := Lib.hid hone
 have Hby := Lib.hid hby
 have Hal := Lib.hid hal
 clear hone hby hal hbox
 have hSS : ∀ W, CT w W → W.cell? ⟨BL, 0, none⟩ = some (.int .i64 (e : Int)) ∧ W.cell? ⟨BF, 0, none⟩ = some (.int .i64 (f : Int)) ∧ W.cell? ⟨BN, 0, none⟩ = some (.slice B 4080 cb) :=
  fun W h => ⟨(h.box hL (by decide) (by decide)).cell, (h.box hF (by decide) (by decide)).cell, (h.box hN (by decide) (by decide)).cell⟩
 have HS := Lib.hid hSS
 have HT := Lib.hid (CT.refl w)
 clear hSS
 have hrowT : ∀ (w3 w4 : World) (o : Obj), CT w w3 → (w3.alloc o).ownsRow n₀ 199 2 (Value.slice Av ps.length cv) ps.length (pcs us) → (w3.alloc o).grownBy w4 (Value.slice Av ps.length cv).ownBlock → CT w w4 :=
  fun w3 w4 o h h3 hg => (h.trans (CT.alloc o)).trans (CT.of_row h3 hg)
 have HrowT := Lib.hid hrowT
 have hTb : ∀ w3 : World, Below w.drew.heap.size w.drew w3 → CT w w3 := fun w3 hb4 => fun k c t f h1 h2 h => CT.of_below (w := w.drew) hb4 k c t f h1 h2 h
 have HTb := Lib.hid hTb
 clear hTb
 clear hrowT
 have hend : ∀ (w3 w4 : World) (A3 : Option Addr) (c3 g4 c4 : Nat), OB w3 w.drew.heap.size (.slice A3 (e + 1 - f) c3) ((b.drop f).take (e + 1 - f)) → Below w.drew.heap.size w.drew w3 →
   w4.ownsRow n₀ 199 2 (.slice (some ⟨g4, 0, none⟩) (ps.length + 1) c4) (ps.length + 1) (pcs us ++ [.int .i64 (f : Int), .slice A3 (e + 1 - f) c3]) →
   (w3.alloc (.cells #[.int .i64 (f : Int), .slice A3 (e + 1 - f) c3] 199)).grownBy w4 (Value.slice Av ps.length cv).ownBlock →
   ∃ v', Boxed (w4.setCell ⟨Bl, 0, none⟩ (.slice (some ⟨g4, 0, none⟩) (ps.length + 1) c4)) Bl 115 v' ∧ OP (w4.setCell ⟨Bl, 0, none⟩ (.slice (some ⟨g4, 0, none⟩) (ps.length + 1) c4)) n₀ v' (dput b ps f (e + 1)) ∧
    CT w (w4.setCell ⟨Bl, 0, none⟩ (.slice (some ⟨g4, 0, none⟩) (ps.length + 1) c4)) ∧ KeepsOthers w (w4.setCell ⟨Bl, 0, none⟩ (.slice (some ⟨g4, 0, none⟩) (ps.length + 1) c4)) ∧ Below n₀ w (w4.setCell ⟨Bl, 0, none⟩ (.slice (some ⟨g4, 0, none⟩) (ps.length + 1) c4)) := by
  intro w3 w4 A3 c3 g4 c4 ho3 hb4 hown4 hg4
  have hb3 : Below w.heap.size w w3 := ⟨hb4.os, hb4.tape, hb4.output, hb4.size, hb4.block⟩
  have h3row : (w3.alloc (.cells #[.int .i64 (f : Int), .slice A3 (e + 1 - f) c3] 199)).ownsRow n₀ 199 2 (.slice Av ps.length cv) ps.length (pcs us) := (CK.own (CK.of_below hb3) hrow).alloc _
  have B4 := Hbox.out _ _ _ hb4 hg4
  have T34 : CT w3 (w4.setCell ⟨Bl, 0, none⟩ (.slice (some ⟨g4, 0, none⟩) (ps.length + 1) c4)) := ((CT.alloc _).trans (CT.of_row h3row hg4)).trans (CT.setBox B4 _)
  have T5 := (HTb.out _ hb4).trans T34
  have hd : dput b ps f (e + 1) = ps ++ [((f : Int), (b.drop f).take (e + 1 - f))] := by unfold dput; rw [if_neg (by omega)]
  have hn1 : n₀ ≤ w3.heap.size := Nat.le_trans hn₀ hb3.size
  refine ⟨_, B4.set _, ⟨us ++ [((f : Int), .slice A3 (e + 1 - f) c3)], ?_, ?_, ?_, ?_⟩, T5, ?_, ?_⟩
  ·rw [hd, pcs_append, List.length_append]
   exact hown4.kept (grownBy_setCell' w4 Bl _) (.inr (B4.not_row (by decide) hown4).symm)
  ·rw [hd, List.length_append, List.length_append, hul]; rfl
  ·intro i p q hp hq
   rw [hd] at hp
   rcases Nat.lt_or_ge i ps.length with hi | hi
   ·rw [List.getElem?_append_left hi] at hp
    rw [List.getElem?_append_left (by omega)] at hq
    exact ⟨(huv i p q hp hq).1, T5.ob (huv i p q hp hq).2⟩
   ·rw [List.getElem?_append_right hi] at hp
    rw [List.getElem?_append_right (by omega), hul] at hq
    rcases Nat.eq_zero_or_pos (i - ps.length) with h0 | h0
    ·rw [h0] at hp hq
     simp only [List.getElem?_cons_zero, Option.some.injEq] at hp hq
     subst hp hq
     exact ⟨rfl, T34.ob (OB.lower ho3 (show n₀ ≤ w.drew.heap.size from hn₀))⟩
    ·rw [List.getElem?_eq_none (by simp; omega)] at hp
     cases hp
  ·rw [List.pairwise_append]
   refine ⟨hdis, List.pairwise_singleton _ _, ?_⟩
   intro q hq r hr k hk hk'
   rw [List.mem_singleton] at hr
   subst hr
   obtain ⟨j, hj, hjq⟩ := List.getElem_of_mem hq
   have h1 := (huv j _ q (List.getElem?_eq_getElem (show j < ps.length by omega)) (by rw [List.getElem?_eq_getElem hj, hjq])).2
   have h2 := (h1.lt k hk).2
   have h3 := (ho3.lt k hk').1
   exact absurd h2 (Nat.not_lt.2 h3)
  ·exact (((keeps_of_below hb3).trans (KeepsOthers.alloc _ _)).trans (keeps_of_row h3row hg4)).trans (KeepsOthers.setCell _ _ _)
  ·exact (((hb3.mono hn₀).alloc hn1 _).grown hg4 (Hal.out _ _ hn1) (fun k hk => (hrow.lt k hk).1)).setCell (p := ⟨Bl, 0, none⟩) hBl _
 have HEND := Lib.hid hend
 clear hend
 refine wp_region_held_drew (S := fun W => W.cell? ⟨BL, 0, none⟩ = some (.int .i64 (e : Int)) ∧ W.cell? ⟨BF, 0, none⟩ = some (.int .i64 (f : Int)) ∧ W.cell? ⟨BN, 0, none⟩ = some (.slice B 4080 cb)) (by kernel_rfl) (HS.out _ HT.out) (fun hHeld => ?_)
 refine wpAnyH_take (i := 1) (v := ?_) rfl (by kernel_rfl) (by kernel_rfl) (by kernel_rfl) (fun _ _ _ h => h) (Or.inl ⟨by rfl, ?_⟩) (by assumption) ?_
 rotate_left 1
 ·(intro w hSw; (try dsimp only at hSw); go_simp; try (with_reducible rfl))
 try simp only [Act.put, List.setIfInBounds_toArray]
 refine wpAnyH_take (i := 2) (v := ?_) rfl (by kernel_rfl) (by kernel_rfl) (by kernel_rfl) (fun _ _ _ h => h) (Or.inl ⟨by rfl, ?_⟩) (by assumption) ?_
 rotate_left 1
 ·(intro w hSw; (try dsimp only at hSw); go_simp; try (with_reducible rfl))
 try simp only [Act.put]
 refine wpAnyH_take (i := 3) (v := ?_) rfl (by kernel_rfl) (by kernel_rfl) (by kernel_rfl) (fun _ _ _ h => h) (Or.inl ⟨by rfl, ?_⟩) (by assumption) ?_
 rotate_left 1
 ·(intro w hSw; (try dsimp only at hSw); go_simp; try (with_reducible rfl))
 try simp only [Act.put]
 refine wpAnyH_take (i := 4) (v := ?_) rfl (by kernel_rfl) (by kernel_rfl) (by kernel_rfl) (fun _ _ _ h => h) (Or.inl ⟨by rfl, ?_⟩) (by assumption) ?_
 rotate_left 1
 ·(intro w hSw; (try dsimp only at hSw); go_simp; try (with_reducible rfl))
 try simp only [Act.put]
 refine wpAnyH_take (i := 5) (v := ?_) rfl (by kernel_rfl) (by kernel_rfl) (by kernel_rfl) (fun _ _ _ h => h) (Or.inl ⟨by rfl, ?_⟩) (by assumption) ?_
 rotate_left 1
 ·(intro w hSw; (try dsimp only at hSw); go_simp; try (with_reducible rfl))
 try simp only [Act.put]
 refine wpAnyH_take (i := 6) (v := ?_) rfl (by kernel_rfl) (by kernel_rfl) (by kernel_rfl) (fun _ _ _ h => h) (Or.inl ⟨by rfl, ?_⟩) (by assumption) ?_
 rotate_left 1
 ·(intro w hSw; (try dsimp only at hSw); go_simp; try (with_reducible rfl))
 try simp only [Act.put]
 -- WAYS
 refine wpAnyH_ready (rs := [0, 7]) (by kernel_rfl) (by simp) ?_
 refine AllReadyH.cons rfl (fun K hK => ?_) ?_
 ·go_simp
  refine hK.out _ _ (HS.out _ HT.out) (fun hHeld => ?_); clear hK K; (try simp only [Act.put, List.setIfInBounds_toArray, List.set_cons_zero, List.set_cons_succ])
  refine wpAnyH_ready (rs := [7]) (by kernel_rfl) (by simp) (AllReadyH.cons rfl (fun K hK => ?_) AllReadyH.nil)
  go_simp
  go_at_call 70
  refine CL.out.mono ?_
  rintro r w3 ⟨v3, rfl, ho3, hb4⟩
  have HT3 := Lib.hid (HTb.out _ hb4)
  have H3 := Lib.hid (CK.own (CK.of_below hb4) HR.out)
  have hcl3 := (Boxed_below HL.out hb4).cell
  have hclA := fun o => ((Boxed_below HL.out hb4).alloc o).cell
  obtain ⟨A3, c3, rfl, r3, hc3, hm3⟩ := ho3.formN (n := e + 1 - f) HLEN.out
  have hs4 : n₀ ≤ w3.heap.size := Nat.le_trans hn₀ hb4.size
  (try go_simp)
  refine hK.out _ _ (HS.out _ HT3.out) (fun hHeld => ?_); clear hK K; (try simp only [Act.put, List.setIfInBounds_toArray, List.set_cons_zero, List.set_cons_succ])
  refine wpAnyH_take (i := 8) (v := ?_) rfl (by kernel_rfl) (by kernel_rfl) (by kernel_rfl) (fun _ _ _ h => h) (Or.inl ⟨by rfl, ?_⟩) (by assumption) ?_
  rotate_left 1
  ·(intro w hSw; (try dsimp only at hSw); go_simp; try (with_reducible rfl))
  try simp only [Act.put, List.setIfInBounds_toArray]
  refine wpAnyH_ready (rs := [9]) (by kernel_rfl) (by simp) (AllReadyH.cons rfl (fun K hK => ?_) AllReadyH.nil)
  go_simp
  refine hK.out _ _ (HS.out _ (HT3.out.trans (CT.alloc _))) (fun hHeld => ?_); clear hK K; (try simp only [Act.put, List.setIfInBounds_toArray, List.set_cons_zero, List.set_cons_succ])
  refine wpAnyH_ready (rs := [10]) (by kernel_rfl) (by simp) (AllReadyH.cons rfl (fun K hK => ?_) AllReadyH.nil)
  refine step_append_Rd _ rfl (.tmp 6) (.tmp 15) _ rfl n₀ 199 i1 _ 2 32 Tryz.underlying115 hi1 hy0 hy1 hy2 rfl (.slice Av ps.length cv) ps.length (pcs us) rfl (H3.out.alloc _) (some ⟨w3.heap.size, 0, none⟩) 1 1 [.int .i64 (f : Int), .slice A3 (e + 1 - f) c3] rfl (rd_two _ _ _ _) (Hone.out _ _) Hby.out hmx (Hal.out _ _ hs4) ?_
  intro v4 w4 hown4 hg4 _ _
  have HT4 := Lib.hid (HrowT.out _ _ _ HT3.out (H3.out.alloc _) hg4)
  obtain ⟨g4, c4, rfl⟩ := ownsRow_succ hown4
  have hB4 := Hbox.out _ _ _ hb4 hg4
  have hcl4 := hB4.cell
  have hfl4 := hB4.frozen
  refine hK.out _ _ (HS.out _ HT4.out) (fun hHeld => ?_); clear hK K; (try simp only [Act.put, List.setIfInBounds_toArray])
  refine wpAnyH_ready (rs := [11]) (by kernel_rfl) (by simp) (AllReadyH.cons rfl (fun K hK => ?_) AllReadyH.nil)
  go_simp
  refine hK.out _ _ (HS.out _ (HT4.out.trans (CT.setBox hB4 _))) (fun hHeld => ?_); clear hK K; (try simp only [Act.put, List.setIfInBounds_toArray, List.set_cons_zero, List.set_cons_succ])
  refine wpAnyH_done (by kernel_rfl) ?_ _
  go_wp2_with fail
  go_end0
  exact ⟨⟨_, rfl⟩, HEND.out _ _ _ _ _ _ ho3 hb4 hown4 hg4⟩
 refine AllReadyH.cons rfl (fun K hK => ?_) AllReadyH.nil
 go_simp
 go_at_call 70
 refine CL.out.mono ?_
 rintro r w3 ⟨v3, rfl, ho3, hb4⟩
 have HT3 := Lib.hid (HTb.out _ hb4)
 have H3 := Lib.hid (CK.own (CK.of_below hb4) HR.out)
 have hcl3 := (Boxed_below HL.out hb4).cell
 have hclA := fun o => ((Boxed_below HL.out hb4).alloc o).cell
 obtain ⟨A3, c3, rfl, r3, hc3, hm3⟩ := ho3.formN (n := e + 1 - f) HLEN.out
 have hs4 : n₀ ≤ w3.heap.size := Nat.le_trans hn₀ hb4.size
 (try go_simp)
 refine hK.out _ _ (HS.out _ HT3.out) (fun hHeld => ?_); clear hK K; (try simp only [Act.put, List.setIfInBounds_toArray, List.set_cons_zero, List.set_cons_succ])
 refine wpAnyH_take (i := 8) (v := ?_) rfl (by kernel_rfl) (by kernel_rfl) (by kernel_rfl) (fun _ _ _ h => h) (Or.inl ⟨by rfl, ?_⟩) (by assumption) ?_
 rotate_left 1
 ·(intro w hSw; (try dsimp only at hSw); go_simp; try (with_reducible rfl))
 try simp only [Act.put, List.setIfInBounds_toArray]
 refine wpAnyH_ready (rs := [0, 9]) (by kernel_rfl) (by simp) ?_
 refine AllReadyH.cons rfl (fun K hK => ?_) ?_
 ·go_simp
  refine hK.out _ _ (HS.out _ HT3.out) (fun hHeld => ?_); clear hK K; (try simp only [Act.put, List.setIfInBounds_toArray, List.set_cons_zero, List.set_cons_succ])
  refine wpAnyH_ready (rs := [9]) (by kernel_rfl) (by simp) (AllReadyH.cons rfl (fun K hK => ?_) AllReadyH.nil)
  go_simp
  refine hK.out _ _ (HS.out _ (HT3.out.trans (CT.alloc _))) (fun hHeld => ?_); clear hK K; (try simp only [Act.put, List.setIfInBounds_toArray, List.set_cons_zero, List.set_cons_succ])
  refine wpAnyH_ready (rs := [10]) (by kernel_rfl) (by simp) (AllReadyH.cons rfl (fun K hK => ?_) AllReadyH.nil)
  refine step_append_Rd _ rfl (.tmp 6) (.tmp 15) _ rfl n₀ 199 i1 _ 2 32 Tryz.underlying115 hi1 hy0 hy1 hy2 rfl (.slice Av ps.length cv) ps.length (pcs us) rfl (H3.out.alloc _) (some ⟨w3.heap.size, 0, none⟩) 1 1 [.int .i64 (f : Int), .slice A3 (e + 1 - f) c3] rfl (rd_two _ _ _ _) (Hone.out _ _) Hby.out hmx (Hal.out _ _ hs4) ?_
  intro v4 w4 hown4 hg4 _ _
  have HT4 := Lib.hid (HrowT.out _ _ _ HT3.out (H3.out.alloc _) hg4)
  obtain ⟨g4, c4, rfl⟩ := ownsRow_succ hown4
  have hB4 := Hbox.out _ _ _ hb4 hg4
  have hcl4 := hB4.cell
  have hfl4 := hB4.frozen
  refine hK.out _ _ (HS.out _ HT4.out) (fun hHeld => ?_); clear hK K; (try simp only [Act.put, List.setIfInBounds_toArray])
  refine wpAnyH_ready (rs := [11]) (by kernel_rfl) (by simp) (AllReadyH.cons rfl (fun K hK => ?_) AllReadyH.nil)
  go_simp
  refine hK.out _ _ (HS.out _ (HT4.out.trans (CT.setBox hB4 _))) (fun hHeld => ?_); clear hK K; (try simp only [Act.put, List.setIfInBounds_toArray, List.set_cons_zero, List.set_cons_succ])
  refine wpAnyH_done (by kernel_rfl) ?_ _
  go_wp2_with fail
  go_end0
  exact ⟨⟨_, rfl⟩, HEND.out _ _ _ _ _ _ ho3 hb4 hown4 hg4⟩
 refine AllReadyH.cons rfl (fun K hK => ?_) AllReadyH.nil
 go_simp
 refine hK.out _ _ (HS.out _ (HT3.out.trans (CT.alloc _))) (fun hHeld => ?_); clear hK K; (try simp only [Act.put, List.setIfInBounds_toArray, List.set_cons_zero, List.set_cons_succ])
 refine wpAnyH_ready (rs := [0]) (by kernel_rfl) (by simp) (AllReadyH.cons rfl (fun K hK => ?_) AllReadyH.nil)
 go_simp
 refine hK.out _ _ (HS.out _ (HT3.out.trans (CT.alloc _))) (fun hHeld => ?_); clear hK K; (try simp only [Act.put, List.setIfInBounds_toArray, List.set_cons_zero, List.set_cons_succ])
 refine wpAnyH_ready (rs := [10]) (by kernel_rfl) (by simp) (AllReadyH.cons rfl (fun K hK => ?_) AllReadyH.nil)
 refine step_append_Rd _ rfl (.tmp 6) (.tmp 15) _ rfl n₀ 199 i1 _ 2 32 Tryz.underlying115 hi1 hy0 hy1 hy2 rfl (.slice Av ps.length cv) ps.length (pcs us) rfl (H3.out.alloc _) (some ⟨w3.heap.size, 0, none⟩) 1 1 [.int .i64 (f : Int), .slice A3 (e + 1 - f) c3] rfl (rd_two _ _ _ _) (Hone.out _ _) Hby.out hmx (Hal.out _ _ hs4) ?_
 intro v4 w4 hown4 hg4 _ _
 have HT4 := Lib.hid (HrowT.out _ _ _ HT3.out (H3.out.alloc _) hg4)
 obtain ⟨g4, c4, rfl⟩ := ownsRow_succ hown4
 have hB4 := Hbox.out _ _ _ hb4 hg4
 have hcl4 := hB4.cell
 have hfl4 := hB4.frozen
 refine hK.out _ _ (HS.out _ HT4.out) (fun hHeld => ?_); clear hK K; (try simp only [Act.put, List.setIfInBounds_toArray])
 refine wpAnyH_ready (rs := [11]) (by kernel_rfl) (by simp) (AllReadyH.cons rfl (fun K hK => ?_) AllReadyH.nil)
 go_simp
 refine hK.out _ _ (HS.out _ (HT4.out.trans (CT.setBox hB4 _))) (fun hHeld => ?_); clear hK K; (try simp only [Act.put, List.setIfInBounds_toArray, List.set_cons_zero, List.set_cons_succ])
 refine wpAnyH_done (by kernel_rfl) ?_ _
 go_wp2_with fail
 go_end0
 exact ⟨⟨_, rfl⟩, HEND.out _ _ _ _ _ _ ho3 hb4 hown4 hg4⟩
end Go.Proofs.YtnkeclpgpiogoaaGreat

/-! DfC -/
namespace Go.Proofs.YtnkeclpgpiogoaaGreat
open Go.RowKit Go.Shelf
attribute [local go_sem] Oper.semAt_some
def dstep (b : List UInt8) (s : List Pc × Nat × Nat) (x : Nat) : List Pc × Nat × Nat :=
 if s.2.2 = 0 ∨ 8 < x + 1 - s.2.2 then (dput b s.1 s.2.1 s.2.2, x, x + 1) else (s.1, s.2.1, x + 1)
def dst (a b : List UInt8) (k : Nat) : List Pc × Nat × Nat := ((unlTo a b 4080).take k).foldl (dstep b) ([], 0, 0)
def diffL (a b : List UInt8) : List Pc := dput b (dst a b (unlTo a b 4080).length).1 (dst a b (unlTo a b 4080).length).2.1 (dst a b (unlTo a b 4080).length).2.2
set_option maxRecDepth 100000 in
theorem dst_succ {a b : List UInt8} {k x : Nat} (h : (unlTo a b 4080)[k]? = some x) : dst a b (k + 1) = dstep b (dst a b k) x := by
 unfold dst
 obtain ⟨hk, e⟩ := List.getElem?_eq_some_iff.1 h
 rw [List.take_succ_eq_append_getElem hk, List.foldl_append, e]
 rfl
set_option maxRecDepth 100000 in
theorem dput_len (b : List UInt8) (ps : List Pc) (f e : Nat) : (dput b ps f e).length ≤ ps.length + 1 := by
 unfold dput; split <;> simp
set_option maxRecDepth 100000 in
theorem unlTo_lt (a b : List UInt8) (m k x : Nat) (h : (unlTo a b m)[k]? = some x) : x < m := by
 have := List.mem_of_getElem? h
 unfold unlTo at this
 simpa using (List.mem_filter.1 this).1
set_option maxRecDepth 100000 in
theorem unlTo_rise (a b : List UInt8) (m : Nat) : (unlTo a b m).Pairwise (· < ·) := by
 unfold unlTo
 exact List.pairwise_lt_range.filter _
set_option maxRecDepth 100000 in
theorem unlTo_len (a b : List UInt8) (m : Nat) : (unlTo a b m).length ≤ m := by
 unfold unlTo
 exact Nat.le_trans (List.length_filter_le _ _) (by simp)
set_option maxRecDepth 100000 in
theorem dst_inv (a b : List UInt8) : ∀ (k : Nat), k ≤ (unlTo a b 4080).length →
  (dst a b k).1.length ≤ k ∧ (dst a b k).2.2 ≤ 4080 ∧ (0 < (dst a b k).2.2 → (dst a b k).2.1 < (dst a b k).2.2) ∧ (∀ x, (unlTo a b 4080)[k]? = some x → (dst a b k).2.2 ≤ x)
 | 0, _ => ⟨Nat.le_refl _, Nat.zero_le _, fun h => absurd h (Nat.lt_irrefl _), fun _ _ => Nat.zero_le _⟩
 | k + 1, h => by
  obtain ⟨h1, h2, h3, h4⟩ := dst_inv a b k (by omega)
  obtain ⟨x, hx⟩ : ∃ x, (unlTo a b 4080)[k]? = some x := ⟨_, List.getElem?_eq_getElem (by omega)⟩
  have hlt := unlTo_lt a b _ _ _ hx
  have hle := h4 x hx
  have hnext : ∀ y, (unlTo a b 4080)[k + 1]? = some y → x + 1 ≤ y := by
   intro y hy
   obtain ⟨hk, e⟩ := List.getElem?_eq_some_iff.1 hx
   obtain ⟨hk', e'⟩ := List.getElem?_eq_some_iff.1 hy
   have := List.pairwise_iff_getElem.1 (unlTo_rise a b 4080) k (k + 1) hk hk' (by omega)
   omega
  rw [dst_succ hx]
  unfold dstep
  have := dput_len b (dst a b k).1 (dst a b k).2.1 (dst a b k).2.2
  split
  ·exact ⟨by dsimp only; omega, by dsimp only; omega, fun _ => by dsimp only; omega, hnext⟩
  ·rename_i hn
   exact ⟨by dsimp only; omega, by dsimp only; omega, fun _ => by dsimp only; omega, hnext⟩
set_option maxRecDepth 100000 in
theorem dput_zero (b : List UInt8) (ps : List Pc) (f : Nat) : dput b ps f 0 = ps := if_pos rfl
structure DI (n₀ : Nat) (w : World) (A B : Option Addr) (ca cb : Nat) (s : List Pc × Nat × Nat) (W : World) : Prop where
 l : ∃ v, Boxed W (n₀ + 1) 115 v ∧ OP W n₀ v s.1
 f : Boxed W (n₀ + 1 + 1) 3 (.int .i64 (s.2.1 : Int))
 e : Boxed W (n₀ + 1 + 1 + 1) 3 (.int .i64 ((s.2.2 : Int) - 1))
 n : Boxed W n₀ 35 (.slice B 4080 cb)
 p : Boxed W (n₀ + 1 + 1 + 1 + 1) 1 (.func (.func 127) #[] #[.pointer (some ⟨n₀ + 1 + 1 + 1, 0, none⟩), .pointer (some ⟨n₀ + 1, 0, none⟩), .pointer (some ⟨n₀ + 1 + 1, 0, none⟩), .pointer (some ⟨n₀, 0, none⟩)])
 a : Boxed W (n₀ + 1 + 1 + 1 + 1 + 1) 35 (.slice A 4080 ca)
 b : Boxed W (n₀ + 1 + 1 + 1 + 1 + 1 + 1) 35 (.slice B 4080 cb)
 below : Below n₀ w W
section
variable {n₀ : Nat} {w W W' : World} {A B : Option Addr} {ca cb : Nat} {s : List Pc × Nat × Nat}
set_option maxRecDepth 100000 in
theorem DI.ck (h : DI n₀ w A B ca cb s W) (hk : CK W W') (hb : Below n₀ w W') : DI n₀ w A B ca cb s W' := by
 obtain ⟨v, hv, ho⟩ := h.l
 exact ⟨⟨v, hk _ _ _ _ hv, ho.ck hk⟩, hk _ _ _ _ h.f, hk _ _ _ _ h.e, hk _ _ _ _ h.n, hk _ _ _ _ h.p, hk _ _ _ _ h.a, hk _ _ _ _ h.b, hb⟩
set_option maxRecDepth 100000 in
theorem DI.ct (h : DI n₀ w A B ca cb s W) (hk : CT W W') (hb : Below n₀ w W') {v : Value} {ps : List Pc} (hv : Boxed W' (n₀ + 1) 115 v) (ho : OP W' n₀ v ps) : DI n₀ w A B ca cb (ps, s.2.1, s.2.2) W' :=
 ⟨⟨v, hv, ho⟩, hk.box h.f (by decide) (by decide), hk.box h.e (by decide) (by decide), hk.box h.n (by decide) (by decide), hk.box h.p (by decide) (by decide), hk.box h.a (by decide) (by decide), hk.box h.b (by decide) (by decide), hb⟩
set_option maxRecDepth 100000 in
theorem boxed_other {k j : Nat} {t : TypeId} {v u : Value} (h : Boxed W k t v) (hj : k ≠ j) : Boxed (W.setCell ⟨j, 0, none⟩ u) k t v := h.kept (grownBy_setCell' W j u) (by simpa using hj)
set_option maxRecDepth 100000 in
theorem OP.setInt {v : Value} {ps : List Pc} {k : Nat} {x u : Value} (h : OP W n₀ v ps) (hb : Boxed W k 3 x) : OP (W.setCell ⟨k, 0, none⟩ u) n₀ v ps := by
 obtain ⟨us, ho, hl, hv, hd⟩ := h
 exact ⟨us, ho.kept (grownBy_setCell' W k u) (.inr (hb.not_row (by decide) ho).symm), hl, fun i p q hp hq => ⟨(hv i p q hp hq).1, World.ownsRow.kept (hv i p q hp hq).2 (grownBy_setCell' W k u) (.inr (hb.not_row (by decide) (hv i p q hp hq).2).symm)⟩, hd⟩
set_option maxRecDepth 100000 in
theorem DI.setF (h : DI n₀ w A B ca cb s W) (x : Nat) : DI n₀ w A B ca cb (s.1, x, s.2.2) (W.setCell ⟨n₀ + 1 + 1, 0, none⟩ (.int .i64 (x : Int))) := by
 obtain ⟨v, hv, ho⟩ := h.l
 exact ⟨⟨v, boxed_other hv (by omega), ho.setInt h.f⟩, h.f.set _, boxed_other h.e (by omega), boxed_other h.n (by omega), boxed_other h.p (by omega), boxed_other h.a (by omega), boxed_other h.b (by omega), h.below.setCell (p := ⟨n₀ + 1 + 1, 0, none⟩) (by dsimp only; omega) _⟩
set_option maxRecDepth 100000 in
theorem DI.setE (h : DI n₀ w A B ca cb s W) (x : Nat) : DI n₀ w A B ca cb (s.1, s.2.1, x + 1) (W.setCell ⟨n₀ + 1 + 1 + 1, 0, none⟩ (.int .i64 (x : Int))) := by
 obtain ⟨v, hv, ho⟩ := h.l
 refine ⟨⟨v, boxed_other hv (by omega), ho.setInt h.e⟩, boxed_other h.f (by omega), ?_, boxed_other h.n (by omega), boxed_other h.p (by omega), boxed_other h.a (by omega), boxed_other h.b (by omega), h.below.setCell (p := ⟨n₀ + 1 + 1 + 1, 0, none⟩) (by dsimp only; omega) _⟩
 have : (((x + 1 : Nat) : Int) - 1) = (x : Int) := by omega
 dsimp only
 rw [this]
 exact h.e.set _
set_option maxRecDepth 100000 in
theorem DI.kp {s' : List Pc × Nat × Nat} (h : DI n₀ w A B ca cb s W) (h' : DI n₀ w A B ca cb s' W') (hb : Below n₀ W W') : Kp2 n₀ (n₀ + 1 + 1 + 1 + 1 + 1) (n₀ + 1 + 1 + 1 + 1 + 1 + 1) W W' :=
 ⟨hb, fun o e => by rw [h'.a, ← e, h.a], fun o e => by rw [h'.b, ← e, h.b]⟩
set_option maxRecDepth 100000 in
theorem DI.own (hw : n₀ = w.heap.size) {M : Nat} (hM : n₀ ≤ M) (a b : List UInt8) : OwnFrom M (fun k W => DI n₀ w A B ca cb (dst a b k) W) := by
 intro k X Y row h hg hr
 subst hw
 exact h.ck (CK.of_grownBy hg fun r e => (hr r e).2) ((ownFrom_below (Nat.le_refl _) hM : OwnFrom M (fun (_ : Nat) W => Below w.heap.size w W)) k X Y row h.below hg hr)
end
set_option maxRecDepth 100000 in
theorem put_any (n₀ : Nat) (w W : World) (hw : n₀ = w.heap.size) (A B : Option Addr) (ca cb : Nat) (b : List UInt8) (s : List Pc × Nat × Nat) (hI : DI n₀ w A B ca cb s W) (hb : BR w B 4080 b) (hcb : 4080 ≤ cb)
  (h1 : s.1.length ≤ 4080) (h2 : s.2.2 ≤ 4080) (h3 : 0 < s.2.2 → s.2.1 < s.2.2) :
  Calls Tryz.prog 127 #[.pointer (some ⟨n₀ + 1 + 1 + 1, 0, none⟩), .pointer (some ⟨n₀ + 1, 0, none⟩), .pointer (some ⟨n₀ + 1 + 1, 0, none⟩), .pointer (some ⟨n₀, 0, none⟩)] W fun r W' => (∃ u, r = .returned u) ∧
   DI n₀ w A B ca cb (dput b s.1 s.2.1 s.2.2, s.2.1, s.2.2) W' ∧ KeepsOthers W W' ∧ Below n₀ W W' := by
 subst hw
 obtain ⟨ps, f, e⟩ := s
 dsimp only at h1 h2 h3 ⊢
 rcases Nat.eq_zero_or_pos e with h0 | h0
 ·subst h0
  have he := hI.e
  dsimp only at he
  refine (put_none W _ _ _ _ (by simpa using he)).mono ?_
  rintro r w' ⟨hr, rfl⟩
  rw [dput_zero]
  exact ⟨hr, hI, KeepsOthers.refl _, Below.refl _ _⟩
 ·obtain ⟨e, rfl⟩ : ∃ e', e = e' + 1 := ⟨e - 1, by omega⟩
  have he := hI.e
  have hz : (((e + 1 : Nat) : Int) - 1) = (e : Int) := by omega
  dsimp only at he
  rw [hz] at he
  obtain ⟨v, hv, ho⟩ := hI.l
  refine (put_some W _ _ _ _ w.heap.size v ps f e B cb b he hv hI.f hI.n (hb.below hI.below) hcb ho hI.below.size (by omega) (by omega) (by omega) h1).mono ?_
  rintro r w' ⟨hr, v', hv', ho', ht, hk, hb'⟩
  exact ⟨hr, hI.ct ht (hI.below.trans hb') hv' ho', hk, hb'⟩
set_option maxRecDepth 100000 in
set_option maxHeartbeats 2000000 in
theorem Diff_any (A B : Option Addr) (ca cb : Nat) (a b : List UInt8) (w : World) (ha : BR w A 4080 a) (hb : BR w B 4080 b) (hcb : 4080 ≤ cb) :
  Calls Tryz.prog 105 #[.slice A 4080 ca, .slice B 4080 cb] w fun r w' => ∃ v, r = .returned (.tuple #[v, .int .i64 0]) ∧ OP w' w.heap.size v (diffL a b) ∧ Below w.heap.size w w' := by
 refine (callsIn_wide (n := 9)).1 ?_
 refine callsIn_of_wp_marks Tryz.func105 rfl trivial ?_ rfl
 simp only [Tryz.ntmps105, List.size_toArray, List.length_cons, List.length_nil, Nat.reduceAdd, Nat.reduceSub, Array.replicate_succ, Array.replicate_zero, List.push_toArray, List.append_toArray, List.nil_append, List.cons_append]
 gi_wp2_with (refine ⟨trivial, ?_⟩; gi_at_call 128; refine (callsIn_wide.2 (unlike_any _ _ _ _ _ _ _)).mono ?_; rintro e w' ⟨rfl, rfl⟩)
 have h0 : DI w.heap.size w A B ca cb ([], 0, 0) (((((((w.alloc (.cells #[.slice B 4080 cb] 35)).alloc (.cells #[.slice none 0 0] 115)).alloc (.cells #[.int .i64 0] 3)).alloc (.cells #[.int .i64 (-1)] 3)).alloc
   (.cells #[.func (.func 127) #[] #[.pointer (some ⟨w.heap.size + 1 + 1 + 1, 0, none⟩), .pointer (some ⟨w.heap.size + 1, 0, none⟩), .pointer (some ⟨w.heap.size + 1 + 1, 0, none⟩), .pointer (some ⟨w.heap.size, 0, none⟩)]] 1)).alloc
   (.cells #[.slice A 4080 ca] 35)).alloc (.cells #[.slice B 4080 cb] 35)) := by
  have hnew : ∀ (W : World) (t : TypeId) (v : Value) (k : Nat), W.heap.size = k → Boxed (W.alloc (.cells #[v] t)) k t v := fun W t v k e => e ▸ Boxed.new W t v
  refine ⟨⟨.slice none 0 0, ?_, OP.nil _ _⟩, ?_, ?_, ?_, ?_, ?_, ?_, ?_⟩
  ·exact (((((hnew _ _ _ _ (by simp)).alloc _).alloc _).alloc _).alloc _).alloc _
  ·exact ((((hnew _ _ _ _ (by simp)).alloc _).alloc _).alloc _).alloc _
  ·exact (((hnew _ _ _ _ (by simp)).alloc _).alloc _).alloc _
  ·exact ((((((hnew _ _ _ _ (by simp)).alloc _).alloc _).alloc _).alloc _).alloc _).alloc _
  ·exact ((hnew _ _ _ _ (by simp)).alloc _).alloc _
  ·exact (hnew _ _ _ _ (by simp)).alloc _
  ·exact hnew _ _ _ _ (by simp)
  ·exact gr_alloc (gr_alloc (gr_alloc (gr_alloc (gr_alloc (gr_alloc (gr_alloc (gr_refl w) _) _) _) _) _) _) _
 obtain ⟨W0, hW0⟩ : ∃ W0, (((((((w.alloc (.cells #[.slice B 4080 cb] 35)).alloc (.cells #[.slice none 0 0] 115)).alloc (.cells #[.int .i64 0] 3)).alloc (.cells #[.int .i64 (-1)] 3)).alloc
   (.cells #[.func (.func 127) #[] #[.pointer (some ⟨w.heap.size + 1 + 1 + 1, 0, none⟩), .pointer (some ⟨w.heap.size + 1, 0, none⟩), .pointer (some ⟨w.heap.size + 1 + 1, 0, none⟩), .pointer (some ⟨w.heap.size, 0, none⟩)]] 1)).alloc
   (.cells #[.slice A 4080 ca] 35)).alloc (.cells #[.slice B 4080 cb] 35)) = W0 := ⟨_, rfl⟩
 have hsz : W0.heap.size = w.heap.size + 7 := by rw [← hW0]; simp
 rw [hW0] at h0 ⊢
 clear hW0
 obtain ⟨n₀, hn₀⟩ : ∃ n₀, n₀ = w.heap.size := ⟨_, rfl⟩
 rw [← hn₀] at h0 hsz ⊢
 have HN := Lib.hid hn₀
 have HZ := Lib.hid hsz
 have hle : n₀ ≤ W0.heap.size := by omega
 have hown := DI.own (A := A) (B := B) (ca := ca) (cb := cb) hn₀ hle a b
 clear hn₀ hsz
 refine rangeFunc_rounds rfl (by omega) (gf := 148) (lb := #[.pointer (some ⟨n₀ + 1 + 1 + 1 + 1 + 1, 0, none⟩), .pointer (some ⟨n₀ + 1 + 1 + 1 + 1 + 1 + 1, 0, none⟩)]) rfl trivial (enters_of Tryz.func148 (by kernel_rfl) rfl)
  (encs := fun x : Nat => #[.int .i64 (x : Int)]) (unlTo a b 4080) (Kp := Kp2 n₀ (n₀ + 1 + 1 + 1 + 1 + 1) (n₀ + 1 + 1 + 1 + 1 + 1 + 1)) Kp2.trans ?put ?seq (fun _ => rfl)
  (fun k W => DI n₀ w A B ca cb (dst a b k) W) hown h0
  (fun x => { tmps := #[.slice A 4080 ca, .slice B 4080 cb, undef, .pointer (some ⟨n₀, 0, none⟩), .slice none 0 0, .int .i64 0, .pointer (some ⟨n₀ + 1, 0, none⟩), .pointer (some ⟨n₀ + 1 + 1, 0, none⟩), .pointer (some ⟨n₀ + 1 + 1 + 1, 0, none⟩), .pointer (some ⟨n₀ + 1 + 1 + 1 + 1, 0, none⟩), .int .i64 (x : Int),
   .slice A 4080 ca, .int .i64 4080, .bool false, .bool false, .slice B 4080 cb, .int .i64 4080, .bool false, .bool false, .func (.func 127) #[] #[.pointer (some ⟨n₀ + 1 + 1 + 1, 0, none⟩), .pointer (some ⟨n₀ + 1, 0, none⟩), .pointer (some ⟨n₀ + 1 + 1, 0, none⟩), .pointer (some ⟨n₀, 0, none⟩)],
   .slice A 4080 ca, .slice B 4080 cb, .func (.func 148) #[] #[.pointer (some ⟨n₀ + 1 + 1 + 1 + 1 + 1, 0, none⟩), .pointer (some ⟨n₀ + 1 + 1 + 1 + 1 + 1 + 1, 0, none⟩)], .int .i64 (x : Int), undef, undef, undef, undef, undef, undef, undef, undef, undef, undef, undef, undef, undef, undef, undef], defers := [] })
  ?assign ?body ?done
 case put =>
  intro W l o o' hl ho hc
  have hz := HZ.out
  exact ⟨(Below.refl n₀ W).grown (grownBy_putObj' W l o') (by have := (Array.getElem?_eq_some_iff.1 ho).1; omega) (fun k e => by cases e; omega), fun u e => (World.putObj_heap_other (by omega)).trans e, fun u e => (World.putObj_heap_other (by omega)).trans e⟩
 case seq =>
  intro l J W hB hJ hY hJ0
  have hz := HN.out
  subst hz
  have hA := h0.a
  have hBb := h0.b
  have hW : Below w.heap.size w W := h0.below.trans (hB.mono hle)
  refine unlike1_in 8 l _ _ w A B ca cb a b ha hb J hJ hY W hW ?_ ?_ hJ0
  ·exact (hB.block _ hA.lt).trans hA
  ·exact (hB.block _ hBb.lt).trans hBb
 case assign =>
  intro l x W K hK
  gi_wp2
  exact hK
 case body =>
  intro l k x W hx hI
  obtain ⟨hk, -⟩ := List.getElem?_eq_some_iff.1 hx
  obtain ⟨i1, i2, i3, i4⟩ := dst_inv a b k (by omega)
  have i4' := i4 x hx
  have hul := unlTo_len a b 4080
  have hxl := unlTo_lt a b 4080 k x hx
  have HS := Lib.hid (dst_succ (b := b) hx)
  have hp := put_any n₀ w W HN.out A B ca cb b _ hI hb hcb (by omega) i2 i3
  clear hx i4
  generalize dst a b k = s at *
  obtain ⟨ps, f, e⟩ := s
  dsimp only at i1 i2 i3 i4' hp
  have HP := Lib.hid hp
  have HI := Lib.hid hI
  clear hp hI h0 hown
  have hcp := HI.out.p.cell
  have hfin : (e = 0 ∨ 8 < x + 1 - e) → ∀ W1, DI n₀ w A B ca cb (dput b ps f e, f, e) W1 → KeepsOthers W W1 → Below n₀ W W1 →
    KeepsFrom W0.heap.size W ((W1.setCell ⟨n₀ + 1 + 1, 0, none⟩ (.int .i64 (x : Int))).setCell ⟨n₀ + 1 + 1 + 1, 0, none⟩ (.int .i64 (x : Int))) ∧
    Kp2 n₀ (n₀ + 1 + 1 + 1 + 1 + 1) (n₀ + 1 + 1 + 1 + 1 + 1 + 1) W ((W1.setCell ⟨n₀ + 1 + 1, 0, none⟩ (.int .i64 (x : Int))).setCell ⟨n₀ + 1 + 1 + 1, 0, none⟩ (.int .i64 (x : Int))) ∧
    DI n₀ w A B ca cb (dst a b (k + 1)) ((W1.setCell ⟨n₀ + 1 + 1, 0, none⟩ (.int .i64 (x : Int))).setCell ⟨n₀ + 1 + 1 + 1, 0, none⟩ (.int .i64 (x : Int))) := by
   intro hc W1 hI1 hk1 hb1
   have hst : dst a b (k + 1) = (dput b ps f e, x, x + 1) := by rw [HS.out]; unfold dstep; rw [if_pos hc]
   rw [hst]
   have h2 := (hI1.setF x).setE x
   exact ⟨((hk1.trans (KeepsOthers.setCell _ _ _)).trans (KeepsOthers.setCell _ _ _)).from _, HI.out.kp h2 ((hb1.setCell (p := ⟨n₀ + 1 + 1, 0, none⟩) (by dsimp only; omega) _).setCell (p := ⟨n₀ + 1 + 1 + 1, 0, none⟩) (by dsimp only; omega) _), h2⟩
  have HFIN := Lib.hid hfin
  clear hfin
  rcases Nat.eq_zero_or_pos e with h0 | h0
  ·subst h0
   have hce : W.cell? ⟨n₀ + 1 + 1 + 1, 0, none⟩ = some (.int .i64 (-1)) := HI.out.e.cell
   gi_wp2_with fail
   refine ⟨trivial, ?_⟩
   refine (CallsIn.inRound l (callsIn_wide.2 HP.out)).mono ?_
   rintro r W1 ⟨⟨u, rfl⟩, hI1, hk1, hb1⟩
   have c1 := hI1.f.cell
   have z1 := hI1.f.frozen
   have c2 := ((hI1.setF x).e).cell
   have z2 := ((hI1.setF x).e).frozen
   dsimp only at c1 c2
   have HF := Lib.hid (HFIN.out (by simp) W1 (by exact hI1) hk1 hb1)
   gi_wp2_with fail
   exact HF.out
  ·obtain ⟨e, rfl⟩ : ∃ e', e = e' + 1 := ⟨e - 1, by omega⟩
   have hce := HI.out.e.cell
   have hz : (((e + 1 : Nat) : Int) - 1) = (e : Int) := by omega
   dsimp only at hce
   rw [hz] at hce
   clear hz
   have hneg : decide ((e : Int) < 0) = false := by simp
   have hsub : IntKind.i64.wrap ((x : Int) - (e : Int)) = (x : Int) - (e : Int) := by rw [IntKind.wrap_i64]; omega
   by_cases hc : e + 8 < x
   ·have hgt : decide (8 < (x : Int) - (e : Int)) = true := by simp; omega
    gi_wp2_with fail
    refine ⟨trivial, ?_⟩
    refine (CallsIn.inRound l (callsIn_wide.2 HP.out)).mono ?_
    rintro r W1 ⟨⟨u, rfl⟩, hI1, hk1, hb1⟩
    have c1 := hI1.f.cell
    have z1 := hI1.f.frozen
    have c2 := ((hI1.setF x).e).cell
    have z2 := ((hI1.setF x).e).frozen
    dsimp only at c1 c2
    have HF := Lib.hid (HFIN.out (.inr (by omega)) W1 hI1 hk1 hb1)
    gi_wp2_with fail
    exact HF.out
   ·have hgt : decide (8 < (x : Int) - (e : Int)) = false := by simp; omega
    have z2 := HI.out.e.frozen
    have HF := Lib.hid (show dst a b (k + 1) = (ps, f, x + 1) by rw [HS.out]; unfold dstep; rw [if_neg (by dsimp only; omega)])
    gi_wp2_with fail
    have h2 := HI.out.setE x
    show KeepsFrom _ _ _ ∧ Kp2 _ _ _ _ _ ∧ DI _ _ _ _ _ _ (dst a b (k + 1)) _
    rw [HF.out]
    exact ⟨(KeepsOthers.setCell _ _ _).from _, HI.out.kp h2 ((Below.refl n₀ W).setCell (p := ⟨n₀ + 1 + 1 + 1, 0, none⟩) (by dsimp only; omega) _), h2⟩
 case done =>
  intro D W hD hI hK
  obtain ⟨i1, i2, i3, -⟩ := dst_inv a b (unlTo a b 4080).length (Nat.le_refl _)
  have hul := unlTo_len a b 4080
  have hp := put_any n₀ w W HN.out A B ca cb b _ hI hb hcb (by omega) i2 i3
  have HP := Lib.hid hp
  have HI := Lib.hid hI
  clear hp hI h0 hown
  have hcp := HI.out.p.cell
  gi_wp2_with fail
  refine ⟨trivial, ?_⟩
  refine (callsIn_wide.2 HP.out).mono ?_
  rintro r W1 ⟨⟨u, rfl⟩, hI1, hk1, hb1⟩
  obtain ⟨v, hv, ho⟩ := hI1.l
  have hcv := hv.cell
  have HK := Lib.hid (hk1.same _ _ hK rfl)
  have HO := Lib.hid ho
  clear ho hv hK
  gi_wp2_with fail
  refine ⟨by simp, .inl ⟨_, _, rfl, run_takeDeferred HK.out, ?_⟩⟩
  have hz := HN.out
  subst hz
  have hck : CK W1 (W1.putObj D (.deferred none)) := CK.of_grownBy (grownBy_putObj' W1 D _) (fun r e => by cases e; exact ⟨_, HK.out, rfl⟩)
  have hbb : Below w.heap.size W1 (W1.putObj D (.deferred none)) := (Below.refl _ W1).grown (grownBy_putObj' W1 D _) (by have := (Array.getElem?_eq_some_iff.1 HK.out).1; omega) (fun k e => by cases e; omega)
  exact ⟨_, (by simp [results, Tryz.results105, go_sem]), v, rfl, HO.out.ck hck, hI1.below.trans hbb⟩
end Go.Proofs.YtnkeclpgpiogoaaGreat
