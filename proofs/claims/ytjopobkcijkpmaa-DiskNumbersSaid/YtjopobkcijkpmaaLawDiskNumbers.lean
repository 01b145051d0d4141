/-
  The walk of DiskNumbers.
-/
import Derived.Test.YtjopobkcijkpmaaDkM
namespace Go.Proofs.Ytjopobkcijkpmaa
open Go.RowKit

theorem writeD_go (D : DiskS) (b : Int) (m : List UInt8) (h0 : askE D b = 0) (hm : m.length = 4096) (hc : opC D = 0) : writeD D b m = { opS D with pending := D.pending ++ [(b.toNat, m)] } := by
  unfold writeD
  rw [if_neg (by simp [h0, hm]), if_neg (by simp [hc])]
theorem writeD_op (D : DiskS) (b : Int) (m : List UInt8) (h0 : askE D b = 0) (hm : m.length = 4096) (hc : opC D ≠ 0) : writeD D b m = opS D := by
  unfold writeD
  rw [if_neg (by simp [h0, hm]), if_pos hc]
theorem writeD_bad (D : DiskS) (b : Int) (m : List UInt8) (h0 : askE D b ≠ 0 ∨ m.length ≠ 4096) : writeD D b m = D := by
  unfold writeD
  rw [if_pos h0]
theorem writeE_op (D : DiskS) (b : Int) (h0 : askE D b = 0) : writeE D b 4096 = opC D := by
  unfold writeE
  rw [if_neg (by simp [h0]), if_neg (by simp)]
theorem OB.pre {w : World} {base q n c k : Nat} {l : List UInt8} (h : OB w base (.slice (some ⟨q, 0, none⟩) n c) l) (hl : l.length = n) (hk : k ≤ n) : OB w base (.slice (some ⟨q, 0, none⟩) k c) (l.take k) := by
  obtain ⟨cur, hg, hb, hn, hm, hz, ht⟩ := obn_cur h hl
  have hlk : (l.take k).length = k := by rw [List.length_take]; omega
  refine ⟨by simp, .inr ⟨q, c, cur, by rw [hlk], hb, hg, by omega, hm, by omega, ?_⟩⟩
  rw [hlk, Nat.mul_one, List.map_take, ← ht, List.take_take, Nat.min_eq_left hk]
theorem zer_at0 : zer.getD 0 0 = 0 := rep_at 4096 0 0 (by omega)
theorem lett_last : (lett 97).getD 4095 0 = 97 := rep_at 4096 97 4095 (by omega)
theorem LR.one (w : World) : LR (w.alloc (.cells #[.bool true] 4)) (some ⟨w.heap.size, 0, none⟩) 1 [true] := Rd.new w _ #[.bool true] 1 1 rfl
theorem badN (k : Nat) (hk : k < 4) : ∃ n : Int, (#[.int .i64 0, .int .i64 (-1), .int .i64 4097, .int .i64 9223372036854775807] : Array Value)[k]? = some (.int .i64 n) ∧ (n < 1 ∨ 4096 < n) := by
  obtain rfl | rfl | rfl | rfl : k = 0 ∨ k = 1 ∨ k = 2 ∨ k = 3 := by omega
  · exact ⟨0, rfl, by omega⟩
  · exact ⟨-1, rfl, by omega⟩
  · exact ⟨4097, rfl, by omega⟩
  · exact ⟨9223372036854775807, rfl, by omega⟩

def dn0 : DiskS := ⟨[zer, zer], [], false, -1, -1, 0⟩
def dn1 : DiskS := ⟨[zer, zer], [(0, lett 97)], false, -1, -1, 0⟩
def dn3 : DiskS := ⟨[zer, zer], [], false, 1, -1, 0⟩
def dn4 : DiskS := ⟨[zer, zer], [(0, lett 97)], false, 0, -1, 0⟩
def dn5 : DiskS := ⟨[zer, zer], [(0, lett 97)], true, -1, -1, 0⟩
def dn6 : DiskS := ⟨[lett 97, zer], [], false, -1, -1, 0⟩
def dn7 : DiskS := ⟨[lett 97, zer], [], false, -1, 0, 4⟩
def dn8 : DiskS := ⟨[lett 97, zer], [], false, -1, -1, 4⟩
def dn9 : DiskS := ⟨[lett 97, zer], [], false, -1, 1, 5⟩
def dn10 : DiskS := ⟨[lett 97, zer], [(1, lett 97)], false, -1, 0, 5⟩
def dn11 : DiskS := ⟨[lett 97, zer], [(1, lett 97)], false, -1, -1, 5⟩
def dn12 : DiskS := ⟨[lett 97, zer], [(1, lett 97)], false, 0, -1, 5⟩
def dn13 : DiskS := ⟨[lett 97, zer], [(1, lett 97)], false, 0, 0, 4⟩
def dn14 : DiskS := ⟨[lett 97, zer], [(1, lett 97)], true, -1, -1, 4⟩
def dn16 : DiskS := ⟨[lett 97, zer], [], false, 9223372036854775807, -1, 0⟩

set_option maxRecDepth 100000 in
set_option maxHeartbeats 8000000 in
theorem DiskNumbers_any (w : World) :
    Calls Try.prog 8 #[] w fun e w' => e = .returned (.bool true) ∧ Below w.heap.size w w' := by
  obtain ⟨i0, hi0, hz0, hz1, hz2⟩ := info_parts info_u8
  have hcut := fun (W : World) (q : Nat) => run_cut_h (P := Try.prog) W 33 5 i0 Try.underlying33 hi0 1 hz1 (some ⟨q, 0, none⟩) 4096 4096 (4095 : Int) 4095 rfl (by omega)
  have HCUT := Lib.hid hcut
  clear hcut hi0 hz0 hz1 hz2
  go_enter Try.func8, Try.ntmps8
  go_wp2_with fail
  have hl0 : (w.alloc (.cells #[.int .i64 0, .int .i64 (-1), .int .i64 4097, .int .i64 9223372036854775807] 3)).heap[w.heap.size]? = some (.cells #[.int .i64 0, .int .i64 (-1), .int .i64 4097, .int .i64 9223372036854775807] 3 (0, 0)) := heap_alloc_new w _
  have hb0 := gr_alloc (gr_refl w) (.cells #[.int .i64 0, .int .i64 (-1), .int .i64 4097, .int .i64 9223372036854775807] 3)
  generalize w.alloc (.cells #[.int .i64 0, .int .i64 (-1), .int .i64 4097, .int .i64 9223372036854775807] 3) = W0 at *
  have HL0 := Lib.hid hl0
  clear hl0
  go_loopw [25] (fun i wr => ∃ k : Nat, k ≤ 4 ∧ i = .int .i64 k ∧ W0 = wr) (fun i _ => 4 - (intOf i).toNat)
  case atStart => exact ⟨0, by omega, rfl, rfl⟩
  case round =>
    obtain ⟨k, hk, rfl, rfl⟩ := hrel
    by_cases hlt : k < 4
    · have hlt' : decide ((k : Int) < 4) = true := by simp; omega
      obtain ⟨n, hn, hbad⟩ := badN k hlt
      have hc : W0.cell? ⟨w.heap.size, k, none⟩ = some (.int .i64 n) := by rw [cell_of_row _ _ _ _ _ _ HL0.out]; exact hn
      clear hn
      go_wp2_with fail
      refine (New_bad n W0 hbad).mono ?_
      rintro e w' ⟨rfl, rfl⟩
      go_wp2_with fail
      go_roundw
      case rel => exact ⟨k + 1, by omega, by go_num, by first | rfl | trivial⟩
      case measure => simp [intOf]; omega
    · have hlt' : decide ((k : Int) < 4) = false := by simp; omega
      clear HL0
      go_wp2_with fail
      refine (New_st 2 w W0 (by omega) (by omega) hb0).mono ?_
      rw [show newD 2 = dn0 from rfl]
      rintro e w1 ⟨g, rfl, s, hk⟩
      clear hk
      have HX := Lib.hid (Blocks_st s)
      rw [show ((dn0.blocks.length : Nat) : Int) = 2 from rfl] at HX
      go_wp2_with fail
      refine HX.out.mono ?_
      clear HX
      rintro e w' ⟨rfl, rfl⟩
      go_wp2_with fail
      refine (letters_any 97 w1).mono ?_
      rintro e w2 ⟨rfl, hB, hb⟩
      have ha := lett_own (base := w.heap.size) hB s.1.size
      have s := s.below hb
      have hcut := fun W => HCUT.out W w1.heap.size
      clear hB hb
      have X := Write_st (0) _ 4096 4096 (lett 97) s ha (lett_len _) (by decide)
      rw [show writeE dn0 (0) 4096 = 0 from (writeE_op _ _ rfl).trans rfl, show writeD dn0 (0) (lett 97) = dn1 from (writeD_go _ _ _ rfl (lett_len _) rfl).trans rfl] at X
      have HX := Lib.hid X
      clear X
      go_wp2_with fail
      refine HX.out.mono ?_
      clear HX
      clear s
      rintro e w3 ⟨rfl, s, hk⟩
      have ha := hk.ob ha
      clear hk
      have X := Durable_st 0 s
      rw [show askE dn1 0 = 0 from rfl, show durL dn1 0 = zer from rfl] at X
      have HX := Lib.hid X
      clear X
      go_wp2_with fail
      refine HX.out.mono ?_
      clear HX
      clear s
      rintro e w4 ⟨v, rfl, ho, s, hb⟩
      have ha := ha.below hb
      obtain ⟨q4, c4, rfl, _⟩ := ho.full zer_len
      have hc4 := obn_cell ho zer_len (j := 0) (by omega)
      rw [zer_at0] at hc4
      clear ho hb
      have X := Pending_st s
      rw [show ((dn1.pending.length : Nat) : Int) = 1 from rfl] at X
      have HX := Lib.hid X
      clear X
      go_wp2_with fail
      refine HX.out.mono ?_
      clear HX
      rintro e w' ⟨rfl, rfl⟩
      have X := Crash_st none 0 0 [] (-1) (0) s (LR.nil _) (apartK_nil _ _) (by omega) (by decide)
      rw [show crashE (0) = 0 from rfl, show crashD dn1 [] (-1) (0) = dn0 from rfl] at X
      have HX := Lib.hid X
      clear X
      go_wp2_with fail
      refine HX.out.mono ?_
      clear HX
      clear s
      rintro e w5 ⟨rfl, s, hk⟩
      have ha := hk.ob ha
      clear hk
      have X := Read_st 0 s (by decide)
      rw [show readE dn0 0 = 0 from rfl, show readL dn0 0 = zer from rfl] at X
      have HX := Lib.hid X
      clear X
      go_wp2_with fail
      refine HX.out.mono ?_
      clear HX
      clear s
      rintro e w6 ⟨v, rfl, ho, s, hb⟩
      have ha := ha.below hb
      obtain ⟨q6, c6, rfl, _⟩ := ho.full zer_len
      have hc6 := obn_cell ho zer_len (j := 0) (by omega)
      rw [zer_at0] at hc6
      clear ho hb
      have X := Arm_st (1) s (by omega)
      rw [show armE (1) = 0 from rfl, show armD dn0 (1) = dn3 from rfl] at X
      have HX := Lib.hid X
      clear X
      go_wp2_with fail
      refine HX.out.mono ?_
      clear HX
      clear s
      rintro e w7 ⟨rfl, s, hk⟩
      have ha := hk.ob ha
      clear hk
      have X := Write_st (0) _ 4096 4096 (lett 97) s ha (lett_len _) (by decide)
      rw [show writeE dn3 (0) 4096 = 0 from (writeE_op _ _ rfl).trans rfl, show writeD dn3 (0) (lett 97) = dn4 from (writeD_go _ _ _ rfl (lett_len _) rfl).trans rfl] at X
      have HX := Lib.hid X
      clear X
      go_wp2_with fail
      refine HX.out.mono ?_
      clear HX
      clear s
      rintro e w8 ⟨rfl, s, hk⟩
      have ha := hk.ob ha
      clear hk
      have X := Sync_st s (by decide)
      rw [show opC dn4 = 6 from rfl, show syncD dn4 = dn5 from rfl] at X
      have HX := Lib.hid X
      clear X
      go_wp2_with fail
      refine HX.out.mono ?_
      clear HX
      clear s
      rintro e w9 ⟨rfl, s, hk⟩
      have ha := hk.ob ha
      clear hk
      have X := Read_st 0 s (by decide)
      rw [show readE dn5 0 = 6 from rfl, show readL dn5 0 = [] from rfl] at X
      have HX := Lib.hid X
      clear X
      go_wp2_with fail
      refine HX.out.mono ?_
      clear HX
      clear s
      rintro e w10 ⟨v, rfl, ho, s, hb⟩
      have ha := ha.below hb
      obtain ⟨A, c, rfl, _⟩ := ho.formN (n := 0) rfl
      clear ho hb
      have X := Durable_st 0 s
      rw [show askE dn5 0 = 0 from rfl, show durL dn5 0 = zer from rfl] at X
      have HX := Lib.hid X
      clear X
      go_wp2_with fail
      refine HX.out.mono ?_
      clear HX
      clear s
      rintro e w11 ⟨v, rfl, ho, s, hb⟩
      have ha := ha.below hb
      obtain ⟨q11, c11, rfl, _⟩ := ho.full zer_len
      have hc11 := obn_cell ho zer_len (j := 0) (by omega)
      rw [zer_at0] at hc11
      clear ho hb
      have X := Write_st (0) _ 4096 4096 (lett 97) s ha (lett_len _) (by decide)
      rw [show writeE dn5 (0) 4096 = 6 from (writeE_op _ _ rfl).trans rfl, show writeD dn5 (0) (lett 97) = dn5 from (writeD_op _ _ _ rfl (lett_len _) (by decide)).trans rfl] at X
      have HX := Lib.hid X
      clear X
      go_wp2_with fail
      refine HX.out.mono ?_
      clear HX
      clear s
      rintro e w12 ⟨rfl, s, hk⟩
      have ha := hk.ob ha
      clear hk
      have hbk := gr_alloc (gr_refl w12) (.cells #[.bool true] 4)
      have X := Crash_st (some ⟨w12.heap.size, 0, none⟩) 1 1 [true] (9) 0 (s.below hbk) (LR.one _) (fun ad e _ => by cases e; exact .inr ⟨_, _, heap_alloc_new w12 _⟩) (by omega) (by decide)
      rw [show crashE 0 = 0 from rfl, show crashD dn5 [true] (9) 0 = dn6 from rfl] at X
      have HX := Lib.hid X
      clear X
      go_wp2_with fail
      refine HX.out.mono ?_
      clear HX
      rintro e w13 ⟨rfl, s, hk⟩
      have ha := hk.ob (ha.below hbk)
      clear hk hbk
      have X := Read_st 0 s (by decide)
      rw [show readE dn6 0 = 0 from rfl, show readL dn6 0 = lett 97 from rfl] at X
      have HX := Lib.hid X
      clear X
      go_wp2_with fail
      refine HX.out.mono ?_
      clear HX
      clear s
      rintro e w14 ⟨v, rfl, ho, s, hb⟩
      have ha := ha.below hb
      obtain ⟨q14, c14, rfl, _⟩ := ho.full (lett_len 97)
      have hc14 := obn_cell ho (lett_len 97) (j := 4095) (by omega)
      rw [lett_last] at hc14
      clear ho hb
      have X := Fail_st (0) (4) s (by omega)
      rw [show failE (0) (4) = 0 from rfl, show failD dn6 (0) (4) = dn7 from rfl] at X
      have HX := Lib.hid X
      clear X
      go_wp2_with fail
      refine HX.out.mono ?_
      clear HX
      clear s
      rintro e w15 ⟨rfl, s, hk⟩
      have ha := hk.ob ha
      clear hk
      have X := Sync_st s (by decide)
      rw [show opC dn7 = 4 from rfl, show syncD dn7 = dn8 from rfl] at X
      have HX := Lib.hid X
      clear X
      go_wp2_with fail
      refine HX.out.mono ?_
      clear HX
      clear s
      rintro e w16 ⟨rfl, s, hk⟩
      have ha := hk.ob ha
      clear hk
      have X := Sync_st s (by decide)
      rw [show opC dn8 = 0 from rfl, show syncD dn8 = dn8 from rfl] at X
      have HX := Lib.hid X
      clear X
      go_wp2_with fail
      refine HX.out.mono ?_
      clear HX
      clear s
      rintro e w17 ⟨rfl, s, hk⟩
      have ha := hk.ob ha
      clear hk
      have X := Fail_st (1) (5) s (by omega)
      rw [show failE (1) (5) = 0 from rfl, show failD dn8 (1) (5) = dn9 from rfl] at X
      have HX := Lib.hid X
      clear X
      go_wp2_with fail
      refine HX.out.mono ?_
      clear HX
      clear s
      rintro e w18 ⟨rfl, s, hk⟩
      have ha := hk.ob ha
      clear hk
      have X := Write_st (1) _ 4096 4096 (lett 97) s ha (lett_len _) (by decide)
      rw [show writeE dn9 (1) 4096 = 0 from (writeE_op _ _ rfl).trans rfl, show writeD dn9 (1) (lett 97) = dn10 from (writeD_go _ _ _ rfl (lett_len _) rfl).trans rfl] at X
      have HX := Lib.hid X
      clear X
      go_wp2_with fail
      refine HX.out.mono ?_
      clear HX
      clear s
      rintro e w19 ⟨rfl, s, hk⟩
      have ha := hk.ob ha
      clear hk
      have X := Write_st (1) _ 4096 4096 (lett 97) s ha (lett_len _) (by decide)
      rw [show writeE dn10 (1) 4096 = 5 from (writeE_op _ _ rfl).trans rfl, show writeD dn10 (1) (lett 97) = dn11 from (writeD_op _ _ _ rfl (lett_len _) (by decide)).trans rfl] at X
      have HX := Lib.hid X
      clear X
      go_wp2_with fail
      refine HX.out.mono ?_
      clear HX
      clear s
      rintro e w20 ⟨rfl, s, hk⟩
      have ha := hk.ob ha
      clear hk
      have X := Pending_st s
      rw [show ((dn11.pending.length : Nat) : Int) = 1 from rfl] at X
      have HX := Lib.hid X
      clear X
      go_wp2_with fail
      refine HX.out.mono ?_
      clear HX
      rintro e w' ⟨rfl, rfl⟩
      have X := Write_st (2) _ 4096 4096 (lett 97) s ha (lett_len _) (by decide)
      rw [show writeE dn11 (2) 4096 = 2 from rfl, show writeD dn11 (2) (lett 97) = dn11 from writeD_bad _ _ _ (.inl (by decide))] at X
      have HX := Lib.hid X
      clear X
      go_wp2_with fail
      refine HX.out.mono ?_
      clear HX
      clear s
      rintro e w21 ⟨rfl, s, hk⟩
      have ha := hk.ob ha
      clear hk
      have X := Write_st (-1) _ 4096 4096 (lett 97) s ha (lett_len _) (by decide)
      rw [show writeE dn11 (-1) 4096 = 2 from rfl, show writeD dn11 (-1) (lett 97) = dn11 from writeD_bad _ _ _ (.inl (by decide))] at X
      have HX := Lib.hid X
      clear X
      go_wp2_with fail
      refine HX.out.mono ?_
      clear HX
      clear s
      rintro e w22 ⟨rfl, s, hk⟩
      have ha := hk.ob ha
      clear hk
      have X := Write_st 0 _ 4095 4096 ((lett 97).take 4095) s (ha.pre (lett_len _) (by omega)) (by rw [List.length_take, lett_len]; rfl) (by decide)
      rw [show writeE dn11 0 4095 = 2 from rfl, show writeD dn11 0 ((lett 97).take 4095) = dn11 from writeD_bad _ _ _ (.inr (by rw [List.length_take, lett_len]; decide))] at X
      have HX := Lib.hid X
      clear X
      go_wp2_with fail
      refine HX.out.mono ?_
      clear HX
      clear s
      rintro e w23 ⟨rfl, s, hk⟩
      have ha := hk.ob ha
      clear hk
      have X := Fail_st (0) (2) s (by omega)
      rw [show failE (0) (2) = 2 from rfl, show failD dn11 (0) (2) = dn11 from rfl] at X
      have HX := Lib.hid X
      clear X
      go_wp2_with fail
      refine HX.out.mono ?_
      clear HX
      clear s
      rintro e w24 ⟨rfl, s, hk⟩
      have ha := hk.ob ha
      clear hk
      have X := Fail_st (-1) (4) s (by omega)
      rw [show failE (-1) (4) = 2 from rfl, show failD dn11 (-1) (4) = dn11 from rfl] at X
      have HX := Lib.hid X
      clear X
      go_wp2_with fail
      refine HX.out.mono ?_
      clear HX
      clear s
      rintro e w25 ⟨rfl, s, hk⟩
      have ha := hk.ob ha
      clear hk
      have X := Arm_st (-1) s (by omega)
      rw [show armE (-1) = 2 from rfl, show armD dn11 (-1) = dn11 from rfl] at X
      have HX := Lib.hid X
      clear X
      go_wp2_with fail
      refine HX.out.mono ?_
      clear HX
      clear s
      rintro e w26 ⟨rfl, s, hk⟩
      have ha := hk.ob ha
      clear hk
      have X := Crash_st none 0 0 [] (0) (4097) s (LR.nil _) (apartK_nil _ _) (by omega) (by decide)
      rw [show crashE (4097) = 2 from rfl, show crashD dn11 [] (0) (4097) = dn11 from rfl] at X
      have HX := Lib.hid X
      clear X
      go_wp2_with fail
      refine HX.out.mono ?_
      clear HX
      clear s
      rintro e w27 ⟨rfl, s, hk⟩
      have ha := hk.ob ha
      clear hk
      have X := Crash_st none 0 0 [] (0) (-1) s (LR.nil _) (apartK_nil _ _) (by omega) (by decide)
      rw [show crashE (-1) = 2 from rfl, show crashD dn11 [] (0) (-1) = dn11 from rfl] at X
      have HX := Lib.hid X
      clear X
      go_wp2_with fail
      refine HX.out.mono ?_
      clear HX
      clear s
      rintro e w28 ⟨rfl, s, hk⟩
      have ha := hk.ob ha
      clear hk
      have X := Arm_st (0) s (by omega)
      rw [show armE (0) = 0 from rfl, show armD dn11 (0) = dn12 from rfl] at X
      have HX := Lib.hid X
      clear X
      go_wp2_with fail
      refine HX.out.mono ?_
      clear HX
      clear s
      rintro e w29 ⟨rfl, s, hk⟩
      have ha := hk.ob ha
      clear hk
      have X := Fail_st (0) (4) s (by omega)
      rw [show failE (0) (4) = 0 from rfl, show failD dn12 (0) (4) = dn13 from rfl] at X
      have HX := Lib.hid X
      clear X
      go_wp2_with fail
      refine HX.out.mono ?_
      clear HX
      clear s
      rintro e w30 ⟨rfl, s, hk⟩
      have ha := hk.ob ha
      clear hk
      have X := Sync_st s (by decide)
      rw [show opC dn13 = 6 from rfl, show syncD dn13 = dn14 from rfl] at X
      have HX := Lib.hid X
      clear X
      go_wp2_with fail
      refine HX.out.mono ?_
      clear HX
      clear s
      rintro e w31 ⟨rfl, s, hk⟩
      have ha := hk.ob ha
      clear hk
      have X := Crash_st none 0 0 [] (0) (0) s (LR.nil _) (apartK_nil _ _) (by omega) (by decide)
      rw [show crashE (0) = 0 from rfl, show crashD dn14 [] (0) (0) = dn6 from rfl] at X
      have HX := Lib.hid X
      clear X
      go_wp2_with fail
      refine HX.out.mono ?_
      clear HX
      clear s
      rintro e w32 ⟨rfl, s, hk⟩
      have ha := hk.ob ha
      clear hk
      have X := Sync_st s (by decide)
      rw [show opC dn6 = 0 from rfl, show syncD dn6 = dn6 from rfl] at X
      have HX := Lib.hid X
      clear X
      go_wp2_with fail
      refine HX.out.mono ?_
      clear HX
      clear s
      rintro e w33 ⟨rfl, s, hk⟩
      have ha := hk.ob ha
      clear hk
      have X := Arm_st (9223372036854775807) s (by omega)
      rw [show armE (9223372036854775807) = 0 from rfl, show armD dn6 (9223372036854775807) = dn16 from rfl] at X
      have HX := Lib.hid X
      clear X
      go_wp2_with fail
      refine HX.out.mono ?_
      clear HX
      clear s
      rintro e w34 ⟨rfl, s, hk⟩
      have ha := hk.ob ha
      clear hk
      have X := Sync_st s (by decide)
      rw [show opC dn16 = 0 from rfl] at X
      have HX := Lib.hid X
      clear X
      go_wp2_with fail
      refine HX.out.mono ?_
      clear HX
      clear s
      rintro e w35 ⟨rfl, s, hk⟩
      have ha := hk.ob ha
      clear hk
      go_wp2_with fail
      refine (awake03_any _).mono ?_
      rintro e w99 ⟨rfl, hb⟩
      go_wp2
      go_ret
      exact ⟨rfl, gr_trans s.1 hb⟩

end Go.Proofs.Ytjopobkcijkpmaa
