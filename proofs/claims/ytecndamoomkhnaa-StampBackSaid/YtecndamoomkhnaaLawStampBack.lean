/-
  The walk of StampBack.
-/
import Derived.Test.YtecndamoomkhnaaLawStampTells
namespace Go.Proofs.Ytecndamoomkhnaa
open Go.RowKit

set_option maxHeartbeats 2000000 in
set_option maxRecDepth 100000 in
theorem StampBack_long (A : Option Addr) (n c : Nat) (l : List UInt8) (x y : Nat) (w : World) (ha : BR w A n l) (hn : 4080 < n) (hn2 : n ≤ 140737488351232) :
    Calls Try.prog 11 #[.slice A n c, .int .u32 x, .int .u32 y] w fun e w' => e = .returned (.bool true) ∧ Below w.heap.size w w' := by
  have h1 : decide ((4080 : Int) < (n : Int)) = true := by simp; omega
  go_enter Try.func11, Try.ntmps11
  go_wp2_with fail
  refine (Seal_long A n c 1 w hn (by omega)).mono ?_
  rintro e w' ⟨rfl, rfl⟩
  go_wp2_with fail
  refine (awake04_any _).mono ?_
  rintro e w1 ⟨rfl, hb1⟩
  go_wp2
  go_ret
  exact ⟨rfl, hb1⟩

set_option maxHeartbeats 2000000 in
set_option maxRecDepth 100000 in
theorem StampBack_walk (A : Option Addr) (n c : Nat) (l : List UInt8) (x y : Nat) (w : World) (ha : BR w A n l) (hn : n ≤ 4080) (hx : x < 4294967296) (hy : y < 4294967296) :
    Calls Try.prog 11 #[.slice A n c, .int .u32 x, .int .u32 y] w fun e w' => e = .returned (.bool true) ∧ Below w.heap.size w w' := by
  have h1 : decide ((4080 : Int) < (n : Int)) = false := by simp; omega
  obtain ⟨i0, hi0, hz0, hz1, hz2⟩ := info_parts info_u8
  have hl := ha.len
  have hN : (x : Int) % 4294967296 * 4294967296 + (y : Int) % 4294967296 = ((x * 4294967296 + y : Nat) : Int) := by omega
  have hN1 : (x * 4294967296 + y) / 4294967296 = x := by omega
  have hN2 : (x * 4294967296 + y) % 4294967296 = y := by omega
  have hN3 : x * 4294967296 + y < 18446744073709551616 := by omega
  generalize x * 4294967296 + y = N at *
  have e1 : leN (leB N 8) = N := by rw [leN_leB]; exact Nat.mod_eq_of_lt (by omega)
  generalize hP : l ++ List.replicate (4080 - n) 0 = P at *
  have hPl : P.length = 4080 := by rw [← hP, List.length_append, List.length_replicate]; omega
  have hPt : P.take n = l := by rw [← hP]; exact List.take_left' hl
  have hPz : ∀ j, n ≤ j → P.getD j 0 = 0 := by
    intro j hj
    rw [← hP]
    simp only [List.getD]
    rw [List.getElem?_append_right (by omega)]
    rw [List.getElem?_replicate]
    split <;> rfl
  have hA : (leB N 8).length = 8 := leB_length _ _
  obtain ⟨o1, o2, o3⟩ := open_seal (leB N 8) P hA hPl
  rw [e1] at o2
  have hL : (leB N 8 ++ P ++ leB N 8).length = 4096 := by simp only [List.length_append, hA, hPl]
  have hS2 : leB N 8 ++ (P ++ List.replicate (4080 - 4080) 0) ++ leB N 8 = leB N 8 ++ P ++ leB N 8 := by simp
  generalize hLL : leB N 8 ++ P ++ leB N 8 = L at *
  have HN := Lib.hid hN
  have HN1 := Lib.hid hN1
  have HN2 := Lib.hid hN2
  have HN3 := Lib.hid hN3
  have HLL := Lib.hid hLL
  have HP := Lib.hid hP
  have HO1 := Lib.hid o1
  have HO2 := Lib.hid o2
  have HO3 := Lib.hid o3
  have HL := Lib.hid hL
  have HPL := Lib.hid hPl
  have HPT := Lib.hid hPt
  have HPZ := Lib.hid hPz
  have HS2 := Lib.hid hS2
  clear hN hN1 hN2 hN3 hLL hP o1 o2 o3 hL hPl hPt hPz hA e1 hl hS2
  have hx' : x ≤ 4294967295 := by omega
  have hy' : y ≤ 4294967295 := by omega
  go_enter Try.func11, Try.ntmps11
  go_wp2_with fail
  refine (Of_any x y _).mono ?_
  rintro e w' ⟨rfl, rfl⟩
  rw [HN.out]
  go_wp2_with fail
  refine (Seal_fits A n c N l w ha hn HN3.out).mono ?_
  rw [HP.out, HLL.out]
  rintro e w1 ⟨v1, rfl, ho1, hb1⟩
  obtain ⟨A1, c1, rfl, r1, hc1, hm1⟩ := ho1.formN (n := 4096) HL.out
  go_wp2_with fail
  refine (Open_any A1 c1 L _ r1 hc1).mono ?_
  rw [HO1.out, HO2.out, HO3.out]
  rintro e w2 ⟨v2, rfl, ho2, hb2⟩
  obtain ⟨A2, c2, rfl, r2, hc2, hm2⟩ := ho2.formN (n := 4080) HPL.out
  have hb3 := gr_trans hb1 hb2
  have ho1' := ho1.below hb2
  clear ho1 hb1 hb2 r1
  go_wp2_with fail
  refine (Parts_any N _ HN3.out).mono ?_
  rw [HN1.out, HN2.out]
  rintro e w' ⟨rfl, rfl⟩
  have hcut := fun W => run_cut_h (P := Try.prog) W 22 5 i0 Try.underlying22 hi0 1 hz1 A2 4080 c2 (n : Int) n rfl (by omega)
  have r3 := r2.pre (j := n) hn
  rw [HPT.out] at r3
  go_wp2_with fail
  refine (SameBytes_any A2 A n n c2 c l l _ r3 (ha.below hb3)).mono ?_
  rw [beq_self_eq_true]
  rintro e w' ⟨rfl, rfl⟩
  go_wp2_with fail
  go_loopw [6, 17] (fun r i wr => ∃ j : Nat, n ≤ j ∧ j ≤ 4080 ∧ r = .bool false ∧ i = .int .i64 j ∧ w2 = wr) (fun _ i _ => 4080 - (intOf i).toNat)
  case atStart => exact ⟨n, Nat.le_refl _, hn, rfl, rfl, rfl⟩
  case round =>
    obtain ⟨j, hj1, hj2, rfl, rfl, rfl⟩ := hrel
    by_cases hlt : j < 4080
    · obtain ⟨g, o, rfl, hc⟩ := r2.at_ (k := j) hlt
      rw [HPZ.out j hj1] at hc
      have hlt' : decide ((j : Int) < 4080) = true := by simp; omega
      go_wp2_with fail
      go_roundw
      case rel => exact ⟨j + 1, by omega, by omega, by first | rfl | trivial, by go_num, by first | rfl | trivial⟩
      case measure => simp [intOf]; omega
    · have hlt' : decide ((j : Int) < 4080) = false := by simp; omega
      go_wp2_with fail
      refine (Seal_fits A2 4080 c2 N P w2 r2 (by omega) HN3.out).mono ?_
      rw [HS2.out]
      rintro e w3 ⟨v3, rfl, ho3, hb4⟩
      go_wp2_with fail
      refine (SameBytes_own _ _ _ _ (ho1'.below hb4) ho3).mono ?_
      rintro e w' ⟨rfl, rfl⟩
      go_wp2_with fail
      refine (awake04_any _).mono ?_
      rintro e w4 ⟨rfl, hb5⟩
      go_wp2
      go_ret
      exact ⟨rfl, gr_trans (gr_trans hb3 hb4) hb5⟩

theorem StampBack_any (A : Option Addr) (n c : Nat) (l : List UInt8) (x y : Nat) (w : World) (ha : BR w A n l) (hn : n ≤ 140737488351232) (hx : x < 4294967296) (hy : y < 4294967296) :
    Calls Try.prog 11 #[.slice A n c, .int .u32 x, .int .u32 y] w fun e w' => e = .returned (.bool true) ∧ Below w.heap.size w w' := by
  by_cases h : n ≤ 4080
  · exact StampBack_walk A n c l x y w ha h hx hy
  · exact StampBack_long A n c l x y w ha (by omega) hn

end Go.Proofs.Ytecndamoomkhnaa
