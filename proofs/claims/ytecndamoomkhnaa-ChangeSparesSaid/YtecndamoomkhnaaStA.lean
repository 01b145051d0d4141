/-
  Contracts: stamp.Seal.
-/
import Derived.Test.YtecndamoomkhnaaOctG
import Derived.Test.YtecndamoomkhnaaMem
namespace Go.Proofs.Ytecndamoomkhnaa
open Go.RowKit

theorem OB.cells8 {w : World} {base : Nat} {A : Option Addr} {c v : Nat} (h : OB w base (.slice A 8 c) (leB v 8)) :
    ∃ g, A = some ⟨g, 0, none⟩ ∧ base ≤ g ∧ g < w.heap.size ∧ 8 ≤ c ∧ ∀ j, j < 8 → w.cell? ⟨g, j, none⟩ = some (.int .u8 ((leB v 8).getD j 0).toNat) := by
  have hl := h.lt
  rcases h.2 with ⟨e, h0⟩ | ⟨g, cap, cur, e, hb, hg, hn, hm, hc, ht⟩
  · rw [leB_length] at h0; cases h0
  · injection e with e1 e2 e3
    subst e1 e3
    refine ⟨g, rfl, hb, (Array.getElem?_eq_some_iff.1 hg).1, by rw [leB_length] at hn; exact hn, fun j hj => ?_⟩
    have := h.cells (g := g) rfl j (bv ((leB v 8).getD j 0)) (by rw [List.getElem?_map, List.getElem?_eq_getElem (by rw [leB_length]; exact hj)]; simp [List.getD, List.getElem?_eq_getElem (show j < (leB v 8).length by rw [leB_length]; exact hj)])
    rw [add_plain] at this
    exact this

theorem seal_list (a l : List UInt8) (n : Nat) (ha : a.length = 8) (hl : l.length = n) (hn : n ≤ 4080) :
    splice (splice (splice (List.replicate 4096 (0 : UInt8)) 0 a) 8 l) 4088 a = a ++ (l ++ List.replicate (4080 - n) 0) ++ a := by
  have e1 : splice (List.replicate 4096 (0 : UInt8)) 0 a = a ++ List.replicate 4088 0 := by
    unfold splice
    rw [List.take_zero, List.nil_append, ha, List.drop_replicate]
  have e2 : splice (a ++ List.replicate 4088 (0 : UInt8)) 8 l = a ++ (l ++ List.replicate (4088 - n) 0) := by
    unfold splice
    rw [List.take_left' ha, List.drop_append, List.drop_eq_nil_of_le (by omega), List.nil_append, List.drop_replicate, ha, hl]
    congr 3
    omega
  rw [e1, e2]
  have e3 : List.replicate (4088 - n) (0 : UInt8) = List.replicate (4080 - n) 0 ++ List.replicate 8 0 := by
    rw [List.replicate_append_replicate]; congr 1; omega
  rw [e3]
  have e4 : a ++ (l ++ (List.replicate (4080 - n) (0 : UInt8) ++ List.replicate 8 0)) = (a ++ (l ++ List.replicate (4080 - n) 0)) ++ List.replicate 8 0 := by simp only [List.append_assoc]
  have e5 : (a ++ (l ++ List.replicate (4080 - n) (0 : UInt8))).length = 4088 := by simp only [List.length_append, List.length_replicate]; omega
  rw [e4]
  unfold splice
  rw [List.take_left' e5, List.drop_eq_nil_of_le (by rw [List.length_append, e5, List.length_replicate]; omega), List.append_nil]

set_option maxHeartbeats 400000 in
set_option maxRecDepth 100000 in
theorem Seal_fits (A : Option Addr) (n c v : Nat) (l : List UInt8) (w : World) (ha : BR w A n l) (hn : n ≤ 4080) (hv : v < 18446744073709551616) :
    Calls Try.prog 28 #[.slice A n c, .int .u64 v] w fun e w' => ∃ r, e = .returned (.tuple #[r, .int .i64 0]) ∧ OB w' w.heap.size r (leB v 8 ++ (l ++ List.replicate (4080 - n) 0) ++ leB v 8) ∧ Below w.heap.size w w' := by
  have hn' : decide ((4080 : Int) < (n : Int)) = false := by simp; omega
  have HV := Lib.hid hv
  have mk := run_mk_bytes 4096 (by omega) 4096 rfl
  clear hv
  go_enter Try.func28, Try.ntmps28
  go_wp2_with fail
  refine (Add64_any none 0 0 [] w v (BR.none_ _ _) (by omega) HV.out).mono ?_
  rintro e w1 ⟨v1, rfl, ho1, hb1⟩
  rw [List.nil_append] at ho1
  obtain ⟨A1, c1, rfl, r1, hc1, hm1⟩ := ho1.formN (n := 8) (by rw [leB_length])
  obtain ⟨g, rfl, hg1, hg2, hg3, hcell⟩ := ho1.cells8
  obtain ⟨x0, x1, x2, x3, x4, x5, x6, x7, hx⟩ : ∃ x0 x1 x2 x3 x4 x5 x6 x7, leB v 8 = [x0, x1, x2, x3, x4, x5, x6, x7] := ⟨_, _, _, _, _, _, _, _, rfl⟩
  rw [hx] at hcell
  have k0 : w1.cell? ⟨g, 0, none⟩ = some (.int .u8 (x0.toNat : Int)) := hcell 0 (by omega)
  have k1 : w1.cell? ⟨g, 1, none⟩ = some (.int .u8 (x1.toNat : Int)) := hcell 1 (by omega)
  have k2 : w1.cell? ⟨g, 2, none⟩ = some (.int .u8 (x2.toNat : Int)) := hcell 2 (by omega)
  have k3 : w1.cell? ⟨g, 3, none⟩ = some (.int .u8 (x3.toNat : Int)) := hcell 3 (by omega)
  have k4 : w1.cell? ⟨g, 4, none⟩ = some (.int .u8 (x4.toNat : Int)) := hcell 4 (by omega)
  have k5 : w1.cell? ⟨g, 5, none⟩ = some (.int .u8 (x5.toNat : Int)) := hcell 5 (by omega)
  have k6 : w1.cell? ⟨g, 6, none⟩ = some (.int .u8 (x6.toNat : Int)) := hcell 6 (by omega)
  have k7 : w1.cell? ⟨g, 7, none⟩ = some (.int .u8 (x7.toNat : Int)) := hcell 7 (by omega)
  have HX := Lib.hid hx
  clear hcell hx
  have hAt := fun W => run_arrayAt (P := Try.prog) W 91 5 8 (some ⟨g, 0, none⟩) 8 c1 Try.underlying91 (by omega)
  go_upto_region 4 with fail
  have hm : BR (w1.alloc (.cells #[.int .u8 (x0.toNat : Int), .int .u8 (x1.toNat : Int), .int .u8 (x2.toNat : Int), .int .u8 (x3.toNat : Int), .int .u8 (x4.toNat : Int), .int .u8 (x5.toNat : Int), .int .u8 (x6.toNat : Int), .int .u8 (x7.toNat : Int)] 91)) (some ⟨w1.heap.size, 0, none⟩) 8 (leB v 8) := by
    rw [HX.out]
    exact BR.litAt _ _ _ _ _ _ rfl rfl rfl
  have hb2 := gr_alloc hb1 (.cells #[.int .u8 (x0.toNat : Int), .int .u8 (x1.toNat : Int), .int .u8 (x2.toNat : Int), .int .u8 (x3.toNat : Int), .int .u8 (x4.toNat : Int), .int .u8 (x5.toNat : Int), .int .u8 (x6.toNat : Int), .int .u8 (x7.toNat : Int)] 91)
  have hsz : w1.heap.size < (w1.alloc (.cells #[.int .u8 (x0.toNat : Int), .int .u8 (x1.toNat : Int), .int .u8 (x2.toNat : Int), .int .u8 (x3.toNat : Int), .int .u8 (x4.toNat : Int), .int .u8 (x5.toNat : Int), .int .u8 (x6.toNat : Int), .int .u8 (x7.toNat : Int)] 91)).heap.size := by simp
  clear k0 k1 k2 k3 k4 k5 k6 k7 hAt HX ho1 r1 hg1 hg2 hg3
  generalize (w1.alloc (.cells #[.int .u8 (x0.toNat : Int), .int .u8 (x1.toNat : Int), .int .u8 (x2.toNat : Int), .int .u8 (x3.toNat : Int), .int .u8 (x4.toNat : Int), .int .u8 (x5.toNat : Int), .int .u8 (x6.toNat : Int), .int .u8 (x7.toNat : Int)] 91)) = W2 at *
  generalize w1.heap.size = g6 at *
  clear hb1
  have hB := BB.zero W2 4096
  have hm3 := hm.alloc (.cells (zeroB 4096) 5)
  have hb3 := gr_alloc hb2 (.cells (zeroB 4096) 5)
  have hsz3 : W2.heap.size < (W2.alloc (.cells (zeroB 4096) 5)).heap.size := by simp
  have hge := hb2.size
  have hla : (leB v 8).length = 8 := leB_length v 8
  have hll := ha.len
  generalize hZ : List.replicate 4096 (0 : UInt8) = Z at hB
  have hZl : Z.length = 4096 := by rw [← hZ, List.length_replicate]
  generalize hE1 : splice Z 0 (leB v 8) = L1
  generalize hE2 : splice L1 8 l = L2
  generalize hE3 : splice L2 4088 (leB v 8) = L3
  have hl1 : L1.length = 4096 := by rw [← hE1, length_splice _ _ _ (by omega)]; exact hZl
  have hl2 : L2.length = 4096 := by rw [← hE2, length_splice _ _ _ (by omega)]; exact hl1
  have hl3 : L3.length = 4096 := by rw [← hE3, length_splice _ _ _ (by omega)]; exact hl2
  have c1' := run_copy_B (W2.alloc (.cells (zeroB 4096) 5)) 3 W2.heap.size 0 4096 4096 _ _ (some ⟨W2.heap.size, 0, none⟩) _ 8 8 8 hB hm3 rfl (fun _ => rfl) (by omega)
  rw [List.take_of_length_le (by omega), hE1] at c1'
  have hb4 := setB_below hb3 hge L1
  have hB4 := hB.set_ L1
  have hm4 := BR.put (g := W2.heap.size) hm3 (by rintro ad e; cases e; show g6 ≠ W2.heap.size; omega) L1
  have c2' := run_copy_B _ 3 W2.heap.size 8 4088 4088 _ _ (some ⟨W2.heap.size, 8, none⟩) A n c n hB4 (ha.below hb4) (Nat.min_eq_left (by omega)) (fun _ => rfl) (by omega)
  rw [List.take_of_length_le (by omega), hE2, setB_setB] at c2'
  have hb5 := setB_below hb3 hge L2
  have hB5 := hB.set_ L2
  have hm5 := BR.put (g := W2.heap.size) hm3 (by rintro ad e; cases e; show g6 ≠ W2.heap.size; omega) L2
  have c3' := run_copy_B _ 3 W2.heap.size 4088 8 8 _ _ (some ⟨W2.heap.size, 4088, none⟩) _ 8 8 8 hB5.drew hm5.drew rfl (fun _ => rfl) (by omega)
  rw [List.take_of_length_le (by omega), hE3, setB_drew, setB_setB] at c3'
  have hB6 := hB.set_ L3
  have hb6 := setB_below hb3 hge L3
  have hfin : leB v 8 ++ (l ++ List.replicate (4080 - n) 0) ++ leB v 8 = L3 := by
    rw [← hE3, ← hE2, ← hE1, ← hZ]
    exact (seal_list (leB v 8) l n hla hll hn).symm
  have HF := Lib.hid hfin
  have HZ := Lib.hid hl3
  clear hfin hl1 hl2 hl3 hE1 hE2 hE3 hZ hZl hla hll hB hB4 hB5 hm3 hm4 hm5 hm hb2 hb4 hb5 hsz hsz3
  go_wp2_with fail
  go_region
  go_wp2
  go_ret2
  refine ⟨_, rfl, ?_, hb6.drew⟩
  have := hB6.drew.own (base := w.heap.size) (by omega) (by rw [HZ.out]; simp [maxLen])
  rw [HF.out]
  rw [HZ.out] at this
  exact this


set_option maxHeartbeats 400000 in
theorem Seal_long (A : Option Addr) (n c v : Nat) (w : World) (hn : 4080 < n) (hn2 : n ≤ 9223372036854775807) :
    Calls Try.prog 28 #[.slice A n c, .int .u64 v] w fun e w' => e = .returned (.tuple #[.slice none 0 0, .int .i64 3]) ∧ w = w' := by
  go_enter Try.func28, Try.ntmps28
  go_wp2
  go_ret2
  exact ⟨rfl, rfl⟩

end Go.Proofs.Ytecndamoomkhnaa
