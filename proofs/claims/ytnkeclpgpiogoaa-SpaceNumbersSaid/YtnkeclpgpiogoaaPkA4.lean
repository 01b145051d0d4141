/-
  Texts of this claim, joined: Pick, RdQ, StA, StB, StC, JnA, RgA, RgB, Rgn, RgC, JnB, JnD, JnE, JnG, JnC, JnF, PlJ, PlK, PlY, JnI. No statement of the program is proved here.
-/
import Derived.Test.YtnkeclpgpiogoaaPkA1
import Derived.Test.YtnkeclpgpiogoaaPkA3
import Derived.Test.YtnkeclpgpiogoaaPkA2
/-! Pick -/
namespace Go.Proofs.Ytnkeclpgpiogoaa
open Go.RowKit
end Go.Proofs.Ytnkeclpgpiogoaa

/-! RdQ -/
namespace Go.Proofs.Ytnkeclpgpiogoaa
open Go.RowKit
/-! Plain. -/
theorem encR_pos (r : Rec) : 4 ≤ (encR r).length := by rw [encR_len]; omega
theorem joinE_ge : ∀ (rs : List Rec), 4 * rs.length ≤ (joinE rs).length
 | [] => by simp
 | r :: rs => by
  have := joinE_ge rs
  have := encR_pos r
  simp only [joinE, List.length_append, List.length_cons]
  omega
/-! Memory. -/
theorem IR.of_own {w : World} {base : Nat} {n c : Nat} {A : Option Addr} {l : List Int} (h : w.ownsRow base 3 1 (.slice A n c) n (l.map (Value.int .i64))) : IR w A n l := Rd.of_own h
section
variable {w0 w w4 : World} {v v4 : Value} {rs : List Rec}
end
end Go.Proofs.Ytnkeclpgpiogoaa

/-! StA -/
namespace Go.Proofs.Ytnkeclpgpiogoaa
open Go.RowKit
theorem OB.cells8 {w : World} {base : Nat} {A : Option Addr} {c v : Nat} (h : OB w base (.slice A 8 c) (leB v 8)) :
  ∃ g, A = some ⟨g, 0, none⟩ ∧ base ≤ g ∧ g < w.heap.size ∧ 8 ≤ c ∧ ∀ j, j < 8 → w.cell? ⟨g, j, none⟩ = some (.int .u8 ((leB v 8).getD j 0).toNat) := by
 have hl := h.lt
 rcases h.2 with ⟨e, h0⟩ | ⟨g, cap, cur, e, hb, hg, hn, hm, hc, ht⟩
 ·rw [leB_length] at h0; cases h0
 ·injection e with e1 e2 e3
  subst e1 e3
  refine ⟨g, rfl, hb, (Array.getElem?_eq_some_iff.1 hg).1, by rw [leB_length] at hn; exact hn, fun j hj => ?_⟩
  have := h.cells (g := g) rfl j (bv ((leB v 8).getD j 0)) (by rw [List.getElem?_map, List.getElem?_eq_getElem (by rw [leB_length]; exact hj)]; simp [List.getD, List.getElem?_eq_getElem (show j < (leB v 8).length by rw [leB_length]; exact hj)])
  rw [add_plain] at this
  exact this
theorem seal_list (a l : List UInt8) (n : Nat) (ha : a.length = 8) (hl : l.length = n) (hn : n ≤ 4080) :
  splice (splice (splice (List.replicate 4096 (0 : UInt8)) 0 a) 8 l) 4088 a = a ++ (l ++ List.replicate (4080 - n) 0) ++ a := by
 have e1 : splice (List.replicate 4096 (0 : UInt8)) 0 a = a ++ List.replicate 4088 0 := by
  unfold splice
  rw [List.take_zero, List.nil_append, ha, List.drop_replicate]
 have e2 : splice (a ++ List.replicate 4088 (0 : UInt8)) 8 l = a ++ (l ++ List.replicate (4088 - n) 0) := by
  unfold splice
  rw [List.take_left' ha, List.drop_append, List.drop_eq_nil_of_le (by omega), List.nil_append, List.drop_replicate, ha, hl]
  congr 3
  omega
 rw [e1, e2]
 have e3 : List.replicate (4088 - n) (0 : UInt8) = List.replicate (4080 - n) 0 ++ List.replicate 8 0 := by
  rw [List.replicate_append_replicate]; congr 1; omega
 rw [e3]
 have e4 : a ++ (l ++ (List.replicate (4080 - n) (0 : UInt8) ++ List.replicate 8 0)) = (a ++ (l ++ List.replicate (4080 - n) 0)) ++ List.replicate 8 0 := by simp only [List.append_assoc]
 have e5 : (a ++ (l ++ List.replicate (4080 - n) (0 : UInt8))).length = 4088 := by simp only [List.length_append, List.length_replicate]; omega
 rw [e4]
 unfold splice
 rw [List.take_left' e5, List.drop_eq_nil_of_le (by rw [List.length_append, e5, List.length_replicate]; omega), List.append_nil]
set_option maxHeartbeats 400000 in
set_option maxRecDepth 100000 in
theorem Seal_fits (A : Option Addr) (n c v : Nat) (l : List UInt8) (w : World) (ha : BR w A n l) (hn : n ≤ 4080) (hv : v < 18446744073709551616) :
  Calls Try.prog 50 #[.slice A n c, .int .u64 v] w fun e w' => ∃ r, e = .returned (.tuple #[r, .int .i64 0]) ∧ OB w' w.heap.size r (leB v 8 ++ (l ++ List.replicate (4080 - n) 0) ++ leB v 8) ∧ Below w.heap.size w w' := by
 have hn' : decide ((4080 : Int) < (n : Int)) = false := by simp; omega
 have HV := Lib.hid hv
 have mk := run_mk_bytes 4096 (by omega) 4096 rfl
 clear hv
 go_enter Try.func50, Try.ntmps50
 go_wp2_with fail
 refine (Add64_any none 0 0 [] w v (BR.none_ _ _) (by omega) HV.out).mono ?_
 rintro e w1 ⟨v1, rfl, ho1, hb1⟩
 rw [List.nil_append] at ho1
 obtain ⟨A1, c1, rfl, r1, hc1, hm1⟩ := ho1.formN (n := 8) (by rw [leB_length])
 obtain ⟨g, rfl, hg1, hg2, hg3, hcell⟩ := ho1.cells8
 obtain ⟨x0, x1, x2, x3, x4, x5, x6, x7, hx⟩ : ∃ x0 x1 x2 x3 x4 x5 x6 x7, leB v 8 = [x0, x1, x2, x3, x4, x5, x6, x7] := ⟨_, _, _, _, _, _, _, _, rfl⟩
 rw [hx] at hcell
 have k0 : w1.cell? ⟨g, 0, none⟩ = some (.int .u8 (x0.toNat : Int)) := hcell 0 (by omega)
 have k1 : w1.cell? ⟨g, 1, none⟩ = some (.int .u8 (x1.toNat : Int)) := hcell 1 (by omega)
 have k2 : w1.cell? ⟨g, 2, none⟩ = some (.int .u8 (x2.toNat : Int)) := hcell 2 (by omega)
 have k3 : w1.cell? ⟨g, 3, none⟩ = some (.int .u8 (x3.toNat : Int)) := hcell 3 (by omega)
 have k4 : w1.cell? ⟨g, 4, none⟩ = some (.int .u8 (x4.toNat : Int)) := hcell 4 (by omega)
 have k5 : w1.cell? ⟨g, 5, none⟩ = some (.int .u8 (x5.toNat : Int)) := hcell 5 (by omega)
 have k6 : w1.cell? ⟨g, 6, none⟩ = some (.int .u8 (x6.toNat : Int)) := hcell 6 (by omega)
 have k7 : w1.cell? ⟨g, 7, none⟩ = some (.int .u8 (x7.toNat : Int)) := hcell 7 (by omega)
 have HX := Lib.hid hx
 clear hcell hx
 have hAt := fun W => run_arrayAt (P := Try.prog) W 125 5 8 (some ⟨g, 0, none⟩) 8 c1 Try.underlying125 (by omega)
 go_upto_region 4 with fail
 have hm : BR (w1.alloc (.cells #[.int .u8 (x0.toNat : Int), .int .u8 (x1.toNat : Int), .int .u8 (x2.toNat : Int), .int .u8 (x3.toNat : Int), .int .u8 (x4.toNat : Int), .int .u8 (x5.toNat : Int), .int .u8 (x6.toNat : Int), .int .u8 (x7.toNat : Int)] 125)) (some ⟨w1.heap.size, 0, none⟩) 8 (leB v 8) := by
  rw [HX.out]
  exact BR.litAt _ _ _ _ _ _ rfl rfl rfl
 have hb2 := gr_alloc hb1 (.cells #[.int .u8 (x0.toNat : Int), .int .u8 (x1.toNat : Int), .int .u8 (x2.toNat : Int), .int .u8 (x3.toNat : Int), .int .u8 (x4.toNat : Int), .int .u8 (x5.toNat : Int), .int .u8 (x6.toNat : Int), .int .u8 (x7.toNat : Int)] 125)
 have hsz : w1.heap.size < (w1.alloc (.cells #[.int .u8 (x0.toNat : Int), .int .u8 (x1.toNat : Int), .int .u8 (x2.toNat : Int), .int .u8 (x3.toNat : Int), .int .u8 (x4.toNat : Int), .int .u8 (x5.toNat : Int), .int .u8 (x6.toNat : Int), .int .u8 (x7.toNat : Int)] 125)).heap.size := by simp
 clear k0 k1 k2 k3 k4 k5 k6 k7 hAt HX ho1 r1 hg1 hg2 hg3
 generalize (w1.alloc (.cells #[.int .u8 (x0.toNat : Int), .int .u8 (x1.toNat : Int), .int .u8 (x2.toNat : Int), .int .u8 (x3.toNat : Int), .int .u8 (x4.toNat : Int), .int .u8 (x5.toNat : Int), .int .u8 (x6.toNat : Int), .int .u8 (x7.toNat : Int)] 125)) = W2 at *
 generalize w1.heap.size = g6 at *
 clear hb1
 have hB := BB.zero W2 4096
 have hm3 := hm.alloc (.cells (zeroB 4096) 5)
 have hb3 := gr_alloc hb2 (.cells (zeroB 4096) 5)
 have hsz3 : W2.heap.size < (W2.alloc (.cells (zeroB 4096) 5)).heap.size := by simp
 have hge := hb2.size
 have hla : (leB v 8).length = 8 := leB_length v 8
 have hll := ha.len
 generalize hZ : List.replicate 4096 (0 : UInt8) = Z at hB
 have hZl : Z.length = 4096 := by rw [← hZ, List.length_replicate]
 generalize hE1 : splice Z 0 (leB v 8) = L1
 generalize hE2 : splice L1 8 l = L2
 generalize hE3 : splice L2 4088 (leB v 8) = L3
 have hl1 : L1.length = 4096 := by rw [← hE1, length_splice _ _ _ (by omega)]; exact hZl
 have hl2 : L2.length = 4096 := by rw [← hE2, length_splice _ _ _ (by omega)]; exact hl1
 have hl3 : L3.length = 4096 := by rw [← hE3, length_splice _ _ _ (by omega)]; exact hl2
 have c1' := run_copy_B (W2.alloc (.cells (zeroB 4096) 5)) 3 W2.heap.size 0 4096 4096 _ _ (some ⟨W2.heap.size, 0, none⟩) _ 8 8 8 hB hm3 rfl (fun _ => rfl) (by omega)
 rw [List.take_of_length_le (by omega), hE1] at c1'
 have hb4 := setB_below hb3 hge L1
 have hB4 := hB.set_ L1
 have hm4 := BR.put (g := W2.heap.size) hm3 (by rintro ad e; cases e; show g6 ≠ W2.heap.size; omega) L1
 have c2' := run_copy_B _ 3 W2.heap.size 8 4088 4088 _ _ (some ⟨W2.heap.size, 8, none⟩) A n c n hB4 (ha.below hb4) (Nat.min_eq_left (by omega)) (fun _ => rfl) (by omega)
 rw [List.take_of_length_le (by omega), hE2, setB_setB] at c2'
 have hb5 := setB_below hb3 hge L2
 have hB5 := hB.set_ L2
 have hm5 := BR.put (g := W2.heap.size) hm3 (by rintro ad e; cases e; show g6 ≠ W2.heap.size; omega) L2
 have c3' := run_copy_B _ 3 W2.heap.size 4088 8 8 _ _ (some ⟨W2.heap.size, 4088, none⟩) _ 8 8 8 hB5.drew hm5.drew rfl (fun _ => rfl) (by omega)
 rw [List.take_of_length_le (by omega), hE3, setB_drew, setB_setB] at c3'
 have hB6 := hB.set_ L3
 have hb6 := setB_below hb3 hge L3
 have hfin : leB v 8 ++ (l ++ List.replicate (4080 - n) 0) ++ leB v 8 = L3 := by
  rw [← hE3, ← hE2, ← hE1, ← hZ]
  exact (seal_list (leB v 8) l n hla hll hn).symm
 have HF := Lib.hid hfin
 have HZ := Lib.hid hl3
 clear hfin hl1 hl2 hl3 hE1 hE2 hE3 hZ hZl hla hll hB hB4 hB5 hm3 hm4 hm5 hm hb2 hb4 hb5 hsz hsz3
 go_wp2_with fail
 go_region
 go_wp2
 go_ret2
 refine ⟨_, rfl, ?_, hb6.drew⟩
 have := hB6.drew.own (base := w.heap.size) (by omega) (by rw [HZ.out]; simp [maxLen])
 rw [HF.out]
 rw [HZ.out] at this
 exact this
end Go.Proofs.Ytnkeclpgpiogoaa

/-! StB -/
namespace Go.Proofs.Ytnkeclpgpiogoaa
open Go.RowKit
def sealed (l : List UInt8) : Bool := (l.take 8) == (l.drop 4088)
def openP (l : List UInt8) : List UInt8 := if sealed l then (l.drop 8).take 4080 else []
def openS (l : List UInt8) : Nat := if sealed l then leN (l.take 8) else 0
def openE (l : List UInt8) : Int := if sealed l then 0 else 140
theorem map_toNat_inj {a b : List UInt8} : ((a.map fun x => ((x.toNat : Nat) : Int)) == (b.map fun x => ((x.toNat : Nat) : Int))) = (a == b) := by
 rw [Bool.eq_iff_iff]
 simp only [beq_iff_eq]
 constructor
 ·intro h
  have := congrArg (List.map (fun n : Int => UInt8.ofNat n.toNat)) h
  rwa [ofNat_toNat_bytes, ofNat_toNat_bytes] at this
 ·rintro rfl; rfl
set_option maxHeartbeats 1000000 in
set_option maxRecDepth 100000 in
theorem Open_any (A : Option Addr) (c : Nat) (l : List UInt8) (w : World) (ha : BR w A 4096 l) (hc : 4096 ≤ c) :
  Calls Try.prog 42 #[.slice A 4096 c] w fun e w' => ∃ r, e = .returned (.tuple #[r, .int .u64 ((openS l : Nat) : Int), .int .i64 (openE l)]) ∧ OB w' w.heap.size r (openP l) ∧ Below w.heap.size w w' := by
 obtain ⟨g, o, rfl, hcell⟩ := Rd.plain ha (by omega) (by omega)
 have hl := ha.len
 obtain ⟨i0, hi0, hz0, hz1, hz2⟩ := info_parts info_u8
 have hx := ha.cut (k := 0) (j := 8) (c := c) (by omega) (by omega) hc
 have hy := ha.cut (k := 4088) (j := 4096) (c := c) (by omega) (by omega) hc
 have e1 : cutA (some ⟨g, o, none⟩) c 0 1 = some ⟨g, o, none⟩ := by unfold cutA; rw [if_neg (by omega)]; rfl
 have e2 : cutA (some ⟨g, o, none⟩) c 4088 1 = some ⟨g, o + 4088, none⟩ := by unfold cutA; rw [if_neg (by omega)]; rfl
 rw [e1, List.drop_zero] at hx
 rw [e2, List.take_of_length_le (by rw [List.length_drop]; omega)] at hy
 have hsel : sealed l = (l.take 8 == l.drop 4088) := rfl
 have h8 : openS l = if sealed l then leN (l.take 8) else 0 := rfl
 obtain ⟨x0, x1, x2, x3, x4, x5, x6, x7, hX⟩ := list8 (l.take 8) (by rw [List.length_take]; omega)
 obtain ⟨y0, y1, y2, y3, y4, y5, y6, y7, hY⟩ := list8 (l.drop 4088) (by rw [List.length_drop]; omega)
 rw [hX] at hx hsel h8
 rw [hY] at hy hsel
 obtain ⟨k0, k1, k2, k3, k4, k5, k6, k7⟩ := BR.cells8 hx
 obtain ⟨m0, m1, m2, m3, m4, m5, m6, m7⟩ := BR.cells8 hy
 have heq := fun W => run_eqArr (P := Try.prog) W 9998 125 5 i0 .u8 8 Try.underlying125 Try.underlying5 hi0 hz1 ([x0, x1, x2, x3, x4, x5, x6, x7].map fun x => ((x.toNat : Nat) : Int)) ([y0, y1, y2, y3, y4, y5, y6, y7].map fun x => ((x.toNat : Nat) : Int)) rfl rfl
 simp only [map_toNat_inj, ← hsel] at heq
 simp only [List.map_cons, List.map_nil] at heq
 have hgl : g < w.heap.size := World.block_lt_of_cell? w _ k0
 have hAt := fun W A2 n2 c2 (h : 8 ≤ n2) => run_arrayAt (P := Try.prog) W 125 5 8 A2 n2 c2 Try.underlying125 h
 have hcut := fun W => run_cut_lh (P := Try.prog) W 37 5 i0 Try.underlying37 hi0 1 hz1 (some ⟨g, o, none⟩) 4096 c 8 4088 8 4088 rfl rfl (by omega) (by omega)
 have e3 : cutA (some ⟨g, o, none⟩) c 8 1 = some ⟨g, o + 8, none⟩ := by unfold cutA; rw [if_neg (by omega)]; rfl
 have hpay := ha.cut (k := 8) (j := 4088) (c := c) (by omega) (by omega) hc
 rw [e3] at hcut hpay
 have H8 := Lib.hid h8
 have HP : Hid (openP l = if sealed l then (l.drop 8).take 4080 else []) := rfl
 have HE : Hid (openE l = if sealed l then 0 else 140) := rfl
 have HSL := Lib.hid hsel
 clear hcell hl e1 e2 e3 hX hY hsel h8
 generalize sealed l = sl at *
 go_enter Try.func42, Try.ntmps42
 go_upto_region 3 with fail
 go_cut [5, 6] (fun s5 s6 wx => ∃ g5 g6 : Nat, s5 = .pointer (some ⟨g5, 0, none⟩) ∧ s6 = .pointer (some ⟨g6, 0, none⟩) ∧ BR wx (some ⟨g5, 0, none⟩) 8 [x0, x1, x2, x3, x4, x5, x6, x7] ∧ BR wx (some ⟨g6, 0, none⟩) 8 [y0, y1, y2, y3, y4, y5, y6, y7] ∧ Below w.heap.size w wx)
 case first =>
  go_region
  all_goals (go_wp2_with fail; go_meet)
  ·exact ⟨_, _, rfl, rfl, BR.drew (BR.alloc (BR.litAt w _ [x0, x1, x2, x3, x4, x5, x6, x7] _ _ _ rfl rfl rfl) _), BR.drew (BR.litAt _ _ [y0, y1, y2, y3, y4, y5, y6, y7] _ _ _ (by simp) rfl rfl), Below.drew (gr_alloc (gr_alloc (gr_refl _) _) _)⟩
  ·exact ⟨_, _, rfl, rfl, BR.drew (BR.litAt _ _ [x0, x1, x2, x3, x4, x5, x6, x7] _ _ _ (by simp) rfl rfl), BR.drew (BR.alloc (BR.litAt w _ [y0, y1, y2, y3, y4, y5, y6, y7] _ _ _ rfl rfl rfl) _), Below.drew (gr_alloc (gr_alloc (gr_refl _) _) _)⟩
 case rest =>
  obtain ⟨g5, g6, rfl, rfl, r5, r6, hbx⟩ := hcut
  clear k0 k1 k2 k3 k4 k5 k6 k7 m0 m1 m2 m3 m4 m5 m6 m7
  obtain ⟨k0, k1, k2, k3, k4, k5, k6, k7⟩ := BR.cells8 r5
  obtain ⟨m0, m1, m2, m3, m4, m5, m6, m7⟩ := BR.cells8 r6
  rw [Nat.zero_add] at k1 k2 k3 k4 k5 k6 k7 m1 m2 m3 m4 m5 m6 m7
  cases sl with
  | false =>
   go_wp2_with fail
   go_ret3
   refine ⟨_, by rw [H8.out, HE.out]; rfl, ?_, hbx⟩
   rw [HP.out]
   exact OB.nil _ _
  | true =>
   go_wp2_with fail
   refine (U64_any (some ⟨g5, 0, none⟩) 8 8 [x0, x1, x2, x3, x4, x5, x6, x7] _ 0 r5 (by omega) (by omega) (by omega)).mono ?_
   have e5 : numAt [x0, x1, x2, x3, x4, x5, x6, x7] 0 8 = some (leN [x0, x1, x2, x3, x4, x5, x6, x7]) := by
    unfold numAt
    rw [if_neg (by simp)]
    rfl
   rw [e5]
   clear e5
   simp only [Option.getD_some, Option.isSome_some]
   generalize hq : leN [x0, x1, x2, x3, x4, x5, x6, x7] = q
   have HQ := Lib.hid hq
   clear hq
   rintro e w' ⟨rfl, rfl⟩
   go_wp2_with fail
   refine (Clone_any _ 4080 _ _ _ (hpay.below hbx) (by omega)).mono ?_
   rintro e w2 ⟨r, rfl, ho, hb2⟩
   go_wp2
   go_ret3
   refine ⟨r, by rw [H8.out, HE.out, HQ.out]; rfl, ?_, gr_trans hbx hb2⟩
   rw [HP.out]
   exact OB.lower ho hbx.size
end Go.Proofs.Ytnkeclpgpiogoaa

/-! StC -/
namespace Go.Proofs.Ytnkeclpgpiogoaa
open Go.RowKit
set_option maxHeartbeats 400000 in
theorem Of_any (a b : Int) (w : World) :
  Calls Try.prog 60 #[.int .i64 a, .int .i64 b] w fun e w' => e = .returned (.int .u64 (a % 4294967296 * 4294967296 + b % 4294967296)) ∧ w = w' := by
 go_enter Try.func60, Try.ntmps60
 go_wp2
 go_ret
 refine ⟨ret_i ?_, rfl⟩
 have h1 := Int.emod_nonneg a (show (4294967296 : Int) ≠ 0 by decide)
 have h2 := Int.emod_lt_of_pos a (show (0 : Int) < 4294967296 by decide)
 have h3 := Int.emod_nonneg b (show (4294967296 : Int) ≠ 0 by decide)
 have h4 := Int.emod_lt_of_pos b (show (0 : Int) < 4294967296 by decide)
 generalize a % 4294967296 = x at *
 generalize b % 4294967296 = y at *
 obtain ⟨x, rfl⟩ := Int.eq_ofNat_of_zero_le h1
 obtain ⟨y, rfl⟩ := Int.eq_ofNat_of_zero_le h3
 have e : ((x : Int) * 4294967296) = ((x * 4294967296 : Nat) : Int) := by simp
 rw [e, u64_or_nat _ _ (by omega) (by omega), nat_join 32 _ _ (by omega) (by omega)]
 simp
end Go.Proofs.Ytnkeclpgpiogoaa

/-! JnA -/
namespace Go.Proofs.Ytnkeclpgpiogoaa
open Go Go.RowKit
structure JnS where
 fi : Nat
 bl : Nat
 ep : Nat
 pl : Nat
 ct : Nat
 us : Nat
 la : Nat
 sy : Nat
 waits : List UInt8
 br : Bool
def JB (w : World) (gj gd : Nat) (J : JnS) (wv : Value) : Prop :=
 w.heap[gj]? = some (.cells #[.pointer (some ⟨gd, 0, none⟩), .int .i64 (J.fi : Int), .int .i64 (J.bl : Int), .int .i64 (J.ep : Int), .pointer (some ⟨gj, 0, none⟩), .int .i64 (J.pl : Int), .int .i64 (J.ct : Int), .int .i64 (J.us : Int), wv, .int .i64 (J.la : Int), .int .i64 (J.sy : Int), .bool J.br] 86 (0, 0))
section
variable {w w' : World} {gj gd : Nat} {J : JnS} {wv : Value}
theorem JB.lt (h : JB w gj gd J wv) : gj < w.heap.size := (Array.getElem?_eq_some_iff.1 h).1
theorem JB.off {S : Nat → Prop} (h : JB w gj gd J wv) (ho : Off S w w') (hs : ¬ S gj) : JB w' gj gd J wv := (ho.block gj h.lt hs).trans h
theorem JB.below (h : JB w gj gd J wv) (hb : Below w.heap.size w w') : JB w' gj gd J wv := (hb.block gj h.lt).trans h
theorem JB.frozen (h : JB w gj gd J wv) (j : Nat) : w.frozen? ⟨gj, j, none⟩ = false := by unfold JB at h; simp [World.frozen?, h]
theorem JB.c0 (h : JB w gj gd J wv) : w.cell? ⟨gj, 0, none⟩ = some (.pointer (some ⟨gd, 0, none⟩)) := by rw [cell_of_row w gj 0 _ _ _ h]; rfl
theorem JB.c1 (h : JB w gj gd J wv) : w.cell? ⟨gj, 1, none⟩ = some (.int .i64 (J.fi : Int)) := by rw [cell_of_row w gj 1 _ _ _ h]; rfl
theorem JB.c2 (h : JB w gj gd J wv) : w.cell? ⟨gj, 2, none⟩ = some (.int .i64 (J.bl : Int)) := by rw [cell_of_row w gj 2 _ _ _ h]; rfl
theorem JB.c3 (h : JB w gj gd J wv) : w.cell? ⟨gj, 3, none⟩ = some (.int .i64 (J.ep : Int)) := by rw [cell_of_row w gj 3 _ _ _ h]; rfl
theorem JB.c4 (h : JB w gj gd J wv) : w.cell? ⟨gj, 4, none⟩ = some (.pointer (some ⟨gj, 0, none⟩)) := by rw [cell_of_row w gj 4 _ _ _ h]; rfl
theorem JB.c5 (h : JB w gj gd J wv) : w.cell? ⟨gj, 5, none⟩ = some (.int .i64 (J.pl : Int)) := by rw [cell_of_row w gj 5 _ _ _ h]; rfl
theorem JB.c6 (h : JB w gj gd J wv) : w.cell? ⟨gj, 6, none⟩ = some (.int .i64 (J.ct : Int)) := by rw [cell_of_row w gj 6 _ _ _ h]; rfl
theorem JB.c7 (h : JB w gj gd J wv) : w.cell? ⟨gj, 7, none⟩ = some (.int .i64 (J.us : Int)) := by rw [cell_of_row w gj 7 _ _ _ h]; rfl
theorem JB.c8 (h : JB w gj gd J wv) : w.cell? ⟨gj, 8, none⟩ = some (wv) := by rw [cell_of_row w gj 8 _ _ _ h]; rfl
theorem JB.c9 (h : JB w gj gd J wv) : w.cell? ⟨gj, 9, none⟩ = some (.int .i64 (J.la : Int)) := by rw [cell_of_row w gj 9 _ _ _ h]; rfl
theorem JB.c10 (h : JB w gj gd J wv) : w.cell? ⟨gj, 10, none⟩ = some (.int .i64 (J.sy : Int)) := by rw [cell_of_row w gj 10 _ _ _ h]; rfl
theorem JB.c11 (h : JB w gj gd J wv) : w.cell? ⟨gj, 11, none⟩ = some (.bool J.br) := by rw [cell_of_row w gj 11 _ _ _ h]; rfl
theorem JB.s5 (h : JB w gj gd J wv) (n : Nat) : JB (w.setCell ⟨gj, 5, none⟩ (.int .i64 (n : Int))) gj gd { J with pl := n } wv := by unfold JB at h ⊢; simp only [World.setCell, Array.getElem?_modify, if_pos, h]; rfl
theorem JB.s6 (h : JB w gj gd J wv) (n : Nat) : JB (w.setCell ⟨gj, 6, none⟩ (.int .i64 (n : Int))) gj gd { J with ct := n } wv := by unfold JB at h ⊢; simp only [World.setCell, Array.getElem?_modify, if_pos, h]; rfl
theorem JB.s7 (h : JB w gj gd J wv) (n : Nat) : JB (w.setCell ⟨gj, 7, none⟩ (.int .i64 (n : Int))) gj gd { J with us := n } wv := by unfold JB at h ⊢; simp only [World.setCell, Array.getElem?_modify, if_pos, h]; rfl
theorem JB.s10 (h : JB w gj gd J wv) (n : Nat) : JB (w.setCell ⟨gj, 10, none⟩ (.int .i64 (n : Int))) gj gd { J with sy := n } wv := by unfold JB at h ⊢; simp only [World.setCell, Array.getElem?_modify, if_pos, h]; rfl
theorem JB.s8 (h : JB w gj gd J wv) (v : Value) (l : List UInt8) : JB (w.setCell ⟨gj, 8, none⟩ v) gj gd { J with waits := l } v := by unfold JB at h ⊢; simp only [World.setCell, Array.getElem?_modify, if_pos, h]; rfl
theorem JB.s11 (h : JB w gj gd J wv) (b : Bool) : JB (w.setCell ⟨gj, 11, none⟩ (.bool b)) gj gd { J with br := b } wv := by unfold JB at h ⊢; simp only [World.setCell, Array.getElem?_modify, if_pos, h]; rfl
end
def needL (n : Nat) : Nat := (n + 4075) / 4076
set_option maxRecDepth 100000 in
theorem needs_any (n : Nat) (w : World) (hn : n ≤ 4611686018427387904) :
  Calls Try.prog 36 #[.int .i64 (n : Int)] w fun e w' => e = .returned (.int .i64 ((needL n : Nat) : Int)) ∧ w = w' := by
 go_enter Try.func36, Try.ntmps36
 go_wp2_with fail
 go_ret
 refine ⟨ret_i ?_, rfl⟩
 unfold needL
 try rw [Int.tdiv_eq_ediv_of_nonneg (by omega)]
 omega
def mayB (n fi bl ep pl ct : Int) : Bool := decide (1 ≤ bl) && (decide (bl ≤ 1024) && (decide (0 ≤ fi) && (decide (fi ≤ n - bl) && (decide (1 ≤ ep) && (decide (ep ≤ 4294967295) && (decide (0 ≤ pl) && (decide (pl < bl) && (decide (1 ≤ ct) && decide (ct ≤ 4294967295)))))))))
def RC (w : World) (gr o : Nat) (dp : Value) (fi bl ep : Int) : Prop := w.cell? ⟨gr, o, none⟩ = some dp ∧ w.cell? ⟨gr, o + 1, none⟩ = some (.int .i64 fi) ∧ w.cell? ⟨gr, o + 2, none⟩ = some (.int .i64 bl) ∧ w.cell? ⟨gr, o + 3, none⟩ = some (.int .i64 ep)
theorem JB.rc {w : World} {gj gd : Nat} {J : JnS} {wv : Value} (h : JB w gj gd J wv) : RC w gj 0 (.pointer (some ⟨gd, 0, none⟩)) J.fi J.bl J.ep := ⟨h.c0, h.c1, h.c2, h.c3⟩
set_option maxRecDepth 100000 in
set_option maxHeartbeats 4000000 in
theorem mayBe_yes (w : World) (n : Nat) (gr : Nat) (dp : Value) (fi bl ep pl ct : Int) (h : RC w gr 0 dp fi bl ep) (hn : n ≤ 4096) (hB : ∀ W, Below w.heap.size w W → Calls Try.prog 31 #[dp] W fun e w' => e = .returned (.int .i64 (n : Int)) ∧ W = w') (hm : mayB n fi bl ep pl ct = true) :
  Calls Try.prog 32 #[.pointer (some ⟨gr, 0, none⟩), .int .i64 pl, .int .i64 ct] w fun e w' => e = .returned (.bool true) ∧ Below w.heap.size w w' := by
 obtain ⟨c0, c1, c2, c3⟩ := h
 simp only [Nat.zero_add] at c1 c2 c3
 have HB := Lib.hid hB
 unfold mayB at hm
 simp only [Bool.and_eq_true] at hm
 obtain ⟨t0, t1, t2, t3, t4, t5, t6, t7, t8, t9⟩ := hm
 have k0 := of_decide_eq_true t0
 have k1 := of_decide_eq_true t1
 have n0 : (0 : Int) ≤ (n : Int) := Int.natCast_nonneg _
 have hwr : IntKind.i64.wrap ((n : Int) - bl) = (n : Int) - bl := by rw [IntKind.wrap_i64]; omega
 clear hB
 go_enter Try.func32, Try.ntmps32
 go_wp2_with (go_quiet ((go_at_call 31; exact Calls.quiet_of_same ((HB.out _ (gr_drewN (gr_refl _) _)).mono (fun _ _ h => ⟨h.1, h.2.symm⟩)))))
 go_ret
 exact ⟨rfl, gr_drewN (gr_refl _) nq⟩
theorem info_jn : (Try.prog.info? 86).isSome = true := by kernel_rfl
theorem eql_selfJ (W : World) (a : Addr) : (binOp .eql 46 (.pointer (some a)) (.pointer (some a))).run Try.prog W = .ok (.bool true) W := by
 obtain ⟨j, hj⟩ := Option.isSome_iff_exists.1 info_jn
 exact run_eql_ptr_same W a Try.underlying46 hj
set_option maxRecDepth 100000 in
theorem jmade_yes (w : World) (gj : Nat) (h : w.cell? ⟨gj, 4, none⟩ = some (.pointer (some ⟨gj, 0, none⟩))) :
  Calls Try.prog 47 #[.pointer (some ⟨gj, 0, none⟩)] w fun e w' => e = .returned (.bool true) ∧ w = w' := by
 have hq := fun W => eql_selfJ W ⟨gj, 0, none⟩
 go_enter Try.func47, Try.ntmps47
 go_wp2_with fail
 go_ret
 exact ⟨rfl, rfl⟩
def UnJ (p : Option Addr) (w : World) : Prop := p = none ∨ ∃ g, p = some ⟨g, 0, none⟩ ∧ w.cell? ⟨g, 4, none⟩ = some (.pointer none)
theorem UnJ.below {p : Option Addr} {w w' : World} (h : UnJ p w) (hb : Below w.heap.size w w') : UnJ p w' := by
 rcases h with h | ⟨g, e, h⟩
 ·exact .inl h
 ·exact .inr ⟨g, e, keep_of_below hb h⟩
def standE (J : JnS) : Int := if J.br then 4 else 0
set_option maxRecDepth 100000 in
theorem stands_any {w : World} {gj gd : Nat} {J : JnS} {wv : Value} (h : JB w gj gd J wv) :
  Calls Try.prog 34 #[.pointer (some ⟨gj, 0, none⟩)] w fun e w' => e = .returned (.int .i64 (standE J)) ∧ w = w' := by
 have HM := Lib.hid (jmade_yes w gj h.c4)
 have c := h.c11
 have HE : Hid (standE J = if J.br then 4 else 0) := Lib.hid rfl
 generalize standE J = r at *
 clear h
 go_enter Try.func34, Try.ntmps34
 go_wp2_with fail
 refine HM.out.mono ?_
 rintro e w2 ⟨rfl, rfl⟩
 cases hb : J.br
 all_goals
  rw [hb] at c HE
  go_wp2_with fail
  go_ret
  exact ⟨by rw [HE.out]; rfl, rfl⟩
set_option maxRecDepth 100000 in
theorem At_any {w : World} {gj gd : Nat} {J : JnS} {wv : Value} (h : JB w gj gd J wv) :
  Calls Try.prog 37 #[.pointer (some ⟨gj, 0, none⟩)] w fun e w' => e = .returned (.tuple #[.int .i64 (J.pl : Int), .int .i64 (J.ct : Int)]) ∧ Below w.heap.size w w' := by
 have HM := Lib.hid (jmade_yes w gj h.c4)
 have c0 := h.c5
 have c1 := h.c6
 clear h
 go_enter Try.func37, Try.ntmps37
 go_wp2_with fail
 refine HM.out.mono ?_
 rintro e w2 ⟨rfl, rfl⟩
 go_wp2_with (go_quiet (fail))
 go_ret2
 exact ⟨rfl, gr_drewN (gr_refl _) nq⟩
end Go.Proofs.Ytnkeclpgpiogoaa

/-! RgA -/
namespace Go.Proofs.Ytnkeclpgpiogoaa
open Go.RowKit
end Go.Proofs.Ytnkeclpgpiogoaa

/-! RgB -/
namespace Go.Proofs.Ytnkeclpgpiogoaa
open Go.RowKit
structure ES (w0 w : World) (A : Option Addr) (c : Nat) (L : List UInt8) : Prop where
 ob : OB w w0.heap.size (.slice A L.length c) L
 bel : Below w0.heap.size w0 w
section
variable {w0 w w' : World} {A : Option Addr} {c : Nat} {L : List UInt8}
theorem ES.below (h : ES w0 w A c L) (hb : Below w.heap.size w w') : ES w0 w' A c L := ⟨h.ob.below hb, gr_trans h.bel hb⟩
theorem ES.br (h : ES w0 w A c L) : BR w A L.length L := by
 obtain ⟨A', c', e, hr, _, _⟩ := h.ob.form
 injection e with e _ _
 subst e
 exact hr
end
end Go.Proofs.Ytnkeclpgpiogoaa

/-! Rgn -/
namespace Go.Proofs.Ytnkeclpgpiogoaa
open Go Go.RowKit
section
variable {P : Program} {ops : Array Oper} {Q : Exit → Act → World → Prop} {Rs : List MP} {w0 : World} {AA : (Nat → Value) → Act}
def unl (ops : Array Oper) (listed : Array Bool) : Nat := ((List.range ops.size).filter (fun j => !listed.getD j false)).length
theorem unl_step {listed : Array Bool} {i : Nat} (hs : listed.size = ops.size) (hil : i < ops.size) (h1 : listed.getD i true = false) : unl ops (listed.setIfInBounds i true) + 1 = unl ops listed := by
 unfold unl
 have hli : listed.getD i false = false := by
  rw [Array.getD_eq_getD_getElem?, Array.getElem?_eq_getElem (show i < listed.size by omega)] at h1 ⊢
  exact h1
 have e1 : (List.range ops.size).filter (fun j => !(listed.setIfInBounds i true).getD j false) = ((List.range ops.size).filter (fun j => !listed.getD j false)).erase i := by
  rw [List.Nodup.erase_eq_filter (List.Nodup.sublist List.filter_sublist List.nodup_range), List.filter_filter]
  refine List.filter_congr (fun j hj => ?_)
  by_cases e : j = i
  ·subst e
   have : (listed.setIfInBounds j true).getD j false = true := by
    rw [Array.getD_eq_getD_getElem?, Array.getElem?_setIfInBounds_self_of_lt (by omega)]
    rfl
   rw [this]
   simp
  ·rw [getD_set_ne false (Ne.symm e)]
   simp [e]
 have hm : i ∈ (List.range ops.size).filter (fun j => !listed.getD j false) := List.mem_filter.2 ⟨List.mem_range.2 hil, by rw [hli]; rfl⟩
 rw [e1, List.length_erase_of_mem hm]
 have := List.length_pos_of_mem hm
 omega
theorem board_ext {l m : Array Bool} (hs : l.size = m.size) (h : ∀ k, k < l.size → l.getD k false = m.getD k false) : l = m := by
 apply Array.ext hs
 intro k h1 h2
 have := h k h1
 rw [Array.getD_eq_getD_getElem?, Array.getD_eq_getD_getElem?, Array.getElem?_eq_getElem h1, Array.getElem?_eq_getElem h2] at this
 exact this
theorem wpAny_tail (hb : edgesBack .any ops = true) {a : Act} (hAA : ∀ f, putA ops f a ops.size = AA f) (hd : dstsApart ops = true) (hk : looksBack .any ops = true) (hsel : Region.noSelect ops = true)
  (T : Nat → Bool) (lm : Array Bool) (hlm : lm.size = ops.size) (hlT : ∀ k, k < ops.size → lm.getD k false = !T k) (l0 : Array Bool)
  (hTn : ∀ i, i < ops.size → T i = true → ∀ j, j < ops.size → T j = false → (needsOf .any ops i).contains j = true ∨ l0.getD j false = true)
  (hst : ∀ i, i < ops.size → T i = false → l0.getD i false = false → ∀ o, ops[i]? = some o → StepOK P ops Rs w0 AA i o)
  (hnlt : ∀ i j, i < ops.size → (needsOf .any ops i).contains j = true → j < ops.size)
  (hend : ∀ f w, Below w0.heap.size w0 w → (∀ j, j < ops.size → T j = false → (Rs.getD j MP.any).p (f j) w) → wpAny P .any ops Q (unl ops lm) lm (putL ops lm f a ops.size) w) :
  ∀ (m : Nat) (listed : Array Bool) (f : Nat → Value) (w : World), listed.size = ops.size → closedL .any ops listed → (∀ j, j < ops.size → T j = true → listed.getD j false = false) → (∀ j, l0.getD j false = true → listed.getD j false = true) → Below w0.heap.size w0 w → (∀ j, j < ops.size → listed.getD j false = true → (Rs.getD j MP.any).p (f j) w) → unl ops listed = m + unl ops lm →
   wpAny P .any ops Q (unl ops listed) listed (putL ops listed f a ops.size) w := by
 intro m
 induction m with
 | zero =>
  intro listed f w hs hc hT h0 hB hR hm
  -- all but the tail are listed
  have hall : listed = lm := by
   refine board_ext (hs.trans hlm.symm) (fun k hkl => ?_)
   rw [hlT k (by omega)]
   cases hTk : T k with
   | true => rw [hT k (by omega) hTk]; rfl
   | false =>
    -- else there were one more
    cases hlk : listed.getD k false with
    | true => rfl
    | false =>
     exfalso
     have hlt : unl ops lm < unl ops listed := by
      unfold unl
      have e1 : (List.range ops.size).filter (fun j => !lm.getD j false) = ((List.range ops.size).filter (fun j => !listed.getD j false)).filter (fun j => !lm.getD j false) := by
       rw [List.filter_filter]
       refine List.filter_congr (fun j hj => ?_)
       have hjl := List.mem_range.1 hj
       rw [hlT j hjl]
       cases hTj : T j with
       | true => rw [hT j hjl hTj]; rfl
       | false => simp
      rw [e1]
      refine List.length_filter_lt_length_iff_exists.2 ⟨k, List.mem_filter.2 ⟨List.mem_range.2 (by omega), by rw [hlk]; rfl⟩, ?_⟩
      rw [hlT k (by omega), hTk]
      simp
     omega
  subst hall
  exact hend f w hB (fun j hj hTj => hR j hj (by rw [hlT j hj, hTj]; rfl))
 | succ m ih =>
  intro listed f w hs hc hT h0 hB hR hm
  have hpos : unl ops listed = (m + unl ops lm) + 1 := by omega
  rw [hpos]
  -- one that is no tail is not listed
  have hex : ∃ k, k < ops.size ∧ T k = false ∧ listed.getD k false = false := by
   apply Classical.byContradiction
   intro hno
   have hall : listed = lm := by
    refine board_ext (hs.trans hlm.symm) (fun k hkl => ?_)
    rw [hlT k (by omega)]
    cases hTk : T k with
    | true => rw [hT k (by omega) hTk]; rfl
    | false =>
     cases hlk : listed.getD k false with
     | true => rfl
     | false => exact absurd ⟨k, by omega, hTk, hlk⟩ hno
   rw [hall] at hm
   omega
  obtain ⟨k, hkl, hTk, hlk⟩ := hex
  refine ⟨fun hr => ?_, fun i hi => ?_⟩
  ·have := all_listed hb hs hr ops.size (Nat.le_refl _) k hkl
   rw [hlk] at this
   cases this
  ·obtain ⟨h1, o, ho, hall⟩ := mem_ready.1 hi
   have hil : i < ops.size := (Array.getElem?_eq_some_iff.1 ho).1
   have hneed : ∀ j, (needsOf .any ops i).contains j = true → listed.getD j false = true := by
    intro j hj
    refine needs_listed hc hs ops.size (depsOf .any ops i) (fun k hk2 => ?_) j (by simpa [needsOf] using hj)
    unfold depsOf at hk2
    rw [ho] at hk2
    simp only [List.mem_map, List.mem_filter, Array.mem_toList_iff] at hk2
    obtain ⟨e, ⟨he, hbd⟩, rfl⟩ := hk2
    exact hall e he hbd
   have hTi : T i = false := by
    cases hTi : T i with
    | false => rfl
    | true =>
     rcases hTn i hil hTi k hkl hTk with h | h
     ·rw [hneed k h] at hlk; cases hlk
     ·rw [h0 k h] at hlk; cases hlk
   have hli0 : l0.getD i false = false := by
    cases hl : l0.getD i false with
    | false => rfl
    | true =>
     have := h0 i hl
     rw [Array.getD_eq_getD_getElem?, Array.getElem?_eq_getElem (show i < listed.size by omega)] at h1 this
     simp only [Option.getD_some] at h1 this
     rw [h1] at this
     cases this
   refine wpOp_mono (fun a' w' => ?_) (mono_step ho hAA hd hk hsel hs h1 hneed hB hR (hst i hil hTi hli0 o ho) (fun j => hnlt i j hil))
   rintro ⟨f', rfl, hB', hR'⟩
   have hu := unl_step (ops := ops) hs hil h1
   have hu2 : unl ops (listed.setIfInBounds i true) = m + unl ops lm := by omega
   rw [← hu2]
   refine ih (listed.setIfInBounds i true) f' w' (by simp [hs]) (fun j x hx hj e he hbd => ?_) (fun j hj hTj => ?_) (fun j hj => getD_set_true (h0 j hj)) hB' hR' hu2
   ·by_cases e0 : i = j
    ·subst e0
     rw [ho] at hx
     cases hx
     exact getD_set_true (hall e he hbd)
    ·rw [getD_set_ne true e0] at hj
     exact getD_set_true (hc j x hx hj e he hbd)
   ·by_cases e0 : i = j
    ·subst e0
     rw [hTi] at hTj
     cases hTj
    ·rw [getD_set_ne false e0]
     exact hT j hj hTj
def closedB (ops : Array Oper) (listed : Array Bool) : Bool := (List.range ops.size).all fun j => !listed.getD j true || (depsOf .any ops j).all fun k => listed.getD k false
theorem closedB_spec {listed : Array Bool} (h : closedB ops listed = true) : closedL .any ops listed := by
 intro j x hx hj e he hbd
 unfold closedB at h
 rw [List.all_eq_true] at h
 have h1 := h j (List.mem_range.2 (Array.getElem?_eq_some_iff.1 hx).1)
 rw [hj] at h1
 simp only [Bool.not_true, Bool.false_or, List.all_eq_true] at h1
 exact h1 e.on (by
  unfold depsOf
  rw [hx]
  exact List.mem_map.2 ⟨e, List.mem_filter.2 ⟨by simpa using he, hbd⟩, rfl⟩)
def tailB (ops : Array Oper) (T : Nat → Bool) (l0 : Array Bool) : Bool := (List.range ops.size).all fun i => !T i || (List.range ops.size).all fun j => T j || (needsOf .any ops i).contains j || l0.getD j false
theorem wpAny_to_tail {n : Nat} {a : Act} {w : World} {l0 : Array Bool} (hb : edgesBack .any ops = true) (hd : dstsApart ops = true) (hk : looksBack .any ops = true) (hsel : Region.noSelect ops = true)
  (hnl : ((List.range ops.size).all fun i => (needsOf .any ops i).all fun j => decide (j < ops.size)) = true) (Rs : List MP) (T : Nat → Bool) (lm : Array Bool)
  (hlm : lm.size = ops.size) (hlT : ((List.range ops.size).all fun k => lm.getD k false == !T k) = true) (hs0 : l0.size = ops.size) (hc0 : closedB ops l0 = true) (hT0 : ((List.range ops.size).all fun j => !T j || !l0.getD j false) = true) (hTn : tailB ops T l0 = true) (hn : unl ops l0 = n)
  (f0 : Nat → Value) (ha : putL ops l0 f0 a ops.size = a) (hR0 : ∀ j ∈ (List.range ops.size).filter (fun j => l0.getD j false), (Rs.getD j MP.any).p (f0 j) w)
  (hAA : ∀ f, putA ops f a ops.size = AA f)
  (hst : Steps P ops Rs w AA ((List.range ops.size).filter fun j => !T j && !l0.getD j false))
  (hend : ∀ f w', Below w.heap.size w w' → (∀ j, j < ops.size → T j = false → (Rs.getD j MP.any).p (f j) w') → wpAny P .any ops Q (unl ops lm) lm (putL ops lm f a ops.size) w') : wpAny P .any ops Q n l0 a w := by
 have hmono : unl ops lm ≤ unl ops l0 := by
  unfold unl
  refine List.Sublist.length_le ?_
  have e1 : (List.range ops.size).filter (fun j => !lm.getD j false) = ((List.range ops.size).filter (fun j => !l0.getD j false)).filter (fun j => !lm.getD j false) := by
   rw [List.filter_filter]
   refine List.filter_congr (fun j hj => ?_)
   rw [List.all_eq_true] at hlT hT0
   have h1 := hlT j hj
   have h2 := hT0 j hj
   simp only [beq_iff_eq] at h1
   rw [h1]
   cases hTj : T j with
   | true => rw [hTj] at h2; simpa using h2
   | false => simp
  rw [e1]
  exact List.filter_sublist
 have h := wpAny_tail (P := P) (Q := Q) (w0 := w) hb hAA hd hk hsel T lm hlm (fun k hk => by rw [List.all_eq_true] at hlT; simpa using hlT k (List.mem_range.2 hk)) l0
  (fun i hi hTi j hj hTj => by
   unfold tailB at hTn
   rw [List.all_eq_true] at hTn
   have h1 := hTn i (List.mem_range.2 hi)
   rw [hTi] at h1
   simp only [Bool.not_true, Bool.false_or, List.all_eq_true] at h1
   have h2 := h1 j (List.mem_range.2 hj)
   rw [hTj] at h2
   simpa using h2)
  (fun i hi hTi hli o ho => hst i (List.mem_filter.2 ⟨List.mem_range.2 hi, by rw [hTi, hli]; rfl⟩) o ho)
  (fun i j hi hj => by
   rw [List.all_eq_true] at hnl
   have h1 := hnl i (List.mem_range.2 hi)
   rw [List.all_eq_true] at h1
   simpa using h1 j (by simpa using hj))
  hend (unl ops l0 - unl ops lm) l0 f0 w hs0 (closedB_spec hc0) (fun j hj hTj => by
   rw [List.all_eq_true] at hT0
   have h1 := hT0 j (List.mem_range.2 hj)
   rw [hTj] at h1
   simpa using h1) (fun _ h => h) (Below.refl _ _) (fun j hj hlj => hR0 j (List.mem_filter.2 ⟨List.mem_range.2 hj, hlj⟩)) (by omega)
 rw [hn, ha] at h
 exact h
theorem Steps.of_list {Rs : List MP} {l l' : List Nat} (e : l = l') (h : Steps P ops Rs w0 AA l') : Steps P ops Rs w0 AA l := e ▸ h
end
end Go.Proofs.Ytnkeclpgpiogoaa

/-! RgC -/
namespace Go.Proofs.Ytnkeclpgpiogoaa
open Go.RowKit
def MP.ob (base : Nat) (l : List UInt8) : MP := ⟨fun u w => ∃ A c, u = .slice A l.length c ∧ OB w base (.slice A l.length c) l, fun _ _ _ hb ⟨A, c, e, h⟩ => ⟨A, c, e, h.below hb⟩⟩
section
variable {w wr w4 : World} {k tx : Int} {av v v4 : Value} {acc : List Ch}
end
end Go.Proofs.Ytnkeclpgpiogoaa

/-! JnB -/
namespace Go.Proofs.Ytnkeclpgpiogoaa
open Go Go.RowKit
def ofN (ep c : Nat) : Nat := ep % 4294967296 * 4294967296 + c % 4294967296
theorem ofN_lt (ep c : Nat) : ofN ep c < 18446744073709551616 := by unfold ofN; omega
def sealL (v : Nat) (l : List UInt8) : List UInt8 := leB v 8 ++ (l ++ List.replicate (4080 - l.length) 0) ++ leB v 8
def payL (b : List UInt8) (i : Nat) : List UInt8 := leB (b.length - i * 4076) 4 ++ (b.drop (i * 4076)).take 4076
theorem payL_len (b : List UInt8) (i : Nat) : (payL b i).length ≤ 4080 := by unfold payL; rw [List.length_append, leB_length, List.length_take]; omega
theorem sealL_len {v : Nat} {l : List UInt8} (h : l.length ≤ 4080) : (sealL v l).length = 4096 := by unfold sealL; simp only [List.length_append, leB_length, List.length_replicate]; omega
def wsL (fi bl ep pl ct : Nat) (b : List UInt8) : List (Nat × List UInt8) := (List.range (needL b.length)).map fun i => (fi + (pl + i) % bl, sealL (ofN ep (ct + i)) (payL b i))
theorem wsL_len (fi bl ep pl ct : Nat) (b : List UInt8) : (wsL fi bl ep pl ct b).length = needL b.length := by simp [wsL]
theorem wsL_at {fi bl ep pl ct : Nat} {b : List UInt8} {i : Nat} (h : i < needL b.length) : (wsL fi bl ep pl ct b)[i]? = some (fi + (pl + i) % bl, sealL (ofN ep (ct + i)) (payL b i)) := by
 unfold wsL
 rw [List.getElem?_map, List.getElem?_range h]
 rfl
def putAll : DiskS → List (Nat × List UInt8) → DiskS × Int
 | D, [] => (D, 0)
 | D, p :: ps => if writeE D p.1 p.2.length ≠ 0 then (writeD D p.1 p.2, writeE D p.1 p.2.length) else putAll (writeD D p.1 p.2) ps
theorem putAll_snoc : ∀ (ps : List (Nat × List UInt8)) (D : DiskS) (p : Nat × List UInt8), putAll D (ps ++ [p]) = if (putAll D ps).2 ≠ 0 then putAll D ps else (writeD (putAll D ps).1 p.1 p.2, writeE (putAll D ps).1 p.1 p.2.length)
 | [], D, p => by
  simp only [List.nil_append, putAll]
  by_cases h : writeE D p.1 p.2.length = 0
  ·simp [h]
  ·simp [h]
 | q :: ps, D, p => by
  simp only [List.cons_append, putAll]
  by_cases h : writeE D q.1 q.2.length = 0
  ·simp only [h, ne_eq, not_true_eq_false, if_false]
   exact putAll_snoc ps _ p
  ·simp [h]
theorem putAll_stop : ∀ (ps qs : List (Nat × List UInt8)) (D : DiskS), (putAll D ps).2 ≠ 0 → putAll D (ps ++ qs) = putAll D ps
 | [], _, _, h => absurd rfl h
 | q :: ps, qs, D, h => by
  simp only [List.cons_append, putAll] at h ⊢
  by_cases e : writeE D q.1 q.2.length = 0
  ·simp only [e, ne_eq, not_true_eq_false, if_false] at h ⊢
   exact putAll_stop ps qs _ h
  ·simp [e]
def flushD (D : DiskS) (ws : List (Nat × List UInt8)) : DiskS := if (putAll D ws).2 ≠ 0 then (putAll D ws).1 else syncD (putAll D ws).1
def flushE (D : DiskS) (ws : List (Nat × List UInt8)) : Int := if (putAll D ws).2 ≠ 0 then (putAll D ws).2 else opC (putAll D ws).1
theorem writeD_pl (D : DiskS) (b : Int) (m : List UInt8) : (writeD D b m).pending.length ≤ D.pending.length + 1 ∧ (writeD D b m).blocks.length = D.blocks.length := by
 unfold writeD
 split
 ·exact ⟨Nat.le_succ _, rfl⟩
 ·split
  ·exact ⟨Nat.le_succ _, rfl⟩
  ·exact ⟨by simp, rfl⟩
theorem putAll_pl : ∀ (ps : List (Nat × List UInt8)) (D : DiskS), (putAll D ps).1.pending.length ≤ D.pending.length + ps.length ∧ (putAll D ps).1.blocks.length = D.blocks.length
 | [], D => ⟨Nat.le_refl _, rfl⟩
 | q :: ps, D => by
  have h := writeD_pl D q.1 q.2
  simp only [putAll]
  split
  ·exact ⟨by have := h.1; simp only [List.length_cons]; omega, h.2⟩
  ·have k := putAll_pl ps (writeD D q.1 q.2)
   exact ⟨by have := h.1; have := k.1; simp only [List.length_cons]; omega, k.2.trans h.2⟩
theorem DPost.more {w w1 w2 : World} {ok : Nat → Prop} {base g : Nat} {F : Nat → Prop} {D : DiskS} (h : DPost w ok base g F D w1) (hb : Below w1.heap.size w1 w2) : DPost w ok base g F D w2 := by
 obtain ⟨h1, F', h2, h3⟩ := h
 exact ⟨h1.trans (Off.of_below hb), F', h2.below hb, h3⟩
theorem Off.chain {S T : Nat → Prop} {w w1 w2 : World} (h : Off S w w1) (k : Off T w1 w2) (hT : ∀ j, T j → S j ∨ w.heap.size ≤ j) : Off S w w2 :=
 ⟨k.os.trans h.os, k.tape.trans h.tape, k.output.trans h.output, Nat.le_trans h.size k.size, fun j hj hS => (k.block j (Nat.lt_of_lt_of_le hj h.size) (fun ht => by
  rcases hT j ht with e | e
  ·exact hS e
  ·omega)).trans (h.block j hj hS)⟩
theorem DPost.trans {w w1 w2 : World} {ok : Nat → Prop} {base g : Nat} {F : Nat → Prop} {D D2 : DiskS} (h : DPost w ok base g F D w1) (k : ∀ F', IsD w1 (fun k => ok k ∨ w.heap.size ≤ k) base g F' D → DPost w1 (fun k => ok k ∨ w.heap.size ≤ k) base g F' D2 w2) : DPost w ok base g F D2 w2 := by
 obtain ⟨h1, F', h2, h3⟩ := h
 obtain ⟨k1, F2, k2, k3⟩ := k F' h2
 refine ⟨h1.chain k1 h3, F2, k2.mono (fun j _ hj => ?_), fun j hj => ?_⟩
 ·rcases hj with hj | hj
  ·exact hj
  ·exact .inr (Nat.le_trans h1.size hj)
 ·rcases k3 j hj with e | e
  ·exact h3 j e
  ·exact .inr (Nat.le_trans h1.size e)
def PlB (w : World) (b gr pl ct : Nat) : Prop := w.cell? ⟨b, 0, none⟩ = some (.pointer (some ⟨gr, 0, none⟩)) ∧ w.cell? ⟨b + 1, 0, none⟩ = some (.int .i64 (pl : Int)) ∧ w.cell? ⟨b + 2, 0, none⟩ = some (.int .i64 (ct : Int)) ∧ b + 2 < w.heap.size
theorem PlB.off {S : Nat → Prop} {w w' : World} {b gr pl ct : Nat} (h : PlB w b gr pl ct) (ho : Off S w w') (hS : ∀ k, S k → k < b ∨ b + 2 < k) : PlB w' b gr pl ct := by
 obtain ⟨h0, h1, h2, h3⟩ := h
 have key : ∀ (k o : Nat) (v : Value), k ≤ b + 2 → b ≤ k → w.cell? ⟨k, o, none⟩ = some v → w'.cell? ⟨k, o, none⟩ = some v := fun k o v hk hb hc => by
  have e := ho.block k (by omega) (fun hs => by have := hS k hs; omega)
  rw [← hc]
  simp only [World.cell?, e]
 exact ⟨key _ _ _ (by omega) (by omega) h0, key _ _ _ (by omega) (by omega) h1, key _ _ _ (by omega) (by omega) h2, Nat.lt_of_lt_of_le h3 ho.size⟩
def PlV (b : Nat) : Value := .func (.func 59) #[] #[.pointer (some ⟨b, 0, none⟩), .pointer (some ⟨b + 1, 0, none⟩), .pointer (some ⟨b + 2, 0, none⟩)]
theorem egPl : ∀ args w, (callFunc 59 args).run Try.prog w = .ok (.enter 59 args) w := enters_of Try.func59 (by kernel_rfl) rfl
set_option maxRecDepth 100000 in
theorem places_any (w : World) (gr pl ct : Nat) :
  Calls Try.prog 48 #[.pointer (some ⟨gr, 0, none⟩), .int .i64 (pl : Int), .int .i64 (ct : Int)] w fun e w' => e = .returned (PlV w.heap.size) ∧ PlB w' w.heap.size gr pl ct ∧ Below w.heap.size w w' := by
 have b1 := gr_alloc (gr_refl w) (.cells #[.pointer (some ⟨gr, 0, none⟩)] 110)
 have s1 : (w.alloc (.cells #[.pointer (some ⟨gr, 0, none⟩)] 110)).heap.size = w.heap.size + 1 := World.size_alloc _ _
 have h1 := heap_alloc_new w (.cells #[.pointer (some ⟨gr, 0, none⟩)] 110)
 have b2 := gr_alloc (gr_refl (w.alloc (.cells #[.pointer (some ⟨gr, 0, none⟩)] 110))) (.cells #[.int .i64 (pl : Int)] 3)
 have s2 : ((w.alloc (.cells #[.pointer (some ⟨gr, 0, none⟩)] 110)).alloc (.cells #[.int .i64 (pl : Int)] 3)).heap.size = w.heap.size + 1 + 1 := by rw [World.size_alloc, s1]
 have h2 := heap_alloc_new (w.alloc (.cells #[.pointer (some ⟨gr, 0, none⟩)] 110)) (.cells #[.int .i64 (pl : Int)] 3)
 have b3 := gr_alloc (gr_refl ((w.alloc (.cells #[.pointer (some ⟨gr, 0, none⟩)] 110)).alloc (.cells #[.int .i64 (pl : Int)] 3))) (.cells #[.int .i64 (ct : Int)] 3)
 have s3 : (((w.alloc (.cells #[.pointer (some ⟨gr, 0, none⟩)] 110)).alloc (.cells #[.int .i64 (pl : Int)] 3)).alloc (.cells #[.int .i64 (ct : Int)] 3)).heap.size = w.heap.size + 1 + 1 + 1 := by rw [World.size_alloc, s2]
 have h3 := heap_alloc_new ((w.alloc (.cells #[.pointer (some ⟨gr, 0, none⟩)] 110)).alloc (.cells #[.int .i64 (pl : Int)] 3)) (.cells #[.int .i64 (ct : Int)] 3)
 rw [s1] at h2 b2
 rw [s2] at h3 b3
 have p1 := (b3.block w.heap.size (by omega)).trans ((b2.block w.heap.size (by omega)).trans h1)
 have p2 := (b3.block (w.heap.size + 1) (by omega)).trans h2
 have HPL : Hid (PlB (((w.alloc (.cells #[.pointer (some ⟨gr, 0, none⟩)] 110)).alloc (.cells #[.int .i64 (pl : Int)] 3)).alloc (.cells #[.int .i64 (ct : Int)] 3)) w.heap.size gr pl ct) :=
  Lib.hid ⟨by rw [cell_of_row _ _ 0 _ _ _ p1]; rfl, by rw [cell_of_row _ _ 0 _ _ _ p2]; rfl, by rw [cell_of_row _ _ 0 _ _ _ h3]; rfl, by rw [s3]; omega⟩
 have HBL := Lib.hid (b1.trans ((b2.mono (by omega)).trans (b3.mono (by omega))))
 clear b1 s1 h1 b2 h2 b3 s3 h3 p1 p2 s2
 go_enter Try.func48, Try.ntmps48
 go_wp2_with fail
 go_ret
 exact ⟨rfl, HPL.out, HBL.out⟩
set_option maxRecDepth 100000 in
set_option maxHeartbeats 1000000 in
theorem placeC (w : World) (b gr fi bl ep pl ct i : Nat) (dp : Value) (h : PlB w b gr pl ct) (hr : RC w gr 0 dp fi bl ep) (h0 : 0 < bl) (hb : bl ≤ 1024) (hf : fi ≤ 4096) (hp : pl ≤ 1048576) (hc : ct ≤ 17179869184) (hi : i ≤ 1048576) :
  Calls Try.prog 59 #[.int .i64 (i : Int), .pointer (some ⟨b, 0, none⟩), .pointer (some ⟨b + 1, 0, none⟩), .pointer (some ⟨b + 2, 0, none⟩)] w fun e w' => e = .returned (.tuple #[.int .i64 ((fi + (pl + i) % bl : Nat) : Int), .int .u64 ((ofN ep (ct + i) : Nat) : Int)]) ∧ Below w.heap.size w w' := by
 obtain ⟨y0, y1, y2, _⟩ := h
 obtain ⟨_, c1, c2, c3⟩ := hr
 simp only [Nat.zero_add] at c1 c2 c3
 obtain ⟨x, hx⟩ : ∃ x : Nat, x = (pl + i) % bl := ⟨_, rfl⟩
 have hxl : x < bl := by rw [hx]; exact Nat.mod_lt _ h0
 have k1 : IntKind.i64.wrap ((pl : Int) + (i : Int)) = (pl : Int) + (i : Int) := by rw [IntKind.wrap_i64]; omega
 have k2 : Int.tmod ((pl : Int) + (i : Int)) (bl : Int) = (x : Int) := by
  have e : (pl : Int) + (i : Int) = ((pl + i : Nat) : Int) := by omega
  rw [e, Int.tmod_eq_emod_of_nonneg (by omega), hx]
  exact (Int.natCast_emod _ _).symm
 have k3 : IntKind.i64.wrap ((fi : Int) + (x : Int)) = (fi : Int) + (x : Int) := by rw [IntKind.wrap_i64]; omega
 have k4 : IntKind.i64.wrap ((ct : Int) + (i : Int)) = (ct : Int) + (i : Int) := by rw [IntKind.wrap_i64]; omega
 have hz : ((bl : Int) == 0) = false := beq_eq_false_iff_ne.2 (by omega)
 have hz' : ¬ ((bl : Int) = 0) := by omega
 have HE : Hid (((ep : Int) % 4294967296 * 4294967296 + ((ct : Int) + (i : Int)) % 4294967296) = ((ofN ep (ct + i) : Nat) : Int)) := Lib.hid (by unfold ofN; omega)
 have HX : Hid ((fi : Int) + (x : Int) = ((fi + (pl + i) % bl : Nat) : Int)) := Lib.hid (by rw [← hx]; omega)
 clear hx
 go_enter Try.func59, Try.ntmps59
 go_wp2_with (go_quiet ((go_at_call 60; exact Calls.quiet_of_same ((Of_any _ _ _).mono (fun _ _ h => ⟨h.1, h.2.symm⟩)))))
 go_ret2
 exact ⟨by rw [← HE.out, ← HX.out]; rfl, gr_drewN (gr_refl _) nq⟩
theorem PlB.below {w w' : World} {b gr pl ct : Nat} (h : PlB w b gr pl ct) (hb : Below w.heap.size w w') : PlB w' b gr pl ct :=
 h.off (S := fun _ => False) (Off.of_below hb) (fun _ h => h.elim)
theorem RC.off {S : Nat → Prop} {w w' : World} {gr o : Nat} {dp : Value} {fi bl ep : Int} (h : RC w gr o dp fi bl ep) (hg : gr < w.heap.size) (ho : Off S w w') (hs : ¬ S gr) : RC w' gr o dp fi bl ep := by
 have e := ho.block gr hg hs
 obtain ⟨h0, h1, h2, h3⟩ := h
 refine ⟨?_, ?_, ?_, ?_⟩
 ·rw [← h0]; simp only [World.cell?, e]
 ·rw [← h1]; simp only [World.cell?, e]
 ·rw [← h2]; simp only [World.cell?, e]
 ·rw [← h3]; simp only [World.cell?, e]
theorem RC.below {w w' : World} {gr o : Nat} {dp : Value} {fi bl ep : Int} (h : RC w gr o dp fi bl ep) (hg : gr < w.heap.size) (hb : Below w.heap.size w w') : RC w' gr o dp fi bl ep :=
 h.off hg (Off.of_below (S := fun _ => False) hb) (fun h => h)
theorem DPost.comp {w w1 w2 w3 : World} {ok : Nat → Prop} {base g : Nat} {F F1 : Nat → Prop} {D2 : DiskS} (h1 : Off F w w1) (h3 : ∀ k, F1 k → F k ∨ w.heap.size ≤ k) (hb : Below w1.heap.size w1 w2) (k : DPost w2 (fun k => ok k ∨ w.heap.size ≤ k) base g F1 D2 w3) : DPost w ok base g F D2 w3 := by
 obtain ⟨k1, F2, k2, k3⟩ := k
 have h12 : Off F w w2 := h1.trans (Off.of_below hb)
 refine ⟨h12.chain k1 h3, F2, k2.mono (fun j _ hj => ?_), fun j hj => ?_⟩
 ·rcases hj with hj | hj
  ·exact hj
  ·exact .inr (Nat.le_trans h12.size hj)
 ·rcases k3 j hj with e | e
  ·exact h3 j e
  ·exact .inr (Nat.le_trans h12.size e)
theorem DPost.pre {w w1 w2 : World} {ok : Nat → Prop} {base g : Nat} {F : Nat → Prop} {D : DiskS} (hb : Below w.heap.size w w1) (h : DPost w1 ok base g F D w2) : DPost w ok base g F D w2 := by
 obtain ⟨h1, F', h2, h3⟩ := h
 exact ⟨(Off.of_below hb).trans h1, F', h2.mono (fun j _ hj => hj.imp id (fun e => Nat.le_trans hb.size e)), fun j hj => (h3 j hj).imp id (fun e => Nat.le_trans hb.size e)⟩
theorem putAll_at {D : DiskS} {ws : List (Nat × List UInt8)} {i : Nat} {p : Nat × List UInt8} (hi : ws[i]? = some p) (h2 : (putAll D (ws.take i)).2 = 0) : putAll D (ws.take (i + 1)) = (writeD (putAll D (ws.take i)).1 p.1 p.2, writeE (putAll D (ws.take i)).1 p.1 p.2.length) := by
 rw [List.take_add_one, hi]
 show putAll D (ws.take i ++ [p]) = _
 rw [putAll_snoc, if_neg (by rw [h2]; simp)]
theorem putAll_fail {D : DiskS} {ws : List (Nat × List UInt8)} {k : Nat} (h : (putAll D (ws.take k)).2 ≠ 0) : putAll D ws = putAll D (ws.take k) := by
 conv => lhs; rw [← List.take_append_drop k ws]
 exact putAll_stop _ _ _ h
set_option maxRecDepth 100000 in
set_option maxHeartbeats 4000000 in
theorem write_any (w : World) (ok : Nat → Prop) (base gr gd : Nat) (F : Nat → Prop) (D : DiskS) (fi bl ep pl ct : Nat) (A : Option Addr) (n c : Nat) (b : List UInt8) (h : IsD w ok base gd F D) (hr : RC w gr 0 (.pointer (some ⟨gd, 0, none⟩)) fi bl ep) (hg : gr < w.heap.size ∧ ¬ F gr) (hb : BR w A n b) (hA : ∀ ad, A = some ad → ad.block < w.heap.size ∧ ¬ F ad.block) (hn : n ≤ 4173824) (hnc : n ≤ c) (h0 : 0 < bl) (hbl : bl ≤ 1024) (hfi : fi ≤ 4096) (hpl : pl ≤ 1048576) (hct : ct ≤ 8589934592) (hpd : D.pending.length ≤ 900000) :
  Calls Try.prog 35 #[.pointer (some ⟨gr, 0, none⟩), .int .i64 (pl : Int), .int .i64 (ct : Int), .slice A n c] w fun e w' => e = .returned (.int .i64 (flushE D (wsL fi bl ep pl ct b))) ∧ DPost w ok base gd F (flushD D (wsL fi bl ep pl ct b)) w' := by
 obtain ⟨i0, hi0, hz0, hz1, hz2⟩ := info_parts info_u8
 have HLEN := Lib.hid hb.len
 have HF := Lib.hid h.foot_lt
 have HD := Lib.hid h
 have HR := Lib.hid hr
 have HG := Lib.hid hg
 have HBB := Lib.hid hb
 have HAA := Lib.hid hA
 have hN : needL n ≤ 1024 := by unfold needL; omega
 clear h hr hg hb hA
 go_enter Try.func35, Try.ntmps35
 go_wp2_with fail
 refine (places_any w gr pl ct).mono ?_
 rintro e w1 ⟨rfl, hpb, hb1⟩
 have HPB := Lib.hid hpb
 have HB1 := Lib.hid hb1
 have HD1 := Lib.hid (DPost.same (HD.out.below hb1))
 have HR1 := Lib.hid (HR.out.below HG.out.1 hb1)
 have HW3 : Hid (w.heap.size + 2 < w1.heap.size) := Lib.hid hpb.2.2.2
 have HG1 : Hid (gr < w1.heap.size ∧ ¬ F gr) := Lib.hid ⟨Nat.lt_of_lt_of_le HG.out.1 hb1.size, HG.out.2⟩
 have HBB1 := Lib.hid (HBB.out.below hb1)
 clear hpb hb1
 go_wp2_with fail
 refine (needs_any n w1 (by omega)).mono ?_
 rintro e w2 ⟨rfl, rfl⟩
 unfold PlV
 obtain ⟨ws, hws⟩ : ∃ ws, ws = wsL fi bl ep pl ct b := ⟨_, rfl⟩
 have HWS := Lib.hid hws
 obtain ⟨N, hNN⟩ : ∃ N, N = needL n := ⟨_, rfl⟩
 have HNN := Lib.hid hNN
 rw [← hNN] at hN ⊢
 have HWL : Hid (ws.length = N) := Lib.hid (by rw [hws, wsL_len, HLEN.out, hNN])
 have egp := egPl
 clear hws hNN
 go_wp2_with fail
 go_loopw [10, 11, 12, 13, 14, 15, 16, 17, 25] (fun _ _ _ _ _ _ _ _ x wr => ∃ i, i ≤ N ∧ x = .int .i64 (i : Int) ∧ Hid ((putAll D (ws.take i)).2 = 0) ∧ PlB wr w.heap.size gr pl ct ∧ DPost w1 ok base gd F (putAll D (ws.take i)).1 wr) (fun _ _ _ _ _ _ _ _ x _ => N - (intOf x).toNat)
 case atStart => exact ⟨0, Nat.zero_le _, rfl, Lib.hid rfl, HPB.out, HD1.out⟩
 case round =>
  obtain ⟨i, hi, rfl, H2, hpb, hdp⟩ := hrel
  have HPB := Lib.hid hpb
  have HDP := Lib.hid hdp
  obtain ⟨hof, F1, hd1, hf1⟩ := hdp
  have HOF := Lib.hid hof
  have HD1 := Lib.hid hd1
  have HF1 := Lib.hid hf1
  have hpd1 := (putAll_pl (ws.take i) D).1
  rw [List.length_take, HWL.out] at hpd1
  have HPD : Hid ((putAll D (ws.take i)).1.pending.length ≤ 901024) := Lib.hid (by omega)
  clear hpb hof hd1 hf1 hpd1
  by_cases hlt : i < N
  ·have t1 : decide ((i : Int) < (N : Int)) = true := decide_eq_true (by omega)
   have t2 : decide (i < N) = true := decide_eq_true hlt
   have hin : i * 4076 < n := by have := HNN.out; unfold needL at this; omega
   obtain ⟨k, hk⟩ : ∃ k, k = i * 4076 := ⟨_, rfl⟩
   have hkl : k < n := by omega
   have hmul : (i : Int) * 4076 = (k : Int) := by omega
   have hmw : IntKind.i64.wrap ((i : Int) * 4076) = (k : Int) := by rw [IntKind.wrap_i64]; omega
   have hmw2 : IntKind.i64.wrap (k : Int) = (k : Int) := by rw [IntKind.wrap_i64]; omega
   have hcl := fun W => run_cut_l (P := Try.prog) W 37 5 i0 Try.underlying37 hi0 1 hz1 A n c (k : Int) k rfl (by omega)
   have HBw := Lib.hid (HBB1.out.off HOF.out (fun ad e _ => (HAA.out ad e).2))
   have HBR : Hid (BR wr (cutA A c k 1) (n - k) (b.drop k)) := Lib.hid (by
    have := HBw.out.cut (k := k) (j := n) (c := c) (by omega) (by omega) hnc
    rwa [List.take_of_length_le (by rw [List.length_drop, HLEN.out]; omega)] at this)
   obtain ⟨rn, hrn⟩ : ∃ rn, rn = n - k := ⟨_, rfl⟩
   obtain ⟨hr, hhr⟩ : ∃ hr, hr = min rn 4076 := ⟨_, rfl⟩
   have hrl : hr ≤ 4076 ∧ hr ≤ rn := by omega
   have hrn2 : rn ≤ 4173824 := by omega
   have hrc : hr ≤ c - k := by omega
   rw [← hrn] at HBR
   simp only [← hrn] at hcl
   have hwu : IntKind.u32.wrap (rn : Int) = (rn : Int) := by rw [IntKind.wrap_u32]; omega
   have hmin : (if (4076 : Int) < (rn : Int) then (4076 : Int) else (rn : Int)) = (hr : Int) := by split <;> omega
   have HPAY : Hid (payL b i = leB rn 4 ++ (b.drop k).take hr) := Lib.hid (by
    unfold payL
    rw [HLEN.out, ← hk, ← hrn]
    congr 1
    by_cases e : rn ≤ 4076
    ·rw [List.take_of_length_le (by rw [List.length_drop, HLEN.out]; omega), List.take_of_length_le (by rw [List.length_drop, HLEN.out]; omega)]
    ·rw [show hr = 4076 by omega])
   have HK := Lib.hid hk
   clear hk hrn hhr
   go_upto_region 6 with fail
   clear hcl
   have hch := fun W => run_cut_h (P := Try.prog) W 37 5 i0 Try.underlying37 hi0 1 hz1 (cutA A c k 1) rn (c - k) (hr : Int) hr rfl (by omega)
   have HCH := Lib.hid hch
   clear hch
   refine wp_region_any (by kernel_rfl) ?_
   refine' wpAny_to_tail (l0 := #[false, false, false, false, false, false, false, false, false, false, false]) (by kernel_rfl) (by kernel_rfl) (by kernel_rfl) (by kernel_rfl) (by kernel_rfl)
    [MP.is (.slice (cutA A c k 1) rn (c - k)), MP.is (.int .i64 (rn : Int)), MP.is (.int .u32 (rn : Int)), MP.ob wr.heap.size (leB rn 4), MP.is (.slice (cutA A c k 1) rn (c - k)), MP.is (.slice (cutA A c k 1) rn (c - k)), MP.is (.int .i64 (rn : Int)), MP.is (.int .i64 (hr : Int)), MP.is (.slice (cutA A c k 1) hr (c - k)), MP.any, MP.any]
    (fun j => j == 9 || j == 10) #[true, true, true, true, true, true, true, true, true, false, false] rfl (by kernel_rfl) rfl (by kernel_rfl) (by kernel_rfl) (by kernel_rfl) (by kernel_rfl) (fun _ => undef) (by rfl) ?hR01 ?hAA1 ?hst1 ?hend1
   case hR01 =>
    intro j hj
    have hj2 : j ∈ [] := hj
    cases hj2
   case hAA1 =>
    intro f
    conv => lhs; simp only [putA, dstOf, List.size_toArray, List.length_cons, List.length_nil, Nat.zero_add, Nat.reduceAdd, List.getElem?_toArray, List.getElem?_cons_zero, List.getElem?_cons_succ, Option.bind_some, Act.put, List.setIfInBounds_toArray, List.set_cons_zero, List.set_cons_succ]
    first | done | exact rfl
   case hst1 =>
    refine Steps.of_list (l' := [0, 1, 2, 3, 4, 5, 6, 7, 8]) (by kernel_rfl) ?_
    refine Steps.cons rfl ?_ ?_
    ·intro f wz hB h K Q hK
     try simp only [List.getElem_toArray, List.getElem_cons_zero]
     go_simp
     exact hK _ _ (gr_refl _) rfl
    refine Steps.cons rfl ?_ ?_
    ·intro f wz hB h K Q hK
     have h0 : (MP.is (.slice (cutA A c k 1) rn (c - k))).p (f 0) wz := h 0 (by kernel_rfl)
     have e0 : f 0 = (.slice (cutA A c k 1) rn (c - k)) := h0
     simp only [e0] at hK ⊢
     clear e0
     go_simp
     exact hK _ _ (gr_refl _) rfl
    refine Steps.cons rfl ?_ ?_
    ·intro f wz hB h K Q hK
     have h1 : (MP.is (.int .i64 (rn : Int))).p (f 1) wz := h 1 (by kernel_rfl)
     have e1 : f 1 = (.int .i64 (rn : Int)) := h1
     simp only [e1] at hK ⊢
     clear e1
     go_simp
     exact hK _ _ (gr_refl _) rfl
    refine Steps.cons rfl ?_ ?_
    ·intro f wz hB h K Q hK
     have h2 : (MP.is (.int .u32 (rn : Int))).p (f 2) wz := h 2 (by kernel_rfl)
     have e2 : f 2 = (.int .u32 (rn : Int)) := h2
     simp only [e2] at hK ⊢
     clear e2
     go_simp
     refine (Add32_any none 0 0 [] wz rn (BR.none_ _ _) (by omega) (by omega)).mono ?_
     rintro e w5 ⟨v5, rfl, ob5, hb5⟩
     rw [List.nil_append] at ob5
     obtain ⟨A5, c5, rfl, _, _⟩ := own_form ob5
     exact hK _ _ hb5 ⟨A5, c5, rfl, ob5.lower hB.size⟩
    refine Steps.cons rfl ?_ ?_
    ·intro f wz hB h K Q hK
     go_simp
     exact hK _ _ (gr_refl _) rfl
    refine Steps.cons rfl ?_ ?_
    ·intro f wz hB h K Q hK
     go_simp
     exact hK _ _ (gr_refl _) rfl
    refine Steps.cons rfl ?_ ?_
    ·intro f wz hB h K Q hK
     have h5 : (MP.is (.slice (cutA A c k 1) rn (c - k))).p (f 5) wz := h 5 (by kernel_rfl)
     have e5 : f 5 = (.slice (cutA A c k 1) rn (c - k)) := h5
     simp only [e5] at hK ⊢
     clear e5
     go_simp
     exact hK _ _ (gr_refl _) rfl
    refine Steps.cons rfl ?_ ?_
    ·intro f wz hB h K Q hK
     have h6 : (MP.is (.int .i64 (rn : Int))).p (f 6) wz := h 6 (by kernel_rfl)
     have e6 : f 6 = (.int .i64 (rn : Int)) := h6
     simp only [e6] at hK ⊢
     clear e6
     go_simp
     exact hK _ _ (gr_refl _) rfl
    refine Steps.cons rfl ?_ ?_
    ·intro f wz hB h K Q hK
     have h4 : (MP.is (.slice (cutA A c k 1) rn (c - k))).p (f 4) wz := h 4 (by kernel_rfl)
     have e4 : f 4 = (.slice (cutA A c k 1) rn (c - k)) := h4
     have h7 : (MP.is (.int .i64 (hr : Int))).p (f 7) wz := h 7 (by kernel_rfl)
     have e7 : f 7 = (.int .i64 (hr : Int)) := h7
     simp only [e4, e7] at hK ⊢
     clear e4 e7
     have hch := HCH.out
     go_simp
     exact hK _ _ (gr_refl _) rfl
    exact Steps.nil
   intro f w4 hB4 hR
   conv => arg 7; simp only [putL, dstOf, List.size_toArray, List.length_cons, List.length_nil, Nat.zero_add, Nat.reduceAdd, List.getElem?_toArray, List.getElem?_cons_zero, List.getElem?_cons_succ, Option.bind_some, Act.put, List.setIfInBounds_toArray, List.set_cons_zero, List.set_cons_succ, Array.getD_eq_getD_getElem?, Option.getD_some, if_true, if_false, Bool.false_eq_true]
   have e0 : f 0 = (.slice (cutA A c k 1) rn (c - k)) := hR 0 (by decide) rfl
   have e1 : f 1 = (.int .i64 (rn : Int)) := hR 1 (by decide) rfl
   have e2 : f 2 = (.int .u32 (rn : Int)) := hR 2 (by decide) rfl
   obtain ⟨A34, c34, e3, q34⟩ := (show (MP.ob wr.heap.size (leB rn 4)).p (f 3) w4 from hR 3 (by decide) rfl)
   have e4 : f 4 = (.slice (cutA A c k 1) rn (c - k)) := hR 4 (by decide) rfl
   have e5 : f 5 = (.slice (cutA A c k 1) rn (c - k)) := hR 5 (by decide) rfl
   have e6 : f 6 = (.int .i64 (rn : Int)) := hR 6 (by decide) rfl
   have e7 : f 7 = (.int .i64 (hr : Int)) := hR 7 (by decide) rfl
   have e8 : f 8 = (.slice (cutA A c k 1) hr (c - k)) := hR 8 (by decide) rfl
   simp only [e0, e1, e2, e3, e4, e5, e6, e7, e8]
   clear e0 e1 e2 e3 e4 e5 e6 e7 e8 hR
   have HB4 := Lib.hid hB4
   have HQ4 : Hid (w4.ownsRow wr.heap.size 5 1 (.slice A34 (leB rn 4).length c34) (leB rn 4).length ((leB rn 4).map bv)) := Lib.hid q34
   have HR4 : Hid (Rd w4 1 (cutA A c k 1) hr (((b.drop k).take hr).map bv)) := Lib.hid (HBR.out.pre hrl.2 |>.below (Below.trans (gr_drewN (gr_refl wr) 1) hB4))
   clear hB4 q34
   refine wpAny_of_held (S := fun _ => True) _ _ _ _ ?_
   refine wpAnyH_ready (rs := [9]) (by kernel_rfl) (by simp) ?_
   refine AllReadyH.cons rfl (fun KK hK => ?_) AllReadyH.nil
   rw [if_pos (by rfl)]
   refine wp_append_Rd _ (.tmp 35) (.tmp 40) _ rfl wr.heap.size 5 i0 _ 1 1 Try.underlying37 hi0 hz0 hz1 hz2 rfl (.slice A34 (leB rn 4).length c34) (leB rn 4).length _ rfl HQ4.out (cutA A c k 1) hr (c - k) _ rfl HR4.out (one_bv _) (by rw [leB_length]; omega) (by rw [leB_length]; simp only [maxLen]; omega) HB4.out.size ?_
   intro v8 w8 ho8 hg8 _ _
   have HO8 := Lib.hid ho8
   have HB8 := Lib.hid ((Below.trans (gr_drewN (gr_refl wr) 1) HB4.out).grown hg8 (Below.trans (gr_drewN (gr_refl wr) 1) HB4.out).size (fun j hj => (HQ4.out.lt j hj).1))
   clear ho8 hg8
   refine hK.out _ _ trivial (fun _ => ?_)
   clear hK KK
   try simp only [Act.put, List.setIfInBounds_toArray, List.set_cons_zero, List.set_cons_succ]
   refine wpAnyH_ready (rs := [10]) (by kernel_rfl) (by simp) ?_
   refine AllReadyH.cons rfl (fun KK hK => ?_) AllReadyH.nil
   go_simp
   refine hK.out _ _ trivial (fun _ => ?_)
   clear hK KK
   try simp only [List.setIfInBounds_toArray, List.set_cons_zero, List.set_cons_succ]
   refine wpAnyH_done (by kernel_rfl) ?_ _
   have hob : OB w8 wr.heap.size v8 (payL b i) := OB.of_own HO8.out (by rw [HPAY.out, List.map_append])
   obtain ⟨A8, c8, rfl, hbr8, _, _⟩ := hob.form
   have hm8l : (payL b i).length ≤ 4080 := payL_len b i
   have HSL := Lib.hid (sealL_len (v := ofN ep (ct + i)) hm8l)
   have HSE : Hid (sealL (ofN ep (ct + i)) (payL b i) = leB (ofN ep (ct + i)) 8 ++ (payL b i ++ List.replicate (4080 - (payL b i).length) 0) ++ leB (ofN ep (ct + i)) 8) := Lib.hid rfl
   generalize (payL b i).length = m8 at *
   have HBR8 := Lib.hid hbr8
   have HPB8 := Lib.hid (HPB.out.below HB8.out)
   have HRr := Lib.hid (HR1.out.off HG1.out.1 HOF.out HG1.out.2)
   have hgr : gr < wr.heap.size := Nat.lt_of_lt_of_le HG1.out.1 HOF.out.size
   have HGR := Lib.hid hgr
   have HR8 := Lib.hid (HRr.out.below hgr HB8.out)
   have hpc := placeC w8 w.heap.size gr fi bl ep pl ct i (.pointer (some ⟨gd, 0, none⟩)) HPB8.out HR8.out h0 hbl hfi hpl (by omega) (by omega)
   have hwi := HWS.out
   have hnm := ofN_lt ep (ct + i)
   have HWI := Lib.hid (wsL_at (fi := fi) (bl := bl) (ep := ep) (pl := pl) (ct := ct) (b := b) (i := i) (by rw [HLEN.out, ← HNN.out]; exact hlt))
   rw [← hwi] at HWI
   generalize ofN ep (ct + i) = num at *
   generalize fi + (pl + i) % bl = blk at *
   have HPC := Lib.hid hpc
   clear hob hbr8 hgr hpc hwi HO8 HQ4 HR4 HBw HBR HCH hwu hmin hrl hmul hmw hmw2
   go_wp2_with fail
   refine HPC.out.mono ?_
   rintro e w9 ⟨rfl, hb9⟩
   have HB9 := Lib.hid (gr_trans HB8.out hb9)
   have HBR9 := Lib.hid (HBR8.out.below hb9)
   clear hb9
   go_wp2_with fail
   refine (Seal_fits A8 m8 c8 num (payL b i) w9 HBR9.out hm8l hnm).mono ?_
   rintro e w10 ⟨r10, rfl, ob10, hb10⟩
   rw [← HSE.out] at ob10
   obtain ⟨q10, c10, rfl, hq1, hq2, hq3⟩ := ob10.full HSL.out
   obtain ⟨A', c', e', br10, _, _⟩ := ob10.formN HSL.out
   injection e' with e1 e2 e3
   subst e1 e3
   have HB10 := Lib.hid (gr_trans HB9.out hb10)
   have HBR10 := Lib.hid br10
   have hc0 := (HRr.out.below HGR.out HB10.out).1
   have HA10 : Hid (∀ ad, some (⟨q10, 0, none⟩ : Addr) = some ad → ¬ F1 ad.block) := Lib.hid (fun ad e hf => by
    injection e with e
    subst e
    have h1 := (HD1.out.foot_lt _ hf).2
    have h2 := HB9.out.size
    dsimp only at h1
    omega)
   have HD10 := Lib.hid (HD1.out.below HB10.out)
   clear hb10 ob10 br10
   go_wp2_with fail
   refine (Write_any w10 _ base gd F1 _ (blk : Int) (some ⟨q10, 0, none⟩) 4096 c10 _ HD10.out HBR10.out HA10.out (by omega) (Nat.le_trans HPD.out (by omega))).mono ?_
   rintro e w11 ⟨rfl, hdp11⟩
   have HDP11 := Lib.hid (DPost.comp HOF.out HF1.out HB10.out hdp11)
   have HPB11 := Lib.hid ((HPB.out.below HB10.out).off hdp11.1 (fun k hk => (HF1.out k hk).elim (fun h => .inl (HF.out k h).2) (fun h => .inr (Nat.lt_of_lt_of_le HW3.out h))))
   have HAT := Lib.hid (putAll_at HWI.out H2.out)
   have HFL := Lib.hid (putAll_fail (D := D) (ws := ws) (k := i + 1))
   dsimp only at HAT
   rw [HSL.out] at HAT
   generalize writeE (putAll D (ws.take i)).1 (blk : Int) 4096 = r at *
   clear hdp11
   by_cases hr0 : r = 0
   ·subst hr0
    go_wp2_with fail
    go_roundw
    case rel => exact ⟨i + 1, by omega, by go_num, Lib.hid (by rw [HAT.out]), HPB11.out, by rw [HAT.out]; exact HDP11.out⟩
    case measure => simp [intOf]; omega
   ·have t3 : (r != 0) = true := by rw [bne_iff_ne]; exact hr0
    have HR0 := Lib.hid hr0
    clear hr0
    go_wp2_with fail
    go_ret
    have hf := HFL.out (by rw [HAT.out]; exact HR0.out)
    rw [HAT.out] at hf
    rw [← HWS.out]
    refine ⟨ret_i ?_, ?_⟩
    ·unfold flushE
     rw [if_pos (by rw [hf]; exact HR0.out), hf]
    ·unfold flushD
     rw [if_pos (by rw [hf]; exact HR0.out), hf]
     exact DPost.pre HB1.out HDP11.out
  ·obtain rfl : i = N := by omega
   have t1 : decide ((i : Int) < (i : Int)) = false := decide_eq_false (by omega)
   have hc0 := (HR1.out.off HG1.out.1 HOF.out HG1.out.2).1
   have htk : ws.take i = ws := List.take_of_length_le (Nat.le_of_eq HWL.out)
   rw [htk] at HDP HD1 HPD H2
   have HSY := Lib.hid (Sync_any wr _ base gd F1 _ HD1.out (Nat.le_trans HPD.out (by omega)))
   have HTK := Lib.hid htk
   clear htk
   go_wp2_with fail
   refine HSY.out.mono ?_
   rintro e w2 ⟨rfl, hdp2⟩
   have HDP2 := Lib.hid (DPost.comp HOF.out HF1.out (gr_refl wr) hdp2)
   clear hdp2
   go_wp2_with fail
   go_ret
   rw [← HWS.out]
   refine ⟨ret_i ?_, ?_⟩
   ·unfold flushE
    rw [if_neg (by rw [H2.out]; simp)]
   ·unfold flushD
    rw [if_neg (by rw [H2.out]; simp)]
    exact DPost.pre HB1.out HDP2.out
end Go.Proofs.Ytnkeclpgpiogoaa

/-! JnD -/
namespace Go.Proofs.Ytnkeclpgpiogoaa
open Go Go.RowKit
structure JI (J : JnS) : Prop where
 b1 : 1 ≤ J.bl
 b2 : J.bl ≤ 1024
 f1 : J.fi ≤ 4096
 p1 : J.pl < J.bl
 u1 : J.us + needL J.waits.length ≤ J.bl
 c1 : J.ct + needL J.waits.length ≤ 4294967296
 l1 : J.la ≤ 1152921504606846976
def newJ (fi bl ep pl ct : Nat) : JnS := ⟨fi, bl, ep, pl, ct, 0, 0, 0, [], false⟩
theorem newJ_ji {n fi bl ep pl ct : Nat} (hn : n ≤ 4096) (h : mayB n fi bl ep pl ct = true) : JI (newJ fi bl ep pl ct) := by
 unfold mayB at h
 simp only [Bool.and_eq_true, decide_eq_true_eq] at h
 obtain ⟨t0, t1, t2, t3, t4, t5, t6, t7, t8, t9⟩ := h
 exact ⟨by show 1 ≤ bl; omega, by show bl ≤ 1024; omega, by show fi ≤ 4096; omega, by show pl < bl; omega, by simp [newJ, needL], by simp [newJ, needL]; omega, Nat.zero_le _⟩
set_option maxRecDepth 100000 in
set_option maxHeartbeats 4000000 in
theorem JNew_yes (w : World) (ok : Nat → Prop) (base gd : Nat) (F : Nat → Prop) (D : DiskS) (fi bl ep pl ct : Nat) (h : IsD w ok base gd F D) (hm : mayB D.blocks.length fi bl ep pl ct = true) :
  Calls Try.prog 16 #[.pointer (some ⟨gd, 0, none⟩), .int .i64 (fi : Int), .int .i64 (bl : Int), .int .i64 (ep : Int), .int .i64 (pl : Int), .int .i64 (ct : Int)] w fun e w' => e = .returned (.tuple #[.pointer (some ⟨w.heap.size, 0, none⟩), .int .i64 0]) ∧ JB w' w.heap.size gd (newJ fi bl ep pl ct) (.slice none 0 0) ∧ Below w.heap.size w w' := by
 have hn : 1 ≤ D.blocks.length ∧ D.blocks.length ≤ 4096 := by
  obtain ⟨dr, dc, pv, dvs, pvs, hd, _⟩ := h
  exact ⟨hd.n1, hd.n2⟩
 have HD := Lib.hid h
 have HB := Lib.hid (fun W (hW : Below w.heap.size w W) => Blocks_any W ok base gd F D (h.below hW))
 generalize D.blocks.length = n at *
 obtain ⟨o, ho⟩ : ∃ o, o = Obj.cells #[.pointer (some ⟨gd, 0, none⟩), .int .i64 (fi : Int), .int .i64 (bl : Int), .int .i64 (ep : Int), .pointer none, .int .i64 (pl : Int), .int .i64 (ct : Int), .int .i64 0, .slice none 0 0, .int .i64 0, .int .i64 0, .bool false] 86 (0, 0) := ⟨_, rfl⟩
 have hbo := gr_alloc (gr_refl w) o
 have hnw : (w.alloc o).heap[w.heap.size]? = some o := heap_alloc_new w o
 have hnw' := hnw
 rw [congrArg some ho] at hnw'
 have HMB := Lib.hid (mayBe_yes (w.alloc o) n w.heap.size (.pointer (some ⟨gd, 0, none⟩)) fi bl ep pl ct ⟨by rw [cell_of_row _ _ 0 _ _ _ hnw']; rfl, by rw [cell_of_row _ _ 1 _ _ _ hnw']; rfl, by rw [cell_of_row _ _ 2 _ _ _ hnw']; rfl, by rw [cell_of_row _ _ 3 _ _ _ hnw']; rfl⟩ hn.2 (fun W hW => HB.out W (hbo.trans (hW.mono hbo.size))) hm)
 have HFIN : Hid (∀ w3, Below (w.alloc o).heap.size (w.alloc o) w3 → w3.cell? ⟨w.heap.size, 4, none⟩ = some (.pointer none) ∧ w3.frozen? ⟨w.heap.size, 4, none⟩ = false ∧ JB (w3.setCell ⟨w.heap.size, 4, none⟩ (.pointer (some ⟨w.heap.size, 0, none⟩))) w.heap.size gd (newJ fi bl ep pl ct) (.slice none 0 0) ∧ Below w.heap.size w (w3.setCell ⟨w.heap.size, 4, none⟩ (.pointer (some ⟨w.heap.size, 0, none⟩)))) := Lib.hid (fun w3 h3 => by
  have e := (h3.block w.heap.size (by rw [World.size_alloc]; omega)).trans hnw'
  refine ⟨by rw [cell_of_row _ _ 4 _ _ _ e]; rfl, by simp [World.frozen?, e], ?_, (hbo.trans (h3.mono hbo.size)).setCell (by simp) _⟩
  unfold JB
  simp only [World.setCell, Array.getElem?_modify, if_pos, e]
  rfl)
 have hbo' := hbo
 rw [ho] at hbo' HMB HFIN
 clear h hnw hnw' hbo hbo' ho
 go_enter Try.func16, Try.ntmps16
 go_wp2_with fail
 refine (HB.out w (gr_refl w)).mono ?_
 rintro e w1 ⟨rfl, rfl⟩
 have tn : ((n : Int) == 0) = false := beq_eq_false_iff_ne.2 (by omega)
 go_wp2_with fail
 refine HMB.out.mono ?_
 rintro e w3 ⟨rfl, hb3⟩
 obtain ⟨z1, z2, z3, z4⟩ := HFIN.out w3 hb3
 have Z3 := Lib.hid z3
 have Z4 := Lib.hid z4
 clear z3 z4 hb3 HFIN HMB
 go_wp2_with fail
 go_ret2
 exact ⟨rfl, Z3.out, Z4.out⟩
end Go.Proofs.Ytnkeclpgpiogoaa

/-! JnE -/
namespace Go.Proofs.Ytnkeclpgpiogoaa
open Go Go.RowKit
def APost (w : World) (gj gd base : Nat) (wv : Value) (J : JnS) (w' : World) : Prop := ∃ wv', JB w' gj gd J wv' ∧ OB w' base wv' J.waits ∧ Off (fun k => k = gj ∨ wv.ownBlock = some k) w w' ∧ (wv'.ownBlock = wv.ownBlock ∨ ∀ k, wv'.ownBlock = some k → w.heap.size ≤ k)
theorem APost.below {w w' : World} {gj gd base : Nat} {wv : Value} {J : JnS} (h : JB w gj gd J wv) (ho : OB w base wv J.waits) (hb : Below w.heap.size w w') : APost w gj gd base wv J w' := ⟨wv, h.below hb, ho.below hb, Off.of_below hb, .inl rfl⟩
theorem needL_le {x : Nat} (h : needL x ≤ 1024) : x ≤ 4173824 := by unfold needL at h; omega
end Go.Proofs.Ytnkeclpgpiogoaa

/-! JnG -/
namespace Go.Proofs.Ytnkeclpgpiogoaa
open Go Go.RowKit
def wsJ (J : JnS) : List (Nat × List UInt8) := wsL J.fi J.bl J.ep J.pl J.ct J.waits
def fluE (D : DiskS) (J : JnS) : Int := if J.br then 4 else if J.waits.length = 0 then 0 else flushE D (wsJ J)
def fluD (D : DiskS) (J : JnS) : DiskS := if J.br = true ∨ J.waits.length = 0 then D else flushD D (wsJ J)
def fluJ (D : DiskS) (J : JnS) : JnS := if J.br = true ∨ J.waits.length = 0 then J else if flushE D (wsJ J) ≠ 0 then { J with br := true } else { J with pl := (J.pl + needL J.waits.length) % J.bl, ct := J.ct + needL J.waits.length, us := J.us + needL J.waits.length, waits := [], sy := J.la }
theorem JI.flu {J : JnS} (D : DiskS) (h : JI J) : JI (fluJ D J) := by
 unfold fluJ
 split
 ·exact h
 ·split
  ·exact ⟨h.b1, h.b2, h.f1, h.p1, h.u1, h.c1, h.l1⟩
  ·exact ⟨h.b1, h.b2, h.f1, Nat.mod_lt _ h.b1, by have := h.u1; simp [needL] at this ⊢; omega, by have := h.c1; simp [needL] at this ⊢; omega, h.l1⟩
def FPost (w : World) (ok : Nat → Prop) (base gj gd : Nat) (F : Nat → Prop) (D : DiskS) (J : JnS) (wv : Value) (w' : World) : Prop :=
 Off (fun k => F k ∨ k = gj) w w' ∧ ∃ wv' F', (wv' = wv ∨ wv' = .slice none 0 0) ∧ JB w' gj gd J wv' ∧ OB w' base wv' J.waits ∧ IsD w' (fun k => ok k ∨ w.heap.size ≤ k) base gd F' D ∧ ∀ k, F' k → F k ∨ w.heap.size ≤ k
theorem FPost.of {w w7 w' : World} {ok : Nat → Prop} {base gj gd : Nat} {F : Nat → Prop} {D : DiskS} {J J' : JnS} {wv wv' : Value} (hj : JB w gj gd J wv) (hF : ¬ F gj) (hd : DPost w ok base gd F D w7) (hw : wv' = wv ∨ wv' = .slice none 0 0) (ho : Off (fun k => k = gj) w7 w') (hj' : JB w' gj gd J' wv') (hob : OB w' base wv' J'.waits) : FPost w ok base gj gd F D J' wv w' := by
 obtain ⟨h1, F', h2, h3⟩ := hd
 have hj7 := hj.off h1 hF
 have hjl := hj.lt
 refine ⟨(h1.mono (fun _ _ e => .inl e)).trans (ho.mono (fun _ _ e => .inr e)), wv', F', hw, hj', hob, h2.off ho (fun k hk e => ?_) (fun k m e hb => ?_), h3⟩
 ·subst e
  rcases h3 k hk with e | e
  ·exact hF e
  ·omega
 ·subst e
  unfold JB at hj7
  unfold BB at hb
  rw [hj7] at hb
  injection hb with hb
  injection hb with _ hb _
  exact absurd hb (by decide)
theorem FPost.same {w w' : World} {ok : Nat → Prop} {base gj gd : Nat} {F : Nat → Prop} {D : DiskS} {J : JnS} {wv : Value} (hj : JB w gj gd J wv) (ho : OB w base wv J.waits) (hd : IsD w ok base gd F D) (hb : Below w.heap.size w w') : FPost w ok base gj gd F D J wv w' :=
 ⟨Off.of_below hb, wv, F, .inl rfl, hj.below hb, ho.below hb, (hd.below hb).mono (fun _ _ e => .inl e), fun _ e => .inl e⟩
set_option maxRecDepth 100000 in
set_option maxHeartbeats 4000000 in
theorem JFlush_any {w : World} {ok : Nat → Prop} {base gj gd : Nat} {F : Nat → Prop} {D : DiskS} {J : JnS} {wv : Value} (h : JB w gj gd J wv) (ho : OB w base wv J.waits) (hd : IsD w ok base gd F D) (hji : JI J) (hF : ¬ F gj) (hpd : D.pending.length ≤ 900000) :
  Calls Try.prog 19 #[.pointer (some ⟨gj, 0, none⟩)] w fun e w' => e = .returned (.int .i64 (fluE D J)) ∧ FPost w ok base gj gd F (fluD D J) (fluJ D J) wv w' := by
 obtain ⟨Aw, cw, rfl, brw, hlc, _⟩ := ho.form
 have HST := Lib.hid (stands_any h)
 have HSAME : Hid (FPost w ok base gj gd F D J (.slice Aw J.waits.length cw) w) := Lib.hid (FPost.same h ho hd (gr_refl w))
 have HJ := Lib.hid h
 have HO := Lib.hid ho
 have HD := Lib.hid hd
 have HI := Lib.hid hji
 have HBR := Lib.hid brw
 have HLC := Lib.hid hlc
 have HA : Hid (∀ ad, Aw = some ad → ad.block < w.heap.size ∧ ¬ F ad.block) := Lib.hid (fun ad e => by
  subst e
  obtain ⟨cur, fr, hc⟩ := own_at ho rfl
  exact ⟨(Array.getElem?_eq_some_iff.1 hc).1, fun hf => hd.foot_ty _ _ _ hf hc⟩)
 have HFE : Hid (fluE D J = if J.br then 4 else if J.waits.length = 0 then 0 else flushE D (wsJ J)) := Lib.hid rfl
 have HFD : Hid (fluD D J = if J.br = true ∨ J.waits.length = 0 then D else flushD D (wsJ J)) := Lib.hid rfl
 have HFJ : Hid (fluJ D J = if J.br = true ∨ J.waits.length = 0 then J else if flushE D (wsJ J) ≠ 0 then { J with br := true } else { J with pl := (J.pl + needL J.waits.length) % J.bl, ct := J.ct + needL J.waits.length, us := J.us + needL J.waits.length, waits := [], sy := J.la }) := Lib.hid rfl
 have c8 := h.c8
 have hwl := needL_le (Nat.le_trans (Nat.le_trans (Nat.le_add_left _ _) hji.u1) hji.b2)
 generalize fluE D J = fe at *
 generalize fluD D J = fd at *
 generalize fluJ D J = fj at *
 clear h ho hd hji brw hlc
 go_enter Try.func19, Try.ntmps19
 go_wp2_with fail
 refine HST.out.mono ?_
 rintro e w1 ⟨rfl, rfl⟩
 unfold standE
 cases hbr : J.br
 ·rw [hbr] at HFE
  simp only [Bool.false_eq_true, if_false]
  by_cases hl : J.waits.length = 0
  ·have t1 : ((J.waits.length : Int) == 0) = true := beq_iff_eq.2 (by omega)
   have HE : Hid (fe = 0 ∧ fd = D ∧ fj = J) := Lib.hid ⟨by rw [HFE.out, if_neg (by simp), if_pos hl], by rw [HFD.out, if_pos (.inr hl)], by rw [HFJ.out, if_pos (.inr hl)]⟩
   clear hl hbr
   go_wp2_with fail
   go_ret
   rw [HE.out.1, HE.out.2.1, HE.out.2.2]
   exact ⟨rfl, HSAME.out⟩
  ·have t1 : ((J.waits.length : Int) == 0) = false := beq_eq_false_iff_ne.2 (by omega)
   have HE : Hid (fe = flushE D (wsJ J) ∧ fd = flushD D (wsJ J) ∧ fj = if flushE D (wsJ J) ≠ 0 then { J with br := true } else { J with pl := (J.pl + needL J.waits.length) % J.bl, ct := J.ct + needL J.waits.length, us := J.us + needL J.waits.length, waits := [], sy := J.la }) := Lib.hid ⟨by rw [HFE.out, if_neg (by simp), if_neg hl], by rw [HFD.out, if_neg (by rw [hbr]; simp [hl])], by rw [HFJ.out, if_neg (by rw [hbr]; simp [hl])]⟩
   clear hl hbr HFE HFD HFJ
   go_upto_region 6 with fail
   have D2 := Lib.hid (show w.drew.cell? ⟨gj, 5, none⟩ = some (.int .i64 (J.pl : Int)) from HJ.out.c5)
   have D3 := Lib.hid (show w.drew.cell? ⟨gj, 6, none⟩ = some (.int .i64 (J.ct : Int)) from HJ.out.c6)
   have D8 := Lib.hid (show w.drew.cell? ⟨gj, 8, none⟩ = some (.slice Aw J.waits.length cw) from HJ.out.c8)
   refine wp_region_any (by kernel_rfl) ?_
   refine' wpAny_to_tail (l0 := #[false, false, false, false, false, false, false, false, false, false, false, false, false, false, false, false, false]) (by kernel_rfl) (by kernel_rfl) (by kernel_rfl) (by kernel_rfl) (by kernel_rfl)
    [MP.is (.pointer (some ⟨gj, 0, none⟩)), MP.is (.pointer (some ⟨gj, 0, none⟩)), MP.is (.pointer (some ⟨gj, 0, none⟩)), MP.is (.pointer (some ⟨gj, 0, none⟩)), MP.is (.pointer (some ⟨gj, 0, none⟩)), MP.is (.pointer (some ⟨gj, 5, none⟩)), MP.is (.int .i64 (J.pl : Int)), MP.is (.pointer (some ⟨gj, 0, none⟩)), MP.is (.pointer (some ⟨gj, 0, none⟩)), MP.is (.pointer (some ⟨gj, 6, none⟩)), MP.is (.int .i64 (J.ct : Int)), MP.is (.pointer (some ⟨gj, 0, none⟩)), MP.is (.pointer (some ⟨gj, 0, none⟩)), MP.is (.pointer (some ⟨gj, 8, none⟩)), MP.is (.slice Aw J.waits.length cw), MP.any, MP.any]
    (fun j => j == 15 || j == 16) #[true, true, true, true, true, true, true, true, true, true, true, true, true, true, true, false, false] rfl (by kernel_rfl) rfl (by kernel_rfl) (by kernel_rfl) (by kernel_rfl) (by kernel_rfl) (fun _ => undef) (by rfl) ?hR01 ?hAA1 ?hst1 ?hend1
   case hR01 =>
    intro j hj
    have hj2 : j ∈ [] := hj
    cases hj2
   case hAA1 =>
    intro f
    conv => lhs; simp only [putA, dstOf, List.size_toArray, List.length_cons, List.length_nil, Nat.zero_add, Nat.reduceAdd, List.getElem?_toArray, List.getElem?_cons_zero, List.getElem?_cons_succ, Option.bind_some, Act.put, List.setIfInBounds_toArray, List.set_cons_zero, List.set_cons_succ]
    first | done | exact rfl
   case hst1 =>
    refine Steps.of_list (l' := [0, 1, 2, 3, 4, 5, 6, 7, 8, 9, 10, 11, 12, 13, 14]) (by kernel_rfl) ?_
    refine Steps.cons rfl ?_ ?_
    ·intro f wz hB h K Q hK
     clear h
     try simp only [List.getElem_toArray, List.getElem_cons_zero]
     try rw [if_pos (by rfl)]
     go_simp
     exact hK _ _ (gr_refl _) rfl
    refine Steps.cons rfl ?_ ?_
    ·intro f wz hB h K Q hK
     have h0 : (MP.is (.pointer (some ⟨gj, 0, none⟩))).p (f 0) wz := h 0 (by kernel_rfl)
     have e0 : f 0 = (.pointer (some ⟨gj, 0, none⟩)) := h0
     simp only [e0] at hK ⊢
     clear e0
     clear h
     try rw [if_pos (by rfl)]
     go_simp
     exact hK _ _ (gr_refl _) rfl
    refine Steps.cons rfl ?_ ?_
    ·intro f wz hB h K Q hK
     have h1 : (MP.is (.pointer (some ⟨gj, 0, none⟩))).p (f 1) wz := h 1 (by kernel_rfl)
     have e1 : f 1 = (.pointer (some ⟨gj, 0, none⟩)) := h1
     simp only [e1] at hK ⊢
     clear e1
     clear h
     try rw [if_pos (by rfl)]
     go_simp
     exact hK _ _ (gr_refl _) rfl
    refine Steps.cons rfl ?_ ?_
    ·intro f wz hB h K Q hK
     clear h
     try rw [if_pos (by rfl)]
     go_simp
     exact hK _ _ (gr_refl _) rfl
    refine Steps.cons rfl ?_ ?_
    ·intro f wz hB h K Q hK
     have h3 : (MP.is (.pointer (some ⟨gj, 0, none⟩))).p (f 3) wz := h 3 (by kernel_rfl)
     have e3 : f 3 = (.pointer (some ⟨gj, 0, none⟩)) := h3
     simp only [e3] at hK ⊢
     clear e3
     clear h
     try rw [if_pos (by rfl)]
     go_simp
     exact hK _ _ (gr_refl _) rfl
    refine Steps.cons rfl ?_ ?_
    ·intro f wz hB h K Q hK
     have h4 : (MP.is (.pointer (some ⟨gj, 0, none⟩))).p (f 4) wz := h 4 (by kernel_rfl)
     have e4 : f 4 = (.pointer (some ⟨gj, 0, none⟩)) := h4
     simp only [e4] at hK ⊢
     clear e4
     clear h
     try rw [if_pos (by rfl)]
     go_simp
     exact hK _ _ (gr_refl _) rfl
    refine Steps.cons rfl ?_ ?_
    ·intro f wz hB h K Q hK
     have h5 : (MP.is (.pointer (some ⟨gj, 5, none⟩))).p (f 5) wz := h 5 (by kernel_rfl)
     have e5 : f 5 = (.pointer (some ⟨gj, 5, none⟩)) := h5
     simp only [e5] at hK ⊢
     clear e5
     clear h
     try rw [if_pos (by rfl)]
     have y0 := keep_of_below hB D2.out
     have y1 := keep_of_below hB D3.out
     have y2 := keep_of_below hB D8.out
     go_simp
     exact hK _ _ (gr_refl _) rfl
    refine Steps.cons rfl ?_ ?_
    ·intro f wz hB h K Q hK
     clear h
     try rw [if_pos (by rfl)]
     go_simp
     exact hK _ _ (gr_refl _) rfl
    refine Steps.cons rfl ?_ ?_
    ·intro f wz hB h K Q hK
     have h7 : (MP.is (.pointer (some ⟨gj, 0, none⟩))).p (f 7) wz := h 7 (by kernel_rfl)
     have e7 : f 7 = (.pointer (some ⟨gj, 0, none⟩)) := h7
     simp only [e7] at hK ⊢
     clear e7
     clear h
     try rw [if_pos (by rfl)]
     go_simp
     exact hK _ _ (gr_refl _) rfl
    refine Steps.cons rfl ?_ ?_
    ·intro f wz hB h K Q hK
     have h8 : (MP.is (.pointer (some ⟨gj, 0, none⟩))).p (f 8) wz := h 8 (by kernel_rfl)
     have e8 : f 8 = (.pointer (some ⟨gj, 0, none⟩)) := h8
     simp only [e8] at hK ⊢
     clear e8
     clear h
     try rw [if_pos (by rfl)]
     go_simp
     exact hK _ _ (gr_refl _) rfl
    refine Steps.cons rfl ?_ ?_
    ·intro f wz hB h K Q hK
     have h9 : (MP.is (.pointer (some ⟨gj, 6, none⟩))).p (f 9) wz := h 9 (by kernel_rfl)
     have e9 : f 9 = (.pointer (some ⟨gj, 6, none⟩)) := h9
     simp only [e9] at hK ⊢
     clear e9
     clear h
     try rw [if_pos (by rfl)]
     have y0 := keep_of_below hB D2.out
     have y1 := keep_of_below hB D3.out
     have y2 := keep_of_below hB D8.out
     go_simp
     exact hK _ _ (gr_refl _) rfl
    refine Steps.cons rfl ?_ ?_
    ·intro f wz hB h K Q hK
     clear h
     try rw [if_pos (by rfl)]
     go_simp
     exact hK _ _ (gr_refl _) rfl
    refine Steps.cons rfl ?_ ?_
    ·intro f wz hB h K Q hK
     have h11 : (MP.is (.pointer (some ⟨gj, 0, none⟩))).p (f 11) wz := h 11 (by kernel_rfl)
     have e11 : f 11 = (.pointer (some ⟨gj, 0, none⟩)) := h11
     simp only [e11] at hK ⊢
     clear e11
     clear h
     try rw [if_pos (by rfl)]
     go_simp
     exact hK _ _ (gr_refl _) rfl
    refine Steps.cons rfl ?_ ?_
    ·intro f wz hB h K Q hK
     have h12 : (MP.is (.pointer (some ⟨gj, 0, none⟩))).p (f 12) wz := h 12 (by kernel_rfl)
     have e12 : f 12 = (.pointer (some ⟨gj, 0, none⟩)) := h12
     simp only [e12] at hK ⊢
     clear e12
     clear h
     try rw [if_pos (by rfl)]
     go_simp
     exact hK _ _ (gr_refl _) rfl
    refine Steps.cons rfl ?_ ?_
    ·intro f wz hB h K Q hK
     have h13 : (MP.is (.pointer (some ⟨gj, 8, none⟩))).p (f 13) wz := h 13 (by kernel_rfl)
     have e13 : f 13 = (.pointer (some ⟨gj, 8, none⟩)) := h13
     simp only [e13] at hK ⊢
     clear e13
     clear h
     try rw [if_pos (by rfl)]
     have y0 := keep_of_below hB D2.out
     have y1 := keep_of_below hB D3.out
     have y2 := keep_of_below hB D8.out
     go_simp
     exact hK _ _ (gr_refl _) rfl
    exact Steps.nil
   intro f w4 hB4 hR
   conv => arg 7; simp only [putL, dstOf, List.size_toArray, List.length_cons, List.length_nil, Nat.zero_add, Nat.reduceAdd, List.getElem?_toArray, List.getElem?_cons_zero, List.getElem?_cons_succ, Option.bind_some, Act.put, List.setIfInBounds_toArray, List.set_cons_zero, List.set_cons_succ, Array.getD_eq_getD_getElem?, Option.getD_some, if_true, if_false, Bool.false_eq_true]
   have e0 : f 0 = (.pointer (some ⟨gj, 0, none⟩)) := hR 0 (by decide) rfl
   have e1 : f 1 = (.pointer (some ⟨gj, 0, none⟩)) := hR 1 (by decide) rfl
   have e2 : f 2 = (.pointer (some ⟨gj, 0, none⟩)) := hR 2 (by decide) rfl
   have e3 : f 3 = (.pointer (some ⟨gj, 0, none⟩)) := hR 3 (by decide) rfl
   have e4 : f 4 = (.pointer (some ⟨gj, 0, none⟩)) := hR 4 (by decide) rfl
   have e5 : f 5 = (.pointer (some ⟨gj, 5, none⟩)) := hR 5 (by decide) rfl
   have e6 : f 6 = (.int .i64 (J.pl : Int)) := hR 6 (by decide) rfl
   have e7 : f 7 = (.pointer (some ⟨gj, 0, none⟩)) := hR 7 (by decide) rfl
   have e8 : f 8 = (.pointer (some ⟨gj, 0, none⟩)) := hR 8 (by decide) rfl
   have e9 : f 9 = (.pointer (some ⟨gj, 6, none⟩)) := hR 9 (by decide) rfl
   have e10 : f 10 = (.int .i64 (J.ct : Int)) := hR 10 (by decide) rfl
   have e11 : f 11 = (.pointer (some ⟨gj, 0, none⟩)) := hR 11 (by decide) rfl
   have e12 : f 12 = (.pointer (some ⟨gj, 0, none⟩)) := hR 12 (by decide) rfl
   have e13 : f 13 = (.pointer (some ⟨gj, 8, none⟩)) := hR 13 (by decide) rfl
   have e14 : f 14 = (.slice Aw J.waits.length cw) := hR 14 (by decide) rfl
   simp only [e0, e1, e2, e3, e4, e5, e6, e7, e8, e9, e10, e11, e12, e13, e14]
   clear e0 e1 e2 e3 e4 e5 e6 e7 e8 e9 e10 e11 e12 e13 e14 hR
   have HB4 := Lib.hid (Below.trans (gr_drewN (gr_refl w) 1) hB4)
   have HD4 := Lib.hid (HD.out.below HB4.out)
   have HJ4 := Lib.hid (HJ.out.below HB4.out)
   have HWR := Lib.hid (write_any w4 ok base gj gd F D J.fi J.bl J.ep J.pl J.ct Aw J.waits.length cw J.waits HD4.out HJ4.out.rc ⟨HJ4.out.lt, hF⟩ (HBR.out.below HB4.out) (fun ad e => ⟨Nat.lt_of_lt_of_le (HA.out ad e).1 HB4.out.size, (HA.out ad e).2⟩) (by omega) HLC.out HI.out.b1 HI.out.b2 HI.out.f1 (by have := HI.out.p1; have := HI.out.b2; omega) (by have := HI.out.c1; omega) hpd)
   obtain ⟨r, hr⟩ : ∃ r, r = flushE D (wsJ J) := ⟨_, rfl⟩
   have HR0 : Hid (flushE D (wsJ J) = r) := Lib.hid hr.symm
   have HWR2 : Hid (Calls Try.prog 35 #[.pointer (some ⟨gj, 0, none⟩), .int .i64 (J.pl : Int), .int .i64 (J.ct : Int), .slice Aw J.waits.length cw] w4 fun e w' => e = .returned (.int .i64 r) ∧ DPost w ok base gd F (flushD D (wsJ J)) w') := Lib.hid (HWR.out.mono (fun e w' h => ⟨by rw [h.1, hr]; rfl, DPost.pre HB4.out h.2⟩))
   clear hB4 hr HWR
   refine wpAny_of_held (S := fun _ => True) _ _ _ _ ?_
   refine wpAnyH_ready (rs := [15]) (by kernel_rfl) (by simp) ?_
   refine AllReadyH.cons rfl (fun KK hK => ?_) AllReadyH.nil
   rw [if_pos (by rfl)]
   go_simp
   refine HWR2.out.mono ?_
   rintro e w7 ⟨rfl, hdp⟩
   have HDP := Lib.hid hdp
   clear hdp
   refine hK.out _ _ trivial (fun _ => ?_)
   clear hK KK
   try simp only [List.setIfInBounds_toArray, List.set_cons_zero, List.set_cons_succ]
   refine wpAnyH_ready (rs := [16]) (by kernel_rfl) (by simp) ?_
   refine AllReadyH.cons rfl (fun KK hK => ?_) AllReadyH.nil
   go_simp
   refine hK.out _ _ trivial (fun _ => ?_)
   clear hK KK
   try simp only [List.setIfInBounds_toArray, List.set_cons_zero, List.set_cons_succ]
   refine wpAnyH_done (by kernel_rfl) ?_ _
   by_cases hr0 : r = 0
   ·subst hr0
    have HJ7 := Lib.hid (HJ.out.off HDP.out.1 hF)
    have HO7 := Lib.hid ((HD.out.kb HDP.out.1).ob HO.out)
    have c8' := HJ7.out.c8
    go_wp2_with fail
    refine (needs_any J.waits.length w7 (by omega)).mono ?_
    rintro e w8 ⟨rfl, rfl⟩
    obtain ⟨nn, hnn⟩ : ∃ nn, nn = needL J.waits.length := ⟨_, rfl⟩
    have HNN := Lib.hid hnn
    have hnb : nn ≤ 1024 := by rw [hnn]; have := HI.out.u1; have := HI.out.b2; omega
    have hib := HI.out.b1
    have hib2 := HI.out.b2
    have hip := HI.out.p1
    have hic := HI.out.c1
    have hiu := HI.out.u1
    rw [← hnn] at hic hiu HE ⊢
    obtain ⟨x, hx⟩ : ∃ x : Nat, x = (J.pl + nn) % J.bl := ⟨_, rfl⟩
    have HX := Lib.hid hx
    have k1 : IntKind.i64.wrap ((J.pl : Int) + (nn : Int)) = (J.pl : Int) + (nn : Int) := by rw [IntKind.wrap_i64]; omega
    have k2 : Int.tmod ((J.pl : Int) + (nn : Int)) (J.bl : Int) = (x : Int) := by
     have e : (J.pl : Int) + (nn : Int) = ((J.pl + nn : Nat) : Int) := by omega
     rw [e, Int.tmod_eq_emod_of_nonneg (by omega), hx]
     exact (Int.natCast_emod _ _).symm
    have hz : ((J.bl : Int) == 0) = false := beq_eq_false_iff_ne.2 (by omega)
    have hz' : ¬ (J.bl = 0) := by omega
    clear hx hnn
    go_upto_region 11 with fail
    have E2 := Lib.hid (show w7.drew.cell? ⟨gj, 5, none⟩ = some (.int .i64 (J.pl : Int)) from HJ7.out.c5)
    have E3 := Lib.hid (show w7.drew.cell? ⟨gj, 2, none⟩ = some (.int .i64 (J.bl : Int)) from HJ7.out.c2)
    refine wp_region_any (by kernel_rfl) ?_
    refine' wpAny_to_tail (l0 := #[false, false, false, false, false, false, false, false, false, false, false, false, false, false, false, false]) (by kernel_rfl) (by kernel_rfl) (by kernel_rfl) (by kernel_rfl) (by kernel_rfl)
     [MP.is (.pointer (some ⟨gj, 0, none⟩)), MP.is (.pointer (some ⟨gj, 0, none⟩)), MP.is (.pointer (some ⟨gj, 0, none⟩)), MP.is (.pointer (some ⟨gj, 5, none⟩)), MP.is (.int .i64 (J.pl : Int)), MP.is (.int .i64 (nn : Int)), MP.is (.int .i64 ((J.pl : Int) + (nn : Int))), MP.is (.pointer (some ⟨gj, 0, none⟩)), MP.is (.pointer (some ⟨gj, 0, none⟩)), MP.is (.pointer (some ⟨gj, 0, none⟩)), MP.is (.pointer (some ⟨gj, 2, none⟩)), MP.is (.int .i64 (J.bl : Int)), MP.is (.int .i64 (x : Int)), MP.is (.pointer (some ⟨gj, 0, none⟩)), MP.is (.pointer (some ⟨gj, 5, none⟩)), MP.any]
     (fun j => j == 15) #[true, true, true, true, true, true, true, true, true, true, true, true, true, true, true, false] rfl (by kernel_rfl) rfl (by kernel_rfl) (by kernel_rfl) (by kernel_rfl) (by kernel_rfl) (fun _ => undef) (by rfl) ?hR02 ?hAA2 ?hst2 ?hend2
    case hR02 =>
     intro j hj
     have hj2 : j ∈ [] := hj
     cases hj2
    case hAA2 =>
     intro f
     conv => lhs; simp only [putA, dstOf, List.size_toArray, List.length_cons, List.length_nil, Nat.zero_add, Nat.reduceAdd, List.getElem?_toArray, List.getElem?_cons_zero, List.getElem?_cons_succ, Option.bind_some, Act.put, List.setIfInBounds_toArray, List.set_cons_zero, List.set_cons_succ]
     first | done | exact rfl
    case hst2 =>
     refine Steps.of_list (l' := [0, 1, 2, 3, 4, 5, 6, 7, 8, 9, 10, 11, 12, 13, 14]) (by kernel_rfl) ?_
     refine Steps.cons rfl ?_ ?_
     ·intro f wz hB h K Q hK
      clear h
      try simp only [List.getElem_toArray, List.getElem_cons_zero]
      try rw [if_pos (by rfl)]
      go_simp
      exact hK _ _ (gr_refl _) rfl
     refine Steps.cons rfl ?_ ?_
     ·intro f wz hB h K Q hK
      clear h
      try rw [if_pos (by rfl)]
      go_simp
      exact hK _ _ (gr_refl _) rfl
     refine Steps.cons rfl ?_ ?_
     ·intro f wz hB h K Q hK
      have h1 : (MP.is (.pointer (some ⟨gj, 0, none⟩))).p (f 1) wz := h 1 (by kernel_rfl)
      have e1 : f 1 = (.pointer (some ⟨gj, 0, none⟩)) := h1
      simp only [e1] at hK ⊢
      clear e1
      clear h
      try rw [if_pos (by rfl)]
      go_simp
      exact hK _ _ (gr_refl _) rfl
     refine Steps.cons rfl ?_ ?_
     ·intro f wz hB h K Q hK
      have h2 : (MP.is (.pointer (some ⟨gj, 0, none⟩))).p (f 2) wz := h 2 (by kernel_rfl)
      have e2 : f 2 = (.pointer (some ⟨gj, 0, none⟩)) := h2
      simp only [e2] at hK ⊢
      clear e2
      clear h
      try rw [if_pos (by rfl)]
      go_simp
      exact hK _ _ (gr_refl _) rfl
     refine Steps.cons rfl ?_ ?_
     ·intro f wz hB h K Q hK
      have h3 : (MP.is (.pointer (some ⟨gj, 5, none⟩))).p (f 3) wz := h 3 (by kernel_rfl)
      have e3 : f 3 = (.pointer (some ⟨gj, 5, none⟩)) := h3
      simp only [e3] at hK ⊢
      clear e3
      clear h
      try rw [if_pos (by rfl)]
      have y0 := keep_of_below hB E2.out
      have y1 := keep_of_below hB E3.out
      go_simp
      exact hK _ _ (gr_refl _) rfl
     refine Steps.cons rfl ?_ ?_
     ·intro f wz hB h K Q hK
      clear h
      try rw [if_pos (by rfl)]
      go_simp
      exact hK _ _ (gr_refl _) rfl
     refine Steps.cons rfl ?_ ?_
     ·intro f wz hB h K Q hK
      have h4 : (MP.is (.int .i64 (J.pl : Int))).p (f 4) wz := h 4 (by kernel_rfl)
      have e4 : f 4 = (.int .i64 (J.pl : Int)) := h4
      have h5 : (MP.is (.int .i64 (nn : Int))).p (f 5) wz := h 5 (by kernel_rfl)
      have e5 : f 5 = (.int .i64 (nn : Int)) := h5
      simp only [e4, e5] at hK ⊢
      clear e4 e5
      clear h
      try rw [if_pos (by rfl)]
      go_simp
      exact hK _ _ (gr_refl _) rfl
     refine Steps.cons rfl ?_ ?_
     ·intro f wz hB h K Q hK
      clear h
      try rw [if_pos (by rfl)]
      go_simp
      exact hK _ _ (gr_refl _) rfl
     refine Steps.cons rfl ?_ ?_
     ·intro f wz hB h K Q hK
      have h7 : (MP.is (.pointer (some ⟨gj, 0, none⟩))).p (f 7) wz := h 7 (by kernel_rfl)
      have e7 : f 7 = (.pointer (some ⟨gj, 0, none⟩)) := h7
      simp only [e7] at hK ⊢
      clear e7
      clear h
      try rw [if_pos (by rfl)]
      go_simp
      exact hK _ _ (gr_refl _) rfl
     refine Steps.cons rfl ?_ ?_
     ·intro f wz hB h K Q hK
      have h8 : (MP.is (.pointer (some ⟨gj, 0, none⟩))).p (f 8) wz := h 8 (by kernel_rfl)
      have e8 : f 8 = (.pointer (some ⟨gj, 0, none⟩)) := h8
      simp only [e8] at hK ⊢
      clear e8
      clear h
      try rw [if_pos (by rfl)]
      go_simp
      exact hK _ _ (gr_refl _) rfl
     refine Steps.cons rfl ?_ ?_
     ·intro f wz hB h K Q hK
      have h9 : (MP.is (.pointer (some ⟨gj, 0, none⟩))).p (f 9) wz := h 9 (by kernel_rfl)
      have e9 : f 9 = (.pointer (some ⟨gj, 0, none⟩)) := h9
      simp only [e9] at hK ⊢
      clear e9
      clear h
      try rw [if_pos (by rfl)]
      go_simp
      exact hK _ _ (gr_refl _) rfl
     refine Steps.cons rfl ?_ ?_
     ·intro f wz hB h K Q hK
      have h10 : (MP.is (.pointer (some ⟨gj, 2, none⟩))).p (f 10) wz := h 10 (by kernel_rfl)
      have e10 : f 10 = (.pointer (some ⟨gj, 2, none⟩)) := h10
      simp only [e10] at hK ⊢
      clear e10
      clear h
      try rw [if_pos (by rfl)]
      have y0 := keep_of_below hB E2.out
      have y1 := keep_of_below hB E3.out
      go_simp
      exact hK _ _ (gr_refl _) rfl
     refine Steps.cons rfl ?_ ?_
     ·intro f wz hB h K Q hK
      have h6 : (MP.is (.int .i64 ((J.pl : Int) + (nn : Int)))).p (f 6) wz := h 6 (by kernel_rfl)
      have e6 : f 6 = (.int .i64 ((J.pl : Int) + (nn : Int))) := h6
      have h11 : (MP.is (.int .i64 (J.bl : Int))).p (f 11) wz := h 11 (by kernel_rfl)
      have e11 : f 11 = (.int .i64 (J.bl : Int)) := h11
      simp only [e6, e11] at hK ⊢
      clear e6 e11
      clear h
      try rw [if_pos (by rfl)]
      go_simp
      exact hK _ _ (gr_refl _) rfl
     refine Steps.cons rfl ?_ ?_
     ·intro f wz hB h K Q hK
      have h0 : (MP.is (.pointer (some ⟨gj, 0, none⟩))).p (f 0) wz := h 0 (by kernel_rfl)
      have e0 : f 0 = (.pointer (some ⟨gj, 0, none⟩)) := h0
      simp only [e0] at hK ⊢
      clear e0
      clear h
      try rw [if_pos (by rfl)]
      go_simp
      exact hK _ _ (gr_refl _) rfl
     refine Steps.cons rfl ?_ ?_
     ·intro f wz hB h K Q hK
      have h13 : (MP.is (.pointer (some ⟨gj, 0, none⟩))).p (f 13) wz := h 13 (by kernel_rfl)
      have e13 : f 13 = (.pointer (some ⟨gj, 0, none⟩)) := h13
      simp only [e13] at hK ⊢
      clear e13
      clear h
      try rw [if_pos (by rfl)]
      go_simp
      exact hK _ _ (gr_refl _) rfl
     exact Steps.nil
    intro f w5 hB5 hR
    conv => arg 7; simp only [putL, dstOf, List.size_toArray, List.length_cons, List.length_nil, Nat.zero_add, Nat.reduceAdd, List.getElem?_toArray, List.getElem?_cons_zero, List.getElem?_cons_succ, Option.bind_some, Act.put, List.setIfInBounds_toArray, List.set_cons_zero, List.set_cons_succ, Array.getD_eq_getD_getElem?, Option.getD_some, if_true, if_false, Bool.false_eq_true]
    have e0 : f 0 = (.pointer (some ⟨gj, 0, none⟩)) := hR 0 (by decide) rfl
    have e1 : f 1 = (.pointer (some ⟨gj, 0, none⟩)) := hR 1 (by decide) rfl
    have e2 : f 2 = (.pointer (some ⟨gj, 0, none⟩)) := hR 2 (by decide) rfl
    have e3 : f 3 = (.pointer (some ⟨gj, 5, none⟩)) := hR 3 (by decide) rfl
    have e4 : f 4 = (.int .i64 (J.pl : Int)) := hR 4 (by decide) rfl
    have e5 : f 5 = (.int .i64 (nn : Int)) := hR 5 (by decide) rfl
    have e6 : f 6 = (.int .i64 ((J.pl : Int) + (nn : Int))) := hR 6 (by decide) rfl
    have e7 : f 7 = (.pointer (some ⟨gj, 0, none⟩)) := hR 7 (by decide) rfl
    have e8 : f 8 = (.pointer (some ⟨gj, 0, none⟩)) := hR 8 (by decide) rfl
    have e9 : f 9 = (.pointer (some ⟨gj, 0, none⟩)) := hR 9 (by decide) rfl
    have e10 : f 10 = (.pointer (some ⟨gj, 2, none⟩)) := hR 10 (by decide) rfl
    have e11 : f 11 = (.int .i64 (J.bl : Int)) := hR 11 (by decide) rfl
    have e12 : f 12 = (.int .i64 (x : Int)) := hR 12 (by decide) rfl
    have e13 : f 13 = (.pointer (some ⟨gj, 0, none⟩)) := hR 13 (by decide) rfl
    have e14 : f 14 = (.pointer (some ⟨gj, 5, none⟩)) := hR 14 (by decide) rfl
    simp only [e0, e1, e2, e3, e4, e5, e6, e7, e8, e9, e10, e11, e12, e13, e14]
    clear e0 e1 e2 e3 e4 e5 e6 e7 e8 e9 e10 e11 e12 e13 e14 hR
    have HB5 : Hid (Below w7.heap.size w7 w5) := Lib.hid (Below.trans (gr_drewN (gr_refl w7) 1) hB5)
    have HJ5 := Lib.hid (HJ7.out.below HB5.out)
    have f5 := HJ5.out.frozen 5
    have f6 := HJ5.out.frozen 6
    have f7 := HJ5.out.frozen 7
    have f8 := HJ5.out.frozen 8
    have f10 := HJ5.out.frozen 10
    have d5 := HJ5.out.c5
    have d6 := HJ5.out.c6
    have d7 := HJ5.out.c7
    have d8 := HJ5.out.c8
    have d9 := HJ5.out.c9
    have d10 := HJ5.out.c10
    have HJF := Lib.hid (((((HJ5.out.s5 x).s6 (J.ct + nn)).s7 (J.us + nn)).s8 (.slice none 0 0) []).s10 J.la)
    clear c8' c8 t1 k1 k2 hz hz'
    clear hB5
    refine wpAny_of_held (S := fun _ => True) _ _ _ _ ?_
    refine wpAnyH_ready (rs := [15]) (by kernel_rfl) (by simp) ?_
    refine AllReadyH.cons rfl (fun KK hK => ?_) AllReadyH.nil
    go_simp
    refine hK.out _ _ trivial (fun _ => ?_)
    clear hK KK
    try simp only [List.setIfInBounds_toArray, List.set_cons_zero, List.set_cons_succ]
    refine wpAnyH_done (by kernel_rfl) ?_ _
    go_wp2_with fail
    go_ret
    rw [HE.out.1, HE.out.2.1, HE.out.2.2, if_neg (by rw [HR0.out]; simp), ← HX.out]
    have hjf := HJF.out
    rw [Int.natCast_add J.ct nn, Int.natCast_add J.us nn] at hjf
    have oF := (((((Off.refl (fun k => k = gj) w5).setCell (j := 5) (.int .i64 (x : Int)) rfl).setCell (j := 6) (.int .i64 ((J.ct : Int) + (nn : Int))) rfl).setCell (j := 7) (.int .i64 ((J.us : Int) + (nn : Int))) rfl).setCell (j := 8) (.slice none 0 0) rfl).setCell (j := 10) (.int .i64 (J.la : Int)) rfl
    have hfin := FPost.of HJ.out hF (HDP.out.more HB5.out) (.inr rfl) oF hjf (OB.nil _ _)
    refine ⟨ret_i HR0.out.symm, ?_⟩
    exact hfin
   ·have t3 : (r != 0) = true := by rw [bne_iff_ne]; exact hr0
    have HN0 := Lib.hid hr0
    have HJ7 := Lib.hid (HJ.out.off HDP.out.1 hF)
    have HO7 := Lib.hid ((HD.out.kb HDP.out.1).ob HO.out)
    have c11 := HJ7.out.c11
    have f11 := HJ7.out.frozen 11
    clear hr0
    go_wp2_with fail
    go_ret
    rw [HE.out.1, HE.out.2.1, HE.out.2.2, if_pos (by rw [HR0.out]; exact HN0.out)]
    have oF : Off (fun k => k = gj) w7 (w7.setCell ⟨gj, 11, none⟩ (.bool true)) := (Off.refl (fun k => k = gj) w7).setCell _ rfl
    exact ⟨ret_i HR0.out.symm, FPost.of HJ.out hF HDP.out (.inl rfl) oF (HJ7.out.s11 true) (HO7.out.ty oF (fun k e => by subst e; exact ⟨_, _, _, HJ7.out, by decide⟩))⟩
 ·have HE : Hid (fe = 4 ∧ fd = D ∧ fj = J) := Lib.hid ⟨by rw [HFE.out, if_pos hbr], by rw [HFD.out, if_pos (.inl hbr)], by rw [HFJ.out, if_pos (.inl hbr)]⟩
  simp only [if_true]
  clear hbr
  go_wp2_with fail
  go_ret
  rw [HE.out.1, HE.out.2.1, HE.out.2.2]
  exact ⟨rfl, HSAME.out⟩
end Go.Proofs.Ytnkeclpgpiogoaa

/-! JnC -/
namespace Go.Proofs.Ytnkeclpgpiogoaa
open Go Go.RowKit
theorem lastL_len {bs : List (List UInt8)} {b n : Nat} : ∀ {ps : List (Nat × List UInt8)}, (bs.getD b []).length = n → (∀ p ∈ ps, p.2.length = n) → (lastL bs ps b).length = n := by
 intro ps h0 h
 unfold lastL
 generalize bs.getD b [] = z at h0
 induction ps generalizing z with
 | nil => exact h0
 | cons p ps ih =>
  simp only [List.foldl_cons]
  refine ih (fun q hq => h q (by simp [hq])) _ ?_
  split
  ·exact h p (by simp)
  ·exact h0
theorem IsD.lens {w : World} {ok : Nat → Prop} {base g : Nat} {F : Nat → Prop} {D : DiskS} (h : IsD w ok base g F D) : (∀ b, b < D.blocks.length → (D.blocks.getD b []).length = 4096) ∧ ∀ p ∈ D.pending, p.2.length = 4096 ∧ p.1 < D.blocks.length := by
 obtain ⟨dr, dc, pv, dvs, pvs, hd, _⟩ := h
 constructor
 ·intro b hb
  have h1 : b < dvs.length := by rw [hd.dl]; exact hb
  have := (hd.dv b dvs[b] D.blocks[b] (List.getElem?_eq_getElem h1) (List.getElem?_eq_getElem hb)).1
  rw [List.getD_eq_getElem?_getD, List.getElem?_eq_getElem hb]
  exact this
 ·intro p hp
  obtain ⟨i, hi, rfl⟩ := List.getElem_of_mem hp
  have h1 : i < pvs.length := by rw [hd.pl]; exact hi
  have := hd.pw i pvs[i] D.pending[i] (List.getElem?_eq_getElem h1) (List.getElem?_eq_getElem hi)
  exact ⟨this.2.2.1, this.2.1⟩
theorem openP_len {s : List UInt8} (h : s.length = 4096) (he : openE s = 0) : (openP s).length = 4080 := by
 unfold openE at he
 unfold openP
 split at he
 ·rename_i hs
  rw [if_pos hs, List.length_take, List.length_drop, h]
  rfl
 ·omega
end Go.Proofs.Ytnkeclpgpiogoaa

/-! JnF -/
namespace Go.Proofs.Ytnkeclpgpiogoaa
open Go Go.RowKit
end Go.Proofs.Ytnkeclpgpiogoaa

/-! PlJ -/
namespace Go.Proofs.Ytnkeclpgpiogoaa
open Go Go.RowKit
theorem open_seal (a p : List UInt8) (ha : a.length = 8) (hp : p.length = 4080) : openP (a ++ p ++ a) = p ∧ openS (a ++ p ++ a) = leN a ∧ openE (a ++ p ++ a) = 0 := by
 have h1 : (a ++ p ++ a).take 8 = a := by rw [List.append_assoc]; exact List.take_left' ha
 have h2 : (a ++ p ++ a).drop 4088 = a := List.drop_left' (by rw [List.length_append, ha, hp])
 have h3 : ((a ++ p ++ a).drop 8).take 4080 = p := by rw [List.append_assoc, List.drop_left' ha]; exact List.take_left' hp
 have hs : sealed (a ++ p ++ a) = true := by unfold sealed; rw [h1, h2]; simp
 unfold openP openS openE
 rw [hs, h1, h3]
 exact ⟨rfl, rfl, rfl⟩
theorem openS_seal (v : Nat) (p : List UInt8) (hv : v < 18446744073709551616) (hp : p.length ≤ 4080) : openP (sealL v p) = p ++ List.replicate (4080 - p.length) 0 ∧ openS (sealL v p) = v ∧ openE (sealL v p) = 0 := by
 have h := open_seal (leB v 8) (p ++ List.replicate (4080 - p.length) 0) (leB_length v 8) (by rw [List.length_append, List.length_replicate]; omega)
 refine ⟨h.1, ?_, h.2.2⟩
 show openS (leB v 8 ++ (p ++ List.replicate (4080 - p.length) 0) ++ leB v 8) = v
 rw [h.2.1, leN_leB, Nat.mod_eq_of_lt (by omega)]
theorem needL_iff {i n : Nat} : i < needL n ↔ i * 4076 < n := by
 unfold needL
 constructor
 ·intro h; omega
 ·intro h; omega
/-! Flushes one behind the other. -/
def flN (f : List Rec) : Nat := needL (joinE f).length
def totL : List (List Rec) → Nat
 | [] => 0
 | f :: fs => flN f + totL fs
def LogAt (C : Nat → List UInt8) (V : Nat → Nat) : Nat → List (List Rec) → Prop
 | _, [] => True
 | o, f :: fs => (f ≠ [] ∧ (∀ r ∈ f, r.right = true) ∧ (joinE f).length < 4294967296 ∧ ∀ j, j < flN f → C (o + j) = sealL (V (o + j)) (payL (joinE f) j)) ∧ LogAt C V (o + flN f) fs
theorem totL_snoc (fs : List (List Rec)) (f : List Rec) : totL (fs ++ [f]) = totL fs + flN f := by
 induction fs with
 | nil => simp [totL]
 | cons g gs ih => simp only [List.cons_append, totL, ih]; omega
theorem LogAt.snoc {C : Nat → List UInt8} {V : Nat → Nat} : ∀ {fs : List (List Rec)} {o : Nat} {f : List Rec}, LogAt C V o fs → f ≠ [] → (∀ r ∈ f, r.right = true) → (joinE f).length < 4294967296 → (∀ j, j < flN f → C (o + totL fs + j) = sealL (V (o + totL fs + j)) (payL (joinE f) j)) → LogAt C V o (fs ++ [f])
 | [], o, f, _, h1, h2, h3, h4 => ⟨⟨h1, h2, h3, fun j hj => by have := h4 j hj; simpa [totL] using this⟩, trivial⟩
 | g :: gs, o, f, h, h1, h2, h3, h4 => ⟨h.1, LogAt.snoc h.2 h1 h2 h3 (fun j hj => by have := h4 j hj; simp only [totL] at this; rw [show o + flN g + totL gs + j = o + (flN g + totL gs) + j by omega]; exact this)⟩
theorem LogAt.cong {C C' : Nat → List UInt8} {V : Nat → Nat} : ∀ {fs : List (List Rec)} {o : Nat}, LogAt C V o fs → (∀ k, o ≤ k → k < o + totL fs → C' k = C k) → LogAt C' V o fs
 | [], _, _, _ => trivial
 | f :: fs, o, h, hc => ⟨⟨h.1.1, h.1.2.1, h.1.2.2.1, fun j hj => by rw [hc (o + j) (by omega) (by simp only [totL]; omega)]; exact h.1.2.2.2 j hj⟩, h.2.cong (fun k h1 h2 => hc k (by omega) (by simp only [totL]; omega))⟩
theorem flN_pos {f : List Rec} (h : f ≠ []) : 0 < flN f := by
 unfold flN
 refine needL_iff.2 ?_
 cases f with
 | nil => exact absurd rfl h
 | cons r rs =>
  have := joinE_ge (r :: rs)
  simp only [List.length_cons] at this
  omega
theorem LogAt.len {C : Nat → List UInt8} {V : Nat → Nat} : ∀ {fs : List (List Rec)} {o : Nat}, LogAt C V o fs → fs.length ≤ totL fs
 | [], _, _ => Nat.zero_le _
 | f :: fs, o, h => by
  have h1 := flN_pos h.1.1
  have h2 := h.2.len
  simp only [List.length_cons, totL]
  omega
def NoSt (s : List UInt8) (v : Nat) : Prop := openE s ≠ 0 ∨ openS s ≠ v
theorem ofN_ne {ep ep' c c' : Nat} (h1 : ep < 4294967296) (h2 : ep' < 4294967296) (h3 : c < 4294967296) (h4 : c' < 4294967296) (h : ep ≠ ep' ∨ c ≠ c') : ofN ep c ≠ ofN ep' c' := by
 unfold ofN
 rw [Nat.mod_eq_of_lt h1, Nat.mod_eq_of_lt h2, Nat.mod_eq_of_lt h3, Nat.mod_eq_of_lt h4]
 omega
theorem NoSt.seal_ {v v' : Nat} {p : List UInt8} (hv : v < 18446744073709551616) (hp : p.length ≤ 4080) (h : v ≠ v') : NoSt (sealL v p) v' := .inr (by rw [(openS_seal v p hv hp).2.1]; exact h)
theorem zer_seal : zer = sealL 0 [] := by
 unfold zer sealL
 rw [show leB 0 8 = List.replicate 8 0 by rfl]
 simp only [List.length_nil, Nat.sub_zero, List.nil_append]
 rw [List.replicate_append_replicate, List.replicate_append_replicate]
theorem NoSt.zer_ {v : Nat} (h : 0 ≠ v) : NoSt zer v := by rw [zer_seal]; exact NoSt.seal_ (by omega) (by simp) h
end Go.Proofs.Ytnkeclpgpiogoaa

/-! PlK -/
namespace Go.Proofs.Ytnkeclpgpiogoaa
open Go Go.RowKit
theorem mod_apart {a b i j : Nat} (_hb : 0 < b) (hij : i < j) (hj : j < i + b) : (a + i) % b ≠ (a + j) % b := by
 intro h
 have h1 := Nat.sub_mod_eq_zero_of_mod_eq h.symm
 rw [show a + j - (a + i) = j - i by omega, Nat.mod_eq_of_lt (by omega)] at h1
 omega
theorem lastL_in {B : List (List UInt8)} {fi bl ep pl ct : Nat} {b : List UInt8} {m i : Nat} (hb : 0 < bl) (hi : i < m) (hm : m ≤ needL b.length) (hN : needL b.length ≤ bl) : lastL B ((wsL fi bl ep pl ct b).take m) (fi + (pl + i) % bl) = sealL (ofN ep (ct + i)) (payL b i) := by
 refine lastL_at (i := i) (p := (fi + (pl + i) % bl, sealL (ofN ep (ct + i)) (payL b i))) ?_ rfl (fun j q hj hq => ?_)
 ·rw [List.getElem?_take, if_pos hi]
  exact wsL_at (by omega)
 ·rw [List.getElem?_take] at hq
  split at hq
  ·rw [wsL_at (by omega)] at hq
   injection hq with hq
   subst hq
   have := mod_apart (a := pl) hb hj (by omega)
   dsimp only
   omega
  ·cases hq
theorem lastL_out {B : List (List UInt8)} {fi bl ep pl ct : Nat} {b : List UInt8} {m x : Nat} (hm : m ≤ needL b.length) (h : ∀ i, i < m → (pl + i) % bl ≠ x) : lastL B ((wsL fi bl ep pl ct b).take m) (fi + x) = B.getD (fi + x) [] := by
 refine lastL_none (fun p hp => ?_)
 obtain ⟨i, hi, rfl⟩ := List.getElem_of_mem hp
 have hl : i < m := by rw [List.length_take, wsL_len] at hi; omega
 have e : ((wsL fi bl ep pl ct b).take m)[i]? = some (fi + (pl + i) % bl, sealL (ofN ep (ct + i)) (payL b i)) := by
  rw [List.getElem?_take, if_pos hl]
  exact wsL_at (by omega)
 rw [List.getElem?_eq_getElem hi] at e
 injection e with e
 rw [e]
 have := h i hl
 dsimp only
 omega
structure Lg (B : List (List UInt8)) (J : JnS) (pl0 ct0 : Nat) (fs : List (List Rec)) (cur : List Rec) : Prop where
 ji : JI J
 br : J.br = false
 wl : J.waits = joinE cur
 wr : ∀ r ∈ cur, r.right = true
 fb : J.fi + J.bl ≤ B.length
 log : LogAt (fun k => B.getD (J.fi + (pl0 + k) % J.bl) []) (fun k => ofN J.ep (ct0 + k)) 0 fs
 us : J.us = totL fs
 pl : J.pl = (pl0 + totL fs) % J.bl
 ct : J.ct = ct0 + totL fs
 old : ∀ p, p < J.bl → ∀ c, J.ct ≤ c → c < 4294967296 → NoSt (B.getD (J.fi + p) []) (ofN J.ep c)
 ep : J.ep < 4294967296
section
variable {B : List (List UInt8)} {J : JnS} {pl0 ct0 : Nat} {fs : List (List Rec)} {cur : List Rec}
theorem Lg.need (h : Lg B J pl0 ct0 fs cur) : needL J.waits.length = flN cur := by rw [h.wl]; rfl
theorem Lg.fits (h : Lg B J pl0 ct0 fs cur) : totL fs + flN cur ≤ J.bl := by
 have := h.ji.u1
 rw [h.need, h.us] at this
 exact this
theorem Lg.counts (h : Lg B J pl0 ct0 fs cur) : J.ct + flN cur ≤ 4294967296 := by
 have := h.ji.c1
 rw [h.need] at this
 exact this
theorem Lg.bpos (h : Lg B J pl0 ct0 fs cur) : 0 < J.bl := h.ji.b1
theorem Lg.wlen (h : Lg B J pl0 ct0 fs cur) : (joinE cur).length < 4294967296 := by
 have h1 := needL_le (Nat.le_trans (Nat.le_trans (Nat.le_add_left _ _) h.ji.u1) h.ji.b2)
 rw [h.wl] at h1
 omega
theorem Lg.carry (h : Lg B J pl0 ct0 fs cur) : (∀ i, i < flN cur → (carry B (wsJ J)).getD (J.fi + (J.pl + i) % J.bl) [] = sealL (ofN J.ep (J.ct + i)) (payL (joinE cur) i)) ∧ ∀ x, x < J.bl → (∀ i, i < flN cur → (J.pl + i) % J.bl ≠ x) → (carry B (wsJ J)).getD (J.fi + x) [] = B.getD (J.fi + x) [] := by
 have hfb := h.fb
 have hfit := h.fits
 have hw : wsJ J = (wsL J.fi J.bl J.ep J.pl J.ct (joinE cur)).take (flN cur) := by
  unfold wsJ
  rw [h.wl, List.take_of_length_le (by rw [wsL_len]; exact Nat.le_refl _)]
 constructor
 ·intro i hi
  rw [carry_at _ _ _ (by have := Nat.mod_lt (J.pl + i) h.bpos; omega), hw]
  exact lastL_in h.bpos hi (Nat.le_refl _) (by unfold flN at hfit; omega)
 ·intro x hx hi
  rw [carry_at _ _ _ (by omega), hw]
  exact lastL_out (Nat.le_refl _) hi
theorem Lg.place (h : Lg B J pl0 ct0 fs cur) (i : Nat) : (J.pl + i) % J.bl = (pl0 + (totL fs + i)) % J.bl := by
 rw [h.pl, Nat.mod_add_mod, Nat.add_assoc]
theorem Lg.flushed (h : Lg B J pl0 ct0 fs cur) (hc : cur ≠ []) : Lg (Go.Proofs.Ytnkeclpgpiogoaa.carry B (wsJ J)) { J with pl := (J.pl + needL J.waits.length) % J.bl, ct := J.ct + needL J.waits.length, us := J.us + needL J.waits.length, waits := [], sy := J.la } pl0 ct0 (fs ++ [cur]) [] := by
 obtain ⟨c1, c2⟩ := h.carry
 have hb := h.bpos
 have hfit := h.fits
 have hct := h.counts
 have hN := h.need
 refine ⟨⟨h.ji.b1, h.ji.b2, h.ji.f1, Nat.mod_lt _ h.ji.b1, by have := h.ji.u1; simp [needL] at this ⊢; omega, by have := h.ji.c1; simp [needL] at this ⊢; omega, h.ji.l1⟩, h.br, rfl, by simp, by rw [carry_len]; exact h.fb, ?_, ?_, ?_, ?_, ?_, h.ep⟩
 ·refine LogAt.snoc ?_ hc h.wr h.wlen (fun j hj => ?_)
  ·refine h.log.cong (fun k _ hk => ?_)
   refine c2 _ (Nat.mod_lt _ hb) (fun i hi => ?_)
   rw [h.place]
   exact (mod_apart hb (show k < totL fs + i by omega) (by omega)).symm
  ·have := c1 j hj
   rw [h.place, h.ct] at this
   simp only [Nat.zero_add]
   rw [this, Nat.add_assoc]
 ·show J.us + needL J.waits.length = totL (fs ++ [cur])
  rw [totL_snoc, h.us, hN]
 ·show (J.pl + needL J.waits.length) % J.bl = _
  rw [totL_snoc, hN, h.place]
 ·show J.ct + needL J.waits.length = _
  rw [totL_snoc, hN, h.ct, Nat.add_assoc]
 ·intro p hp c hc1 hc2
  show NoSt ((Go.Proofs.Ytnkeclpgpiogoaa.carry B (wsJ J)).getD (J.fi + p) []) (ofN J.ep c)
  have hc1' : J.ct + needL J.waits.length ≤ c := hc1
  rw [hN] at hc1'
  by_cases hx : ∃ i, i < flN cur ∧ (J.pl + i) % J.bl = p
  ·obtain ⟨i, hi, rfl⟩ := hx
   rw [c1 i hi]
   exact NoSt.seal_ (ofN_lt _ _) (payL_len _ _) (ofN_ne h.ep h.ep (by omega) hc2 (.inr (by omega)))
  ·rw [c2 p hp (fun i hi e => hx ⟨i, hi, e⟩)]
   exact h.old p hp c (by omega) hc2
end
def Blank (B : List (List UInt8)) (J : JnS) (pl0 T : Nat) : Prop := ∀ k, T ≤ k → k < J.bl → B.getD (J.fi + (pl0 + k) % J.bl) [] = zer
section
variable {B : List (List UInt8)} {J : JnS} {pl0 ct0 : Nat} {fs : List (List Rec)} {cur : List Rec}
end
end Go.Proofs.Ytnkeclpgpiogoaa

/-! PlY -/
namespace Go.Proofs.Ytnkeclpgpiogoaa
open Go Go.RowKit
theorem wsL_ok {B : List (List UInt8)} {fi bl ep pl ct : Nat} {b : List UInt8} (hb : 0 < bl) (hfb : fi + bl ≤ B.length) : ∀ p ∈ wsL fi bl ep pl ct b, p.1 < B.length ∧ p.2.length = 4096 := by
 intro p hp
 unfold wsL at hp
 rw [List.mem_map] at hp
 obtain ⟨i, _, rfl⟩ := hp
 have := Nat.mod_lt (pl + i) hb
 exact ⟨by dsimp only; omega, sealL_len (payL_len _ _)⟩
end Go.Proofs.Ytnkeclpgpiogoaa

/-! JnI -/
namespace Go.Proofs.Ytnkeclpgpiogoaa
open Go Go.RowKit
theorem IsD.kind {w : World} {ok : Nat → Prop} {base g : Nat} {F : Nat → Prop} {D : DiskS} (h : IsD w ok base g F D) {k : Nat} (hk : F k) : base ≤ k ∧ ∃ cs t fr, w.heap[k]? = some (.cells cs t fr) ∧ (t = 109 ∨ t = 37 ∨ t = 123) := by
 refine ⟨(h.foot_lt k hk).1, ?_⟩
 obtain ⟨dr, dc, pv, dvs, pvs, hd, hF⟩ := h
 rcases (hF k).1 hk with e | e | e
 ·subst e
  exact ⟨_, _, _, hd.db, .inl rfl⟩
 ·subst e
  obtain ⟨cur, hc⟩ := own_blk hd.dur rfl
  exact ⟨_, _, _, hc, .inr (.inl rfl)⟩
 ·obtain ⟨cur, hc⟩ := own_blk hd.pen e
  exact ⟨_, _, _, hc, .inr (.inr rfl)⟩
def MutT (t : TypeId) : Prop := t = 5 ∨ t = 109 ∨ t = 37 ∨ t = 123 ∨ t = 86
theorem mut3 {t : TypeId} (h : t = 109 ∨ t = 37 ∨ t = 123) : MutT t := .inr (h.imp id (fun h => h.imp id .inl))
def Mv (S S' : Nat → Prop) (w w' : World) : Prop := Off S w w' ∧ ∀ k, S' k → S k ∨ w.heap.size ≤ k
theorem Mv.of_below {S : Nat → Prop} {w w' : World} (h : Below w.heap.size w w') : Mv S S w w' := ⟨Off.of_below h, fun _ e => .inl e⟩
theorem Mv.trans {S S' S'' : Nat → Prop} {w w' w'' : World} (h : Mv S S' w w') (k : Mv S' S'' w' w'') : Mv S S'' w w'' :=
 ⟨h.1.chain k.1 h.2, fun j hj => by
  rcases k.2 j hj with e | e
  ·exact h.2 j e
  ·exact .inr (Nat.le_trans h.1.size e)⟩
structure JS (w0 w : World) (gd gj : Nat) (D : DiskS) (J : JnS) (S : Nat → Prop) : Prop where
 bel : Below w0.heap.size w0 w
 ex : ∃ F wv, IsD w (fun k => w0.heap.size ≤ k ∧ k ≠ gj ∧ wv.ownBlock ≠ some k) w0.heap.size gd F D ∧ JB w gj gd J wv ∧ OB w w0.heap.size wv J.waits ∧ w0.heap.size ≤ gj ∧ ¬ F gj ∧ JI J ∧ ∀ k, S k ↔ F k ∨ k = gj ∨ wv.ownBlock = some k
def DS (w0 w : World) (gd : Nat) (D : DiskS) (S : Nat → Prop) : Prop := Below w0.heap.size w0 w ∧ IsD w (fun k => w0.heap.size ≤ k) w0.heap.size gd S D
section
variable {w0 w w' : World} {gd gj : Nat} {D D' : DiskS} {J J' : JnS} {S S' : Nat → Prop}
theorem DS.below (h : DS w0 w gd D S) (hb : Below w.heap.size w w') : DS w0 w' gd D S := ⟨gr_trans h.1 hb, h.2.below hb⟩
theorem DS.kind (h : DS w0 w gd D S) {k : Nat} (hk : S k) : w0.heap.size ≤ k ∧ ∃ cs t fr, w.heap[k]? = some (.cells cs t fr) ∧ MutT t := by
 obtain ⟨h1, cs, t, fr, h2, h3⟩ := h.2.kind hk
 exact ⟨h1, cs, t, fr, h2, mut3 h3⟩
theorem DS.post (h : DS w0 w gd D S) (hp : DPost w (fun k => w0.heap.size ≤ k) w0.heap.size gd S D' w') : ∃ S', DS w0 w' gd D' S' ∧ Mv S S' w w' := by
 obtain ⟨h1, F', h2, h3⟩ := hp
 refine ⟨F', ⟨?_, h2.mono (fun j _ e => e.elim id (fun e => Nat.le_trans h.1.size e))⟩, h1, h3⟩
 exact h.1.trans (h1.below (fun k hk => (h.2.foot_lt k hk).1) h.1.size)
theorem JS.below (h : JS w0 w gd gj D J S) (hb : Below w.heap.size w w') : JS w0 w' gd gj D J S := by
 obtain ⟨F, wv, h1, h2, h3, h4, h5, h6, h7⟩ := h.ex
 exact ⟨gr_trans h.bel hb, F, wv, h1.below hb, h2.below hb, h3.below hb, h4, h5, h6, h7⟩
theorem JS.kind (h : JS w0 w gd gj D J S) {k : Nat} (hk : S k) : w0.heap.size ≤ k ∧ ∃ cs t fr, w.heap[k]? = some (.cells cs t fr) ∧ MutT t := by
 obtain ⟨F, wv, h1, h2, h3, h4, h5, h6, h7⟩ := h.ex
 rcases (h7 k).1 hk with e | e | e
 ·obtain ⟨q1, cs, t, fr, q2, q3⟩ := h1.kind e
  exact ⟨q1, cs, t, fr, q2, mut3 q3⟩
 ·subst e
  exact ⟨h4, _, _, _, h2, .inr (.inr (.inr (.inr rfl)))⟩
 ·obtain ⟨cur, hc⟩ := own_blk h3 e
  exact ⟨(h3.lt k e).1, _, _, _, hc, .inl rfl⟩
theorem JS.ji (h : JS w0 w gd gj D J S) : JI J := by
 obtain ⟨F, wv, h1, h2, h3, h4, h5, h6, h7⟩ := h.ex
 exact h6
theorem JS.jb (h : JS w0 w gd gj D J S) : ∃ wv, JB w gj gd J wv := by
 obtain ⟨F, wv, h1, h2, h3, h4, h5, h6, h7⟩ := h.ex
 exact ⟨wv, h2⟩
theorem JS.isd (h : JS w0 w gd gj D J S) : ∃ ok F, IsD w ok w0.heap.size gd F D := by
 obtain ⟨F, wv, h1, h2, h3, h4, h5, h6, h7⟩ := h.ex
 exact ⟨_, F, h1⟩
theorem JS.disk (h : JS w0 w gd gj D J S) {F : Nat → Prop} {wv : Value} (h1 : IsD w (fun k => w0.heap.size ≤ k ∧ k ≠ gj ∧ wv.ownBlock ≠ some k) w0.heap.size gd F D) (h2 : JB w gj gd J wv) (h3 : OB w w0.heap.size wv J.waits) (h4 : w0.heap.size ≤ gj) (h5 : ¬ F gj) (h7 : ∀ k, S k ↔ F k ∨ k = gj ∨ wv.ownBlock = some k) (hp : DPost w (fun k => w0.heap.size ≤ k ∧ k ≠ gj ∧ wv.ownBlock ≠ some k) w0.heap.size gd F D' w') : ∃ S', JS w0 w' gd gj D' J S' ∧ Mv S S' w w' := by
 have hgl := h2.lt
 have hkb := h1.kb hp.1
 have hfl := fun k hk => (h1.foot_lt k hk).1
 obtain ⟨p1, F', p2, p3⟩ := hp
 refine ⟨fun k => F' k ∨ k = gj ∨ wv.ownBlock = some k, ⟨h.bel.trans (p1.below hfl h.bel.size), F', wv, p2.mono (fun j _ e => ?_), h2.off p1 h5, hkb.ob h3, h4, fun e => ?_, h.ji, fun k => Iff.rfl⟩, p1.mono (fun k _ e => (h7 k).2 (.inl e)), fun k hk => ?_⟩
 ·rcases e with e | e
  ·exact e
  ·refine ⟨Nat.le_trans h.bel.size e, by omega, fun e2 => ?_⟩
   have := (h3.lt j e2).2
   omega
 ·rcases p3 gj e with e | e
  ·exact h5 e
  ·omega
 ·rcases hk with e | e | e
  ·exact (p3 k e).imp (fun e => (h7 k).2 (.inl e)) id
  ·exact .inl ((h7 k).2 (.inr (.inl e)))
  ·exact .inl ((h7 k).2 (.inr (.inr e)))
end
section
variable {w0 w w' : World} {gd gj : Nat} {D D' : DiskS} {J J' : JnS} {S S' : Nat → Prop}
theorem DNew_ds (n : Nat) (w0 w : World) (h1 : 1 ≤ n) (h2 : n ≤ 4096) (hb : Below w0.heap.size w0 w) :
  Calls Try.prog 15 #[.int .i64 (n : Int)] w fun e w' => ∃ gd S, e = .returned (.tuple #[.pointer (some ⟨gd, 0, none⟩), .int .i64 0]) ∧ DS w0 w' gd (newD n) S ∧ Below w.heap.size w w' ∧ ∀ k, S k → w.heap.size ≤ k := by
 refine (New_any n w h1 h2).mono ?_
 rintro e w' ⟨g, F, rfl, hd, hbb⟩
 exact ⟨g, F, rfl, ⟨gr_trans hb hbb, (hd.lower hb.size).mono (fun _ _ e => e.elim)⟩, hbb, fun k hk => (hd.foot_lt k hk).1⟩
theorem JNew_js (fi bl ep pl ct : Nat) (h : DS w0 w gd D S) (hm : mayB D.blocks.length fi bl ep pl ct = true) :
  Calls Try.prog 16 #[.pointer (some ⟨gd, 0, none⟩), .int .i64 (fi : Int), .int .i64 (bl : Int), .int .i64 (ep : Int), .int .i64 (pl : Int), .int .i64 (ct : Int)] w fun e w' => ∃ gj S', e = .returned (.tuple #[.pointer (some ⟨gj, 0, none⟩), .int .i64 0]) ∧ JS w0 w' gd gj D (newJ fi bl ep pl ct) S' ∧ Below w.heap.size w w' ∧ Mv S S' w w' := by
 refine (JNew_yes w _ _ gd S D fi bl ep pl ct h.2 hm).mono ?_
 rintro e w' ⟨rfl, hj, hb⟩
 have hd := h.2.sharp.below hb
 have hlen : D.blocks.length ≤ 4096 := by
  obtain ⟨dr, dc, pv, dvs, pvs, hd, _⟩ := h.2
  exact hd.n2
 refine ⟨w.heap.size, fun k => S k ∨ k = w.heap.size, rfl, ⟨gr_trans h.1 hb, S, .slice none 0 0, hd.mono (fun j _ e => ⟨e.1, by omega, by simp [Value.ownBlock]⟩), hj, OB.nil _ _, h.1.size, fun e => by have := (h.2.foot_lt _ e).2; omega, newJ_ji hlen hm, fun k => by simp [Value.ownBlock]⟩, hb, Off.of_below hb, fun k hk => hk.imp id (fun e => Nat.le_of_eq e.symm)⟩
theorem JFlush_js (h : JS w0 w gd gj D J S) (hpd : D.pending.length ≤ 900000) :
  Calls Try.prog 19 #[.pointer (some ⟨gj, 0, none⟩)] w fun e w' => e = .returned (.int .i64 (fluE D J)) ∧ ∃ S', JS w0 w' gd gj (fluD D J) (fluJ D J) S' ∧ Mv S S' w w' := by
 obtain ⟨F, wv, h1, h2, h3, h4, h5, h6, h7⟩ := h.ex
 refine (JFlush_any h2 h3 h1 h6 h5 hpd).mono ?_
 rintro e w' ⟨rfl, p1, wv', F', p2, p3, p4, p5, p6⟩
 have hgl := h2.lt
 refine ⟨rfl, fun k => F' k ∨ k = gj ∨ wv'.ownBlock = some k, ⟨h.bel.trans (p1.below (fun k hk => ?_) h.bel.size), F', wv', p5.mono (fun j _ e => ?_), p3, p4, h4, fun e => ?_, h6.flu D, fun k => Iff.rfl⟩, p1.mono (fun k _ e => (h7 k).2 ?_), fun k hk => ?_⟩
 ·rcases hk with e | e
  ·exact (h1.foot_lt k e).1
  ·omega
 ·rcases e with e | e
  ·refine ⟨e.1, e.2.1, ?_⟩
   rcases p2 with q | q
   ·rw [q]; exact e.2.2
   ·rw [q]; simp [Value.ownBlock]
  ·refine ⟨Nat.le_trans h.bel.size e, by omega, ?_⟩
   rcases p2 with q | q
   ·rw [q]
    intro e2
    have := (h3.lt j e2).2
    omega
   ·rw [q]; simp [Value.ownBlock]
 ·rcases p6 gj e with e | e
  ·exact h5 e
  ·omega
 ·rcases e with e | e
  ·exact .inl e
  ·exact .inr (.inl e)
 ·rcases hk with e | e | e
  ·exact (p6 k e).imp (fun e => (h7 k).2 (.inl e)) id
  ·exact .inl ((h7 k).2 (.inr (.inl e)))
  ·rcases p2 with q | q
   ·rw [q] at e; exact .inl ((h7 k).2 (.inr (.inr e)))
   ·rw [q] at e; simp [Value.ownBlock] at e
end
/-! Rows beside. -/
end Go.Proofs.Ytnkeclpgpiogoaa
