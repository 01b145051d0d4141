/-
  The reference of chapter 05: All.
-/
import Derived.Test.YthpjjoahffagcaaRhC
import Derived.Test.YthpjjoahffagcaaRdH
namespace Go.Proofs.Ythpjjoahffagcaa
open Go.RowKit

set_option maxRecDepth 100000 in
set_option maxHeartbeats 4000000 in
theorem refAll_any (A : Option Addr) (n c : Nat) (b : List UInt8) (w : World) (hb : BR w A n b) (hn : n ≤ 1073741824) (hnc : n ≤ c) (hc : c ≤ maxLen) :
    Calls Try.prog 19 #[.slice A n c] w fun e w' => ∃ v, e = .returned (.tuple #[v, .int .i64 (allE b : Int)]) ∧ ORW w' w.heap.size v (allR b) ∧ Below w.heap.size w w' := by
  obtain ⟨i0, hi0, hz0, hz1, hz2⟩ := info_parts info_u8
  obtain ⟨i1, hi1, hy0, hy1, hy2⟩ := info_parts info_record
  have HL := Lib.hid hb.len
  have HBR := Lib.hid hb
  have hlb := hb.len
  have HFA : Hid (allF n [] (b.drop 0) = (allR b, allE b)) := Lib.hid (by rw [List.drop_zero, ← hlb]; rfl)
  generalize allR b = ar at *
  generalize allE b = ae at *
  clear hb hlb
  go_enter Try.func19, Try.ntmps19
  go_wp2_with fail
  go_loopw [4, 5, 6, 7, 8] (fun v a _ _ _ wr => ∃ (f at_ : Nat) (acc : List Rec) (Av : Option Addr) (cv : Nat), a = .int .i64 (at_ : Int) ∧ at_ ≤ n ∧ n - at_ ≤ f ∧ acc.length ≤ at_ ∧ v = .slice Av acc.length cv ∧ Hid (ORW wr w.heap.size (.slice Av acc.length cv) acc) ∧ Hid (Below w.heap.size w wr) ∧ Hid (allF f acc (b.drop at_) = (ar, ae))) (fun _ a _ _ _ _ => n - (intOf a).toNat)
  case atStart => exact ⟨n, 0, [], none, 0, rfl, Nat.zero_le _, by omega, by simp, rfl, Lib.hid (ORW.nil _ _), Lib.hid (gr_refl _), HFA⟩
  case round =>
    clear HFA
    obtain ⟨f, at_, acc, Av, cv, rfl, hat, hnf, hacc, rfl, HOR, HBW, HE⟩ := hrel
    have j0 : (0 : Int) ≤ (at_ : Int) := Int.natCast_nonneg _
    by_cases h0 : at_ < n
    · have t1 : decide ((at_ : Int) < (n : Int)) = true := decide_eq_true (by omega)
      have t2 : decide (at_ < n) = true := decide_eq_true h0
      have hdl : (b.drop at_).length = n - at_ := by rw [List.length_drop, HL.out]
      have hne : b.drop at_ ≠ [] := fun e => by rw [e] at hdl; simp at hdl; omega
      have hst := allF_step (f := f) (acc := acc) (b := b.drop at_) (by omega) hne
      have hbc : BR wr (cutA A c at_ 1) (n - at_) (b.drop at_) := by
        have := BR.cut (HBR.out.below HBW.out) (k := at_) (j := n) (c := c) hat (Nat.le_refl _) hnc
        rw [List.take_of_length_le (by omega)] at this
        exact this
      have HD := refDecode_any (cutA A c at_ 1) (n - at_) (c - at_) (b.drop at_) wr hbc (by omega) (by omega) (by omega)
      have hcut := fun W => run_cut_l (P := Try.prog) W 26 5 i0 Try.underlying26 hi0 1 hz1 A n c (at_ : Int) at_ rfl hat
      have HE' := HE.out
      rw [hst] at HE'
      by_cases hde : decE (b.drop at_) = 0
      · have hdn := decN_le hde
        rw [hdl] at hdn
        rw [hde] at HD
        rw [hde, if_neg (by simp), List.drop_drop] at HE'
        generalize decN (b.drop at_) = dn at *
        generalize decR (b.drop at_) = dr at *
        obtain ⟨kd, tx, cs⟩ := dr
        simp only at HD
        have HX := Lib.hid HD
        have HE2 := Lib.hid HE'
        have d1 : (0 : Int) ≤ (dn : Int) := Int.natCast_nonneg _
        have d2 : (at_ : Int) + (dn : Int) ≤ 9223372036854775807 := by omega
        clear HD HE HE' hst hne hde hdl hbc
        go_wp2_with fail
        refine HX.out.mono ?_
        rintro e w5 ⟨v5, rfl, oc5, hb5⟩
        obtain ⟨A5, c5, rfl, _, _, _⟩ := oc5.cr
        have hbw5 := gr_trans HBW.out hb5
        have oc5' := oc5.lower HBW.out.size
        have or5 := HOR.out.below hb5
        clear HX hb5 oc5 HOR HBW hcut
        go_upto_region 5 with fail
        have hb6 := gr_alloc (gr_refl w5) (.cells #[.int .u8 (kd : Int), .int .i64 tx, .slice A5 cs.length c5] 38)
        have hbx := B3.new w5 (.int .u8 (kd : Int)) (.int .i64 tx) (.slice A5 cs.length c5) (t := 38) (by decide)
        have hbw6 := gr_trans hbw5 hb6
        have oc6 := oc5'.below hb6
        have or6 := or5.below hb6
        generalize hvb : w5.heap.size = vb at *
        clear hb6 hbw5 oc5' or5 hvb
        generalize w5.alloc (.cells #[.int .u8 (kd : Int), .int .i64 tx, .slice A5 cs.length c5] 38) = w6 at *
        have q0 := hbx.c0
        have q1 := hbx.c1
        have q2 := hbx.c2
        have hb7 := gr_alloc (gr_refl w6) (.cells #[.int .u8 (kd : Int), .int .i64 tx, .slice A5 cs.length c5] 38)
        have HBW7 := Lib.hid (gr_trans hbw6 hb7)
        have HOC7 := Lib.hid (oc6.below hb7)
        obtain ⟨us, r1, r2, r3⟩ := or6.below hb7
        have HR1 := Lib.hid r1
        have HR2 := Lib.hid r2
        have HR3 := Lib.hid r3
        have hsz := hbw6.size
        clear hb7 hbw6 oc6 or6 r1 r2 r3 hbx
        go_wp2_with (at_builtin; refine wpList_append_Rd _ rfl (.tmp 24) (.tmp 26) _ rfl w.heap.size 38 i1 _ 3 40 Try.underlying41 hi1 hy0 hy1 hy2 rfl (.slice Av acc.length cv) acc.length (rcs us) rfl HR1.out (some ⟨w6.heap.size, 0, none⟩) 1 1 [.int .u8 (kd : Int), .int .i64 tx, .slice A5 cs.length c5] rfl (Rd.new w6 _ #[.int .u8 (kd : Int), .int .i64 tx, .slice A5 cs.length c5] 1 3 rfl) (by simp [Value.oneCell']) (by omega) (by simp only [maxLen]; omega) (by rw [World.size_alloc]; omega) ?_; intro v8 w8 ho8 hg8 _ _; have HO8 := Lib.hid ho8; have HG8 := Lib.hid hg8; obtain ⟨A8, c8, rfl, _, _⟩ := own_form ho8; clear ho8 hg8)
        have or8 := ORW.push HR2.out HR3.out HOC7.out HG8.out (fun k hk => own_blk HR1.out hk) HO8.out
        have bw8 := gr_own HBW7.out HR1.out HG8.out
        go_roundw
        case rel => exact ⟨f - 1, at_ + dn, acc ++ [⟨kd, tx, cs⟩], A8, c8, by go_num, by omega, by omega, by rw [List.length_append]; simp; omega, by rw [List.length_append]; rfl, Lib.hid (by rw [List.length_append]; exact or8), Lib.hid bw8, HE2⟩
        case measure => simp [intOf]; omega
      · rw [if_pos hde] at HE'
        injection HE' with h1 h2
        have hde2 : ((decE (b.drop at_) : Int) != 0) = true := by simp; exact hde
        have HAR : Hid (ar = []) := Lib.hid h1.symm
        have HAE : Hid (ae = decE (b.drop at_)) := Lib.hid h2.symm
        clear h1 h2
        generalize decE (b.drop at_) = de at *
        generalize decN (b.drop at_) = dn at *
        generalize decR (b.drop at_) = dr at *
        obtain ⟨kd, tx, cs⟩ := dr
        simp only at HD
        have HX := Lib.hid HD
        clear HD HE hst hne hde hdl hbc
        go_wp2_with fail
        refine HX.out.mono ?_
        rintro e w5 ⟨v5, rfl, oc5, hb5⟩
        obtain ⟨A5, c5, rfl, _, _, _⟩ := oc5.cr
        have hbw5 := gr_trans HBW.out hb5
        clear HX hb5 oc5 HOR HBW
        go_wp2_with fail
        go_ret2
        rw [HAR.out, HAE.out]
        exact ⟨.slice none 0 0, rfl, ORW.nil _ _, gr_alloc hbw5 _⟩
    · obtain rfl : at_ = n := by omega
      have t1 : decide ((at_ : Int) < (at_ : Int)) = false := decide_eq_false (by omega)
      have hE := HE.out
      rw [List.drop_eq_nil_of_le (by rw [HL.out]; exact Nat.le_refl _), allF_nil] at hE
      injection hE with h1 h2
      subst h1 h2
      clear HE
      go_wp2_with fail
      go_ret2
      exact ⟨_, rfl, HOR.out, HBW.out⟩

end Go.Proofs.Ythpjjoahffagcaa
