/-
  The walk of RecordBack.
-/
import Derived.Test.YthpjjoahffagcaaRdM
namespace Go.Proofs.Ythpjjoahffagcaa
open Go.RowKit

theorem cut_at {j L : Nat} (hj : j < 40) (hL : 4 ≤ L) (hL2 : L ≤ 400004) : ∃ p : Nat, wrap64 ((L : Int) - 1 - wrap64 ((wrap64 ((j : Int) * (L : Int))).tdiv 41)) = (p : Int) ∧ p < L := by
  have h0 : (j : Int) * (L : Int) = ((j * L : Nat) : Int) := (Int.natCast_mul j L).symm
  rw [h0]
  have h1 : j * L ≤ 39 * L := Nat.mul_le_mul_right L (by omega)
  generalize j * L = x at *
  rw [IntWalk.wrap64_in (x : Int) (by omega)]
  rw [show ((x : Int)).tdiv 41 = ((x / 41 : Nat) : Int) from rfl]
  rw [IntWalk.wrap64_in ((x / 41 : Nat) : Int) (by omega), IntWalk.wrap64_in _ (by omega)]
  exact ⟨L - 1 - x / 41, by omega, by omega⟩

set_option maxRecDepth 100000 in
set_option maxHeartbeats 2000000 in
theorem RecordBack_any (k : Nat) (tx : Int) (A : Option Addr) (n d : Nat) (cs : List Ch) (B : Option Addr) (m c : Nat) (b : List UInt8) (w : World) (hc : CR w A n cs) (hn : n ≤ 9223372036854775807) (hpb : ∀ c ∈ cs, ∀ p ∈ c.2.2, p.1 ≤ 9223372036854775807) (hpl : ∀ c ∈ cs, c.2.2.length ≤ 9223372036854775807)
    (hb : BR w B m b) (hmc : m ≤ c) (hcc : c ≤ 140737488351232) :
    Calls Try.prog 7 #[.agg #[.int .u8 (k : Int), .int .i64 tx, .slice A n d], .slice B m c] w fun e w' => e = .returned (.bool true) ∧ Below w.heap.size w w' := by
  obtain ⟨i0, hi0, hz0, hz1, hz2⟩ := info_parts info_u8
  have hlb := hb.len
  have HPB := Lib.hid hpb
  have HPL := Lib.hid hpl
  have HHN := Lib.hid hn
  go_enter Try.func7, Try.ntmps7
  go_wp2_with fail
  have hbA := gr_alloc (gr_refl w) (.cells #[.int .u8 (k : Int), .int .i64 tx, .slice A n d] 38)
  have HX0 := Lib.hid (B3.new w (.int .u8 (k : Int)) (.int .i64 tx) (.slice A n d) (t := 38) (by decide))
  have HC0 := Lib.hid (hc.below hbA)
  have HB0 := Lib.hid (hb.below hbA)
  have HW0 := Lib.hid hbA
  clear hc hb hbA hpb hpl hn hlb
  generalize w.alloc (.cells #[.int .u8 (k : Int), .int .i64 tx, .slice A n d] 38) = w0 at *
  refine (Encode_any k tx A n d cs w0 HC0.out HHN.out HPB.out).mono ?_
  rintro e w1 ⟨v1, rfl, ho1, hb1⟩
  have HX1 := Lib.hid (HX0.out.nb (NB.below hb1))
  have HC1 := Lib.hid (HC0.out.below hb1)
  have HB1 := Lib.hid (HB0.out.below hb1)
  have HW1 := Lib.hid (gr_trans HW0.out hb1)
  clear HX0 HC0 HB0
  have x0 := HX1.out.c0
  have x1 := HX1.out.c1
  have x2 := HX1.out.c2
  cases hr : (Rec.mk k tx cs).right with
  | false =>
    have e1 : encE ⟨k, tx, cs⟩ = 2 := by unfold encE; rw [hr]; rfl
    have e2 : encL ⟨k, tx, cs⟩ = [] := by unfold encL; rw [hr]; rfl
    rw [e1]
    rw [e2] at ho1
    obtain ⟨A1, c1, rfl, _, _, _⟩ := ho1.formN (n := 0) rfl
    have HR := Lib.hid hr
    clear ho1 hb1 hr e1 e2
    go_wp2_with fail
    refine (Right_any k tx A n d cs _ HC1.out HHN.out HPB.out).mono ?_
    rintro e w2 ⟨rfl, hb2⟩
    rw [show rightR (k : Int) tx cs = false from HR.out]
    go_wp2_with fail
    refine (awake05_any _).mono ?_
    rintro e w3 ⟨rfl, hb3⟩
    go_wp2
    go_ret
    exact ⟨rfl, gr_trans (gr_trans HW1.out hb2) hb3⟩
  | true =>
    have e1 : encE ⟨k, tx, cs⟩ = 0 := by unfold encE; rw [hr]; rfl
    obtain ⟨L, e2, hL1, hL2, hD, hS⟩ : ∃ L, encL ⟨k, tx, cs⟩ = L ∧ 4 ≤ L.length ∧ L.length ≤ 400004 ∧ (∀ b, decE (L ++ b) = 0 ∧ decN (L ++ b) = L.length ∧ decR (L ++ b) = ⟨k, tx, cs⟩) ∧ ∀ p, p < L.length → decE (L.take p) = 150 :=
      ⟨encR ⟨k, tx, cs⟩, by unfold encL; rw [hr]; rfl, by rw [encR_len]; omega, by have := encB_small hr; rw [encR_len]; omega, dec_back hr, fun p hp => dec_short hr hp⟩
    rw [e1]
    rw [e2] at ho1
    obtain ⟨A1, c1, rfl, br1, hn1, hm1⟩ := ho1.form
    have HD := Lib.hid hD
    have HS := Lib.hid hS
    have BRL := Lib.hid br1
    have HN1 := Lib.hid (And.intro hn1 hm1)
    clear ho1 hr e1 e2 hD hS br1 hn1 hm1
    go_wp2_with fail
    refine (CopyBytes_any A1 L.length c1 L w1 BRL.out (by omega)).mono ?_
    rintro e w2 ⟨v2, rfl, ho2, hb2⟩
    have HO2 := Lib.hid ho2
    have HB2 := Lib.hid (HB1.out.below hb2)
    have HBB := Lib.hid hb2
    clear ho2 hb2 x0 x1 x2
    go_upto_region 5 with (at_builtin; refine wpList_append_M _ rfl (.tmp 43) (.tmp 44) rfl rfl HO2.out rfl (HB2.out) (by omega) HBB.out.size ?_; intro A3 c3 w3 br3 hn3 hm3 bb3 nb3; have BR3 := Lib.hid br3; have HN3 := Lib.hid (And.intro hn3 hm3); have HB3 := Lib.hid (HBB.out.trans bb3); clear br3 hn3 hm3 bb3 nb3)
    refine (Decode_any A3 (L.length + m) c3 (L ++ b) w3 BR3.out (by omega) HN3.out.1 (by have := HN3.out.2; simp only [maxLen] at this; omega)).mono ?_
    rw [(HD.out b).1, (HD.out b).2.1, (HD.out b).2.2]
    rintro e w4 ⟨v4, rfl, ho4, hb4⟩
    obtain ⟨A4, c4, rfl, hc4, hn4, hm4⟩ := ho4.cr
    have hb14 := gr_trans HB3.out hb4
    have HX4 := Lib.hid (HX1.out.nb (NB.below hb14))
    have HC4 := Lib.hid (HC1.out.below hb14)
    have HB4 := Lib.hid (HB1.out.below hb14)
    have HL4 := Lib.hid (BRL.out.below hb14)
    have HW4 := Lib.hid (gr_trans HW1.out hb14)
    have HD4 := Lib.hid hc4
    have HLN := Lib.hid hc4.len
    clear HX1 HC1 HB1 BRL HW1 HO2 HB2 HBB BR3 HN3 HB3 ho4 hb4 hc4 hn4 hm4 hb14
    go_upto_region 5 with fail
    have hbz := gr_alloc (gr_refl w4) (.cells #[.int .u8 (k : Int), .int .i64 tx, .slice A4 cs.length c4] 38)
    have HX5 := Lib.hid (HX4.out.nb (NB.below hbz))
    have HY5 := Lib.hid (B3.new w4 (.int .u8 (k : Int)) (.int .i64 tx) (.slice A4 cs.length c4) (t := 38) (by decide))
    have HC5 := Lib.hid (HC4.out.below hbz)
    have HD5 := Lib.hid (HD4.out.below hbz)
    have HB5 := Lib.hid (HB4.out.below hbz)
    have HL5 := Lib.hid (HL4.out.below hbz)
    have HW5 := Lib.hid (gr_trans HW4.out hbz)
    clear HX4 HC4 HB4 HL4 HW4 HD4 hbz
    generalize w4.alloc (.cells #[.int .u8 (k : Int), .int .i64 tx, .slice A4 cs.length c4] 38) = w5 at *
    have x0 := HX5.out.c0
    have x1 := HX5.out.c1
    have x2 := HX5.out.c2
    have y0 := HY5.out.c0
    have y1 := HY5.out.c1
    have y2 := HY5.out.c2
    go_wp2_with fail
    refine (Same_any k k tx tx A A4 n cs.length d c4 cs cs w5 HC5.out HD5.out HHN.out (by have := HC5.out.len; have := HHN.out; omega) HPL.out HPL.out).mono ?_
    rw [show decide ((k : Int) = (k : Int) ∧ tx = tx ∧ cs = cs) = true from decide_eq_true ⟨rfl, rfl, rfl⟩]
    rintro e w6 ⟨rfl, hb6⟩
    have HB6 := Lib.hid (HB5.out.below hb6)
    have HL6 := Lib.hid (HL5.out.below hb6)
    have HW6 := Lib.hid (gr_trans HW5.out hb6)
    clear x0 x1 x2 y0 y1 y2 HX5 HY5 HC5 HD5 HB5 HL5 HW5 hb6
    go_wp2_with fail
    go_loopw [10, 11, 12, 13, 74] (fun i _ _ _ _ wr => ∃ j : Nat, j ≤ 40 ∧ i = .int .i64 j ∧ Hid (Below w6.heap.size w6 wr)) (fun i _ _ _ _ _ => 40 - (intOf i).toNat)
    case atStart => exact ⟨0, by omega, rfl, Lib.hid (gr_refl _)⟩
    case round =>
      obtain ⟨j, hj, rfl, HR⟩ := hrel
      by_cases hlt : j < L.length ∧ j < 40
      · have t1 : decide ((j : Int) < (L.length : Int)) = true := decide_eq_true (by omega)
        have t2 : decide ((j : Int) < 40) = true := decide_eq_true (by omega)
        have t3 : decide (j < L.length) = true := decide_eq_true hlt.1
        have t4 : decide (j < 40) = true := decide_eq_true hlt.2
        have HLT := Lib.hid hlt
        clear hlt
        obtain ⟨p, hp, hpL⟩ := cut_at (j := j) (L := L.length) HLT.out.2 hL1 hL2
        have hcut := fun W => run_cut_h (P := Try.prog) W 26 5 i0 Try.underlying26 hi0 1 hz1 A1 L.length c1 _ p hp (by have := HN1.out.1; omega)
        have HPL2 := Lib.hid hpL
        clear hpL
        rw [hp] at hcut
        go_wp2_with fail
        refine (Decode_any A1 p c1 (L.take p) wr ((HL6.out.below HR.out).pre (Nat.le_of_lt HPL2.out)) (by have := HPL2.out; omega) (by have := HN1.out.1; have := HPL2.out; omega) (by have := HN1.out.2; simp only [maxLen] at this; omega)).mono ?_
        rw [HS.out p HPL2.out]
        generalize ((decR (L.take p)).kind : Int) = q0
        generalize (decR (L.take p)).tx = q1
        generalize ((decN (L.take p)) : Int) = q2
        generalize (decR (L.take p)).cs = q3
        rintro e w7 ⟨v7, rfl, ho7, hb7⟩
        obtain ⟨A7, c7, rfl, _, _, _⟩ := ho7.cr
        have HR7 := Lib.hid (gr_alloc (gr_trans HR.out hb7) (.cells #[.int .u8 q0, .int .i64 q1, .slice A7 q3.length c7] 38))
        clear hcut hp ho7 hb7 HR
        go_wp2_with fail
        go_roundw
        all_goals have hlt := HLT.out
        case rel => exact ⟨j + 1, by omega, by go_num, HR7⟩
        case measure => simp [intOf]; omega
      · have t0 : Hid ((decide ((j : Int) < (L.length : Int)) && decide ((j : Int) < 40)) = false) := Lib.hid (by
          rcases Nat.lt_or_ge j L.length with h | h
          · rw [decide_eq_false (p := (j : Int) < 40) (by omega), Bool.and_false]
          · rw [decide_eq_false (p := (j : Int) < (L.length : Int)) (by omega), Bool.false_and])
        have HW7 := Lib.hid (gr_trans HW6.out HR.out)
        have HB7 := Lib.hid (HB6.out.below HR.out)
        clear HR HB6 HL6 HW6 HS
        by_cases hlt' : j < L.length
        · have t1 : decide ((j : Int) < (L.length : Int)) = true := decide_eq_true (by omega)
          have t2 : decide ((j : Int) < 40) = false := decide_eq_false (by omega)
          have t3 : decide (j < L.length) = true := decide_eq_true (by omega)
          have t4 : decide (j < 40) = false := decide_eq_false (by omega)
          clear t0 hlt hlt'
          go_wp2_with fail
          have HDB := Lib.hid (Decode_any B m c b wr HB7.out (by omega) hmc (by omega))
          by_cases hE : decE b = 0
          · obtain ⟨o1, o2, o3⟩ := dec_own hE
            have HBL := Lib.hid HB7.out.len
            have o5 := (right_good o1).2.2.2.2
            have hlen3 : (encR (decR b)).length = decN b := by rw [o3, List.length_take]; omega
            generalize decR b = r at *
            generalize decN b = N at *
            obtain ⟨rk, rt, rc⟩ := r
            have hNm : N ≤ m := by rw [← HBL.out]; exact o2
            have OPB : Hid (∀ c ∈ rc, ∀ p ∈ c.2.2, p.1 ≤ 9223372036854775807) := Lib.hid (fun c hc p hp => by
              have h1 := o5 c hc
              unfold chG at h1
              have h2 := h1.2.2.2.2 p hp
              unfold pcG at h2
              omega)
            have OE : Hid (encE ⟨rk, rt, rc⟩ = 0) := Lib.hid (by unfold encE; rw [if_pos o1])
            have OL : Hid (encL ⟨rk, rt, rc⟩ = b.take N) := Lib.hid (by unfold encL; rw [if_pos o1, o3])
            have OR1 : Hid (rightR (rk : Int) rt rc = true) := Lib.hid o1
            have HTL : Hid ((b.take N).length = N) := Lib.hid (by rw [← o3]; exact hlen3)
            have HNM := Lib.hid hNm
            clear o1 o2 o3 o5 hlen3 hNm
            refine HDB.out.mono ?_
            rw [hE]
            clear HDB hE
            rintro e w7 ⟨v7, rfl, ho7, hb7⟩
            obtain ⟨A7, c7, rfl, hc7, _, _⟩ := ho7.cr
            have HLN7 := Lib.hid hc7.len
            have HB8 := Lib.hid (HB7.out.below hb7)
            have HW8 := Lib.hid (gr_trans HW7.out hb7)
            have HC8 := Lib.hid hc7
            clear HB7 HW7 ho7 hb7 hc7
            go_upto_region 14 with fail
            have hbz := gr_alloc (gr_refl w7) (.cells #[.int .u8 (rk : Int), .int .i64 rt, .slice A7 rc.length c7] 38)
            have HY8 := Lib.hid (B3.new w7 (.int .u8 (rk : Int)) (.int .i64 rt) (.slice A7 rc.length c7) (t := 38) (by decide))
            have HC9 := Lib.hid (HC8.out.below hbz)
            have HB9 := Lib.hid (HB8.out.below hbz)
            have HW9 := Lib.hid (gr_trans HW8.out hbz)
            clear HB8 HW8 HC8 hbz
            generalize w7.alloc (.cells #[.int .u8 (rk : Int), .int .i64 rt, .slice A7 rc.length c7] 38) = w8 at *
            have HRL : Hid (rc.length ≤ 9223372036854775807) := Lib.hid (by
              have h1 := (right_good (r := ⟨rk, rt, rc⟩) OR1.out).2.2.2.1
              simp only at h1
              omega)
            have y0 := HY8.out.c0
            have y1 := HY8.out.c1
            have y2 := HY8.out.c2
            go_wp2_with fail
            refine (Encode_any rk rt A7 rc.length c7 rc w8 HC9.out HRL.out OPB.out).mono ?_
            rw [OE.out, OL.out]
            rintro e w9 ⟨v9, rfl, ho9, hb9⟩
            obtain ⟨A9, c9, rfl, br9, _, _⟩ := ho9.formN (n := N) HTL.out
            have HYa := Lib.hid (HY8.out.nb (NB.below hb9))
            have HCa := Lib.hid (HC9.out.below hb9)
            have HBa := Lib.hid (HB9.out.below hb9)
            have HWa := Lib.hid (gr_trans HW9.out hb9)
            have HRa := Lib.hid br9
            clear y0 y1 y2 HY8 HC9 HB9 HW9 ho9 hb9 br9
            have y0 := HYa.out.c0
            have y1 := HYa.out.c1
            have y2 := HYa.out.c2
            go_wp2_with fail
            refine (Right_any rk rt A7 rc.length c7 rc w9 HCa.out HRL.out OPB.out).mono ?_
            rw [OR1.out]
            rintro e wa ⟨rfl, hba⟩
            have t1 : decide ((N : Int) ≤ (m : Int)) = true := decide_eq_true (by have := HNM.out; omega)
            have t2 : decide (N ≤ m) = true := decide_eq_true HNM.out
            have hcut2 := fun W => run_cut_h (P := Try.prog) W 26 5 i0 Try.underlying26 hi0 1 hz1 B m c (N : Int) N rfl (by have := HNM.out; omega)
            have HBb := Lib.hid ((HBa.out.below hba).pre HNM.out)
            have HRb := Lib.hid (HRa.out.below hba)
            have HWb := Lib.hid (gr_trans HWa.out hba)
            clear y0 y1 y2 HYa HCa HBa HWa HRa hba
            go_wp2_with fail
            refine (SameBytes_any A9 B N N c9 c (b.take N) (b.take N) wa HRb.out HBb.out).mono ?_
            rw [show (b.take N == b.take N) = true from beq_self_eq_true _]
            rintro e wb ⟨rfl, rfl⟩
            clear t1 t2 hcut2
            go_wp2_with fail
            refine (awake05_any _).mono ?_
            rintro e wd ⟨rfl, hbd⟩
            go_wp2
            go_ret
            exact ⟨rfl, gr_trans HWb.out hbd⟩
          · obtain ⟨e1, e2⟩ := decE_not hE
            rw [e1] at HDB
            clear hE
            rcases e2 with e2 | e2
            all_goals
              refine HDB.out.mono ?_
              rw [e2]
              clear HDB e1 e2
              generalize ((decR b).kind : Int) = q0
              generalize (decR b).tx = q1
              generalize (decR b).cs = q3
              rintro e w7 ⟨v7, rfl, ho7, hb7⟩
              obtain ⟨A7, c7, rfl, _, _, _⟩ := ho7.cr
              have HW8 := Lib.hid (gr_alloc (gr_trans HW7.out hb7) (.cells #[.int .u8 q0, .int .i64 q1, .slice A7 q3.length c7] 38))
              clear ho7 hb7 HW7
              go_wp2_with fail
              refine (awake05_any _).mono ?_
              rintro e wd ⟨rfl, hbd⟩
              go_wp2
              go_ret
              exact ⟨rfl, gr_trans HW8.out hbd⟩
        · have t1 : decide ((j : Int) < (L.length : Int)) = false := decide_eq_false (by omega)
          have t3 : decide (j < L.length) = false := decide_eq_false (by omega)
          clear t0 hlt hlt'
          go_wp2_with fail
          have HDB := Lib.hid (Decode_any B m c b wr HB7.out (by omega) hmc (by omega))
          by_cases hE : decE b = 0
          · obtain ⟨o1, o2, o3⟩ := dec_own hE
            have HBL := Lib.hid HB7.out.len
            have o5 := (right_good o1).2.2.2.2
            have hlen3 : (encR (decR b)).length = decN b := by rw [o3, List.length_take]; omega
            generalize decR b = r at *
            generalize decN b = N at *
            obtain ⟨rk, rt, rc⟩ := r
            have hNm : N ≤ m := by rw [← HBL.out]; exact o2
            have OPB : Hid (∀ c ∈ rc, ∀ p ∈ c.2.2, p.1 ≤ 9223372036854775807) := Lib.hid (fun c hc p hp => by
              have h1 := o5 c hc
              unfold chG at h1
              have h2 := h1.2.2.2.2 p hp
              unfold pcG at h2
              omega)
            have OE : Hid (encE ⟨rk, rt, rc⟩ = 0) := Lib.hid (by unfold encE; rw [if_pos o1])
            have OL : Hid (encL ⟨rk, rt, rc⟩ = b.take N) := Lib.hid (by unfold encL; rw [if_pos o1, o3])
            have OR1 : Hid (rightR (rk : Int) rt rc = true) := Lib.hid o1
            have HTL : Hid ((b.take N).length = N) := Lib.hid (by rw [← o3]; exact hlen3)
            have HNM := Lib.hid hNm
            clear o1 o2 o3 o5 hlen3 hNm
            refine HDB.out.mono ?_
            rw [hE]
            clear HDB hE
            rintro e w7 ⟨v7, rfl, ho7, hb7⟩
            obtain ⟨A7, c7, rfl, hc7, _, _⟩ := ho7.cr
            have HLN7 := Lib.hid hc7.len
            have HB8 := Lib.hid (HB7.out.below hb7)
            have HW8 := Lib.hid (gr_trans HW7.out hb7)
            have HC8 := Lib.hid hc7
            clear HB7 HW7 ho7 hb7 hc7
            go_upto_region 14 with fail
            have hbz := gr_alloc (gr_refl w7) (.cells #[.int .u8 (rk : Int), .int .i64 rt, .slice A7 rc.length c7] 38)
            have HY8 := Lib.hid (B3.new w7 (.int .u8 (rk : Int)) (.int .i64 rt) (.slice A7 rc.length c7) (t := 38) (by decide))
            have HC9 := Lib.hid (HC8.out.below hbz)
            have HB9 := Lib.hid (HB8.out.below hbz)
            have HW9 := Lib.hid (gr_trans HW8.out hbz)
            clear HB8 HW8 HC8 hbz
            generalize w7.alloc (.cells #[.int .u8 (rk : Int), .int .i64 rt, .slice A7 rc.length c7] 38) = w8 at *
            have HRL : Hid (rc.length ≤ 9223372036854775807) := Lib.hid (by
              have h1 := (right_good (r := ⟨rk, rt, rc⟩) OR1.out).2.2.2.1
              simp only at h1
              omega)
            have y0 := HY8.out.c0
            have y1 := HY8.out.c1
            have y2 := HY8.out.c2
            go_wp2_with fail
            refine (Encode_any rk rt A7 rc.length c7 rc w8 HC9.out HRL.out OPB.out).mono ?_
            rw [OE.out, OL.out]
            rintro e w9 ⟨v9, rfl, ho9, hb9⟩
            obtain ⟨A9, c9, rfl, br9, _, _⟩ := ho9.formN (n := N) HTL.out
            have HYa := Lib.hid (HY8.out.nb (NB.below hb9))
            have HCa := Lib.hid (HC9.out.below hb9)
            have HBa := Lib.hid (HB9.out.below hb9)
            have HWa := Lib.hid (gr_trans HW9.out hb9)
            have HRa := Lib.hid br9
            clear y0 y1 y2 HY8 HC9 HB9 HW9 ho9 hb9 br9
            have y0 := HYa.out.c0
            have y1 := HYa.out.c1
            have y2 := HYa.out.c2
            go_wp2_with fail
            refine (Right_any rk rt A7 rc.length c7 rc w9 HCa.out HRL.out OPB.out).mono ?_
            rw [OR1.out]
            rintro e wa ⟨rfl, hba⟩
            have t1 : decide ((N : Int) ≤ (m : Int)) = true := decide_eq_true (by have := HNM.out; omega)
            have t2 : decide (N ≤ m) = true := decide_eq_true HNM.out
            have hcut2 := fun W => run_cut_h (P := Try.prog) W 26 5 i0 Try.underlying26 hi0 1 hz1 B m c (N : Int) N rfl (by have := HNM.out; omega)
            have HBb := Lib.hid ((HBa.out.below hba).pre HNM.out)
            have HRb := Lib.hid (HRa.out.below hba)
            have HWb := Lib.hid (gr_trans HWa.out hba)
            clear y0 y1 y2 HYa HCa HBa HWa HRa hba
            go_wp2_with fail
            refine (SameBytes_any A9 B N N c9 c (b.take N) (b.take N) wa HRb.out HBb.out).mono ?_
            rw [show (b.take N == b.take N) = true from beq_self_eq_true _]
            rintro e wb ⟨rfl, rfl⟩
            clear t1 t2 hcut2
            go_wp2_with fail
            refine (awake05_any _).mono ?_
            rintro e wd ⟨rfl, hbd⟩
            go_wp2
            go_ret
            exact ⟨rfl, gr_trans HWb.out hbd⟩
          · obtain ⟨e1, e2⟩ := decE_not hE
            rw [e1] at HDB
            clear hE
            rcases e2 with e2 | e2
            all_goals
              refine HDB.out.mono ?_
              rw [e2]
              clear HDB e1 e2
              generalize ((decR b).kind : Int) = q0
              generalize (decR b).tx = q1
              generalize (decR b).cs = q3
              rintro e w7 ⟨v7, rfl, ho7, hb7⟩
              obtain ⟨A7, c7, rfl, _, _, _⟩ := ho7.cr
              have HW8 := Lib.hid (gr_alloc (gr_trans HW7.out hb7) (.cells #[.int .u8 q0, .int .i64 q1, .slice A7 q3.length c7] 38))
              clear ho7 hb7 HW7
              go_wp2_with fail
              refine (awake05_any _).mono ?_
              rintro e wd ⟨rfl, hbd⟩
              go_wp2
              go_ret
              exact ⟨rfl, gr_trans HW8.out hbd⟩

end Go.Proofs.Ythpjjoahffagcaa
