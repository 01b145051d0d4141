/-
  Contract: chapter 14's looks.
-/
import Derived.Test.YtjopobkcijkpmaaSnY
import Derived.Deep.RegionHeld3
namespace Go.Proofs.Ytjopobkcijkpmaa
open Go.RowKit

set_option maxRecDepth 100000 in
set_option maxHeartbeats 8000000 in
theorem looks_any (w0 : World) (g : Nat) (T : TabS) (A : Option Addr) (n c : Nat) (R : RefS) (w : World) (s : TSt w0 w g T) (hr : R3 w A n R.ones) (hs : Sim T R) (hn : n ≤ 1000) (hf1 : 1 ≤ R.first) (hf2 : R.first ≤ 4611686018427387904) :
    Calls Try.prog 58 #[.pointer (some ⟨g, 0, none⟩), rvV A n c R.first R.next R.last] w fun e w' => e = .returned (.bool true) ∧ Below w.heap.size w w' := by
  have hn2 := hs.n2
  have hn1 := hs.n1
  have hos : T.opn.length ≤ 1000 := by rw [hs.op]; have := all_len R.ones 1; rw [hr.2] at this; omega
  have hds : T.dead.length ≤ 1000 := by rw [hs.de]; have := all_len R.ones 3; rw [hr.2] at this; omega
  have HNX := Lib.hid (fun (W : World) (hW : Below w.heap.size w W) => by
    have h := Next_ts (s.below hW)
    rw [← hs.ne] at h
    exact h)
  have HOPN := Lib.hid (fun (W : World) (hW : Below w.heap.size w W) => Open_ts (s.below hW))
  have HDED := Lib.hid (fun (W : World) (hW : Below w.heap.size w W) => Dead_ts (s.below hW))
  have HAL1 := Lib.hid (fun (W : World) (hW : Below w.heap.size w W) => by
    have h := rAll_any A n c R.first R.next R.last 1 R.ones W (hr.below hW) hn
    rw [← hs.op] at h
    exact h)
  have HAL3 := Lib.hid (fun (W : World) (hW : Below w.heap.size w W) => by
    have h := rAll_any A n c R.first R.next R.last 3 R.ones W (hr.below hW) hn
    rw [← hs.de] at h
    exact h)
  have HIO := Lib.hid (fun (W : World) (hW : Below w.heap.size w W) (x : Int) (h1 : -9223372036854775808 ≤ x) (h2 : x ≤ 9223372036854775807) => by
    obtain ⟨k1, F, k2⟩ := s.below hW
    have h := IsOpen_any W _ g F T x k2 h1 h2
    rw [hs.isO] at h
    exact h)
  have HRO := Lib.hid (fun (W : World) (hW : Below w.heap.size w W) (x : Int) => rIsOpen_any A n c R.first R.next R.last x R.ones W (hr.below hW) (by omega))
  have HTA := Lib.hid (fun (W : World) (hW : Below w.heap.size w W) (x : Int) (h1 : -9223372036854775808 ≤ x) (h2 : x ≤ 9223372036854775807) => by
    have h := ToAll_tb x (s.below hW) h1 h2
    rw [hs.toAll] at h
    exact h)
  have HRT := Lib.hid (fun (W : World) (hW : Below w.heap.size w W) (x : Int) => rToAll_any A n c R x W (hr.below hW) hs.ri (by omega))
  have HVI := Lib.hid (fun (W : World) (hW : Below w.heap.size w W) (x y : Int) (h1 : -9223372036854775808 ≤ x) (h2 : x ≤ 9223372036854775807) (h3 : -9223372036854775808 ≤ y) (h4 : y ≤ 9223372036854775807) => by
    have h := Visible_tb x y (s.below hW) h1 h2 h3 h4
    rw [hs.vis] at h
    exact h)
  have HRV := Lib.hid (fun (W : World) (hW : Below w.heap.size w W) (x y : Int) => rVisible_any A n c R x y W (hr.below hW) (by omega))
  have HCO := Lib.hid (fun (W : World) (hW : Below w.heap.size w W) (x y : Int) (h1 : -9223372036854775808 ≤ x) (h2 : x ≤ 9223372036854775807) (h3 : -9223372036854775808 ≤ y) (h4 : y ≤ 9223372036854775807) => by
    obtain ⟨k1, F, k2⟩ := s.below hW
    have h := Conflict_any W _ g F T x y k2 h1 h2 h3 h4
    rw [hs.conf] at h
    exact h)
  have HRC := Lib.hid (fun (W : World) (hW : Below w.heap.size w W) (x y : Int) => rConflict_any A n c R x y W (hr.below hW) (by omega))
  generalize toAllR R = fT at *
  generalize visR R = fV at *
  generalize confR R = fC at *
  obtain ⟨l, f, ne, la⟩ := R
  dsimp only at *
  generalize isR l = fI at *
  generalize T.opn = lo at *
  generalize T.dead = ld at *
  have HSI := Lib.hid (fun (a b : World) (x : List Int) (Ao Bo : Option Addr) (co mo : Nat) (hx : x.length ≤ 1000) (b0 b1 : Nat) (h1 : a.ownsRow b0 3 1 (.slice Ao x.length co) x.length (x.map (Value.int .i64))) (h2 : OR b b1 3 (.slice Bo x.length mo) x.length (x.map (Value.int .i64))) (h3 : Below a.heap.size a b) => by
    have h := SameInts_any Ao Bo x.length x.length co mo x x b (IR.below (own_rd h1) h3) h2.rd (by omega) (by omega)
    rw [show (x == x) = true from by simp] at h
    exact h)
  have hb0 := gr_alloc (gr_refl w) (.cells #[.slice A n c, .int .i64 f, .int .i64 ne, .int .i64 la] 92)
  have HB := Lib.hid hb0
  have HX := Lib.hid (BX.new w A n c f ne la)
  clear hr hs s hb0
  unfold rvV at *
  go_enter Try.func58, Try.ntmps58
  go_wp2_with fail
  generalize w.alloc (.cells #[.slice A n c, .int .i64 f, .int .i64 ne, .int .i64 la] 92) = W at *
  have HK : Hid (∀ W' : World, Below W.heap.size W W' → W'.cell? ⟨w.heap.size, 0, none⟩ = some (.slice A n c) ∧ W'.cell? ⟨w.heap.size, 1, none⟩ = some (.int .i64 f) ∧ W'.cell? ⟨w.heap.size, 2, none⟩ = some (.int .i64 ne) ∧ W'.cell? ⟨w.heap.size, 3, none⟩ = some (.int .i64 la)) := Lib.hid (fun W' hW => ⟨(HX.out.below hW).c0, (HX.out.below hW).c1, (HX.out.below hW).c2, (HX.out.below hW).c3⟩)
  have HBW : Hid (∀ W' : World, Below W.heap.size W W' → Below w.heap.size w W') := Lib.hid (fun W' hW => gr_trans HB.out hW)
  obtain ⟨s0, s1, s2, s3⟩ := HK.out W (gr_refl W)
  have tn : (ne != ne) = false := by simp
  clear HX HB
  generalize hno : lo.length = no at *
  generalize hnd : ld.length = nd at *
  have HNO := Lib.hid hno
  have HND := Lib.hid hnd
  clear hno hnd
  have HSO := Lib.hid (fun (a b : World) (Ao Bo : Option Addr) (co mo : Nat) (b0 b1 : Nat) (h1 : a.ownsRow b0 3 1 (.slice Ao no co) no (lo.map (Value.int .i64))) (h2 : OR b b1 3 (.slice Bo no mo) no (lo.map (Value.int .i64))) (h3 : Below a.heap.size a b) => by
    have h := HSI.out a b lo Ao Bo co mo (by rw [HNO.out]; exact hos) b0 b1 (by rw [HNO.out]; exact h1) (by rw [HNO.out]; exact h2) h3
    rw [HNO.out] at h
    exact h)
  have HSD := Lib.hid (fun (a b : World) (Ao Bo : Option Addr) (co mo : Nat) (b0 b1 : Nat) (h1 : a.ownsRow b0 3 1 (.slice Ao nd co) nd (ld.map (Value.int .i64))) (h2 : OR b b1 3 (.slice Bo nd mo) nd (ld.map (Value.int .i64))) (h3 : Below a.heap.size a b) => by
    have h := HSI.out a b ld Ao Bo co mo (by rw [HND.out]; exact hds) b0 b1 (by rw [HND.out]; exact h1) (by rw [HND.out]; exact h2) h3
    rw [HND.out] at h
    exact h)
  clear HSI
  go_upto_region 1 with fail
  go_cut [28] (fun b wx => b = .bool false ∧ Below W.heap.size W wx)
  case first =>
    go_region_held3 (fun W' => W'.cell? ⟨w.heap.size, 0, none⟩ = some (.slice A n c) ∧ W'.cell? ⟨w.heap.size, 1, none⟩ = some (.int .i64 f) ∧ W'.cell? ⟨w.heap.size, 2, none⟩ = some (.int .i64 ne) ∧ W'.cell? ⟨w.heap.size, 3, none⟩ = some (.int .i64 la))
      (first | go_keep | exact HK.out _ hb7 | exact HK.out _ hb6 | exact HK.out _ hb5 | exact HK.out _ hb4 | exact HK.out _ hb3 | exact HK.out _ hb2)
      (first
        | (go_at_call 39; refine (HNX.out _ (HBW.out _ (gr_drew (gr_refl W)))).mono ?_; rintro e w' ⟨rfl, rfl⟩)
        | (go_at_call 34; refine (HOPN.out _ (HBW.out _ (gr_drew (gr_refl W)))).mono ?_; rintro e w2 ⟨v2, rfl, ho2, hb2'⟩; obtain ⟨Ao, co, rfl, _, _⟩ := own_form ho2; have hb2 : Below W.heap.size W w2 := ⟨hb2'.os, hb2'.tape, hb2'.output, hb2'.size, hb2'.block⟩)
        | (go_at_call 56; (with_reducible refine (HAL1.out _ (HBW.out _ hb2)).mono ?_); rintro e w3 ⟨Bo, mo, rfl, ho3, hb3'⟩; have hb3 := gr_trans hb2 hb3')
        | (go_at_call 48; (with_reducible refine (HSO.out _ _ Ao Bo co mo _ _ ho2 ho3 hb3').mono ?_); rintro e w4 ⟨rfl, hb4'⟩; have hb4 := gr_trans hb3 hb4')
        | (go_at_call 50; refine (HDED.out _ (HBW.out _ hb4)).mono ?_; rintro e w5 ⟨v5, rfl, ho5, hb5'⟩; obtain ⟨Ad, cd, rfl, _, _⟩ := own_form ho5; have hb5 := gr_trans hb4 hb5')
        | (go_at_call 56; (with_reducible refine (HAL3.out _ (HBW.out _ hb5)).mono ?_); rintro e w6 ⟨Bd, md, rfl, ho6, hb6'⟩; have hb6 := gr_trans hb5 hb6')
        | (go_at_call 48; (with_reducible refine (HSD.out _ _ Ad Bd cd md _ _ ho5 ho6 hb6').mono ?_); rintro e w7 ⟨rfl, hb7'⟩; have hb7 := gr_trans hb6 hb7'))
    all_goals
      go_wp2_with fail
      go_meet
      exact ⟨rfl, hb7⟩
  case rest =>
    obtain ⟨rfl, hbc⟩ := hcut
    clear HNX HOPN HDED HAL1 HAL3 HSO HSD s0 s1 s2 s3 tn
    obtain ⟨s0, s1, s2, s3⟩ := HK.out wc hbc
    obtain ⟨fr, hfr, hfr0, hfr1⟩ : ∃ fr : Int, max (f - 3) 0 = fr ∧ 0 ≤ fr ∧ fr ≤ 4611686018427387904 := ⟨_, rfl, by omega, by omega⟩
    have HFR := Lib.hid hfr
    clear hfr
    go_upto_region 4 with fail
    rw [HFR.out]
    clear s0 s1 s2 s3
    go_wp2_with fail
    go_loopw [6, 7] (fun i _ wr => ∃ a : Int, fr ≤ a ∧ a ≤ fr + 21 ∧ i = .int .i64 a ∧ Below W.heap.size W wr) (fun i _ _ => (fr + 21 - intOf i).toNat)
    case atStart => exact ⟨fr, by omega, by omega, rfl, hbc⟩
    case round =>
      obtain ⟨a, ha1, ha2, rfl, hbr⟩ := hrel
      obtain ⟨wo, rfl⟩ : ∃ wo : World, wo = wr := ⟨_, rfl⟩
      obtain ⟨s0, s1, s2, s3⟩ := HK.out wo hbr
      by_cases hlt : a ≤ ne ∧ a ≤ fr + 20
      · have t1 : decide (a ≤ ne) = true := decide_eq_true hlt.1
        have t2 : decide (a ≤ fr + 20) = true := decide_eq_true hlt.2
        obtain ⟨hl1, hl2⟩ := hlt
        go_upto_region 7 with fail
        go_cut [61] (fun b wx => b = .bool false ∧ Below W.heap.size W wx)
        case first =>
          go_region_held3 (fun W' => W'.cell? ⟨w.heap.size, 0, none⟩ = some (.slice A n c) ∧ W'.cell? ⟨w.heap.size, 1, none⟩ = some (.int .i64 f) ∧ W'.cell? ⟨w.heap.size, 2, none⟩ = some (.int .i64 ne) ∧ W'.cell? ⟨w.heap.size, 3, none⟩ = some (.int .i64 la))
            (first | go_keep | exact HK.out _ k4 | exact HK.out _ k3 | exact HK.out _ k2 | exact HK.out _ k1)
            (first
              | (go_at_call 49; refine (HIO.out _ (HBW.out _ (gr_drew hbr)) a (by omega) (by omega)).mono ?_; rintro e v1 ⟨rfl, k1'⟩; have k1 : Below W.heap.size W v1 := gr_trans (gr_drew hbr) k1')
              | (go_at_call 90; refine (HRO.out _ (HBW.out _ k1) a).mono ?_; rintro e v2 ⟨rfl, k2'⟩; have k2 := gr_trans k1 k2')
              | (go_at_call 37; refine (HTA.out _ (HBW.out _ k2) a (by omega) (by omega)).mono ?_; rintro e v3 ⟨rfl, k3'⟩; have k3 := gr_trans k2 k3')
              | (go_at_call 92; refine (HRT.out _ (HBW.out _ k3) a).mono ?_; rintro e v4 ⟨rfl, k4'⟩; have k4 := gr_trans k3 k4'))
          all_goals
            go_wp2_with fail
            go_meet
            exact ⟨rfl, k4⟩
        case rest =>
          obtain ⟨rfl, hbd⟩ := hcut
          clear s0 s1 s2 s3 hbr t1 t2
          go_wp2_with fail
          go_loopw [7] (fun i wr => ∃ b : Int, fr ≤ b ∧ b ≤ fr + 21 ∧ i = .int .i64 b ∧ Below W.heap.size W wr) (fun i _ => (fr + 21 - intOf i).toNat)
          case atStart => exact ⟨fr, by omega, by omega, rfl, hbd⟩
          case round =>
            obtain ⟨b, hb1, hb2, rfl, hbs⟩ := hrel
            obtain ⟨s0, s1, s2, s3⟩ := HK.out wr hbs
            by_cases hlb : b ≤ ne ∧ b ≤ fr + 20
            · have t1 : decide (b ≤ ne) = true := decide_eq_true hlb.1
              have t2 : decide (b ≤ fr + 20) = true := decide_eq_true hlb.2
              obtain ⟨hl3, hl4⟩ := hlb
              go_wp2_with fail
              go_region_held3 (fun W' => W'.cell? ⟨w.heap.size, 0, none⟩ = some (.slice A n c) ∧ W'.cell? ⟨w.heap.size, 1, none⟩ = some (.int .i64 f) ∧ W'.cell? ⟨w.heap.size, 2, none⟩ = some (.int .i64 ne) ∧ W'.cell? ⟨w.heap.size, 3, none⟩ = some (.int .i64 la))
                (first | go_keep | exact HK.out _ k4 | exact HK.out _ k3 | exact HK.out _ k2 | exact HK.out _ k1)
                (first
                  | (go_at_call 35; refine (HVI.out _ (HBW.out _ (gr_drew hbs)) a b (by omega) (by omega) (by omega) (by omega)).mono ?_; rintro e v1 ⟨rfl, k1'⟩; have k1 : Below W.heap.size W v1 := gr_trans (gr_drew hbs) k1')
                  | (go_at_call 93; refine (HRV.out _ (HBW.out _ k1) a b).mono ?_; rintro e v2 ⟨rfl, k2'⟩; have k2 := gr_trans k1 k2')
                  | (go_at_call 36; refine (HCO.out _ (HBW.out _ k2) a b (by omega) (by omega) (by omega) (by omega)).mono ?_; rintro e v3 ⟨rfl, k3'⟩; have k3 := gr_trans k2 k3')
                  | (go_at_call 94; refine (HRC.out _ (HBW.out _ k3) a b).mono ?_; rintro e v4 ⟨rfl, k4'⟩; have k4 := gr_trans k3 k4'))
              all_goals
                go_wp2_with fail
                go_roundw
                case rel => exact ⟨b + 1, by omega, by omega, rfl, k4⟩
                case measure => simp [intOf]; omega
            · have hcs : decide (b ≤ ne) = false ∨ (decide (b ≤ ne) = true ∧ decide (b ≤ fr + 20) = false) := by
                by_cases h : b ≤ ne
                · exact .inr ⟨decide_eq_true h, decide_eq_false (fun h2 => hlb ⟨h, h2⟩)⟩
                · exact .inl (decide_eq_false h)
              clear hlb
              rcases hcs with t1 | ⟨t1, t2⟩
              all_goals
                go_wp2_with fail
                go_roundw
                case rel => exact ⟨a + 1, by omega, by omega, rfl, hbs⟩
                case measure => simp [intOf]; omega
      · have hcs : decide (a ≤ ne) = false ∨ (decide (a ≤ ne) = true ∧ decide (a ≤ fr + 20) = false) := by
          by_cases h : a ≤ ne
          · exact .inr ⟨decide_eq_true h, decide_eq_false (fun h2 => hlt ⟨h, h2⟩)⟩
          · exact .inl (decide_eq_false h)
        clear hlt
        rcases hcs with t1 | ⟨t1, t2⟩
        all_goals
          go_wp2_with fail
          go_ret
          exact ⟨rfl, HBW.out _ hbr⟩

end Go.Proofs.Ytjopobkcijkpmaa
