/-
  The walk of DiskCrashes.
-/
import Derived.Test.YtjopobkcijkpmaaDkN
import Derived.Deep.RegionHeld3
namespace Go.Proofs.Ytjopobkcijkpmaa
open Go.RowKit

theorem info_bool : (Try.prog.info? 4).map (fun i => (i.zero, i.size, i.bytes)) = some (some (.bool false), 1, 1) := by kernel_rfl

theorem trues_snoc (n : Nat) : List.replicate n (Value.bool true) ++ [.bool true] = List.replicate (n + 1) (.bool true) := by rw [List.replicate_succ']

set_option maxRecDepth 100000 in
set_option maxHeartbeats 4000000 in
theorem DiskCrashes_any (A : Option Addr) (n c : Nat) (l : List Int) (w : World) (ha : IR w A n l) (hn : n ≤ 17592186043904) :
    Calls Try.prog 7 #[.slice A n c] w fun e w' => e = .returned (.bool true) ∧ Below w.heap.size w w' := by
  obtain ⟨i0, hi0, hz0, hz1, hz2⟩ := info_parts info_bool
  go_enter Try.func7, Try.ntmps7
  go_wp2_with fail
  refine (New_st 4 w w (by omega) (by omega) (gr_refl w)).mono ?_
  rw [newD_calm]
  rintro e w1 ⟨g, rfl, s1, _⟩
  go_wp2_with fail
  go_loopw [5, 6] (fun v i wr => ∃ (k : Nat) (bs : List (List UInt8)) (ps : List (Nat × List UInt8)), k ≤ n ∧ k ≤ 20 ∧ i = .int .i64 k ∧ Hid (bs.length = 4) ∧ ps.length ≤ k ∧ St w wr g (calmD bs ps) ∧ wr.ownsRow w.heap.size 4 1 v ps.length (List.replicate ps.length (.bool true))) (fun _ i _ => 20 - (intOf i).toNat)
  case atStart => exact ⟨0, _, [], by omega, by omega, rfl, Lib.hid (by simp), by simp, s1, ⟨rfl, .inl ⟨rfl, rfl⟩⟩⟩
  case round =>
    clear s1
    obtain ⟨k, bs, ps, hkn, hk20, rfl, HBL, hpk, s, hown⟩ := hrel
    have hpl : (calmD bs ps).pending.length ≤ 1000000 := by show ps.length ≤ 1000000; omega
    obtain ⟨Av, cv, rfl, _, _⟩ := own_form hown
    by_cases hlt : k < n ∧ k < 20
    · have t1 : decide ((k : Int) < (n : Int)) = true := by simp; omega
      have t2 : decide (k < n) = true := by simp; omega
      have t3 : decide ((k : Int) < 20) = true := by simp; omega
      obtain ⟨gw, ow, rfl, hcw⟩ := ha.at_ (k := k) hlt.1
      generalize l.getD k 0 = x at *
      have hKeep : ∀ W : World, Below w.heap.size w W → W.cell? ⟨gw, ow + k, none⟩ = some (.int .i64 x) := fun W hW => keep_of_below hW hcw
      have HKeep := Lib.hid hKeep
      have hc0 := HKeep.out wr s.1
      have hi0' : (0 : Int) ≤ (k : Int) := Int.natCast_nonneg _
      have hi1' : (k : Int) < (n : Int) := by omega
      have HP := Lib.hid (Pick_any x 7)
      obtain ⟨hlt1, hlt2⟩ := hlt
      clear hcw hKeep
      by_cases hx : x % 7 = 0
      · have hx1 : (x % 7 == 0) = true := beq_iff_eq.2 hx
        have X := Sync_st s hpl
        rw [opC_calm, syncD_calm] at X
        have HX := Lib.hid X
        clear X hx
        go_wp2_with fail
        refine (HP.out wr (by omega) (by omega)).mono ?_
        rintro e w' ⟨rfl, rfl⟩
        go_wp2_with fail
        refine HX.out.mono ?_
        rintro e w2 ⟨rfl, s2, _⟩
        go_wp2_with fail
        go_roundw
        case rel => exact ⟨k + 1, _, [], by omega, by omega, by go_num, Lib.hid (by rw [carry_len]; exact HBL.out), by simp, s2, ⟨rfl, .inl ⟨rfl, rfl⟩⟩⟩
        case measure => simp [intOf]; omega
      · have hx1 : (x % 7 == 0) = false := beq_eq_false_iff_ne.2 hx
        have hx4 : ∃ bi : Nat, x % 4 = bi ∧ bi < 4 := ⟨(x % 4).toNat, by omega, by omega⟩
        obtain ⟨bi, hbi, hbi4⟩ := hx4
        have HBI := Lib.hid hbi
        have HWR : Hid (∀ (W : World) (q : Nat) (L : List UInt8), Below wr.heap.size wr W → BB W q L → wr.heap.size ≤ q → L.length = 4096 → Calls Try.prog 20 #[.pointer (some ⟨g, 0, none⟩), .int .i64 (bi : Int), .slice (some ⟨q, 0, none⟩) 4096 4096] W fun e w' => e = .returned (.int .i64 0) ∧ St w w' g (calmD bs (ps ++ [(bi, L)])) ∧ KB W w') := Lib.hid (fun W q L hW hB hq hL => by
          have hsz := s.1.size
          have ho := hB.own (base := w.heap.size) (by omega) (by rw [hL]; simp [maxLen])
          rw [hL] at ho
          have X := Write_st (bi : Int) _ 4096 4096 L (s.below hW) ho hL hpl
          rw [writeE_calm bs ps bi (by rw [HBL.out]; exact hbi4), writeD_calm bs ps bi L (by rw [HBL.out]; exact hbi4) hL] at X
          exact X)
        have HPL := Lib.hid (place_any x)
        rw [hbi] at HPL
        have HCO := Lib.hid (content_any x (k : Int))
        clear hx hbi
        go_wp2_with fail
        refine (HP.out wr (by omega) (by omega)).mono ?_
        rintro e w' ⟨rfl, rfl⟩
        go_wp2_with fail
        go_region_held3 (fun W => W.cell? ⟨gw, ow + k, none⟩ = some (.int .i64 x))
          (first | go_keep | exact HKeep.out _ (gr_trans s.1 hb2) | exact HKeep.out _ s3.1)
          (first
            | (go_at_call 18; (with_reducible refine (HPL.out _).mono ?_); rintro e w' ⟨rfl, rfl⟩)
            | (go_at_call 19; (with_reducible refine (HCO.out _).mono ?_); rintro e w2 ⟨L, hL, rfl, hB, hb2'⟩; have hb2 : Below wr.heap.size wr w2 := ⟨hb2'.os, hb2'.tape, hb2'.output, hb2'.size, hb2'.block⟩)
            | (go_at_call 20; refine (HWR.out _ _ L hb2 hB (Nat.le_refl _) hL).mono ?_; rintro e w3 ⟨rfl, s3, hk3⟩))
        have hown3 := hk3.row foreign_bool (KB.row (KB.of_below hb2) foreign_bool hown)
        have HR := Lib.hid (Rd.new w3 4 #[.bool true] 1 1 rfl)
        have hszw := s3.1.size
        have hmx : ps.length + 1 ≤ maxLen := by simp only [maxLen]; omega
        have HS3 := Lib.hid s3
        clear hown hk3 hb2 hb2' hB s s3 HKeep HP HPL HCO HWR hc0
        generalize hnp : ps.length = np at *
        have HNP := Lib.hid hnp
        clear hnp
        go_wp2_with (at_builtin; refine wpList_append_Rd _ rfl (.tmp 62) (.tmp 63) _ rfl w.heap.size 4 i0 _ 1 1 Try.underlying23 hi0 hz0 hz1 hz2 rfl (.slice Av np cv) np _ rfl (hown3.alloc _) (some ⟨w3.heap.size, 0, none⟩) 1 1 [.bool true] rfl HR.out (by simp [Value.oneCell']) (by omega) hmx (by rw [World.size_alloc]; omega) ?_; intro v4 w4 hown4 hg4 _ _)
        have s4 : St w w4 g (calmD bs (ps ++ [(bi, L)])) := by
          obtain ⟨h1, F, h2⟩ := HS3.out.below (gr_alloc (gr_refl w3) (.cells #[.bool true] 4))
          have hF : ∀ k, (Value.slice Av np cv).ownBlock = some k → ¬ F k := fun k e hf => by
            have hh := hown3.alloc (.cells #[.bool true] 4)
            rcases hh.2 with ⟨e', _⟩ | ⟨q, cap, cur, e', _, hq, _⟩
            · rw [e'] at e; simp [Value.ownBlock] at e
            · rw [e'] at e
              simp [Value.ownBlock] at e
              subst e
              exact h2.foot_for q _ _ _ foreign_bool hf hq
          have ho : Off (fun k => (Value.slice Av np cv).ownBlock = some k) (w3.alloc (.cells #[.bool true] 4)) w4 := Off.of_grown hg4 (fun k e => e)
          refine ⟨h1.grown hg4 h1.size (fun k e => (hown3.alloc (.cells #[.bool true] 4)).lt k e |>.1), F, h2.off ho (fun k hf e => hF k e hf) (fun k m e hB => ?_)⟩
          rcases (hown3.alloc (.cells #[.bool true] 4)).2 with ⟨e', _⟩ | ⟨q, cap, cur, e', _, hq, _⟩
          · rw [e'] at e; simp [Value.ownBlock] at e
          · rw [e'] at e
            simp [Value.ownBlock] at e
            subst e
            exact hB.ne hq (by decide) rfl
        have hown4' : w4.ownsRow w.heap.size 4 1 v4 (ps ++ [(bi, L)]).length (List.replicate (ps ++ [(bi, L)]).length (.bool true)) := by
          rw [trues_snoc] at hown4
          rw [List.length_append, HNP.out]
          exact hown4
        clear hown3 hown4 hg4 HS3
        go_roundw
        case rel => exact ⟨k + 1, bs, _, by omega, by omega, by go_num, HBL, by rw [List.length_append, HNP.out]; simp; omega, s4, hown4'⟩
        case measure => simp [intOf]; omega
    · have hend : (decide ((k : Int) < (n : Int)) = false ∧ decide (k < n) = false) ∨ (k < n ∧ decide ((k : Int) < 20) = false ∧ decide ((k : Int) < (n : Int)) = true ∧ decide (k < n) = true) := by
        rcases Nat.lt_or_ge k n with h | h
        · exact .inr ⟨h, by simp; omega, by simp; omega, by simp; omega⟩
        · exact .inl ⟨by simp; omega, by simp; omega⟩
      clear hlt
      have HBB : Hid (∀ b : Nat, b < 4 → (carry bs ps).getD b [] = lastL bs ps b) := Lib.hid (fun b hb => carry_at ps bs b (by rw [HBL.out]; exact hb))
      have HCL : Hid ((carry bs ps).length = 4) := Lib.hid (by rw [carry_len]; exact HBL.out)
      obtain ⟨hbw, Fd, hd⟩ := s
      have HC1 := Lib.hid (Copy_any wr _ _ g Fd _ hd hpl)
      have hwsz := hbw.size
      have HCE1 : Hid (crashE (0 : Int) = 0) := Lib.hid rfl
      have HCX : Hid (crashD (calmD bs ps) (List.replicate ps.length true) (-1) 0 = calmD (carry bs ps) []) := Lib.hid (by
        rw [show (0 : Int) = ((0 : Nat) : Int) from rfl, crashD_in _ _ _ 0 (by omega)]
        show calmD (crashTo (List.replicate ps.length true) (-1) 0 bs ps ps.length) [] = _
        rw [crash_all bs ps ps.length ps.length (Nat.le_refl _) (Nat.le_refl _), List.take_length])
      have HCZ : Hid (crashD (calmD bs ps) [] (-1) 0 = calmD bs []) := Lib.hid (by
        rw [show (0 : Int) = ((0 : Nat) : Int) from rfl, crashD_in _ _ _ 0 (by omega)]
        show calmD (crashTo [] (-1) 0 bs ps ps.length) [] = _
        rw [crash_none])
      have hp20 : ps.length ≤ 20 := by omega
      generalize hnp : ps.length = np at *
      have HNP := Lib.hid hnp
      have HPL : Hid ((calmD bs ps).pending.length ≤ 1000000) := Lib.hid hpl
      clear hnp hpl
      rcases hend with ⟨t1, t2⟩ | ⟨t0, t1, t2, t3⟩
      all_goals
        go_wp2_with fail
        refine HC1.out.mono ?_
        rintro e w2 ⟨gx, Fx, rfl, hx, hb2⟩
        have hd2 := hd.below hb2
        have hown2 := KB.row (KB.of_below hb2) foreign_bool hown
        have hs2 := hb2.size
        have fd := fun k hk => hd.foot_lt k hk
        have fx := fun k hk => hx.foot_lt k hk
        have FD := Lib.hid fd
        have FX := Lib.hid fx
        have X := Copy_any w2 _ _ g Fd _ hd2 HPL.out
        have HX := Lib.hid X
        clear fd fx X hown hd
        go_wp2_with fail
        refine HX.out.mono ?_
        rintro e w3 ⟨gy, Fy, rfl, hy, hb3⟩
        have hd3 := hd2.below hb3
        have hx3 := hx.below hb3
        have hown3 := KB.row (KB.of_below hb3) foreign_bool hown2
        have hs3 := hb3.size
        have FY := Lib.hid (fun k hk => hy.foot_lt k hk)
        have X := Copy_any w3 _ _ g Fd _ hd3 HPL.out
        have HX := Lib.hid X
        clear X hown2 hd2 hx
        go_wp2_with fail
        refine HX.out.mono ?_
        rintro e w4 ⟨gz, Fz, rfl, hz, hb4⟩
        have hd4 := hd3.below hb4
        have hx4 := hx3.below hb4
        have hy4 := hy.below hb4
        have hown4 := KB.row (KB.of_below hb4) foreign_bool hown3
        have hs4 := hb4.size
        have FZ := Lib.hid (fun k hk => hz.foot_lt k hk)
        have hbw4 := gr_trans (gr_trans (gr_trans hbw hb2) hb3) hb4
        have X := Crash_any w4 _ _ gx Fx _ Av np cv (List.replicate np true) (-1) 0 hx4 (trues_lr hown4) (fun ad ea _ hf => by
          obtain ⟨cur, fr, hq⟩ := own_at hown4 ea
          exact hx4.foot_for _ _ _ _ foreign_bool hf hq) (by omega) HPL.out
        rw [HCE1.out, HCX.out] at X
        have HX := Lib.hid X
        clear X hown3 hd3 hx3 hy hb2 hb3 hb4 hbw
        go_wp2_with fail
        refine HX.out.mono ?_
        rintro e w5 ⟨rfl, ho5, Fx5, hx5, hxx5⟩
        have hd5 := hd4.side hx4 ho5 (fun k h1 h2 => by have := FD.out k h2; have := FX.out k h1; omega)
        have hy5 := hy4.side hx4 ho5 (fun k h1 h2 => by have := FY.out k h2; have := FX.out k h1; omega)
        have hz5 := hz.side hx4 ho5 (fun k h1 h2 => by have := FZ.out k h2; have := FX.out k h1; omega)
        have hs5 := ho5.size
        have FX5 : Hid (∀ k, Fx5 k → (wr.heap.size ≤ k ∧ k < w2.heap.size) ∨ w4.heap.size ≤ k) := Lib.hid (fun k hk => (hxx5 k hk).imp_left (fun h => FX.out k h))
        have hbw5 := hbw4.trans (ho5.below (B := w.heap.size) (fun k hk => by have := FX.out k hk; omega) hbw4.size)
        have X := Sync_any w5 _ _ gy Fy _ hy5 HPL.out
        rw [opC_calm, syncD_calm] at X
        have HX := Lib.hid X
        clear X hown4 hd4 hx4 hy4 hz ho5 hbw4 hxx5
        go_wp2_with fail
        refine HX.out.mono ?_
        rintro e w6 ⟨rfl, ho6, Fy6, hy6, hyy6⟩
        have hd6 := hd5.side hy5 ho6 (fun k h1 h2 => by have := FD.out k h2; have := FY.out k h1; omega)
        have hx6 := hx5.side hy5 ho6 (fun k h1 h2 => by have := FX5.out k h2; have := FY.out k h1; omega)
        have hz6 := hz5.side hy5 ho6 (fun k h1 h2 => by have := FZ.out k h2; have := FY.out k h1; omega)
        have hs6 := ho6.size
        have FY6 : Hid (∀ k, Fy6 k → (w2.heap.size ≤ k ∧ k < w3.heap.size) ∨ w5.heap.size ≤ k) := Lib.hid (fun k hk => (hyy6 k hk).imp_left (fun h => FY.out k h))
        have hbw6 := hbw5.trans (ho6.below (B := w.heap.size) (fun k hk => by have := FY.out k hk; omega) hbw5.size)
        have X := Crash_any w6 _ _ gz Fz _ none 0 0 [] (-1) 0 hz6 (LR.nil _) (fun ad e => by cases e) (by omega) HPL.out
        rw [HCE1.out, HCZ.out] at X
        have HX := Lib.hid X
        clear X hd5 hx5 hy5 hz5 ho6 hbw5 hyy6
        go_wp2_with fail
        refine HX.out.mono ?_
        rintro e w7 ⟨rfl, ho7, Fz7, hz7, hzz7⟩
        have hd7 := hd6.side hz6 ho7 (fun k h1 h2 => by have := FD.out k h2; have := FZ.out k h1; omega)
        have hx7 := hx6.side hz6 ho7 (fun k h1 h2 => by have := FX5.out k h2; have := FZ.out k h1; omega)
        have hy7 := hy6.side hz6 ho7 (fun k h1 h2 => by have := FY6.out k h2; have := FZ.out k h1; omega)
        have hbw7 := hbw6.trans (ho7.below (B := w.heap.size) (fun k hk => by have := FZ.out k hk; omega) hbw6.size)
        have X := Pending_any w7 _ _ g Fd _ hd7
        rw [show (((calmD bs ps).pending.length : Nat) : Int) = (np : Int) from by rw [← HNP.out]; rfl] at X
        have HX := Lib.hid X
        have t9 : ((np : Int) != (np : Int)) = false := by simp
        clear X hd6 hx6 hy6 hz6 ho7 hbw6 hzz7
        go_wp2_with fail
        refine HX.out.mono ?_
        rintro e w' ⟨rfl, rfl⟩
        clear HX FD FX FY FZ FX5 FY6
        go_wp2_with fail
        go_loopw [13] (fun i wq => ∃ b : Nat, b ≤ 4 ∧ i = .int .i64 b ∧ Below w7.heap.size w7 wq) (fun i _ => 4 - (intOf i).toNat)
        case atStart => exact ⟨0, by omega, rfl, gr_refl _⟩
        case round =>
          obtain ⟨b, hb4, rfl, hbq⟩ := hrel
          by_cases hlt : b < 4
          · have t1 : decide ((b : Int) < 4) = true := by simp; omega
            have E1 := askE_calm (carry bs ps) [] b (by rw [HCL.out]; exact hlt)
            have E2 := durL_calm (carry bs ps) [] b (by rw [HCL.out]; exact hlt)
            have E3 := readE_calm bs ps b (by rw [HBL.out]; exact hlt)
            have E4 := readL_calm bs ps b (by rw [HBL.out]; exact hlt)
            have E5 := readE_calm bs [] b (by rw [HBL.out]; exact hlt)
            have E6 := readL_calm bs [] b (by rw [HBL.out]; exact hlt)
            have E7 := askE_calm bs ps b (by rw [HBL.out]; exact hlt)
            have E8 := durL_calm bs ps b (by rw [HBL.out]; exact hlt)
            have X := Durable_any wr _ _ gx Fx5 _ (b : Int) (hx7.below hbq)
            rw [E1, E2, HBB.out b hlt] at X
            have HX := Lib.hid X
            clear X
            go_wp2_with fail
            refine HX.out.mono ?_
            rintro e wp ⟨vp, rfl, ovp, bvp⟩
            clear HX
            have hqvp := gr_trans hbq bvp
            have X := Durable_any wp _ _ gy Fy6 _ (b : Int) (hy7.below hqvp)
            rw [E1, E2, HBB.out b hlt] at X
            have HX := Lib.hid X
            clear X
            go_wp2_with fail
            refine HX.out.mono ?_
            rintro e wq ⟨vq, rfl, ovq, bvq⟩
            clear HX
            have hqvq := gr_trans hqvp bvq
            have ovp := ovp.below bvq
            have X := Read_any wq _ _ g Fd _ (b : Int) (hd7.below hqvq) HPL.out
            rw [E3, E4] at X
            have HX := Lib.hid X
            clear X
            go_wp2_with fail
            refine HX.out.mono ?_
            rintro e wr5 ⟨vr, rfl, ovr, bvr⟩
            clear HX
            have hqvr := gr_trans hqvq bvr
            have ovp := ovp.below bvr
            have ovq := ovq.below bvr
            have X := Read_any wr5 _ _ gz Fz7 _ (b : Int) (hz7.below hqvr) (by simp [calmD])
            rw [E5, E6, show lastL bs [] b = bs.getD b [] from rfl] at X
            have HX := Lib.hid X
            clear X
            go_wp2_with fail
            refine HX.out.mono ?_
            rintro e ws ⟨vs, rfl, ovs, bvs⟩
            clear HX
            have hqvs := gr_trans hqvr bvs
            have ovp := ovp.below bvs
            have ovq := ovq.below bvs
            have ovr := ovr.below bvs
            have X := Durable_any ws _ _ g Fd _ (b : Int) (hd7.below hqvs)
            rw [E7, E8] at X
            have HX := Lib.hid X
            clear X
            go_wp2_with fail
            refine HX.out.mono ?_
            rintro e wt ⟨vt, rfl, ovt, bvt⟩
            clear HX
            have hqvt := gr_trans hqvs bvt
            have ovp := ovp.below bvt
            have ovq := ovq.below bvt
            have ovr := ovr.below bvt
            have ovs := ovs.below bvt
            have HF := Lib.hid (And.intro ovp (And.intro ovq (And.intro ovr (And.intro ovs ovt))))
            obtain ⟨_, _, rfl, _, _⟩ := own_form ovp
            obtain ⟨_, _, rfl, _, _⟩ := own_form ovq
            obtain ⟨_, _, rfl, _, _⟩ := own_form ovr
            obtain ⟨_, _, rfl, _, _⟩ := own_form ovs
            obtain ⟨_, _, rfl, _, _⟩ := own_form ovt
            clear ovp ovq ovr ovs ovt bvp bvq bvr bvs bvt hqvp hqvq hqvr hqvs E1 E2 E3 E4 E5 E6 E7 E8
            go_wp2_with fail
            refine (sameB_own _ _ _ _ HF.out.1 HF.out.2.1).mono ?_
            rintro e w' ⟨rfl, rfl⟩
            go_wp2_with fail
            refine (sameB_own _ _ _ _ HF.out.1 HF.out.2.2.1).mono ?_
            rintro e w' ⟨rfl, rfl⟩
            go_wp2_with fail
            refine (sameB_own _ _ _ _ HF.out.2.2.2.1 HF.out.2.2.2.2).mono ?_
            rintro e w' ⟨rfl, rfl⟩
            go_wp2_with fail
            go_roundw
            case rel => exact ⟨b + 1, by omega, by go_num, hqvt⟩
            case measure => simp [intOf]; omega
          · have t1 : decide ((b : Int) < 4) = false := by simp; omega
            go_wp2_with fail
            refine (awake03_any _).mono ?_
            rintro e w9 ⟨rfl, hb9⟩
            go_wp2
            go_ret
            exact ⟨rfl, gr_trans (hbw7.trans (hbq.mono hbw7.size)) hb9⟩

end Go.Proofs.Ytjopobkcijkpmaa
