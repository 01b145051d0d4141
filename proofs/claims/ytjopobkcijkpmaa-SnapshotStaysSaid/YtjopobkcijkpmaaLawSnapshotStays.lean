/-
  The walk of SnapshotStays.
-/
import Derived.Test.YtjopobkcijkpmaaSnP
import Derived.Test.YtjopobkcijkpmaaSnR
import Derived.Deep.CutBlock
import Derived.Deep.DeepCutAuto
namespace Go.Proofs.Ytjopobkcijkpmaa
open Go.RowKit

set_option maxRecDepth 100000 in
set_option maxHeartbeats 8000000 in
theorem SnapshotStays_any (nx : Int) (A : Option Addr) (n c : Nat) (l : List Int) (w : World) (ha : IR w A n l) :
    Calls Try.prog 11 #[.int .i64 nx, .slice A n c] w fun e w' => e = .returned (.bool true) ∧ Below w.heap.size w w' := by
  obtain ⟨i0, hi0, hz0, hz1, hz2⟩ := info_parts info_int
  obtain ⟨pn, hpn, hp9⟩ : ∃ pn : Nat, nx % 9 = pn ∧ pn ≤ 9 := ⟨(nx % 9).toNat, by omega, by omega⟩
  have X := Pick_any nx 9 w (by omega) (by omega)
  rw [hpn] at X
  have HP9 := Lib.hid X
  have HN := Lib.hid (New_ts (w0 := w) (w := w) (1 + (pn : Int)) none 0 0 [] (gr_refl w) (IR.none_ _ _) (by omega) (by omega) (by omega) (fun k hk => absurd hk (by simp)))
  have HWA : Hid (WatT 0 ((pn + 1 : Nat) : Int) ((pn + 1 : Nat) : Int) (begT (newT (1 + (pn : Int)) []))) := Lib.hid (by
    have h := WatT.new pn hp9
    generalize begT (newT (1 + (pn : Int)) []) = T at *
    rw [show (1 + (pn : Int)) = ((pn + 1 : Nat) : Int) by omega] at h
    exact h)
  have hf : begF (newT (1 + (pn : Int)) []) = false := by unfold begF newT; simp; omega
  have HBE : Hid (begE (newT (1 + (pn : Int)) []) = 0 ∧ begN (newT (1 + (pn : Int)) []) = ((pn + 1 : Nat) : Int) ∧ (newT (1 + (pn : Int)) []).next = ((pn + 1 : Nat) : Int) ∧ (begT (newT (1 + (pn : Int)) [])).next = ((pn + 2 : Nat) : Int) ∧ (1 + (pn : Int)) = ((pn + 1 : Nat) : Int)) := Lib.hid (by
    refine ⟨by simp [begE, hf], ?_, by simp [newT]; omega, ?_, by omega⟩
    · unfold begN
      rw [hf]
      simp [newT]
      omega
    rw [beg_of hf]
    simp [newT]
    omega)
  obtain ⟨f0, hf0⟩ : ∃ f0, f0 = pn + 1 := ⟨_, rfl⟩
  obtain ⟨f1, hf1⟩ : ∃ f1, f1 = pn + 2 := ⟨_, rfl⟩
  rw [← hf0, ← hf1] at HBE
  rw [← hf0] at HWA
  have hfp : f0 ≤ 10 := by omega
  have hfp1 : 1 ≤ f0 := by omega
  have hff : f0 < f1 := by omega
  have t9 : decide ((f1 : Int) ≤ (f0 : Int)) = false := by simp; omega
  have t9' : decide (f1 ≤ f0) = false := by simp; omega
  have HF0 := Lib.hid hf0
  clear X hpn hf hf0 hf1
  go_enter Try.func11, Try.ntmps11
  go_wp2_with fail
  refine HP9.out.mono ?_
  clear HP9
  rintro e w' ⟨rfl, rfl⟩
  go_wp2_with fail
  refine HN.out.mono ?_
  clear HN
  rintro e w1 ⟨g, rfl, s1⟩
  have X := Next_ts s1
  rw [HBE.out.2.2.1] at X
  have HNX := Lib.hid X
  clear X
  go_wp2_with fail
  refine HNX.out.mono ?_
  rintro e w' ⟨rfl, rfl⟩
  clear HNX
  have X := Begin_ts s1
  rw [HBE.out.1, HBE.out.2.1] at X
  have HB := Lib.hid X
  clear X s1
  go_wp2_with fail
  refine HB.out.mono ?_
  rintro e w2 ⟨rfl, s2⟩
  clear HB
  have X := Next_ts s2
  rw [HBE.out.2.2.2.1] at X
  have HNX := Lib.hid X
  clear X HBE
  go_wp2_with fail
  refine HNX.out.mono ?_
  rintro e w' ⟨rfl, rfl⟩
  clear HNX
  generalize begT (newT (1 + (pn : Int)) []) = T1 at *
  go_wp2_with fail
  go_loopw [9, 10] (fun v i wr => ∃ q : Nat, 1 ≤ q ∧ q ≤ f0 ∧ i = .int .i64 q ∧ OneQ w wr g T1 v (upTo (q - 1))) (fun _ i _ => f0 - (intOf i).toNat)
  case atStart => exact ⟨1, by omega, hfp1, rfl, OR.nil_ _ _ _, s2.more (gr_refl _) (fun k hk => by simp [Value.ownBlock] at hk)⟩
  case round =>
    clear s2
    obtain ⟨q, hq1, hqf, rfl, oq⟩ := hrel
    obtain ⟨Av, cv, rfl, _, _⟩ := oq.1.form
    have hlen := upTo_len (q - 1)
    by_cases hlt : q < f0
    · have t1 : decide ((q : Int) < (f0 : Int)) = true := by simp; omega
      have t2 : decide (q < f0) = true := by simp; omega
      have HUP : Hid (upTo (q + 1 - 1) = upTo (q - 1) ++ [(q : Int)]) := Lib.hid (by
        obtain ⟨j, rfl⟩ : ∃ j, q = j + 1 := ⟨q - 1, by omega⟩
        rw [Nat.add_sub_cancel, Nat.add_sub_cancel, upTo_snoc]
        simp)
      generalize upTo (q - 1) = ys at *
      generalize hny : ys.length = ny at *
      have HNY := Lib.hid hny
      have hny2 : ny ≤ 10 := by omega
      clear hny hlen
      have HOA : Hid (OR wr w.heap.size 3 (.slice Av ny cv) ny (ys.map (Value.int .i64))) := Lib.hid (by have h := oq.1; rw [HNY.out] at h; exact h)
      have HTA2 := Lib.hid (fun o => oq.below (gr_alloc (gr_refl wr) o))
      have hsz9 := oq.2.1.size
      clear oq
      go_wp2_with (at_builtin; refine wpList_append_OR _ rfl (.tmp 41) (.tmp 43) _ rfl w.heap.size 3 i0 _ 8 Try.underlying22 hi0 hz0 hz1 hz2 rfl (.slice Av ny cv) ny _ rfl (HOA.out.alloc _) ⟨wr.heap.size, 0, none⟩ 1 1 [.int .i64 q] rfl rfl (World.news_of_block (heap_alloc_new wr _)) (by simp [Value.oneCell']) (by omega) (by simp only [maxLen]; omega) (by omega) (by rw [World.size_alloc]; omega) ?_; intro v4 w10 ho10 hg10 hv10)
      go_roundw
      case rel => exact ⟨q + 1, by omega, by omega, by go_num, by rw [HUP.out]; exact (HTA2.out _).grown (by rw [HNY.out]; exact ho10) hg10 hv10⟩
      case measure => simp [intOf]; omega
    · obtain rfl : q = f0 := by omega
      have t1 : decide ((q : Int) < (q : Int)) = false := by simp
      have t2 : decide (q < q) = false := by simp
      generalize hys : upTo (q - 1) = ys at *
      generalize hny : ys.length = ny at *
      have HNY := Lib.hid hny
      have hny2 : ny ≤ 10 := by omega
      have HYS : Hid (∀ m : Nat, q + 1 ≤ m → seesB (q - 1) m = ys ++ [(q : Int)]) := Lib.hid (fun m hm => by
        rw [sees_end _ _ (by omega), hys]
        congr 2
        omega)
      clear hny hlen hys
      have HOA : Hid (OR wr w.heap.size 3 (.slice Av ny cv) ny (ys.map (Value.int .i64))) := Lib.hid (by have h := oq.1; rw [HNY.out] at h; exact h)
      have HTA2 := Lib.hid (fun o => oq.below (gr_alloc (gr_refl wr) o))
      have hsz9 := oq.2.1.size
      clear oq
      go_wp2_with (at_builtin; refine wpList_append_OR _ rfl (.tmp 45) (.tmp 47) _ rfl w.heap.size 3 i0 _ 8 Try.underlying22 hi0 hz0 hz1 hz2 rfl (.slice Av ny cv) ny _ rfl (HOA.out.alloc _) ⟨wr.heap.size, 0, none⟩ 1 1 [.int .i64 q] rfl rfl (World.news_of_block (heap_alloc_new wr _)) (by simp [Value.oneCell']) (by omega) (by simp only [maxLen]; omega) (by omega) (by rw [World.size_alloc]; omega) ?_; intro v4 w10 ho10 hg10 hv10; have oq5 := (HTA2.out _).grown (by rw [HNY.out]; exact ho10) hg10 hv10; obtain ⟨Az, cz, rfl, _, _⟩ := ho10.form; clear ho10 hg10 hv10)
      have hnz : (ys ++ [(q : Int)]).length = ny + 1 := by rw [List.length_append, HNY.out]; rfl
      have HNZ := Lib.hid hnz
      generalize ys ++ [(q : Int)] = zs at *
      generalize hnz' : ny + 1 = nz at *
      have hnz2 : nz ≤ 11 := by omega
      clear hnz hnz' HTA2 HOA HNY
      go_loopw [11, 12, 13, 14, 15] (fun i _ _ _ _ wr => ∃ (k : Nat) (T : TabS), k ≤ n ∧ k ≤ 50 ∧ i = .int .i64 k ∧ Hid (WatT k q q T) ∧ OneQ w wr g T (.slice Az nz cz) zs) (fun i _ _ _ _ _ => 50 - (intOf i).toNat)
      case atStart => exact ⟨0, T1, by omega, by omega, rfl, HWA, oq5⟩
      case round =>
        clear oq5 HWA
        obtain ⟨k, T, hkn, hk50, rfl, HW, oq⟩ := hrel
        by_cases hlt2 : k < n ∧ k < 50
        · have t3 : decide ((k : Int) < (n : Int)) = true := by simp; omega
          have t4 : decide (k < n) = true := by simp; omega
          have t5 : decide ((k : Int) < 50) = true := by simp; omega
          have hi0' : (0 : Int) ≤ (k : Int) := Int.natCast_nonneg _
          have hi1' : (k : Int) < (n : Int) := by omega
          obtain ⟨gw, ow, rfl, hcw⟩ := ha.at_ (k := k) hlt2.1
          generalize l.getD k 0 = x at *
          have hc0 : wr.cell? ⟨gw, ow + k, none⟩ = some (.int .i64 x) := keep_of_below oq.2.1 hcw
          have hcw' := Lib.hid hcw
          obtain ⟨hlt3, hlt4⟩ := hlt2
          obtain ⟨m, hm, hm2⟩ : ∃ m : Nat, x % 1000003 = m ∧ m < 1000003 := ⟨(x % 1000003).toNat, by omega, by omega⟩
          have X := fun W => Pick_any x 1000003 W (by omega) (by omega)
          rw [hm] at X
          have HPX := Lib.hid X
          have hn1 := HW.out.n
          have hn2 := HW.out.nw
          obtain ⟨nN, hnN, hnN2⟩ : ∃ nN : Nat, T.next = nN ∧ nN ≤ 100 := ⟨T.next.toNat, by omega, by omega⟩
          rw [hnN] at hn2
          have X := Next_ts oq.2.ts
          rw [hnN] at X
          have HNX := Lib.hid X
          have hd0 : (0 : Int) < (nN : Int) - (q : Int) := by omega
          have hj0 : (0 : Int) ≤ (m : Int) / 5 % ((nN : Int) - (q : Int)) := Int.emod_nonneg _ (by omega)
          have hj1 : (m : Int) / 5 % ((nN : Int) - (q : Int)) < (nN : Int) - (q : Int) := Int.emod_lt_of_pos _ hd0
          clear X hm hcw hnN hn1
          go_wp2_with fail
          refine (HPX.out _).mono ?_
          rintro e w' ⟨rfl, rfl⟩
          clear HPX hc0
          go_wp2_with fail
          refine HNX.out.mono ?_
          clear HNX
          rintro e w' ⟨rfl, rfl⟩
          go_upto_if 75 with fail
          generalize (m : Int) / 5 % ((nN : Int) - (q : Int)) = dj at *
          go_cut [12] (fun s12 wx => ∃ y : Nat, y < 1000003 ∧ s12 = .int .i64 y ∧ Hid (dj = 0 → y = 0) ∧ wx = wr)
          case first =>
            by_cases hd : dj = 0
            · have t6 : ((q : Int) + dj == (q : Int)) = true := by rw [beq_iff_eq]; omega
              clear hd
              go_wp2_with fail
              go_meet
              exact ⟨0, by omega, rfl, Lib.hid (fun _ => rfl), rfl⟩
            · have t6 : ((q : Int) + dj == (q : Int)) = false := by rw [beq_eq_false_iff_ne]; omega
              have HD := Lib.hid hd
              clear hd
              go_wp2_with fail
              go_meet
              exact ⟨m, by omega, rfl, Lib.hid (fun h => absurd h HD.out), rfl⟩
          case rest =>
            obtain ⟨y, hy, rfl, HY, rfl⟩ := hcut
            go_upto_block 4 with fail
            go_cut [] (fun wx => ∃ T', Hid (WatT (k + 1) q q T') ∧ OneQ w wx g T' (.slice Az nz cz) zs)
            case first =>
              have hcase : (((y : Int) % 5 == 0) = true) ∨ (((y : Int) % 5 == 0) = false ∧ ((y : Int) % 5 == 1) = true) ∨ (¬ dj = 0 ∧ ((y : Int) % 5 == 0) = false ∧ ((y : Int) % 5 == 1) = false ∧ ((y : Int) % 5 == 2) = true) ∨ (¬ dj = 0 ∧ ((y : Int) % 5 == 0) = false ∧ ((y : Int) % 5 == 1) = false ∧ ((y : Int) % 5 == 2) = false ∧ ((y : Int) % 5 == 3) = true) ∨ (¬ dj = 0 ∧ ((y : Int) % 5 == 0) = false ∧ ((y : Int) % 5 == 1) = false ∧ ((y : Int) % 5 == 2) = false ∧ ((y : Int) % 5 == 3) = false ∧ ((y : Int) % 5 == 4) = true) := by
                have h5 : (y : Int) % 5 = 0 ∨ (y : Int) % 5 = 1 ∨ (y : Int) % 5 = 2 ∨ (y : Int) % 5 = 3 ∨ (y : Int) % 5 = 4 := by omega
                have hz : ∀ v : Int, (y : Int) % 5 = v → v ≠ 0 → ¬ dj = 0 := fun v hv hv0 hd => by
                  have := HY.out hd
                  subst this
                  omega
                rcases h5 with h | h | h | h | h
                · exact .inl (by rw [h]; rfl)
                · exact .inr (.inl (by rw [h]; exact ⟨rfl, rfl⟩))
                · exact .inr (.inr (.inl ⟨hz _ h (by decide), by rw [h]; exact ⟨rfl, rfl, rfl⟩⟩))
                · exact .inr (.inr (.inr (.inl ⟨hz _ h (by decide), by rw [h]; exact ⟨rfl, rfl, rfl, rfl⟩⟩)))
                · exact .inr (.inr (.inr (.inr ⟨hz _ h (by decide), by rw [h]; exact ⟨rfl, rfl, rfl, rfl, rfl⟩⟩)))
              have HBG := Lib.hid (Begin_tq oq.2)
              have HCA := Lib.hid (fun (T' : TabS) (w3 : World) h1 h2 => oq.called (T' := T') (w' := w3) h1 h2)
              have HCM := Lib.hid (Commit_tq ((q : Int) + dj) oq.2 (by omega) (by omega) HW.out.la (by have := HW.out.l; omega))
              have HAB := Lib.hid (Abort_tq ((q : Int) + dj) oq.2 (by omega) (by omega))
              have HKI := Lib.hid (Kill_tq ((q : Int) + dj) oq.2 (by omega) (by omega))
              have HWS : Hid (¬ dj = 0 → WatT (k + 1) q q (comT T ((q : Int) + dj)) ∧ WatT (k + 1) q q (aboT T ((q : Int) + dj)) ∧ WatT (k + 1) q q (kilT T ((q : Int) + dj))) := Lib.hid (fun hd => ⟨HW.out.com _ (by omega) (by omega), HW.out.abo _ (by omega) (by omega), HW.out.kil _ (by omega) (by omega)⟩)
              have HWB := Lib.hid HW.out.beg
              clear oq HW
              rcases hcase with r1 | ⟨r1, r2⟩ | ⟨r0, r1, r2, r3⟩ | ⟨r0, r1, r2, r3, r4⟩ | ⟨r0, r1, r2, r3, r4, r5⟩
              · go_wp2_with fail
                refine HBG.out.mono ?_
                rintro e w3 ⟨rfl, s3, o3⟩
                go_wp2_with fail
                go_meet
                exact ⟨_, HWB, HCA.out _ _ s3 o3⟩
              · go_wp2_with fail
                refine HBG.out.mono ?_
                rintro e w3 ⟨rfl, s3, o3⟩
                go_wp2_with fail
                go_meet
                exact ⟨_, HWB, HCA.out _ _ s3 o3⟩
              · have HX := Lib.hid (HWS.out r0).1
                clear r0
                go_wp2_with fail
                refine HCM.out.mono ?_
                rintro e w3 ⟨rfl, s3, o3⟩
                go_wp2_with fail
                go_meet
                exact ⟨_, HX, HCA.out _ _ s3 o3⟩
              · have HX := Lib.hid (HWS.out r0).2.1
                clear r0
                go_wp2_with fail
                refine HAB.out.mono ?_
                rintro e w3 ⟨rfl, s3, o3⟩
                go_wp2_with fail
                go_meet
                exact ⟨_, HX, HCA.out _ _ s3 o3⟩
              · have HX := Lib.hid (HWS.out r0).2.2
                clear r0
                go_wp2_with fail
                refine HKI.out.mono ?_
                rintro e w3 ⟨rfl, s3, o3⟩
                go_wp2_with fail
                go_meet
                exact ⟨_, HX, HCA.out _ _ s3 o3⟩
            case rest =>
              clear oq HW HY hj0 hj1 hd0 hn2
              obtain ⟨T', HW, oq⟩ := hcut
              have hn1 := HW.out.n
              have hn2 := HW.out.nw
              obtain ⟨nM, hnM, hnM2⟩ : ∃ nM : Nat, T'.next = nM ∧ nM ≤ 100 := ⟨T'.next.toNat, by omega, by omega⟩
              rw [hnM] at hn2
              have HNM := Lib.hid hnM
              clear hnM hn1 hnN2
              have HV : Hid (∀ x : Int, visB T' q x = (decide (1 ≤ x ∧ x < q) || x == q)) := Lib.hid HW.out.vis
              go_wp2_with fail
              go_loopw [14, 15] (fun v j wr => ∃ r : Nat, r ≤ nM + 2 ∧ j = .int .i64 r ∧ TwoQ w wr g T' v (seesB (q - 1) r) (.slice Az nz cz) zs) (fun _ j _ => nM + 2 - (intOf j).toNat)
              case atStart => exact ⟨0, by omega, rfl, by rw [sees_zero]; exact oq.two⟩
              case round =>
                clear oq
                obtain ⟨r, hr, rfl, tq⟩ := hrel
                obtain ⟨Av2, cv2, rfl, _, _⟩ := tq.1.form
                have hsl := sees_len (q - 1) r
                have X := Next_ts tq.2.2.1.ts
                rw [HNM.out] at X
                have HNX := Lib.hid X
                clear X
                by_cases hlr : r < nM + 2
                · have t6 : decide ((r : Int) < (nM : Int) + 2) = true := by simp; omega
                  have X := Visible_tb (q : Int) (r : Int) tq.2.2.1.ts (by omega) (by omega) (by omega) (by omega)
                  rw [HV.out] at X
                  have HSY : Hid ((decide (1 ≤ (r : Int) ∧ (r : Int) < q) || (r : Int) == q) = true → seesB (q - 1) (r + 1) = seesB (q - 1) r ++ [(r : Int)]) := Lib.hid (fun h => sees_yes (q - 1) r (by rw [show (1 + ((q - 1 : Nat) : Int)) = (q : Int) by omega]; exact h))
                  have HSN : Hid ((decide (1 ≤ (r : Int) ∧ (r : Int) < q) || (r : Int) == q) = false → seesB (q - 1) (r + 1) = seesB (q - 1) r) := Lib.hid (fun h => sees_no (q - 1) r (by rw [show (1 + ((q - 1 : Nat) : Int)) = (q : Int) by omega]; exact h))
                  generalize (decide (1 ≤ (r : Int) ∧ (r : Int) < q) || (r : Int) == q) = bV at *
                  generalize seesB (q - 1) r = yl at *
                  generalize hyl : yl.length = nyl at *
                  have HYL := Lib.hid hyl
                  have HVX := Lib.hid X
                  clear X hyl
                  cases bV
                  · go_wp2_with fail
                    refine HNX.out.mono ?_
                    rintro e w' ⟨rfl, rfl⟩
                    go_wp2_with fail
                    refine HVX.out.mono ?_
                    rintro e w7 ⟨rfl, hb7⟩
                    go_wp2_with fail
                    go_roundw
                    case rel => exact ⟨r + 1, by omega, by go_num, by rw [HSN.out (by simp)]; exact tq.below hb7⟩
                    case measure => simp [intOf]; omega
                  · go_wp2_with fail
                    refine HNX.out.mono ?_
                    rintro e w' ⟨rfl, rfl⟩
                    go_wp2_with fail
                    refine HVX.out.mono ?_
                    rintro e w7 ⟨rfl, hb7⟩
                    have tq7 := tq.below hb7
                    have HOA : Hid (OR w7 w.heap.size 3 (.slice Av2 nyl cv2) nyl (yl.map (Value.int .i64))) := Lib.hid (by have h := tq7.1; rw [HYL.out] at h; exact h)
                    have HTA2 := Lib.hid (fun o => tq7.below (gr_alloc (gr_refl w7) o))
                    have hsz9 := tq7.2.2.1.1.size
                    clear tq tq7 hb7
                    go_wp2_with (at_builtin; refine wpList_append_OR _ rfl (.tmp 109) (.tmp 111) _ rfl w.heap.size 3 i0 _ 8 Try.underlying22 hi0 hz0 hz1 hz2 rfl (.slice Av2 nyl cv2) nyl _ rfl (HOA.out.alloc _) ⟨w7.heap.size, 0, none⟩ 1 1 [.int .i64 r] rfl rfl (World.news_of_block (heap_alloc_new w7 _)) (by simp [Value.oneCell']) (by omega) (by simp only [maxLen]; omega) (by omega) (by rw [World.size_alloc]; omega) ?_; intro v4 w10 ho10 hg10 hv10)
                    go_roundw
                    case rel => exact ⟨r + 1, by omega, by go_num, by rw [HSY.out (by simp)]; exact (HTA2.out _).grown (by rw [HYL.out]; exact ho10) hg10 hv10⟩
                    case measure => simp [intOf]; omega
                · have t6 : decide ((r : Int) < (nM : Int) + 2) = false := by simp; omega
                  have hse := HYS.out r (by omega)
                  rw [hse] at tq ⊢
                  rw [HNZ.out]
                  have X := SameInts_any Av2 Az nz nz cv2 cz zs zs wr (by have h := tq.1; rw [HNZ.out] at h; exact h.rd) (by have h := tq.2.1; rw [HNZ.out] at h; exact h.rd) (by omega) (by omega)
                  rw [show (zs == zs) = true from by simp] at X
                  have HSI := Lib.hid X
                  clear hse hsl X
                  go_wp2_with fail
                  refine HNX.out.mono ?_
                  rintro e w' ⟨rfl, rfl⟩
                  go_wp2_with fail
                  refine HSI.out.mono ?_
                  rintro e w8 ⟨rfl, hb8⟩
                  go_wp2_with fail
                  go_roundw
                  case rel => exact ⟨k + 1, T', by omega, by omega, by go_num, HW, tq.one.below hb8⟩
                  case measure => simp [intOf]; omega
        · have hend : (decide ((k : Int) < (n : Int)) = false ∧ decide (k < n) = false) ∨ (k < n ∧ decide ((k : Int) < 50) = false ∧ decide ((k : Int) < (n : Int)) = true ∧ decide (k < n) = true) := by
            rcases Nat.lt_or_ge k n with h | h
            · exact .inr ⟨h, by simp; omega, by simp; omega, by simp; omega⟩
            · exact .inl ⟨by simp; omega, by simp; omega⟩
          have X := IsOpen_ts (q : Int) oq.2.ts (by omega) (by omega)
          rw [HW.out.open_] at X
          have HIO := Lib.hid X
          clear hlt2 X
          rcases hend with ⟨t1, t2⟩ | ⟨t0, t1, t2, t3⟩
          all_goals
            go_wp2_with fail
            refine HIO.out.mono ?_
            rintro e w3 ⟨rfl, s3⟩
            go_wp2_with fail
            refine (awake14_any _).mono ?_
            rintro e z1 ⟨rfl, hz⟩
            go_wp2_with fail
            go_ret
            exact ⟨rfl, gr_trans s3.1 hz⟩

end Go.Proofs.Ytjopobkcijkpmaa
