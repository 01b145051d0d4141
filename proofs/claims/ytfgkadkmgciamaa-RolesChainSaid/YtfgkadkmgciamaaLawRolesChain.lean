/-
  The walk of RolesChain.
-/
import Derived.Test.YtfgkadkmgciamaaRoU
import Derived.Deep.CutBlock
namespace Go.Proofs.Ytfgkadkmgciamaa
open Go Go.RowKit

theorem lt_apart {b j : Nat} (h1 : b ≤ j) (h2 : j < b) : False := Nat.lt_irrefl _ (Nat.lt_of_lt_of_le h2 h1)

set_option maxRecDepth 100000 in
set_option maxHeartbeats 8000000 in
theorem RolesChain_any (A : Option Addr) (n c : Nat) (l : List Stp) (ow : Str) (w : World) (h : ER EP 6 w A n l) (_hn : n ≤ 4398046511103) (hf : ∀ s ∈ l, s.1.gt.length ≤ maxLen ∧ s.1.gb.length ≤ maxLen) (ho : ow.length ≤ maxLen) :
    Calls Try.prog 4 #[.slice A n c, .string ⟨ow.toArray⟩] w fun e w' => e = .returned (.bool true) ∧ Below w.heap.size w w' := by
  obtain ⟨i0, z, hi0, hz0, hzs, hz1, hz2⟩ := info_Tb'
  have HS := Lib.hid h
  have HF := Lib.hid hf
  have HOW := Lib.hid ho
  clear h hf ho
  go_enter Try.func4, Try.ntmps4
  go_upto_block 0 with fail
  go_cut [5, 6, 7, 8, 9, 10, 11] (fun _ _ _ _ _ _ _ wx => Below w.heap.size w wx)
  case first =>
    go_wp2_with fail
    go_loopw [5, 6, 7, 8, 9, 10, 11] (fun vg vt i _ _ _ _ wr => ∃ (k : Nat) (gs : List Gr) (ts : List Tb), k ≤ n ∧ k ≤ 60 ∧ i = .int .i64 (k : Int) ∧ (EO EG 5 30 wr w.heap.size vg gs) ∧ (EO ET 3 35 wr w.heap.size vt ts) ∧ (∀ j, vg.ownBlock = some j → vt.ownBlock ≠ some j) ∧ CH ow k gs ts ∧ Below w.heap.size w wr) (fun _ _ i _ _ _ _ _ => 60 - (intOf i).toNat)
    case atStart => exact ⟨0, [], [], Nat.zero_le _, Nat.zero_le _, rfl, EO.nil _ _, EO.nil _ _, (fun j hj => by cases hj), CH.start ow, gr_refl w⟩
    case round =>
      obtain ⟨k, gs, ts, hkn, hk6, rfl, heg, het, hne, hch, hbw⟩ := hrel
      obtain ⟨Ag, cg, rfl, _, _, _⟩ := heg.form
      obtain ⟨At, ct, rfl, _, _, _⟩ := het.form
      have HCH := Lib.hid hch
      have HEG := Lib.hid heg
      have HET := Lib.hid het
      have HBW := Lib.hid hbw
      have hgl := hch.len
      have htl := hch.tlen
      have HNE := Lib.hid hne
      clear hch heg het hne
      by_cases hlt : k < n ∧ k < 60
      · have t1 : decide ((k : Int) < (n : Int)) = true := decide_eq_true (by omega)
        have t2 : decide (k < n) = true := decide_eq_true hlt.1
        have t3 : decide ((k : Int) < 60) = true := decide_eq_true (by omega)
        have i0' : (0 : Int) ≤ (k : Int) := Int.natCast_nonneg _
        have i1' : (k : Int) < (n : Int) := by omega
        obtain ⟨g, o, x, rfl, hx, p0, p1, p2, p3, p4, p5⟩ := HS.out.atStp hlt.1
        have q0 := keep_of_below hbw p0
        have q1 := keep_of_below hbw p1
        have q2 := keep_of_below hbw p2
        have q3 := keep_of_below hbw p3
        have q4 := keep_of_below hbw p4
        obtain ⟨b, hb⟩ : ∃ b, b = x.2 := ⟨_, rfl⟩
        rw [← hb] at p5
        have HP5 := Lib.hid p5
        have HXF := Lib.hid (HF.out x (List.mem_of_getElem? hx))
        have hba := gr_alloc (gr_refl wr) (.cells #[.string ⟨x.1.tb.toArray⟩, .int .u8 x.1.pv, .string ⟨x.1.gt.toArray⟩, .string ⟨x.1.gb.toArray⟩, .bool x.1.op] 30)
        have hca : (wr.alloc (.cells #[.string ⟨x.1.tb.toArray⟩, .int .u8 x.1.pv, .string ⟨x.1.gt.toArray⟩, .string ⟨x.1.gb.toArray⟩, .bool x.1.op] 30)).heap[wr.heap.size]? = some (.cells #[.string ⟨x.1.tb.toArray⟩, .int .u8 x.1.pv, .string ⟨x.1.gt.toArray⟩, .string ⟨x.1.gb.toArray⟩, .bool x.1.op] 30 (0, 0)) := heap_alloc_new wr _
        have HBA := Lib.hid hba
        have HT1 := Lib.hid (HET.out.below hba)
        have HG1 := Lib.hid (HEG.out.below hba)
        clear hx hbw hb p0 p1 p2 p3 p4 p5
        go_upto_region 7 with fail
        clear q0 q1 q2 q3 q4
        generalize hw1 : wr.alloc (.cells #[.string ⟨x.1.tb.toArray⟩, .int .u8 x.1.pv, .string ⟨x.1.gt.toArray⟩, .string ⟨x.1.gb.toArray⟩, .bool x.1.op] 30) = w1 at *
        have hs1 : w1.heap.size = wr.heap.size + 1 := by rw [← hw1]; exact World.size_alloc _ _
        clear hw1
        generalize hbg : wr.heap.size = bg at *
        have hce : w1.cell? ⟨bg, 0, none⟩ = some (.string ⟨x.1.tb.toArray⟩) ∧ w1.cell? ⟨bg, 1, none⟩ = some (.int .u8 x.1.pv) ∧ w1.cell? ⟨bg, 2, none⟩ = some (.string ⟨x.1.gt.toArray⟩) ∧ w1.cell? ⟨bg, 3, none⟩ = some (.string ⟨x.1.gb.toArray⟩) ∧ w1.cell? ⟨bg, 4, none⟩ = some (.bool x.1.op) := by
          refine ⟨?_, ?_, ?_, ?_, ?_⟩
          · rw [cell_of_row w1 _ 0 _ _ _ hca]; rfl
          · rw [cell_of_row w1 _ 1 _ _ _ hca]; rfl
          · rw [cell_of_row w1 _ 2 _ _ _ hca]; rfl
          · rw [cell_of_row w1 _ 3 _ _ _ hca]; rfl
          · rw [cell_of_row w1 _ 4 _ _ _ hca]; rfl
        obtain ⟨c0, c1, c2, c3, c4⟩ := hce
        have HB1 := Lib.hid (HBW.out.trans (HBA.out.mono (by rw [← hbg]; exact HBW.out.size)))
        have HTLT : Hid (∀ j, (Value.slice At ts.length ct).ownBlock = some j → j < bg) := Lib.hid (fun j hj => by rw [← hbg]; exact (HET.out.lt j hj).2)
        have HGLT : Hid (∀ j, (Value.slice Ag gs.length cg).ownBlock = some j → j < bg) := Lib.hid (fun j hj => by rw [← hbg]; exact (HEG.out.lt j hj).2)
        have HBG : Hid (bg < w1.heap.size) := Lib.hid (by omega)
        have HCA := Lib.hid hca
        have HMORE := Lib.hid (HCH.out.more x.1.tb (none, 0, 0))
        clear hca hba HET HEG HBA hs1 hbg
        go_wp2_with (at_builtin; refine wpList_append_Rd _ rfl (.tmp 27) (.tmp 32) _ rfl w.heap.size 35 i0 _ 3 56 Try.underlying23 hi0 hz0 hz1 hz2 hzs (.slice At ts.length ct) ts.length _ rfl (HT1.out.below (gr_alloc (gr_refl w1) _)) (some ⟨w1.heap.size, 0, none⟩) 1 1 (ET (x.1.tb, ow, none, 0, 0)) rfl (rd_new1 _ _ _ _ rfl) (ET_one _) (by omega) (by simp only [maxLen]; omega) (gr_alloc HB1.out _).size ?_; intro v4 w4 hown4 hg4 _ hv4; have hb4 : Below w.heap.size w w4 := (gr_alloc HB1.out _).grown hg4 (gr_alloc HB1.out _).size (fun j hj => (HT1.out.lt j hj).1); have hba1 := gr_alloc (gr_refl w1) (.cells #[.string ⟨x.1.tb.toArray⟩, .string ⟨ow.toArray⟩, .slice none 0 0] 35); have hz4 := HBG.out; have hs4 : (w1.alloc (.cells #[.string ⟨x.1.tb.toArray⟩, .string ⟨ow.toArray⟩, .slice none 0 0] 35)).heap.size = w1.heap.size + 1 := World.size_alloc _ _; have hT4 : EO ET 3 35 w4 w.heap.size v4 (ts ++ [(x.1.tb, ow, none, 0, 0)]) := EO.snoc hown4 rfl; have hG4 : EO EG 5 30 w4 w.heap.size (.slice Ag gs.length cg) gs := ownsRow_off (HG1.out.below hba1) (Off.of_grown hg4 (S := fun j => (Value.slice At ts.length ct).ownBlock = some j) (fun j hj => hj)) (fun j hj hS => HNE.out j hj hS); have hca4 := (hg4.block bg (by omega) (fun e => by have := HTLT.out bg e.symm; omega)).trans ((hba1.block bg hz4).trans HCA.out); have hn4 : ∀ j, (Value.slice Ag gs.length cg).ownBlock = some j → v4.ownBlock ≠ some j := (fun j hj e => by have := HGLT.out j hj; rcases hv4 with h | ⟨h, _⟩; (exact HNE.out j hj (by rw [← h]; exact e)); (rw [h] at e; have e2 := Option.some.inj e; omega)); obtain ⟨T, hTT⟩ : ∃ T, T = ts ++ [(x.1.tb, ow, none, 0, 0)] := ⟨_, rfl⟩; rw [← hTT] at hT4 HMORE; have HTT := Lib.hid hTT; clear hTT; obtain ⟨B5, c5, rfl, hr5, _, _⟩ := hT4.form; have HB4 := Lib.hid hb4; have HT4 := Lib.hid hT4; have HG4 := Lib.hid hG4; have HN4 := Lib.hid hn4; have HCA4 := Lib.hid hca4; clear hb4 hT4 hG4 hn4 hr5 hown4 hg4 hv4 hca4 hba1 hs4 hz4; obtain ⟨c0, c1, c2, c3, c4⟩ := cells5 HCA4.out)
        refine (Give_any Ag gs.length cg gs ow x.1 w4 (HG4.out.er rfl) (by omega)).mono ?_
        rintro e w5 ⟨hj, hb5⟩
        obtain ⟨v5, r, out, rfl, hq, ho⟩ := hj.q
        have HQ := Lib.hid hq
        have HSZ4 : Hid (bg < w4.heap.size) := Lib.hid ((Array.getElem?_eq_some_iff.1 HCA4.out).1)
        have HO := Lib.hid (ho.lower HB4.out.size)
        have HG5 := Lib.hid (HG4.out.below hb5)
        have HT5 := Lib.hid (HT4.out.below hb5)
        have HB5 := Lib.hid (HB4.out.trans (hb5.mono HB4.out.size))
        have HCA5 := Lib.hid ((hb5.block bg HSZ4.out).trans HCA4.out)
        have HSZ5 := Lib.hid (Nat.lt_of_lt_of_le HSZ4.out hb5.size)
        have HN5 : Hid (∀ j, v5.ownBlock = some j → (Value.slice B5 T.length c5).ownBlock ≠ some j) := Lib.hid (fun j hj e => by
          have h1 := (World.ownsRow.lt ho j hj).1
          have h2 := (HT4.out.lt j e).2
          exact lt_apart h1 h2)
        clear hj hq ho hb5 c0 c1 c2 c3 c4 HG4 HT4 HB4 HCA4 HSZ4 HTLT HGLT HBG HCA HT1 HG1 HB1
        cases b
        · have y5 := keep_of_below HB5.out HP5.out
          by_cases hr : r = 0
          · subst hr
            have HEQ := Lib.hid (HQ.out rfl).2
            have HC := Lib.hid (HCH.out.give (none, 0, 0) HXF.out (HQ.out rfl).1)
            rw [← HEQ.out, ← HTT.out] at HC
            have HHAS : Hid (hasL out [x.1.gt] ow x.1.tb x.1.pv = true) := Lib.hid (by rw [HEQ.out]; exact giveL_hasL _ _ _)
            have hge : gs.length ≤ out.length := by rw [HEQ.out]; exact giveL_ge _ _
            have l1 : decide ((out.length : Int) < (gs.length : Int)) = false := decide_eq_false (by omega)
            have l2 : decide (out.length < gs.length) = false := decide_eq_false (by omega)
            obtain ⟨c0, c1, c2, c3, c4⟩ := cells5 HCA5.out
            obtain ⟨A6, c6, rfl, _, _, _⟩ := HO.out.form
            go_upto_region 11 with fail
            go_upto_region 12 with fail
            go_upto_region 20 with fail
            clear y5
            have hba := gr_alloc (gr_refl w5) (.cells #[.string ⟨x.1.gt.toArray⟩] 9)
            have HOa := Lib.hid (HO.out.below hba)
            have HTa := Lib.hid (HT5.out.below hba)
            have HBa := Lib.hid (HB5.out.trans (hba.mono HB5.out.size))
            have d0 := keep_of_below hba c0
            have d1 := keep_of_below hba c1
            clear hba
            go_wp2_with fail
            refine (Has_any A6 (some ⟨w5.heap.size, 0, none⟩) out.length c6 1 1 out [x.1.gt] ow x.1.tb x.1.pv (w5.alloc (.cells #[.string ⟨x.1.gt.toArray⟩] 9)) (HOa.out.er rfl) ⟨rfl, rd_new1 w5 9 1 (ES x.1.gt) rfl⟩ (by have := HC.out.len; omega) (by omega)).mono ?_
            rintro e w7 ⟨rfl, hb7⟩
            rw [HHAS.out]
            have HO7 := Lib.hid (HOa.out.below hb7)
            have HT7 := Lib.hid (HTa.out.below hb7)
            have HB7 := Lib.hid (HBa.out.trans (hb7.mono HBa.out.size))
            clear hb7 d0 d1 c0 c1 c2 c3 c4
            go_wp2_with fail
            refine (Sound_any A6 B5 out.length c6 T.length c5 out T w7 (HO7.out.er rfl) (HT7.out.er rfl) (by have := HC.out.len; omega) (by have := HC.out.tlen; omega) HC.out.fit (HC.out.fitT HOW.out)).mono ?_
            rintro e w9 ⟨r9, rfl, hs9, hb9⟩
            obtain rfl := HC.out.sound hs9
            have HO9 := Lib.hid (HO7.out.below hb9)
            have HT9 := Lib.hid (HT7.out.below hb9)
            have HB9 := Lib.hid (HB7.out.trans (hb9.mono HB7.out.size))
            clear hs9 hb9
            go_wp2_with fail
            go_roundw
            case rel => exact ⟨k + 1, out, T, by omega, by omega, by go_num, HO9.out, HT9.out, HN5.out, HC.out, HB9.out⟩
            case measure => simp [intOf]; omega
          · clear HQ HO HN5
            go_upto_region 11 with fail
            clear y5
            go_wp2_with fail
            go_roundw
            case rel => exact ⟨k + 1, gs, T, by omega, by omega, by go_num, HG5.out, HT5.out, HN4.out, HMORE.out, HB5.out⟩
            case measure => simp [intOf]; omega
        · clear HQ HO HN5
          have y5 := keep_of_below HB5.out HP5.out
          obtain ⟨c0, c1, c2, c3, c4⟩ := cells5 HCA5.out
          go_upto_region 10 with fail
          clear y5
          go_wp2_with fail
          refine (Take_any Ag gs.length cg gs ow x.1 w5 (HG5.out.er rfl) (by omega) HCH.out.fit HOW.out).mono ?_
          rintro e w6 ⟨hj, hb6⟩
          obtain ⟨v6, r, out, rfl, hq, ho⟩ := hj.q
          have HQ := Lib.hid hq
          have HO6 := Lib.hid (ho.lower HB5.out.size)
          have HG6 := Lib.hid (HG5.out.below hb6)
          have HT6 := Lib.hid (HT5.out.below hb6)
          have HB6 := Lib.hid (HB5.out.trans (hb6.mono HB5.out.size))
          have HCA6 := Lib.hid ((hb6.block bg HSZ5.out).trans HCA5.out)
          have HSZ6 := Lib.hid (Nat.lt_of_lt_of_le HSZ5.out hb6.size)
          have HN6 : Hid (∀ j, v6.ownBlock = some j → (Value.slice B5 T.length c5).ownBlock ≠ some j) := Lib.hid (fun j hj e => by
            have h1 := (World.ownsRow.lt ho j hj).1
            have h2 := (HT5.out.lt j e).2
            exact lt_apart h1 h2)
          clear hj hq ho hb6 c0 c1 c2 c3 c4
          have y5 := keep_of_below HB6.out HP5.out
          by_cases hr : r = 0
          · subst hr
            have HTK := Lib.hid (HQ.out rfl).2
            have hlt6 : out.length < gs.length := by
              have h1 := HTK.out.len
              have h2 := (HQ.out rfl).1
              have h3 := restL_len gs x.1
              omega
            have HC : Hid (CH ow (k + 1) out (ts ++ [(x.1.tb, ow, none, 0, 0)])) := Lib.hid (HCH.out.take (x.1.tb, none, 0, 0) HTK.out)
            rw [← HTT.out] at HC
            obtain ⟨A6, c6, rfl, _, _, _⟩ := HO6.out.form
            go_upto_region 13 with fail
            clear y5
            go_wp2_with fail
            go_loopw [11] (fun i wr => ∃ (j : Nat), j ≤ out.length ∧ i = .int .i64 (j : Int) ∧ Below w6.heap.size w6 wr) (fun i _ => out.length - (intOf i).toNat)
            case atStart => exact ⟨0, Nat.zero_le _, rfl, gr_refl _⟩
            case round =>
              obtain ⟨j, hj, rfl, hbx⟩ := hrel
              have HBX := Lib.hid hbx
              by_cases hlj : j < out.length
              · have t1 : decide ((j : Int) < (out.length : Int)) = true := decide_eq_true (by omega)
                have t2 : decide (j < out.length) = true := decide_eq_true hlj
                have i0' : (0 : Int) ≤ (j : Int) := Int.natCast_nonneg _
                have i1' : (j : Int) < (out.length : Int) := by omega
                obtain ⟨g6, o6, y, hAe, hy, z0, z1, z2, z3, z4⟩ := ((HO6.out.er rfl).below hbx).atGr hlj
                subst hAe
                have HAL := Lib.hid ((HTK.out.sub y (List.mem_of_getElem? hy)).2)
                obtain ⟨c0, c1, c2, c3, c4⟩ := cells5 ((hbx.block bg HSZ6.out).trans HCA6.out)
                obtain ⟨s0, hs0⟩ : ∃ r, r = (y.tb == x.1.tb) := ⟨_, rfl⟩
                obtain ⟨s1, hs1⟩ : ∃ r, r = (y.pv == x.1.pv) := ⟨_, rfl⟩
                obtain ⟨s2, hs2⟩ : ∃ r, r = (y.gt == x.1.gt) := ⟨_, rfl⟩
                obtain ⟨s3, hs3⟩ : ∃ r, r = (y.gb == x.1.gb) := ⟨_, rfl⟩
                have e0 : (y.tb == x.1.tb) = s0 := hs0.symm
                have e1 : (y.pv == x.1.pv) = s1 := hs1.symm
                have e2 : (y.gt == x.1.gt) = s2 := hs2.symm
                have e3 : (y.gb == x.1.gb) = s3 := hs3.symm
                have HBAD : Hid (¬ (s0 = true ∧ s1 = true ∧ s2 = true ∧ s3 = true)) := Lib.hid (fun hh => by
                  have := HAL.out
                  unfold alikeB at this
                  rw [← hs0, ← hs1, ← hs2, ← hs3, hh.1, hh.2.1, hh.2.2.1, hh.2.2.2] at this
                  cases this)
                clear hs0 hs1 hs2 hs3 hy hbx
                cases s0
                · go_wp2_with (go_quiet (fail))
                  have HBY := Lib.hid (HBX.out.trans ((gr_drewN (gr_refl wr) nq).mono HBX.out.size))
                  go_roundw
                  case rel => exact ⟨j + 1, by omega, by go_num, HBY.out⟩
                  case measure => simp [intOf]; omega
                · cases s1
                  · have tp : ¬ y.pv = x.1.pv := fun h => by rw [h] at e1; simp at e1
                    go_wp2_with (go_quiet (fail))
                    have HBY := Lib.hid (HBX.out.trans ((gr_drewN (gr_refl wr) nq).mono HBX.out.size))
                    go_roundw
                    case rel => exact ⟨j + 1, by omega, by go_num, HBY.out⟩
                    case measure => simp [intOf]; omega
                  · have tp : y.pv = x.1.pv := beq_iff_eq.1 e1
                    cases s2
                    · go_wp2_with (go_quiet (fail))
                      have HBY := Lib.hid (HBX.out.trans ((gr_drewN (gr_refl wr) nq).mono HBX.out.size))
                      go_roundw
                      case rel => exact ⟨j + 1, by omega, by go_num, HBY.out⟩
                      case measure => simp [intOf]; omega
                    · cases s3
                      · go_wp2_with (go_quiet (fail))
                        have HBY := Lib.hid (HBX.out.trans ((gr_drewN (gr_refl wr) nq).mono HBX.out.size))
                        go_roundw
                        case rel => exact ⟨j + 1, by omega, by go_num, HBY.out⟩
                        case measure => simp [intOf]; omega
                      · exact absurd ⟨rfl, rfl, rfl, rfl⟩ HBAD.out
              · obtain rfl : j = out.length := by omega
                have t1 : decide ((out.length : Int) < (out.length : Int)) = false := decide_eq_false (by omega)
                have l1 : decide ((gs.length : Int) ≤ (out.length : Int)) = false := decide_eq_false (by omega)
                have l2 : decide (gs.length ≤ out.length) = false := decide_eq_false (by omega)
                have HOx := Lib.hid (HO6.out.below hbx)
                have HTx := Lib.hid (HT6.out.below hbx)
                have HBx := Lib.hid (HB6.out.trans (hbx.mono HB6.out.size))
                clear hbx
                go_wp2_with fail
                refine (Sound_any A6 B5 out.length c6 T.length c5 out T wr (HOx.out.er rfl) (HTx.out.er rfl) (by have := HC.out.len; omega) (by have := HC.out.tlen; omega) HC.out.fit (HC.out.fitT HOW.out)).mono ?_
                rintro e w9 ⟨r9, rfl, hs9, hb9⟩
                obtain rfl := HC.out.sound hs9
                have HO9 := Lib.hid (HOx.out.below hb9)
                have HT9 := Lib.hid (HTx.out.below hb9)
                have HB9 := Lib.hid (HBx.out.trans (hb9.mono HBx.out.size))
                clear hs9 hb9
                go_wp2_with fail
                go_roundw
                case rel => exact ⟨k + 1, out, T, by omega, by omega, by go_num, HO9.out, HT9.out, HN6.out, HC.out, HB9.out⟩
                case measure => simp [intOf]; omega
          · clear HQ HO6 HN6
            go_upto_region 11 with fail
            clear y5
            go_wp2_with fail
            go_roundw
            case rel => exact ⟨k + 1, gs, T, by omega, by omega, by go_num, HG6.out, HT6.out, HN4.out, HMORE.out, HB6.out⟩
            case measure => simp [intOf]; omega
      · have hbw' := HBW.out
        by_cases h1 : k < n
        · have t1 : decide ((k : Int) < (n : Int)) = true := decide_eq_true (by omega)
          have t3 : decide ((k : Int) < 60) = false := decide_eq_false (by omega)
          go_wp2_with fail
          go_meet
          exact hbw'
        · have t1 : decide ((k : Int) < (n : Int)) = false := decide_eq_false (by omega)
          go_wp2_with fail
          go_meet
          exact hbw'
  case rest =>
    have HB := Lib.hid hcut
    clear hcut
    go_wp2_with fail
    refine (awake21_any wc).mono ?_
    rintro e w2 ⟨rfl, hbz⟩
    have HBZ := Lib.hid (HB.out.trans (hbz.mono HB.out.size))
    clear hbz
    go_wp2_with fail
    go_ret
    exact ⟨rfl, HBZ.out⟩

end Go.Proofs.Ytfgkadkmgciamaa
