/-
  The walk of SnapshotFirst.
-/
import Derived.Test.YtjopobkcijkpmaaSnM
import Derived.Deep.CutBlock
import Derived.Deep.DeepCutAuto
namespace Go.Proofs.Ytjopobkcijkpmaa
open Go.RowKit

set_option maxRecDepth 100000 in
set_option maxHeartbeats 8000000 in
theorem SnapshotFirst_any (nx : Int) (A : Option Addr) (n c : Nat) (l : List Int) (sw : Bool) (w : World) (ha : IR w A n l) :
    Calls Try.prog 5 #[.int .i64 nx, .slice A n c, .bool sw] w fun e w' => e = .returned (.bool true) ∧ Below w.heap.size w w' := by
  obtain ⟨pn, hpn, hp9⟩ : ∃ pn : Nat, nx % 9 = pn ∧ pn ≤ 9 := ⟨(nx % 9).toNat, by omega, by omega⟩
  have X := Pick_any nx 9 w (by omega) (by omega)
  rw [hpn] at X
  have HP9 := Lib.hid X
  have HN := Lib.hid (New_ts (w0 := w) (w := w) (1 + (pn : Int)) none 0 0 [] (gr_refl w) (IR.none_ _ _) (by omega) (by omega) (by omega) (fun k hk => absurd hk (by simp)))
  have HNW := Lib.hid (WkT.new pn hp9)
  clear X hpn
  go_enter Try.func5, Try.ntmps5
  go_wp2_with fail
  refine HP9.out.mono ?_
  clear HP9
  rintro e w' ⟨rfl, rfl⟩
  go_wp2_with fail
  refine HN.out.mono ?_
  clear HN
  rintro e w1 ⟨g, rfl, s1⟩
  go_upto_block 0 with fail
  go_cut [9, 10, 11] (fun _ _ _ wx => ∃ T, Hid (WkT 20 T) ∧ TSt w wx g T)
  case first =>
    go_wp2_with fail
    go_loopw [9, 10, 11] (fun i _ _ wr => ∃ (k : Nat) (T : TabS), k ≤ n ∧ k ≤ 20 ∧ i = .int .i64 k ∧ Hid (WkT k T) ∧ TSt w wr g T) (fun i _ _ _ => 20 - (intOf i).toNat)
    case atStart => exact ⟨0, _, by omega, by omega, rfl, HNW, s1⟩
    case round =>
      clear s1 HNW
      obtain ⟨k, T, hkn, hk20, rfl, HW, s⟩ := hrel
      by_cases hlt : k < n ∧ k < 20
      · have t1 : decide ((k : Int) < (n : Int)) = true := by simp; omega
        have t2 : decide (k < n) = true := by simp; omega
        have t3 : decide ((k : Int) < 20) = true := by simp; omega
        have hi0' : (0 : Int) ≤ (k : Int) := Int.natCast_nonneg _
        have hi1' : (k : Int) < (n : Int) := by omega
        by_cases hf : begF T = true
        · have X := Begin_ts s
          rw [show begE T = 5 from by simp [begE, hf], show begT T = T from by simp [begT, hf]] at X
          have HB := Lib.hid X
          clear X s hf
          generalize begN T = nT at *
          go_wp2_with fail
          refine HB.out.mono ?_
          rintro e w2 ⟨rfl, s2⟩
          go_wp2_with fail
          go_meet
          exact ⟨T, Lib.hid (HW.out.mono hk20), s2⟩
        · have hn1 := s.pos
          have hn2 := HW.out.n
          have X := Begin_ts s
          rw [show begE T = 0 from by simp [begE, hf], show begN T = T.next from by simp [begN, hf]] at X
          have HB := Lib.hid X
          have HW1 : Hid (WkT (k + 1) (begT T) ∧ (begT T).last ≤ k) := Lib.hid ⟨HW.out.beg, by rw [beg_last]; exact HW.out.l⟩
          have HWC := Lib.hid (HW1.out.1.com HW1.out.2 T.next)
          have HWA := Lib.hid (HW1.out.1.abo T.next)
          obtain ⟨gw, ow, rfl, hcw⟩ := ha.at_ (k := k) hlt.1
          generalize l.getD k 0 = x at *
          have HKeep : Hid (∀ W : World, Below w.heap.size w W → W.cell? ⟨gw, ow + k, none⟩ = some (.int .i64 x)) := Lib.hid (fun W hW => keep_of_below hW hcw)
          obtain ⟨hlt1, hlt2⟩ := hlt
          have HQ : Hid (∀ (w2 : World), TSt w w2 g (begT T) → Calls Try.prog 32 #[.pointer (some ⟨g, 0, none⟩), .int .i64 T.next] w2 fun e w' => e = .returned (.int .i64 (askT (begT T) T.next)) ∧ TSt w w' g (comT (begT T) T.next)) := Lib.hid (fun w2 s2 => Commit_ts T.next s2 (by omega) (by omega) HW1.out.1.wf.la (by have := HW1.out.2; omega))
          have HR : Hid (∀ (w2 : World), TSt w w2 g (begT T) → Calls Try.prog 33 #[.pointer (some ⟨g, 0, none⟩), .int .i64 T.next] w2 fun e w' => e = .returned (.int .i64 (askT (begT T) T.next)) ∧ TSt w w' g (aboT (begT T) T.next)) := Lib.hid (fun w2 s2 => Abort_ts T.next s2 (by omega) (by omega))
          have HPX := Lib.hid (fun W => Pick_any x 4 W (by omega) (by omega))
          have hx4 : x % 4 = 0 ∨ x % 4 = 1 ∨ x % 4 = 2 ∨ x % 4 = 3 := by omega
          clear X s hf HW hcw
          generalize askT (begT T) T.next = rA at *
          generalize comT (begT T) T.next = TC at *
          generalize aboT (begT T) T.next = TA at *
          generalize begT T = TB' at *
          generalize T.next = nT at *
          rcases hx4 with hx | hx | hx | hx
          all_goals
            rw [hx] at HPX
            clear hx
            go_wp2_with fail
            refine HB.out.mono ?_
            rintro e w2 ⟨rfl, s2⟩
            have hc0 := HKeep.out w2 s2.1
            go_wp2_with fail
            refine (HPX.out _).mono ?_
            rintro e w' ⟨rfl, rfl⟩
            go_wp2_with fail
          · refine (HQ.out _ s2).mono ?_
            rintro e w3 ⟨rfl, s3⟩
            go_wp2_with fail
            go_roundw
            case rel => exact ⟨k + 1, _, by omega, by omega, by go_num, HWC, s3⟩
            case measure => simp [intOf]; omega
          · refine (HQ.out _ s2).mono ?_
            rintro e w3 ⟨rfl, s3⟩
            go_wp2_with fail
            go_roundw
            case rel => exact ⟨k + 1, _, by omega, by omega, by go_num, HWC, s3⟩
            case measure => simp [intOf]; omega
          · refine (HR.out _ s2).mono ?_
            rintro e w3 ⟨rfl, s3⟩
            go_wp2_with fail
            go_roundw
            case rel => exact ⟨k + 1, _, by omega, by omega, by go_num, HWA, s3⟩
            case measure => simp [intOf]; omega
          · go_roundw
            case rel => exact ⟨k + 1, _, by omega, by omega, by go_num, Lib.hid HW1.out.1, s2⟩
            case measure => simp [intOf]; omega
      · have hend : (decide ((k : Int) < (n : Int)) = false ∧ decide (k < n) = false) ∨ (k < n ∧ decide ((k : Int) < 20) = false ∧ decide ((k : Int) < (n : Int)) = true ∧ decide (k < n) = true) := by
          rcases Nat.lt_or_ge k n with h | h
          · exact .inr ⟨h, by simp; omega, by simp; omega, by simp; omega⟩
          · exact .inl ⟨by simp; omega, by simp; omega⟩
        clear hlt
        rcases hend with ⟨t1, t2⟩ | ⟨t0, t1, t2, t3⟩
        all_goals
          go_wp2_with fail
          go_meet
          exact ⟨T, Lib.hid (HW.out.mono hk20), s⟩
  case rest =>
    clear HNW s1 ha
    obtain ⟨T, HW, s⟩ := hcut
    have HO := Lib.hid (Open_ts s)
    go_wp2_with fail
    refine HO.out.mono ?_
    clear HO
    rintro e w3 ⟨v, rfl, ho, hb3⟩
    obtain ⟨Av, cv, rfl, _, _⟩ := own_form ho
    have sq : TSQ w w3 g T (fun k => (Value.slice Av T.opn.length cv).ownBlock = some k) := s.more hb3 (fun k hk => ho.lt k hk)
    have h16 := s.len
    clear s hb3
    generalize hnp : T.opn.length = np at *
    go_upto_if 65 with fail
    go_cut [] (fun wx => ∃ T, Hid (WkT 20 T ∧ T.opn.length ≤ 12) ∧ TSt w wx g T)
    case first =>
      by_cases h12 : 12 < np
      · have t1 : decide ((12 : Int) < (np : Int)) = true := by simp; omega
        have t2 : decide (12 < np) = true := by simp; omega
        have HL : Hid ((abo4 T).opn.length ≤ 12) := Lib.hid (abo4_len HW.out.wf (by omega) (by omega))
        have HW4 : Hid (WkT 20 (abo4 T)) := Lib.hid ((((HW.out.abo _).abo _).abo _).abo _)
        obtain ⟨qb, cb', e0, _⟩ := own_int ho (k := 0) (by omega)
        cases e0
        have HC : Hid (∀ (W : World), Off (fun k => ¬ (Value.slice (some ⟨qb, 0, none⟩) np cv).ownBlock = some k) w3 W → W.ownsRow wc.heap.size 3 1 (Value.slice (some ⟨qb, 0, none⟩) np cv) np (T.opn.map (Value.int .i64))) := Lib.hid (fun W hW => row_stays ho hW (fun k e => e))
        have HI : Hid (∀ (W : World) (k : Nat), k < 4 → Off (fun k => ¬ (Value.slice (some ⟨qb, 0, none⟩) np cv).ownBlock = some k) w3 W → W.cell? ⟨qb, k, none⟩ = some (.int .i64 (T.opn.getD k 0))) := Lib.hid (fun W k hk hW => by
          obtain ⟨q, c', e, hc⟩ := own_int (HC.out W hW) (k := k) (by omega)
          cases e
          exact hc)
        have HX : Hid (∀ k, k < 4 → 1 ≤ T.opn.getD k 0 ∧ T.opn.getD k 0 < T.next) := Lib.hid (fun k hk => sq.ts.oi _ (getD_mem (by omega)))
        have hnn := HW.out.n
        have b0 := HX.out 0 (by omega)
        have b1 := HX.out 1 (by omega)
        have b2 := HX.out 2 (by omega)
        have b3 := HX.out 3 (by omega)
        have o0 := Off.refl (fun k => ¬ (Value.slice (some ⟨qb, 0, none⟩) np cv).ownBlock = some k) w3
        have HA0 := Lib.hid (Abort_tq (T.opn.getD 0 0) sq (by omega) (by omega))
        have HA : Hid (∀ (W : World) (U : TabS) (x : Int), 1 ≤ x → x < T.next → TSQ w W g U (fun k => (Value.slice (some ⟨qb, 0, none⟩) np cv).ownBlock = some k) → Calls Try.prog 33 #[.pointer (some ⟨g, 0, none⟩), .int .i64 x] W fun e w' => e = .returned (.int .i64 (askT U x)) ∧ TSQ w w' g (aboT U x) (fun k => (Value.slice (some ⟨qb, 0, none⟩) np cv).ownBlock = some k) ∧ Off (fun k => ¬ (Value.slice (some ⟨qb, 0, none⟩) np cv).ownBlock = some k) W w') := Lib.hid (fun W U x h1 h2 hs => Abort_tq x hs (by omega) (by omega))
        have HE4 : Hid (abo4 T = aboT (aboT (aboT (aboT T (T.opn.getD 0 0)) (T.opn.getD 1 0)) (T.opn.getD 2 0)) (T.opn.getD 3 0)) := Lib.hid rfl
        have c0 := HI.out w3 0 (by omega) o0
        have y1 := b1.1
        have y1' := b1.2
        have y2 := b2.1
        have y2' := b2.2
        have y3 := b3.1
        have y3' := b3.2
        clear HA0 HC HX b0 b1 b2 b3 ho
        have hsq := sq
        have HS := Lib.hid (HA.out w3 T (T.opn.getD 0 0) (by have := (sq.ts.oi _ (getD_mem (l := T.opn) (k := 0) (by omega))).1; omega) (by have := (sq.ts.oi _ (getD_mem (l := T.opn) (k := 0) (by omega))).2; omega) hsq)
        clear sq hsq
        generalize T.opn.getD 0 0 = x0 at *
        go_wp2_with fail
        refine HS.out.mono ?_
        clear HS c0
        rintro e w4 ⟨rfl, sq4, o4⟩
        have o4' := o0.trans o4
        have c1 := HI.out w4 1 (by omega) o4'
        have HS := Lib.hid (HA.out w4 _ (T.opn.getD 1 0) y1 y1' sq4)
        clear sq4 o4
        generalize T.opn.getD 1 0 = x1 at *
        go_wp2_with fail
        refine HS.out.mono ?_
        clear HS c1
        rintro e w5 ⟨rfl, sq5, o5⟩
        have o5' := o4'.trans o5
        have c2 := HI.out w5 2 (by omega) o5'
        have HS := Lib.hid (HA.out w5 _ (T.opn.getD 2 0) y2 y2' sq5)
        clear sq5 o5
        generalize T.opn.getD 2 0 = x2 at *
        go_wp2_with fail
        refine HS.out.mono ?_
        clear HS c2
        rintro e w6 ⟨rfl, sq6, o6⟩
        have o6' := o5'.trans o6
        have c3 := HI.out w6 3 (by omega) o6'
        have HS := Lib.hid (HA.out w6 _ (T.opn.getD 3 0) y3 y3' sq6)
        clear sq6 o6
        generalize T.opn.getD 3 0 = x3 at *
        go_wp2_with fail
        refine HS.out.mono ?_
        clear HS c3
        rintro e w7 ⟨rfl, sq7, o7⟩
        go_wp2_with fail
        go_meet
        rw [← HE4.out] at sq7
        exact ⟨_, Lib.hid ⟨HW4.out, HL.out⟩, sq7.ts⟩
      · have t1 : decide ((12 : Int) < (np : Int)) = false := by simp; omega
        have t2 : decide (12 < np) = false := by simp; omega
        go_wp2_with fail
        go_meet
        exact ⟨T, Lib.hid ⟨HW.out, by omega⟩, sq.ts⟩
    case rest =>
      clear HW ho sq h16 hnp
      obtain ⟨T, HW, s⟩ := hcut
      have HE : Hid (begN T = T.next ∧ begE T = 0 ∧ begN (begT T) = T.next + 1 ∧ begE (begT T) = 0) := Lib.hid (by
        have f1 := begF_no (T := T) (by have := HW.out.2; omega) (by have := HW.out.1.n; omega)
        have e1 := beg_of f1
        have f2 : begF (begT T) = false := by
          rw [e1]
          exact begF_no (by simp; have := HW.out.2; omega) (by have := HW.out.1.n; dsimp only; omega)
        refine ⟨by simp [begN, f1], by simp [begE, f1], ?_, by simp [begE, f2]⟩
        unfold begN
        rw [if_neg (by simp [f2]), e1])
      have HTP : Hid (∀ a b, (a = T.next ∧ b = T.next + 1) ∨ (b = T.next ∧ a = T.next + 1) → TwoP T a b) := Lib.hid (fun a b h => twoP (by have := HW.out.2; omega) (by have := HW.out.1.n; omega) h)
      have hn1 := s.pos
      have hn2 := HW.out.1.n
      have HLA : Hid (0 ≤ (begT (begT T)).last ∧ (begT (begT T)).last ≤ 1000000) := Lib.hid ⟨by rw [beg_last, beg_last]; exact HW.out.1.wf.la, by rw [beg_last, beg_last]; have := HW.out.1.l; omega⟩
      have X := Begin_ts s
      rw [HE.out.1, HE.out.2.1] at X
      have HX := Lib.hid X
      clear X s
      go_wp2_with fail
      refine HX.out.mono ?_
      clear HX
      rintro e w4 ⟨rfl, s⟩
      have X := Begin_ts s
      rw [HE.out.2.2.1, HE.out.2.2.2] at X
      have HX := Lib.hid X
      clear X s
      go_wp2_with fail
      refine HX.out.mono ?_
      clear HX
      rintro e w5 ⟨rfl, s⟩
      have tne : (T.next == T.next + 1) = false := by simp; omega
      generalize hnT : T.next = nT at *
      have HNT := Lib.hid hnT
      clear hnT
      go_upto_if 105 with fail
      go_cut [13, 15] (fun s13 s15 wx => ∃ a b, s13 = .int .i64 a ∧ s15 = .int .i64 b ∧ Hid ((a = nT ∧ b = nT + 1) ∨ (b = nT ∧ a = nT + 1)) ∧ TSt w wx g (begT (begT T)))
      case first =>
        cases sw
        · go_wp2_with fail
          go_meet
          exact ⟨_, _, rfl, rfl, Lib.hid (.inl ⟨rfl, rfl⟩), s⟩
        · go_wp2_with fail
          go_meet
          exact ⟨_, _, rfl, rfl, Lib.hid (.inr ⟨rfl, rfl⟩), s⟩
      case rest =>
        clear s HE
        obtain ⟨a, b, rfl, rfl, HAB, s⟩ := hcut
        have HT := Lib.hid (HTP.out a b HAB.out)
        have ba : 1 ≤ a ∧ a ≤ 1000 := by have := HAB.out; omega
        have bb : 1 ≤ b ∧ b ≤ 1000 := by have := HAB.out; omega
        obtain ⟨ba1, ba2⟩ := ba
        obtain ⟨bb1, bb2⟩ := bb
        clear HTP HAB
        have hcn : 1 ≤ nT + 2 ∧ nT + 2 ≤ 1000 := by omega
        obtain ⟨cn1, cn2⟩ := hcn
        clear tne
        have HT_n3' := HT.out.n3
        rw [HNT.out] at HT_n3'
        have HT_n3 := Lib.hid HT_n3'
        clear HT_n3'
        have HT_v4' := HT.out.v4
        rw [HNT.out] at HT_v4'
        have HT_v4 := Lib.hid HT_v4'
        clear HT_v4'
        have HT_c5' := HT.out.c5
        rw [HNT.out] at HT_c5'
        have HT_c5 := Lib.hid HT_c5'
        clear HT_c5'
        have HT_c6' := HT.out.c6
        rw [HNT.out] at HT_c6'
        have HT_c6 := Lib.hid HT_c6'
        clear HT_c6'
        have HT_v5' := HT.out.v5
        rw [HNT.out] at HT_v5'
        have HT_v5 := Lib.hid HT_v5'
        clear HT_v5'
        have X := Visible_ts a b s (by omega) (by omega) (by omega) (by omega)
        rw [HT.out.v1] at X
        have HX := Lib.hid X
        clear X s
        go_wp2_with fail
        refine HX.out.mono ?_
        clear HX
        rintro e v0 ⟨rfl, s⟩
        have X := Visible_ts b a s (by omega) (by omega) (by omega) (by omega)
        rw [HT.out.v2] at X
        have HX := Lib.hid X
        clear X s
        go_wp2_with fail
        refine HX.out.mono ?_
        clear HX
        rintro e v1 ⟨rfl, s⟩
        have X := Conflict_ts a b s (by omega) (by omega) (by omega) (by omega)
        rw [HT.out.c1] at X
        have HX := Lib.hid X
        clear X s
        go_wp2_with fail
        refine HX.out.mono ?_
        clear HX
        rintro e v2 ⟨rfl, s⟩
        have X := Conflict_ts b a s (by omega) (by omega) (by omega) (by omega)
        rw [HT.out.c2] at X
        have HX := Lib.hid X
        clear X s
        go_wp2_with fail
        refine HX.out.mono ?_
        clear HX
        rintro e v3 ⟨rfl, s⟩
        have X := Conflict_ts a a s (by omega) (by omega) (by omega) (by omega)
        rw [HT.out.c3] at X
        have HX := Lib.hid X
        clear X s
        go_wp2_with fail
        refine HX.out.mono ?_
        clear HX
        rintro e v4 ⟨rfl, s⟩
        have X := Commit_ts a s (by omega) (by omega) HLA.out.1 HLA.out.2
        rw [HT.out.k1] at X
        have HX := Lib.hid X
        clear X s
        go_wp2_with fail
        refine HX.out.mono ?_
        clear HX
        rintro e v5 ⟨rfl, s⟩
        have X := Visible_ts b a s (by omega) (by omega) (by omega) (by omega)
        rw [HT.out.v3] at X
        have HX := Lib.hid X
        clear X s
        go_wp2_with fail
        refine HX.out.mono ?_
        clear HX
        rintro e v6 ⟨rfl, s⟩
        have X := Conflict_ts b a s (by omega) (by omega) (by omega) (by omega)
        rw [HT.out.c4] at X
        have HX := Lib.hid X
        clear X s
        go_wp2_with fail
        refine HX.out.mono ?_
        clear HX
        rintro e v7 ⟨rfl, s⟩
        have X := Begin_ts s
        rw [HT_n3.out, HT.out.b3] at X
        have HX := Lib.hid X
        clear X s
        go_wp2_with fail
        refine HX.out.mono ?_
        clear HX
        rintro e v8 ⟨rfl, s⟩
        have X := Visible_ts (nT + 2) a s (by omega) (by omega) (by omega) (by omega)
        rw [HT_v4.out] at X
        have HX := Lib.hid X
        clear X s
        go_wp2_with fail
        refine HX.out.mono ?_
        clear HX
        rintro e v9 ⟨rfl, s⟩
        have X := Conflict_ts (nT + 2) a s (by omega) (by omega) (by omega) (by omega)
        rw [HT_c5.out] at X
        have HX := Lib.hid X
        clear X s
        go_wp2_with fail
        refine HX.out.mono ?_
        clear HX
        rintro e v10 ⟨rfl, s⟩
        have X := ToAll_ts a s (by omega) (by omega)
        rw [HT.out.t1] at X
        have HX := Lib.hid X
        clear X s
        go_wp2_with fail
        refine HX.out.mono ?_
        clear HX
        rintro e v11 ⟨rfl, s⟩
        have X := Abort_ts b s (by omega) (by omega)
        rw [HT.out.k2] at X
        have HX := Lib.hid X
        clear X s
        go_wp2_with fail
        refine HX.out.mono ?_
        clear HX
        rintro e v12 ⟨rfl, s⟩
        have X := Conflict_ts (nT + 2) b s (by omega) (by omega) (by omega) (by omega)
        rw [HT_c6.out] at X
        have HX := Lib.hid X
        clear X s
        go_wp2_with fail
        refine HX.out.mono ?_
        clear HX
        rintro e v13 ⟨rfl, s⟩
        have X := Visible_ts (nT + 2) b s (by omega) (by omega) (by omega) (by omega)
        rw [HT_v5.out] at X
        have HX := Lib.hid X
        clear X s
        go_wp2_with fail
        refine HX.out.mono ?_
        clear HX
        rintro e v14 ⟨rfl, s⟩
        go_wp2_with fail
        refine (awake14_any _).mono ?_
        rintro e z1 ⟨rfl, hz⟩
        go_wp2_with fail
        go_ret
        exact ⟨rfl, gr_trans s.1 hz⟩

end Go.Proofs.Ytjopobkcijkpmaa
