/-
  The walk of DiskSynced.
-/
import Derived.Test.YtjopobkcijkpmaaDsE
import Derived.Deep.CutBlock
import Derived.Deep.DeepCutAuto
import Derived.Deep.RegionHeld3
namespace Go.Proofs.Ytjopobkcijkpmaa
open Go.RowKit

/-- The rows behind a sync, as far as they are cut. -/
def cutM (bs : List (List UInt8)) (ps : List (Nat × List UInt8)) (may : Nat → List (List UInt8)) (j b : Nat) : List (List UInt8) := if b < j then [lastL bs ps b] else may b
theorem cutM_step (bs : List (List UInt8)) (ps : List (Nat × List UInt8)) (may : Nat → List (List UInt8)) (j : Nat) : (fun b => if b = j then [lastL bs ps j] else cutM bs ps may j b) = cutM bs ps may (j + 1) := by
  funext b
  unfold cutM
  by_cases e : b = j
  · subst e
    rw [if_pos rfl, if_pos (by omega)]
  · rw [if_neg e]
    by_cases h : b < j
    · rw [if_pos h, if_pos (by omega)]
    · rw [if_neg h, if_neg (by omega)]
theorem SY.cutRow {w wr : World} {g : Nat} {D : DiskS} {cb : Nat} {K : Option Addr} {nk ck : Nat} {torn cut : Int} {mb : Nat} {vs : Nat → Value} {bs : List (List UInt8)} {ps : List (Nat × List UInt8)} {may : Nat → List (List UInt8)} {j : Nat} (sy : SY w wr g D cb K nk ck torn cut mb vs (cutM bs ps may j)) (hj : j < 4) {cu : Nat} {t2 : Int} (HM : MayI t2 cu bs ps may) :
    ∃ m q o c, vs j = .slice (some ⟨q, o, none⟩) (m + 1) c ∧ m + 1 ≤ c ∧ c ≤ maxLen ∧ MB wr mb vs ∧ SY w (wr.setCell ⟨mb, j, none⟩ (.slice (some ⟨q, o + m, none⟩) 1 (c - m))) g D cb K nk ck torn cut mb (fun i => if i = j then .slice (some ⟨q, o + m, none⟩) 1 (c - m) else vs i) (cutM bs ps may (j + 1)) := by
  obtain ⟨us, r1, r2⟩ := sy.ms.row j hj
  have e1 : cutM bs ps may j j = may j := by unfold cutM; rw [if_neg (by omega)]
  rw [e1] at r1 r2
  obtain ⟨pre, hl⟩ := HM.la j hj
  have hlen : (may j).length = pre.length + 1 := by rw [hl]; simp
  rw [hlen] at r1
  obtain ⟨q, o, c, u, hv, _, _⟩ := r1.at_ (k := pre.length) (by omega)
  have hf := r1.form
  obtain ⟨A', c', e', h1, h2⟩ := hf
  rw [hv] at e' r1
  injection e' with _ _ e3
  subst e3
  have r3 := r1.cut (k := pre.length) (by omega)
  rw [show pre.length + 1 - pre.length = 1 from by omega] at r3
  have hd : (may j).drop pre.length = [lastL bs ps j] := by rw [hl]; simp
  have r4 := r2.drop pre.length
  rw [hd] at r4
  have hg : wr.grownBy wr (vs j).ownBlock := ⟨rfl, rfl, rfl, Nat.le_refl _, fun _ _ _ => rfl⟩
  obtain ⟨y1, y2⟩ := sy.push hj hg (ls' := [lastL bs ps j]) (us' := us.drop pre.length) r3 r4 (.inl (by rw [hv]; rfl))
  rw [cutM_step] at y2
  exact ⟨pre.length, q, o, c, hv, h1, h2, y1, y2⟩

theorem SY.drew {w wr : World} {g : Nat} {D : DiskS} {cb : Nat} {K : Option Addr} {nk ck : Nat} {torn cut : Int} {mb : Nat} {vs : Nat → Value} {may : Nat → List (List UInt8)} (sy : SY w wr g D cb K nk ck torn cut mb vs may) : SY w wr.drew g D cb K nk ck torn cut mb vs may := sy.below (gr_drewN (gr_refl _) 1)

/-- The rows at the beginning. -/
def may0 (k j : Nat) : List (List UInt8) := if j < k then [zer] else []
theorem may0_step (k : Nat) : (fun j => if j = k then [zer] else may0 k j) = may0 (k + 1) := by
  funext j
  unfold may0
  by_cases e : j = k
  · rw [if_pos e, if_pos (by omega)]
  · rw [if_neg e]
    by_cases h : j < k
    · rw [if_pos h, if_pos (by omega)]
    · rw [if_neg h, if_neg (by omega)]
theorem Mays.congr {w0 w : World} {mb : Nat} {vs : Nat → Value} {may may' : Nat → List (List UInt8)} (h : Mays w0 w mb vs may) (he : ∀ b, b < 4 → may b = may' b) : Mays w0 w mb vs may' :=
  ⟨h.vr, fun b hb => by rw [← he b hb]; exact h.row b hb, h.ap, h.mw⟩
theorem SY.congr {w0 w : World} {g : Nat} {D : DiskS} {cb : Nat} {K : Option Addr} {nk ck : Nat} {torn cut : Int} {mb : Nat} {vs : Nat → Value} {may may' : Nat → List (List UInt8)} (h : SY w0 w g D cb K nk ck torn cut mb vs may) (he : ∀ b, b < 4 → may b = may' b) : SY w0 w g D cb K nk ck torn cut mb vs may' := ⟨h.dq, h.ms.congr he, h.cx, h.cw⟩

theorem zer_ob (w : World) : OB (w.alloc (.cells (zeroB 4096) 5)) 0 (.slice (some ⟨w.heap.size, 0, none⟩) 4096 4096) zer := by
  have h := (BB.zero w 4096).own (base := 0) (Nat.zero_le _) (by rw [List.length_replicate]; simp only [maxLen]; omega)
  unfold zer
  rw [List.length_replicate] at h
  exact h
theorem row_one {w : World} {B : Nat} (u : Value) (hB : B ≤ w.heap.size) : OR (w.alloc (.cells #[u] 33)) B 33 (.slice (some ⟨w.heap.size, 0, none⟩) 1 1) 1 [u] :=
  ⟨rfl, .inr ⟨_, 0, 1, _, rfl, hB, heap_alloc_new w _, Nat.le_refl _, by simp only [maxLen]; omega, by simp, rfl⟩⟩
theorem SY.first {w wr : World} {g : Nat} {D : DiskS} {cb : Nat} {K : Option Addr} {nk ck : Nat} {torn cut : Int} {mb : Nat} {vs : Nat → Value} {k : Nat} (sy : SY w wr g D cb K nk ck torn cut mb vs (may0 k)) (hk : k < 4) :
    MB ((wr.alloc (.cells (zeroB 4096) 5)).alloc (.cells #[.slice (some ⟨wr.heap.size, 0, none⟩) 4096 4096] 33)) mb vs ∧ SY w (((wr.alloc (.cells (zeroB 4096) 5)).alloc (.cells #[.slice (some ⟨wr.heap.size, 0, none⟩) 4096 4096] 33)).setCell ⟨mb, k, none⟩ (.slice (some ⟨wr.heap.size + 1, 0, none⟩) 1 1)) g D cb K nk ck torn cut mb (fun j => if j = k then .slice (some ⟨wr.heap.size + 1, 0, none⟩) 1 1 else vs j) (may0 (k + 1)) := by
  have hob := zer_ob wr
  have hbA := gr_alloc (gr_refl wr) (.cells (zeroB 4096) 5)
  have syA := sy.below hbA
  have hsz : (wr.alloc (.cells (zeroB 4096) 5)).heap.size = wr.heap.size + 1 := World.size_alloc _ _
  have hws := syA.dq.1.size
  clear hbA sy
  rw [← may0_step, ← hsz]
  generalize wr.alloc (.cells (zeroB 4096) 5) = wA at *
  have hzl := zer_len
  generalize zer = zl at *
  have hg : wA.grownBy (wA.alloc (.cells #[.slice (some ⟨wr.heap.size, 0, none⟩) 4096 4096] 33)) (vs k).ownBlock := by
    have h := gr_alloc (gr_refl wA) (.cells #[.slice (some ⟨wr.heap.size, 0, none⟩) 4096 4096] 33)
    exact ⟨h.os, h.tape, h.output, h.size, fun j hj _ => h.block j hj⟩
  exact syA.push hk hg (ls' := [zl]) (row_one _ hws) (UL.one hzl hob) (.inr rfl)

set_option maxRecDepth 100000 in
set_option maxHeartbeats 16000000 in
theorem DiskSynced_any (A : Option Addr) (n c : Nat) (l : List Int) (K : Option Addr) (nk ck : Nat) (keep : List Bool) (torn cut : Int) (w : World) (ha : IR w A n l) (hK : LR w K nk keep) (hnk : nk ≤ 9223372036854775807) (_ht1 : -9223372036854775808 ≤ torn) (_ht2 : torn ≤ 9223372036854775807) :
    Calls Try.prog 3 #[.slice A n c, .agg #[.slice K nk ck, .int .i64 torn, .int .i64 cut]] w fun e w' => e = .returned (.bool true) ∧ Below w.heap.size w w' := by
  obtain ⟨i0, hi0, hz0, hz1, hz2⟩ := info_parts info_bytes
  obtain ⟨i1, hi1, hy0, hy1, hy2⟩ := info_parts info_u8
  obtain ⟨cu, hcu, hcu2⟩ : ∃ cu : Nat, cut % 4097 = cu ∧ cu ≤ 4096 := ⟨(cut % 4097).toNat, by omega, by omega⟩
  have X := fun W => Pick_any cut 4097 W (by omega) (by omega)
  rw [hcu] at X
  have HPC := Lib.hid X
  have mk := run_mk_bytes 4096 (by omega) 4096 rfl
  have hb0 := gr_alloc (gr_refl w) (.cells #[.slice K nk ck, .int .i64 torn, .int .i64 (cu : Int)] 25)
  have HB0 := Lib.hid hb0
  have HCX : Hid (CB (w.alloc (.cells #[.slice K nk ck, .int .i64 torn, .int .i64 (cu : Int)] 25)) w.heap.size K nk ck torn (cu : Int)) := Lib.hid (heap_alloc_new w _)
  have HN := Lib.hid (New_any 4 (w.alloc (.cells #[.slice K nk ck, .int .i64 torn, .int .i64 (cu : Int)] 25)) (by omega) (by omega))
  have HLR := Lib.hid (fun (W : World) (hW : Below w.heap.size w W) => (show LR W K nk keep from Rd.below hK hW))
  clear X hcu hb0
  go_enter Try.func3, Try.ntmps3
  go_wp2_with fail
  refine (HPC.out _).mono ?_
  rintro e w' ⟨rfl, rfl⟩
  clear HPC
  go_wp2_with fail
  generalize w.alloc (.cells #[.slice K nk ck, .int .i64 torn, .int .i64 (cu : Int)] 25) = W at *
  refine HN.out.mono ?_
  rintro e w2 ⟨g, F, rfl, hd2, hb2⟩
  have hs2 : St w w2 g (newD 4) := ⟨gr_trans HB0.out hb2, F, (hd2.mono (fun _ _ h => h.elim)).lower HB0.out.size⟩
  have cx2 := HCX.out.below hb2
  have hcl : w.heap.size < w2.heap.size := cx2.lt
  have sy3 : SY w (w2.alloc (.cells #[.slice none 0 0, .slice none 0 0, .slice none 0 0, .slice none 0 0] 32)) g (newD 4) w.heap.size K nk ck torn (cu : Int) w2.heap.size (fun _ => .slice none 0 0) (may0 0) := by
    have hb3 := gr_alloc (gr_refl w2) (.cells #[.slice none 0 0, .slice none 0 0, .slice none 0 0, .slice none 0 0] 32)
    obtain ⟨q1, F, q2⟩ := hs2
    refine ⟨⟨gr_trans q1 hb3, F, q2.below hb3, fun k hk => ?_⟩, ⟨heap_alloc_new w2 _, fun b hb => ⟨[], OR.nil_ _ _ _, rfl, fun i u l hu => by simp at hu⟩, fun b _ c _ _ k e => by simp [Value.ownBlock] at e, q1.size⟩, cx2.below hb3, Nat.le_refl _⟩
    rcases hk with rfl | rfl | ⟨b, _, e⟩
    · refine ⟨fun hf => q2.foot_for _ _ _ _ ⟨by decide, by decide, by decide⟩ hf cx2, by rw [World.size_alloc]; omega⟩
    · exact ⟨fun hf => by have := (q2.foot_lt _ hf).2; omega, by rw [World.size_alloc]; omega⟩
    · simp [Value.ownBlock] at e
  clear hs2 cx2 hd2 hb2 HN HCX
  go_wp2_with fail
  generalize w2.alloc (.cells #[.slice none 0 0, .slice none 0 0, .slice none 0 0, .slice none 0 0] 32) = w3 at *
  generalize w2.heap.size = mb at *
  generalize hcb : w.heap.size = cb at sy3 ⊢
  have HCB := Lib.hid hcb
  clear hcb hcl
  go_loopw [8] (fun i wr => ∃ (k : Nat) (vs : Nat → Value), k ≤ 4 ∧ i = .int .i64 k ∧ SY w wr g (newD 4) cb K nk ck torn (cu : Int) mb vs (may0 k)) (fun i _ => 4 - (intOf i).toNat)
  case atStart => exact ⟨0, _, by omega, rfl, sy3⟩
  case round =>
    clear sy3
    obtain ⟨k, vs, hk, rfl, sy⟩ := hrel
    by_cases hlt : k < 4
    · have t1 : decide ((k : Int) < 4) = true := by simp; omega
      have j0 : (0 : Int) ≤ (k : Int) := Int.natCast_nonneg _
      have j1 : (k : Int) < 4 := by omega
      obtain ⟨mb2, sy2⟩ := sy.first hlt
      have y0 := mb2.cell hlt
      have z0 := mb2.frozen k
      have HSY := Lib.hid sy2
      clear mb2 sy2 sy
      go_wp2_with fail
      go_roundw
      case rel => exact ⟨k + 1, _, by omega, by go_num, HSY.out⟩
      case measure => simp [intOf]; omega
    · have t1 : decide ((k : Int) < 4) = false := by simp; omega
      have sy4 : SY w wr g (calmD (List.replicate 4 zer) []) cb K nk ck torn (cu : Int) mb vs (fun _ => [zer]) := by
        rw [← newD_calm]
        exact sy.congr (fun b hb => by unfold may0; rw [if_pos (by omega)])
      have HM0 := Lib.hid (MayI.new torn cu)
      have HL0 : Hid (∀ b : Nat, b < 4 → ((fun _ : Nat => [zer]) b).length + 1 ≤ 2 ^ (0 + 1)) := Lib.hid (fun b _ => by simp)
      generalize (fun _ : Nat => [zer]) = may1 at *
      generalize List.replicate 4 zer = bs0 at *
      clear sy hlt hk
      go_wp2_with fail
      clear t1
      generalize k = k4 at *
      go_loopw [9, 10, 11, 12, 13, 14, 15] (fun ns i _ _ _ _ _ wr => ∃ (k : Nat) (bs : List (List UInt8)) (ps : List (Nat × List UInt8)) (vs : Nat → Value) (may : Nat → List (List UInt8)), k ≤ n ∧ k ≤ 30 ∧ i = .int .i64 k ∧ ns = .int .i64 (ps.length : Int) ∧ ps.length ≤ k ∧ Hid (MayI torn cu bs ps may) ∧ Hid (∀ b : Nat, b < 4 → (may b).length + 1 ≤ 2 ^ (k + 1)) ∧ SY w wr g (calmD bs ps) cb K nk ck torn (cu : Int) mb vs may) (fun _ i _ _ _ _ _ _ => 30 - (intOf i).toNat)
      case atStart => exact ⟨0, bs0, [], vs, may1, by omega, by omega, rfl, rfl, by simp, HM0, HL0, sy4⟩
      case round =>
        clear sy4 HM0 HL0
        obtain ⟨k, bs, ps, vs2, may, hkn, hk30, rfl, rfl, hpk, HM, HL, sy⟩ := hrel
        have hpl : (calmD bs ps).pending.length ≤ 1000000 := by show ps.length ≤ 1000000; omega
        by_cases hlt : k < n ∧ k < 30
        · have t1 : decide ((k : Int) < (n : Int)) = true := by simp; omega
          have t2 : decide (k < n) = true := by simp; omega
          have t3 : decide ((k : Int) < 30) = true := by simp; omega
          obtain ⟨gw, ow, rfl, hcw⟩ := ha.at_ (k := k) hlt.1
          generalize l.getD k 0 = x at *
          have HKeep := Lib.hid (fun (W : World) (hW : Below w.heap.size w W) => (keep_of_below hW hcw : W.cell? ⟨gw, ow + k, none⟩ = some (.int .i64 x)))
          have hc0 := HKeep.out wr sy.dq.1
          have i0' : (0 : Int) ≤ (k : Int) := Int.natCast_nonneg _
          have i1' : (k : Int) < (n : Int) := by omega
          have HP := Lib.hid (Pick_any x 11)
          obtain ⟨hlt1, hlt2⟩ := hlt
          clear hcw
          by_cases hx : x % 11 = 0
          · have hx1 : (x % 11 == 0) = true := beq_iff_eq.2 hx
            have X := Sync_dq sy.dq hpl
            rw [opC_calm, syncD_calm] at X
            have HX := Lib.hid X
            clear X hx
            go_wp2_with fail
            refine (HP.out wr (by omega) (by omega)).mono ?_
            rintro e w' ⟨rfl, rfl⟩
            go_wp2_with fail
            refine HX.out.mono ?_
            rintro e w5 ⟨rfl, d5, o5, k5⟩
            have sy5 := sy.called d5 o5 k5
            clear sy HX HP d5 o5 k5 hc0 HKeep HL
            go_wp2_with fail
            go_loopw [11] (fun b wb => ∃ (j : Nat) (vb : Nat → Value), j ≤ 4 ∧ b = .int .i64 j ∧ SY w wb g (calmD (carry bs ps) []) cb K nk ck torn (cu : Int) mb vb (cutM bs ps may j)) (fun b _ => 4 - (intOf b).toNat)
            case atStart => exact ⟨0, vs2, by omega, rfl, sy5.congr (fun b _ => by unfold cutM; rw [if_neg (by omega)])⟩
            case round =>
              clear sy5
              obtain ⟨j, vb, hj4, rfl, sy6⟩ := hrel
              by_cases hj : j < 4
              · have t1 : decide ((j : Int) < 4) = true := by simp; omega
                obtain ⟨m, q, o, c, hv, hmc, hcm, y1, y2⟩ := sy6.cutRow hj HM.out
                have y0 := y1.cell hj
                rw [hv] at y0
                have z0 := y1.frozen j
                have j0 : (0 : Int) ≤ (j : Int) := Int.natCast_nonneg _
                have j1 : (j : Int) < 4 := by omega
                have HSY := Lib.hid y2
                have hcut : ∀ W : World, (Instr.slice 31 (.slice (some ⟨q, o, none⟩) (m + 1) c) (some (.int .i64 (m : Int))) none none).run Try.prog W = .ok (.slice (some ⟨q, o + m, none⟩) 1 (c - m)) W := fun W => by
                  have h := run_cut_l (P := Try.prog) W 31 33 i0 Try.underlying31 hi0 1 hz1 (some ⟨q, o, none⟩) (m + 1) c (m : Int) m rfl (by omega)
                  rw [h]
                  unfold cutA
                  rw [if_neg (by omega), show m + 1 - m = 1 from by omega]
                  simp [Addr.add_lit]
                unfold maxLen at hcm
                have m0 : (0 : Int) ≤ (m : Int) := Int.natCast_nonneg _
                have m1 : (m : Int) ≤ 9223372036854775807 := by omega
                clear y1 y2 hv sy6 hmc hcm
                go_wp2_with fail
                go_region
                all_goals
                  go_wp2_with fail
                  go_roundw
                  case rel => exact ⟨j + 1, _, by omega, by go_num, HSY.out.drew⟩
                  case measure => simp [intOf]; omega
              · have t1 : decide ((j : Int) < 4) = false := by simp; omega
                have HSY := Lib.hid (sy6.congr (may' := fun b => [lastL bs ps b]) (fun b hb => by unfold cutM; rw [if_pos (by omega)]))
                clear sy6
                go_wp2_with fail
                go_roundw
                case rel => exact ⟨k + 1, carry bs ps, [], vb, _, by omega, by omega, by go_num, rfl, by simp, Lib.hid HM.out.sync, Lib.hid (fun b _ => by have := Nat.one_le_two_pow (n := k); simp [Nat.pow_succ]; omega), HSY.out⟩
                case measure => simp [intOf]; omega
          · have hx1 : (x % 11 == 0) = false := beq_eq_false_iff_ne.2 hx
            obtain ⟨bi, hbi, hbi4⟩ : ∃ bi : Nat, x % 4 = bi ∧ bi < 4 := ⟨(x % 4).toNat, by omega, by omega⟩
            have X := place_any x
            rw [hbi] at X
            have HPL := Lib.hid X
            have HCO := Lib.hid (content_any x (k : Int))
            have HBL := Lib.hid HM.out.bl
            obtain ⟨nb, hnb0⟩ : ∃ nb : Nat, (may bi).length = nb := ⟨_, rfl⟩
            have hnb := hnb0
            have hnb1 : 1 ≤ nb := by
              obtain ⟨pre, e⟩ := HM.out.la bi hbi4
              rw [← hnb0, e]
              simp
            have hnb2 : nb ≤ 2147483648 := by
              have h1 := HL.out bi hbi4
              have h2 : 2 ^ (k + 1) ≤ 2 ^ 31 := Nat.pow_le_pow_right (by omega) (by omega)
              omega
            have HNB := Lib.hid hnb
            clear hnb hnb0 X hx hbi
            go_wp2_with fail
            refine (HP.out wr (by omega) (by omega)).mono ?_
            rintro e w' ⟨rfl, rfl⟩
            go_wp2_with fail
            refine (HPL.out _).mono ?_
            rintro e w' ⟨rfl, rfl⟩
            go_wp2_with fail
            refine (HCO.out _).mono ?_
            rintro e w2 ⟨L, hL, rfl, hB, hb2⟩
            have sy2 := sy.below hb2
            generalize hq0 : wr.heap.size = q0 at *
            have hq : q0 ≤ w2.heap.size := by rw [← hq0]; exact hb2.size
            have hwq : w.heap.size ≤ q0 := by rw [← hq0]; exact sy.dq.1.size
            clear hq0
            have obw := hB.own (base := w.heap.size) hwq (by rw [hL]; simp only [maxLen]; omega)
            have ob0 := hB.own (base := 0) (Nat.zero_le _) (by rw [hL]; simp only [maxLen]; omega)
            rw [hL] at obw ob0
            have X := Write_dq (bi : Int) _ 4096 4096 L sy2.dq obw hL hpl
            rw [writeE_calm bs ps bi (by rw [HBL.out]; exact hbi4), writeD_calm bs ps bi L (by rw [HBL.out]; exact hbi4) hL] at X
            have HX := Lib.hid X
            have U2 := Lib.hid (UL.one hL ob0)
            have HS2 := Lib.hid sy2
            clear X obw ob0 sy2 sy hB hc0 hb2 HP HPL HCO hq hpl
            go_wp2_with fail
            refine HX.out.mono ?_
            rintro e w3 ⟨rfl, d3, o3, k3⟩
            have syT := HS2.out.called d3 o3 k3
            have ulT := U2.out.kb k3
            have x1 := syT.cx.c1
            have hszc := syT.dq.1.size
            clear HX HS2 U2 d3 o3 k3
            by_cases htn : (ps.length : Int) = torn
            · have t9 : ((ps.length : Int) == torn) = true := beq_iff_eq.2 htn
              have hnb := HNB.out
              have ETL := tornM_last torn may bi cu ps.length L htn
              rw [hnb] at ETL
              have HETL := Lib.hid ETL
              obtain ⟨us, r1, r2⟩ := syT.ms.row bi hbi4
              obtain ⟨qv, ov, cw, u0, hvw, hu1, hu2⟩ := r1.at_ (k := 0) (by omega)
              have y9 := syT.ms.vr.cell hbi4
              rw [hvw, hnb] at y9
              have tw0 : TW w w3 g (calmD bs (ps ++ [(bi, L)])) cb K nk ck torn (cu : Int) mb vs2 may bi cu L (vs2 bi) (.slice (some ⟨q0, 0, none⟩) 4096 4096) 0 := ⟨by rw [tornM_0]; exact syT, ⟨us, r1, r2, .inl ⟨_, _, _, hvw, hvw⟩⟩, ulT⟩
              rw [hvw, hnb] at tw0
              have HTW0 := Lib.hid tw0
              clear r1 r2 hu1 hu2 u0 hvw syT ulT tw0 htn ETL hnb
              go_wp2_with fail
              go_loopw [15] (fun j wq => ∃ (i : Nat) (vsq : Nat → Value), i ≤ nb ∧ j = .int .i64 i ∧ TW w wq g (calmD bs (ps ++ [(bi, L)])) cb K nk ck torn (cu : Int) mb vsq may bi cu L (.slice (some ⟨qv, ov, none⟩) nb cw) (.slice (some ⟨q0, 0, none⟩) 4096 4096) i) (fun j _ => nb - (intOf j).toNat)
              case atStart => exact ⟨0, vs2, by omega, rfl, HTW0.out⟩
              case round =>
                clear HTW0 y9 x1 t9
                obtain ⟨i, vsq, hin, rfl, tw⟩ := hrel
                by_cases hi : i < nb
                · have t1 : decide ((i : Int) < (nb : Int)) = true := by simp; omega
                  have t2 : decide (i < nb) = true := by simp; omega
                  have hnb := HNB.out
                  obtain ⟨us, r1, r2⟩ := tw.sy.ms.row bi hbi4
                  have hnn : (tornM may bi cu L i bi).length = nb + i := by rw [tornM_len may bi cu L i (by omega), hnb]
                  rw [hnn] at r1
                  obtain ⟨qn, on, cn, un, hvn, hu1, hu2⟩ := r1.at_ (k := 0) (by omega)
                  obtain ⟨us0, q1, q2, _⟩ := tw.wa
                  rw [hnb] at q1
                  have hul : i < us0.length := by rw [q1.1]; exact hi
                  have hml : i < (may bi).length := by rw [hnb]; exact hi
                  obtain ⟨l4, obi⟩ := q2.2 i us0[i] ((may bi).getD i []) (List.getElem?_eq_getElem hul) (by simp [List.getD, List.getElem?_eq_getElem hml])
                  obtain ⟨Ai, ci, hui, hri, hci, hcm⟩ := obi.formN l4
                  have yr := q1.cells rfl i us0[i] (List.getElem?_eq_getElem hul)
                  rw [hui] at yr
                  have yn := tw.sy.ms.vr.cell hbi4
                  rw [hvn] at yn
                  have yc := tw.sy.cx.c2
                  obtain ⟨l0, obL⟩ := tw.ul.2 0 _ _ rfl rfl
                  obtain ⟨A0, c0, e0, hr0, _, _⟩ := obL.formN l0
                  injection e0 with e01 _ e03
                  subst e01 e03
                  have hcut1 := fun W => run_cut_h (P := Try.prog) W 33 5 i1 Try.underlying33 hi1 1 hy1 (some ⟨q0, 0, none⟩) 4096 4096 (cu : Int) cu rfl hcu2
                  have hcut2 := fun W => run_cut_l (P := Try.prog) W 33 5 i1 Try.underlying33 hi1 1 hy1 Ai 4096 ci (cu : Int) cu rfl hcu2
                  have j0 : (0 : Int) ≤ (i : Int) := Int.natCast_nonneg _
                  have j1 : (i : Int) < (nb : Int) := by omega
                  have j2 : (0 : Int) ≤ (bi : Int) := Int.natCast_nonneg _
                  have j3 : (bi : Int) < 4 := by omega
                  have HTW := Lib.hid tw
                  have HR1 := Lib.hid r1
                  have HR2 := Lib.hid r2
                  have HVN := Lib.hid hvn
                  have HRI := Lib.hid hri
                  have HR0 := Lib.hid (hr0.pre hcu2)
                  have HL4 := Lib.hid l4
                  clear tw r1 r2 hvn hui hri hr0 obi obL hu1 hu2 un q1 q2 hul hnb hnn l0 l4
                  go_wp2_with fail
                  refine wp_region_lastL (by kernel_rfl) (by simp) (by kernel_rfl) (by kernel_rfl) ?_
                  simp only [List.dropLast, List.length_cons, List.length_nil]
                  refine wpAny_of_held (S := fun W => W.cell? ⟨mb, bi, none⟩ = some (.slice (some ⟨qn, on, none⟩) (nb + i) cn) ∧ W.cell? ⟨cb, 2, none⟩ = some (.int .i64 (cu : Int)) ∧ W.cell? ⟨qv, ov + i, none⟩ = some (.slice Ai 4096 ci)) _ _ _ _ ?_
                  have hHeld : wr.drew.cell? ⟨mb, bi, none⟩ = some (.slice (some ⟨qn, on, none⟩) (nb + i) cn) ∧ wr.drew.cell? ⟨cb, 2, none⟩ = some (.int .i64 (cu : Int)) ∧ wr.drew.cell? ⟨qv, ov + i, none⟩ = some (.slice Ai 4096 ci) := ⟨yn, yc, yr⟩
                  have HH0 := Lib.hid hHeld
                  refine wpAnyH_take (i := 0) (v := ?_) rfl (by kernel_rfl) (by kernel_rfl) (by kernel_rfl) (fun _ _ _ h => h) (Or.inl ⟨by rfl, ?_⟩) hHeld ?_
                  rotate_left
                  · intro W hS
                    (try dsimp only at hS)
                    obtain ⟨s1, s2, s3⟩ := hS
                    (go_simp; try with_reducible rfl)
                  try simp only [Act.put, List.setIfInBounds_toArray]
                  refine wpAnyH_take (i := 1) (v := ?_) rfl (by kernel_rfl) (by kernel_rfl) (by kernel_rfl) (fun _ _ _ h => h) (Or.inl ⟨by rfl, ?_⟩) hHeld ?_
                  rotate_left
                  · intro W hS
                    (try dsimp only at hS)
                    obtain ⟨s1, s2, s3⟩ := hS
                    (go_simp; try with_reducible rfl)
                  try simp only [Act.put]
                  refine wpAnyH_take (i := 2) (v := ?_) rfl (by kernel_rfl) (by kernel_rfl) (by kernel_rfl) (fun _ _ _ h => h) (Or.inl ⟨by rfl, ?_⟩) hHeld ?_
                  rotate_left
                  · intro W hS
                    (try dsimp only at hS)
                    obtain ⟨s1, s2, s3⟩ := hS
                    (go_simp; try with_reducible rfl)
                  try simp only [Act.put]
                  refine wpAnyH_take (i := 3) (v := ?_) rfl (by kernel_rfl) (by kernel_rfl) (by kernel_rfl) (fun _ _ _ h => h) (Or.inl ⟨by rfl, ?_⟩) hHeld ?_
                  rotate_left
                  · intro W hS
                    (try dsimp only at hS)
                    obtain ⟨s1, s2, s3⟩ := hS
                    (go_simp; try with_reducible rfl)
                  try simp only [Act.put]
                  refine wpAnyH_take (i := 4) (v := ?_) rfl (by kernel_rfl) (by kernel_rfl) (by kernel_rfl) (fun _ _ _ h => h) (Or.inl ⟨by rfl, ?_⟩) hHeld ?_
                  rotate_left
                  · intro W hS
                    (try dsimp only at hS)
                    obtain ⟨s1, s2, s3⟩ := hS
                    (go_simp; try with_reducible rfl)
                  try simp only [Act.put]
                  refine wpAnyH_take (i := 5) (v := ?_) rfl (by kernel_rfl) (by kernel_rfl) (by kernel_rfl) (fun _ _ _ h => h) (Or.inl ⟨by rfl, ?_⟩) hHeld ?_
                  rotate_left
                  · intro W hS
                    (try dsimp only at hS)
                    obtain ⟨s1, s2, s3⟩ := hS
                    (go_simp; try with_reducible rfl)
                  try simp only [Act.put]
                  refine wpAnyH_take (i := 6) (v := ?_) rfl (by kernel_rfl) (by kernel_rfl) (by kernel_rfl) (fun _ _ _ h => h) (Or.inl ⟨by rfl, ?_⟩) hHeld ?_
                  rotate_left
                  · intro W hS
                    (try dsimp only at hS)
                    obtain ⟨s1, s2, s3⟩ := hS
                    (go_simp; try with_reducible rfl)
                  try simp only [Act.put]
                  refine wpAnyH_take (i := 7) (v := ?_) rfl (by kernel_rfl) (by kernel_rfl) (by kernel_rfl) (fun _ _ _ h => h) (Or.inl ⟨by rfl, ?_⟩) hHeld ?_
                  rotate_left
                  · intro W hS
                    (try dsimp only at hS)
                    obtain ⟨s1, s2, s3⟩ := hS
                    (go_simp; try with_reducible rfl)
                  try simp only [Act.put]
                  refine wpAnyH_take (i := 9) (v := ?_) rfl (by kernel_rfl) (by kernel_rfl) (by kernel_rfl) (fun _ _ _ h => h) (Or.inl ⟨by rfl, ?_⟩) hHeld ?_
                  rotate_left
                  · intro W hS
                    (try dsimp only at hS)
                    obtain ⟨s1, s2, s3⟩ := hS
                    (go_simp; try with_reducible rfl)
                  try simp only [Act.put]
                  refine wpAnyH_take (i := 10) (v := ?_) rfl (by kernel_rfl) (by kernel_rfl) (by kernel_rfl) (fun _ _ _ h => h) (Or.inl ⟨by rfl, ?_⟩) hHeld ?_
                  rotate_left
                  · intro W hS
                    (try dsimp only at hS)
                    obtain ⟨s1, s2, s3⟩ := hS
                    (go_simp; try with_reducible rfl)
                  try simp only [Act.put]
                  refine wpAnyH_take (i := 11) (v := ?_) rfl (by kernel_rfl) (by kernel_rfl) (by kernel_rfl) (fun _ _ _ h => h) (Or.inl ⟨by rfl, ?_⟩) hHeld ?_
                  rotate_left
                  · intro W hS
                    (try dsimp only at hS)
                    obtain ⟨s1, s2, s3⟩ := hS
                    (go_simp; try with_reducible rfl)
                  try simp only [Act.put]
                  refine wpAnyH_take (i := 12) (v := ?_) rfl (by kernel_rfl) (by kernel_rfl) (by kernel_rfl) (fun _ _ _ h => h) (Or.inl ⟨by rfl, ?_⟩) hHeld ?_
                  rotate_left
                  · intro W hS
                    (try dsimp only at hS)
                    obtain ⟨s1, s2, s3⟩ := hS
                    (go_simp; try with_reducible rfl)
                  try simp only [Act.put]
                  refine wpAnyH_take (i := 13) (v := ?_) rfl (by kernel_rfl) (by kernel_rfl) (by kernel_rfl) (fun _ _ _ h => h) (Or.inl ⟨by rfl, ?_⟩) hHeld ?_
                  rotate_left
                  · intro W hS
                    (try dsimp only at hS)
                    obtain ⟨s1, s2, s3⟩ := hS
                    (go_simp; try with_reducible rfl)
                  try simp only [Act.put]
                  refine wpAnyH_take (i := 14) (v := ?_) rfl (by kernel_rfl) (by kernel_rfl) (by kernel_rfl) (fun _ _ _ h => h) (Or.inl ⟨by rfl, ?_⟩) hHeld ?_
                  rotate_left
                  · intro W hS
                    (try dsimp only at hS)
                    obtain ⟨s1, s2, s3⟩ := hS
                    (go_simp; try with_reducible rfl)
                  try simp only [Act.put]
                  refine wpAnyH_take (i := 15) (v := ?_) rfl (by kernel_rfl) (by kernel_rfl) (by kernel_rfl) (fun _ _ _ h => h) (Or.inl ⟨by rfl, ?_⟩) hHeld ?_
                  rotate_left
                  · intro W hS
                    (try dsimp only at hS)
                    obtain ⟨s1, s2, s3⟩ := hS
                    (go_simp; try with_reducible rfl)
                  try simp only [Act.put]
                  refine wpAnyH_ready (rs := [8]) (by kernel_rfl) (by simp) ?_
                  refine AllReadyH.cons rfl (fun KK hK => ?_) AllReadyH.nil
                  try simp only [List.getElem_toArray, List.getElem_cons_succ, List.getElem_cons_zero]
                  go_simp
                  have hlc : (L.take cu).length = cu := by rw [List.length_take, hL]; omega
                  refine (CopyBytes_any _ cu 4096 (L.take cu) _ HR0.out.drew (by omega)).mono ?_
                  rintro e w6 ⟨v6, rfl, ob6, hb6⟩
                  obtain ⟨A6, c6, rfl, _, _, _⟩ := ob6.formN hlc
                  dsimp only
                  refine hK.out _ _ ?_ (fun hHeld2 => ?_)
                  · exact ⟨keep_of_below hb6 hHeld.1, keep_of_below hb6 hHeld.2.1, keep_of_below hb6 hHeld.2.2⟩
                  clear hK KK hHeld
                  have hHeld := hHeld2
                  clear hHeld2
                  try simp only [Act.put, List.setIfInBounds_toArray, List.set_cons_zero, List.set_cons_succ]
                  refine wpAnyH_ready (rs := [16]) (by kernel_rfl) (by simp) ?_
                  refine AllReadyH.cons rfl (fun KK hK => ?_) AllReadyH.nil
                  try simp only [List.getElem_toArray, List.getElem_cons_succ, List.getElem_cons_zero]
                  have hld : (((may bi).getD i []).drop cu).length = 4096 - cu := by rw [List.length_drop, HL4.out]
                  have own6 : w6.ownsRow wr.drew.heap.size 5 1 (.slice A6 cu c6) cu ((L.take cu).map bv) := by
                    have h := ob6
                    unfold OB at h
                    rw [hlc] at h
                    exact h
                  have hr16 : BR w6 (cutA Ai ci cu 1) (4096 - cu) (((may bi).getD i []).drop cu) := ((HRI.out.drew).below hb6).cutEnd hcu2 hci
                  rw [if_pos (by rfl)]
                  refine wp_append_Rd _ (.tmp 112) (.tmp 119) _ rfl wr.drew.heap.size 5 i1 _ 1 1 Try.underlying33 hi1 hy0 hy1 hy2 rfl (.slice A6 cu c6) cu ((L.take cu).map bv) rfl own6 (cutA Ai ci cu 1) (4096 - cu) (ci - cu) ((((may bi).getD i []).drop cu).map bv) rfl hr16 (one_bv _) (by omega) (by simp only [maxLen]; omega) hb6.size ?_
                  intro v7 w7 hown7 hg7 _ _
                  have hb7 := below_drew (gr_own hb6 ob6 hg7)
                  have hb67 : Below wr.drew.heap.size wr.drew w7 := gr_own hb6 ob6 hg7
                  rw [show cu + (4096 - cu) = 4096 from by omega, ← List.map_append] at hown7
                  obtain ⟨A7, c7, rfl, _, _⟩ := own_form hown7
                  have hl7 : (L.take cu ++ ((may bi).getD i []).drop cu).length = 4096 := by rw [List.length_append, hlc, hld]; omega
                  have ob7 : OB w7 wr.drew.heap.size (.slice A7 4096 c7) (L.take cu ++ ((may bi).getD i []).drop cu) := by
                    unfold OB
                    rw [hl7]
                    exact hown7
                  refine hK.out _ _ ?_ (fun hHeld2 => ?_)
                  · exact ⟨keep_of_below hb67 HH0.out.1, keep_of_below hb67 HH0.out.2.1, keep_of_below hb67 HH0.out.2.2⟩
                  clear hK KK hHeld
                  have hHeld := hHeld2
                  clear hHeld2
                  try simp only [Act.put, List.setIfInBounds_toArray, List.set_cons_zero, List.set_cons_succ]
                  refine wpAnyH_ready (rs := [17]) (by kernel_rfl) (by simp) ?_
                  refine AllReadyH.cons rfl (fun KK hK => ?_) AllReadyH.nil
                  try simp only [List.getElem_toArray, List.getElem_cons_succ, List.getElem_cons_zero]
                  go_simp
                  have hb78 := gr_alloc hb67 (.cells #[.slice A7 4096 c7] 33)
                  refine hK.out _ _ ?_ (fun hHeld2 => ?_)
                  · exact ⟨keep_of_below hb78 HH0.out.1, keep_of_below hb78 HH0.out.2.1, keep_of_below hb78 HH0.out.2.2⟩
                  clear hK KK hHeld
                  have hHeld := hHeld2
                  clear hHeld2
                  try simp only [Act.put, List.setIfInBounds_toArray, List.set_cons_zero, List.set_cons_succ]
                  refine wpAnyH_ready (rs := [18]) (by kernel_rfl) (by simp) ?_
                  refine AllReadyH.cons rfl (fun KK hK => ?_) AllReadyH.nil
                  try simp only [List.getElem_toArray, List.getElem_cons_succ, List.getElem_cons_zero]
                  have hW := below_drew hb78
                  have hrow : OR (w7.alloc (.cells #[.slice A7 4096 c7] 33)) w.heap.size 33 (.slice (some ⟨qn, on, none⟩) (nb + i) cn) (nb + i) us := by
                    have h := HR1.out.below hW
                    rw [HVN.out] at h
                    exact h
                  rw [if_pos (by rfl)]
                  refine wp_append_ORs _ (.tmp 107) (.tmp 121) _ rfl w.heap.size 33 i0 _ 24 Try.underlying31 hi0 hz0 hz1 hz2 rfl ⟨qn, on, none⟩ (nb + i) cn us rfl hrow ⟨w7.heap.size, 0, none⟩ 1 1 [.slice A7 4096 c7] rfl rfl (World.news_of_block (heap_alloc_new w7 _)) (by simp [Value.oneCell']) (by simp only [maxLen]; omega) (by omega) (Nat.le_trans HTW.out.sy.dq.1.size hW.size) ?_
                  intro v8 w8 ho8 hg8 hv8
                  obtain ⟨A8, c8, rfl, _, _⟩ := ho8.form
                  obtain ⟨m8, r8, x8, tw8⟩ := HTW.out.step hml hbi4 HVN.out HR1.out HR2.out hW hl7 ((ob7.lower (Nat.zero_le _)).below (gr_alloc (gr_refl w7) _)) ho8 hg8 hv8
                  have y8 := m8.cell hbi4
                  rw [HVN.out] at y8
                  have z8 := m8.frozen bi
                  have q8 := r8 qv ov cw _ (by rw [HNB.out]) yr
                  have c8' := x8.c2
                  have HT8 := Lib.hid tw8
                  clear hv8 hg8 ho8 m8 r8 x8 tw8 hrow hW hb78 hb67 hb7 hown7 hg7 ob7 own6 hr16 hl7 hld hb6 ob6
                  refine hK.out _ _ ?_ (fun hHeld2 => ?_)
                  · exact ⟨y8, c8', q8⟩
                  clear hK KK hHeld
                  have hHeld := hHeld2
                  clear hHeld2
                  try simp only [Act.put, List.setIfInBounds_toArray, List.set_cons_zero, List.set_cons_succ]
                  refine wpAnyH_take (i := 19) (v := ?_) rfl (by kernel_rfl) (by kernel_rfl) (by kernel_rfl) (fun _ _ _ h => h) (Or.inl ⟨by rfl, ?_⟩) hHeld ?_
                  rotate_left
                  · intro W hS
                    (try dsimp only at hS)
                    obtain ⟨s1, s2, s3⟩ := hS
                    (go_simp; try with_reducible rfl)
                  try simp only [Act.put, List.setIfInBounds_toArray]
                  refine wpAnyH_done (by kernel_rfl) ?_ _
                  refine lastQ_step (o := _) rfl (fun KK hK => ?_)
                  try simp only [List.getElem_toArray, List.getElem_cons_succ, List.getElem_cons_zero]
                  go_simp
                  refine hK _ _ ?_
                  go_wp2_with fail
                  go_roundw
                  case rel => exact ⟨i + 1, _, by omega, by go_num, HT8.out⟩
                  case measure => simp [intOf]; omega
                · obtain rfl : nb = i := by omega
                  have t1 : decide ((nb : Int) < (nb : Int)) = false := by simp
                  have t2 : decide (nb < nb) = false := by simp
                  have syT := tw.sy
                  have ulT := tw.ul
                  have hnT0 : (tornM may bi cu L nb bi).length = nb + nb := by rw [tornM_len may bi cu L nb (by rw [HNB.out]; exact Nat.le_refl _), HNB.out]
                  clear tw
                  obtain ⟨us, r1, r2⟩ := syT.ms.row bi hbi4
                  have hnT : ((tornM may bi cu L nb) bi).length = (nb + nb) := hnT0
                  rw [hnT] at r1
                  obtain ⟨A9, c9, hv9, _, _⟩ := r1.form
                  have y9 := syT.ms.vr.cell hbi4
                  rw [hv9] at y9
                  have HLA := Lib.hid (syT.last hbi4 ulT hv9 r2 hnT.symm)
                  rw [hv9] at r1
                  have HOW := Lib.hid (r1.alloc (.cells #[.slice (some ⟨q0, 0, none⟩) 4096 4096] 33))
                  have hsz := syT.dq.1.size
                  have HMW := Lib.hid (HM.out.write hcu2 hbi4 hL)
                  have HLW := Lib.hid (mayW_len (torn := torn) (cu := cu) (n := ps.length) (L := L) HL.out hbi4)
                  clear r1 r2 hv9 syT ulT HM HL hnT
                  go_wp2_with (at_builtin; refine wpList_append_OR _ rfl (.tmp 127) (.tmp 129) _ rfl w.heap.size 33 i0 _ 24 Try.underlying31 hi0 hz0 hz1 hz2 rfl (.slice A9 ((nb + nb)) c9) ((nb + nb)) _ rfl HOW.out ⟨wr.heap.size, 0, none⟩ 1 1 [.slice (some ⟨q0, 0, none⟩) 4096 4096] rfl rfl (World.news_of_block (heap_alloc_new wr _)) (by simp [Value.oneCell']) (by omega) (by simp only [maxLen]; omega) (by omega) (by rw [World.size_alloc]; omega) ?_; intro v4 w4 ho4 hg4 hv4; obtain ⟨Az, cz, rfl, _, _⟩ := ho4.form; obtain ⟨m4, s4⟩ := HLA.out _ w4 ho4 hg4 hv4; have y4 := m4.cell hbi4; have z4 := m4.frozen bi; have HS4 := Lib.hid s4; clear ho4 hg4 hv4 m4 s4)
                  go_roundw
                  case rel => exact ⟨k + 1, bs, ps ++ [(bi, L)], _, _, by omega, by omega, by go_num, by rw [List.length_append]; simp, by rw [List.length_append]; simp; omega, HMW, HLW, by rw [← HETL.out]; exact HS4.out⟩
                  case measure => simp [intOf]; omega
            · have t9 : ((ps.length : Int) == torn) = false := beq_eq_false_iff_ne.2 htn
              have HTN := Lib.hid htn
              have hnb := HNB.out
              clear htn
              obtain ⟨us, r1, r2⟩ := syT.ms.row bi hbi4
              have hnT : (may bi).length = nb := hnb
              rw [hnT] at r1
              obtain ⟨A9, c9, hv9, _, _⟩ := r1.form
              have y9 := syT.ms.vr.cell hbi4
              rw [hv9] at y9
              have HLA := Lib.hid (syT.last hbi4 ulT hv9 r2 hnT.symm)
              rw [hv9] at r1
              have HOW := Lib.hid (r1.alloc (.cells #[.slice (some ⟨q0, 0, none⟩) 4096 4096] 33))
              have hsz := syT.dq.1.size
              have HMW := Lib.hid (HM.out.write hcu2 hbi4 hL)
              have HLW := Lib.hid (mayW_len (torn := torn) (cu := cu) (n := ps.length) (L := L) HL.out hbi4)
              clear r1 r2 hv9 syT ulT HM HL hnT
              go_wp2_with (at_builtin; refine wpList_append_OR _ rfl (.tmp 127) (.tmp 129) _ rfl w.heap.size 33 i0 _ 24 Try.underlying31 hi0 hz0 hz1 hz2 rfl (.slice A9 (nb) c9) (nb) _ rfl HOW.out ⟨w3.heap.size, 0, none⟩ 1 1 [.slice (some ⟨q0, 0, none⟩) 4096 4096] rfl rfl (World.news_of_block (heap_alloc_new w3 _)) (by simp [Value.oneCell']) (by omega) (by simp only [maxLen]; omega) (by omega) (by rw [World.size_alloc]; omega) ?_; intro v4 w4 ho4 hg4 hv4; obtain ⟨Az, cz, rfl, _, _⟩ := ho4.form; obtain ⟨m4, s4⟩ := HLA.out _ w4 ho4 hg4 hv4; have y4 := m4.cell hbi4; have z4 := m4.frozen bi; have HS4 := Lib.hid s4; clear ho4 hg4 hv4 m4 s4)
              go_roundw
              case rel => exact ⟨k + 1, bs, ps ++ [(bi, L)], _, _, by omega, by omega, by go_num, by rw [List.length_append]; simp, by rw [List.length_append]; simp; omega, HMW, HLW, by rw [← (plain_last torn may bi cu ps.length L HTN.out)]; exact HS4.out⟩
              case measure => simp [intOf]; omega
        · have hend : (decide ((k : Int) < (n : Int)) = false ∧ decide (k < n) = false) ∨ (decide ((k : Int) < 30) = false ∧ decide ((k : Int) < (n : Int)) = true ∧ decide (k < n) = true) := by
            rcases Nat.lt_or_ge k n with h | h
            · exact .inr ⟨by simp; omega, by simp; omega, by simp; omega⟩
            · exact .inl ⟨by simp; omega, by simp; omega⟩
          have HST := Lib.hid sy.dq.st
          have hA : ∀ ad, K = some ad → 0 < nk → ad.block < w.heap.size := fun ad e h0 => LR.blk hK e h0
          have X := Crash_dq K nk ck keep torn (cu : Int) sy.dq (HLR.out wr sy.dq.1) hA hnk hpl
          rw [crashE_in cu hcu2, crashD_in _ _ _ cu hcu2] at X
          change Calls _ _ _ _ (fun e w' => _ ∧ DSQ w w' g (calmD (crashTo keep torn cu bs ps ps.length) []) _ ∧ _ ∧ _) at X
          have HX := Lib.hid X
          have HSY := Lib.hid sy
          have hcs : (crashTo keep torn cu bs ps ps.length).length = 4 := by rw [crashTo_len, HM.out.bl]
          have HCS := Lib.hid hcs
          have HCR := Lib.hid (HM.out.cr keep)
          have HNL : Hid (∀ b, b < 4 → (may b).length ≤ 2147483648) := Lib.hid (fun b hb => by
            have h1 := HL.out b hb
            have h2 : 2 ^ (k + 1) ≤ 2 ^ 31 := Nat.pow_le_pow_right (by omega) (by omega)
            omega)
          have x0 := sy.cx.c0
          have x1 := sy.cx.c1
          have x2 := sy.cx.c2
          have HPS : Hid (Calls Try.prog 22 #[.pointer (some ⟨g, 0, none⟩)] wr fun e w' => e = .returned (.int .i64 (ps.length : Int)) ∧ wr = w') := Lib.hid (Pending_st HST.out)
          have t7 : ((ps.length : Int) != (ps.length : Int)) = false := by simp
          generalize crashTo keep torn cu bs ps ps.length = cs at *
          generalize hnp : (ps.length : Int) = np at *
          clear hnp X hcs sy HM HL hlt hA hpl hkn hk30 hpk
          rcases hend with ⟨u1, u2⟩ | ⟨u1, u2, u3⟩
          all_goals
            go_wp2_with fail
            refine HPS.out.mono ?_
            rintro e w' ⟨rfl, rfl⟩
            go_wp2_with fail
            refine HX.out.mono ?_
            rintro e w7 ⟨rfl, d7, o7, k7⟩
            have sy7 := HSY.out.called d7 o7 k7
            have HP7 := Lib.hid (Pending_st sy7.dq.st)
            rw [show ((calmD cs []).pending.length : Int) = 0 from rfl] at HP7
            clear HX HSY d7 o7 k7 HPS HST x0 x1 x2
            go_wp2_with fail
            refine HP7.out.mono ?_
            rintro e w' ⟨rfl, rfl⟩
            clear HP7
            go_wp2_with fail
            clear t7
            go_loopw [16, 17, 18, 19, 20, 21, 22] (fun b _ _ _ _ _ _ wb => ∃ b4 : Nat, b4 ≤ 4 ∧ b = .int .i64 b4 ∧ SY w wb g (calmD cs []) cb K nk ck torn (cu : Int) mb vs2 may) (fun b _ _ _ _ _ _ _ => 4 - (intOf b).toNat)
            case atStart => exact ⟨0, by omega, rfl, sy7⟩
            case round =>
              clear sy7
              obtain ⟨b, hb4, rfl, sy8⟩ := hrel
              by_cases hlt : b < 4
              · have t1 : decide ((b : Int) < 4) = true := by simp; omega
                have X := Read_st (b : Int) sy8.dq.st (by show ([] : List (Nat × List UInt8)).length ≤ 1000000; simp)
                rw [readE_calm cs [] b (by rw [HCS.out]; exact hlt), readL_calm cs [] b (by rw [HCS.out]; exact hlt), show lastL cs [] b = cs.getD b [] from rfl] at X
                have HX := Lib.hid X
                have HSY := Lib.hid sy8
                clear X sy8
                go_wp2_with fail
                refine HX.out.mono ?_
                rintro e w9 ⟨v9, rfl, ob9, _, hb9⟩
                have sy9 := HSY.out.below hb9
                have X := Durable_st (b : Int) sy9.dq.st
                rw [askE_calm cs [] b (by rw [HCS.out]; exact hlt), durL_calm cs [] b (by rw [HCS.out]; exact hlt)] at X
                have HX := Lib.hid X
                have HSY := Lib.hid sy9
                have HOB := Lib.hid ob9
                clear X sy9 ob9 hb9
                go_wp2_with fail
                refine HX.out.mono ?_
                rintro e w10 ⟨v10, rfl, ob10, _, hb10⟩
                have sy10 := HSY.out.below hb10
                have ob9 := HOB.out.below hb10
                obtain ⟨n9, hn9⟩ : ∃ n9 : Nat, (cs.getD b []).length = n9 := ⟨_, rfl⟩
                obtain ⟨A9, c9, rfl, r9, _, _⟩ := ob9.formN hn9
                obtain ⟨A10, c10, rfl, r10, _, _⟩ := ob10.formN hn9
                obtain ⟨us, q1, q2⟩ := sy10.ms.row b hlt
                obtain ⟨nb, hnb⟩ : ∃ nb : Nat, (may b).length = nb := ⟨_, rfl⟩
                have hnb2 := HNL.out b hlt
                rw [hnb] at q1 hnb2
                have HNB := Lib.hid hnb
                have hnb1 : 1 ≤ nb := by
                  have h := HCR.out b hlt
                  rw [← hnb]
                  exact List.length_pos_of_mem h
                obtain ⟨qv, ov, cv, u0, hv, hu1, hu2⟩ := q1.at_ (k := 0) (by omega)
                have y10 := sy10.ms.vr.cell hlt
                rw [hv] at y10 q1
                have HSA := Lib.hid (sameB_own _ _ _ _ ob9 ob10)
                have HSY := Lib.hid sy10
                have HQ1 := Lib.hid q1
                have HQ2 := Lib.hid q2
                have HR9 := Lib.hid r9
                have HIN := Lib.hid (HCR.out b hlt)
                clear ob9 ob10 r9 r10 q1 q2 hv hu1 hu2 u0 sy10 HX HOB hb10 hn9 hnb
                have j2 : (0 : Int) ≤ (b : Int) := Int.natCast_nonneg _
                have j3 : (b : Int) < 4 := by omega
                go_wp2_with fail
                go_loop [21, 22] (fun f i => ∃ j : Nat, j ≤ nb ∧ i = .int .i64 j ∧ f = .bool (fnd (may b) (cs.getD b []) j)) (fun _ i => nb - (intOf i).toNat)
                case atStart => exact ⟨0, by omega, rfl, rfl⟩
                case round =>
                  obtain ⟨j, hjn, rfl, rfl⟩ := hrel
                  by_cases hj : j < nb
                  · have t1 : decide ((j : Int) < (nb : Int)) = true := by simp; omega
                    have t2 : decide (j < nb) = true := by simp; omega
                    have hml : j < (may b).length := by rw [HNB.out]; exact hj
                    have FS := fnd_step (may b) (cs.getD b []) j hml
                    have hul : j < us.length := by rw [HQ1.out.1]; exact hj
                    obtain ⟨l4, obj⟩ := HQ2.out.2 j us[j] ((may b).getD j []) (List.getElem?_eq_getElem hul) (by simp [List.getD, List.getElem?_eq_getElem hml])
                    obtain ⟨Aj, cj, huj, hrj, _, _⟩ := obj.formN l4
                    have yr := HQ1.out.cells rfl j us[j] (List.getElem?_eq_getElem hul)
                    rw [huj] at yr
                    have j0 : (0 : Int) ≤ (j : Int) := Int.natCast_nonneg _
                    have j1 : (j : Int) < (nb : Int) := by omega
                    have HSB := Lib.hid (SameBytes_any A9 Aj n9 4096 c9 cj _ _ _ HR9.out hrj)
                    clear obj huj hrj hul l4
                    cases hf : fnd (may b) (cs.getD b []) j with
                    | true =>
                      have HFS : Hid (fnd (may b) (cs.getD b []) (j + 1) = true) := Lib.hid (by rw [FS, hf]; rfl)
                      clear FS hf
                      go_wp2_with fail
                      go_round
                      case rel => exact ⟨j + 1, by omega, by go_num, by rw [HFS.out]⟩
                      case measure => simp [intOf]; omega
                    | false =>
                      have HFS : Hid (fnd (may b) (cs.getD b []) (j + 1) = (cs.getD b [] == (may b).getD j [])) := Lib.hid (by rw [FS, hf]; rfl)
                      clear FS hf
                      generalize (cs.getD b [] == (may b).getD j []) = bx at *
                      go_wp2_with fail
                      refine HSB.out.mono ?_
                      rintro e w' ⟨rfl, rfl⟩
                      go_wp2_with fail
                      go_round
                      case rel => exact ⟨j + 1, by omega, by go_num, by rw [HFS.out]⟩
                      case measure => simp [intOf]; omega
                  · obtain rfl : nb = j := by omega
                    have t1 : decide ((nb : Int) < (nb : Int)) = false := by simp
                    have t2 : decide (nb < nb) = false := by simp
                    have hf : fnd (may b) (cs.getD b []) nb = true := by rw [← HNB.out]; exact fnd_all _ _ HIN.out
                    rw [hf]
                    clear hf
                    go_wp2_with fail
                    refine HSA.out.mono ?_
                    rintro e w' ⟨rfl, rfl⟩
                    go_wp2_with fail
                    go_roundw
                    case rel => exact ⟨b + 1, by omega, by go_num, HSY.out⟩
                    case measure => simp [intOf]; omega
              · have t1 : decide ((b : Int) < 4) = false := by simp; omega
                have HB8 := Lib.hid sy8.dq.1
                clear sy8
                go_wp2_with fail
                refine (awake03_any _).mono ?_
                rintro e w9 ⟨rfl, hb9⟩
                go_wp2
                go_ret
                exact ⟨rfl, gr_trans HB8.out hb9⟩

end Go.Proofs.Ytjopobkcijkpmaa
