/-
  The walk of PoolTells.
-/
import Derived.Test.YtmdgnjmhbjdlmaaPkA6
namespace Go.Proofs.Ytmdgnjmhbjdlmaa
open Go Go.RowKit

theorem PJ.set_now {w0 w : World} {gd gp gn j : Nat} {D : DiskS} {P : PoS} {S : Nat → Prop} (h : PJ w0 w gd gp .nilFunc none D P S) (hn : ¬ S gn) (hw : w0.heap.size ≤ gn) (v : Value) : PJ w0 (w.setCell ⟨gn, j, none⟩ v) gd gp .nilFunc none D P S :=
  h.off (T := (· = gn)) ((Off.refl _ w).setCell _ rfl) (fun k e e2 => hn (e2 ▸ e)) (fun k e => by omega) (LogV.nil_ _ _)
theorem PJ.lens {w0 w : World} {gd gp : Nat} {wv : Value} {L : Option Int} {D : DiskS} {P : PoS} {S : Nat → Prop} (h : PJ w0 w gd gp wv L D P S) : ∀ b, b < D.blocks.length → (D.blocks.getD b []).length = 4096 := by
  obtain ⟨F, ok, tv, mb, q, hx, hs⟩ := h.ex
  exact hx.dk.lens.1
theorem sealed_cut {l : List UInt8} (h : openE l = 0) : openP l = (l.drop 8).take 4080 := by
  unfold openE at h
  unfold openP
  split at h
  · rename_i hs
    rw [if_pos hs]
  · cases h

set_option maxRecDepth 100000 in
set_option maxHeartbeats 16000000 in
theorem PoolTells_any (frames : Int) (A : Option Addr) (n c : Nat) (l : List Int) (w : World) (ha : IR w A n l) (hn : n ≤ 4611686018427387904) :
    Calls Try.prog 7 #[.int .i64 frames, .slice A n c] w fun e w' => e = .returned (.bool true) ∧ Below w.heap.size w w' := by
  obtain ⟨r, hr⟩ : ∃ r : Nat, frames % 6 = (r : Int) := ⟨(frames % 6).toNat, by have := Int.emod_nonneg frames (show (6 : Int) ≠ 0 by omega); omega⟩
  have hr6 : r < 6 := by have := Int.emod_lt_of_pos frames (show (0 : Int) < 6 by omega); omega
  have HP := Lib.hid (fun W => Pick_any frames 6 W (by omega) (by omega))
  rw [hr] at HP
  have HR := Lib.hid hr6
  have HND := Lib.hid (New_any 8 w (by omega) (by omega))
  have HA := Lib.hid ha
  clear hr ha
  go_enter Try.func7, Try.ntmps7
  go_wp2_with fail
  refine HND.out.mono ?_
  rintro e w1 ⟨gd, Fd, rfl, hd, hb1⟩
  have HD := Lib.hid hd
  have HB1 := Lib.hid hb1
  clear hd hb1 HND
  go_wp2_with fail
  refine (HP.out w1).mono ?_
  rintro e w2 ⟨rfl, rfl⟩
  have hadd : IntKind.i64.wrap (2 + (r : Int)) = 2 + (r : Int) := by rw [IntKind.wrap_i64]; omega
  have HN := Lib.hid (PNew_pj (w0 := w) (w := w1) (gd := gd) (wv := .nilFunc) (L := none) (D := newD 8) (fun _ => False) Fd 0 8 (2 + r) 1 0 HB1.out HD.out (.inl rfl) (by
    unfold mayP
    simp only [Bool.and_eq_true, decide_eq_true_eq]
    have e : (newD 8).blocks.length = 8 := List.length_replicate ..
    rw [e]
    omega) (fun _ e => e.elim) (LogV.nil_ _ _))
  rw [show ((2 + r : Nat) : Int) = 2 + (r : Int) from by omega] at HN
  go_wp2_with fail
  refine HN.out.mono ?_
  rintro e w3 ⟨gp, S3, rfl, hj3, hb3, _⟩
  have HJ3 := Lib.hid hj3
  have HT3 := Lib.hid (TI.new (2 + r) (by omega) (by omega))
  have HB3 := Lib.hid (HB1.out.trans (hb3.mono HB1.out.size))
  clear hj3 hb3 HN HD hadd
  have hmk := run_mk_nils 8 (by omega) 8 rfl
  have mk := run_mk_bytes 4080 (by omega) 4080 rfl
  go_wp2_with fail
  have HJ4 : Hid (PJ w (w3.alloc (.cells (nils 8) 26)) gd gp .nilFunc none (newD 8) (newP 0 8 (2 + r) 1 0) S3) := Lib.hid (HJ3.out.below (gr_alloc (gr_refl w3) _))
  have HM4 : Hid (NowM (w3.alloc (.cells (nils 8) 26)) w3.heap.size 0 (fun _ => zP) S3) := Lib.hid ⟨⟨nils 8, heap_alloc_new w3 _, by have := congrArg List.length (nils_toList 8); simpa using this, fun j hj => absurd hj (Nat.not_lt_zero _)⟩, fun e => by have := HJ3.out.lt e; omega, by omega⟩
  have HCNT : Hid ((newP 0 8 (2 + r) 1 0).count = 0) := Lib.hid rfl
  have HGN : Hid (w.heap.size ≤ w3.heap.size) := Lib.hid HB3.out.size
  generalize (w3.alloc (.cells (nils 8) 26)) = w4 at *
  generalize w3.heap.size = gn at *
  clear hmk HJ3
  go_loopw [10] (fun x wr => ∃ k : Nat, k ≤ 8 ∧ x = .int .i64 (k : Int) ∧ Hid (PJ w wr gd gp .nilFunc none (newD 8) (newP 0 8 (2 + r) 1 0) S3) ∧ Hid (NowM wr gn k (fun _ => zP) S3)) (fun x _ => 8 - (RowKit.intOf x).toNat)
  case atStart => exact ⟨0, by omega, rfl, HJ4, HM4⟩
  case round =>
    clear HJ4 HM4
    obtain ⟨k, hk, rfl, HJ, HM⟩ := hrel
    by_cases hlt : k < 8
    · have t1 : decide ((k : Int) < 8) = true := decide_eq_true (by omega)
      have t2 : decide (k < 8) = true := decide_eq_true hlt
      have i1 : (0 : Int) ≤ (k : Int) := Int.natCast_nonneg _
      have i2 : (k : Int) < 8 := by omega
      have hb5 : Below wr.heap.size wr (wr.alloc (.cells (zeroB 4080) 5)) := gr_alloc (gr_refl wr) _
      have HBB : Hid (BB (wr.alloc (.cells (zeroB 4080) 5)) wr.heap.size zP) := Lib.hid (BB.zero wr 4080)
      have HJ5 := Lib.hid (HJ.out.below hb5)
      have HM5 := Lib.hid (HM.out.below hb5)
      obtain ⟨v5, c5⟩ := HM5.out.any hlt
      have z5 := HM5.out.frozen k
      have HJ6 := Lib.hid (HJ5.out.set_now (j := k) HM5.out.2.1 HGN.out (.slice (some ⟨wr.heap.size, 0, none⟩) 4080 4080))
      have HM6 := Lib.hid (HM5.out.put (j := k) (k' := k + 1) hlt (by omega) (fun x hx hne => by omega) HBB.out (fun e => by have := HJ.out.lt e; omega))
      have HE : Hid (updN (fun _ => zP) k zP = fun _ => zP) := Lib.hid (updN_same rfl)
      rw [HE.out] at HM6
      clear hb5
      go_wp2_with fail
      go_roundw
      case rel => exact ⟨k + 1, by omega, by go_num, HJ6, HM6⟩
      case measure => simp [RowKit.intOf]; omega
    · have hk8 : k = 8 := by omega
      have t1 : decide ((k : Int) < 8) = false := decide_eq_false (by omega)
      have t2 : decide (k < 8) = false := decide_eq_false hlt
      have HM8 : Hid (NowM wr gn 8 (fun _ => zP) S3) := Lib.hid (by have := HM.out; rwa [hk8] at this)
      clear hk8 hlt hk HM
      have HJ5 : Hid (PJ w wr gd gp .nilFunc none (calmD (List.replicate 8 zer) []) (newP 0 8 (2 + r) 1 0) S3) := HJ
      have HT5 := HT3
      rw [show newD 8 = calmD (List.replicate 8 zer) [] from rfl] at HJ
      generalize List.replicate 8 zer = bs0 at *
      generalize newP 0 8 (2 + r) 1 0 = P0 at *
      have HC0 : Hid (P0.count = 0) := HCNT
      clear HJ HT3 mk HR HCNT
      go_wp2_with fail
      go_loopw [11] (fun x wr => ∃ (i : Nat) (bs : List (List UInt8)) (ps : List (Nat × List UInt8)) (P : PoS) (now : Nat → List UInt8) (S : Nat → Prop), i ≤ n ∧ i ≤ 100 ∧ x = .int .i64 (i : Int) ∧ Hid (PJ w wr gd gp .nilFunc none (calmD bs ps) P S) ∧ Hid (TI bs ps P now) ∧ Hid (NowM wr gn 8 now S) ∧ Hid (ps.length ≤ 300 * i ∧ P.count ≤ 300 * i)) (fun x _ => n - (RowKit.intOf x).toNat)
      case atStart => exact ⟨0, bs0, [], P0, _, S3, by omega, by omega, rfl, HJ5, HT5, HM8, Lib.hid ⟨by simp, by rw [HC0.out]; omega⟩⟩
      case round =>
        clear HJ5 HT5 HM8 HC0 t1 t2
        obtain ⟨i, bs, ps, P, now, S, hin, hi100, rfl, HJ, HT, HM, HC⟩ := hrel
        by_cases hlt : i < n ∧ i < 100
        · obtain ⟨hl1, hl2⟩ := hlt
          have t1 : decide ((i : Int) < (n : Int)) = true := decide_eq_true (by omega)
          have t1' : decide (i < n) = true := decide_eq_true hl1
          have t2 : decide ((i : Int) < 100) = true := decide_eq_true (by omega)
          have t2' : decide (i < 100) = true := decide_eq_true hl2
          have i1 : (0 : Int) ≤ (i : Int) := Int.natCast_nonneg _
          have i2 : (i : Int) < (n : Int) := by omega
          obtain ⟨g, o, hA, hcc⟩ := IR.at_ (HA.out.below HJ.out.bel) hl1
          subst hA
          generalize l.getD i 0 = x at *
          obtain ⟨m, hm⟩ : ∃ m : Nat, x % 1000003 = (m : Int) := ⟨(x % 1000003).toNat, by have := Int.emod_nonneg x (show (1000003 : Int) ≠ 0 by omega); omega⟩
          have hm3 : m < 1000003 := by have := Int.emod_lt_of_pos x (show (0 : Int) < 1000003 by omega); omega
          have HPK := Lib.hid (fun W => Pick_any x 1000003 W (by omega) (by omega))
          rw [hm] at HPK
          obtain ⟨p, hp⟩ : ∃ p, p = m % 8 := ⟨_, rfl⟩
          obtain ⟨d, hd⟩ : ∃ d, d = m / 8 := ⟨_, rfl⟩
          have hp8 : p < 8 := by omega
          have hd3 : d < 1000003 := by omega
          have e8 : ((m : Int)).tmod 8 = (p : Int) := by rw [Int.tmod_eq_emod_of_nonneg (by omega)]; omega
          have e8' : ((m : Int)).tdiv 8 = (d : Int) := by rw [Int.tdiv_eq_ediv_of_nonneg (by omega)]; omega
          have w8 : IntKind.i64.wrap (p : Int) = (p : Int) := by rw [IntKind.wrap_i64]; omega
          have w8' : IntKind.i64.wrap (d : Int) = (d : Int) := by rw [IntKind.wrap_i64]; omega
          have p1 : (0 : Int) ≤ (p : Int) := Int.natCast_nonneg _
          have p2 : (p : Int) < 8 := by omega
          have HCC := Lib.hid hcc
          have HPE := Lib.hid hp
          have HDE := Lib.hid hd
          have HM3 := Lib.hid hm3
          clear hm hp hd hm3
          obtain hr4 | hr4 | hr4 : (d % 4 = 0 ∨ d % 4 = 1) ∨ d % 4 = 2 ∨ d % 4 = 3 := by omega
          · obtain ⟨ps', P', hg, hgl, ht, _⟩ := HT.out.get hp8
            have HGP := Lib.hid (getR_pend none (calmD bs ps) P (p : Int))
            have HG := Lib.hid (Get_pj HJ.out (p : Int) (by show ps.length ≤ _; have := HC.out; omega) (by have := HC.out; omega))
            rw [hg] at HGP
            rw [hg, hgl] at HG
            dsimp only at HG
            have HC2 : Hid (ps'.length ≤ 300 * (i + 1) ∧ P'.count ≤ 300 * (i + 1)) := Lib.hid (by
              have h1 := HGP.out.1
              have h2 := HGP.out.2
              have h3 := HC.out
              have h4 : ps'.length ≤ ps.length + 1 := h1
              have h5 : P'.count ≤ P.count + 1 := h2
              omega)
            have HT2 := Lib.hid ht
            have HNL := Lib.hid (HT.out.nl p hp8)
            have HTF : Hid (∀ j, j < 2 → d % 4 = j → ((d : Int)).tmod 4 = (j : Int)) := Lib.hid (fun j _ e => by rw [Int.tmod_eq_emod_of_nonneg (by omega)]; omega)
            clear hg hgl ht HGP
            rcases hr4 with hr4 | hr4
            · have er4 : ((d : Int)).tmod 4 = 0 := HTF.out 0 (by omega) hr4
              clear hr4
              go_wp2_with fail
              refine (HPK.out wr).mono ?_
              rintro e w5 ⟨rfl, rfl⟩
              go_wp2_with fail
              refine HG.out.mono ?_
              rintro e w6 ⟨v6, S6, rfl, ob6, hj6, hmv6, _⟩
              obtain ⟨q6, c6, rfl, _, _, _, _, hbr6⟩ := ob6.at0 HNL.out (by omega)
              have HJ6 := Lib.hid hj6
              have HM6 := Lib.hid (HM.out.mv hmv6)
              obtain ⟨gk, ck, hbk⟩ := HM6.out.cell hp8
              have HSB := Lib.hid (SameBytes_any (some ⟨q6, 0, none⟩) (some ⟨gk, 0, none⟩) 4080 4080 c6 4080 (now p) (now p) w6 hbr6 (bb_br hbk HNL.out))
              rw [beq_self_eq_true] at HSB
              clear ob6 hj6 hmv6 hbr6 hbk HG
              go_wp2_with fail
              refine HSB.out.mono ?_
              rintro e w7 ⟨rfl, rfl⟩
              go_wp2_with fail
              go_roundw
              case rel => exact ⟨i + 1, bs, ps', P', now, S6, by omega, by omega, by go_num, HJ6, HT2, HM6, HC2⟩
              case measure => simp [RowKit.intOf]; omega
            · have er4 : ((d : Int)).tmod 4 = 1 := HTF.out 1 (by omega) hr4
              clear hr4
              go_wp2_with fail
              refine (HPK.out wr).mono ?_
              rintro e w5 ⟨rfl, rfl⟩
              go_wp2_with fail
              refine HG.out.mono ?_
              rintro e w6 ⟨v6, S6, rfl, ob6, hj6, hmv6, _⟩
              obtain ⟨q6, c6, rfl, _, _, _, _, hbr6⟩ := ob6.at0 HNL.out (by omega)
              have HJ6 := Lib.hid hj6
              have HM6 := Lib.hid (HM.out.mv hmv6)
              obtain ⟨gk, ck, hbk⟩ := HM6.out.cell hp8
              have HSB := Lib.hid (SameBytes_any (some ⟨q6, 0, none⟩) (some ⟨gk, 0, none⟩) 4080 4080 c6 4080 (now p) (now p) w6 hbr6 (bb_br hbk HNL.out))
              rw [beq_self_eq_true] at HSB
              clear ob6 hj6 hmv6 hbr6 hbk HG
              go_wp2_with fail
              refine HSB.out.mono ?_
              rintro e w7 ⟨rfl, rfl⟩
              go_wp2_with fail
              go_roundw
              case rel => exact ⟨i + 1, bs, ps', P', now, S6, by omega, by omega, by go_num, HJ6, HT2, HM6, HC2⟩
              case measure => simp [RowKit.intOf]; omega
          · have er4 : ((d : Int)).tmod 4 = 2 := by rw [Int.tmod_eq_emod_of_nonneg (by omega)]; omega
            clear hr4
            have HPY := Lib.hid (fun W => payload_any (m : Int) W)
            have hml : (madeL (m : Int) 4080).length = 4080 := madeL_len _ _
            generalize madeL (m : Int) 4080 = ml at *
            have HML := Lib.hid hml
            have HS0 := Lib.hid (fun lsn h1 h2 => HT.out.set_ hp8 hml (lsn := lsn) h1 h2)
            clear hml
            go_wp2_with fail
            refine (HPK.out wr).mono ?_
            rintro e w5 ⟨rfl, rfl⟩
            go_wp2_with fail
            refine (HPY.out wr).mono ?_
            rintro e w6 ⟨rfl, hB6, hb6⟩
            have HJ6 := Lib.hid (HJ.out.below hb6)
            have HM6 := Lib.hid (HM.out.below hb6)
            obtain ⟨v6, c6⟩ := HM6.out.any hp8
            have z6 := HM6.out.frozen p
            have HJ7 := Lib.hid (HJ6.out.set_now (j := p) HM6.out.2.1 (Nat.le_trans HGN.out (Nat.le_refl _)) (.slice (some ⟨wr.heap.size, 0, none⟩) 4080 4080))
            have HM7 := Lib.hid (HM6.out.put (j := p) (k' := 8) hp8 (Nat.le_refl _) (fun x hx hne => by omega) hB6 (fun e => by have := HJ.out.lt e; omega))
            clear hB6 hb6
            go_upto_region 23 with fail
            clear c6 z6
            generalize (w6.setCell ⟨gn, p, none⟩ (.slice (some ⟨wr.heap.size, 0, none⟩) 4080 4080)) = w7 at *
            obtain ⟨gk, ck, hbk⟩ := HM7.out.cell hp8
            rw [show updN now p ml p = ml by unfold updN; rw [if_pos rfl]] at hbk
            obtain ⟨ps', P', hs, ht⟩ := HS0.out (i : Int) (by omega) (by omega)
            have HSP := Lib.hid (setR_pend none (calmD bs ps) P (p : Int) ml (i : Int))
            have HS := Lib.hid (Set_pj HJ7.out (p : Int) (i : Int) (some ⟨gk, 0, none⟩) 4080 4080 ml (bb_br hbk HML.out) (by omega) (by show ps.length ≤ _; have := HC.out; omega) (by have := HC.out; omega))
            rw [hs] at HSP HS
            dsimp only at HS
            have HC2 : Hid (ps'.length ≤ 300 * (i + 1) ∧ P'.count ≤ 300 * (i + 1)) := Lib.hid (by
              have h1 := HSP.out.1
              have h2 := HSP.out.2
              have h3 := HC.out
              have h4 : ps'.length ≤ ps.length + 1 := h1
              have h5 : P'.count ≤ P.count + 1 := h2
              omega)
            have HT2 := Lib.hid ht
            clear hs ht HSP HS0 hbk
            go_wp2_with fail
            refine HS.out.mono ?_
            rintro e w8 ⟨S8, rfl, hj8, hmv8⟩
            have HJ8 := Lib.hid hj8
            have HM8 := Lib.hid (HM7.out.mv hmv8)
            clear hj8 hmv8 ck HS
            go_wp2_with fail
            go_roundw
            case rel => exact ⟨i + 1, bs, ps', P', _, S8, by omega, by omega, by go_num, HJ8, HT2, HM8, HC2⟩
            case measure => simp [RowKit.intOf]; omega
          · have er4 : ((d : Int)).tmod 4 = 3 := by rw [Int.tmod_eq_emod_of_nonneg (by omega)]; omega
            clear hr4
            by_cases hm5 : m % 5 = 0
            · have e5 : ((m : Int)).tmod 5 = 0 := by rw [Int.tmod_eq_emod_of_nonneg (by omega)]; omega
              obtain ⟨bs', P', hf, ht, _⟩ := HT.out.flush
              have HFP := Lib.hid (flushR_pend none HT.out.pi)
              have HFL := Lib.hid (Flush_pj HJ.out (by show ps.length ≤ _; have := HC.out; omega) (by have := HC.out; omega))
              rw [hf] at HFL HFP
              dsimp only at HFL
              have HC2 : Hid (([] : List (Nat × List UInt8)).length ≤ 300 * (i + 1) ∧ P'.count ≤ 300 * (i + 1)) := Lib.hid (by
                have h2 := HFP.out.2
                have h3 := HC.out
                have h5 : P'.count ≤ P.count + 256 := h2
                exact ⟨Nat.zero_le _, by omega⟩)
              have HT2 := Lib.hid ht
              clear hf ht HFP hm5
              go_wp2_with fail
              refine (HPK.out wr).mono ?_
              rintro e w5 ⟨rfl, rfl⟩
              go_wp2_with fail
              refine HFL.out.mono ?_
              rintro e w6 ⟨S6, rfl, hj6, hmv6⟩
              have HJ6 := Lib.hid hj6
              have HM6 := Lib.hid (HM.out.mv hmv6)
              clear hj6 hmv6 HFL
              go_wp2_with fail
              go_roundw
              case rel => exact ⟨i + 1, bs', [], P', now, S6, by omega, by omega, by go_num, HJ6, HT2, HM6, HC2⟩
              case measure => simp [RowKit.intOf]; omega
            · obtain ⟨z, hz⟩ : ∃ z, z = m % 5 := ⟨_, rfl⟩
              have e5 : ((m : Int)).tmod 5 = (z : Int) := by rw [Int.tmod_eq_emod_of_nonneg (by omega)]; omega
              have w5 : IntKind.i64.wrap (z : Int) = (z : Int) := by rw [IntKind.wrap_i64]; omega
              have z0 : ((z : Int) == 0) = false := beq_eq_false_iff_ne.2 (by omega)
              have z0' : ¬ z = 0 := by omega
              have HC2 : Hid (ps.length ≤ 300 * (i + 1) ∧ P.count ≤ 300 * (i + 1)) := Lib.hid (by have := HC.out; omega)
              clear hz hm5
              go_wp2_with fail
              refine (HPK.out wr).mono ?_
              rintro e w5 ⟨rfl, rfl⟩
              go_wp2_with fail
              go_roundw
              case rel => exact ⟨i + 1, bs, ps, P, now, S, by omega, by omega, by go_num, HJ, HT, HM, HC2⟩
              case measure => simp [RowKit.intOf]; omega
        · by_cases hl1 : i < n
          · have t1 : decide ((i : Int) < (n : Int)) = true := decide_eq_true (by omega)
            have t1' : decide (i < n) = true := decide_eq_true hl1
            have t2 : decide ((i : Int) < 100) = false := decide_eq_false (by omega)
            have t2' : decide (i < 100) = false := decide_eq_false (by omega)
            clear hlt hl1
            obtain ⟨bs', P', hf, ht, hcl⟩ := HT.out.flush
            have HFP := Lib.hid (flushR_pend none HT.out.pi)
            have HFL := Lib.hid (Flush_pj HJ.out (by show ps.length ≤ _; have := HC.out; omega) (by have := HC.out; omega))
            rw [hf] at HFL HFP
            dsimp only at HFL
            have HC2 : Hid (P'.count ≤ 40000) := Lib.hid (by
              have h2 := HFP.out.2
              have h3 := HC.out
              have h5 : P'.count ≤ P.count + 256 := h2
              omega)
            have HT2 := Lib.hid ht
            have HCL := Lib.hid hcl
            clear hf ht hcl HFP hin hi100
            go_wp2_with fail
            refine HFL.out.mono ?_
            rintro e w6 ⟨S6, rfl, hj6, hmv6⟩
            have HJ6 := Lib.hid hj6
            have HM6 := Lib.hid (HM.out.mv hmv6)
            have HDI := Lib.hid (Dirty_pj hj6)
            rw [clean_dirty HCL.out] at HDI
            clear hj6 hmv6 HFL
            go_wp2_with fail
            refine HDI.out.mono ?_
            intro e w7 hn7
            obtain ⟨A7, c7, rfl, _, hb7⟩ := hn7.ir
            have HJ7 := Lib.hid (HJ6.out.below hb7)
            have HM7 := Lib.hid (HM6.out.below hb7)
            have HPN : Hid (Calls Try.prog 30 #[.pointer (some ⟨gd, 0, none⟩)] w7 fun e w' => e = .returned (.int .i64 0) ∧ w7 = w') := Lib.hid (Pending_pj HJ7.out)
            clear hn7 hb7 HDI
            go_wp2_with fail
            refine HPN.out.mono ?_
            rintro e w8 ⟨rfl, rfl⟩
            go_wp2_with fail
            go_loopw [16] (fun x wr => ∃ (j : Nat) (P : PoS) (S : Nat → Prop), j ≤ 8 ∧ x = .int .i64 (j : Int) ∧ Hid (PJ w wr gd gp .nilFunc none (calmD bs' []) P S) ∧ Hid (TI bs' [] P now) ∧ Hid (Clean P) ∧ Hid (NowM wr gn 8 now S) ∧ Hid (P.count ≤ 40000 + j)) (fun x _ => 8 - (RowKit.intOf x).toNat)
            case atStart => exact ⟨0, P', S6, by omega, rfl, HJ7, HT2, HCL, HM7, HC2⟩
            case round =>
              clear HJ7 HT2 HCL HM7 HC2 HJ6 HM6 HJ HM HT HC
              obtain ⟨j, P, S, hj8, rfl, HJ, HT, HCL, HM, HC⟩ := hrel
              by_cases hjl : j < 8
              · have t3 : decide ((j : Int) < 8) = true := decide_eq_true (by omega)
                have t3' : decide (j < 8) = true := decide_eq_true hjl
                have j1 : (0 : Int) ≤ (j : Int) := Int.natCast_nonneg _
                have j2 : (j : Int) < 8 := by omega
                obtain ⟨ps', P', hg, hgl, ht, hk⟩ := HT.out.get hjl
                obtain ⟨hps, hc'⟩ := hk HCL.out
                subst hps
                have HGP := Lib.hid (getR_pend none (calmD bs' []) P (j : Int))
                have HG := Lib.hid (Get_pj HJ.out (j : Int) (Nat.zero_le _) (by have := HC.out; omega))
                rw [hg] at HGP
                rw [hg, hgl] at HG
                dsimp only at HG
                have HC2 : Hid (P'.count ≤ 40000 + (j + 1)) := Lib.hid (by
                  have h2 := HGP.out.2
                  have h3 := HC.out
                  have h5 : P'.count ≤ P.count + 1 := h2
                  omega)
                have HT2 := Lib.hid ht
                have HCL2 := Lib.hid hc'
                have HNL := Lib.hid (HT.out.nl j hjl)
                have HDUR := Lib.hid (ht.durable hc' hjl)
                have HJL := Lib.hid hjl
                clear hg hgl ht hk hc' HGP hjl
                go_wp2_with fail
                refine HG.out.mono ?_
                rintro e w6 ⟨v6, S6, rfl, ob6, hj6, hmv6, _⟩
                obtain ⟨q6, c6, rfl, _, _, _, _, hbr6⟩ := ob6.at0 HNL.out (by omega)
                have HJ6 := Lib.hid hj6
                have HM6 := Lib.hid (HM.out.mv hmv6)
                have HDU := Lib.hid (Durable_pj hj6 (j : Int))
                rw [HDUR.out.1] at HDU
                have HLN : Hid ((durL (calmD bs' []) (j : Int)).length = 4096) := Lib.hid (by
                  rw [durL_calm bs' [] j (by rw [HT2.out.n8]; exact HJL.out)]
                  exact hj6.lens j (by show j < bs'.length; rw [HT2.out.n8]; exact HJL.out))
                clear ob6 hj6 hmv6 HG
                go_wp2_with fail
                refine HDU.out.mono ?_
                rintro e w7 ⟨v7, rfl, ob7, hb7⟩
                obtain ⟨q7, c7, rfl, hq7, hqs7, hc7, hm7, hbr7⟩ := ob7.at0 (n := 4096) HLN.out (by omega)
                have HJ7 := Lib.hid (HJ6.out.below hb7)
                have HM7 := Lib.hid (HM6.out.below hb7)
                obtain ⟨gk, ck, hbk⟩ := HM7.out.cell HJL.out
                have CK := Lib.hid ck
                have HBK := Lib.hid (bb_br hbk HNL.out)
                have HB6 := Lib.hid (hbr6.below hb7)
                have HBC : Hid (BR w7 (some ⟨q7, 8, none⟩) 4080 (now j)) := Lib.hid (by
                  have := hbr7.cut (k := 8) (j := 4088) (c := c7) (by omega) (by omega) hc7
                  have e1 := HDUR.out.2.2
                  rw [sealed_cut HDUR.out.2.1] at e1
                  rw [show (4088 - 8 : Nat) = 4080 from rfl, e1] at this
                  simpa [cutA, add_plain, show ¬ c7 = 8 by omega] using this)
                obtain ⟨i0, hi0, hz0, hz1, hz2⟩ := info_parts info_u8
                have hcut := fun W => run_cut_lh (P := Try.prog) W 26 5 i0 Try.underlying26 hi0 1 hz1 (some ⟨q7, 0, none⟩) 4096 c7 8 4088 8 4088 rfl rfl (by omega) (by omega)
                have HCUT := Lib.hid hcut
                have hca : cutA (some ⟨q7, 0, none⟩) c7 8 1 = some ⟨q7, 8, none⟩ := by
                  unfold cutA
                  rw [if_neg (by omega)]
                  simp [add_plain]
                rw [hca] at HCUT
                clear hca hcut ob7 hb7 hbr6 hbr7 hbk ck hi0 hz0 hz1 hz2 HDU
                go_upto_region 35 with fail
                refine' wp_region_mono (by kernel_rfl) (by kernel_rfl) (by kernel_rfl) (by kernel_rfl) (by kernel_rfl) (by kernel_rfl)
                  [MP.is (.int .i64 0), MP.is (.int .i64 0), MP.is (.int .i64 0), MP.is (.bool false), MP.is (.bool false), MP.is (.slice (some ⟨q7, 0, none⟩) 4096 c7), MP.is (.int .i64 4096), MP.is (.bool false), MP.is (.bool false), MP.is (.bool false), MP.is (.slice (some ⟨q6, 0, none⟩) 4080 c6), MP.is (.slice (some ⟨gn, 0, none⟩) 8 8), MP.is (.int .i64 (j : Int)), MP.is (.pointer (some ⟨gn, j, none⟩)), MP.is (.slice (some ⟨gk, 0, none⟩) 4080 4080), MP.is (.bool true), MP.is (.bool false), MP.is (.bool false), MP.is (.bool false), MP.is (.slice (some ⟨q7, 0, none⟩) 4096 c7), MP.is (.slice (some ⟨q7, 8, none⟩) 4080 (c7 - 8)), MP.is (.slice (some ⟨gn, 0, none⟩) 8 8), MP.is (.int .i64 (j : Int)), MP.is (.pointer (some ⟨gn, j, none⟩)), MP.is (.slice (some ⟨gk, 0, none⟩) 4080 4080), MP.is (.bool true), MP.is (.bool false), MP.is (.bool false)] ?hAA1 ?hst1 ?hend1
                case hAA1 =>
                  intro f
                  conv => lhs; simp only [putA, dstOf, List.size_toArray, List.length_cons, List.length_nil, Nat.zero_add, Nat.reduceAdd, List.getElem?_toArray, List.getElem?_cons_zero, List.getElem?_cons_succ, Option.bind_some, Act.put, List.setIfInBounds_toArray, List.set_cons_zero, List.set_cons_succ]
                  first | done | exact rfl
                case hst1 =>
                  change Steps _ _ _ _ _ [0, 1, 2, 3, 4, 5, 6, 7, 8, 9, 10, 11, 12, 13, 14, 15, 16, 17, 18, 19, 20, 21, 22, 23, 24, 25, 26, 27]
                  refine Steps.cons rfl ?_ ?_
                  · intro f wz hB h K Q hK
                    clear h
                    try simp only [List.getElem_toArray, List.getElem_cons_zero]
                    try rw [if_pos (by rfl)]
                    go_simp
                    exact hK _ _ (gr_refl _) rfl
                  refine Steps.cons rfl ?_ ?_
                  · intro f wz hB h K Q hK
                    clear h
                    try simp only [List.getElem_toArray, List.getElem_cons_succ, List.getElem_cons_zero]
                    try rw [if_pos (by rfl)]
                    go_simp
                    exact hK _ _ (gr_refl _) rfl
                  refine Steps.cons rfl ?_ ?_
                  · intro f wz hB h K Q hK
                    have h0 : (MP.is (.int .i64 0)).p (f 0) wz := h 0 (by kernel_rfl)
                    have e0 : f 0 = (.int .i64 0) := h0
                    have h1 : (MP.is (.int .i64 0)).p (f 1) wz := h 1 (by kernel_rfl)
                    have e1 : f 1 = (.int .i64 0) := h1
                    simp only [e0, e1] at hK ⊢
                    clear e0 e1
                    clear h
                    try simp only [List.getElem_toArray, List.getElem_cons_succ, List.getElem_cons_zero]
                    try rw [if_pos (by rfl)]
                    go_simp
                    exact hK _ _ (gr_refl _) rfl
                  refine Steps.cons rfl ?_ ?_
                  · intro f wz hB h K Q hK
                    have h2 : (MP.is (.int .i64 0)).p (f 2) wz := h 2 (by kernel_rfl)
                    have e2 : f 2 = (.int .i64 0) := h2
                    simp only [e2] at hK ⊢
                    clear e2
                    clear h
                    try simp only [List.getElem_toArray, List.getElem_cons_succ, List.getElem_cons_zero]
                    try rw [if_pos (by rfl)]
                    go_simp
                    exact hK _ _ (gr_refl _) rfl
                  refine Steps.cons rfl ?_ ?_
                  · intro f wz hB h K Q hK
                    have h3 : (MP.is (.bool false)).p (f 3) wz := h 3 (by kernel_rfl)
                    have e3 : f 3 = (.bool false) := h3
                    simp only [e3] at hK ⊢
                    clear e3
                    clear h
                    try simp only [List.getElem_toArray, List.getElem_cons_succ, List.getElem_cons_zero]
                    try rw [if_pos (by rfl)]
                    go_simp
                    exact hK _ _ (gr_refl _) rfl
                  refine Steps.cons rfl ?_ ?_
                  · intro f wz hB h K Q hK
                    have h4 : (MP.is (.bool false)).p (f 4) wz := h 4 (by kernel_rfl)
                    have e4 : f 4 = (.bool false) := h4
                    simp only [e4] at hK ⊢
                    clear e4
                    clear h
                    try simp only [List.getElem_toArray, List.getElem_cons_succ, List.getElem_cons_zero]
                    try rw [if_pos (by rfl)]
                    go_simp
                    exact hK _ _ (gr_refl _) rfl
                  refine Steps.cons rfl ?_ ?_
                  · intro f wz hB h K Q hK
                    have h4 : (MP.is (.bool false)).p (f 4) wz := h 4 (by kernel_rfl)
                    have e4 : f 4 = (.bool false) := h4
                    have h5 : (MP.is (.slice (some ⟨q7, 0, none⟩) 4096 c7)).p (f 5) wz := h 5 (by kernel_rfl)
                    have e5 : f 5 = (.slice (some ⟨q7, 0, none⟩) 4096 c7) := h5
                    simp only [e4, e5] at hK ⊢
                    clear e4 e5
                    clear h
                    try simp only [List.getElem_toArray, List.getElem_cons_succ, List.getElem_cons_zero]
                    try rw [if_pos (by rfl)]
                    go_simp
                    exact hK _ _ (gr_refl _) rfl
                  refine Steps.cons rfl ?_ ?_
                  · intro f wz hB h K Q hK
                    have h4 : (MP.is (.bool false)).p (f 4) wz := h 4 (by kernel_rfl)
                    have e4 : f 4 = (.bool false) := h4
                    have h6 : (MP.is (.int .i64 4096)).p (f 6) wz := h 6 (by kernel_rfl)
                    have e6 : f 6 = (.int .i64 4096) := h6
                    simp only [e4, e6] at hK ⊢
                    clear e4 e6
                    clear h
                    try simp only [List.getElem_toArray, List.getElem_cons_succ, List.getElem_cons_zero]
                    try rw [if_pos (by rfl)]
                    go_simp
                    exact hK _ _ (gr_refl _) rfl
                  refine Steps.cons rfl ?_ ?_
                  · intro f wz hB h K Q hK
                    have h4 : (MP.is (.bool false)).p (f 4) wz := h 4 (by kernel_rfl)
                    have e4 : f 4 = (.bool false) := h4
                    have h7 : (MP.is (.bool false)).p (f 7) wz := h 7 (by kernel_rfl)
                    have e7 : f 7 = (.bool false) := h7
                    simp only [e4, e7] at hK ⊢
                    clear e4 e7
                    clear h
                    try simp only [List.getElem_toArray, List.getElem_cons_succ, List.getElem_cons_zero]
                    try rw [if_pos (by rfl)]
                    go_simp
                    exact hK _ _ (gr_refl _) rfl
                  refine Steps.cons rfl ?_ ?_
                  · intro f wz hB h K Q hK
                    have h8 : (MP.is (.bool false)).p (f 8) wz := h 8 (by kernel_rfl)
                    have e8 : f 8 = (.bool false) := h8
                    simp only [e8] at hK ⊢
                    clear e8
                    clear h
                    try simp only [List.getElem_toArray, List.getElem_cons_succ, List.getElem_cons_zero]
                    try rw [if_pos (by rfl)]
                    go_simp
                    exact hK _ _ (gr_refl _) rfl
                  refine Steps.cons rfl ?_ ?_
                  · intro f wz hB h K Q hK
                    have h9 : (MP.is (.bool false)).p (f 9) wz := h 9 (by kernel_rfl)
                    have e9 : f 9 = (.bool false) := h9
                    simp only [e9] at hK ⊢
                    clear e9
                    clear h
                    try simp only [List.getElem_toArray, List.getElem_cons_succ, List.getElem_cons_zero]
                    try rw [if_pos (by rfl)]
                    go_simp
                    exact hK _ _ (gr_refl _) rfl
                  refine Steps.cons rfl ?_ ?_
                  · intro f wz hB h K Q hK
                    have h9 : (MP.is (.bool false)).p (f 9) wz := h 9 (by kernel_rfl)
                    have e9 : f 9 = (.bool false) := h9
                    simp only [e9] at hK ⊢
                    clear e9
                    clear h
                    try simp only [List.getElem_toArray, List.getElem_cons_succ, List.getElem_cons_zero]
                    try rw [if_pos (by rfl)]
                    go_simp
                    exact hK _ _ (gr_refl _) rfl
                  refine Steps.cons rfl ?_ ?_
                  · intro f wz hB h K Q hK
                    have h9 : (MP.is (.bool false)).p (f 9) wz := h 9 (by kernel_rfl)
                    have e9 : f 9 = (.bool false) := h9
                    simp only [e9] at hK ⊢
                    clear e9
                    clear h
                    try simp only [List.getElem_toArray, List.getElem_cons_succ, List.getElem_cons_zero]
                    try rw [if_pos (by rfl)]
                    go_simp
                    exact hK _ _ (gr_refl _) rfl
                  refine Steps.cons rfl ?_ ?_
                  · intro f wz hB h K Q hK
                    have h9 : (MP.is (.bool false)).p (f 9) wz := h 9 (by kernel_rfl)
                    have e9 : f 9 = (.bool false) := h9
                    have h11 : (MP.is (.slice (some ⟨gn, 0, none⟩) 8 8)).p (f 11) wz := h 11 (by kernel_rfl)
                    have e11 : f 11 = (.slice (some ⟨gn, 0, none⟩) 8 8) := h11
                    have h12 : (MP.is (.int .i64 (j : Int))).p (f 12) wz := h 12 (by kernel_rfl)
                    have e12 : f 12 = (.int .i64 (j : Int)) := h12
                    simp only [e9, e11, e12] at hK ⊢
                    clear e9 e11 e12
                    clear h
                    try simp only [List.getElem_toArray, List.getElem_cons_succ, List.getElem_cons_zero]
                    try rw [if_pos (by rfl)]
                    go_simp
                    exact hK _ _ (gr_refl _) rfl
                  refine Steps.cons rfl ?_ ?_
                  · intro f wz hB h K Q hK
                    have h9 : (MP.is (.bool false)).p (f 9) wz := h 9 (by kernel_rfl)
                    have e9 : f 9 = (.bool false) := h9
                    have h13 : (MP.is (.pointer (some ⟨gn, j, none⟩))).p (f 13) wz := h 13 (by kernel_rfl)
                    have e13 : f 13 = (.pointer (some ⟨gn, j, none⟩)) := h13
                    simp only [e9, e13] at hK ⊢
                    clear e9 e13
                    clear h
                    try simp only [List.getElem_toArray, List.getElem_cons_succ, List.getElem_cons_zero]
                    try rw [if_pos (by rfl)]
                    have y0 := keep_of_below (bel_drew hB) CK.out
                    go_simp
                    exact hK _ _ (gr_refl _) rfl
                  refine Steps.cons rfl ?_ ?_
                  · intro f wz hB h K Q hK
                    have h9 : (MP.is (.bool false)).p (f 9) wz := h 9 (by kernel_rfl)
                    have e9 : f 9 = (.bool false) := h9
                    have h10 : (MP.is (.slice (some ⟨q6, 0, none⟩) 4080 c6)).p (f 10) wz := h 10 (by kernel_rfl)
                    have e10 : f 10 = (.slice (some ⟨q6, 0, none⟩) 4080 c6) := h10
                    have h14 : (MP.is (.slice (some ⟨gk, 0, none⟩) 4080 4080)).p (f 14) wz := h 14 (by kernel_rfl)
                    have e14 : f 14 = (.slice (some ⟨gk, 0, none⟩) 4080 4080) := h14
                    simp only [e9, e10, e14] at hK ⊢
                    clear e9 e10 e14
                    clear h
                    try simp only [List.getElem_toArray, List.getElem_cons_succ, List.getElem_cons_zero]
                    try rw [if_pos (by rfl)]
                    go_simp
                    refine (SameBytes_any _ _ _ _ _ _ (now j) (now j) wz (HB6.out.below (bel_drew hB)) (HBK.out.below (bel_drew hB))).mono ?_
                    rintro e w5 ⟨rfl, rfl⟩
                    rw [beq_self_eq_true]
                    exact hK _ _ (gr_refl _) rfl
                  refine Steps.cons rfl ?_ ?_
                  · intro f wz hB h K Q hK
                    have h9 : (MP.is (.bool false)).p (f 9) wz := h 9 (by kernel_rfl)
                    have e9 : f 9 = (.bool false) := h9
                    have h15 : (MP.is (.bool true)).p (f 15) wz := h 15 (by kernel_rfl)
                    have e15 : f 15 = (.bool true) := h15
                    simp only [e9, e15] at hK ⊢
                    clear e9 e15
                    clear h
                    try simp only [List.getElem_toArray, List.getElem_cons_succ, List.getElem_cons_zero]
                    try rw [if_pos (by rfl)]
                    go_simp
                    exact hK _ _ (gr_refl _) rfl
                  refine Steps.cons rfl ?_ ?_
                  · intro f wz hB h K Q hK
                    have h9 : (MP.is (.bool false)).p (f 9) wz := h 9 (by kernel_rfl)
                    have e9 : f 9 = (.bool false) := h9
                    have h16 : (MP.is (.bool false)).p (f 16) wz := h 16 (by kernel_rfl)
                    have e16 : f 16 = (.bool false) := h16
                    simp only [e9, e16] at hK ⊢
                    clear e9 e16
                    clear h
                    try simp only [List.getElem_toArray, List.getElem_cons_succ, List.getElem_cons_zero]
                    try rw [if_pos (by rfl)]
                    go_simp
                    exact hK _ _ (gr_refl _) rfl
                  refine Steps.cons rfl ?_ ?_
                  · intro f wz hB h K Q hK
                    have h17 : (MP.is (.bool false)).p (f 17) wz := h 17 (by kernel_rfl)
                    have e17 : f 17 = (.bool false) := h17
                    simp only [e17] at hK ⊢
                    clear e17
                    clear h
                    try simp only [List.getElem_toArray, List.getElem_cons_succ, List.getElem_cons_zero]
                    try rw [if_pos (by rfl)]
                    go_simp
                    exact hK _ _ (gr_refl _) rfl
                  refine Steps.cons rfl ?_ ?_
                  · intro f wz hB h K Q hK
                    have h18 : (MP.is (.bool false)).p (f 18) wz := h 18 (by kernel_rfl)
                    have e18 : f 18 = (.bool false) := h18
                    simp only [e18] at hK ⊢
                    clear e18
                    clear h
                    try simp only [List.getElem_toArray, List.getElem_cons_succ, List.getElem_cons_zero]
                    try rw [if_pos (by rfl)]
                    go_simp
                    exact hK _ _ (gr_refl _) rfl
                  refine Steps.cons rfl ?_ ?_
                  · intro f wz hB h K Q hK
                    have h18 : (MP.is (.bool false)).p (f 18) wz := h 18 (by kernel_rfl)
                    have e18 : f 18 = (.bool false) := h18
                    have h19 : (MP.is (.slice (some ⟨q7, 0, none⟩) 4096 c7)).p (f 19) wz := h 19 (by kernel_rfl)
                    have e19 : f 19 = (.slice (some ⟨q7, 0, none⟩) 4096 c7) := h19
                    simp only [e18, e19] at hK ⊢
                    clear e18 e19
                    clear h
                    try simp only [List.getElem_toArray, List.getElem_cons_succ, List.getElem_cons_zero]
                    try rw [if_pos (by rfl)]
                    have yc := HCUT.out
                    go_simp
                    exact hK _ _ (gr_refl _) rfl
                  refine Steps.cons rfl ?_ ?_
                  · intro f wz hB h K Q hK
                    have h18 : (MP.is (.bool false)).p (f 18) wz := h 18 (by kernel_rfl)
                    have e18 : f 18 = (.bool false) := h18
                    simp only [e18] at hK ⊢
                    clear e18
                    clear h
                    try simp only [List.getElem_toArray, List.getElem_cons_succ, List.getElem_cons_zero]
                    try rw [if_pos (by rfl)]
                    go_simp
                    exact hK _ _ (gr_refl _) rfl
                  refine Steps.cons rfl ?_ ?_
                  · intro f wz hB h K Q hK
                    have h18 : (MP.is (.bool false)).p (f 18) wz := h 18 (by kernel_rfl)
                    have e18 : f 18 = (.bool false) := h18
                    simp only [e18] at hK ⊢
                    clear e18
                    clear h
                    try simp only [List.getElem_toArray, List.getElem_cons_succ, List.getElem_cons_zero]
                    try rw [if_pos (by rfl)]
                    go_simp
                    exact hK _ _ (gr_refl _) rfl
                  refine Steps.cons rfl ?_ ?_
                  · intro f wz hB h K Q hK
                    have h18 : (MP.is (.bool false)).p (f 18) wz := h 18 (by kernel_rfl)
                    have e18 : f 18 = (.bool false) := h18
                    have h21 : (MP.is (.slice (some ⟨gn, 0, none⟩) 8 8)).p (f 21) wz := h 21 (by kernel_rfl)
                    have e21 : f 21 = (.slice (some ⟨gn, 0, none⟩) 8 8) := h21
                    have h22 : (MP.is (.int .i64 (j : Int))).p (f 22) wz := h 22 (by kernel_rfl)
                    have e22 : f 22 = (.int .i64 (j : Int)) := h22
                    simp only [e18, e21, e22] at hK ⊢
                    clear e18 e21 e22
                    clear h
                    try simp only [List.getElem_toArray, List.getElem_cons_succ, List.getElem_cons_zero]
                    try rw [if_pos (by rfl)]
                    go_simp
                    exact hK _ _ (gr_refl _) rfl
                  refine Steps.cons rfl ?_ ?_
                  · intro f wz hB h K Q hK
                    have h18 : (MP.is (.bool false)).p (f 18) wz := h 18 (by kernel_rfl)
                    have e18 : f 18 = (.bool false) := h18
                    have h23 : (MP.is (.pointer (some ⟨gn, j, none⟩))).p (f 23) wz := h 23 (by kernel_rfl)
                    have e23 : f 23 = (.pointer (some ⟨gn, j, none⟩)) := h23
                    simp only [e18, e23] at hK ⊢
                    clear e18 e23
                    clear h
                    try simp only [List.getElem_toArray, List.getElem_cons_succ, List.getElem_cons_zero]
                    try rw [if_pos (by rfl)]
                    have y0 := keep_of_below (bel_drew hB) CK.out
                    go_simp
                    exact hK _ _ (gr_refl _) rfl
                  refine Steps.cons rfl ?_ ?_
                  · intro f wz hB h K Q hK
                    have h18 : (MP.is (.bool false)).p (f 18) wz := h 18 (by kernel_rfl)
                    have e18 : f 18 = (.bool false) := h18
                    have h20 : (MP.is (.slice (some ⟨q7, 8, none⟩) 4080 (c7 - 8))).p (f 20) wz := h 20 (by kernel_rfl)
                    have e20 : f 20 = (.slice (some ⟨q7, 8, none⟩) 4080 (c7 - 8)) := h20
                    have h24 : (MP.is (.slice (some ⟨gk, 0, none⟩) 4080 4080)).p (f 24) wz := h 24 (by kernel_rfl)
                    have e24 : f 24 = (.slice (some ⟨gk, 0, none⟩) 4080 4080) := h24
                    simp only [e18, e20, e24] at hK ⊢
                    clear e18 e20 e24
                    clear h
                    try simp only [List.getElem_toArray, List.getElem_cons_succ, List.getElem_cons_zero]
                    try rw [if_pos (by rfl)]
                    go_simp
                    refine (SameBytes_any _ _ _ _ _ _ (now j) (now j) wz (HBC.out.below (bel_drew hB)) (HBK.out.below (bel_drew hB))).mono ?_
                    rintro e w5 ⟨rfl, rfl⟩
                    rw [beq_self_eq_true]
                    exact hK _ _ (gr_refl _) rfl
                  refine Steps.cons rfl ?_ ?_
                  · intro f wz hB h K Q hK
                    have h18 : (MP.is (.bool false)).p (f 18) wz := h 18 (by kernel_rfl)
                    have e18 : f 18 = (.bool false) := h18
                    have h25 : (MP.is (.bool true)).p (f 25) wz := h 25 (by kernel_rfl)
                    have e25 : f 25 = (.bool true) := h25
                    simp only [e18, e25] at hK ⊢
                    clear e18 e25
                    clear h
                    try simp only [List.getElem_toArray, List.getElem_cons_succ, List.getElem_cons_zero]
                    try rw [if_pos (by rfl)]
                    go_simp
                    exact hK _ _ (gr_refl _) rfl
                  refine Steps.cons rfl ?_ ?_
                  · intro f wz hB h K Q hK
                    have h18 : (MP.is (.bool false)).p (f 18) wz := h 18 (by kernel_rfl)
                    have e18 : f 18 = (.bool false) := h18
                    have h26 : (MP.is (.bool false)).p (f 26) wz := h 26 (by kernel_rfl)
                    have e26 : f 26 = (.bool false) := h26
                    simp only [e18, e26] at hK ⊢
                    clear e18 e26
                    clear h
                    try simp only [List.getElem_toArray, List.getElem_cons_succ, List.getElem_cons_zero]
                    try rw [if_pos (by rfl)]
                    go_simp
                    exact hK _ _ (gr_refl _) rfl
                  exact Steps.nil
                intro f w10 hB10 hR
                have e0 : f 0 = (.int .i64 0) := hR 0 (by decide)
                have e1 : f 1 = (.int .i64 0) := hR 1 (by decide)
                have e2 : f 2 = (.int .i64 0) := hR 2 (by decide)
                have e3 : f 3 = (.bool false) := hR 3 (by decide)
                have e4 : f 4 = (.bool false) := hR 4 (by decide)
                have e5 : f 5 = (.slice (some ⟨q7, 0, none⟩) 4096 c7) := hR 5 (by decide)
                have e6 : f 6 = (.int .i64 4096) := hR 6 (by decide)
                have e7 : f 7 = (.bool false) := hR 7 (by decide)
                have e8 : f 8 = (.bool false) := hR 8 (by decide)
                have e9 : f 9 = (.bool false) := hR 9 (by decide)
                have e10 : f 10 = (.slice (some ⟨q6, 0, none⟩) 4080 c6) := hR 10 (by decide)
                have e11 : f 11 = (.slice (some ⟨gn, 0, none⟩) 8 8) := hR 11 (by decide)
                have e12 : f 12 = (.int .i64 (j : Int)) := hR 12 (by decide)
                have e13 : f 13 = (.pointer (some ⟨gn, j, none⟩)) := hR 13 (by decide)
                have e14 : f 14 = (.slice (some ⟨gk, 0, none⟩) 4080 4080) := hR 14 (by decide)
                have e15 : f 15 = (.bool true) := hR 15 (by decide)
                have e16 : f 16 = (.bool false) := hR 16 (by decide)
                have e17 : f 17 = (.bool false) := hR 17 (by decide)
                have e18 : f 18 = (.bool false) := hR 18 (by decide)
                have e19 : f 19 = (.slice (some ⟨q7, 0, none⟩) 4096 c7) := hR 19 (by decide)
                have e20 : f 20 = (.slice (some ⟨q7, 8, none⟩) 4080 (c7 - 8)) := hR 20 (by decide)
                have e21 : f 21 = (.slice (some ⟨gn, 0, none⟩) 8 8) := hR 21 (by decide)
                have e22 : f 22 = (.int .i64 (j : Int)) := hR 22 (by decide)
                have e23 : f 23 = (.pointer (some ⟨gn, j, none⟩)) := hR 23 (by decide)
                have e24 : f 24 = (.slice (some ⟨gk, 0, none⟩) 4080 4080) := hR 24 (by decide)
                have e25 : f 25 = (.bool true) := hR 25 (by decide)
                have e26 : f 26 = (.bool false) := hR 26 (by decide)
                have e27 : f 27 = (.bool false) := hR 27 (by decide)
                simp only [e0, e1, e2, e3, e4, e5, e6, e7, e8, e9, e10, e11, e12, e13, e14, e15, e16, e17, e18, e19, e20, e21, e22, e23, e24, e25, e26, e27]
                clear e0 e1 e2 e3 e4 e5 e6 e7 e8 e9 e10 e11 e12 e13 e14 e15 e16 e17 e18 e19 e20 e21 e22 e23 e24 e25 e26 e27 hR
                have HBN : Hid (Below w7.heap.size w7 w10) := Lib.hid (Below.trans (gr_drewN (gr_refl w7) 1) hB10)
                have HJ9 := Lib.hid (HJ7.out.below HBN.out)
                have HM9 := Lib.hid (HM7.out.below HBN.out)
                go_wp2_with fail
                go_roundw
                case rel => exact ⟨j + 1, P', S6, HJL.out, by go_num, HJ9, HT2, HCL2, HM9, HC2⟩
                case measure => simp [RowKit.intOf]; have := HJL.out; omega
              · have t3 : decide ((j : Int) < 8) = false := decide_eq_false (by omega)
                have t3' : decide (j < 8) = false := decide_eq_false hjl
                go_wp2_with fail
                refine (awake09_any _).mono ?_
                rintro e w9 ⟨rfl, hb9⟩
                have HB9 := Lib.hid (HJ.out.bel.trans (hb9.mono HJ.out.bel.size))
                clear hb9
                go_wp2_with fail
                go_ret
                exact ⟨rfl, HB9.out⟩
          · have t1 : decide ((i : Int) < (n : Int)) = false := decide_eq_false (by omega)
            have t1' : decide (i < n) = false := decide_eq_false hl1
            clear hlt hl1
            obtain ⟨bs', P', hf, ht, hcl⟩ := HT.out.flush
            have HFP := Lib.hid (flushR_pend none HT.out.pi)
            have HFL := Lib.hid (Flush_pj HJ.out (by show ps.length ≤ _; have := HC.out; omega) (by have := HC.out; omega))
            rw [hf] at HFL HFP
            dsimp only at HFL
            have HC2 : Hid (P'.count ≤ 40000) := Lib.hid (by
              have h2 := HFP.out.2
              have h3 := HC.out
              have h5 : P'.count ≤ P.count + 256 := h2
              omega)
            have HT2 := Lib.hid ht
            have HCL := Lib.hid hcl
            clear hf ht hcl HFP hin hi100
            go_wp2_with fail
            refine HFL.out.mono ?_
            rintro e w6 ⟨S6, rfl, hj6, hmv6⟩
            have HJ6 := Lib.hid hj6
            have HM6 := Lib.hid (HM.out.mv hmv6)
            have HDI := Lib.hid (Dirty_pj hj6)
            rw [clean_dirty HCL.out] at HDI
            clear hj6 hmv6 HFL
            go_wp2_with fail
            refine HDI.out.mono ?_
            intro e w7 hn7
            obtain ⟨A7, c7, rfl, _, hb7⟩ := hn7.ir
            have HJ7 := Lib.hid (HJ6.out.below hb7)
            have HM7 := Lib.hid (HM6.out.below hb7)
            have HPN : Hid (Calls Try.prog 30 #[.pointer (some ⟨gd, 0, none⟩)] w7 fun e w' => e = .returned (.int .i64 0) ∧ w7 = w') := Lib.hid (Pending_pj HJ7.out)
            clear hn7 hb7 HDI
            go_wp2_with fail
            refine HPN.out.mono ?_
            rintro e w8 ⟨rfl, rfl⟩
            go_wp2_with fail
            go_loopw [16] (fun x wr => ∃ (j : Nat) (P : PoS) (S : Nat → Prop), j ≤ 8 ∧ x = .int .i64 (j : Int) ∧ Hid (PJ w wr gd gp .nilFunc none (calmD bs' []) P S) ∧ Hid (TI bs' [] P now) ∧ Hid (Clean P) ∧ Hid (NowM wr gn 8 now S) ∧ Hid (P.count ≤ 40000 + j)) (fun x _ => 8 - (RowKit.intOf x).toNat)
            case atStart => exact ⟨0, P', S6, by omega, rfl, HJ7, HT2, HCL, HM7, HC2⟩
            case round =>
              clear HJ7 HT2 HCL HM7 HC2 HJ6 HM6 HJ HM HT HC
              obtain ⟨j, P, S, hj8, rfl, HJ, HT, HCL, HM, HC⟩ := hrel
              by_cases hjl : j < 8
              · have t3 : decide ((j : Int) < 8) = true := decide_eq_true (by omega)
                have t3' : decide (j < 8) = true := decide_eq_true hjl
                have j1 : (0 : Int) ≤ (j : Int) := Int.natCast_nonneg _
                have j2 : (j : Int) < 8 := by omega
                obtain ⟨ps', P', hg, hgl, ht, hk⟩ := HT.out.get hjl
                obtain ⟨hps, hc'⟩ := hk HCL.out
                subst hps
                have HGP := Lib.hid (getR_pend none (calmD bs' []) P (j : Int))
                have HG := Lib.hid (Get_pj HJ.out (j : Int) (Nat.zero_le _) (by have := HC.out; omega))
                rw [hg] at HGP
                rw [hg, hgl] at HG
                dsimp only at HG
                have HC2 : Hid (P'.count ≤ 40000 + (j + 1)) := Lib.hid (by
                  have h2 := HGP.out.2
                  have h3 := HC.out
                  have h5 : P'.count ≤ P.count + 1 := h2
                  omega)
                have HT2 := Lib.hid ht
                have HCL2 := Lib.hid hc'
                have HNL := Lib.hid (HT.out.nl j hjl)
                have HDUR := Lib.hid (ht.durable hc' hjl)
                have HJL := Lib.hid hjl
                clear hg hgl ht hk hc' HGP hjl
                go_wp2_with fail
                refine HG.out.mono ?_
                rintro e w6 ⟨v6, S6, rfl, ob6, hj6, hmv6, _⟩
                obtain ⟨q6, c6, rfl, _, _, _, _, hbr6⟩ := ob6.at0 HNL.out (by omega)
                have HJ6 := Lib.hid hj6
                have HM6 := Lib.hid (HM.out.mv hmv6)
                have HDU := Lib.hid (Durable_pj hj6 (j : Int))
                rw [HDUR.out.1] at HDU
                have HLN : Hid ((durL (calmD bs' []) (j : Int)).length = 4096) := Lib.hid (by
                  rw [durL_calm bs' [] j (by rw [HT2.out.n8]; exact HJL.out)]
                  exact hj6.lens j (by show j < bs'.length; rw [HT2.out.n8]; exact HJL.out))
                clear ob6 hj6 hmv6 HG
                go_wp2_with fail
                refine HDU.out.mono ?_
                rintro e w7 ⟨v7, rfl, ob7, hb7⟩
                obtain ⟨q7, c7, rfl, hq7, hqs7, hc7, hm7, hbr7⟩ := ob7.at0 (n := 4096) HLN.out (by omega)
                have HJ7 := Lib.hid (HJ6.out.below hb7)
                have HM7 := Lib.hid (HM6.out.below hb7)
                obtain ⟨gk, ck, hbk⟩ := HM7.out.cell HJL.out
                have CK := Lib.hid ck
                have HBK := Lib.hid (bb_br hbk HNL.out)
                have HB6 := Lib.hid (hbr6.below hb7)
                have HBC : Hid (BR w7 (some ⟨q7, 8, none⟩) 4080 (now j)) := Lib.hid (by
                  have := hbr7.cut (k := 8) (j := 4088) (c := c7) (by omega) (by omega) hc7
                  have e1 := HDUR.out.2.2
                  rw [sealed_cut HDUR.out.2.1] at e1
                  rw [show (4088 - 8 : Nat) = 4080 from rfl, e1] at this
                  simpa [cutA, add_plain, show ¬ c7 = 8 by omega] using this)
                obtain ⟨i0, hi0, hz0, hz1, hz2⟩ := info_parts info_u8
                have hcut := fun W => run_cut_lh (P := Try.prog) W 26 5 i0 Try.underlying26 hi0 1 hz1 (some ⟨q7, 0, none⟩) 4096 c7 8 4088 8 4088 rfl rfl (by omega) (by omega)
                have HCUT := Lib.hid hcut
                have hca : cutA (some ⟨q7, 0, none⟩) c7 8 1 = some ⟨q7, 8, none⟩ := by
                  unfold cutA
                  rw [if_neg (by omega)]
                  simp [add_plain]
                rw [hca] at HCUT
                clear hca hcut ob7 hb7 hbr6 hbr7 hbk ck hi0 hz0 hz1 hz2 HDU
                go_upto_region 35 with fail
                refine' wp_region_mono (by kernel_rfl) (by kernel_rfl) (by kernel_rfl) (by kernel_rfl) (by kernel_rfl) (by kernel_rfl)
                  [MP.is (.int .i64 0), MP.is (.int .i64 0), MP.is (.int .i64 0), MP.is (.bool false), MP.is (.bool false), MP.is (.slice (some ⟨q7, 0, none⟩) 4096 c7), MP.is (.int .i64 4096), MP.is (.bool false), MP.is (.bool false), MP.is (.bool false), MP.is (.slice (some ⟨q6, 0, none⟩) 4080 c6), MP.is (.slice (some ⟨gn, 0, none⟩) 8 8), MP.is (.int .i64 (j : Int)), MP.is (.pointer (some ⟨gn, j, none⟩)), MP.is (.slice (some ⟨gk, 0, none⟩) 4080 4080), MP.is (.bool true), MP.is (.bool false), MP.is (.bool false), MP.is (.bool false), MP.is (.slice (some ⟨q7, 0, none⟩) 4096 c7), MP.is (.slice (some ⟨q7, 8, none⟩) 4080 (c7 - 8)), MP.is (.slice (some ⟨gn, 0, none⟩) 8 8), MP.is (.int .i64 (j : Int)), MP.is (.pointer (some ⟨gn, j, none⟩)), MP.is (.slice (some ⟨gk, 0, none⟩) 4080 4080), MP.is (.bool true), MP.is (.bool false), MP.is (.bool false)] ?hAA2 ?hst2 ?hend2
                case hAA2 =>
                  intro f
                  conv => lhs; simp only [putA, dstOf, List.size_toArray, List.length_cons, List.length_nil, Nat.zero_add, Nat.reduceAdd, List.getElem?_toArray, List.getElem?_cons_zero, List.getElem?_cons_succ, Option.bind_some, Act.put, List.setIfInBounds_toArray, List.set_cons_zero, List.set_cons_succ]
                  first | done | exact rfl
                case hst2 =>
                  change Steps _ _ _ _ _ [0, 1, 2, 3, 4, 5, 6, 7, 8, 9, 10, 11, 12, 13, 14, 15, 16, 17, 18, 19, 20, 21, 22, 23, 24, 25, 26, 27]
                  refine Steps.cons rfl ?_ ?_
                  · intro f wz hB h K Q hK
                    clear h
                    try simp only [List.getElem_toArray, List.getElem_cons_zero]
                    try rw [if_pos (by rfl)]
                    go_simp
                    exact hK _ _ (gr_refl _) rfl
                  refine Steps.cons rfl ?_ ?_
                  · intro f wz hB h K Q hK
                    clear h
                    try simp only [List.getElem_toArray, List.getElem_cons_succ, List.getElem_cons_zero]
                    try rw [if_pos (by rfl)]
                    go_simp
                    exact hK _ _ (gr_refl _) rfl
                  refine Steps.cons rfl ?_ ?_
                  · intro f wz hB h K Q hK
                    have h0 : (MP.is (.int .i64 0)).p (f 0) wz := h 0 (by kernel_rfl)
                    have e0 : f 0 = (.int .i64 0) := h0
                    have h1 : (MP.is (.int .i64 0)).p (f 1) wz := h 1 (by kernel_rfl)
                    have e1 : f 1 = (.int .i64 0) := h1
                    simp only [e0, e1] at hK ⊢
                    clear e0 e1
                    clear h
                    try simp only [List.getElem_toArray, List.getElem_cons_succ, List.getElem_cons_zero]
                    try rw [if_pos (by rfl)]
                    go_simp
                    exact hK _ _ (gr_refl _) rfl
                  refine Steps.cons rfl ?_ ?_
                  · intro f wz hB h K Q hK
                    have h2 : (MP.is (.int .i64 0)).p (f 2) wz := h 2 (by kernel_rfl)
                    have e2 : f 2 = (.int .i64 0) := h2
                    simp only [e2] at hK ⊢
                    clear e2
                    clear h
                    try simp only [List.getElem_toArray, List.getElem_cons_succ, List.getElem_cons_zero]
                    try rw [if_pos (by rfl)]
                    go_simp
                    exact hK _ _ (gr_refl _) rfl
                  refine Steps.cons rfl ?_ ?_
                  · intro f wz hB h K Q hK
                    have h3 : (MP.is (.bool false)).p (f 3) wz := h 3 (by kernel_rfl)
                    have e3 : f 3 = (.bool false) := h3
                    simp only [e3] at hK ⊢
                    clear e3
                    clear h
                    try simp only [List.getElem_toArray, List.getElem_cons_succ, List.getElem_cons_zero]
                    try rw [if_pos (by rfl)]
                    go_simp
                    exact hK _ _ (gr_refl _) rfl
                  refine Steps.cons rfl ?_ ?_
                  · intro f wz hB h K Q hK
                    have h4 : (MP.is (.bool false)).p (f 4) wz := h 4 (by kernel_rfl)
                    have e4 : f 4 = (.bool false) := h4
                    simp only [e4] at hK ⊢
                    clear e4
                    clear h
                    try simp only [List.getElem_toArray, List.getElem_cons_succ, List.getElem_cons_zero]
                    try rw [if_pos (by rfl)]
                    go_simp
                    exact hK _ _ (gr_refl _) rfl
                  refine Steps.cons rfl ?_ ?_
                  · intro f wz hB h K Q hK
                    have h4 : (MP.is (.bool false)).p (f 4) wz := h 4 (by kernel_rfl)
                    have e4 : f 4 = (.bool false) := h4
                    have h5 : (MP.is (.slice (some ⟨q7, 0, none⟩) 4096 c7)).p (f 5) wz := h 5 (by kernel_rfl)
                    have e5 : f 5 = (.slice (some ⟨q7, 0, none⟩) 4096 c7) := h5
                    simp only [e4, e5] at hK ⊢
                    clear e4 e5
                    clear h
                    try simp only [List.getElem_toArray, List.getElem_cons_succ, List.getElem_cons_zero]
                    try rw [if_pos (by rfl)]
                    go_simp
                    exact hK _ _ (gr_refl _) rfl
                  refine Steps.cons rfl ?_ ?_
                  · intro f wz hB h K Q hK
                    have h4 : (MP.is (.bool false)).p (f 4) wz := h 4 (by kernel_rfl)
                    have e4 : f 4 = (.bool false) := h4
                    have h6 : (MP.is (.int .i64 4096)).p (f 6) wz := h 6 (by kernel_rfl)
                    have e6 : f 6 = (.int .i64 4096) := h6
                    simp only [e4, e6] at hK ⊢
                    clear e4 e6
                    clear h
                    try simp only [List.getElem_toArray, List.getElem_cons_succ, List.getElem_cons_zero]
                    try rw [if_pos (by rfl)]
                    go_simp
                    exact hK _ _ (gr_refl _) rfl
                  refine Steps.cons rfl ?_ ?_
                  · intro f wz hB h K Q hK
                    have h4 : (MP.is (.bool false)).p (f 4) wz := h 4 (by kernel_rfl)
                    have e4 : f 4 = (.bool false) := h4
                    have h7 : (MP.is (.bool false)).p (f 7) wz := h 7 (by kernel_rfl)
                    have e7 : f 7 = (.bool false) := h7
                    simp only [e4, e7] at hK ⊢
                    clear e4 e7
                    clear h
                    try simp only [List.getElem_toArray, List.getElem_cons_succ, List.getElem_cons_zero]
                    try rw [if_pos (by rfl)]
                    go_simp
                    exact hK _ _ (gr_refl _) rfl
                  refine Steps.cons rfl ?_ ?_
                  · intro f wz hB h K Q hK
                    have h8 : (MP.is (.bool false)).p (f 8) wz := h 8 (by kernel_rfl)
                    have e8 : f 8 = (.bool false) := h8
                    simp only [e8] at hK ⊢
                    clear e8
                    clear h
                    try simp only [List.getElem_toArray, List.getElem_cons_succ, List.getElem_cons_zero]
                    try rw [if_pos (by rfl)]
                    go_simp
                    exact hK _ _ (gr_refl _) rfl
                  refine Steps.cons rfl ?_ ?_
                  · intro f wz hB h K Q hK
                    have h9 : (MP.is (.bool false)).p (f 9) wz := h 9 (by kernel_rfl)
                    have e9 : f 9 = (.bool false) := h9
                    simp only [e9] at hK ⊢
                    clear e9
                    clear h
                    try simp only [List.getElem_toArray, List.getElem_cons_succ, List.getElem_cons_zero]
                    try rw [if_pos (by rfl)]
                    go_simp
                    exact hK _ _ (gr_refl _) rfl
                  refine Steps.cons rfl ?_ ?_
                  · intro f wz hB h K Q hK
                    have h9 : (MP.is (.bool false)).p (f 9) wz := h 9 (by kernel_rfl)
                    have e9 : f 9 = (.bool false) := h9
                    simp only [e9] at hK ⊢
                    clear e9
                    clear h
                    try simp only [List.getElem_toArray, List.getElem_cons_succ, List.getElem_cons_zero]
                    try rw [if_pos (by rfl)]
                    go_simp
                    exact hK _ _ (gr_refl _) rfl
                  refine Steps.cons rfl ?_ ?_
                  · intro f wz hB h K Q hK
                    have h9 : (MP.is (.bool false)).p (f 9) wz := h 9 (by kernel_rfl)
                    have e9 : f 9 = (.bool false) := h9
                    simp only [e9] at hK ⊢
                    clear e9
                    clear h
                    try simp only [List.getElem_toArray, List.getElem_cons_succ, List.getElem_cons_zero]
                    try rw [if_pos (by rfl)]
                    go_simp
                    exact hK _ _ (gr_refl _) rfl
                  refine Steps.cons rfl ?_ ?_
                  · intro f wz hB h K Q hK
                    have h9 : (MP.is (.bool false)).p (f 9) wz := h 9 (by kernel_rfl)
                    have e9 : f 9 = (.bool false) := h9
                    have h11 : (MP.is (.slice (some ⟨gn, 0, none⟩) 8 8)).p (f 11) wz := h 11 (by kernel_rfl)
                    have e11 : f 11 = (.slice (some ⟨gn, 0, none⟩) 8 8) := h11
                    have h12 : (MP.is (.int .i64 (j : Int))).p (f 12) wz := h 12 (by kernel_rfl)
                    have e12 : f 12 = (.int .i64 (j : Int)) := h12
                    simp only [e9, e11, e12] at hK ⊢
                    clear e9 e11 e12
                    clear h
                    try simp only [List.getElem_toArray, List.getElem_cons_succ, List.getElem_cons_zero]
                    try rw [if_pos (by rfl)]
                    go_simp
                    exact hK _ _ (gr_refl _) rfl
                  refine Steps.cons rfl ?_ ?_
                  · intro f wz hB h K Q hK
                    have h9 : (MP.is (.bool false)).p (f 9) wz := h 9 (by kernel_rfl)
                    have e9 : f 9 = (.bool false) := h9
                    have h13 : (MP.is (.pointer (some ⟨gn, j, none⟩))).p (f 13) wz := h 13 (by kernel_rfl)
                    have e13 : f 13 = (.pointer (some ⟨gn, j, none⟩)) := h13
                    simp only [e9, e13] at hK ⊢
                    clear e9 e13
                    clear h
                    try simp only [List.getElem_toArray, List.getElem_cons_succ, List.getElem_cons_zero]
                    try rw [if_pos (by rfl)]
                    have y0 := keep_of_below (bel_drew hB) CK.out
                    go_simp
                    exact hK _ _ (gr_refl _) rfl
                  refine Steps.cons rfl ?_ ?_
                  · intro f wz hB h K Q hK
                    have h9 : (MP.is (.bool false)).p (f 9) wz := h 9 (by kernel_rfl)
                    have e9 : f 9 = (.bool false) := h9
                    have h10 : (MP.is (.slice (some ⟨q6, 0, none⟩) 4080 c6)).p (f 10) wz := h 10 (by kernel_rfl)
                    have e10 : f 10 = (.slice (some ⟨q6, 0, none⟩) 4080 c6) := h10
                    have h14 : (MP.is (.slice (some ⟨gk, 0, none⟩) 4080 4080)).p (f 14) wz := h 14 (by kernel_rfl)
                    have e14 : f 14 = (.slice (some ⟨gk, 0, none⟩) 4080 4080) := h14
                    simp only [e9, e10, e14] at hK ⊢
                    clear e9 e10 e14
                    clear h
                    try simp only [List.getElem_toArray, List.getElem_cons_succ, List.getElem_cons_zero]
                    try rw [if_pos (by rfl)]
                    go_simp
                    refine (SameBytes_any _ _ _ _ _ _ (now j) (now j) wz (HB6.out.below (bel_drew hB)) (HBK.out.below (bel_drew hB))).mono ?_
                    rintro e w5 ⟨rfl, rfl⟩
                    rw [beq_self_eq_true]
                    exact hK _ _ (gr_refl _) rfl
                  refine Steps.cons rfl ?_ ?_
                  · intro f wz hB h K Q hK
                    have h9 : (MP.is (.bool false)).p (f 9) wz := h 9 (by kernel_rfl)
                    have e9 : f 9 = (.bool false) := h9
                    have h15 : (MP.is (.bool true)).p (f 15) wz := h 15 (by kernel_rfl)
                    have e15 : f 15 = (.bool true) := h15
                    simp only [e9, e15] at hK ⊢
                    clear e9 e15
                    clear h
                    try simp only [List.getElem_toArray, List.getElem_cons_succ, List.getElem_cons_zero]
                    try rw [if_pos (by rfl)]
                    go_simp
                    exact hK _ _ (gr_refl _) rfl
                  refine Steps.cons rfl ?_ ?_
                  · intro f wz hB h K Q hK
                    have h9 : (MP.is (.bool false)).p (f 9) wz := h 9 (by kernel_rfl)
                    have e9 : f 9 = (.bool false) := h9
                    have h16 : (MP.is (.bool false)).p (f 16) wz := h 16 (by kernel_rfl)
                    have e16 : f 16 = (.bool false) := h16
                    simp only [e9, e16] at hK ⊢
                    clear e9 e16
                    clear h
                    try simp only [List.getElem_toArray, List.getElem_cons_succ, List.getElem_cons_zero]
                    try rw [if_pos (by rfl)]
                    go_simp
                    exact hK _ _ (gr_refl _) rfl
                  refine Steps.cons rfl ?_ ?_
                  · intro f wz hB h K Q hK
                    have h17 : (MP.is (.bool false)).p (f 17) wz := h 17 (by kernel_rfl)
                    have e17 : f 17 = (.bool false) := h17
                    simp only [e17] at hK ⊢
                    clear e17
                    clear h
                    try simp only [List.getElem_toArray, List.getElem_cons_succ, List.getElem_cons_zero]
                    try rw [if_pos (by rfl)]
                    go_simp
                    exact hK _ _ (gr_refl _) rfl
                  refine Steps.cons rfl ?_ ?_
                  · intro f wz hB h K Q hK
                    have h18 : (MP.is (.bool false)).p (f 18) wz := h 18 (by kernel_rfl)
                    have e18 : f 18 = (.bool false) := h18
                    simp only [e18] at hK ⊢
                    clear e18
                    clear h
                    try simp only [List.getElem_toArray, List.getElem_cons_succ, List.getElem_cons_zero]
                    try rw [if_pos (by rfl)]
                    go_simp
                    exact hK _ _ (gr_refl _) rfl
                  refine Steps.cons rfl ?_ ?_
                  · intro f wz hB h K Q hK
                    have h18 : (MP.is (.bool false)).p (f 18) wz := h 18 (by kernel_rfl)
                    have e18 : f 18 = (.bool false) := h18
                    have h19 : (MP.is (.slice (some ⟨q7, 0, none⟩) 4096 c7)).p (f 19) wz := h 19 (by kernel_rfl)
                    have e19 : f 19 = (.slice (some ⟨q7, 0, none⟩) 4096 c7) := h19
                    simp only [e18, e19] at hK ⊢
                    clear e18 e19
                    clear h
                    try simp only [List.getElem_toArray, List.getElem_cons_succ, List.getElem_cons_zero]
                    try rw [if_pos (by rfl)]
                    have yc := HCUT.out
                    go_simp
                    exact hK _ _ (gr_refl _) rfl
                  refine Steps.cons rfl ?_ ?_
                  · intro f wz hB h K Q hK
                    have h18 : (MP.is (.bool false)).p (f 18) wz := h 18 (by kernel_rfl)
                    have e18 : f 18 = (.bool false) := h18
                    simp only [e18] at hK ⊢
                    clear e18
                    clear h
                    try simp only [List.getElem_toArray, List.getElem_cons_succ, List.getElem_cons_zero]
                    try rw [if_pos (by rfl)]
                    go_simp
                    exact hK _ _ (gr_refl _) rfl
                  refine Steps.cons rfl ?_ ?_
                  · intro f wz hB h K Q hK
                    have h18 : (MP.is (.bool false)).p (f 18) wz := h 18 (by kernel_rfl)
                    have e18 : f 18 = (.bool false) := h18
                    simp only [e18] at hK ⊢
                    clear e18
                    clear h
                    try simp only [List.getElem_toArray, List.getElem_cons_succ, List.getElem_cons_zero]
                    try rw [if_pos (by rfl)]
                    go_simp
                    exact hK _ _ (gr_refl _) rfl
                  refine Steps.cons rfl ?_ ?_
                  · intro f wz hB h K Q hK
                    have h18 : (MP.is (.bool false)).p (f 18) wz := h 18 (by kernel_rfl)
                    have e18 : f 18 = (.bool false) := h18
                    have h21 : (MP.is (.slice (some ⟨gn, 0, none⟩) 8 8)).p (f 21) wz := h 21 (by kernel_rfl)
                    have e21 : f 21 = (.slice (some ⟨gn, 0, none⟩) 8 8) := h21
                    have h22 : (MP.is (.int .i64 (j : Int))).p (f 22) wz := h 22 (by kernel_rfl)
                    have e22 : f 22 = (.int .i64 (j : Int)) := h22
                    simp only [e18, e21, e22] at hK ⊢
                    clear e18 e21 e22
                    clear h
                    try simp only [List.getElem_toArray, List.getElem_cons_succ, List.getElem_cons_zero]
                    try rw [if_pos (by rfl)]
                    go_simp
                    exact hK _ _ (gr_refl _) rfl
                  refine Steps.cons rfl ?_ ?_
                  · intro f wz hB h K Q hK
                    have h18 : (MP.is (.bool false)).p (f 18) wz := h 18 (by kernel_rfl)
                    have e18 : f 18 = (.bool false) := h18
                    have h23 : (MP.is (.pointer (some ⟨gn, j, none⟩))).p (f 23) wz := h 23 (by kernel_rfl)
                    have e23 : f 23 = (.pointer (some ⟨gn, j, none⟩)) := h23
                    simp only [e18, e23] at hK ⊢
                    clear e18 e23
                    clear h
                    try simp only [List.getElem_toArray, List.getElem_cons_succ, List.getElem_cons_zero]
                    try rw [if_pos (by rfl)]
                    have y0 := keep_of_below (bel_drew hB) CK.out
                    go_simp
                    exact hK _ _ (gr_refl _) rfl
                  refine Steps.cons rfl ?_ ?_
                  · intro f wz hB h K Q hK
                    have h18 : (MP.is (.bool false)).p (f 18) wz := h 18 (by kernel_rfl)
                    have e18 : f 18 = (.bool false) := h18
                    have h20 : (MP.is (.slice (some ⟨q7, 8, none⟩) 4080 (c7 - 8))).p (f 20) wz := h 20 (by kernel_rfl)
                    have e20 : f 20 = (.slice (some ⟨q7, 8, none⟩) 4080 (c7 - 8)) := h20
                    have h24 : (MP.is (.slice (some ⟨gk, 0, none⟩) 4080 4080)).p (f 24) wz := h 24 (by kernel_rfl)
                    have e24 : f 24 = (.slice (some ⟨gk, 0, none⟩) 4080 4080) := h24
                    simp only [e18, e20, e24] at hK ⊢
                    clear e18 e20 e24
                    clear h
                    try simp only [List.getElem_toArray, List.getElem_cons_succ, List.getElem_cons_zero]
                    try rw [if_pos (by rfl)]
                    go_simp
                    refine (SameBytes_any _ _ _ _ _ _ (now j) (now j) wz (HBC.out.below (bel_drew hB)) (HBK.out.below (bel_drew hB))).mono ?_
                    rintro e w5 ⟨rfl, rfl⟩
                    rw [beq_self_eq_true]
                    exact hK _ _ (gr_refl _) rfl
                  refine Steps.cons rfl ?_ ?_
                  · intro f wz hB h K Q hK
                    have h18 : (MP.is (.bool false)).p (f 18) wz := h 18 (by kernel_rfl)
                    have e18 : f 18 = (.bool false) := h18
                    have h25 : (MP.is (.bool true)).p (f 25) wz := h 25 (by kernel_rfl)
                    have e25 : f 25 = (.bool true) := h25
                    simp only [e18, e25] at hK ⊢
                    clear e18 e25
                    clear h
                    try simp only [List.getElem_toArray, List.getElem_cons_succ, List.getElem_cons_zero]
                    try rw [if_pos (by rfl)]
                    go_simp
                    exact hK _ _ (gr_refl _) rfl
                  refine Steps.cons rfl ?_ ?_
                  · intro f wz hB h K Q hK
                    have h18 : (MP.is (.bool false)).p (f 18) wz := h 18 (by kernel_rfl)
                    have e18 : f 18 = (.bool false) := h18
                    have h26 : (MP.is (.bool false)).p (f 26) wz := h 26 (by kernel_rfl)
                    have e26 : f 26 = (.bool false) := h26
                    simp only [e18, e26] at hK ⊢
                    clear e18 e26
                    clear h
                    try simp only [List.getElem_toArray, List.getElem_cons_succ, List.getElem_cons_zero]
                    try rw [if_pos (by rfl)]
                    go_simp
                    exact hK _ _ (gr_refl _) rfl
                  exact Steps.nil
                intro f w10 hB10 hR
                have e0 : f 0 = (.int .i64 0) := hR 0 (by decide)
                have e1 : f 1 = (.int .i64 0) := hR 1 (by decide)
                have e2 : f 2 = (.int .i64 0) := hR 2 (by decide)
                have e3 : f 3 = (.bool false) := hR 3 (by decide)
                have e4 : f 4 = (.bool false) := hR 4 (by decide)
                have e5 : f 5 = (.slice (some ⟨q7, 0, none⟩) 4096 c7) := hR 5 (by decide)
                have e6 : f 6 = (.int .i64 4096) := hR 6 (by decide)
                have e7 : f 7 = (.bool false) := hR 7 (by decide)
                have e8 : f 8 = (.bool false) := hR 8 (by decide)
                have e9 : f 9 = (.bool false) := hR 9 (by decide)
                have e10 : f 10 = (.slice (some ⟨q6, 0, none⟩) 4080 c6) := hR 10 (by decide)
                have e11 : f 11 = (.slice (some ⟨gn, 0, none⟩) 8 8) := hR 11 (by decide)
                have e12 : f 12 = (.int .i64 (j : Int)) := hR 12 (by decide)
                have e13 : f 13 = (.pointer (some ⟨gn, j, none⟩)) := hR 13 (by decide)
                have e14 : f 14 = (.slice (some ⟨gk, 0, none⟩) 4080 4080) := hR 14 (by decide)
                have e15 : f 15 = (.bool true) := hR 15 (by decide)
                have e16 : f 16 = (.bool false) := hR 16 (by decide)
                have e17 : f 17 = (.bool false) := hR 17 (by decide)
                have e18 : f 18 = (.bool false) := hR 18 (by decide)
                have e19 : f 19 = (.slice (some ⟨q7, 0, none⟩) 4096 c7) := hR 19 (by decide)
                have e20 : f 20 = (.slice (some ⟨q7, 8, none⟩) 4080 (c7 - 8)) := hR 20 (by decide)
                have e21 : f 21 = (.slice (some ⟨gn, 0, none⟩) 8 8) := hR 21 (by decide)
                have e22 : f 22 = (.int .i64 (j : Int)) := hR 22 (by decide)
                have e23 : f 23 = (.pointer (some ⟨gn, j, none⟩)) := hR 23 (by decide)
                have e24 : f 24 = (.slice (some ⟨gk, 0, none⟩) 4080 4080) := hR 24 (by decide)
                have e25 : f 25 = (.bool true) := hR 25 (by decide)
                have e26 : f 26 = (.bool false) := hR 26 (by decide)
                have e27 : f 27 = (.bool false) := hR 27 (by decide)
                simp only [e0, e1, e2, e3, e4, e5, e6, e7, e8, e9, e10, e11, e12, e13, e14, e15, e16, e17, e18, e19, e20, e21, e22, e23, e24, e25, e26, e27]
                clear e0 e1 e2 e3 e4 e5 e6 e7 e8 e9 e10 e11 e12 e13 e14 e15 e16 e17 e18 e19 e20 e21 e22 e23 e24 e25 e26 e27 hR
                have HBN : Hid (Below w7.heap.size w7 w10) := Lib.hid (Below.trans (gr_drewN (gr_refl w7) 1) hB10)
                have HJ9 := Lib.hid (HJ7.out.below HBN.out)
                have HM9 := Lib.hid (HM7.out.below HBN.out)
                go_wp2_with fail
                go_roundw
                case rel => exact ⟨j + 1, P', S6, HJL.out, by go_num, HJ9, HT2, HCL2, HM9, HC2⟩
                case measure => simp [RowKit.intOf]; have := HJL.out; omega
              · have t3 : decide ((j : Int) < 8) = false := decide_eq_false (by omega)
                have t3' : decide (j < 8) = false := decide_eq_false hjl
                go_wp2_with fail
                refine (awake09_any _).mono ?_
                rintro e w9 ⟨rfl, hb9⟩
                have HB9 := Lib.hid (HJ.out.bel.trans (hb9.mono HJ.out.bel.size))
                clear hb9
                go_wp2_with fail
                go_ret
                exact ⟨rfl, HB9.out⟩
end Go.Proofs.Ytmdgnjmhbjdlmaa
