/-
  The walk of PoolLog.
-/
import Derived.Test.YtmdgnjmhbjdlmaaPkA8
import Derived.Deep.CutBlock
import Derived.Deep.DeepCutAuto
namespace Go.Proofs.Ytmdgnjmhbjdlmaa
open Go Go.RowKit Go.Maps

set_option maxRecDepth 100000 in
set_option maxHeartbeats 16000000 in
theorem PoolLog_any (frames : Int) (A : Option Addr) (n c : Nat) (l : List Int) (w : World) (ha : IR w A n l) (hn : n ≤ 4611686018427387904) :
    Calls Try.prog 4 #[.int .i64 frames, .slice A n c] w fun e w' => e = .returned (.bool true) ∧ Below w.heap.size w w' := by
  obtain ⟨r, hr⟩ : ∃ r : Nat, frames % 3 = (r : Int) := ⟨(frames % 3).toNat, by have := Int.emod_nonneg frames (show (3 : Int) ≠ 0 by omega); omega⟩
  have hr3 : r < 3 := by have := Int.emod_lt_of_pos frames (show (0 : Int) < 3 by omega); omega
  have HP := Lib.hid (fun W => Pick_any frames 3 W (by omega) (by omega))
  rw [hr] at HP
  have HND := Lib.hid (New_any 6 w (by omega) (by omega))
  have HA := Lib.hid ha
  have hmf : ∀ (fn : Fn) (first cap : Array Value) (w : World), (Instr.makeFunc fn first cap).run Try.prog w = .ok (.func fn first cap) w := fun _ _ _ _ => rfl
  have HR := Lib.hid hr3
  clear hr ha hr3
  go_enter Try.func4, Try.ntmps4
  go_wp2_with fail
  refine HND.out.mono ?_
  rintro e w1 ⟨gd, Fd, rfl, hd, hb1⟩
  have HD := Lib.hid hd
  have HB1 := Lib.hid hb1
  clear hd hb1 HND
  go_upto_region 4 with fail
  have hb2 : Below w1.heap.size w1 (w1.alloc (.cells #[.int .i64 0] 3)) := gr_alloc (gr_refl w1) _
  have hx2 : BoxI (w1.alloc (.cells #[.int .i64 0] 3)) w1.heap.size 0 := heap_alloc_new w1 _
  have hd2 := HD.out.below hb2
  have hF := fun k hk => (HD.out.foot_lt k hk).2
  have HN := Lib.hid (PNew_pj (w0 := w) (w := w1.alloc (.cells #[.int .i64 0] 3)) (gd := gd) (wv := walF w1.heap.size) (L := some 0) (D := newD 6) (fun _ => False) Fd 0 6 (2 + r) 1 0 (HB1.out.trans (hb2.mono HB1.out.size)) hd2 (.inr ⟨_, _, rfl⟩) (by
    unfold mayP
    simp only [Bool.and_eq_true, decide_eq_true_eq]
    have e : (newD 6).blocks.length = 6 := List.length_replicate ..
    have := HR.out
    rw [e]
    omega) (fun _ e => e.elim) (hx2.lv (fun e => by
      rcases e with e | e | e
      · exact Nat.lt_irrefl _ (hF _ e)
      · exact e
      · rw [World.size_alloc] at e; omega)))
  rw [show ((2 + r : Nat) : Int) = 2 + (r : Int) from by omega] at HN
  have HX2 := Lib.hid hx2
  have HF := Lib.hid hF
  have HLT : Hid (w1.heap.size < (w1.alloc (.cells #[.int .i64 0] 3)).heap.size) := Lib.hid (by rw [World.size_alloc]; omega)
  have HGL : Hid (w.heap.size ≤ w1.heap.size) := Lib.hid HB1.out.size
  clear hx2 hF hd2 hb2 HD
  unfold walF at HN
  generalize (w1.alloc (.cells #[.int .i64 0] 3)) = w2 at *
  generalize w1.heap.size = gl at *
  go_wp2_with fail
  refine (HP.out w2).mono ?_
  rintro e w3 ⟨rfl, rfl⟩
  have hadd : IntKind.i64.wrap (2 + (r : Int)) = 2 + (r : Int) := by rw [IntKind.wrap_i64]; have := HR.out; omega
  go_wp2_with fail
  refine HN.out.mono ?_
  rintro e w3 ⟨gp, S3, rfl, hj3, hb3, hs3⟩
  have hlg : LG w w3 gd gp gl (.slice none 0 0) [] 0 (List.replicate 6 zer) [] (newP 0 6 (2 + r) 1 0) S3 0 := by
    refine ⟨hj3, LI.new (2 + r) (by omega) (by have := HR.out; omega), SetM.nil _ _ _, (hb3.block gl HLT.out).trans HX2.out, fun e => ?_, HGL.out, Nat.le_refl _, ⟨Nat.zero_le _, Nat.le_refl _⟩⟩
    rcases hs3 gl e with e | e | e
    · exact Nat.lt_irrefl _ (HF.out _ e)
    · exact e
    · have := HLT.out
      omega
  have HLG0 := Lib.hid hlg
  clear hlg hj3 hb3 hs3 HN HX2 HF HLT HR hadd HP
  generalize List.replicate 6 zer = bs0 at *
  generalize newP 0 6 (2 + r) 1 0 = P0 at *
  go_wp2_with fail
  go_loopw [11, 12, 13] (fun a v x wr => ∃ (i : Nat) (sets : List (List UInt8)) (s : Nat) (bs : List (List UInt8)) (ps : List (Nat × List UInt8)) (P : PoS) (S : Nat → Prop), i ≤ n ∧ i ≤ 80 ∧ x = .int .i64 (i : Int) ∧ a = .int .i64 (sets.length : Int) ∧ Hid (LG w wr gd gp gl v sets s bs ps P S i) ∧ Hid (SetI sets i)) (fun _ _ x _ => n - (RowKit.intOf x).toNat)
  case atStart => exact ⟨0, [], 0, bs0, [], P0, S3, by omega, by omega, rfl, rfl, HLG0, Lib.hid SetI.nil⟩
  case round =>
    clear HLG0
    obtain ⟨i, sets, s, bs, ps, P, S, hin, hi80, rfl, rfl, HLG, HSI⟩ := hrel
    by_cases hlt : i < n ∧ i < 80
    · obtain ⟨hl1, hl2⟩ := hlt
      have t1 : decide ((i : Int) < (n : Int)) = true := decide_eq_true (by omega)
      have t1' : decide (i < n) = true := decide_eq_true hl1
      have t2 : decide ((i : Int) < 80) = true := decide_eq_true (by omega)
      have t2' : decide (i < 80) = true := decide_eq_true hl2
      have i1 : (0 : Int) ≤ (i : Int) := Int.natCast_nonneg _
      have i2 : (i : Int) < (n : Int) := by omega
      obtain ⟨g, o, hA, hcc⟩ := IR.at_ (HA.out.below HLG.out.pj.bel) hl1
      subst hA
      generalize l.getD i 0 = x at *
      obtain ⟨m, hm⟩ : ∃ m : Nat, x % 1000003 = (m : Int) := ⟨(x % 1000003).toNat, by have := Int.emod_nonneg x (show (1000003 : Int) ≠ 0 by omega); omega⟩
      have hm3 : m < 1000003 := by have := Int.emod_lt_of_pos x (show (0 : Int) < 1000003 by omega); omega
      have HPK := Lib.hid (fun W => Pick_any x 1000003 W (by omega) (by omega))
      rw [hm] at HPK
      obtain ⟨z, hz⟩ : ∃ z, z = m % 5 := ⟨_, rfl⟩
      obtain ⟨d, hd⟩ : ∃ d, d = m / 5 := ⟨_, rfl⟩
      obtain ⟨p, hp⟩ : ∃ p, p = d % 6 := ⟨_, rfl⟩
      obtain ⟨y, hy⟩ : ∃ y, y = d % 3 := ⟨_, rfl⟩
      have hz5 : z < 5 := by omega
      have hp6 : p < 6 := by omega
      have hy3 : y < 3 := by omega
      have hd3 : d < 1000003 := by omega
      have e5 : ((m : Int)).tmod 5 = (z : Int) := by rw [Int.tmod_eq_emod_of_nonneg (by omega)]; omega
      have w5 : IntKind.i64.wrap (z : Int) = (z : Int) := by rw [IntKind.wrap_i64]; omega
      have e5d : ((m : Int)).tdiv 5 = (d : Int) := by rw [Int.tdiv_eq_ediv_of_nonneg (by omega)]; omega
      have w5d : IntKind.i64.wrap (d : Int) = (d : Int) := by rw [IntKind.wrap_i64]; omega
      have e6 : ((d : Int)).tmod 6 = (p : Int) := by rw [Int.tmod_eq_emod_of_nonneg (by omega)]; omega
      have w6 : IntKind.i64.wrap (p : Int) = (p : Int) := by rw [IntKind.wrap_i64]; omega
      have e3 : ((d : Int)).tmod 3 = (y : Int) := by rw [Int.tmod_eq_emod_of_nonneg (by omega)]; omega
      have w3' : IntKind.i64.wrap (y : Int) = (y : Int) := by rw [IntKind.wrap_i64]; omega
      have HCC := Lib.hid hcc
      clear hm hz hd hp hy hm3
      go_upto_block 2 with (go_at_call 22; refine (HPK.out wr).mono ?_; rintro e w5 ⟨rfl, rfl⟩)
      have HSL := HSI.out.le
      go_cut [11, 12] (fun a v wx => ∃ (sets : List (List UInt8)) (s : Nat) (bs : List (List UInt8)) (ps : List (Nat × List UInt8)) (P : PoS) (S : Nat → Prop), a = .int .i64 (sets.length : Int) ∧ Hid (LG w wx gd gp gl v sets s bs ps P S (i + 1)) ∧ Hid (SetI sets (i + 1)))
      case first =>
        obtain hz0 | hz1 | hz2 | hz3 : z = 0 ∨ z = 1 ∨ z = 2 ∨ 3 ≤ z := by omega
        · subst hz0
          have HGP := Lib.hid (getR_pend (some (s : Int)) (calmD bs ps) P (p : Int))
          have HR := Lib.hid (HLG.out.li.get hp6)
          have HG := Lib.hid (Get_pj HLG.out.pj (p : Int) (by show ps.length ≤ _; have := HLG.out.ct; omega) (by have := HLG.out.ct; omega))
          generalize getR (some (s : Int)) (calmD bs ps) P (p : Int) = r at *
          obtain ⟨rD, rP, rE⟩ := r
          dsimp only at HGP HR HG
          go_wp2_with fail
          refine HG.out.mono ?_
          rintro e w6 ⟨v6, S6, rfl, ob6, hj6, hmv6, _⟩
          obtain ⟨bs', ps', hlg⟩ := HLG.out.call HR.out hj6 hmv6 (by have h1 := HGP.out; dsimp only at h1 ⊢; exact ⟨Nat.le_trans h1.1 (by show ps.length + 1 ≤ _; omega), by omega⟩)
          have HLG2 := Lib.hid hlg
          have HS2 := Lib.hid HSI.out.up
          clear ob6 hj6 hmv6 hlg HG HR HGP
          go_wp2_with fail
          go_meet
          exact ⟨_, _, _, _, _, _, rfl, HLG2, HS2⟩
        · subst hz1
          have HGP := Lib.hid (flushR_pend (some (s : Int)) HLG.out.li.pi)
          have HR := Lib.hid HLG.out.li.flush
          have HG := Lib.hid (Flush_pj HLG.out.pj (by show ps.length ≤ _; have := HLG.out.ct; omega) (by have := HLG.out.ct; omega))
          generalize flushR (some (s : Int)) (calmD bs ps) P = r at *
          obtain ⟨rD, rP, rE⟩ := r
          dsimp only at HGP HR HG
          go_wp2_with fail
          refine HG.out.mono ?_
          rintro e w6 ⟨S6, rfl, hj6, hmv6⟩
          obtain ⟨bs', ps', hlg⟩ := HLG.out.call HR.out hj6 hmv6 HGP.out
          have HLG2 := Lib.hid hlg
          have HS2 := Lib.hid HSI.out.up
          clear hj6 hmv6 hlg HG HR HGP
          go_wp2_with fail
          go_meet
          exact ⟨_, _, _, _, _, _, rfl, HLG2, HS2⟩
        · subst hz2
          have c0 := HLG.out.bx.c0
          have z0 := HLG.out.bx.frozen
          have hss := HLG.out.ss
          have wsub : IntKind.i64.wrap ((sets.length : Int) - (y : Int)) = (sets.length : Int) - (y : Int) := by rw [IntKind.wrap_i64]; omega
          have HLG2 := Lib.hid (HLG.out.turn (s' := max s (sets.length - y)) (by omega) (by omega) (x := max (s : Int) ((sets.length : Int) - (y : Int))) (by omega))
          have HS2 := Lib.hid HSI.out.up
          go_wp2_with fail
          go_meet
          exact ⟨_, _, _, _, _, _, rfl, HLG2, HS2⟩
        · have u0 : ((z : Int) == 0) = false := beq_eq_false_iff_ne.2 (by omega)
          have u1 : ((z : Int) == 1) = false := beq_eq_false_iff_ne.2 (by omega)
          have u2 : ((z : Int) == 2) = false := beq_eq_false_iff_ne.2 (by omega)
          have v0 : ¬ z = 0 := by omega
          have v1 : ¬ z = 1 := by omega
          have v2 : ¬ z = 2 := by omega
          have v1' : ¬ (z : Int) = 1 := by omega
          have v2' : ¬ (z : Int) = 2 := by omega
          have hadd : IntKind.i64.wrap (1000 + (i : Int)) = 1000 + (i : Int) := by rw [IntKind.wrap_i64]; omega
          have hlen : IntKind.i64.wrap ((sets.length : Int) + 1) = (sets.length : Int) + 1 := by rw [IntKind.wrap_i64]; omega
          have HPY := Lib.hid (fun W => payload_any (1000 + (i : Int)) W)
          have hml : (madeL (1000 + (i : Int)) 4080).length = 4080 := madeL_len _ _
          have HSI2 := Lib.hid (HSI.out.push (by omega : i < 80))
          generalize madeL (1000 + (i : Int)) 4080 = ml at *
          have HML := Lib.hid hml
          obtain ⟨Av, cv, rfl, _, _⟩ := own_form HLG.out.sm.ex.choose_spec.2.1
          clear hml hz3 hz5 v1' v2'
          go_wp2_with fail
          refine (HPY.out wr).mono ?_
          rintro e w6 ⟨rfl, hB6, hb6⟩
          have HLG6 := Lib.hid (HLG.out.below hb6)
          have hS6 : ¬ S wr.heap.size := fun e => by have := HLG.out.pj.lt e; omega
          have hbs6 : w.heap.size ≤ wr.heap.size := HLG.out.pj.bel.size
          have hbs7 : w.heap.size ≤ w6.heap.size := HLG6.out.pj.bel.size
          obtain ⟨⟨gs, hg1, hg2, hg3⟩, _⟩ := HLG6.out.sm
          have HOWN := Lib.hid hg2
          have HAP := Lib.hid (fun v4 w4 ho hg hbl => HLG6.out.append (v4 := v4) (w' := w4) hg1 hg3 hg2 hB6 hS6 hbs6 ho hg hbl)
          obtain ⟨i3, hi3, hy0, hy1, hy2⟩ := info_parts info_lists
          have hmx : sets.length + 1 ≤ maxLen := by simp only [maxLen]; omega
          have hby : (sets.length + 1 + (sets.length + 1) / 4 + 256) * 24 ≤ 281474976710656 := by omega
          have HRD : Hid (∀ W : World, Rd (W.alloc (.cells #[s4 wr.heap.size] 26)) 1 (some ⟨W.heap.size, 0, none⟩) 1 [s4 wr.heap.size]) := Lib.hid (fun W => Rd.new W _ #[_] 1 1 rfl)
          have hbase : w.heap.size ≤ (w6.alloc (.cells #[s4 wr.heap.size] 26)).heap.size := by rw [World.size_alloc]; omega
          unfold s4 at HRD hbase
          clear hg1 hg2 hg3 hB6 hb6 hS6 HLG HLG6
          go_wp2_with (at_builtin; refine wpList_append_Rd _ rfl (.tmp 60) (.tmp 62) _ rfl w.heap.size 26 i3 _ 1 24 Try.underlying36 hi3 hy0 hy1 hy2 rfl (.slice Av sets.length cv) sets.length _ rfl (HOWN.out.alloc _) (some ⟨w6.heap.size, 0, none⟩) 1 1 _ rfl (HRD.out _) (by simp [Value.oneCell']) hby hmx hbase ?_; intro v4 w4 hown4 hg4 _ hbl4; obtain ⟨k1, k2⟩ := HAP.out v4 w4 hown4 hg4 (by rw [World.size_alloc] at hbl4; exact hbl4.imp id And.left))
          have HK1 := Lib.hid k1
          have HK2 := Lib.hid k2
          clear k1 k2 hown4 hg4 hbl4 HAP HOWN HRD
          obtain ⟨A4, c4, rfl, _, _⟩ := own_form HK1.out.sm.ex.choose_spec.2.1
          have HSP := Lib.hid (setR_pend (some (s : Int)) (calmD bs ps) P (p : Int) ml ((sets.length : Int) + 1))
          have HR := Lib.hid (HK1.out.li.set_ (p := p) (j := sets.length) (l := ml) hp6 HML.out (by rw [List.getElem?_append_right (Nat.le_refl _), Nat.sub_self]; rfl) (by omega))
          have HG := Lib.hid (Set_pj HK1.out.pj (p : Int) ((sets.length : Int) + 1) (some ⟨wr.heap.size, 0, none⟩) 4080 4080 ml (bb_br HK2.out HML.out) (by omega) (by show ps.length ≤ _; have := HK1.out.ct; omega) (by have := HK1.out.ct; omega))
          generalize setR (some (s : Int)) (calmD bs ps) P (p : Int) ml ((sets.length : Int) + 1) = r at *
          obtain ⟨rD, rP, rE⟩ := r
          dsimp only at HSP HR HG
          go_wp2_with fail
          refine HG.out.mono ?_
          rintro e w7 ⟨S7, rfl, hj7, hmv7⟩
          obtain ⟨bs', ps', hlg⟩ := HK1.out.call HR.out hj7 hmv7 (by have h1 := HSP.out; dsimp only at h1 ⊢; exact ⟨Nat.le_trans h1.1 (by show ps.length + 1 ≤ _; omega), by omega⟩)
          rw [show (sets ++ [ml]).length = sets.length + 1 by rw [List.length_append]; rfl] at hlg
          have HLG2 := Lib.hid hlg
          clear hj7 hmv7 hlg HG HR HSP
          go_wp2_with fail
          go_meet
          exact ⟨_, _, _, _, _, _, by rw [List.length_append]; rfl, HLG2, HSI2⟩
      case rest =>
        clear HLG HSI HPK e5 w5 e5d w5d e6 w6 e3 w3' hz5 hp6 hy3 hd3 HSL
        obtain ⟨sets, s, bs, ps, P, S, rfl, HLG, HSI⟩ := hcut
        have HLS := Lib.hid (HLG.out.ss)
        obtain ⟨Av, cv, rfl, _, _⟩ := own_form HLG.out.sm.ex.choose_spec.2.1
        have HSL := HSI.out.le
        go_wp2_with fail
        go_loopw [16] (fun x wq => ∃ k : Nat, k ≤ 6 ∧ x = .int .i64 (k : Int) ∧ Hid (LG w wq gd gp gl (.slice Av sets.length cv) sets s bs ps P S (i + 1))) (fun x _ => 6 - (RowKit.intOf x).toNat)
        case atStart => exact ⟨0, by omega, rfl, HLG⟩
        case round =>
          clear HLG
          obtain ⟨k, hk, rfl, HLG⟩ := hrel
          by_cases hkl : k < 6
          · have t3 : decide ((k : Int) < 6) = true := decide_eq_true (by omega)
            have t3' : decide (k < 6) = true := decide_eq_true hkl
            have HT := Lib.hid (HLG.out.li.tell HSI.out (by omega) hkl)
            have HRD := Lib.hid (Read_pj HLG.out.pj (k : Int) (by show ps.length ≤ _; have := HLG.out.ct; omega))
            rw [HT.out.1] at HRD
            have HKL := Lib.hid hkl
            clear hkl hk
            go_wp2_with fail
            refine HRD.out.mono ?_
            rintro e w6 ⟨v6, rfl, ob6, hb6⟩
            obtain ⟨q6, c6, rfl, _, _, hc6, _, hbr6⟩ := ob6.at0 HT.out.2.1 (by omega)
            have HLG6 := Lib.hid (HLG.out.below hb6)
            have HBC : Hid (BR w6 (some ⟨q6, 8, none⟩) 4080 (((readL (calmD bs ps) (k : Int)).drop 8).take 4080)) := Lib.hid (by
              have := hbr6.cut (k := 8) (j := 4088) (c := c6) (by omega) (by omega) hc6
              rw [show (4088 - 8 : Nat) = 4080 from rfl] at this
              simpa [cutA, add_plain, show ¬ c6 = 8 by omega] using this)
            have HNE := Lib.hid HT.out.2.2
            generalize (((readL (calmD bs ps) (k : Int)).drop 8).take 4080) = bk at *
            obtain ⟨i0, hi0, hz0, hz1, hz2⟩ := info_parts info_u8
            have hcut := fun W => run_cut_lh (P := Try.prog) W 26 5 i0 Try.underlying26 hi0 1 hz1 (some ⟨q6, 0, none⟩) 4096 c6 8 4088 8 4088 rfl rfl (by omega) (by omega)
            have hca : cutA (some ⟨q6, 0, none⟩) c6 8 1 = some ⟨q6, 8, none⟩ := by
              unfold cutA
              rw [if_neg (by omega)]
              simp [add_plain]
            rw [hca] at hcut
            have c0 := HLG6.out.bx.c0
            clear ob6 hb6 hbr6 hca hi0 hz0 hz1 hz2 HRD HT HLG
            go_wp2_with fail
            clear c0
            go_loopw [19] (fun x wt => ∃ j : Nat, s ≤ j ∧ j ≤ sets.length ∧ x = .int .i64 (j : Int) ∧ Hid (LG w wt gd gp gl (.slice Av sets.length cv) sets s bs ps P S (i + 1)) ∧ Hid (BR wt (some ⟨q6, 8, none⟩) 4080 bk)) (fun x _ => sets.length - (RowKit.intOf x).toNat)
            case atStart => exact ⟨s, Nat.le_refl _, HLS.out, rfl, HLG6, HBC⟩
            case round =>
              clear HLG6 HBC
              obtain ⟨j, hsj, hj, rfl, HLG, HBC⟩ := hrel
              by_cases hjl : j < sets.length
              · have t4 : decide ((j : Int) < (sets.length : Int)) = true := decide_eq_true (by omega)
                have t4' : decide (j < sets.length) = true := decide_eq_true hjl
                have j1 : (0 : Int) ≤ (j : Int) := Int.natCast_nonneg _
                have j2 : (j : Int) < (sets.length : Int) := by omega
                have hl8 : (sets.getD j []).length = 4080 := by
                  obtain ⟨x, _, ex⟩ := HSI.out.of (sets.getD j []) (getD_mem hjl)
                  rw [ex]
                  exact madeL_len _ _
                obtain ⟨qv, gj, cw, ev, cj, hbj⟩ := HLG.out.sm.at_ hjl hl8
                injection ev with ev1 _ ev3
                subst ev1 ev3
                unfold s4 at cj
                have HSB := Lib.hid (fun q => SameBytes_any (some ⟨q6, 8, none⟩) (some ⟨gj, 0, none⟩) 4080 4080 (c6 - 8) 4080 bk (sets.getD j []) (wr.drewN q) (HBC.out.drewN q) (hbj.drewN q))
                rw [HNE.out j hsj hjl] at HSB
                clear hbj hl8
                go_wp2_with fail
                go_quiet ((go_at_call 14; exact Calls.quiet_of_same ((HSB.out _).mono (fun _ _ h => ⟨h.1, h.2.symm⟩))))
                have HLG2 := Lib.hid (HLG.out.below (gr_drewN (gr_refl wr) nq))
                have HBC2 := Lib.hid (HBC.out.drewN nq)
                go_wp2_with fail
                go_roundw
                case rel => exact ⟨j + 1, by omega, by omega, by go_num, HLG2, HBC2⟩
                case measure => simp [RowKit.intOf]; omega
              · have hje : j = sets.length := by omega
                have t4 : decide ((j : Int) < (sets.length : Int)) = false := decide_eq_false (by omega)
                have t4' : decide (j < sets.length) = false := decide_eq_false hjl
                have hk6 := HKL.out
                clear hje
                go_wp2_with fail
                go_roundw
                case rel => exact ⟨k + 1, HKL.out, by go_num, HLG⟩
                case measure => simp [RowKit.intOf]; have := HKL.out; omega
          · have hk6 : k = 6 := by omega
            have t3 : decide ((k : Int) < 6) = false := decide_eq_false (by omega)
            have t3' : decide (k < 6) = false := decide_eq_false hkl
            clear hk6
            go_wp2_with fail
            go_roundw
            case rel => exact ⟨i + 1, sets, s, bs, ps, P, S, by omega, by omega, by go_num, rfl, HLG, HSI⟩
            case measure => simp [RowKit.intOf]; omega
    · by_cases hl1 : i < n
      · have t1 : decide ((i : Int) < (n : Int)) = true := decide_eq_true (by omega)
        have t1' : decide (i < n) = true := decide_eq_true hl1
        have t2 : decide ((i : Int) < 80) = false := decide_eq_false (by omega)
        have t2' : decide (i < 80) = false := decide_eq_false (by omega)
        clear hlt hl1
        go_wp2_with fail
        refine (awake09_any _).mono ?_
        rintro e w9 ⟨rfl, hb9⟩
        have HB9 := Lib.hid (HLG.out.pj.bel.trans (hb9.mono HLG.out.pj.bel.size))
        clear hb9
        go_wp2_with fail
        go_ret
        exact ⟨rfl, HB9.out⟩
      · have t1 : decide ((i : Int) < (n : Int)) = false := decide_eq_false (by omega)
        have t1' : decide (i < n) = false := decide_eq_false hl1
        clear hlt hl1
        go_wp2_with fail
        refine (awake09_any _).mono ?_
        rintro e w9 ⟨rfl, hb9⟩
        have HB9 := Lib.hid (HLG.out.pj.bel.trans (hb9.mono HLG.out.pj.bel.size))
        clear hb9
        go_wp2_with fail
        go_ret
        exact ⟨rfl, HB9.out⟩

end Go.Proofs.Ytmdgnjmhbjdlmaa
