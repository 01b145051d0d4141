/-
  The reference of chapter 03: left.
-/
import Derived.Test.YtjopobkcijkpmaaDpF
import Derived.Test.YtjopobkcijkpmaaReg
namespace Go.Proofs.Ytjopobkcijkpmaa
open Go.RowKit

/-- Two variables: the receiver and the crash. -/
theorem twoC (w : World) (x0 x1 x2 x3 x4 x5 y0 y1 y2 : Value) : ∀ w1, w1 = (w.alloc (.cells #[x0, x1, x2, x3, x4, x5] 66)).alloc (.cells #[y0, y1, y2] 25) →
    B6 w1 w.heap.size x0 x1 x2 x3 x4 x5 ∧ w1.heap[w.heap.size + 1]? = some (.cells #[y0, y1, y2] 25 (0, 0)) ∧ Below w.heap.size w w1 := by
  rintro w1 rfl
  have h := B6.new w x0 x1 x2 x3 x4 x5
  have hb := gr_alloc (gr_refl w) (.cells #[x0, x1, x2, x3, x4, x5] 66)
  have hs : (w.alloc (.cells #[x0, x1, x2, x3, x4, x5] 66)).heap.size = w.heap.size + 1 := World.size_alloc _ _
  generalize w.alloc (.cells #[x0, x1, x2, x3, x4, x5] 66) = w2 at *
  rw [← hs]
  exact ⟨h.below (gr_alloc (gr_refl w2) _), heap_alloc_new w2 _, gr_alloc hb _⟩
theorem RKd.one {G : Nat → Prop} {w : World} {bA wA : Option Addr} {bus : List Value} {wus : List (Int × Value)} {D : DiskS} (h : RKd G w bA bus wA wus D) : ∀ u ∈ bus, u.oneCell' = true := by
  intro u hu
  obtain ⟨i, hi, e⟩ := List.mem_iff_getElem.1 hu
  have hl := h.br.1.1
  have hd : i < D.blocks.length := by omega
  obtain ⟨_, A, c, e2, _⟩ := h.bv i u _ (by rw [List.getElem?_eq_getElem hi, e]) (List.getElem?_eq_getElem hd)
  rw [e2]
  rfl

set_option maxRecDepth 100000 in
set_option maxHeartbeats 4000000 in
theorem refLeft_any (G : Nat → Prop) (v : Value) (D : DiskS) (K : Option Addr) (nk ck : Nat) (keep : List Bool) (torn : Int) (cu : Nat) (w : World) (h : RK G w v D) (hG : ∀ k, G k → k < w.heap.size) (hK : LR w K nk keep) (hnk : nk ≤ 9223372036854775807) (hcu : cu ≤ 4096) (hn1 : D.blocks.length ≤ 4096) (hp : D.pending.length ≤ 1000000) :
    Calls Try.prog 104 #[v, .agg #[.slice K nk ck, .int .i64 torn, .int .i64 (cu : Int)]] w fun e w' => ∃ A c us, e = .returned (.slice A D.blocks.length c) ∧ D.blocks.length ≤ c ∧ c ≤ maxLen ∧ RdG (plusG G w w') w' 1 A D.blocks.length us ∧
      (∀ (i : Nat) (u : Value) (l : List UInt8), us[i]? = some u → (crashTo keep torn cu D.blocks D.pending D.pending.length)[i]? = some l → VG (plusG G w w') w' u l) ∧ Below w.heap.size w w' := by
  obtain ⟨bA, bc, wA, wc, bus, wus, rfl, k1, k2, k3, k4, hd⟩ := h
  have HT := Lib.hid (twoC w (.slice bA D.blocks.length bc) (.slice wA D.pending.length wc) (.bool D.down) (.int .i64 D.power) (.int .i64 D.fault) (.int .i64 D.wi) (.slice K nk ck) (.int .i64 torn) (.int .i64 (cu : Int)))
  obtain ⟨i0, hi0, hz0, hz1, hz2⟩ := info_parts info_lists
  obtain ⟨i1, hi1, hy0, hy1, hy2⟩ := info_parts info_u8
  have HDD := Lib.hid hd
  have HGG := Lib.hid hG
  have HKK := Lib.hid hK
  have HN1 := Lib.hid hn1
  clear hd hG hK
  unfold maxLen at k2 k4
  go_enter Try.func104, Try.ntmps104
  go_upto_region 1 with fail
  obtain ⟨x1, x2, hb⟩ := HT.out _ rfl
  generalize (w.alloc (.cells #[.slice bA D.blocks.length bc, .slice wA D.pending.length wc, .bool D.down, .int .i64 D.power, .int .i64 D.fault, .int .i64 D.wi] 66)).alloc (.cells #[.slice K nk ck, .int .i64 torn, .int .i64 (cu : Int)] 25) = w1 at *
  clear HT
  have hs1 : w.heap.size + 1 < w1.heap.size := (Array.getElem?_eq_some_iff.1 x2).1
  have y0 := x1.c0
  go_wp2_with (at_builtin; refine wpList_append_Rd _ rfl _ _ _ rfl w1.heap.size 33 i0 _ 1 24 Try.underlying31 hi0 hz0 hz1 hz2 rfl (.slice none 0 0) 0 [] rfl ⟨rfl, .inl ⟨rfl, rfl⟩⟩ bA D.blocks.length bc bus rfl ((HDD.out.below hb).br.1) HDD.out.one (by omega) (by simp only [maxLen]; omega) (Nat.le_refl _) ?_; intro v2 w2 hown2 hg2 _ _; clear y0)
  rw [Nat.zero_add, List.nil_append] at hown2
  have hb12 : Below w1.heap.size w1 w2 := (gr_refl w1).grown hg2 (Nat.le_refl _) (by simp [Value.ownBlock])
  have HG1 : Hid (∀ k, G k → k < w1.heap.size) := Lib.hid (fun k hk => by have := HGG.out k hk; omega)
  have HLO : Hid (LO G w1 w2 v2 bus D.blocks) := Lib.hid ⟨hb12, hown2, fun i u l h1 h2 => ((HDD.out.bv i u l h1 h2).below (gr_trans hb hb12)).mono (fun k hk => .inl hk)⟩
  have HX1 := Lib.hid x1
  have HX2 := Lib.hid x2
  have HB := Lib.hid hb
  have HCL : Hid (∀ k, (crashTo keep torn cu D.blocks D.pending k).length = D.blocks.length) := Lib.hid (fun k => crashTo_len _ _ _ _ _ k)
  have HST : Hid (∀ k, crashTo keep torn cu D.blocks D.pending (k + 1) = crash1 keep torn cu k (crashTo keep torn cu D.blocks D.pending k) (D.pending.getD k (0, []))) := Lib.hid (fun k => rfl)
  have HWA : Hid (∀ k, k < D.pending.length → ∃ g' o' u', wA = some ⟨g', o', none⟩ ∧ w.cell? ⟨g', o' + k * 2, none⟩ = some (.int .i64 (((D.pending.getD k (0, [])).1 : Nat) : Int)) ∧ w.cell? ⟨g', o' + k * 2 + 1, none⟩ = some u' ∧ VG G w u' (D.pending.getD k (0, [])).2 ∧ (D.pending.getD k (0, [])).1 < D.blocks.length) := Lib.hid (fun k hk => HDD.out.wat hk)
  have HC0 : Hid (crashTo keep torn cu D.blocks D.pending 0 = D.blocks) := Lib.hid rfl
  obtain ⟨A2, c2, rfl, hc2, hc2'⟩ := own_form hown2
  have HLO0 : Hid (LO G w1 w2 (.slice A2 D.blocks.length c2) bus (crashTo keep torn cu D.blocks D.pending 0)) := Lib.hid (by rw [HC0.out]; exact HLO.out)
  clear hown2 hg2 hb12 x1 x2 hb HDD HLO HC0
  generalize hnb : D.blocks.length = nb at *
  generalize hnp : D.pending.length = np at *
  have HNB := Lib.hid hnb
  have HNP := Lib.hid hnp
  clear hnb hnp
  go_wp2_with fail
  go_loopw [6] (fun i wr => ∃ (k : Nat) (us : List Value), k ≤ np ∧ i = .int .i64 (k : Int) ∧ Hid (LO G w1 wr (.slice A2 nb c2) us (crashTo keep torn cu D.blocks D.pending k))) (fun i _ => np - (intOf i).toNat)
  case atStart => exact ⟨0, bus, Nat.zero_le _, rfl, HLO0⟩
  case round =>
    clear HLO0
    obtain ⟨k, us, hk, rfl, HL⟩ := hrel
    have hX1 := HX1.out.below HL.out.bel
    have hX2 : wr.heap[w.heap.size + 1]? = some (.cells #[.slice K nk ck, .int .i64 torn, .int .i64 (cu : Int)] 25 (0, 0)) := (HL.out.bel.block _ hs1).trans HX2.out
    have y1 := hX1.c1
    have z0 : wr.cell? ⟨w.heap.size + 1, 0, none⟩ = some (.slice K nk ck) := by rw [cell_of_row wr _ 0 _ _ _ hX2]; rfl
    have z1 : wr.cell? ⟨w.heap.size + 1, 1, none⟩ = some (.int .i64 torn) := by rw [cell_of_row wr _ 1 _ _ _ hX2]; rfl
    have z2 : wr.cell? ⟨w.heap.size + 1, 2, none⟩ = some (.int .i64 (cu : Int)) := by rw [cell_of_row wr _ 2 _ _ _ hX2]; rfl
    have HBW := Lib.hid (gr_trans HB.out (HL.out.bel.mono (by omega)))
    clear hX1 hX2
    by_cases hlt : k < np
    · have t1 : decide ((k : Int) < (np : Int)) = true := decide_eq_true (by omega)
      have t1' : decide (k < np) = true := decide_eq_true hlt
      have j0 : (0 : Int) ≤ (k : Int) := Int.natCast_nonneg _
      have j1 : (k : Int) < (np : Int) := by omega
      obtain ⟨g', o', u', rfl, q1, q2, q3, q4⟩ := HWA.out k hlt
      have HL1 := HST.out k
      generalize D.pending.getD k (0, []) = p at *
      obtain ⟨p1, p2⟩ := p
      dsimp only at q1 q2 q3 q4 HL1
      have HLH := Lib.hid HL1
      have HP := Lib.hid (q3.below HBW.out)
      have yq1 := keep_of_below HBW.out q1
      have yq2 := keep_of_below HBW.out q2
      clear q1 q2 q3 HL1
      obtain ⟨O, cO, uo, eA, co, fo, hvo⟩ := HL.out.at_ (i := p1) (by rw [HCL.out]; exact q4)
      rw [HCL.out] at eA
      injection eA with eA _ eC
      subst eA eC
      have i0' : (0 : Int) ≤ (p1 : Int) := Int.natCast_nonneg _
      have i1' : (p1 : Int) < (nb : Int) := by omega
      have HVO := Lib.hid hvo
      clear hvo
      by_cases ht : (k : Int) = torn
      · subst ht
        have t2 : ((k : Int) == (k : Int)) = true := by simp
        have t2' : (k == k) = true := by simp
        obtain ⟨hl5, Ap, cp, rfl, hrp, _, hcp, _⟩ := HP.out
        obtain ⟨hlo, Ao, cO2, rfl, hro, _, hco, _⟩ := HVO.out
        have HRP := Lib.hid (hrp.pre hcu)
        have HRO := Lib.hid (hro.cutE hcu hco)
        have hcut1 := fun W => run_cut_h (P := Try.prog) W 33 5 i1 Try.underlying33 hi1 1 hy1 Ap 4096 cp (cu : Int) cu rfl (by omega)
        have hcut2 := fun W => run_cut_l (P := Try.prog) W 33 5 i1 Try.underlying33 hi1 1 hy1 Ao 4096 cO2 (cu : Int) cu rfl hcu
        have HLEN : Hid ((p2.take cu).length = cu ∧ (((crashTo keep (k : Int) cu D.blocks D.pending k).getD p1 []).drop cu).length = 4096 - cu) := Lib.hid ⟨by rw [List.length_take, hl5]; omega, by rw [List.length_drop, hlo]⟩
        have HSTEP : Hid (∀ (w3 : World) (A : Option Addr) (c : Nat), Below wr.heap.size wr w3 → OB w3 wr.heap.size (.slice A 4096 c) (p2.take cu ++ ((crashTo keep (k : Int) cu D.blocks D.pending k).getD p1 []).drop cu) → LO G w1 (w3.setCell ⟨O, p1, none⟩ (.slice A 4096 c)) (.slice (some ⟨O, 0, none⟩) nb c2) (us.set p1 (.slice A 4096 c)) (crashTo keep (k : Int) cu D.blocks D.pending (k + 1))) := Lib.hid (by
          intro w3 A c hb3 hob
          rw [HLH.out]
          unfold crash1
          rw [if_pos rfl]
          have hL3 := HL.out.below hb3
          exact hL3.lay HG1.out (by rw [HCL.out]) (by rw [HCL.out]; exact q4) (hL3.fresh HL.out.bel.size hob (by rw [List.length_append, HLEN.out.1, HLEN.out.2]; omega)))
        clear hl5 hrp hlo hro HP HVO HL HLH hlt hk
        go_upto_region 9 with fail
        have Y1 := Lib.hid y1
        have YQ := Lib.hid yq2
        have Z2 := Lib.hid z2
        have YO := Lib.hid co
        clear y1 yq1 yq2 z0 z1 z2 co
        refine wp_region_lastL (by kernel_rfl) (by simp) (by kernel_rfl) (by kernel_rfl) ?_
        simp only [List.dropLast, List.length_cons, List.length_nil]
        refine' wpAny_to_tail (l0 := #[false, false, false, false, false, false, false, false, false, false, false]) (by kernel_rfl) (by kernel_rfl) (by kernel_rfl) (by kernel_rfl) (by kernel_rfl)
          [MP.is (.slice none 0 0), MP.is (.pointer (some ⟨w.heap.size, 1, none⟩)), MP.is (.slice (some ⟨g', o', none⟩) np wc), MP.is (.int .i64 (k : Int)), MP.is (.pointer (some ⟨g', o' + k * 2, none⟩)), MP.is (.pointer (some ⟨g', o' + k * 2 + 1, none⟩)), MP.is (.slice Ap 4096 cp), MP.is (.pointer (some ⟨w.heap.size + 1, 2, none⟩)), MP.is (.int .i64 (cu : Int)), MP.is (.slice Ap cu cp), MP.obx wr.heap.size cu (p2.take cu)]
          (fun _ => false) #[true, true, true, true, true, true, true, true, true, true, true] rfl (by kernel_rfl) rfl (by kernel_rfl) (by kernel_rfl) (by kernel_rfl) (by kernel_rfl) (fun _ => undef) (by rfl) ?hR01 ?hAA1 ?hst1 ?hend1
        case hR01 =>
          intro j hj
          have hj2 : j ∈ [] := hj
          cases hj2
        case hAA1 =>
          intro f
          conv => lhs; simp only [putA, dstOf, List.size_toArray, List.length_cons, List.length_nil, Nat.zero_add, Nat.reduceAdd, List.getElem?_toArray, List.getElem?_cons_zero, List.getElem?_cons_succ, Option.bind_some, Act.put, List.setIfInBounds_toArray, List.set_cons_zero, List.set_cons_succ]
          first | done | exact rfl
        case hst1 =>
          refine Steps.of_list (l' := [0, 1, 2, 3, 4, 5, 6, 7, 8, 9, 10]) (by kernel_rfl) ?_
          refine Steps.cons rfl ?_ ?_
          · intro f wz hB h K Q hK
            try simp only [List.getElem_toArray, List.getElem_cons_zero]
            go_simp
            exact hK _ _ (gr_refl _) rfl
          refine Steps.cons rfl ?_ ?_
          · intro f wz hB h K Q hK
            try simp only [List.getElem_toArray, List.getElem_cons_succ, List.getElem_cons_zero]
            go_simp
            exact hK _ _ (gr_refl _) rfl
          refine Steps.cons rfl ?_ ?_
          · intro f wz hB h K Q hK
            have h1 : (MP.is (.pointer (some ⟨w.heap.size, 1, none⟩))).p (f 1) wz := h 1 (by kernel_rfl)
            have e1 : f 1 = (.pointer (some ⟨w.heap.size, 1, none⟩)) := h1
            simp only [e1] at hK ⊢
            clear e1
            try simp only [List.getElem_toArray, List.getElem_cons_succ, List.getElem_cons_zero]
            have y0 := keep_of_below hB Y1.out
            have y1 := keep_of_below hB YQ.out
            have y2 := keep_of_below hB Z2.out
            go_simp
            exact hK _ _ (gr_refl _) rfl
          refine Steps.cons rfl ?_ ?_
          · intro f wz hB h K Q hK
            try simp only [List.getElem_toArray, List.getElem_cons_succ, List.getElem_cons_zero]
            go_simp
            exact hK _ _ (gr_refl _) rfl
          refine Steps.cons rfl ?_ ?_
          · intro f wz hB h K Q hK
            have h2 : (MP.is (.slice (some ⟨g', o', none⟩) np wc)).p (f 2) wz := h 2 (by kernel_rfl)
            have e2 : f 2 = (.slice (some ⟨g', o', none⟩) np wc) := h2
            have h3 : (MP.is (.int .i64 (k : Int))).p (f 3) wz := h 3 (by kernel_rfl)
            have e3 : f 3 = (.int .i64 (k : Int)) := h3
            simp only [e2, e3] at hK ⊢
            clear e2 e3
            try simp only [List.getElem_toArray, List.getElem_cons_succ, List.getElem_cons_zero]
            go_simp
            exact hK _ _ (gr_refl _) rfl
          refine Steps.cons rfl ?_ ?_
          · intro f wz hB h K Q hK
            have h4 : (MP.is (.pointer (some ⟨g', o' + k * 2, none⟩))).p (f 4) wz := h 4 (by kernel_rfl)
            have e4 : f 4 = (.pointer (some ⟨g', o' + k * 2, none⟩)) := h4
            simp only [e4] at hK ⊢
            clear e4
            try simp only [List.getElem_toArray, List.getElem_cons_succ, List.getElem_cons_zero]
            go_simp
            exact hK _ _ (gr_refl _) rfl
          refine Steps.cons rfl ?_ ?_
          · intro f wz hB h K Q hK
            have h5 : (MP.is (.pointer (some ⟨g', o' + k * 2 + 1, none⟩))).p (f 5) wz := h 5 (by kernel_rfl)
            have e5 : f 5 = (.pointer (some ⟨g', o' + k * 2 + 1, none⟩)) := h5
            simp only [e5] at hK ⊢
            clear e5
            try simp only [List.getElem_toArray, List.getElem_cons_succ, List.getElem_cons_zero]
            have y0 := keep_of_below hB Y1.out
            have y1 := keep_of_below hB YQ.out
            have y2 := keep_of_below hB Z2.out
            go_simp
            exact hK _ _ (gr_refl _) rfl
          refine Steps.cons rfl ?_ ?_
          · intro f wz hB h K Q hK
            try simp only [List.getElem_toArray, List.getElem_cons_succ, List.getElem_cons_zero]
            go_simp
            exact hK _ _ (gr_refl _) rfl
          refine Steps.cons rfl ?_ ?_
          · intro f wz hB h K Q hK
            have h7 : (MP.is (.pointer (some ⟨w.heap.size + 1, 2, none⟩))).p (f 7) wz := h 7 (by kernel_rfl)
            have e7 : f 7 = (.pointer (some ⟨w.heap.size + 1, 2, none⟩)) := h7
            simp only [e7] at hK ⊢
            clear e7
            try simp only [List.getElem_toArray, List.getElem_cons_succ, List.getElem_cons_zero]
            have y0 := keep_of_below hB Y1.out
            have y1 := keep_of_below hB YQ.out
            have y2 := keep_of_below hB Z2.out
            go_simp
            exact hK _ _ (gr_refl _) rfl
          refine Steps.cons rfl ?_ ?_
          · intro f wz hB h K Q hK
            have h6 : (MP.is (.slice Ap 4096 cp)).p (f 6) wz := h 6 (by kernel_rfl)
            have e6 : f 6 = (.slice Ap 4096 cp) := h6
            have h8 : (MP.is (.int .i64 (cu : Int))).p (f 8) wz := h 8 (by kernel_rfl)
            have e8 : f 8 = (.int .i64 (cu : Int)) := h8
            simp only [e6, e8] at hK ⊢
            clear e6 e8
            try simp only [List.getElem_toArray, List.getElem_cons_succ, List.getElem_cons_zero]
            go_simp
            exact hK _ _ (gr_refl _) rfl
          refine Steps.cons rfl ?_ ?_
          · intro f wz hB h K Q hK
            have h0 : (MP.is (.slice none 0 0)).p (f 0) wz := h 0 (by kernel_rfl)
            have e0 : f 0 = (.slice none 0 0) := h0
            have h9 : (MP.is (.slice Ap cu cp)).p (f 9) wz := h 9 (by kernel_rfl)
            have e9 : f 9 = (.slice Ap cu cp) := h9
            simp only [e0, e9] at hK ⊢
            clear e0 e9
            try simp only [List.getElem_toArray, List.getElem_cons_succ, List.getElem_cons_zero]
            try rw [if_pos (by rfl)]
            refine wp_append_Rd _ (.tmp 30) (.tmp 39) _ rfl wr.heap.size 5 i1 _ 1 1 Try.underlying33 hi1 hy0 hy1 hy2 rfl (.slice none 0 0) 0 [] rfl ⟨rfl, .inl ⟨rfl, rfl⟩⟩ Ap cu cp ((p2.take cu).map bv) rfl (HRP.out.below (bel_drew hB)) (one_bv _) (by omega) (by simp only [maxLen]; omega) (bel_drew hB).size ?_
            intro v8 w8 ho8 hg8 _ _
            rw [Nat.zero_add, List.nil_append] at ho8
            obtain ⟨A8, c8, rfl, _, _⟩ := own_form ho8
            exact hK _ _ ((gr_refl _).grown hg8 (Nat.le_refl _) (by simp [Value.ownBlock])) ⟨A8, c8, rfl, ho8⟩
          exact Steps.nil
        intro f w3 hB3 hR
        conv => arg 7; simp only [putL, dstOf, List.size_toArray, List.length_cons, List.length_nil, Nat.zero_add, Nat.reduceAdd, List.getElem?_toArray, List.getElem?_cons_zero, List.getElem?_cons_succ, Option.bind_some, Act.put, List.setIfInBounds_toArray, List.set_cons_zero, List.set_cons_succ, Array.getD_eq_getD_getElem?, Option.getD_some, if_true, if_false, Bool.false_eq_true]
        have e0 : f 0 = (.slice none 0 0) := hR 0 (by decide) rfl
        have e1 : f 1 = (.pointer (some ⟨w.heap.size, 1, none⟩)) := hR 1 (by decide) rfl
        have e2 : f 2 = (.slice (some ⟨g', o', none⟩) np wc) := hR 2 (by decide) rfl
        have e3 : f 3 = (.int .i64 (k : Int)) := hR 3 (by decide) rfl
        have e4 : f 4 = (.pointer (some ⟨g', o' + k * 2, none⟩)) := hR 4 (by decide) rfl
        have e5 : f 5 = (.pointer (some ⟨g', o' + k * 2 + 1, none⟩)) := hR 5 (by decide) rfl
        have e6 : f 6 = (.slice Ap 4096 cp) := hR 6 (by decide) rfl
        have e7 : f 7 = (.pointer (some ⟨w.heap.size + 1, 2, none⟩)) := hR 7 (by decide) rfl
        have e8 : f 8 = (.int .i64 (cu : Int)) := hR 8 (by decide) rfl
        have e9 : f 9 = (.slice Ap cu cp) := hR 9 (by decide) rfl
        obtain ⟨A103, c103, e10, r103⟩ := (show (MP.obx wr.heap.size cu (p2.take cu)).p (f 10) w3 from hR 10 (by decide) rfl)
        simp only [e0, e1, e2, e3, e4, e5, e6, e7, e8, e9, e10]
        clear e0 e1 e2 e3 e4 e5 e6 e7 e8 e9 e10 hR
        refine wpAny_of_held (S := fun _ => True) _ _ _ _ ?_
        refine wpAnyH_done (by kernel_rfl) ?_ _
        refine lastQ_step (o := _) rfl (fun KK hK => ?_)
        try simp only [List.getElem_toArray, List.getElem_cons_succ, List.getElem_cons_zero]
        go_simp
        refine hK _ _ ?_
        clear hK KK
        have hb3 := bel_drew hB3
        have YO3 := Lib.hid (keep_of_below hb3 YO.out)
        have Z23 := Lib.hid (keep_of_below hb3 Z2.out)
        have HR3 := Lib.hid r103
        clear r103 YQ Y1
        go_upto_region 10 with fail
        refine wp_region_lastL (by kernel_rfl) (by simp) (by kernel_rfl) (by kernel_rfl) ?_
        simp only [List.dropLast, List.length_cons, List.length_nil]
        refine wpAny_take (i := 0) (v := (.slice (some ⟨O, 0, none⟩) nb c2)) rfl (by kernel_rfl) (by kernel_rfl) (by kernel_rfl) (fun _ _ _ h => h) (Or.inl ⟨by rfl, fun _ => rfl⟩) ?_
        simp only [Act.put, List.getElem_toArray, List.getElem_cons_zero, List.setIfInBounds_toArray, List.set_cons_zero, List.set_cons_succ]
        refine wpAny_take (i := 1) (v := (.int .i64 (p1 : Int))) rfl (by kernel_rfl) (by kernel_rfl) (by kernel_rfl) (fun _ _ _ h => h) (Or.inl ⟨by rfl, fun _ => rfl⟩) ?_
        simp only [Act.put, List.getElem_toArray, List.getElem_cons_succ, List.getElem_cons_zero, List.setIfInBounds_toArray, List.set_cons_zero, List.set_cons_succ]
        refine' wpAny_to_tail (l0 := #[true, true, false, false, false, false, false, false, false, false, false, false]) (by kernel_rfl) (by kernel_rfl) (by kernel_rfl) (by kernel_rfl) (by kernel_rfl)
          [MP.is (.slice (some ⟨O, 0, none⟩) nb c2), MP.is (.int .i64 (p1 : Int)), MP.is (.slice A103 cu c103), MP.is (.slice (some ⟨O, 0, none⟩) nb c2), MP.is (.int .i64 (p1 : Int)), MP.is (.pointer (some ⟨O, p1, none⟩)), MP.is (.slice Ao 4096 cO2), MP.is (.pointer (some ⟨w.heap.size + 1, 2, none⟩)), MP.is (.int .i64 (cu : Int)), MP.is (.slice (cutA Ao cO2 cu 1) (4096 - cu) (cO2 - cu)), MP.any, MP.is (.pointer (some ⟨O, p1, none⟩))]
          (fun j => j == 10 || j == 11) #[true, true, true, true, true, true, true, true, true, true, false, false] rfl (by kernel_rfl) rfl (by kernel_rfl) (by kernel_rfl) (by kernel_rfl) (by kernel_rfl) (fun j => if j = 0 then (.slice (some ⟨O, 0, none⟩) nb c2) else if j = 1 then (.int .i64 (p1 : Int)) else undef) (by rfl) ?hR02 ?hAA2 ?hst2 ?hend2
        case hR02 =>
          intro j hj
          have hj2 : j ∈ [0, 1] := hj
          simp only [List.mem_cons, List.not_mem_nil, or_false] at hj2
          rcases hj2 with rfl | rfl
          all_goals exact rfl
        case hAA2 =>
          intro f
          conv => lhs; simp only [putA, dstOf, List.size_toArray, List.length_cons, List.length_nil, Nat.zero_add, Nat.reduceAdd, List.getElem?_toArray, List.getElem?_cons_zero, List.getElem?_cons_succ, Option.bind_some, Act.put, List.setIfInBounds_toArray, List.set_cons_zero, List.set_cons_succ]
          first | done | exact rfl
        case hst2 =>
          refine Steps.of_list (l' := [2, 3, 4, 5, 6, 7, 8, 9]) (by kernel_rfl) ?_
          refine Steps.cons rfl ?_ ?_
          · intro f wz hB h K Q hK
            try simp only [List.getElem_toArray, List.getElem_cons_succ, List.getElem_cons_zero]
            go_simp
            exact hK _ _ (gr_refl _) rfl
          refine Steps.cons rfl ?_ ?_
          · intro f wz hB h K Q hK
            try simp only [List.getElem_toArray, List.getElem_cons_succ, List.getElem_cons_zero]
            go_simp
            exact hK _ _ (gr_refl _) rfl
          refine Steps.cons rfl ?_ ?_
          · intro f wz hB h K Q hK
            try simp only [List.getElem_toArray, List.getElem_cons_succ, List.getElem_cons_zero]
            go_simp
            exact hK _ _ (gr_refl _) rfl
          refine Steps.cons rfl ?_ ?_
          · intro f wz hB h K Q hK
            have h3 : (MP.is (.slice (some ⟨O, 0, none⟩) nb c2)).p (f 3) wz := h 3 (by kernel_rfl)
            have e3 : f 3 = (.slice (some ⟨O, 0, none⟩) nb c2) := h3
            have h4 : (MP.is (.int .i64 (p1 : Int))).p (f 4) wz := h 4 (by kernel_rfl)
            have e4 : f 4 = (.int .i64 (p1 : Int)) := h4
            simp only [e3, e4] at hK ⊢
            clear e3 e4
            try simp only [List.getElem_toArray, List.getElem_cons_succ, List.getElem_cons_zero]
            go_simp
            exact hK _ _ (gr_refl _) rfl
          refine Steps.cons rfl ?_ ?_
          · intro f wz hB h K Q hK
            have h5 : (MP.is (.pointer (some ⟨O, p1, none⟩))).p (f 5) wz := h 5 (by kernel_rfl)
            have e5 : f 5 = (.pointer (some ⟨O, p1, none⟩)) := h5
            simp only [e5] at hK ⊢
            clear e5
            try simp only [List.getElem_toArray, List.getElem_cons_succ, List.getElem_cons_zero]
            have y0 := keep_of_below hB YO3.out
            have y1 := keep_of_below hB Z23.out
            go_simp
            exact hK _ _ (gr_refl _) rfl
          refine Steps.cons rfl ?_ ?_
          · intro f wz hB h K Q hK
            try simp only [List.getElem_toArray, List.getElem_cons_succ, List.getElem_cons_zero]
            go_simp
            exact hK _ _ (gr_refl _) rfl
          refine Steps.cons rfl ?_ ?_
          · intro f wz hB h K Q hK
            have h7 : (MP.is (.pointer (some ⟨w.heap.size + 1, 2, none⟩))).p (f 7) wz := h 7 (by kernel_rfl)
            have e7 : f 7 = (.pointer (some ⟨w.heap.size + 1, 2, none⟩)) := h7
            simp only [e7] at hK ⊢
            clear e7
            try simp only [List.getElem_toArray, List.getElem_cons_succ, List.getElem_cons_zero]
            have y0 := keep_of_below hB YO3.out
            have y1 := keep_of_below hB Z23.out
            go_simp
            exact hK _ _ (gr_refl _) rfl
          refine Steps.cons rfl ?_ ?_
          · intro f wz hB h K Q hK
            have h6 : (MP.is (.slice Ao 4096 cO2)).p (f 6) wz := h 6 (by kernel_rfl)
            have e6 : f 6 = (.slice Ao 4096 cO2) := h6
            have h8 : (MP.is (.int .i64 (cu : Int))).p (f 8) wz := h 8 (by kernel_rfl)
            have e8 : f 8 = (.int .i64 (cu : Int)) := h8
            simp only [e6, e8] at hK ⊢
            clear e6 e8
            try simp only [List.getElem_toArray, List.getElem_cons_succ, List.getElem_cons_zero]
            go_simp
            exact hK _ _ (gr_refl _) rfl
          exact Steps.nil
        intro f w4 hB4 hR
        conv => arg 7; simp only [putL, dstOf, List.size_toArray, List.length_cons, List.length_nil, Nat.zero_add, Nat.reduceAdd, List.getElem?_toArray, List.getElem?_cons_zero, List.getElem?_cons_succ, Option.bind_some, Act.put, List.setIfInBounds_toArray, List.set_cons_zero, List.set_cons_succ, Array.getD_eq_getD_getElem?, Option.getD_some, if_true, if_false, Bool.false_eq_true]
        have e0 : f 0 = (.slice (some ⟨O, 0, none⟩) nb c2) := hR 0 (by decide) rfl
        have e1 : f 1 = (.int .i64 (p1 : Int)) := hR 1 (by decide) rfl
        have e2 : f 2 = (.slice A103 cu c103) := hR 2 (by decide) rfl
        have e3 : f 3 = (.slice (some ⟨O, 0, none⟩) nb c2) := hR 3 (by decide) rfl
        have e4 : f 4 = (.int .i64 (p1 : Int)) := hR 4 (by decide) rfl
        have e5 : f 5 = (.pointer (some ⟨O, p1, none⟩)) := hR 5 (by decide) rfl
        have e6 : f 6 = (.slice Ao 4096 cO2) := hR 6 (by decide) rfl
        have e7 : f 7 = (.pointer (some ⟨w.heap.size + 1, 2, none⟩)) := hR 7 (by decide) rfl
        have e8 : f 8 = (.int .i64 (cu : Int)) := hR 8 (by decide) rfl
        have e9 : f 9 = (.slice (cutA Ao cO2 cu 1) (4096 - cu) (cO2 - cu)) := hR 9 (by decide) rfl
        simp only [e0, e1, e2, e3, e4, e5, e6, e7, e8, e9]
        clear e0 e1 e2 e3 e4 e5 e6 e7 e8 e9 hR
        have hb4 := gr_trans hb3 (bel_drew hB4)
        have hr4 := ownsRow_off HR3.out (Off.of_below (S := fun _ => False) (bel_drew hB4)) (fun _ _ h => h)
        refine wpAny_of_held (S := fun _ => True) _ _ _ _ ?_
        refine wpAnyH_ready (rs := [10]) (by kernel_rfl) (by simp) ?_
        refine AllReadyH.cons rfl (fun KK hK => ?_) AllReadyH.nil
        try simp only [List.getElem_toArray, List.getElem_cons_succ, List.getElem_cons_zero]
        rw [if_pos (by rfl)]
        refine wp_append_Rd _ (.tmp 43) (.tmp 50) _ rfl wr.heap.size 5 i1 _ 1 1 Try.underlying33 hi1 hy0 hy1 hy2 rfl (.slice A103 cu c103) cu ((p2.take cu).map bv) rfl hr4 (cutA Ao cO2 cu 1) (4096 - cu) (cO2 - cu) ((((crashTo keep (k : Int) cu D.blocks D.pending k).getD p1 []).drop cu).map bv) rfl (HRO.out.below hb4) (one_bv _) (by omega) (by simp only [maxLen]; omega) hb4.size ?_
        intro v8 w8 ho8 hg8 _ _
        rw [show cu + (4096 - cu) = 4096 from by omega, ← List.map_append] at ho8
        have hb8 := gr_own hb4 hr4 hg8
        obtain ⟨A8, c8, rfl, _, _⟩ := own_form ho8
        have HF := Lib.hid (HSTEP.out w8 A8 c8 hb8 (by unfold OB; rw [List.length_append, HLEN.out.1, HLEN.out.2, show cu + (4096 - cu) = 4096 from by omega]; exact ho8))
        have co8 := keep_of_below hb8 YO.out
        have fo8 := (hb8.frozen (p := ⟨O, p1, none⟩) (World.block_lt_of_cell? _ _ YO.out)).trans fo
        clear ho8 hg8 hr4 hb4 hb3 fo
        refine hK.out _ _ trivial (fun _ => ?_)
        clear hK KK
        try simp only [Act.put, List.setIfInBounds_toArray, List.set_cons_zero, List.set_cons_succ]
        refine wpAnyH_ready (rs := [11]) (by kernel_rfl) (by simp) ?_
        refine AllReadyH.cons rfl (fun KK hK => ?_) AllReadyH.nil
        try simp only [List.getElem_toArray, List.getElem_cons_succ, List.getElem_cons_zero]
        go_simp
        refine hK.out _ _ trivial (fun _ => ?_)
        clear hK KK
        try simp only [List.setIfInBounds_toArray, List.set_cons_zero, List.set_cons_succ]
        refine wpAnyH_done (by kernel_rfl) ?_ _
        refine lastQ_step (o := _) rfl (fun KK hK => ?_)
        try simp only [List.getElem_toArray, List.getElem_cons_succ, List.getElem_cons_zero]
        go_simp
        refine hK _ _ ?_
        clear hK KK
        go_wp2_with fail
        go_roundw
        case rel => exact ⟨k + 1, _, by omega, by go_num, HF⟩
        case measure => simp [intOf]; omega
      · have t2 : ((k : Int) == torn) = false := beq_eq_false_iff_ne.2 ht
        by_cases hkp : keep.getD k false = true
        · have hkn : k < nk := by
            rcases Nat.lt_or_ge k nk with h | h
            · exact h
            · rw [List.getD, List.getElem?_eq_none (by rw [HKK.out.len]; exact h)] at hkp; cases hkp
          have hKr : LR wr K nk keep := HKK.out.below HBW.out
          obtain ⟨gk, ok', eK, ck0⟩ := hKr.at_ hkn
          rw [hkp] at ck0
          subst eK
          have t3 : decide ((k : Int) < (nk : Int)) = true := decide_eq_true (by omega)
          have t3' : decide (k < nk) = true := decide_eq_true hkn
          have k3 : (k : Int) < (nk : Int) := by omega
          have HNEW : Hid (LO G w1 (wr.setCell ⟨O, p1, none⟩ u') (.slice (some ⟨O, 0, none⟩) nb c2) (us.set p1 u') (crashTo keep torn cu D.blocks D.pending (k + 1))) := Lib.hid (by
            rw [HLH.out]
            unfold crash1
            rw [if_neg ht, if_pos hkp]
            exact HL.out.lay HG1.out (by rw [HCL.out]) (by rw [HCL.out]; exact q4) (HP.out.mono (fun _ h => .inl h)))
          obtain ⟨_, Ap, cp, rfl, _, _, _, _⟩ := HP.out
          clear HL HLH HP hkp ht hKr HVO
          go_wp2_with fail
          go_roundw
          case rel => exact ⟨k + 1, _, by omega, by go_num, HNEW⟩
          case measure => simp [intOf]; omega
        · have HNEW : Hid (LO G w1 wr (.slice (some ⟨O, 0, none⟩) nb c2) us (crashTo keep torn cu D.blocks D.pending (k + 1))) := Lib.hid (by
            rw [HLH.out]
            unfold crash1
            rw [if_neg ht, if_neg hkp]
            exact HL.out)
          by_cases hkn : k < nk
          · have hKr : LR wr K nk keep := HKK.out.below HBW.out
            obtain ⟨gk, ok', eK, ck0⟩ := hKr.at_ hkn
            have hkf : keep.getD k false = false := by simpa using hkp
            rw [hkf] at ck0
            subst eK
            have t3 : decide ((k : Int) < (nk : Int)) = true := decide_eq_true (by omega)
            have t3' : decide (k < nk) = true := decide_eq_true hkn
            have k3 : (k : Int) < (nk : Int) := by omega
            clear HL HLH HP hkp hkf ht hKr HVO
            go_wp2_with fail
            go_roundw
            case rel => exact ⟨k + 1, us, by omega, by go_num, HNEW⟩
            case measure => simp [intOf]; omega
          · have t3 : decide ((k : Int) < (nk : Int)) = false := decide_eq_false (by omega)
            have t3' : decide (k < nk) = false := decide_eq_false hkn
            clear HL HLH HP hkp ht HVO
            go_wp2_with fail
            go_roundw
            case rel => exact ⟨k + 1, us, by omega, by go_num, HNEW⟩
            case measure => simp [intOf]; omega
    · obtain rfl : k = np := by omega
      have t1 : decide ((k : Int) < (k : Int)) = false := decide_eq_false (by omega)
      clear z0 z1 z2
      go_wp2_with fail
      go_ret
      have hrow := HL.out.row
      rw [HCL.out] at hrow
      rw [HNB.out, HNP.out]
      refine ⟨A2, c2, us, rfl, hc2, hc2', ⟨Rd.of_own hrow, fun ad e h0 => .inr ⟨?_, ?_⟩⟩, fun i u l h1 h2 => ?_, HBW.out⟩
      · obtain ⟨g, c, e2⟩ := own_plain hrow h0
        injection e2 with e2 _ _
        rw [e] at e2
        cases e2
        have := (hrow.lt g (by rw [e]; rfl)).1
        show w.heap.size ≤ g
        omega
      · obtain ⟨cur, fr, h3⟩ := own_at hrow e
        exact (Array.getElem?_eq_some_iff.1 h3).1
      · refine VG.shut (w0 := w) (P := fun _ => True) ((HL.out.bv i u l h1 h2).mono (fun k hk => ?_))
        rcases hk with h | ⟨h, _⟩
        · exact .inl h
        · exact .inr ⟨by omega, trivial⟩

end Go.Proofs.Ytjopobkcijkpmaa
