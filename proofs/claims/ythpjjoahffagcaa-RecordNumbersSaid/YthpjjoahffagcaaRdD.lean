/-
  The reader: change.
-/
import Derived.Test.YthpjjoahffagcaaRdC
import Derived.Test.YthpjjoahffagcaaReg
namespace Go.Proofs.Ythpjjoahffagcaa
open Go.RowKit

/-- The result's block, filled at the end. -/
theorem CW.done {w w0 w' : World} {rb cb ra : Nat} {A : Option Addr} {n c : Nat} {s : Option Nat} {pg : Int} {v1 v2 : Value} {img : List UInt8} {ps : List Pc} (h : CW w0 w' rb cb A n c s pg v1 v2 img ps) (hra : w.heap.size = ra) (hbA : Below w.heap.size w w0) (hz : w0.heap[ra]? = some (.cells #[.int .i64 0, .slice none 0 0, .slice none 0 0] 56 (0, 0))) (hrl : rb < ra) (hcb : ra < cb) :
    w'.heap[ra]? = some (.cells #[.int .i64 0, .slice none 0 0, .slice none 0 0] 56 (0, 0)) ∧ ∀ w2, w2 = ((w'.setCell ⟨ra, 0, none⟩ (.int .i64 pg)).setCell ⟨ra, 1, none⟩ v1).setCell ⟨ra, 2, none⟩ v2 →
      w2.heap[ra]? = some (.cells #[.int .i64 pg, v1, v2] 56 (0, 0)) ∧ OB w2 w.heap.size v1 img ∧ OW w2 w.heap.size v2 ps ∧ RSt w2 rb A n c s ∧ Off (· = rb) w w2 := by
  have hz' : w'.heap[ra]? = some (.cells #[.int .i64 0, .slice none 0 0, .slice none 0 0] 56 (0, 0)) := (h.off.block ra (Array.getElem?_eq_some_iff.1 hz).1 (by omega)).trans hz
  refine ⟨hz', ?_⟩
  rintro w2 rfl
  have o : Off (fun k => k = ra) w' (((w'.setCell ⟨ra, 0, none⟩ (.int .i64 pg)).setCell ⟨ra, 1, none⟩ v1).setCell ⟨ra, 2, none⟩ v2) := (((Off.refl (fun k => k = ra) w').setCell _ rfl).setCell _ rfl).setCell _ rfl
  have ht : ∀ k, k = ra → ∃ cs t fr, w'.heap[k]? = some (.cells cs t fr) ∧ t ≠ 5 ∧ t ≠ 29 := fun k e => by subst e; exact ⟨_, _, _, hz', by decide, by decide⟩
  have hlow := hbA.size
  refine ⟨?_, (h.o1.ty o (fun k e => by obtain ⟨cs, t, fr, e1, e2, _⟩ := ht k e; exact ⟨cs, t, fr, e1, e2⟩)).lower hlow, (h.row.ty o ht).lower hlow, h.rs.off o (by omega), ?_⟩
  · simp only [World.setCell, Array.getElem?_modify, if_pos, hz']
    rfl
  · exact ((((Off.of_below hbA).trans h.off).setNew (by omega) _ _).setNew (by omega) _ _).setNew (by omega) _ _

theorem CW.drew {w0 w : World} {rb cb : Nat} {A : Option Addr} {n c : Nat} {s : Option Nat} {pg : Int} {v1 v2 : Value} {img : List UInt8} {ps : List Pc} (h : CW w0 w rb cb A n c s pg v1 v2 img ps) : CW w0 w.drew rb cb A n c s pg v1 v2 img ps := h.below (gr_drewN (gr_refl _) 1)
theorem CW.bad {w0 w : World} {rb cb : Nat} {A : Option Addr} {n c a : Nat} {s : Option Nat} {b : Bool} {pg : Int} {v1 v2 : Value} {img : List UInt8} {ps : List Pc} (h : CW w0 w rb cb A n c s pg v1 v2 img ps) (hr : RB w rb A n c a b) (ha : a ≤ n) : CW w0 (w.setCell ⟨rb, 2, none⟩ (.bool true)) rb cb A n c none pg v1 v2 img ps :=
  h.turn ((Off.refl (· = rb) w).setCell _ rfl) (RSt.none_ (hr.s2 true) ha)
theorem CW.image {w0 w : World} {rb cb : Nat} {A : Option Addr} {n c : Nat} {s : Option Nat} {pg : Int} {u v1 : Value} {im img : List UInt8} (h : CW w0 w rb cb A n c s pg u (.slice none 0 0) im []) (ov : OB w w0.heap.size v1 img) : CW w0 (w.setCell ⟨cb, 1, none⟩ v1) rb cb A n c s pg v1 (.slice none 0 0) img [] := by
  have o5 : Off (fun k => k = cb) w (w.setCell ⟨cb, 1, none⟩ v1) := (Off.refl (fun k => k = cb) w).setCell _ rfl
  have hrb : rb ≠ cb := fun e => by have := h.rl; have := h.cn; omega
  refine ⟨h.off.setNew h.cn _ _, h.rs.off o5 hrb, ?_, h.cn, OW.nil _ _, ov.ty o5 (fun k e => by subst e; exact ⟨_, _, _, h.cbk, by decide⟩), h.rl⟩
  have hc := h.cbk
  simp only [World.setCell, Array.getElem?_modify, if_pos, hc]
  rfl

set_option maxRecDepth 100000 in
set_option maxHeartbeats 8000000 in
theorem change_any (w : World) (rb : Nat) (A : Option Addr) (n c : Nat) (b : List UInt8) (s : Option Nat) (h : RSt w rb A n c s) (hb : BR w A n b) (hA : ∀ ad, A = some ad → 0 < n → ad.block ≠ rb) (hn : n ≤ 211106232532992) (hnc : n ≤ c) (hc : c ≤ 9223372036854775807) :
    Calls Try.prog 60 #[.pointer (some ⟨rb, 0, none⟩)] w fun e w' => ∃ v1 v2, e = .returned (.agg #[.int .i64 (pChange b s).1.1, v1, v2]) ∧ OB w' w.heap.size v1 (pChange b s).1.2.1 ∧ OW w' w.heap.size v2 (pChange b s).1.2.2 ∧ RSt w' rb A n c (pChange b s).2 ∧ Off (· = rb) w w' := by
  obtain ⟨i1, hi1, hy0, hy1, hy2⟩ := info_parts info_piece
  have HB : Hid (∀ w', Off (· = rb) w w' → BR w' A n b) := Lib.hid (fun w' ho => hb.off ho hA)
  have HA := Lib.hid hA
  have HRL := Lib.hid h.lt
  have hr := h.below (gr_alloc (gr_refl w) (.cells #[.int .i64 0, .slice none 0 0, .slice none 0 0] 56))
  have HR := Lib.hid hr
  have hbA := gr_alloc (gr_refl w) (.cells #[.int .i64 0, .slice none 0 0, .slice none 0 0] 56)
  have HBA := Lib.hid hbA
  have HZ := Lib.hid (heap_alloc_new w (.cells #[.int .i64 0, .slice none 0 0, .slice none 0 0] 56))
  have HSZ : Hid (w.heap.size + 1 = (w.alloc (.cells #[.int .i64 0, .slice none 0 0, .slice none 0 0] 56)).heap.size) := Lib.hid (by rw [World.size_alloc])
  clear hr hbA
  obtain ⟨pg, s1, e4⟩ : ∃ pg s1, pNum b 4 s = (pg, s1) := ⟨_, _, rfl⟩
  obtain ⟨fm, s2, e1⟩ : ∃ fm s2, pNum b 1 s1 = (fm, s2) := ⟨_, _, rfl⟩
  obtain ⟨pm, s3, e2⟩ : ∃ pm s3, pNum b 2 s2 = (pm, s3) := ⟨_, _, rfl⟩
  obtain ⟨pim, s4, ei⟩ : ∃ pim s4, pImage b s2 = (pim, s4) := ⟨_, _, rfl⟩
  obtain ⟨pps, s5, ep⟩ : ∃ pps s5, pPieces b pm [] s3 = (pps, s5) := ⟨_, _, rfl⟩
  have hpg : pg < 256 ^ 4 := by have := pNum_lt b 4 s; rw [e4] at this; exact this
  have hfm : fm < 256 ^ 1 := by have := pNum_lt b 1 s1; rw [e1] at this; exact this
  have hpm : pm < 256 ^ 2 := by have := pNum_lt b 2 s2; rw [e2] at this; exact this
  have E4 : Hid (∀ w', RSt w' rb A n c s → BR w' A n b → Calls Try.prog 70 #[.pointer (some ⟨rb, 0, none⟩)] w' fun e w2 => e = .returned (.int .i64 (pg : Int)) ∧ RSt w2 rb A n c s1 ∧ Off (· = rb) w' w2) := Lib.hid (fun w' h1 h2 => by
    have X := four_any w' rb A n c b s h1 h2 hA (by omega)
    rw [e4] at X
    exact X)
  have E1 : Hid (∀ w', RSt w' rb A n c s1 → BR w' A n b → Calls Try.prog 57 #[.pointer (some ⟨rb, 0, none⟩)] w' fun e w2 => e = .returned (.int .i64 (fm : Int)) ∧ RSt w2 rb A n c s2 ∧ Off (· = rb) w' w2) := Lib.hid (fun w' h1 h2 => by
    have X := one_any w' rb A n c b s1 h1 h2 hA (by omega)
    rw [e1] at X
    exact X)
  have E2 : Hid (∀ w', RSt w' rb A n c s2 → BR w' A n b → Calls Try.prog 58 #[.pointer (some ⟨rb, 0, none⟩)] w' fun e w2 => e = .returned (.int .i64 (pm : Int)) ∧ RSt w2 rb A n c s3 ∧ Off (· = rb) w' w2) := Lib.hid (fun w' h1 h2 => by
    have X := two_any w' rb A n c b s2 h1 h2 hA (by omega)
    rw [e2] at X
    exact X)
  have EI : Hid (∀ w', RSt w' rb A n c s2 → BR w' A n b → Calls Try.prog 72 #[.pointer (some ⟨rb, 0, none⟩)] w' fun e w2 => ∃ v, e = .returned v ∧ OB w2 w'.heap.size v pim ∧ RSt w2 rb A n c s4 ∧ Off (· = rb) w' w2) := Lib.hid (fun w' h1 h2 => by
    have X := image_any w' rb A n c b s2 h1 h2 hA (by omega) hnc
    rw [ei] at X
    exact X)
  have HP1 : Hid (fm = 1 → pChange b s = (((pg : Int), pim, []), s4)) := Lib.hid (fun h => by
    unfold pChange
    simp only [e4, e1, ei]
    rw [if_pos h])
  have HP0 : Hid (fm = 0 → pChange b s = (((pg : Int), [], pps), s5)) := Lib.hid (fun h => by
    unfold pChange
    simp only [e4, e1, e2, ep]
    rw [if_neg (by omega), if_pos h])
  have HPX : Hid (fm ≠ 1 → fm ≠ 0 → pChange b s = (((pg : Int), [], []), none)) := Lib.hid (fun h h' => by
    unfold pChange
    simp only [e4, e1]
    rw [if_neg h, if_neg h'])
  have EP := Lib.hid ep
  clear hb hA e4 e1 e2 ei ep h
  go_enter Try.func60, Try.ntmps60
  go_wp2_with fail
  generalize hwA : w.alloc (.cells #[.int .i64 0, .slice none 0 0, .slice none 0 0] 56) = wA at *
  clear hwA
  have oA : Off (· = rb) w wA := Off.of_below HBA.out
  have OA := Lib.hid oA
  refine (E4.out wA HR.out (HB.out _ oA)).mono ?_
  rintro e w1 ⟨rfl, h1, o1⟩
  have H1 := Lib.hid h1
  have O1 := Lib.hid o1
  clear h1 o1 oA HR E4
  go_wp2_with fail
  generalize hcb : w1.heap.size = cb at *
  have bw := gr_alloc (gr_refl w1) (.cells #[.int .i64 (pg : Int), .slice none 0 0, .slice none 0 0] 56)
  have cw : CW wA (w1.alloc (.cells #[.int .i64 (pg : Int), .slice none 0 0, .slice none 0 0] 56)) rb cb A n c s1 (pg : Int) (.slice none 0 0) (.slice none 0 0) [] [] :=
    ⟨O1.out.trans (Off.of_below bw), H1.out.below bw, by rw [← hcb]; exact heap_alloc_new w1 _, by rw [← hcb]; exact O1.out.size, OW.nil _ _, OB.nil _ _, by have := HRL.out; have := HSZ.out; omega⟩
  have HCL : Hid (w.heap.size < cb) := Lib.hid (by have h := O1.out.size; have h2 := HSZ.out; omega)
  clear bw H1 O1 hcb
  generalize w1.alloc (.cells #[.int .i64 (pg : Int), .slice none 0 0, .slice none 0 0] 56) = W2 at *
  have HX := Lib.hid (E1.out W2 cw.rs (HB.out _ (OA.out.trans cw.off)))
  have HCW := Lib.hid cw
  clear cw E1
  go_wp2_with fail
  refine HX.out.mono ?_
  rintro e w3 ⟨rfl, h3, o3⟩
  have cw3 := HCW.out.turn o3 h3
  clear HX HCW h3 o3
  by_cases f1 : fm = 1
  · subst f1
    have HX := Lib.hid (EI.out w3 cw3.rs (HB.out _ (OA.out.trans cw3.off)))
    have HCW := Lib.hid cw3
    clear cw3 hfm E2 EI
    go_wp2_with fail
    refine HX.out.mono ?_
    rintro e w4 ⟨v1, rfl, ov, h4, o4⟩
    have cw4 := HCW.out.turn o4 h4
    have ov2 := ov.lower HCW.out.off.size
    clear HX HCW h4 o4 ov
    obtain ⟨A1, c1, rfl, _, _⟩ := own_form ov2
    have y1 := cw4.c1
    have z1 := cw4.fz 1
    have HCW := Lib.hid (cw4.image ov2)
    clear cw4 ov2
    go_upto_region 14 with fail
    generalize w4.setCell ⟨cb, 1, none⟩ (.slice A1 pim.length c1) = w9 at *
    have HD := Lib.hid (HCW.out.done rfl HBA.out HZ.out HRL.out HCL.out)
    have k0 := HCW.out.c0
    have k1 := HCW.out.c1
    have k2 := HCW.out.c2
    have r0 : w9.cell? ⟨w.heap.size, 0, none⟩ = some (.int .i64 0) := by rw [cell_of_row w9 _ 0 _ _ _ HD.out.1]; rfl
    have r1 : w9.cell? ⟨w.heap.size, 1, none⟩ = some (.slice none 0 0) := by rw [cell_of_row w9 _ 1 _ _ _ HD.out.1]; rfl
    have r2 : w9.cell? ⟨w.heap.size, 2, none⟩ = some (.slice none 0 0) := by rw [cell_of_row w9 _ 2 _ _ _ HD.out.1]; rfl
    have g0 : w9.frozen? ⟨w.heap.size, 0, none⟩ = false := by simp [World.frozen?, HD.out.1]
    have g1 : w9.frozen? ⟨w.heap.size, 1, none⟩ = false := by simp [World.frozen?, HD.out.1]
    have g2 : w9.frozen? ⟨w.heap.size, 2, none⟩ = false := by simp [World.frozen?, HD.out.1]
    go_wp2_with fail
    obtain ⟨f1, f2, f3, f4, f5⟩ := HD.out.2 _ rfl
    clear HD k0 k1 k2 r0 r1 r2 g0 g1 g2
    generalize ((w9.setCell ⟨w.heap.size, 0, none⟩ (.int .i64 (pg : Int))).setCell ⟨w.heap.size, 1, none⟩ (.slice A1 pim.length c1)).setCell ⟨w.heap.size, 2, none⟩ (.slice none 0 0) = wf at *
    have z0 : wf.cell? ⟨w.heap.size, 0, none⟩ = some (.int .i64 (pg : Int)) := by rw [cell_of_row wf _ 0 _ _ _ f1]; rfl
    have z1 : wf.cell? ⟨w.heap.size, 1, none⟩ = some ((.slice A1 pim.length c1)) := by rw [cell_of_row wf _ 1 _ _ _ f1]; rfl
    have z2 : wf.cell? ⟨w.heap.size, 2, none⟩ = some ((.slice none 0 0)) := by rw [cell_of_row wf _ 2 _ _ _ f1]; rfl
    refine bodyPost_ret (v := .agg #[.int .i64 (pg : Int), (.slice A1 pim.length c1), (.slice none 0 0)]) (by simp [results, Try.results60, go_sem, z0, z1, z2]) rfl ?_
    rw [HP1.out (by simp)]
    exact ⟨_, _, rfl, f2, f3, f4, f5⟩
  · by_cases f0 : fm = 0
    · subst f0
      have HX := Lib.hid (E2.out w3 cw3.rs (HB.out _ (OA.out.trans cw3.off)))
      have HCW := Lib.hid cw3
      clear cw3 hfm EI E2 f1
      go_wp2_with fail
      refine HX.out.mono ?_
      rintro e w4 ⟨rfl, h4, o4⟩
      have cw4 := HCW.out.turn o4 h4
      have b0 : (0 : Int) ≤ (pm : Int) := Int.natCast_nonneg _
      have b1 : (pm : Int) ≤ 65535 := by omega
      clear HX HCW h4 o4
      go_wp2_with fail
      go_loopw [35] (fun i wr => ∃ (k : Nat) (acc : List Pc) (st : Option Nat) (v2 : Value), k ≤ pm ∧ i = .int .i64 k ∧ acc.length ≤ k ∧ CW wA wr rb cb A n c st (pg : Int) (.slice none 0 0) v2 [] acc ∧ Hid (pPieces b (pm - k) acc st = (pps, s5))) (fun i _ => pm - (intOf i).toNat)
      case atStart => exact ⟨0, [], s3, _, by omega, rfl, by simp, cw4, EP⟩
      case round =>
        clear cw4 EP
        obtain ⟨k, acc, st, v2, hk, rfl, hacc, cw5, HE⟩ := hrel
        obtain ⟨A2, c2, hv2, _, _⟩ := own_form cw5.row.choose_spec.1
        subst hv2
        by_cases hlt : k < pm
        · have t1 : decide ((k : Int) < (pm : Int)) = true := by simp; omega
          have t2 : decide (k < pm) = true := by simp; omega
          obtain ⟨a, ha, hrb⟩ := cw5.rs.nb
          have k2 := hrb.c2
          cases st with
          | none =>
            obtain ⟨h1, h2⟩ : acc = pps ∧ none = s5 := by
              have h := HE.out
              rw [show pm - k = (pm - k - 1) + 1 from by omega] at h
              unfold pPieces at h
              injection h with h1 h2
              exact ⟨h1, h2⟩
            subst h1 h2
            have k2' : wr.cell? ⟨rb, 2, none⟩ = some (.bool true) := k2
            have HCW := Lib.hid cw5
            clear k2 hrb ha cw5 HE hacc hlt hk
            go_upto_region 14 with fail
            generalize wr = w9 at *
            have HD := Lib.hid (HCW.out.done rfl HBA.out HZ.out HRL.out HCL.out)
            have k0 := HCW.out.c0
            have k1 := HCW.out.c1
            have k2 := HCW.out.c2
            have r0 : w9.cell? ⟨w.heap.size, 0, none⟩ = some (.int .i64 0) := by rw [cell_of_row w9 _ 0 _ _ _ HD.out.1]; rfl
            have r1 : w9.cell? ⟨w.heap.size, 1, none⟩ = some (.slice none 0 0) := by rw [cell_of_row w9 _ 1 _ _ _ HD.out.1]; rfl
            have r2 : w9.cell? ⟨w.heap.size, 2, none⟩ = some (.slice none 0 0) := by rw [cell_of_row w9 _ 2 _ _ _ HD.out.1]; rfl
            have g0 : w9.frozen? ⟨w.heap.size, 0, none⟩ = false := by simp [World.frozen?, HD.out.1]
            have g1 : w9.frozen? ⟨w.heap.size, 1, none⟩ = false := by simp [World.frozen?, HD.out.1]
            have g2 : w9.frozen? ⟨w.heap.size, 2, none⟩ = false := by simp [World.frozen?, HD.out.1]
            go_wp2_with fail
            obtain ⟨f1, f2, f3, f4, f5⟩ := HD.out.2 _ rfl
            clear HD k0 k1 k2 r0 r1 r2 g0 g1 g2
            generalize ((w9.setCell ⟨w.heap.size, 0, none⟩ (.int .i64 (pg : Int))).setCell ⟨w.heap.size, 1, none⟩ (.slice none 0 0)).setCell ⟨w.heap.size, 2, none⟩ (.slice A2 acc.length c2) = wf at *
            have z0 : wf.cell? ⟨w.heap.size, 0, none⟩ = some (.int .i64 (pg : Int)) := by rw [cell_of_row wf _ 0 _ _ _ f1]; rfl
            have z1 : wf.cell? ⟨w.heap.size, 1, none⟩ = some ((.slice none 0 0)) := by rw [cell_of_row wf _ 1 _ _ _ f1]; rfl
            have z2 : wf.cell? ⟨w.heap.size, 2, none⟩ = some ((.slice A2 acc.length c2)) := by rw [cell_of_row wf _ 2 _ _ _ f1]; rfl
            refine bodyPost_ret (v := .agg #[.int .i64 (pg : Int), (.slice none 0 0), (.slice A2 acc.length c2)]) (by simp [results, Try.results60, go_sem, z0, z1, z2]) rfl ?_
            rw [HP0.out (by simp)]
            exact ⟨_, _, rfl, f2, f3, f4, f5⟩
          | some x =>
            have k2' : wr.cell? ⟨rb, 2, none⟩ = some (.bool false) := k2
            obtain ⟨pt, sa, eT⟩ : ∃ pt sa, pNum b 2 (some x) = (pt, sa) := ⟨_, _, rfl⟩
            obtain ⟨pl, sb, eP⟩ : ∃ pl sb, pPart b sa = (pl, sb) := ⟨_, _, rfl⟩
            have HE2 : Hid (pPieces b (pm - (k + 1)) (acc ++ [((pt : Int), pl)]) sb = (pps, s5)) := Lib.hid (by
              have h := HE.out
              rw [show pm - k = (pm - (k + 1)) + 1 from by omega] at h
              unfold pPieces at h
              simp only [eT, eP] at h
              exact h)
            have ET : Hid (∀ w', RSt w' rb A n c (some x) → BR w' A n b → Calls Try.prog 58 #[.pointer (some ⟨rb, 0, none⟩)] w' fun e w2 => e = .returned (.int .i64 (pt : Int)) ∧ RSt w2 rb A n c sa ∧ Off (· = rb) w' w2) := Lib.hid (fun w' h1 h2 => by
              have X := two_any w' rb A n c b (some x) h1 h2 HA.out (by omega)
              rw [eT] at X
              exact X)
            have EPT : Hid (∀ w', RSt w' rb A n c sa → BR w' A n b → Calls Try.prog 71 #[.pointer (some ⟨rb, 0, none⟩)] w' fun e w2 => ∃ v, e = .returned v ∧ OB w2 w'.heap.size v pl ∧ RSt w2 rb A n c sb ∧ Off (· = rb) w' w2) := Lib.hid (fun w' h1 h2 => by
              have X := part_any w' rb A n c b sa h1 h2 HA.out hn hnc hc
              rw [eP] at X
              exact X)
            have y2 := cw5.c2
            have HCW := Lib.hid cw5
            clear k2 hrb ha cw5 HE eT eP
            go_wp2_with fail
            refine wp_region_lastL (by kernel_rfl) (by simp) (by kernel_rfl) (by kernel_rfl) ?_
            simp only [List.dropLast, List.length_cons, List.length_nil]
            refine wpAny_of_held (S := fun W => W.cell? ⟨cb, 2, none⟩ = some (.slice A2 acc.length c2)) _ _ _ _ ?_
            have hHeld : wr.drew.cell? ⟨cb, 2, none⟩ = some (.slice A2 acc.length c2) := y2
            have cwd := HCW.out.drew
            refine wpAnyH_take (i := 0) (v := ?_) rfl (by kernel_rfl) (by kernel_rfl) (by kernel_rfl) (fun _ _ _ h => h) (Or.inl ⟨by rfl, ?_⟩) hHeld ?_
            rotate_left
            · intro W hS
              (try dsimp only at hS)
              obtain s1 := hS
              (go_simp; try with_reducible rfl)
            try simp only [Act.put, List.setIfInBounds_toArray]
            refine wpAnyH_take (i := 1) (v := ?_) rfl (by kernel_rfl) (by kernel_rfl) (by kernel_rfl) (fun _ _ _ h => h) (Or.inl ⟨by rfl, ?_⟩) hHeld ?_
            rotate_left
            · intro W hS
              (try dsimp only at hS)
              obtain s1 := hS
              (go_simp; try with_reducible rfl)
            try simp only [Act.put]
            refine wpAnyH_take (i := 2) (v := ?_) rfl (by kernel_rfl) (by kernel_rfl) (by kernel_rfl) (fun _ _ _ h => h) (Or.inl ⟨by rfl, ?_⟩) hHeld ?_
            rotate_left
            · intro W hS
              (try dsimp only at hS)
              obtain s1 := hS
              (go_simp; try with_reducible rfl)
            try simp only [Act.put]
            refine wpAnyH_take (i := 4) (v := ?_) rfl (by kernel_rfl) (by kernel_rfl) (by kernel_rfl) (fun _ _ _ h => h) (Or.inl ⟨by rfl, ?_⟩) hHeld ?_
            rotate_left
            · intro W hS
              (try dsimp only at hS)
              obtain s1 := hS
              (go_simp; try with_reducible rfl)
            try simp only [Act.put]
            refine wpAnyH_ready (rs := [3]) (by kernel_rfl) (by simp) ?_
            refine AllReadyH.cons rfl (fun KK hK => ?_) AllReadyH.nil
            try simp only [List.getElem_toArray, List.getElem_cons_succ, List.getElem_cons_zero]
            go_simp
            refine (ET.out _ cwd.rs (HB.out _ (OA.out.trans cwd.off))).mono ?_
            rintro e w6 ⟨rfl, h6, o6⟩
            have cw6 := cwd.turn o6 h6
            dsimp only
            refine hK.out _ _ ?_ (fun hHeld2 => ?_)
            · exact cw6.c2
            clear hK KK hHeld
            have hHeld := hHeld2
            clear hHeld2
            try simp only [Act.put, List.setIfInBounds_toArray, List.set_cons_zero, List.set_cons_succ]
            refine wpAnyH_ready (rs := [5]) (by kernel_rfl) (by simp) ?_
            refine AllReadyH.cons rfl (fun KK hK => ?_) AllReadyH.nil
            try simp only [List.getElem_toArray, List.getElem_cons_succ, List.getElem_cons_zero]
            go_simp
            refine (EPT.out _ cw6.rs (HB.out _ (OA.out.trans cw6.off))).mono ?_
            rintro e w7 ⟨vp, rfl, ovp, h7, o7⟩
            have cw7 := cw6.turn o7 h7
            have ov7 := ovp.lower cw6.off.size
            obtain ⟨Ap, cp, rfl, _, _⟩ := own_form ovp
            dsimp only
            refine hK.out _ _ ?_ (fun hHeld2 => ?_)
            · exact cw7.c2
            clear hK KK hHeld
            have hHeld := hHeld2
            clear hHeld2
            try simp only [Act.put, List.setIfInBounds_toArray, List.set_cons_zero, List.set_cons_succ]
            refine wpAnyH_take (i := 6) (v := ?_) rfl (by kernel_rfl) (by kernel_rfl) (by kernel_rfl) (fun _ _ _ h => h) (Or.inl ⟨by rfl, ?_⟩) hHeld ?_
            rotate_left
            · intro W hS
              (try dsimp only at hS)
              obtain s1 := hS
              (go_simp; try with_reducible rfl)
            try simp only [Act.put, List.setIfInBounds_toArray]
            refine wpAnyH_ready (rs := [7]) (by kernel_rfl) (by simp) ?_
            refine AllReadyH.cons rfl (fun KK hK => ?_) AllReadyH.nil
            try simp only [List.getElem_toArray, List.getElem_cons_succ, List.getElem_cons_zero]
            go_simp
            refine hK.out _ _ ?_ (fun hHeld2 => ?_)
            · exact (cw7.below (gr_alloc (gr_refl w7) (.cells #[.int .i64 (pt : Int), .slice Ap pl.length cp] 29))).c2
            clear hK KK hHeld
            have hHeld := hHeld2
            clear hHeld2
            try simp only [Act.put, List.setIfInBounds_toArray, List.set_cons_zero, List.set_cons_succ]
            refine wpAnyH_ready (rs := [8]) (by kernel_rfl) (by simp) ?_
            refine AllReadyH.cons rfl (fun KK hK => ?_) AllReadyH.nil
            try simp only [List.getElem_toArray, List.getElem_cons_succ, List.getElem_cons_zero]
            obtain ⟨us, r1, r2, r3⟩ := cw7.row
            have hsz := cw7.off.size
            rw [if_pos (by rfl)]
            refine wp_append_Rd _ (.tmp 42) (.tmp 48) _ rfl wA.heap.size 29 i1 _ 2 32 Try.underlying22 hi1 hy0 hy1 hy2 rfl (.slice A2 acc.length c2) acc.length (pcs us) rfl (r1.alloc _) (some ⟨w7.heap.size, 0, none⟩) 1 1 [.int .i64 (pt : Int), .slice Ap pl.length cp] rfl (Rd.new w7 _ #[.int .i64 (pt : Int), .slice Ap pl.length cp] 1 2 rfl) (by simp [Value.oneCell']) (by omega) (by simp only [maxLen]; omega) (by rw [World.size_alloc]; omega) ?_
            intro v8 w8 ho8 hg8 _ _
            obtain ⟨y8, z8, cw8⟩ := cw7.push r1 r2 r3 ov7 ho8 hg8
            obtain ⟨A8, c8, rfl, _, _⟩ := own_form ho8
            have z8' := z8 2
            have HC8 := Lib.hid cw8
            clear ho8 hg8 z8 cw8 r1 r2 r3 us ov7 ovp cw7 h7 o7 cw6 h6 o6 cwd
            refine hK.out _ _ ?_ (fun hHeld2 => ?_)
            · exact y8
            clear hK KK hHeld
            have hHeld := hHeld2
            clear hHeld2
            try simp only [Act.put, List.setIfInBounds_toArray, List.set_cons_zero, List.set_cons_succ]
            refine wpAnyH_take (i := 9) (v := ?_) rfl (by kernel_rfl) (by kernel_rfl) (by kernel_rfl) (fun _ _ _ h => h) (Or.inl ⟨by rfl, ?_⟩) hHeld ?_
            rotate_left
            · intro W hS
              (try dsimp only at hS)
              obtain s1 := hS
              (go_simp; try with_reducible rfl)
            try simp only [Act.put, List.setIfInBounds_toArray]
            refine wpAnyH_done (by kernel_rfl) ?_ _
            refine lastQ_step (o := _) rfl (fun KK hK => ?_)
            try simp only [List.getElem_toArray, List.getElem_cons_succ, List.getElem_cons_zero]
            go_simp
            refine hK _ _ ?_
            go_wp2_with fail
            go_roundw
            case rel => exact ⟨k + 1, _, sb, _, by omega, by go_num, by rw [List.length_append]; simp; omega, HC8.out, HE2⟩
            case measure => simp [intOf]; omega
        · obtain rfl : pm = k := by omega
          have t1 : decide ((pm : Int) < (pm : Int)) = false := by simp
          have t2 : decide (pm < pm) = false := by simp
          obtain ⟨h1, h2⟩ : acc = pps ∧ st = s5 := by
            have h := HE.out
            rw [Nat.sub_self] at h
            unfold pPieces at h
            injection h with h1 h2
            exact ⟨h1, h2⟩
          subst h1 h2
          have HCW := Lib.hid cw5
          clear cw5 HE hacc hlt hk
          go_upto_region 14 with fail
          generalize wr = w9 at *
          have HD := Lib.hid (HCW.out.done rfl HBA.out HZ.out HRL.out HCL.out)
          have k0 := HCW.out.c0
          have k1 := HCW.out.c1
          have k2 := HCW.out.c2
          have r0 : w9.cell? ⟨w.heap.size, 0, none⟩ = some (.int .i64 0) := by rw [cell_of_row w9 _ 0 _ _ _ HD.out.1]; rfl
          have r1 : w9.cell? ⟨w.heap.size, 1, none⟩ = some (.slice none 0 0) := by rw [cell_of_row w9 _ 1 _ _ _ HD.out.1]; rfl
          have r2 : w9.cell? ⟨w.heap.size, 2, none⟩ = some (.slice none 0 0) := by rw [cell_of_row w9 _ 2 _ _ _ HD.out.1]; rfl
          have g0 : w9.frozen? ⟨w.heap.size, 0, none⟩ = false := by simp [World.frozen?, HD.out.1]
          have g1 : w9.frozen? ⟨w.heap.size, 1, none⟩ = false := by simp [World.frozen?, HD.out.1]
          have g2 : w9.frozen? ⟨w.heap.size, 2, none⟩ = false := by simp [World.frozen?, HD.out.1]
          go_wp2_with fail
          obtain ⟨f1, f2, f3, f4, f5⟩ := HD.out.2 _ rfl
          clear HD k0 k1 k2 r0 r1 r2 g0 g1 g2
          generalize ((w9.setCell ⟨w.heap.size, 0, none⟩ (.int .i64 (pg : Int))).setCell ⟨w.heap.size, 1, none⟩ (.slice none 0 0)).setCell ⟨w.heap.size, 2, none⟩ (.slice A2 acc.length c2) = wf at *
          have z0 : wf.cell? ⟨w.heap.size, 0, none⟩ = some (.int .i64 (pg : Int)) := by rw [cell_of_row wf _ 0 _ _ _ f1]; rfl
          have z1 : wf.cell? ⟨w.heap.size, 1, none⟩ = some ((.slice none 0 0)) := by rw [cell_of_row wf _ 1 _ _ _ f1]; rfl
          have z2 : wf.cell? ⟨w.heap.size, 2, none⟩ = some ((.slice A2 acc.length c2)) := by rw [cell_of_row wf _ 2 _ _ _ f1]; rfl
          refine bodyPost_ret (v := .agg #[.int .i64 (pg : Int), (.slice none 0 0), (.slice A2 acc.length c2)]) (by simp [results, Try.results60, go_sem, z0, z1, z2]) rfl ?_
          rw [HP0.out (by simp)]
          exact ⟨_, _, rfl, f2, f3, f4, f5⟩
    · have hx1 : ((fm : Int) == 1) = false := beq_eq_false_iff_ne.2 (by omega)
      have hx0 : ((fm : Int) == 0) = false := beq_eq_false_iff_ne.2 (by omega)
      have HPY := Lib.hid (HPX.out f1 f0)
      obtain ⟨a, ha, hrb⟩ := cw3.rs.nb
      have k2 := hrb.c2
      have z2 := hrb.frozen 2
      have HCW := Lib.hid (cw3.bad hrb ha)
      clear cw3 hfm f1 f0 E2 EI HP1 HP0 HPX EP hrb ha
      go_upto_region 14 with fail
      generalize w3.setCell ⟨rb, 2, none⟩ (.bool true) = w9 at *
      have HD := Lib.hid (HCW.out.done rfl HBA.out HZ.out HRL.out HCL.out)
      have k0 := HCW.out.c0
      have k1 := HCW.out.c1
      have k2 := HCW.out.c2
      have r0 : w9.cell? ⟨w.heap.size, 0, none⟩ = some (.int .i64 0) := by rw [cell_of_row w9 _ 0 _ _ _ HD.out.1]; rfl
      have r1 : w9.cell? ⟨w.heap.size, 1, none⟩ = some (.slice none 0 0) := by rw [cell_of_row w9 _ 1 _ _ _ HD.out.1]; rfl
      have r2 : w9.cell? ⟨w.heap.size, 2, none⟩ = some (.slice none 0 0) := by rw [cell_of_row w9 _ 2 _ _ _ HD.out.1]; rfl
      have g0 : w9.frozen? ⟨w.heap.size, 0, none⟩ = false := by simp [World.frozen?, HD.out.1]
      have g1 : w9.frozen? ⟨w.heap.size, 1, none⟩ = false := by simp [World.frozen?, HD.out.1]
      have g2 : w9.frozen? ⟨w.heap.size, 2, none⟩ = false := by simp [World.frozen?, HD.out.1]
      go_wp2_with fail
      obtain ⟨f1, f2, f3, f4, f5⟩ := HD.out.2 _ rfl
      clear HD k0 k1 k2 r0 r1 r2 g0 g1 g2
      generalize ((w9.setCell ⟨w.heap.size, 0, none⟩ (.int .i64 (pg : Int))).setCell ⟨w.heap.size, 1, none⟩ (.slice none 0 0)).setCell ⟨w.heap.size, 2, none⟩ (.slice none 0 0) = wf at *
      have z0 : wf.cell? ⟨w.heap.size, 0, none⟩ = some (.int .i64 (pg : Int)) := by rw [cell_of_row wf _ 0 _ _ _ f1]; rfl
      have z1 : wf.cell? ⟨w.heap.size, 1, none⟩ = some ((.slice none 0 0)) := by rw [cell_of_row wf _ 1 _ _ _ f1]; rfl
      have z2 : wf.cell? ⟨w.heap.size, 2, none⟩ = some ((.slice none 0 0)) := by rw [cell_of_row wf _ 2 _ _ _ f1]; rfl
      refine bodyPost_ret (v := .agg #[.int .i64 (pg : Int), (.slice none 0 0), (.slice none 0 0)]) (by simp [results, Try.results60, go_sem, z0, z1, z2]) rfl ?_
      rw [HPY.out]
      exact ⟨_, _, rfl, f2, f3, f4, f5⟩


end Go.Proofs.Ythpjjoahffagcaa
