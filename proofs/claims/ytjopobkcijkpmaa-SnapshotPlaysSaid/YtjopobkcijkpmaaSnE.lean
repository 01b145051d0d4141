/-
  Contract: snapshot's ToAll.
-/
import Derived.Test.YtjopobkcijkpmaaSnD
namespace Go.Proofs.Ytjopobkcijkpmaa
open Go.RowKit

/-- Do all that are open, or begin later, see a number? -/
def toAllB (T : TabS) (wr : Int) : Bool := ((ofT T wr).1 == 1 || (ofT T wr).1 == 3) && T.opn.all (fun n => shB ((T.who n).getD (0, 0)).2 (ofT T wr))

theorem TK.at_op {w : World} {base g b : Nat} {ov dv : Value} {T : TabS} (h : TK w base g b ov dv T) {k : Nat} (hk : k < T.opn.length) : ∃ q c, ov = .slice (some ⟨q, 0, none⟩) T.opn.length c ∧ w.cell? ⟨q, k, none⟩ = some (.int .i64 (T.opn.getD k 0)) := by
  rcases h.op.2 with ⟨_, e⟩ | ⟨q, cap, cur, e, _⟩
  · omega
  · have hc := h.op.cells (g := q) (by rw [e]; rfl) k (.int .i64 (T.opn.getD k 0)) (by simp [List.getD, List.getElem?_eq_getElem hk])
    rw [add_plain] at hc
    exact ⟨q, cap, e, hc⟩

theorem all_snoc {α : Type} (p : α → Bool) (l : List α) (k : Nat) (h : k < l.length) (d : α) : (l.take (k + 1)).all p = ((l.take k).all p && p (l.getD k d)) := by
  rw [List.take_succ_eq_append_getElem h, List.all_append]
  simp [List.getD, List.getElem?_eq_getElem h]
theorem all_stop {α : Type} (p : α → Bool) (l : List α) (k : Nat) (h : k < l.length) (d : α) (hp : p (l.getD k d) = false) : l.all p = false := by
  rw [List.all_eq_false]
  refine ⟨l[k], List.getElem_mem h, ?_⟩
  simpa [List.getD, List.getElem?_eq_getElem h] using hp

set_option maxRecDepth 100000 in
set_option maxHeartbeats 2000000 in
theorem ToAll_any (w : World) (base g : Nat) (F : Nat → Prop) (T : TabS) (wt : Int) (h : IsT w base g F T) (h3 : -9223372036854775808 ≤ wt) (h4 : wt ≤ 9223372036854775807) :
    Calls Try.prog 37 #[.pointer (some ⟨g, 0, none⟩), .int .i64 wt] w fun e w' => e = .returned (.bool (toAllB T wt)) ∧ Below w.heap.size w w' := by
  have HW := Lib.hid (of_any w base g F T wt h h3 h4)
  have HE : Hid (toAllB T wt = (((ofT T wt).1 == 1 || (ofT T wt).1 == 3) && T.opn.all (fun n => shB ((T.who n).getD (0, 0)).2 (ofT T wt)))) := Lib.hid rfl
  obtain ⟨b, ov, dv, hd, hF⟩ := h
  have HM := Lib.hid (tmade_yes g w hd.tb.c0)
  unfold mkV at HW
  generalize toAllB T wt = r at *
  generalize ofT T wt = qw at *
  obtain ⟨w1, w2⟩ := qw
  dsimp only at HW HE
  by_cases hg : w1 = 1 ∨ w1 = 3
  · have hq : ((w1 != 1) = false) ∨ ((w1 != 1) = true ∧ (w1 != 3) = false) := by
      by_cases h : w1 = 1
      · exact .inl (by simp [h])
      · exact .inr ⟨by simp [h], by simpa using hg.resolve_left h⟩
    have HR : Hid (r = T.opn.all (fun n => shB ((T.who n).getD (0, 0)).2 (w1, w2))) := Lib.hid (by
      rw [HE.out]
      rcases hg with h | h <;> simp [h])
    obtain ⟨Ap, cp, rfl, _, _⟩ := own_form hd.op
    have HD := Lib.hid hd
    have ho2 := hd.o2
    clear hg HE hF hd
    rcases hq with q1 | ⟨q1, q2⟩
    all_goals
      go_enter Try.func37, Try.ntmps37
      go_wp2_with fail
      refine HM.out.mono ?_
      rintro e w' ⟨rfl, rfl⟩
      go_wp2_with fail
      refine HW.out.mono ?_
      rintro e w6 ⟨rfl, hb6⟩
      have hb7 := gr_alloc hb6 (.cells #[.int .u8 w1, .int .i64 w2] 119)
      have HN : Hid (∀ W : World, Below (w6.alloc (.cells #[.int .u8 w1, .int .i64 w2] 119)).heap.size (w6.alloc (.cells #[.int .u8 w1, .int .i64 w2] 119)) W → W.cell? ⟨w6.heap.size, 0, none⟩ = some (.int .u8 w1) ∧ W.cell? ⟨w6.heap.size, 1, none⟩ = some (.int .i64 w2)) := Lib.hid (fun W hW => by
        have hn := (hW.block w6.heap.size (by simp)).trans (heap_alloc_new w6 (.cells #[.int .u8 w1, .int .i64 w2] 119))
        exact ⟨by rw [cell_of_row _ _ 0 _ _ _ hn]; rfl, by rw [cell_of_row _ _ 1 _ _ _ hn]; rfl⟩)
      have c5 := (HD.out.below hb7).tb.c5
      generalize hnp : T.opn.length = np at *
      have HNP := Lib.hid hnp
      clear hnp
      go_wp2_with fail
      generalize w6.alloc (.cells #[.int .u8 w1, .int .i64 w2] 119) = w7 at *
      have HB7 := Lib.hid hb7
      clear hb6 hb7 HM HW c5
      go_loopw [27] (fun i wr => ∃ k : Nat, k ≤ np ∧ i = .int .i64 k ∧ Hid ((T.opn.take k).all (fun n => shB ((T.who n).getD (0, 0)).2 (w1, w2)) = true) ∧ Below w7.heap.size w7 wr) (fun i _ => np - (intOf i).toNat)
      case atStart => exact ⟨0, by omega, rfl, Lib.hid rfl, gr_refl _⟩
      case round =>
        obtain ⟨k, hk, rfl, HAL, hb⟩ := hrel
        by_cases hlt : k < np
        · have t1 : decide ((k : Int) < (np : Int)) = true := by simp; omega
          have t1' : decide (k < np) = true := by simp; omega
          have hdr := HD.out.below (gr_trans HB7.out hb)
          have hlt' : k < T.opn.length := by rw [HNP.out]; exact hlt
          obtain ⟨q, c, e, hc⟩ := hdr.at_op hlt'
          rw [HNP.out] at e
          injection e with e1 e2 e3
          subst e1
          have hx := hdr.oi _ (List.getElem_mem hlt')
          have hxg : T.opn.getD k 0 = T.opn[k] := by simp [List.getD, List.getElem?_eq_getElem hlt']
          rw [← hxg] at hx
          have hn2 := hdr.n2
          have c4 := hdr.tb.c4
          have hl := (hdr.below (gr_drewN (gr_refl wr) 1)).mp.look false (k := T.opn.getD k 0) (by omega) (by omega)
          rw [if_neg (by simp)] at hl
          obtain ⟨y0, y1⟩ := HN.out wr hb
          have HAS := Lib.hid (all_snoc (fun n => shB ((T.who n).getD (0, 0)).2 (w1, w2)) T.opn k hlt' 0)
          have HST := Lib.hid (all_stop (fun n => shB ((T.who n).getD (0, 0)).2 (w1, w2)) T.opn k hlt' 0)
          generalize T.opn.getD k 0 = x at *
          generalize (T.who x).getD (0, 0) = qx at *
          obtain ⟨x1, x2⟩ := qx
          have hl : (Instr.lookup 104 (.map (some b)) (.int .i64 x) false).run Try.prog wr.drew = .ok (.agg #[.int .u8 x1, .int .i64 x2]) wr.drew := hl
          obtain ⟨bb, hbb⟩ : ∃ bb, bb = shB x2 (w1, w2) := ⟨_, rfl⟩
          have HSH := Lib.hid (fun W => shown_any (some ⟨g, 0, none⟩) x1 x2 w1 w2 W)
          rw [← hbb] at HSH
          have HBB := Lib.hid hbb
          have hi0' : (0 : Int) ≤ (k : Int) := Int.natCast_nonneg _
          have hi1' : (k : Int) < (np : Int) := by omega
          clear hbb hdr e2 e3 hxg hlt'
          cases bb with
          | true =>
            go_wp2_with fail
            go_region_with ((with_reducible refine (HSH.out _).mono ?_); rintro e w9 ⟨rfl, hb9⟩)
            all_goals
              go_wp2_with fail
              go_roundw
              case rel => exact ⟨k + 1, by omega, by go_num, Lib.hid (by rw [HAS.out, HAL.out, ← HBB.out]; rfl), gr_trans hb ⟨hb9.os, hb9.tape, hb9.output, hb9.size, hb9.block⟩⟩
              case measure => simp [intOf]; omega
          | false =>
            have hr := HR.out
            rw [HST.out HBB.out.symm] at hr
            subst hr
            go_wp2_with fail
            go_region_with ((with_reducible refine (HSH.out _).mono ?_); rintro e w9 ⟨rfl, hb9⟩)
            all_goals
              go_wp2_with fail
              go_ret
              exact ⟨rfl, gr_trans (gr_trans HB7.out hb) ⟨hb9.os, hb9.tape, hb9.output, hb9.size, hb9.block⟩⟩
        · have t1 : decide ((k : Int) < (np : Int)) = false := by simp; omega
          have t1' : decide (k < np) = false := by simp; omega
          have hr := HR.out
          have ht := HAL.out
          rw [List.take_of_length_le (by rw [HNP.out]; omega)] at ht
          rw [ht] at hr
          subst hr
          clear ht
          go_wp2_with fail
          go_ret
          exact ⟨rfl, gr_trans HB7.out hb⟩
  · have q1 : (w1 != 1) = true := by simpa using fun e => hg (.inl e)
    have q2 : (w1 != 3) = true := by simpa using fun e => hg (.inr e)
    have hr := HE.out
    have p1 : (w1 == 1) = false := by simpa using fun e => hg (.inl e)
    have p2 : (w1 == 3) = false := by simpa using fun e => hg (.inr e)
    rw [p1, p2, Bool.false_or, Bool.false_and] at hr
    subst hr
    clear hg HE hd hF p1 p2
    go_enter Try.func37, Try.ntmps37
    go_wp2_with fail
    refine HM.out.mono ?_
    rintro e w' ⟨rfl, rfl⟩
    go_wp2_with fail
    refine HW.out.mono ?_
    rintro e w6 ⟨rfl, hb6⟩
    go_wp2_with fail
    go_ret
    exact ⟨rfl, gr_alloc hb6 _⟩

end Go.Proofs.Ytjopobkcijkpmaa
