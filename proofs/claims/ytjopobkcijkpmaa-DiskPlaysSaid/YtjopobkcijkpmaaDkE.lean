/-
  Contract: disk's Sync.
-/
import Derived.Test.YtjopobkcijkpmaaDkD
namespace Go.Proofs.Ytjopobkcijkpmaa
open Go.RowKit

/-- Writes carried out. -/
def carry (bs : List (List UInt8)) (ps : List (Nat × List UInt8)) : List (List UInt8) := ps.foldl (fun bs p => bs.set p.1 p.2) bs

theorem carry_len (bs : List (List UInt8)) (ps : List (Nat × List UInt8)) : (carry bs ps).length = bs.length := by
  unfold carry
  induction ps generalizing bs with
  | nil => rfl
  | cons p ps ih => rw [List.foldl_cons, ih, List.length_set]
theorem carry_snoc (bs : List (List UInt8)) {ps : List (Nat × List UInt8)} {k : Nat} {p : Nat × List UInt8} (h : ps[k]? = some p) : carry bs (ps.take (k + 1)) = (carry bs (ps.take k)).set p.1 p.2 := by
  obtain ⟨hk, e⟩ := List.getElem?_eq_some_iff.1 h
  unfold carry
  rw [List.take_succ_eq_append_getElem hk, List.foldl_append, e]
  rfl

section
variable {w w' : World} {ok : Nat → Prop} {base g dr dc : Nat} {pv : Value} {dvs : List Value} {pvs : List (Int × Value)} {D : DiskS}
/-- A block's bytes are laid. -/
theorem DK.lay (h : DK w ok base g dr dc pv dvs pvs D) {i : Nat} {u : Value} {l : List UInt8} (hi : i < D.blocks.length) (hu : BV ok w u l) :
    DK (w.setCell ⟨dr, i, none⟩ u) ok base g dr dc pv (dvs.set i u) pvs { D with blocks := D.blocks.set i l } := by
  have od : Off (· = dr) w (w.setCell ⟨dr, i, none⟩ u) := (Off.refl _ w).setCell _ rfl
  have hB : ∀ k m, k = dr → BB w k m → False := fun k m e => h.foot_bytes k m (.inr (.inl e))
  have hl : ({ D with blocks := D.blocks.set i l } : DiskS).blocks.length = D.blocks.length := by simp
  refine ⟨by rw [hl]; exact h.db.off od h.ne_gd, ?_, ownsRow_off h.pen od (fun k e e' => h.ne_dp (by rw [e, e'])), h.pl, ?_, ?_, by rw [hl]; exact h.n1, by rw [hl]; exact h.n2, h.p1, h.p2, h.f1, h.f2, h.gb⟩
  · rw [hl]
    rcases h.dur.2 with ⟨e, _⟩ | ⟨q, cap, cur, e, hb, hq, hnc, hm, hcs, ht⟩
    · cases e
    · cases e
      refine ⟨by have := h.dur.1; simpa using this, .inr ⟨dr, dc, cur.setIfInBounds i u, rfl, hb, ?_, hnc, hm, by simpa using hcs, ?_⟩⟩
      · simp only [World.setCell, Array.getElem?_modify, if_pos, hq]
        simp
      · rw [Array.toList_setIfInBounds, List.take_set, ht]
  · intro j v m hv hm
    have hm' : (D.blocks.set i l)[j]? = some m := hm
    rw [List.getElem?_set] at hv hm'
    by_cases e : i = j
    · subst e
      rw [if_pos rfl] at hv hm'
      rw [if_pos (by rw [h.dl]; exact hi)] at hv
      rw [if_pos hi] at hm'
      cases hv
      cases hm'
      exact hu.off od hB
    · rw [if_neg e] at hv hm'
      exact (h.dv j v m hv hm').off od hB
  · intro j q p hq hp
    obtain ⟨a1, a2, a3⟩ := h.pw j q p hq hp
    exact ⟨a1, by rw [hl]; exact a2, a3.off od hB⟩
/-- The writes are forgotten. -/
theorem DK.forget (h : DK w ok base g dr dc pv dvs pvs D) : DK (w.setCell ⟨g, 2, none⟩ (.slice none 0 0)) ok base g dr dc (.slice none 0 0) dvs [] { D with pending := [] } := by
  have og : Off (· = g) w (w.setCell ⟨g, 2, none⟩ (.slice none 0 0)) := (Off.refl _ w).setCell _ rfl
  have hB : ∀ k m, k = g → BB w k m → False := fun k m e => h.foot_bytes k m (.inl e)
  exact ⟨h.db.s2 _, ownsRow_off h.dur og (fun k e => by cases e; exact Ne.symm h.ne_gd), ⟨rfl, .inl ⟨rfl, rfl⟩⟩, rfl, fun i u l h1 h2 => (h.dv i u l h1 h2).off og hB, fun i q p hq => by simp at hq, h.n1, h.n2, h.p1, h.p2, h.f1, h.f2, h.gb⟩
/-- The i-th write. -/
theorem DK.wr_at (h : DK w ok base g dr dc pv dvs pvs D) {i : Nat} (hi : i < D.pending.length) : ∃ q c u p, pv = .slice (some ⟨q, 0, none⟩) D.pending.length c ∧ w.cell? ⟨q, i * 2, none⟩ = some (.int .i64 ((p.1 : Nat) : Int)) ∧ w.cell? ⟨q, i * 2 + 1, none⟩ = some u ∧
    D.pending[i]? = some p ∧ p.1 < D.blocks.length ∧ BW ok w u p.2 := by
  rcases h.pen.2 with ⟨_, e⟩ | ⟨q, cap, cur, rfl, _, hq, hnc, _⟩
  · omega
  · have hip : D.pending[i]? = some (D.pending[i]'hi) := List.getElem?_eq_getElem hi
    have hil : i < pvs.length := by rw [h.pl]; exact hi
    have hiu : pvs[i]? = some (pvs[i]'hil) := List.getElem?_eq_getElem hil
    obtain ⟨a1, a2, a3⟩ := h.pw i _ _ hiu hip
    obtain ⟨c1, c2⟩ := wrs_at pvs i _ hiu
    have hc := h.pen.cells (g := q) rfl
    have k1 := hc _ _ c1
    have k2 := hc _ _ c2
    rw [add_plain] at k1 k2
    exact ⟨q, cap, _, _, rfl, by rw [← a1]; exact k1, k2, hip, a2, a3⟩
end

theorem cell_new_at (w : World) (x y : Value) (t : TypeId) : (w.alloc (.cells #[x, y] t)).cell? ⟨w.heap.size, 0, none⟩ = some x ∧ (w.alloc (.cells #[x, y] t)).cell? ⟨w.heap.size, 1, none⟩ = some y := by
  have hw := World.alloc_heap_new w (.cells #[x, y] t)
  constructor
  · rw [cell_of_row _ _ 0 _ _ _ hw]; rfl
  · rw [cell_of_row _ _ 1 _ _ _ hw]; rfl

/-- Sync: the disk then. -/
def syncD (D : DiskS) : DiskS := if opC D ≠ 0 then opS D else { opS D with blocks := carry D.blocks D.pending, pending := [] }

set_option maxRecDepth 100000 in
set_option maxHeartbeats 2000000 in
theorem Sync_any (w : World) (ok : Nat → Prop) (base g : Nat) (F : Nat → Prop) (D : DiskS) (h : IsD w ok base g F D) (hpl : D.pending.length ≤ 1000000) :
    Calls Try.prog 17 #[.pointer (some ⟨g, 0, none⟩)] w fun e w' => e = .returned (.int .i64 (opC D)) ∧ DPost w ok base g F (syncD D) w' := by
  obtain ⟨dr, dc, pv, dvs, pvs, hd, hF⟩ := h
  have HM := Lib.hid (made_yes g w hd.db.c0)
  have HO := Lib.hid (operation_any g _ _ _ _ _ _ w hd.db hd.p1 hd.p2 hd.f1 hd.f2)
  have HFF := Lib.hid hF
  by_cases hop : opC D = 0
  · have HD : Hid (syncD D = { opS D with blocks := carry D.blocks D.pending, pending := [] }) := Lib.hid (by unfold syncD; rw [if_neg (by rw [hop]; simp)])
    have hop' : opE D.down D.power D.fault D.wi = 0 := hop
    rw [hop'] at HO
    have HOP := Lib.hid hop
    have HDK := Lib.hid hd
    clear hd hF hop hop'
    go_enter Try.func17, Try.ntmps17
    go_wp2_with fail
    refine HM.out.mono ?_
    rintro e w' ⟨rfl, rfl⟩
    go_wp2_with fail
    refine HO.out.mono ?_
    rintro e w1 ⟨rfl, hdb1, ho1⟩
    have HD1 := Lib.hid (HDK.out.oper ho1 hdb1)
    have c2 := hdb1.c2
    obtain ⟨Ap, cp, rfl, _, _⟩ := own_form HD1.out.pen
    have ho1' : Off F w w1 := ho1.mono (fun k _ e => (HFF.out k).2 (.inl e))
    have HN : Hid ((opS D).pending = D.pending) := Lib.hid rfl
    have HNB : Hid ((opS D).blocks = D.blocks) := Lib.hid rfl
    clear HDK hdb1
    have hnp : (opS D).pending.length ≤ 1000000 := hpl
    generalize hnpe : (opS D).pending.length = np at *
    have HNP := Lib.hid hnpe
    clear hnpe hpl
    go_wp2_with fail
    go_loopw [19] (fun i wr => ∃ (k : Nat) (dvs : List Value), k ≤ np ∧ i = .int .i64 k ∧ Hid (DK wr ok base g dr dc (.slice Ap np cp) dvs pvs { opS D with blocks := carry D.blocks (D.pending.take k) }) ∧ Off F w wr) (fun i _ => np - (intOf i).toNat)
    case atStart => exact ⟨0, dvs, Nat.zero_le _, rfl, Lib.hid HD1.out, ho1'⟩
    case round =>
      clear HD1 ho1' c2
      obtain ⟨k, dvs, hk, rfl, HDK, ho⟩ := hrel
      by_cases hlt : k < np
      · have hlt' : k < ({ opS D with blocks := carry D.blocks (D.pending.take k) } : DiskS).pending.length := by show k < (opS D).pending.length; rw [HNP.out]; exact hlt
        obtain ⟨q, c, u, p, e, k1, k2, k3, k4, k5⟩ := HDK.out.wr_at hlt'
        have e2 : (Value.slice Ap np cp) = .slice (some ⟨q, 0, none⟩) np c := by rw [e]; congr 1
        injection e2 with e3 e4 e5
        subst e3 e5
        have k4' : p.1 < (carry D.blocks (D.pending.take k)).length := k4
        have HLAY := Lib.hid (fun o : Obj => (HDK.out.below (gr_alloc (gr_refl wr) o)).lay k4 (k5.bv.below (gr_alloc (gr_refl wr) o)))
        have HSN := Lib.hid (carry_snoc D.blocks (show D.pending[k]? = some p from k3))
        obtain ⟨A5, n5, c5, hu5⟩ : ∃ A n c, u = .slice A n c := by
          obtain ⟨A, n, c, m, e, _⟩ := k5.bv.read
          exact ⟨A, n, c, e⟩
        subst hu5
        obtain ⟨uo, co, _, _⟩ := HDK.out.at_ k4
        have zo : wr.frozen? ⟨dr, p.1, none⟩ = false := by
          rcases HDK.out.dur.2 with ⟨e, _⟩ | ⟨q', cap', cur', e, _, hq', _⟩
          · cases e
          · cases e; simp [World.frozen?, hq']
        have c1 := HDK.out.db.c1
        have hgl := HDK.out.db.lt
        have hdl := World.block_lt_of_cell? wr _ co
        dsimp only at hdl
        have hFd : F dr := (HFF.out dr).2 (.inr (.inl rfl))
        have hcl : ({ opS D with blocks := carry D.blocks (D.pending.take k) } : DiskS).blocks.length = (carry D.blocks (D.pending.take k)).length := rfl
        rw [hcl] at c1
        clear hcl k3 k4 k5 HDK e
        generalize (carry D.blocks (D.pending.take k)).length = nb at *
        obtain ⟨p1, p2⟩ := p
        dsimp only at k1 k4' co zo HLAY HSN
        have x1 : (wr.alloc (.cells #[.int .i64 (p1 : Int), .slice A5 n5 c5] 110)).cell? ⟨g, 1, none⟩ = some (.slice (some ⟨dr, 0, none⟩) nb dc) := keep_of_below (gr_alloc (gr_refl wr) _) c1
        have x2 : (wr.alloc (.cells #[.int .i64 (p1 : Int), .slice A5 n5 c5] 110)).cell? ⟨dr, p1, none⟩ = some uo := keep_of_below (gr_alloc (gr_refl wr) _) co
        have x3 : (wr.alloc (.cells #[.int .i64 (p1 : Int), .slice A5 n5 c5] 110)).frozen? ⟨dr, p1, none⟩ = false := ((gr_alloc (gr_refl wr) _).frozen (p := ⟨dr, p1, none⟩) hdl).trans zo
        have y1 := cell_new_at wr (.int .i64 (p1 : Int)) (.slice A5 n5 c5) 110
        have HNEW : Hid (DK ((wr.alloc (.cells #[.int .i64 (p1 : Int), .slice A5 n5 c5] 110)).setCell ⟨dr, p1, none⟩ (.slice A5 n5 c5)) ok base g dr dc (.slice (some ⟨q, 0, none⟩) np cp) (dvs.set p1 (.slice A5 n5 c5)) pvs { opS D with blocks := carry D.blocks (D.pending.take (k + 1)) }) := Lib.hid (by rw [HSN.out]; exact HLAY.out _)
        have ho' : Off F w ((wr.alloc (.cells #[.int .i64 (p1 : Int), .slice A5 n5 c5] 110)).setCell ⟨dr, p1, none⟩ (.slice A5 n5 c5)) := (ho.alloc _).setCell _ hFd
        clear HLAY HSN
        go_wp2_with fail
        generalize wr.alloc (.cells #[.int .i64 (p1 : Int), .slice A5 n5 c5] 110) = wa at *
        obtain ⟨y1, y2⟩ := y1
        go_region
        all_goals
          go_wp2_with fail
          go_roundw
          case rel => exact ⟨k + 1, _, by omega, by go_num, Lib.hid (HNEW.out.below ⟨rfl, rfl, rfl, Nat.le_refl _, fun _ _ => rfl⟩), ho'.drewN 1⟩
          case measure => simp [intOf]; omega
      · obtain rfl : k = np := by omega
        have hz2 := HDK.out.db.frozen 2
        have c2 := HDK.out.db.c2
        have HFG := Lib.hid HDK.out.forget
        have HT : Hid (D.pending.take k = D.pending) := Lib.hid (List.take_of_length_le (by rw [← HN.out, HNP.out]; omega))
        have hFg : F g := (HFF.out g).2 (.inl rfl)
        clear HDK
        go_wp2_with fail
        go_ret
        refine ⟨ret_i HOP.out.symm, ho.setCell _ hFg, foot g dr (.slice none 0 0), ⟨dr, dc, .slice none 0 0, dvs, [], ?_, fun k => Iff.rfl⟩, fun k hk => ?_⟩
        · have := HFG.out.mono (ok' := fun k => ok k ∨ w.heap.size ≤ k) (fun k _ h => .inl h)
          rw [HT.out] at this
          rw [HD.out]
          exact this
        · rcases hk with rfl | rfl | hk
          · exact .inl hFg
          · exact .inl ((HFF.out _).2 (.inr (.inl rfl)))
          · simp [Value.ownBlock] at hk
  · have HD : Hid (syncD D = opS D) := Lib.hid (by unfold syncD; rw [if_pos hop])
    have t1 : (opC D != 0) = true := by rw [bne_iff_ne]; exact hop
    have HO2 : Hid (Calls Try.prog 61 #[.pointer (some ⟨g, 0, none⟩)] w fun e w' => e = .returned (.int .i64 (opC D)) ∧ DPost w ok base g F (opS D) w') := Lib.hid (HO.out.mono (by
      rintro e w' ⟨rfl, hdb, ho⟩
      exact ⟨rfl, ho.mono (fun k _ e => (hF k).2 (.inl e)), F, ⟨dr, dc, pv, dvs, pvs, (hd.oper ho hdb).mono (fun k _ h => .inl h), hF⟩, fun k h => .inl h⟩))
    clear hd hF HO hop HFF
    generalize opC D = oc at *
    go_enter Try.func17, Try.ntmps17
    go_wp2_with fail
    refine HM.out.mono ?_
    rintro e w' ⟨rfl, rfl⟩
    go_wp2_with fail
    refine HO2.out.mono ?_
    rintro e w1 ⟨rfl, hp⟩
    go_wp2_with fail
    go_ret
    exact ⟨rfl, by rw [HD.out]; exact hp⟩

end Go.Proofs.Ytjopobkcijkpmaa
