/-
  Texts of this claim, joined: PoV. No statement of the program is proved here.
-/
import Derived.Test.YtmdgnjmhbjdlmaaPkA8
import Derived.Test.YtmdgnjmhbjdlmaaPkA5
/-! PoV -/
namespace Go.Proofs.Ytmdgnjmhbjdlmaa
open Go Go.RowKit Go.Maps

section
variable {w w' : World} {ok : Nat → Prop} {base g gd gp mb b0 : Nat} {F : Nat → Prop} {D D2 : DiskS} {P : PoS} {wv tv : Value} {q : List FV}
/-- A disk's bytes lie in blocks of bytes. -/
theorem IsD.bytes (h : IsD w ok base g F D) : IsD w (fun k => ok k ∧ ∃ m, BB w k m) base g F D := by
  obtain ⟨dr, dc, pv, dvs, pvs, h, hF⟩ := h
  refine ⟨dr, dc, pv, dvs, pvs, ⟨h.db, h.dur, h.pen, h.pl, fun i u l h1 h2 => ?_, fun i q p h1 h2 => ⟨(h.pw i q p h1 h2).1, (h.pw i q p h1 h2).2.1, ?_⟩, h.n1, h.n2, h.p1, h.p2, h.f1, h.f2, h.gb⟩, hF⟩
  · obtain ⟨hl, h | ⟨g, e, hB, hg⟩⟩ := h.dv i u l h1 h2
    · exact ⟨hl, .inl h⟩
    · exact ⟨hl, .inr ⟨g, e, hB, hg, _, hB⟩⟩
  · obtain ⟨hl, g, e, hB, hg⟩ := (h.pw i q p h1 h2).2.2
    exact ⟨hl, g, e, hB, hg, _, hB⟩
/-- The blocks of an empty pool, its disk's aside. -/
def Own (gp mb : Nat) (tv : Value) (k : Nat) : Prop := k = gp ∨ k = mb ∨ tv.ownBlock = some k
theorem PX.idle (h : PX w b0 gp gd wv D P F ok tv mb q) (hP : P.fr = []) {T : Nat → Prop} (ho : Off T w w') (hT : ∀ k, Own gp mb tv k → ¬ T k) {F2 ok2 : Nat → Prop} (hd : IsD w' ok2 b0 gd F2 D2) (hos : ∀ k, ok2 k → k < w'.heap.size) (hl : D2.blocks.length = D.blocks.length) :
    PX w' b0 gp gd wv D2 P F2 ok2 tv mb q := by
  have hq : q = [] := by
    have := h.qf
    rw [hP] at this
    exact List.map_eq_nil_iff.1 this
  subst hq
  exact ⟨hd, h.pb.off ho (hT gp (.inl rfl)), ownsRow_off h.tk ho (fun k e => hT k (.inr (.inr e))), h.qf, (fun x hx => by cases hx), h.mp.off ho (hT mb (.inr (.inl rfl))), h.pi.disk hl, h.bp, h.bm, hos⟩
theorem PX.own_lt (h : PX w b0 gp gd wv D P F ok tv mb q) {k : Nat} (hk : Own gp mb tv k) : b0 ≤ k ∧ k < w.heap.size := by
  rcases hk with e | e | e
  · exact ⟨e ▸ h.bp, h.lt (.inr (.inr (.inl e)))⟩
  · exact ⟨e ▸ h.bm, h.lt (.inr (.inr (.inr (.inl e))))⟩
  · exact ⟨(h.tk.lt k e).1, h.lt (.inr (.inr (.inr (.inr (.inl e)))))⟩
/-- It lies beside the disk and the disk's bytes. -/
theorem PX.own_no (h : PX w b0 gp gd wv D P F ok tv mb q) {k : Nat} (hk : Own gp mb tv k) : ¬ F k ∧ ¬ ∃ m, BB w k m := by
  have hc : (∃ cs t fr, w.heap[k]? = some (.cells cs t fr) ∧ t ≠ 85 ∧ t ≠ 26 ∧ t ≠ 90 ∧ t ≠ 5) ∨ ∀ cs t fr, w.heap[k]? ≠ some (.cells cs t fr) := by
    rcases hk with e | e | e
    · subst e
      exact .inl ⟨_, _, _, h.pb, by decide, by decide, by decide, by decide⟩
    · subst e
      exact .inr (fun cs t fr hc => h.mp.notCells hc rfl)
    · obtain ⟨cur, hc⟩ := own_blk h.tk e
      exact .inl ⟨_, _, _, hc, by decide, by decide, by decide, by decide⟩
  refine ⟨fun hf => ?_, fun ⟨m, hB⟩ => ?_⟩
  · obtain ⟨_, cs, t, fr, hf, ht⟩ := h.dk.kind hf
    rcases hc with ⟨cs', t', fr', hc, n1, n2, n3, n4⟩ | hc
    · rw [hc] at hf
      injection hf with hf
      injection hf with _ hf _
      subst hf
      rcases ht with e | e | e
      · exact n1 e
      · exact n2 e
      · exact n3 e
    · exact hc _ _ _ hf
  · rcases hc with ⟨cs', t', fr', hc, n1, n2, n3, n4⟩ | hc
    · exact hB.ne hc n4 rfl
    · exact hc _ _ _ hB
end
/-- O's blocks stand since wa, and S does not reach them. -/
def Kp (O : Nat → Prop) (wa w : World) (S : Nat → Prop) : Prop := Off (fun k => ¬ O k) wa w ∧ (∀ k, S k → ¬ O k) ∧ ∀ k, O k → k < wa.heap.size
section
variable {O : Nat → Prop} {wa w0 w w' : World} {S S' : Nat → Prop} {gd gp gq : Nat} {wv : Value} {L : Option Int} {D : DiskS} {P : PoS}
theorem Kp.mv (h : Kp O wa w S) (hm : Mv S S' w w') : Kp O wa w' S' := by
  refine ⟨h.1.trans (hm.1.mono (fun k _ hk => h.2.1 k hk)), fun k e ho => ?_, h.2.2⟩
  rcases hm.2 k e with e | e
  · exact h.2.1 k e ho
  · have h1 := h.2.2 k ho
    have h2 := h.1.size
    omega
theorem Kp.below (h : Kp O wa w S) (hb : Below w.heap.size w w') : Kp O wa w' S := h.mv (Mv.of_below hb)
theorem PNew_bad_pj (h : PJ w0 w gd gp wv L D P S) (b p f ep ct : Int) (wv' : Value) (hm : mayP D.blocks.length b p f ep ct = false) :
    Calls Try.prog 21 #[.pointer (some ⟨gd, 0, none⟩), .int .i64 b, .int .i64 p, .int .i64 f, .int .i64 ep, .int .i64 ct, wv'] w fun e w' => e = .returned (.tuple #[.pointer none, .int .i64 2]) ∧ w = w' := by
  obtain ⟨F, ok, tv, mb, q, hx, hs⟩ := h.ex
  exact PNew_bad w ok _ gd F D b p f ep ct wv' hx.dk hm
/-- Another pool upon the same disk, while this one, which is empty, rests. -/
theorem PJ.rest (h : PJ w0 w gd gp .nilFunc none D P S) (hP : P.fr = []) : ∃ O : Nat → Prop,
    (∀ (b p f ep ct : Nat) (wv' : Value) (L' : Option Int), FnV wv' → mayP D.blocks.length b p f ep ct = true → (∀ S' : Nat → Prop, LogV w wv' L' S') →
      Calls Try.prog 21 #[.pointer (some ⟨gd, 0, none⟩), .int .i64 (b : Int), .int .i64 (p : Int), .int .i64 (f : Int), .int .i64 (ep : Int), .int .i64 (ct : Int), wv'] w fun e w' => ∃ gq S', e = .returned (.tuple #[.pointer (some ⟨gq, 0, none⟩), .int .i64 0]) ∧ PJ w0 w' gd gq wv' L' D (newP b p f ep ct) S' ∧ Kp O w w' S') ∧
    (∀ (w2 : World) (gq : Nat) (wv2 : Value) (L2 : Option Int) (D2 : DiskS) (Q : PoS) (S2 : Nat → Prop), PJ w0 w2 gd gq wv2 L2 D2 Q S2 → Kp O w w2 S2 → D2.blocks.length = D.blocks.length → ∃ S3, PJ w0 w2 gd gp .nilFunc none D2 P S3) := by
  obtain ⟨F, ok, tv, mb, q, hx, hs⟩ := h.ex
  refine ⟨Own gp mb tv, fun b p f ep ct wv' L' hw hm hl => ?_, fun w2 gq wv2 L2 D2 Q S2 hq hk hl => ?_⟩
  · refine (PNew_pj (w0 := w0) (L := L') (fun k => ok k ∧ ∃ m, BB w k m) F b p f ep ct h.bel hx.dk.bytes hw hm (fun k e => h.sb k ((hs k).2 (.inr (.inl e.1)))) (hl _)).mono ?_
    rintro e w' ⟨gq, S', rfl, hj, hb, hsub⟩
    refine ⟨gq, S', rfl, hj, Off.of_below hb, fun k e ho => ?_, fun k e => (hx.own_lt e).2⟩
    have h1 := hx.own_no ho
    have h2 := (hx.own_lt ho).2
    rcases hsub k e with e | e | e
    · exact h1.1 e
    · exact h1.2 e.2
    · omega
  · obtain ⟨F2, ok2, tv2, mb2, q2, hx2, hs2⟩ := hq.ex
    have hi := hx.idle hP hk.1 (fun k e e2 => e2 e) hx2.dk hx2.os hl
    have hq0 : q = [] := by
      have := hx.qf
      rw [hP] at this
      exact List.map_eq_nil_iff.1 this
    subst hq0
    refine ⟨PS gp F2 ok2 tv mb [], hq.bel, ⟨F2, ok2, tv, mb, [], hi, fun k => Iff.rfl⟩, fun k e => ?_, LogV.nil_ _ _⟩
    rcases e with e | e | e | e | e | ⟨x, hx, _⟩
    · exact hq.sb k ((hs2 k).2 (.inl e))
    · exact hq.sb k ((hs2 k).2 (.inr (.inl e)))
    · exact (hx.own_lt (.inl e)).1
    · exact (hx.own_lt (.inr (.inl e))).1
    · exact (hx.own_lt (.inr (.inr e))).1
    · cases hx
/-- A third pool: the second one is done with. -/
theorem PNew_on (h : PJ w0 w gd gq wv L D P S) (b p f ep ct : Nat) (hm : mayP D.blocks.length b p f ep ct = true) :
    Calls Try.prog 21 #[.pointer (some ⟨gd, 0, none⟩), .int .i64 (b : Int), .int .i64 (p : Int), .int .i64 (f : Int), .int .i64 (ep : Int), .int .i64 (ct : Int), .nilFunc] w fun e w' => ∃ gq S', e = .returned (.tuple #[.pointer (some ⟨gq, 0, none⟩), .int .i64 0]) ∧ PJ w0 w' gd gq .nilFunc none D (newP b p f ep ct) S' ∧ Mv S S' w w' := by
  obtain ⟨F, ok, tv, mb, q, hx, hs⟩ := h.ex
  refine (PNew_pj (w0 := w0) (L := none) ok F b p f ep ct h.bel hx.dk (.inl rfl) hm (fun k e => h.sb k ((hs k).2 (.inr (.inl e)))) (LogV.nil_ _ _)).mono ?_
  rintro e w' ⟨g3, S', rfl, hj, hb, hsub⟩
  refine ⟨g3, S', rfl, hj, Off.of_below hb, fun k e => ?_⟩
  rcases hsub k e with e | e | e
  · exact .inl ((hs k).2 (.inl e))
  · exact .inl ((hs k).2 (.inr (.inl e)))
  · exact .inr e
theorem Write_pj (h : PJ w0 w gd gp .nilFunc none D P S) (b : Int) (A : Option Addr) (n c : Nat) (m : List UInt8) (hm : BR w A n m) (hA : ∀ ad, A = some ad → ¬ S ad.block) (hn : n ≤ 9223372036854775807) (hpl : D.pending.length ≤ 1000000) :
    Calls Try.prog 28 #[.pointer (some ⟨gd, 0, none⟩), .int .i64 b, .slice A n c] w fun e w' => ∃ S', e = .returned (.int .i64 (writeE D b n)) ∧ PJ w0 w' gd gp .nilFunc none (writeD D b m) P S' ∧ Mv S S' w w' := by
  obtain ⟨F, ok, tv, mb, q, hx, hs⟩ := h.ex
  refine (Write_any w ok _ gd F D b A n c m hx.dk hm (fun ad e hf => hA ad e ((hs _).2 (.inl hf))) hn hpl).mono ?_
  rintro e w' ⟨rfl, hp⟩
  obtain ⟨F', ok', h1, h2, h3⟩ := hx.disk hp (by rw [writeD_blocks])
  have := h.next h1 (h2.mono fun k _ e => (hs k).2 e) (fun k e => (h3 k e).imp (hs k).2 id)
  exact ⟨_, rfl, this.1, this.2⟩
end

theorem OB.br0 {w : World} {base q n c : Nat} {l : List UInt8} (h : OB w base (.slice (some ⟨q, 0, none⟩) n c) l) (hl : l.length = n) : BR w (some ⟨q, 0, none⟩) n l := by
  obtain ⟨A', c', e, hr, _, _⟩ := h.formN hl
  injection e with e _ _
  rw [e]
  exact hr
theorem eqP_nn (W : World) : (binOp .neq 23 (.pointer none) (.pointer none)).run Try.prog W = .ok (.bool false) W := by
  have h : ∀ d : Nat, (Op.equalIn (d + 1) 23 (.pointer none) (.pointer none)).run Try.prog W = .ok true W := fun d => by
    simp [Op.equalIn, run_underlying Try.underlying23]
  simp only [binOp]
  simp [Op.equal, Op.maxDepth, h 9999]

/-! A log that always refuses. -/
theorem ref_any (n : Int) (w : World) : Calls Try.prog 26 #[.int .i64 n] w fun e w' => e = .returned (.int .i64 4) ∧ w = w' := by
  go_enter Try.func26, Try.ntmps26
  go_wp2_with fail
  go_ret
  exact ⟨rfl, rfl⟩
theorem ref_lv (w : World) (S : Nat → Prop) : LogV w (.func (.func 26) #[] #[]) (some (-1)) S := by
  refine .inr ⟨_, _, -1, rfl, rfl, fun args W => run_enter (fn := Try.f26) rfl (by kernel_rfl) rfl args W, fun n W h0 _ => ?_⟩
  have e : asksE (some (-1)) n = 4 := if_pos (by omega)
  rw [e]
  exact ref_any n W

/-! The states of the fixed examples. -/
def qP0 : PoS := newP 2 8 2 1 7
def qP1 (a : List UInt8) : PoS := ⟨2, 8, 2, 1, 7, [⟨0, a, 0, true, true⟩], 0⟩
def qP2 (a b : List UInt8) : PoS := ⟨2, 8, 2, 1, 7, [⟨0, a, 0, true, true⟩, ⟨1, b, 5, true, true⟩], 0⟩
def qP3 (a b : List UInt8) : PoS := ⟨2, 8, 2, 1, 7, [⟨0, a, 0, true, false⟩, ⟨1, b, 5, true, false⟩], 0⟩
def qP4 (a b : List UInt8) : PoS := ⟨2, 8, 2, 1, 7, [⟨0, a, 0, true, true⟩, ⟨1, b, 5, true, false⟩], 0⟩
section
variable {a b : List UInt8}
theorem nq1 (ha : a.length = 4080) : setR (some (-1)) (newD 10) (newP 2 8 2 1 7) 0 a 0 = (newD 10, qP1 a, 0) := by
  unfold setR setE
  rw [ha]
  rfl
theorem nq2 (hb : b.length = 4080) : setR (some (-1)) (newD 10) (qP1 a) 1 b 5 = (newD 10, qP2 a b, 0) := by
  unfold setR setE
  rw [hb]
  rfl
set_option maxRecDepth 100000 in
theorem nq3 : getR (some (-1)) (newD 10) (qP2 a b) 2 = (newD 10, qP3 a b, 4) ∧ getL (some (-1)) (newD 10) (qP2 a b) 2 = [] := by
  have h1 := readZ 4 (by omega)
  have h2 := open_zer
  have hg : getR (some (-1)) (newD 10) (qP2 a b) 2 = (newD 10, qP3 a b, 4) := by
    unfold getR
    show (if (0 : Int) ≠ 0 then _ else if readE (newD 10) ((4 : Nat) : Int) ≠ 0 then _ else if openE (readL (newD 10) ((4 : Nat) : Int)) ≠ 0 then _ else holdR (some (-1)) (newD 10) (qP2 a b) ⟨2, openP (readL (newD 10) ((4 : Nat) : Int)), 0, false, true⟩) = _
    rw [if_neg (by decide), h1.1, if_neg (by decide), h1.2, h2.1, if_neg (by decide), h2.2]
    unfold holdR
    rw [if_neg (show ¬ ((qP2 a b).fr.length < (qP2 a b).most) by show ¬ (2 < 2); decide)]
    have hs : spun (qP2 a b) = qP3 a b := by simp [spun, qP2, qP3, usedN, spinF]
    rw [hs]
    rfl
  refine ⟨hg, ?_⟩
  unfold getL
  rw [hg]
  rfl
theorem nq4 : flushR (some (-1)) (newD 10) (qP3 a b) = (newD 10, qP3 a b, 4) := rfl
theorem nq5 : getR (some (-1)) (newD 10) (qP3 a b) 0 = (newD 10, qP4 a b, 0) ∧ getL (some (-1)) (newD 10) (qP3 a b) 0 = a := ⟨rfl, rfl⟩
theorem nq6 : dirtyL (qP4 a b) = [0, 1] := rfl
end
/-- A page of noughts is held. -/
theorem getZ (P : PoS) (hb : P.base = 2) (k : Nat) (hk : k < 8) (hp : P.pages = 8) (hf : findP P k = none) : getR none (newD 10) P (k : Int) = holdR none (newD 10) P ⟨k, zP, 0, false, true⟩ := by
  have h1 := readZ (2 + k) (by omega)
  have h2 := open_zer
  unfold getR
  rw [show askP P (k : Int) = 0 by unfold askP; rw [hp, if_neg (by omega)], if_neg (by decide), Int.toNat_natCast, hf]
  dsimp only
  rw [hb, h1.1, if_neg (by decide), h1.2, h2.1, if_neg (by decide), h2.2]
def tZ (k : Nat) (u : Bool) : FrS := ⟨k, zP, 0, false, u⟩
def tF (i : Nat) : PoS := match i with
  | 0 => newP 2 8 3 1 0
  | 1 => ⟨2, 8, 3, 1, 0, [tZ 0 true], 0⟩
  | 2 => ⟨2, 8, 3, 1, 0, [tZ 0 true, tZ 1 true], 0⟩
  | 3 => ⟨2, 8, 3, 1, 0, [tZ 0 true, tZ 1 true, tZ 2 true], 0⟩
  | 4 => ⟨2, 8, 3, 1, 0, [tZ 3 true, tZ 1 false, tZ 2 false], 1⟩
  | 5 => ⟨2, 8, 3, 1, 0, [tZ 3 true, tZ 1 true, tZ 2 false], 1⟩
  | _ => ⟨2, 8, 3, 1, 0, [tZ 3 true, tZ 1 false, tZ 4 true], 0⟩
def tK (i : Nat) : Int := [0, 1, 2, 3, 1, 4].getD i 0
set_option maxRecDepth 100000 in
theorem t_step (i : Nat) (hi : i < 6) : ∃ e, getR none (newD 10) (tF i) (tK i) = (newD 10, tF (i + 1), e) := by
  obtain rfl | rfl | rfl | rfl | rfl | rfl : i = 0 ∨ i = 1 ∨ i = 2 ∨ i = 3 ∨ i = 4 ∨ i = 5 := by omega
  · exact ⟨0, (getZ (tF 0) rfl 0 (by omega) rfl rfl).trans rfl⟩
  · exact ⟨0, (getZ (tF 1) rfl 1 (by omega) rfl rfl).trans rfl⟩
  · exact ⟨0, (getZ (tF 2) rfl 2 (by omega) rfl rfl).trans rfl⟩
  · refine ⟨0, (getZ (tF 3) rfl 3 (by omega) rfl rfl).trans ?_⟩
    unfold holdR
    rw [if_neg (show ¬ ((tF 3).fr.length < (tF 3).most) by show ¬ (3 < 3); decide)]
    have hs : spun (tF 3) = ⟨2, 8, 3, 1, 0, [tZ 0 false, tZ 1 false, tZ 2 false], 0⟩ := by simp [spun, tF, tZ, usedN, spinF]
    rw [hs]
    rfl
  · exact ⟨0, rfl⟩
  · refine ⟨0, (getZ (tF 5) rfl 4 (by omega) rfl rfl).trans ?_⟩
    unfold holdR
    rw [if_neg (show ¬ ((tF 5).fr.length < (tF 5).most) by show ¬ (3 < 3); decide)]
    have hs : spun (tF 5) = ⟨2, 8, 3, 1, 0, [tZ 3 true, tZ 1 false, tZ 2 false], 2⟩ := by simp [spun, tF, tZ, usedN, spinF]
    rw [hs]
    rfl
theorem t_held : heldL (tF 6) = [1, 3, 4] := rfl
theorem t_cnt (i : Nat) : (tF i).count ≤ 1152921504606846976 := by
  unfold tF
  split <;> exact Nat.zero_le _

/-- What Made makes is no sealed block. -/
theorem made3 : openE (madeL 3 4096) = 140 := by
  have hs : sealed (madeL 3 4096) = false := by
    unfold sealed
    refine beq_eq_false_iff_ne.2 fun e => ?_
    have e2 := congrArg (fun l : List UInt8 => l.getD 0 0) e
    rw [List.getD_eq_getElem?_getD, List.getD_eq_getElem?_getD, List.getElem?_take, if_pos (by omega), List.getElem?_drop, ← List.getD_eq_getElem?_getD, ← List.getD_eq_getElem?_getD, madeL_at _ _ 0 (by omega), madeL_at _ _ 4088 (by omega)] at e2
    exact absurd e2 (by decide +kernel)
  unfold openE
  rw [hs]
  rfl
def nD : DiskS := calmD bs10 [(2, madeL 3 4096)]
set_option maxRecDepth 100000 in
theorem nD_w : writeE (newD 10) 2 4096 = 0 ∧ writeD (newD 10) 2 (madeL 3 4096) = nD :=
  ⟨writeE_calm bs10 [] 2 (by unfold bs10; rw [List.length_replicate]; omega), writeD_calm bs10 [] 2 (madeL 3 4096) (by unfold bs10; rw [List.length_replicate]; omega) (madeL_len _ _)⟩
set_option maxRecDepth 100000 in
theorem nD_get : getR none nD (newP 2 8 2 1 0) 0 = (nD, newP 2 8 2 1 0, 140) ∧ getL none nD (newP 2 8 2 1 0) 0 = [] := by
  have hl : 2 < bs10.length := by unfold bs10; rw [List.length_replicate]; omega
  have h1 : readE nD ((2 : Nat) : Int) = 0 := readE_calm bs10 _ 2 hl
  have h2 : readL nD ((2 : Nat) : Int) = madeL 3 4096 := by
    refine (readL_calm bs10 _ 2 hl).trans ?_
    unfold lastL
    rw [List.foldl_cons, List.foldl_nil]
    exact if_pos rfl
  have hg : getR none nD (newP 2 8 2 1 0) 0 = (nD, newP 2 8 2 1 0, 140) := by
    unfold getR
    show (if (0 : Int) ≠ 0 then _ else if readE nD ((2 : Nat) : Int) ≠ 0 then _ else if openE (readL nD ((2 : Nat) : Int)) ≠ 0 then (nD, newP 2 8 2 1 0, openE (readL nD ((2 : Nat) : Int))) else _) = _
    rw [if_neg (by decide), h1, if_neg (by decide), h2, made3, if_pos (by decide)]
  refine ⟨hg, ?_⟩
  unfold getL
  rw [hg]
  rfl

end Go.Proofs.Ytmdgnjmhbjdlmaa
