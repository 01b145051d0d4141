/-
  Contracts: disk's asked, Blocks, Pending, Arm, Fail, Durable, New.
-/
import Derived.Test.YtjopobkcijkpmaaDkB
namespace Go.Proofs.Ytjopobkcijkpmaa
open Go.RowKit

/-- A disk in memory; F: the blocks that it turns. -/
def IsD (w : World) (ok : Nat → Prop) (base g : Nat) (F : Nat → Prop) (D : DiskS) : Prop :=
  ∃ dr dc pv dvs pvs, DK w ok base g dr dc pv dvs pvs D ∧ ∀ k, F k ↔ foot g dr pv k

/-- What an operation of a disk leaves behind. -/
def DPost (w : World) (ok : Nat → Prop) (base g : Nat) (F : Nat → Prop) (D : DiskS) (w' : World) : Prop :=
  Off F w w' ∧ ∃ F', IsD w' (fun k => ok k ∨ w.heap.size ≤ k) base g F' D ∧ ∀ k, F' k → F k ∨ w.heap.size ≤ k

theorem DPost.same {w : World} {ok : Nat → Prop} {base g : Nat} {F : Nat → Prop} {D : DiskS} (h : IsD w ok base g F D) : DPost w ok base g F D w := by
  refine ⟨Off.refl _ _, F, ?_, fun k h => .inl h⟩
  obtain ⟨dr, dc, pv, dvs, pvs, hd, hF⟩ := h
  exact ⟨dr, dc, pv, dvs, pvs, hd.mono (fun k _ h => .inl h), hF⟩

section
variable {w w' : World} {ok ok' : Nat → Prop} {base g : Nat} {F : Nat → Prop} {D : DiskS}
theorem IsD.off {S : Nat → Prop} (h : IsD w ok base g F D) (ho : Off S w w') (hS : ∀ k, F k → ¬ S k) (hB : ∀ k m, S k → BB w k m → False) : IsD w' ok base g F D := by
  obtain ⟨dr, dc, pv, dvs, pvs, hd, hF⟩ := h
  exact ⟨dr, dc, pv, dvs, pvs, hd.off ho (fun k hk => hS k ((hF k).2 hk)) hB, hF⟩
theorem IsD.below (h : IsD w ok base g F D) (hb : Below w.heap.size w w') : IsD w' ok base g F D := by
  obtain ⟨dr, dc, pv, dvs, pvs, hd, hF⟩ := h
  exact ⟨dr, dc, pv, dvs, pvs, hd.below hb, hF⟩
theorem IsD.mono (h : IsD w ok base g F D) (hk : ∀ k, k < w.heap.size → ok k → ok' k) : IsD w ok' base g F D := by
  obtain ⟨dr, dc, pv, dvs, pvs, hd, hF⟩ := h
  exact ⟨dr, dc, pv, dvs, pvs, hd.mono hk, hF⟩
theorem IsD.foot_bytes (h : IsD w ok base g F D) : ∀ k m, F k → BB w k m → False := by
  obtain ⟨dr, dc, pv, dvs, pvs, hd, hF⟩ := h
  exact fun k m hk => hd.foot_bytes k m ((hF k).1 hk)
theorem IsD.foot_lt (h : IsD w ok base g F D) : ∀ k, F k → base ≤ k ∧ k < w.heap.size := by
  obtain ⟨dr, dc, pv, dvs, pvs, hd, hF⟩ := h
  exact fun k hk => hd.foot_lt k ((hF k).1 hk)
theorem IsD.own (h : IsD w ok base g F D) : F g := by
  obtain ⟨dr, dc, pv, dvs, pvs, hd, hF⟩ := h
  exact (hF g).2 (.inl rfl)
theorem IsD.c0 (h : IsD w ok base g F D) : w.cell? ⟨g, 0, none⟩ = some (.pointer (some ⟨g, 0, none⟩)) := by
  obtain ⟨dr, dc, pv, dvs, pvs, hd, hF⟩ := h
  exact hd.db.c0
end

/-- What stands against a call that names block b. -/
def askE (D : DiskS) (b : Int) : Int := if b < 0 ∨ (D.blocks.length : Int) ≤ b then 2 else 0

set_option maxHeartbeats 400000 in
theorem asked_any (w : World) (ok : Nat → Prop) (base g : Nat) (F : Nat → Prop) (D : DiskS) (b : Int) (h : IsD w ok base g F D) :
    Calls Try.prog 62 #[.pointer (some ⟨g, 0, none⟩), .int .i64 b] w fun e w' => e = .returned (.int .i64 (askE D b)) ∧ w = w' := by
  obtain ⟨dr, dc, pv, dvs, pvs, hd, hF⟩ := h
  have HM := Lib.hid (made_yes g w hd.db.c0)
  have c1 := hd.db.c1
  have n2 := hd.n2
  have HE : Hid (askE D b = if b < 0 ∨ (D.blocks.length : Int) ≤ b then 2 else 0) := Lib.hid rfl
  clear hd hF
  generalize askE D b = r at *
  generalize D.blocks.length = n at *
  by_cases h1 : b < 0
  · have t1 : decide (b < 0) = true := by simpa using h1
    go_enter Try.func62, Try.ntmps62
    go_wp2_with fail
    refine HM.out.mono ?_
    rintro e w' ⟨rfl, rfl⟩
    go_wp2_with fail
    go_ret
    exact ⟨ret_i (by rw [HE.out, if_pos (.inl h1)]), rfl⟩
  · have t1 : decide (b < 0) = false := by simpa using h1
    by_cases h2 : (n : Int) ≤ b
    · have t2 : decide ((n : Int) ≤ b) = true := by simpa using h2
      go_enter Try.func62, Try.ntmps62
      go_wp2_with fail
      refine HM.out.mono ?_
      rintro e w' ⟨rfl, rfl⟩
      go_wp2_with fail
      go_ret
      exact ⟨ret_i (by rw [HE.out, if_pos (.inr h2)]), rfl⟩
    · have t2 : decide ((n : Int) ≤ b) = false := by simpa using h2
      go_enter Try.func62, Try.ntmps62
      go_wp2_with fail
      refine HM.out.mono ?_
      rintro e w' ⟨rfl, rfl⟩
      go_wp2_with fail
      go_ret
      exact ⟨ret_i (by rw [HE.out, if_neg (by omega)]), rfl⟩

set_option maxHeartbeats 400000 in
theorem Blocks_any (w : World) (ok : Nat → Prop) (base g : Nat) (F : Nat → Prop) (D : DiskS) (h : IsD w ok base g F D) :
    Calls Try.prog 41 #[.pointer (some ⟨g, 0, none⟩)] w fun e w' => e = .returned (.int .i64 (D.blocks.length : Int)) ∧ w = w' := by
  obtain ⟨dr, dc, pv, dvs, pvs, hd, hF⟩ := h
  have HM := Lib.hid (made_yes g w hd.db.c0)
  have c1 := hd.db.c1
  have n2 := hd.n2
  clear hd hF
  generalize D.blocks.length = n at *
  go_enter Try.func41, Try.ntmps41
  go_wp2_with fail
  refine HM.out.mono ?_
  rintro e w' ⟨rfl, rfl⟩
  go_wp2_with fail
  go_ret
  exact ⟨rfl, rfl⟩

set_option maxHeartbeats 400000 in
theorem Pending_any (w : World) (ok : Nat → Prop) (base g : Nat) (F : Nat → Prop) (D : DiskS) (h : IsD w ok base g F D) :
    Calls Try.prog 22 #[.pointer (some ⟨g, 0, none⟩)] w fun e w' => e = .returned (.int .i64 (D.pending.length : Int)) ∧ w = w' := by
  obtain ⟨dr, dc, pv, dvs, pvs, hd, hF⟩ := h
  have HM := Lib.hid (made_yes g w hd.db.c0)
  have c2 := hd.db.c2
  obtain ⟨A, c, rfl, _, _⟩ := own_form hd.pen
  clear hd hF
  generalize D.pending.length = n at *
  go_enter Try.func22, Try.ntmps22
  go_wp2_with fail
  refine HM.out.mono ?_
  rintro e w' ⟨rfl, rfl⟩
  go_wp2_with fail
  go_ret
  exact ⟨rfl, rfl⟩

/-- The disk's own cells alone have turned. -/
theorem DK.turn {w w' : World} {ok : Nat → Prop} {base g dr dc : Nat} {pv : Value} {dvs : List Value} {pvs : List (Int × Value)} {D D' : DiskS} (h : DK w ok base g dr dc pv dvs pvs D) (ho : Off (· = g) w w')
    (hdb : DB w' g (.slice (some ⟨dr, 0, none⟩) D.blocks.length dc) pv D'.down D'.power D'.fault D'.wi) (hb : D'.blocks = D.blocks) (hp : D'.pending = D.pending) (p1 : -1 ≤ D'.power) (p2 : D'.power ≤ 9223372036854775807) (f1 : -1 ≤ D'.fault) (f2 : D'.fault ≤ 9223372036854775807) :
    DK w' ok base g dr dc pv dvs pvs D' := by
  have hB : ∀ k m, k = g → BB w k m → False := fun k m e => h.foot_bytes k m (.inl e)
  refine ⟨by rw [hb]; exact hdb, ?_, ?_, by rw [hp]; exact h.pl, ?_, ?_, by rw [hb]; exact h.n1, by rw [hb]; exact h.n2, p1, p2, f1, f2, h.gb⟩
  · rw [hb]; exact ownsRow_off h.dur ho (fun k e => by cases e; exact Ne.symm h.ne_gd)
  · rw [hp]; exact ownsRow_off h.pen ho (fun k e e' => h.ne_gp (by rw [e, e']))
  · rw [hb]; exact fun i u l h1 h2 => (h.dv i u l h1 h2).off ho hB
  · rw [hb, hp]; exact fun i q p h1 h2 => ⟨(h.pw i q p h1 h2).1, (h.pw i q p h1 h2).2.1, (h.pw i q p h1 h2).2.2.off ho hB⟩

theorem DPost.turn {w w' : World} {ok : Nat → Prop} {base g dr dc : Nat} {F : Nat → Prop} {pv : Value} {dvs : List Value} {pvs : List (Int × Value)} {D D' : DiskS} (h : DK w ok base g dr dc pv dvs pvs D) (hF : ∀ k, F k ↔ foot g dr pv k) (ho : Off (· = g) w w')
    (hdb : DB w' g (.slice (some ⟨dr, 0, none⟩) D.blocks.length dc) pv D'.down D'.power D'.fault D'.wi) (hb : D'.blocks = D.blocks) (hp : D'.pending = D.pending) (p1 : -1 ≤ D'.power) (p2 : D'.power ≤ 9223372036854775807) (f1 : -1 ≤ D'.fault) (f2 : D'.fault ≤ 9223372036854775807) :
    DPost w ok base g F D' w' :=
  ⟨ho.mono (fun k _ e => (hF k).2 (.inl e)), F, ⟨dr, dc, pv, dvs, pvs, (h.turn ho hdb hb hp p1 p2 f1 f2).mono (fun _k _ h => .inl h), hF⟩, fun _k h => .inl h⟩

/-- Arm, Fail: what they answer, and the disk then. -/
def armE (n : Int) : Int := if n < 0 then 2 else 0
def armD (D : DiskS) (n : Int) : DiskS := if n < 0 then D else { D with power := n }
def failE (n e : Int) : Int := if n < 0 ∨ (e ≠ 4 ∧ e ≠ 5) then 2 else 0
def failD (D : DiskS) (n e : Int) : DiskS := if n < 0 ∨ (e ≠ 4 ∧ e ≠ 5) then D else { D with fault := n, wi := e }

set_option maxHeartbeats 400000 in
theorem Arm_any (w : World) (ok : Nat → Prop) (base g : Nat) (F : Nat → Prop) (D : DiskS) (n : Int) (h : IsD w ok base g F D) (hn : n ≤ 9223372036854775807) :
    Calls Try.prog 43 #[.pointer (some ⟨g, 0, none⟩), .int .i64 n] w fun e w' => e = .returned (.int .i64 (armE n)) ∧ DPost w ok base g F (armD D n) w' := by
  have h' := h
  obtain ⟨dr, dc, pv, dvs, pvs, hd, hF⟩ := h
  have HM := Lib.hid (made_yes g w hd.db.c0)
  by_cases h1 : n < 0
  · have t1 : decide (n < 0) = true := by simpa using h1
    have HP := Lib.hid (DPost.same h')
    clear hd hF h'
    go_enter Try.func43, Try.ntmps43
    go_wp2_with fail
    refine HM.out.mono ?_
    rintro e w' ⟨rfl, rfl⟩
    go_wp2_with fail
    go_ret
    exact ⟨ret_i (by unfold armE; rw [if_pos h1]), by unfold armD; rw [if_pos h1]; exact HP.out⟩
  · have t1 : decide (n < 0) = false := by simpa using h1
    have HS := Lib.hid (aStore_any ⟨g, 4, none⟩ n _ w hd.db.c4 (hd.db.frozen 4))
    have HP : Hid (DPost w ok base g F { D with power := n } (w.setCell ⟨g, 4, none⟩ (.int .i64 n))) := Lib.hid (DPost.turn hd hF ((Off.refl _ w).setCell _ rfl) (hd.db.s4 n) rfl rfl (by dsimp only; omega) hn hd.f1 hd.f2)
    clear hd hF h'
    go_enter Try.func43, Try.ntmps43
    go_wp2_with fail
    refine HM.out.mono ?_
    rintro e w' ⟨rfl, rfl⟩
    go_wp2_with fail
    refine HS.out.mono ?_
    rintro e w' ⟨⟨x, rfl⟩, rfl⟩
    go_wp2_with fail
    go_ret
    exact ⟨ret_i (by unfold armE; rw [if_neg (by omega)]), by unfold armD; rw [if_neg (by omega)]; exact HP.out⟩

set_option maxHeartbeats 400000 in
theorem Fail_any (w : World) (ok : Nat → Prop) (base g : Nat) (F : Nat → Prop) (D : DiskS) (n er : Int) (h : IsD w ok base g F D) (hn : n ≤ 9223372036854775807) :
    Calls Try.prog 44 #[.pointer (some ⟨g, 0, none⟩), .int .i64 n, .int .i64 er] w fun e w' => e = .returned (.int .i64 (failE n er)) ∧ DPost w ok base g F (failD D n er) w' := by
  have h' := h
  obtain ⟨dr, dc, pv, dvs, pvs, hd, hF⟩ := h
  have HM := Lib.hid (made_yes g w hd.db.c0)
  have hbad : (n < 0 ∨ (er ≠ 4 ∧ er ≠ 5)) → failE n er = 2 ∧ DPost w ok base g F (failD D n er) w := fun hc => by
    unfold failE failD
    rw [if_pos hc, if_pos hc]
    exact ⟨rfl, DPost.same h'⟩
  have HBAD := Lib.hid hbad
  clear hbad
  by_cases h1 : n < 0
  · have t1 : decide (n < 0) = true := by simpa using h1
    clear hd hF h'
    go_enter Try.func44, Try.ntmps44
    go_wp2_with fail
    refine HM.out.mono ?_
    rintro e w' ⟨rfl, rfl⟩
    go_wp2_with fail
    go_ret
    exact ⟨ret_i (HBAD.out (.inl h1)).1.symm, (HBAD.out (.inl h1)).2⟩
  · have t1 : decide (n < 0) = false := by simpa using h1
    by_cases h2 : er ≠ 4 ∧ er ≠ 5
    · have t2 : (er != 4) = true := by rw [bne_iff_ne]; exact h2.1
      have t3 : (er != 5) = true := by rw [bne_iff_ne]; exact h2.2
      have HB2 := Lib.hid (HBAD.out (.inr h2))
      clear hd hF h' HBAD h2
      go_enter Try.func44, Try.ntmps44
      go_wp2_with fail
      refine HM.out.mono ?_
      rintro e w' ⟨rfl, rfl⟩
      go_wp2_with fail
      go_ret
      exact ⟨ret_i HB2.out.1.symm, HB2.out.2⟩
    · have HS := Lib.hid (aStore_any ⟨g, 5, none⟩ n _ w hd.db.c5 (hd.db.frozen 5))
      have hc : ¬ (n < 0 ∨ (er ≠ 4 ∧ er ≠ 5)) := fun h => h.elim h1 h2
      have hd2 := hd.db.s5 n
      have ho2 : Off (· = g) w (w.setCell ⟨g, 5, none⟩ (.int .i64 n)) := (Off.refl _ w).setCell _ rfl
      have c6 := hd2.c6
      have z6 := hd2.frozen 6
      have HP : Hid (failE n er = 0 ∧ DPost w ok base g F (failD D n er) ((w.setCell ⟨g, 5, none⟩ (.int .i64 n)).setCell ⟨g, 6, none⟩ (.int .i64 er))) := Lib.hid (by
        unfold failE failD
        rw [if_neg hc, if_neg hc]
        exact ⟨rfl, DPost.turn hd hF (ho2.setCell _ rfl) (hd2.s6 er) rfl rfl hd.p1 hd.p2 (by dsimp only; omega) hn⟩)
      have h45 : er = 4 ∨ er = 5 := by omega
      clear hd hF h' HBAD hc h2 hd2 ho2
      rcases h45 with rfl | rfl
      all_goals
        go_enter Try.func44, Try.ntmps44
        go_wp2_with fail
        refine HM.out.mono ?_
        rintro e w' ⟨rfl, rfl⟩
        go_wp2_with fail
        refine HS.out.mono ?_
        rintro e w' ⟨⟨x, rfl⟩, rfl⟩
        go_wp2_with fail
        go_ret
        exact ⟨ret_i HP.out.1.symm, HP.out.2⟩

/-- What Durable tells: nothing, if b is none of the blocks. -/
def durL (D : DiskS) (b : Int) : List UInt8 := if askE D b = 0 then D.blocks.getD b.toNat [] else []

theorem DK.at_ {w : World} {ok : Nat → Prop} {base g dr dc : Nat} {pv : Value} {dvs : List Value} {pvs : List (Int × Value)} {D : DiskS} (h : DK w ok base g dr dc pv dvs pvs D) {i : Nat} (hi : i < D.blocks.length) :
    ∃ u, w.cell? ⟨dr, i, none⟩ = some u ∧ dvs[i]? = some u ∧ BV ok w u (D.blocks.getD i []) := by
  have hl := h.dl
  have hd : dvs[i]? = some (dvs[i]'(by omega)) := List.getElem?_eq_getElem (by omega)
  refine ⟨dvs[i]'(by omega), ?_, hd, h.dv i _ _ hd (by simp [List.getD, List.getElem?_eq_getElem hi])⟩
  have := h.dur.cells (g := dr) rfl i _ hd
  rwa [add_plain] at this

set_option maxHeartbeats 400000 in
theorem Durable_any (w : World) (ok : Nat → Prop) (base g : Nat) (F : Nat → Prop) (D : DiskS) (b : Int) (h : IsD w ok base g F D) :
    Calls Try.prog 25 #[.pointer (some ⟨g, 0, none⟩), .int .i64 b] w fun e w' => ∃ v, e = .returned (.tuple #[v, .int .i64 (askE D b)]) ∧ OB w' w.heap.size v (durL D b) ∧ Below w.heap.size w w' := by
  have HA := Lib.hid (asked_any w ok base g F D b h)
  obtain ⟨dr, dc, pv, dvs, pvs, hd, hF⟩ := h
  have hL : durL D b = if askE D b = 0 then D.blocks.getD b.toNat [] else [] := rfl
  have h02 : askE D b = 0 ∨ askE D b = 2 := by unfold askE; split <;> simp
  rcases h02 with h0 | h0
  · rw [if_pos h0] at hL
    have hb : 0 ≤ b ∧ b < (D.blocks.length : Int) := by
      unfold askE at h0
      split at h0
      · cases h0
      · omega
    obtain ⟨i, rfl⟩ := Int.eq_ofNat_of_zero_le hb.1
    have hi : i < D.blocks.length := by omega
    rw [Int.toNat_natCast] at hL
    obtain ⟨u, cu, _, hbv⟩ := hd.at_ hi
    have c1 := hd.db.c1
    obtain ⟨A, n, c, m, rfl, hr, hn, hsp⟩ := hbv.read
    have hlen := hbv.1
    rw [← hL] at hsp hlen
    have n2 := hd.n2
    rw [h0] at HA ⊢
    have HSP := Lib.hid hsp
    have HLEN := Lib.hid hlen
    clear hL hsp hlen hbv hd hF h0 hb
    generalize durL D (i : Int) = l at *
    generalize D.blocks.length = nb at *
    go_enter Try.func25, Try.ntmps25
    go_wp2_with fail
    refine HA.out.mono ?_
    rintro e w' ⟨rfl, rfl⟩
    go_wp2_with fail
    refine (whole_any A n c m w hr hn).mono ?_
    rintro e w2 ⟨rfl, hB2, hb2⟩
    go_wp2_with fail
    go_ret2
    refine ⟨_, rfl, ?_, hb2⟩
    rw [HSP.out] at hB2
    have := hB2.own (base := w.heap.size) (Nat.le_refl _) (by rw [HLEN.out]; simp [maxLen])
    rwa [HLEN.out] at this
  · rw [if_neg (by omega)] at hL
    rw [h0] at HA ⊢
    rw [hL]
    clear hd hF h0 hL
    go_enter Try.func25, Try.ntmps25
    go_wp2_with fail
    refine HA.out.mono ?_
    rintro e w' ⟨rfl, rfl⟩
    go_wp2_with fail
    go_ret2
    exact ⟨_, rfl, OB.nil _ _, gr_refl _⟩

end Go.Proofs.Ytjopobkcijkpmaa
