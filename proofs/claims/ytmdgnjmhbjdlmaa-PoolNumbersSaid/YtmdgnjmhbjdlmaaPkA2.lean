/-
  Texts of this claim, joined: DkD, DkE, DkF, DkG, Rs, DkH, DkI, DkJ, Apt, DkK, ApO, DkM, DkN, StA. No statement of the program is proved here.
-/
import Derived.Test.YtmdgnjmhbjdlmaaPkA1
import Derived.RangeFuncBox
import Derived.RangeFuncNested
import Derived.RangeFuncBound
import Derived.RangeFuncCalls
import Derived.RangeFuncLeaves
import Derived.OwnWalkIn
import Derived.TacticsInMore
import Derived.LoopNIn
import Derived.LoopIn
import Derived.Sort.QuietIn
import Derived.RegionIn
import Derived.BigRegionIn
import Derived.Stop.RegionWithIn
import Derived.Laws.EntriesVeiled
import Derived.Shelf.Abstract
/-! DkD -/
namespace Go.Proofs.Ytmdgnjmhbjdlmaa
open Go.RowKit

set_option maxHeartbeats 400000 in
theorem begun_any (A : Option Addr) (n c : Nat) (w : World) :
    Calls Try.prog 43 #[.slice A n c] w fun e w' => e = .returned (.pointer (some ⟨w.heap.size, 0, none⟩)) ∧ DB w' w.heap.size (.slice A n c) (.slice none 0 0) false (-1) (-1) 0 ∧ Below w.heap.size w w' := by
  have h1 : DB (w.alloc (.cells #[.pointer (some ⟨w.heap.size, 0, none⟩), .slice A n c, .slice none 0 0, .bool false, .int .i64 0, .int .i64 0, .int .i64 0] 85)) w.heap.size (.slice A n c) (.slice none 0 0) false 0 0 0 := heap_alloc_new w _
  have hb1 := gr_alloc (gr_refl w) (.cells #[.pointer (some ⟨w.heap.size, 0, none⟩), .slice A n c, .slice none 0 0, .bool false, .int .i64 0, .int .i64 0, .int .i64 0] 85)
  have HD := Lib.hid (disarm_any w.heap.size _ _ _ _ _ _ _ h1)
  go_enter Try.func43, Try.ntmps43
  go_wp2_with fail
  refine HD.out.mono ?_
  rintro e w2 ⟨⟨x, rfl⟩, h2, ho⟩
  go_wp2_with fail
  go_ret
  exact ⟨rfl, h2, hb1.trans (ho.below (fun k e => by omega) hb1.size)⟩

/-- A new disk. -/
def newD (n : Nat) : DiskS := ⟨List.replicate n zer, [], false, -1, -1, 0⟩

/-- So many nil lists. -/
def nils (n : Nat) : Array Value := madeCells #[.slice none 0 0] n
theorem nils_toList (n : Nat) : (nils n).toList = List.replicate n (.slice none 0 0) := by unfold nils; rw [toList_madeCells_one]

theorem info_lists : (Try.prog.info? 26).map (fun i => (i.zero, i.size, i.bytes)) = some (some (.slice none 0 0), 1, 24) := by kernel_rfl
theorem info_write : (Try.prog.info? 90).map (fun i => (i.zero, i.size, i.bytes)) = some (some (.agg #[.int .i64 0, .slice none 0 0]), 2, 32) := by kernel_rfl

theorem run_mk_nils (n : Nat) (hn : n ≤ 4398046511104) (x : Int) (hx : x = n) (u : World) :
    (Instr.makeSlice 36 (.int .i64 x) (.int .i64 x)).run Try.prog u = .ok (.slice (some ⟨u.heap.size, 0, none⟩) n n) (u.alloc (.cells (nils n) 26)) := by
  obtain ⟨i0, hi0, hz0, hz1, hz2⟩ := info_parts info_lists
  subst hx
  have h := run_make (P := Try.prog) u 36 26 i0 (.slice none 0 0) Try.underlying36 hi0 hz0 .i64 .i64 (n : Int) (n : Int) (by omega) (by omega) (by rw [hz2]; omega) (by omega)
  simpa [hz1, Value.cells, nils] using h

set_option maxHeartbeats 400000 in
theorem New_bad (n : Int) (w : World) (h : n < 1 ∨ 4096 < n) :
    Calls Try.prog 19 #[.int .i64 n] w fun e w' => e = .returned (.tuple #[.pointer none, .int .i64 2]) ∧ w = w' := by
  by_cases h1 : n < 1
  · have t1 : decide (n < 1) = true := by simpa using h1
    clear h
    go_enter Try.func19, Try.ntmps19
    go_wp2_with fail
    go_ret2
    exact ⟨rfl, rfl⟩
  · have t1 : decide (n < 1) = false := by simpa using h1
    have t2 : decide (4096 < n) = true := by simp; omega
    clear h
    go_enter Try.func19, Try.ntmps19
    go_wp2_with fail
    go_ret2
    exact ⟨rfl, rfl⟩

set_option maxHeartbeats 400000 in
theorem New_any (n : Nat) (w : World) (h1 : 1 ≤ n) (h2 : n ≤ 4096) :
    Calls Try.prog 19 #[.int .i64 n] w fun e w' => ∃ g F, e = .returned (.tuple #[.pointer (some ⟨g, 0, none⟩), .int .i64 0]) ∧ IsD w' (fun _ => False) w.heap.size g F (newD n) ∧ Below w.heap.size w w' := by
  have mk := run_mk_nils n (by omega) n rfl
  have t1 : decide ((n : Int) < 1) = false := by simp; omega
  have t2 : decide (4096 < (n : Int)) = false := by simp; omega
  have HB := Lib.hid (begun_any (some ⟨w.heap.size, 0, none⟩) n n (w.alloc (.cells (nils n) 26)))
  have hrow : (w.alloc (.cells (nils n) 26)).ownsRow w.heap.size 26 1 (.slice (some ⟨w.heap.size, 0, none⟩) n n) n (List.replicate n (.slice none 0 0)) := by
    refine ⟨by simp, .inr ⟨w.heap.size, n, nils n, rfl, Nat.le_refl _, heap_alloc_new w _, Nat.le_refl _, by simp only [maxLen]; omega, ?_, ?_⟩⟩
    · have := congrArg List.length (nils_toList n); simpa using this
    · rw [nils_toList]; simp
  have hb1 := gr_alloc (gr_refl w) (.cells (nils n) 26)
  go_enter Try.func19, Try.ntmps19
  go_wp2_with fail
  refine HB.out.mono ?_
  rintro e w2 ⟨rfl, hdb, hb2⟩
  go_wp2_with fail
  go_ret2
  have hl : (newD n).blocks.length = n := by simp [newD]
  refine ⟨_, foot (w.heap.size + 1) w.heap.size (.slice none 0 0), rfl, ⟨w.heap.size, n, .slice none 0 0, List.replicate n (.slice none 0 0), [], ⟨?_, ?_, ⟨rfl, .inl ⟨rfl, rfl⟩⟩, rfl, ?_, ?_, ?_, ?_, ?_, ?_, ?_, ?_, ?_⟩, fun k => Iff.rfl⟩, gr_trans hb1 hb2⟩
  · rw [hl]
    rw [World.size_alloc] at hdb
    exact hdb
  · rw [hl]
    exact World.ownsRow.kept hrow (row := none) ⟨hb2.os, hb2.tape, hb2.output, hb2.size, fun k hk _ => hb2.block k hk⟩ (.inr (by simp [Value.ownBlock]))
  · intro i u l hu hll
    have e1 : u = .slice none 0 0 := List.eq_of_mem_replicate (List.mem_of_getElem? hu)
    have e2 : l = zer := List.eq_of_mem_replicate (List.mem_of_getElem? (show (List.replicate n zer)[i]? = some l from hll))
    subst e1 e2
    exact ⟨zer_len, .inl ⟨rfl, rfl⟩⟩
  · intro i q p hq; simp at hq
  · rw [hl]; exact h1
  · rw [hl]; exact h2
  · exact Int.le_refl _
  · show (-1 : Int) ≤ _; omega
  · exact Int.le_refl _
  · show (-1 : Int) ≤ _; omega
  · show w.heap.size ≤ w.heap.size + 1; omega

/-- A disk behind an operation. -/
def opS (D : DiskS) : DiskS := { D with down := opD D.down D.power, power := opL D.down D.power, fault := opL D.down D.fault }
def opC (D : DiskS) : Int := opE D.down D.power D.fault D.wi

theorem opL_ge {dn : Bool} {n : Int} (h : -1 ≤ n) : -1 ≤ opL dn n := by
  unfold opL stL
  split
  · exact h
  · split <;> omega
theorem opL_le {dn : Bool} {n : Int} (h : n ≤ 9223372036854775807) : opL dn n ≤ 9223372036854775807 := by
  unfold opL stL
  split
  · exact h
  · split <;> omega

theorem DK.oper {w w' : World} {ok : Nat → Prop} {base g dr dc : Nat} {pv : Value} {dvs : List Value} {pvs : List (Int × Value)} {D : DiskS} (h : DK w ok base g dr dc pv dvs pvs D) (ho : Off (· = g) w w')
    (hdb : DB w' g (.slice (some ⟨dr, 0, none⟩) D.blocks.length dc) pv (opD D.down D.power) (opL D.down D.power) (opL D.down D.fault) D.wi) : DK w' ok base g dr dc pv dvs pvs (opS D) :=
  h.turn ho hdb rfl rfl (opL_ge h.p1) (opL_le h.p2) (opL_ge h.f1) (opL_le h.f2)

/-- Write: what it answers, and the disk then. -/
def writeE (D : DiskS) (b : Int) (n : Nat) : Int := if askE D b ≠ 0 then askE D b else if n ≠ 4096 then 2 else opC D
def writeD (D : DiskS) (b : Int) (m : List UInt8) : DiskS := if askE D b ≠ 0 ∨ m.length ≠ 4096 then D else if opC D ≠ 0 then opS D else { opS D with pending := D.pending ++ [(b.toNat, m)] }

theorem ask02 (D : DiskS) (b : Int) : askE D b = 0 ∨ askE D b = 2 := by unfold askE; split <;> simp
theorem ask_in {D : DiskS} {b : Int} (h0 : askE D b = 0) : 0 ≤ b ∧ b < (D.blocks.length : Int) := by
  unfold askE at h0
  split at h0
  · cases h0
  · omega

/-- A write has joined: what lies in memory behind it. -/
theorem DK.pushed {w1 w2 w4 : World} {ok : Nat → Prop} {base g dr dc nb bi : Nat} {pv v4 : Value} {dvs : List Value} {pvs : List (Int × Value)} {D : DiskS} {m : List UInt8} {o : Obj} (h : DK w1 ok base g dr dc pv dvs pvs D) (hb2 : Below w1.heap.size w1 w2) (hB : BB w2 nb m) (hnb : w1.heap.size ≤ nb)
    (hml : m.length = 4096) (hbi : bi < D.blocks.length) (hown4 : w4.ownsRow base 90 2 v4 (D.pending.length + 1) (wrs pvs ++ [.int .i64 (bi : Int), .slice (some ⟨nb, 0, none⟩) 4096 4096])) (hg4 : (w2.alloc o).grownBy w4 pv.ownBlock) :
    DB w4 g (.slice (some ⟨dr, 0, none⟩) D.blocks.length dc) pv D.down D.power D.fault D.wi ∧ DK (w4.setCell ⟨g, 2, none⟩ v4) (fun k => ok k ∨ w1.heap.size ≤ k) base g dr dc v4 dvs (pvs ++ [((bi : Int), .slice (some ⟨nb, 0, none⟩) 4096 4096)]) { D with pending := D.pending ++ [(bi, m)] } ∧
    Off (foot g dr pv) w1 (w4.setCell ⟨g, 2, none⟩ v4) := by
  have hpw : pv.ownBlock = none ∨ ∃ k, pv.ownBlock = some k := by cases pv.ownBlock <;> simp
  have o4 : Off (fun k => pv.ownBlock = some k) w1 w4 := (Off.of_below (gr_trans hb2 (gr_alloc (gr_refl w2) o))).trans (Off.of_grown hg4 (fun k e => e))
  have hS4 : ∀ k q, pv.ownBlock = some k → BB w1 k q → False := fun k q e => h.foot_bytes k q (.inr (.inr e))
  have db4 : DB w4 g (.slice (some ⟨dr, 0, none⟩) D.blocks.length dc) pv D.down D.power D.fault D.wi := h.db.off o4 h.ne_gp
  have o5 : Off (foot g dr pv) w1 (w4.setCell ⟨g, 2, none⟩ v4) := (o4.mono (fun k _ e => .inr (.inr e))).setCell _ (.inl rfl)
  have og : Off (· = g) w4 (w4.setCell ⟨g, 2, none⟩ v4) := (Off.refl _ w4).setCell _ rfl
  have hv4 : v4.ownBlock ≠ some g := by
    intro e
    rcases hown4.2 with ⟨rfl, _⟩ | ⟨q, cap, cur, rfl, _, hq, _⟩
    · simp [Value.ownBlock] at e
    · simp [Value.ownBlock] at e; subst e; exact cells_ne hq db4 (by decide)
  have hBn : BB w4 nb m := by
    have h2 : BB (w2.alloc o) nb m := hB.alloc o
    refine (hg4.block nb h2.lt (fun e => ?_)).trans h2
    have := (h.foot_lt nb (.inr (.inr e.symm))).2
    omega
  have hB5 : ∀ {k : Nat} {q : List UInt8}, BB w4 k q → BB (w4.setCell ⟨g, 2, none⟩ v4) k q := fun {k q} hk => (og.block k hk.lt (fun e => by subst e; exact hk.ne db4 (by decide) rfl)).trans hk
  have hbv : ∀ {u : Value} {l : List UInt8}, BV ok w1 u l → BV (fun k => ok k ∨ w1.heap.size ≤ k) (w4.setCell ⟨g, 2, none⟩ v4) u l := by
    intro u l hu
    exact (hu.off o5 (fun k q hk => h.foot_bytes k q hk)).mono (fun k _ hk => .inl hk)
  refine ⟨db4, ⟨db4.s2 v4, ?_, ?_, ?_, fun i u l h1 h2 => hbv (h.dv i u l h1 h2), ?_, h.n1, h.n2, h.p1, h.p2, h.f1, h.f2, h.gb⟩, o5⟩
  · exact ownsRow_off (ownsRow_off h.dur o4 (fun k e e' => h.ne_dp (by cases e; exact e'))) og (fun k e => by cases e; exact Ne.symm h.ne_gd)
  · rw [wrs_append]
    show World.ownsRow _ base _ 2 v4 (D.pending ++ [(bi, m)]).length _
    rw [List.length_append]
    exact ownsRow_off hown4 og (fun k e e' => hv4 (by rw [e, e']))
  · rw [List.length_append, h.pl]
    show _ = (D.pending ++ [(bi, m)]).length
    rw [List.length_append]; rfl
  · intro i q p hq hp
    have hp' : (D.pending ++ [(bi, m)])[i]? = some p := hp
    rcases Nat.lt_or_ge i D.pending.length with hi | hi
    · rw [List.getElem?_append_left hi] at hp'
      rw [List.getElem?_append_left (by rw [h.pl]; exact hi)] at hq
      obtain ⟨a1, a2, a3⟩ := h.pw i q p hq hp'
      exact ⟨a1, a2, (a3.off o5 (fun k q hk => h.foot_bytes k q hk)).mono (fun k _ hk => .inl hk)⟩
    · rw [List.getElem?_append_right hi] at hp'
      rw [List.getElem?_append_right (by rw [h.pl]; exact hi), h.pl] at hq
      rcases Nat.eq_zero_or_pos (i - D.pending.length) with h0 | h0
      · rw [h0] at hp' hq
        simp only [List.getElem?_cons_zero, Option.some.injEq] at hp' hq
        subst hp' hq
        exact ⟨rfl, hbi, hml, nb, rfl, hB5 hBn, .inr hnb⟩
      · rw [List.getElem?_eq_none (by simp; omega)] at hp'
        cases hp'

set_option maxRecDepth 100000 in
set_option maxHeartbeats 2000000 in
theorem Write_any (w : World) (ok : Nat → Prop) (base g : Nat) (F : Nat → Prop) (D : DiskS) (b : Int) (A : Option Addr) (n c : Nat) (m : List UInt8) (h : IsD w ok base g F D) (hm : BR w A n m) (hA : ∀ ad, A = some ad → ¬ F ad.block) (hn : n ≤ 9223372036854775807) (hpl : D.pending.length ≤ 1000000) :
    Calls Try.prog 28 #[.pointer (some ⟨g, 0, none⟩), .int .i64 b, .slice A n c] w fun e w' => e = .returned (.int .i64 (writeE D b n)) ∧ DPost w ok base g F (writeD D b m) w' := by
  have HA := Lib.hid (asked_any w ok base g F D b h)
  have HML := Lib.hid hm.len
  have HSAME := Lib.hid (DPost.same h)
  rcases ask02 D b with h0 | h0
  · rw [h0] at HA
    by_cases hn4 : n = 4096
    · subst hn4
      obtain ⟨dr, dc, pv, dvs, pvs, hd, hF⟩ := h
      have HO := Lib.hid (operation_any g _ _ _ _ _ _ w hd.db hd.p1 hd.p2 hd.f1 hd.f2)
      have HE : Hid (writeE D b 4096 = opC D) := Lib.hid (by unfold writeE; rw [if_neg (by rw [h0]; simp), if_neg (by simp)])
      have HAsk := Lib.hid h0
      by_cases hop : opC D = 0
      · obtain ⟨hb0, hbl⟩ := ask_in h0
        obtain ⟨bi, rfl⟩ := Int.eq_ofNat_of_zero_le hb0
        have hbi : bi < D.blocks.length := by omega
        have HD : Hid (writeD D (bi : Int) m = { opS D with pending := D.pending ++ [(bi, m)] }) := Lib.hid (by
          unfold writeD
          rw [if_neg (by rw [h0, HML.out]; simp), if_neg (by rw [hop]; simp), Int.toNat_natCast])
        have hop' : opE D.down D.power D.fault D.wi = 0 := hop
        rw [hop'] at HO
        rw [hop] at HE
        obtain ⟨i1, hi1, hy0, hy1, hy2⟩ := info_parts info_write
        have hFg : ∀ ad, A = some ad → ad.block ≠ g := fun ad e e' => hA ad e ((hF _).2 (.inl e'))
        have HFG := Lib.hid hFg
        have HFF := Lib.hid hF
        have HDK := Lib.hid hd
        have HMM := Lib.hid hm
        obtain ⟨Ap, cp, rfl, _, _⟩ := own_form hd.pen
        clear hd hF hm hA h0 hop hop' hFg hb0 hbl HSAME
        go_enter Try.func28, Try.ntmps28
        go_wp2_with fail
        refine HA.out.mono ?_
        rintro e w' ⟨rfl, rfl⟩
        go_wp2_with fail
        refine HO.out.mono ?_
        rintro e w1 ⟨rfl, hdb1, ho1⟩
        have hd1 := HDK.out.oper ho1 hdb1
        have hm1 : BR w1.drew A 4096 m := ⟨HMM.out.1, fun h => by
          obtain ⟨ad, e, hc⟩ := HMM.out.2 h
          refine ⟨ad, e, fun j u hu => ?_⟩
          have := hc j u hu
          rw [← this]
          exact World.cell?_of_block (ho1.block _ (World.block_lt_of_cell? w _ this) (by rw [block_of_add]; exact HFG.out ad e))⟩
        have HWH := Lib.hid (whole_any A 4096 c m w1.drew hm1 (Nat.le_refl _))
        have HD1 := Lib.hid hd1
        have HDB1 := Lib.hid hdb1
        have hc2 : w1.drew.cell? ⟨g, 2, none⟩ = some (.slice Ap D.pending.length cp) := hdb1.c2
        have hpb : D.blocks.length = (opS D).blocks.length := rfl
        have HPEN : Hid (∀ w2 : World, Below w1.drew.heap.size w1.drew w2 → ∀ o : Obj, (w2.alloc o).ownsRow base 90 2 (.slice Ap D.pending.length cp) D.pending.length (wrs pvs)) := Lib.hid (fun w2 hb2 o => by
          have hb2' : Below w1.heap.size w1 w2 := ⟨hb2.os, hb2.tape, hb2.output, hb2.size, hb2.block⟩
          exact ownsRow_off hd1.pen (S := fun _ => False) (Off.of_below (gr_alloc hb2' o)) (fun _ _ h => h))
        have HC2 : Hid (∀ w2 : World, Below w1.drew.heap.size w1.drew w2 → w2.cell? ⟨g, 2, none⟩ = some (.slice Ap D.pending.length cp) ∧ ∀ o : Obj, (w2.alloc o).cell? ⟨g, 2, none⟩ = some (.slice Ap D.pending.length cp)) := Lib.hid (fun w2 hb2 => ⟨keep_of_below hb2 hdb1.c2, fun o => keep_of_below (gr_alloc hb2 o) hdb1.c2⟩)
        have HPUSH : Hid (∀ (w2 w4 : World) (v4 : Value) (o : Obj), BB w2 w1.drew.heap.size (splice zer 0 m) → Below w1.drew.heap.size w1.drew w2 → w4.ownsRow base 90 2 v4 (D.pending.length + 1) (wrs pvs ++ [.int .i64 (bi : Int), .slice (some ⟨w1.drew.heap.size, 0, none⟩) 4096 4096]) →
            (w2.alloc o).grownBy w4 (Value.slice Ap D.pending.length cp).ownBlock → (v4.ownBlock = (Value.slice Ap D.pending.length cp).ownBlock ∨ (v4.ownBlock = some (w2.alloc o).heap.size ∧ (w2.alloc o).grownBy w4 none)) →
            w4.cell? ⟨g, 2, none⟩ = some (.slice Ap D.pending.length cp) ∧ w4.frozen? ⟨g, 2, none⟩ = false ∧ DPost w ok base g F { opS D with pending := D.pending ++ [(bi, m)] } (w4.setCell ⟨g, 2, none⟩ v4)) := Lib.hid (by
          intro w2 w4 v4 o hB2 hb2 hown4 hg4 hbl
          have hb2' : Below w1.heap.size w1 w2 := ⟨hb2.os, hb2.tape, hb2.output, hb2.size, hb2.block⟩
          rw [splice_zer m HML.out] at hB2
          obtain ⟨db4, hk, ho5⟩ := DK.pushed hd1 hb2' hB2 (Nat.le_refl _) HML.out hbi hown4 hg4
          refine ⟨db4.c2, db4.frozen 2, (ho1.mono (fun k _ e => (HFF.out k).2 (.inl e))).trans (ho5.mono (fun k _ e => (HFF.out k).2 e)), foot g dr v4, ⟨dr, dc, v4, dvs, _, hk.mono (fun k _ h => h.imp id (fun h => Nat.le_trans ho1.size h)), fun k => Iff.rfl⟩, fun k hk => ?_⟩
          rcases hk with rfl | rfl | hk
          · exact .inl ((HFF.out _).2 (.inl rfl))
          · exact .inl ((HFF.out _).2 (.inr (.inl rfl)))
          · rcases hbl with e | ⟨e, _⟩
            · exact .inl ((HFF.out _).2 (.inr (.inr (by rw [← e]; exact hk))))
            · rw [e] at hk
              injection hk with hk
              rw [World.size_alloc] at hk
              have h1 := ho1.size
              have h2 := hb2'.size
              exact .inr (by omega))
        have hone : ∀ u ∈ [Value.int .i64 (bi : Int), .slice (some ⟨w1.drew.heap.size, 0, none⟩) 4096 4096], u.oneCell' = true := by
          intro u hu
          simp only [List.mem_cons, List.not_mem_nil, or_false] at hu
          rcases hu with rfl | rfl <;> rfl
        have HONE := Lib.hid hone
        have hmx : D.pending.length + 1 ≤ maxLen := by simp only [maxLen]; omega
        have HBS : Hid (∀ (w2 : World) (o : Obj), Below w1.drew.heap.size w1.drew w2 → base ≤ (w2.alloc o).heap.size) := Lib.hid (fun w2 o hb2 => by
          have h1 := hd1.gb
          have h2 := hd1.db.lt
          have h3 := hb2.size
          have h4 : w1.drew.heap.size = w1.heap.size := rfl
          rw [World.size_alloc]; omega)
        have HRD : Hid (∀ (w2 : World), Rd (w2.alloc (.cells #[.int .i64 (bi : Int), .slice (some ⟨w1.drew.heap.size, 0, none⟩) 4096 4096] 90)) 2 (some ⟨w2.heap.size, 0, none⟩) 1 [.int .i64 (bi : Int), .slice (some ⟨w1.drew.heap.size, 0, none⟩) 4096 4096]) := Lib.hid (fun w2 => Rd.new w2 _ #[_, _] 1 2 rfl)
        clear hdb1 hd1 hm1 HDK HMM hone
        generalize D.pending.length = np at *
        go_wp2_with fail
        go_region_law (first
          | (refine step_append_Rd _ rfl (.tmp 27) (.tmp 32) _ rfl base 90 i1 _ 2 32 Try.underlying83 hi1 hy0 hy1 hy2 rfl (.slice Ap np cp) np (wrs pvs) rfl (HPEN.out w2 hb2 _) (some ⟨w2.heap.size, 0, none⟩) 1 1 [.int .i64 (bi : Int), .slice (some ⟨w1.drew.heap.size, 0, none⟩) 4096 4096] rfl (HRD.out w2) HONE.out (by omega) hmx (HBS.out w2 _ hb2) ?_; intro v4 w4 hown4 hg4 _ hbl4; obtain ⟨k1, k2, k3⟩ := HPUSH.out w2 w4 v4 _ hB2 hb2 hown4 hg4 hbl4; obtain ⟨g4, c4, rfl⟩ := ownsRow_succ hown4)
          | (go_simp; go_at_call 50; refine HWH.out.mono ?_; rintro e w2 ⟨rfl, hB2, hb2⟩; obtain ⟨k5, k6⟩ := HC2.out w2 hb2))
        all_goals
          go_wp2_with fail
          go_ret
          exact ⟨ret_i HE.out.symm, by rw [HD.out]; exact k3⟩
      · have HD : Hid (writeD D b m = opS D) := Lib.hid (by
          unfold writeD
          rw [if_neg (by rw [h0, HML.out]; simp), if_pos hop])
        have t1 : (opC D != 0) = true := by rw [bne_iff_ne]; exact hop
        have HO2 : Hid (Calls Try.prog 52 #[.pointer (some ⟨g, 0, none⟩)] w fun e w' => e = .returned (.int .i64 (opC D)) ∧ DPost w ok base g F (opS D) w') := Lib.hid (HO.out.mono (by
          rintro e w' ⟨rfl, hdb, ho⟩
          exact ⟨rfl, ho.mono (fun k _ e => (hF k).2 (.inl e)), F, ⟨dr, dc, pv, dvs, pvs, (hd.oper ho hdb).mono (fun k _ h => .inl h), hF⟩, fun k h => .inl h⟩))
        clear hd hF hm hA h0 hop HO HSAME HAsk
        generalize opC D = oc at *
        go_enter Try.func28, Try.ntmps28
        go_wp2_with fail
        refine HA.out.mono ?_
        rintro e w' ⟨rfl, rfl⟩
        go_wp2_with fail
        refine HO2.out.mono ?_
        rintro e w1 ⟨rfl, hp⟩
        go_wp2_with fail
        go_ret
        exact ⟨ret_i HE.out.symm, by rw [HD.out]; exact hp⟩
    · have t1 : ((n : Int) != 4096) = true := by rw [bne_iff_ne]; omega
      have HE : Hid (writeE D b n = 2) := Lib.hid (by unfold writeE; rw [if_neg (by rw [h0]; simp), if_pos hn4])
      have HP : Hid (DPost w ok base g F (writeD D b m) w) := Lib.hid (by unfold writeD; rw [if_pos (.inr (by rw [HML.out]; exact hn4))]; exact HSAME.out)
      clear h h0 hn4
      go_enter Try.func28, Try.ntmps28
      go_wp2_with fail
      refine HA.out.mono ?_
      rintro e w' ⟨rfl, rfl⟩
      go_wp2_with fail
      go_ret
      exact ⟨ret_i HE.out.symm, HP.out⟩
  · have HE : Hid (writeE D b n = 2) := Lib.hid (by unfold writeE; rw [if_pos (by rw [h0]; simp), h0])
    have HP : Hid (DPost w ok base g F (writeD D b m) w) := Lib.hid (by unfold writeD; rw [if_pos (.inl (by rw [h0]; simp))]; exact HSAME.out)
    rw [h0] at HA
    clear h h0
    go_enter Try.func28, Try.ntmps28
    go_wp2_with fail
    refine HA.out.mono ?_
    rintro e w' ⟨rfl, rfl⟩
    go_wp2_with fail
    go_ret
    exact ⟨ret_i HE.out.symm, HP.out⟩

end Go.Proofs.Ytmdgnjmhbjdlmaa

/-! DkE -/
namespace Go.Proofs.Ytmdgnjmhbjdlmaa
open Go.RowKit

/-- Writes carried out. -/
def carry (bs : List (List UInt8)) (ps : List (Nat × List UInt8)) : List (List UInt8) := ps.foldl (fun bs p => bs.set p.1 p.2) bs

theorem carry_len (bs : List (List UInt8)) (ps : List (Nat × List UInt8)) : (carry bs ps).length = bs.length := by
  unfold carry
  induction ps generalizing bs with
  | nil => rfl
  | cons p ps ih => rw [List.foldl_cons, ih, List.length_set]
theorem carry_snoc (bs : List (List UInt8)) {ps : List (Nat × List UInt8)} {k : Nat} {p : Nat × List UInt8} (h : ps[k]? = some p) : carry bs (ps.take (k + 1)) = (carry bs (ps.take k)).set p.1 p.2 := by
  obtain ⟨hk, e⟩ := List.getElem?_eq_some_iff.1 h
  unfold carry
  rw [List.take_succ_eq_append_getElem hk, List.foldl_append, e]
  rfl

section
variable {w w' : World} {ok : Nat → Prop} {base g dr dc : Nat} {pv : Value} {dvs : List Value} {pvs : List (Int × Value)} {D : DiskS}
/-- A block's bytes are laid. -/
theorem DK.lay (h : DK w ok base g dr dc pv dvs pvs D) {i : Nat} {u : Value} {l : List UInt8} (hi : i < D.blocks.length) (hu : BV ok w u l) :
    DK (w.setCell ⟨dr, i, none⟩ u) ok base g dr dc pv (dvs.set i u) pvs { D with blocks := D.blocks.set i l } := by
  have od : Off (· = dr) w (w.setCell ⟨dr, i, none⟩ u) := (Off.refl _ w).setCell _ rfl
  have hB : ∀ k m, k = dr → BB w k m → False := fun k m e => h.foot_bytes k m (.inr (.inl e))
  have hl : ({ D with blocks := D.blocks.set i l } : DiskS).blocks.length = D.blocks.length := by simp
  refine ⟨by rw [hl]; exact h.db.off od h.ne_gd, ?_, ownsRow_off h.pen od (fun k e e' => h.ne_dp (by rw [e, e'])), h.pl, ?_, ?_, by rw [hl]; exact h.n1, by rw [hl]; exact h.n2, h.p1, h.p2, h.f1, h.f2, h.gb⟩
  · rw [hl]
    rcases h.dur.2 with ⟨e, _⟩ | ⟨q, cap, cur, e, hb, hq, hnc, hm, hcs, ht⟩
    · cases e
    · cases e
      refine ⟨by have := h.dur.1; simpa using this, .inr ⟨dr, dc, cur.setIfInBounds i u, rfl, hb, ?_, hnc, hm, by simpa using hcs, ?_⟩⟩
      · simp only [World.setCell, Array.getElem?_modify, if_pos, hq]
        simp
      · rw [Array.toList_setIfInBounds, List.take_set, ht]
  · intro j v m hv hm
    have hm' : (D.blocks.set i l)[j]? = some m := hm
    rw [List.getElem?_set] at hv hm'
    by_cases e : i = j
    · subst e
      rw [if_pos rfl] at hv hm'
      rw [if_pos (by rw [h.dl]; exact hi)] at hv
      rw [if_pos hi] at hm'
      cases hv
      cases hm'
      exact hu.off od hB
    · rw [if_neg e] at hv hm'
      exact (h.dv j v m hv hm').off od hB
  · intro j q p hq hp
    obtain ⟨a1, a2, a3⟩ := h.pw j q p hq hp
    exact ⟨a1, by rw [hl]; exact a2, a3.off od hB⟩
/-- The writes are forgotten. -/
theorem DK.forget (h : DK w ok base g dr dc pv dvs pvs D) : DK (w.setCell ⟨g, 2, none⟩ (.slice none 0 0)) ok base g dr dc (.slice none 0 0) dvs [] { D with pending := [] } := by
  have og : Off (· = g) w (w.setCell ⟨g, 2, none⟩ (.slice none 0 0)) := (Off.refl _ w).setCell _ rfl
  have hB : ∀ k m, k = g → BB w k m → False := fun k m e => h.foot_bytes k m (.inl e)
  exact ⟨h.db.s2 _, ownsRow_off h.dur og (fun k e => by cases e; exact Ne.symm h.ne_gd), ⟨rfl, .inl ⟨rfl, rfl⟩⟩, rfl, fun i u l h1 h2 => (h.dv i u l h1 h2).off og hB, fun i q p hq => by simp at hq, h.n1, h.n2, h.p1, h.p2, h.f1, h.f2, h.gb⟩
/-- The i-th write. -/
theorem DK.wr_at (h : DK w ok base g dr dc pv dvs pvs D) {i : Nat} (hi : i < D.pending.length) : ∃ q c u p, pv = .slice (some ⟨q, 0, none⟩) D.pending.length c ∧ w.cell? ⟨q, i * 2, none⟩ = some (.int .i64 ((p.1 : Nat) : Int)) ∧ w.cell? ⟨q, i * 2 + 1, none⟩ = some u ∧
    D.pending[i]? = some p ∧ p.1 < D.blocks.length ∧ BW ok w u p.2 := by
  rcases h.pen.2 with ⟨_, e⟩ | ⟨q, cap, cur, rfl, _, hq, hnc, _⟩
  · omega
  · have hip : D.pending[i]? = some (D.pending[i]'hi) := List.getElem?_eq_getElem hi
    have hil : i < pvs.length := by rw [h.pl]; exact hi
    have hiu : pvs[i]? = some (pvs[i]'hil) := List.getElem?_eq_getElem hil
    obtain ⟨a1, a2, a3⟩ := h.pw i _ _ hiu hip
    obtain ⟨c1, c2⟩ := wrs_at pvs i _ hiu
    have hc := h.pen.cells (g := q) rfl
    have k1 := hc _ _ c1
    have k2 := hc _ _ c2
    rw [add_plain] at k1 k2
    exact ⟨q, cap, _, _, rfl, by rw [← a1]; exact k1, k2, hip, a2, a3⟩
end

theorem cell_new_at (w : World) (x y : Value) (t : TypeId) : (w.alloc (.cells #[x, y] t)).cell? ⟨w.heap.size, 0, none⟩ = some x ∧ (w.alloc (.cells #[x, y] t)).cell? ⟨w.heap.size, 1, none⟩ = some y := by
  have hw := World.alloc_heap_new w (.cells #[x, y] t)
  constructor
  · rw [cell_of_row _ _ 0 _ _ _ hw]; rfl
  · rw [cell_of_row _ _ 1 _ _ _ hw]; rfl

/-- Sync: the disk then. -/
def syncD (D : DiskS) : DiskS := if opC D ≠ 0 then opS D else { opS D with blocks := carry D.blocks D.pending, pending := [] }

set_option maxRecDepth 100000 in
set_option maxHeartbeats 2000000 in
theorem Sync_any (w : World) (ok : Nat → Prop) (base g : Nat) (F : Nat → Prop) (D : DiskS) (h : IsD w ok base g F D) (hpl : D.pending.length ≤ 1000000) :
    Calls Try.prog 47 #[.pointer (some ⟨g, 0, none⟩)] w fun e w' => e = .returned (.int .i64 (opC D)) ∧ DPost w ok base g F (syncD D) w' := by
  obtain ⟨dr, dc, pv, dvs, pvs, hd, hF⟩ := h
  have HM := Lib.hid (made_yes g w hd.db.c0)
  have HO := Lib.hid (operation_any g _ _ _ _ _ _ w hd.db hd.p1 hd.p2 hd.f1 hd.f2)
  have HFF := Lib.hid hF
  by_cases hop : opC D = 0
  · have HD : Hid (syncD D = { opS D with blocks := carry D.blocks D.pending, pending := [] }) := Lib.hid (by unfold syncD; rw [if_neg (by rw [hop]; simp)])
    have hop' : opE D.down D.power D.fault D.wi = 0 := hop
    rw [hop'] at HO
    have HOP := Lib.hid hop
    have HDK := Lib.hid hd
    clear hd hF hop hop'
    go_enter Try.func47, Try.ntmps47
    go_wp2_with fail
    refine HM.out.mono ?_
    rintro e w' ⟨rfl, rfl⟩
    go_wp2_with fail
    refine HO.out.mono ?_
    rintro e w1 ⟨rfl, hdb1, ho1⟩
    have HD1 := Lib.hid (HDK.out.oper ho1 hdb1)
    have c2 := hdb1.c2
    obtain ⟨Ap, cp, rfl, _, _⟩ := own_form HD1.out.pen
    have ho1' : Off F w w1 := ho1.mono (fun k _ e => (HFF.out k).2 (.inl e))
    have HN : Hid ((opS D).pending = D.pending) := Lib.hid rfl
    have HNB : Hid ((opS D).blocks = D.blocks) := Lib.hid rfl
    clear HDK hdb1
    have hnp : (opS D).pending.length ≤ 1000000 := hpl
    generalize hnpe : (opS D).pending.length = np at *
    have HNP := Lib.hid hnpe
    clear hnpe hpl
    go_wp2_with fail
    go_loopw [19] (fun i wr => ∃ (k : Nat) (dvs : List Value), k ≤ np ∧ i = .int .i64 k ∧ Hid (DK wr ok base g dr dc (.slice Ap np cp) dvs pvs { opS D with blocks := carry D.blocks (D.pending.take k) }) ∧ Off F w wr) (fun i _ => np - (intOf i).toNat)
    case atStart => exact ⟨0, dvs, Nat.zero_le _, rfl, Lib.hid HD1.out, ho1'⟩
    case round =>
      clear HD1 ho1' c2
      obtain ⟨k, dvs, hk, rfl, HDK, ho⟩ := hrel
      by_cases hlt : k < np
      · have hlt' : k < ({ opS D with blocks := carry D.blocks (D.pending.take k) } : DiskS).pending.length := by show k < (opS D).pending.length; rw [HNP.out]; exact hlt
        obtain ⟨q, c, u, p, e, k1, k2, k3, k4, k5⟩ := HDK.out.wr_at hlt'
        have e2 : (Value.slice Ap np cp) = .slice (some ⟨q, 0, none⟩) np c := by rw [e]; congr 1
        injection e2 with e3 e4 e5
        subst e3 e5
        have k4' : p.1 < (carry D.blocks (D.pending.take k)).length := k4
        have HLAY := Lib.hid (fun o : Obj => (HDK.out.below (gr_alloc (gr_refl wr) o)).lay k4 (k5.bv.below (gr_alloc (gr_refl wr) o)))
        have HSN := Lib.hid (carry_snoc D.blocks (show D.pending[k]? = some p from k3))
        obtain ⟨A5, n5, c5, hu5⟩ : ∃ A n c, u = .slice A n c := by
          obtain ⟨A, n, c, m, e, _⟩ := k5.bv.read
          exact ⟨A, n, c, e⟩
        subst hu5
        obtain ⟨uo, co, _, _⟩ := HDK.out.at_ k4
        have zo : wr.frozen? ⟨dr, p.1, none⟩ = false := by
          rcases HDK.out.dur.2 with ⟨e, _⟩ | ⟨q', cap', cur', e, _, hq', _⟩
          · cases e
          · cases e; simp [World.frozen?, hq']
        have c1 := HDK.out.db.c1
        have hgl := HDK.out.db.lt
        have hdl := World.block_lt_of_cell? wr _ co
        dsimp only at hdl
        have hFd : F dr := (HFF.out dr).2 (.inr (.inl rfl))
        have hcl : ({ opS D with blocks := carry D.blocks (D.pending.take k) } : DiskS).blocks.length = (carry D.blocks (D.pending.take k)).length := rfl
        rw [hcl] at c1
        clear hcl k3 k4 k5 HDK e
        generalize (carry D.blocks (D.pending.take k)).length = nb at *
        obtain ⟨p1, p2⟩ := p
        dsimp only at k1 k4' co zo HLAY HSN
        have x1 : (wr.alloc (.cells #[.int .i64 (p1 : Int), .slice A5 n5 c5] 90)).cell? ⟨g, 1, none⟩ = some (.slice (some ⟨dr, 0, none⟩) nb dc) := keep_of_below (gr_alloc (gr_refl wr) _) c1
        have x2 : (wr.alloc (.cells #[.int .i64 (p1 : Int), .slice A5 n5 c5] 90)).cell? ⟨dr, p1, none⟩ = some uo := keep_of_below (gr_alloc (gr_refl wr) _) co
        have x3 : (wr.alloc (.cells #[.int .i64 (p1 : Int), .slice A5 n5 c5] 90)).frozen? ⟨dr, p1, none⟩ = false := ((gr_alloc (gr_refl wr) _).frozen (p := ⟨dr, p1, none⟩) hdl).trans zo
        have y1 := cell_new_at wr (.int .i64 (p1 : Int)) (.slice A5 n5 c5) 90
        have HNEW : Hid (DK ((wr.alloc (.cells #[.int .i64 (p1 : Int), .slice A5 n5 c5] 90)).setCell ⟨dr, p1, none⟩ (.slice A5 n5 c5)) ok base g dr dc (.slice (some ⟨q, 0, none⟩) np cp) (dvs.set p1 (.slice A5 n5 c5)) pvs { opS D with blocks := carry D.blocks (D.pending.take (k + 1)) }) := Lib.hid (by rw [HSN.out]; exact HLAY.out _)
        have ho' : Off F w ((wr.alloc (.cells #[.int .i64 (p1 : Int), .slice A5 n5 c5] 90)).setCell ⟨dr, p1, none⟩ (.slice A5 n5 c5)) := (ho.alloc _).setCell _ hFd
        clear HLAY HSN
        go_wp2_with fail
        generalize wr.alloc (.cells #[.int .i64 (p1 : Int), .slice A5 n5 c5] 90) = wa at *
        obtain ⟨y1, y2⟩ := y1
        go_region
        all_goals
          go_wp2_with fail
          go_roundw
          case rel => exact ⟨k + 1, _, by omega, by go_num, Lib.hid (HNEW.out.below ⟨rfl, rfl, rfl, Nat.le_refl _, fun _ _ => rfl⟩), ho'.drewN 1⟩
          case measure => simp [intOf]; omega
      · obtain rfl : k = np := by omega
        have hz2 := HDK.out.db.frozen 2
        have c2 := HDK.out.db.c2
        have HFG := Lib.hid HDK.out.forget
        have HT : Hid (D.pending.take k = D.pending) := Lib.hid (List.take_of_length_le (by rw [← HN.out, HNP.out]; omega))
        have hFg : F g := (HFF.out g).2 (.inl rfl)
        clear HDK
        go_wp2_with fail
        go_ret
        refine ⟨ret_i HOP.out.symm, ho.setCell _ hFg, foot g dr (.slice none 0 0), ⟨dr, dc, .slice none 0 0, dvs, [], ?_, fun k => Iff.rfl⟩, fun k hk => ?_⟩
        · have := HFG.out.mono (ok' := fun k => ok k ∨ w.heap.size ≤ k) (fun k _ h => .inl h)
          rw [HT.out] at this
          rw [HD.out]
          exact this
        · rcases hk with rfl | rfl | hk
          · exact .inl hFg
          · exact .inl ((HFF.out _).2 (.inr (.inl rfl)))
          · simp [Value.ownBlock] at hk
  · have HD : Hid (syncD D = opS D) := Lib.hid (by unfold syncD; rw [if_pos hop])
    have t1 : (opC D != 0) = true := by rw [bne_iff_ne]; exact hop
    have HO2 : Hid (Calls Try.prog 52 #[.pointer (some ⟨g, 0, none⟩)] w fun e w' => e = .returned (.int .i64 (opC D)) ∧ DPost w ok base g F (opS D) w') := Lib.hid (HO.out.mono (by
      rintro e w' ⟨rfl, hdb, ho⟩
      exact ⟨rfl, ho.mono (fun k _ e => (hF k).2 (.inl e)), F, ⟨dr, dc, pv, dvs, pvs, (hd.oper ho hdb).mono (fun k _ h => .inl h), hF⟩, fun k h => .inl h⟩))
    clear hd hF HO hop HFF
    generalize opC D = oc at *
    go_enter Try.func47, Try.ntmps47
    go_wp2_with fail
    refine HM.out.mono ?_
    rintro e w' ⟨rfl, rfl⟩
    go_wp2_with fail
    refine HO2.out.mono ?_
    rintro e w1 ⟨rfl, hp⟩
    go_wp2_with fail
    go_ret
    exact ⟨rfl, by rw [HD.out]; exact hp⟩

end Go.Proofs.Ytmdgnjmhbjdlmaa

/-! DkF -/
namespace Go.Proofs.Ytmdgnjmhbjdlmaa
open Go.RowKit

/-- What a crash makes of one unsynced write. -/
def crash1 (keep : List Bool) (torn : Int) (cut : Nat) (i : Nat) (bs : List (List UInt8)) (p : Nat × List UInt8) : List (List UInt8) :=
  if (i : Int) = torn then bs.set p.1 (p.2.take cut ++ (bs.getD p.1 []).drop cut) else if keep.getD i false = true then bs.set p.1 p.2 else bs
def crashTo (keep : List Bool) (torn : Int) (cut : Nat) (bs : List (List UInt8)) (ps : List (Nat × List UInt8)) : Nat → List (List UInt8)
  | 0 => bs
  | k + 1 => crash1 keep torn cut k (crashTo keep torn cut bs ps k) (ps.getD k (0, []))

theorem crash1_len (keep : List Bool) (torn : Int) (cut i : Nat) (bs : List (List UInt8)) (p : Nat × List UInt8) : (crash1 keep torn cut i bs p).length = bs.length := by
  unfold crash1
  split
  · rw [List.length_set]
  · split
    · rw [List.length_set]
    · rfl
theorem crashTo_len (keep : List Bool) (torn : Int) (cut : Nat) (bs : List (List UInt8)) (ps : List (Nat × List UInt8)) (k : Nat) : (crashTo keep torn cut bs ps k).length = bs.length := by
  induction k with
  | zero => rfl
  | succ k ih => unfold crashTo; rw [crash1_len, ih]

/-- Crash: what it answers, and the disk then. -/
def crashE (cut : Int) : Int := if cut < 0 ∨ 4096 < cut then 2 else 0
def crashD (D : DiskS) (keep : List Bool) (torn cut : Int) : DiskS := if crashE cut ≠ 0 then D else ⟨crashTo keep torn cut.toNat D.blocks D.pending D.pending.length, [], false, -1, -1, 0⟩

/-- The slice value '.slice A n c' holds the bools l. -/
def LR (w : World) (A : Option Addr) (n : Nat) (l : List Bool) : Prop := Rd w 1 A n (l.map Value.bool)
theorem LR.len {w : World} {A : Option Addr} {n : Nat} {l : List Bool} (h : LR w A n l) : l.length = n := by have := h.1; simpa using this
theorem LR.at_ {w : World} {A : Option Addr} {n : Nat} {l : List Bool} (h : LR w A n l) {k : Nat} (hk : k < n) : ∃ g o, A = some ⟨g, o, none⟩ ∧ w.cell? ⟨g, o + k, none⟩ = some (.bool (l.getD k false)) := by
  obtain ⟨g, o, e, hc⟩ := Rd.plain h (by omega) (by omega)
  have hl : k < l.length := by rw [h.len]; exact hk
  refine ⟨g, o, e, hc k _ ?_⟩
  simp [List.getElem?_eq_getElem hl, List.getD]
theorem splice_take (z m : List UInt8) (k : Nat) (_hz : z.length = 4096) (hm : m.length = 4096) (hk : k ≤ 4096) : splice z 0 (m.take k) = m.take k ++ z.drop k := by
  unfold splice
  rw [List.take_zero, List.nil_append, Nat.zero_add, List.length_take, Nat.min_eq_left (by omega)]

end Go.Proofs.Ytmdgnjmhbjdlmaa

/-! DkG -/
namespace Go.Proofs.Ytmdgnjmhbjdlmaa
open Go.RowKit

theorem own_rd {w : World} {base : Nat} {e : TypeId} {size n : Nat} {A : Option Addr} {c : Nat} {xs : List Value} (h : w.ownsRow base e size (.slice A n c) n xs) : Rd w size A n xs := by
  refine ⟨h.1, fun h0 => ?_⟩
  rcases h.2 with ⟨e, _⟩ | ⟨g, cap, cur, e, _⟩
  · injection e with e1 e2; omega
  · injection e with e1 e2 e3
    subst e1 e3
    exact ⟨_, rfl, h.cells (g := g) rfl⟩

theorem own_low {w : World} {b base : Nat} {e : TypeId} {size n : Nat} {v : Value} {xs : List Value} (h : w.ownsRow base e size v n xs) (hb : b ≤ base) : w.ownsRow b e size v n xs := by
  refine ⟨h.1, ?_⟩
  rcases h.2 with h | ⟨g, cap, cur, rfl, hg, r⟩
  · exact .inl h
  · exact .inr ⟨g, cap, cur, rfl, by omega, r⟩

theorem own_plain {w : World} {base : Nat} {e : TypeId} {size n : Nat} {v : Value} {xs : List Value} (h : w.ownsRow base e size v n xs) (h0 : 0 < n) : ∃ g c, v = .slice (some ⟨g, 0, none⟩) n c := by
  rcases h.2 with ⟨_, h⟩ | ⟨g, cap, cur, rfl, _⟩
  · omega
  · exact ⟨g, cap, rfl⟩

end Go.Proofs.Ytmdgnjmhbjdlmaa

/-! Rs -/
namespace Go.Proofs.Ytmdgnjmhbjdlmaa
open Go.RowKit

/-- How a round's body is left: it goes on, or returns. -/
def goesOrRet {σ : Type} (B : Nat) (Kp : World → World → Prop) (I : σ → World → Prop) (Ix : World → Prop) (s : σ) (W : World) : Exit → Act → World → Prop
  | .normal, _, W' => KeepsFrom B W W' ∧ Kp W W' ∧ I s W'
  | .ret, _, W' => KeepsFrom B W W' ∧ Ix W'
  | _, _, _ => False

theorem rangeFunc_stops {F : Fence} {n : Nat} {P : Program} {g : Operand} {ps : Array Tmp} {assign body : Code} {Q : Exit → Act → World → Prop} {a : Act} {w : World}
    (hro : F.round = none) (h1 : 1 ≤ n) {gf : Nat} {lb : Array Value} (hg : a.eval g = .func (.func gf) #[] lb) (hFg : F.fn gf) (eg : ∀ args w, (callFunc gf args).run P w = .ok (.enter gf args) w)
    {α : Type} {encs : α → Array Value} (xs : List α) {Kp : World → World → Prop}
    (hKt : ∀ {A B C : World}, Kp A B → Kp B C → Kp A C) (hput : ∀ (W : World) (l : Nat) (o o' : Obj), w.heap.size ≤ l → W.heap[l]? = some o → o.isCells = false → Kp W (W.putObj l o'))
    (hseq : ∀ (l : Nat) (J : Nat → World → Prop) (Jx : World → Prop) (W : World), Below w.heap.size w W → (∀ k W m, J k W → J k (World.drewN W m)) → (∀ W m, Jx W → Jx (World.drewN W m)) →
      (∀ k x W1, xs[k]? = some x → J k W1 → YieldAt F (n - 1 - 1) P l (encs x) W1 fun e W' => (e = .returned (.bool true) ∧ J (k + 1) W' ∧ Kp W1 W') ∨ (e = .returned (.bool false) ∧ Jx W')) →
      J 0 W → CallsIn F (n - 1) P gf (#[.func (.yield l) #[] #[]] ++ lb) W fun e W' => (∃ v, e = .returned v) ∧ (J xs.length W' ∨ Jx W'))
    (hps : ∀ x, (encs x).size = ps.size)
    (I : Nat → World → Prop) (hI : OwnFrom w.heap.size I) (Ix : World → Prop) (hIx : OwnFrom w.heap.size (fun (_ : Unit) W => Ix W)) (h0 : I 0 w) (Ax : Nat → Act → World → Prop) (hAx : ∀ a', OwnFrom w.heap.size (fun k W => Ax k a' W))
    (hassign : ∀ (l k : Nat) (x : α) (W : World) (K : Act → World → Prop), xs[k]? = some x → I k W → (∀ a' W', KeepsFrom w.heap.size W W' → Kp W W' → I k W' → Ax k a' W' → K a' W') →
      assign.wpIn (F.inRound l) (n - 1 - 1) P (Exit.then K (fun _ _ _ => False)) { tmps := (ps.zip (encs x)).foldl (fun t (p, v) => t.setIfInBounds p v) a.tmps, defers := [] } W)
    (hbody : ∀ (l k : Nat) (x : α) (a' : Act) (W : World), xs[k]? = some x → I k W → Ax k a' W → body.wpIn (F.inRound l) (n - 1 - 1) P (goesOrRet w.heap.size Kp I Ix (k + 1) W) a' W)
    (hdone : ∀ (D : Nat) (W : World), w.heap.size ≤ D → I xs.length W → W.heap[D]? = some (.deferred (some [])) → Q .normal { a with defers := { target := .collected D, args := #[] } :: a.defers } W)
    (hstop : ∀ (D : Nat) (W : World), w.heap.size ≤ D → Ix W → W.heap[D]? = some (.deferred (some [])) → Code.ret.wpIn F n P Q { a with defers := { target := .collected D, args := #[] } :: a.defers } W) :
    (Code.rangeFunc g ps assign body).wpIn F n P Q a w := by
  refine wpIn_rangeFunc ?_
  intro fn hfn
  rw [hro]
  obtain ⟨rec, hrec⟩ : ∃ rec : LoopState → Option Code → Loop, rec = fun st pe => { state := st, pending := pe, fn, tmps := a.tmps, params := ps, assign, body, defers := w.heap.size } := ⟨_, rfl⟩
  obtain ⟨W1, hW1⟩ : ∃ W1, (w.alloc (.deferred (some []))).alloc (.loop (rec .ready none)) = W1 := ⟨_, rfl⟩
  have hL1 : W1.heap[w.heap.size + 1]? = some (.loop (rec .ready none)) := by
    rw [← hW1]; have := World.alloc_heap_new (w.alloc (.deferred (some []))) (.loop (rec .ready none)); rwa [World.size_alloc] at this
  have hK1 : W1.heap[w.heap.size]? = some (.deferred (some [])) := by
    rw [← hW1]; exact (Below.heap_alloc _ _ _ (by simp)).trans (World.alloc_heap_new w _)
  have hI1 : I 0 W1 := by rw [← hW1]; exact hI.alloc _ (hI.alloc _ h0)
  have hb1 : Below w.heap.size w W1 := by
    rw [← hW1]; exact ((Below.refl _ w).alloc (Nat.le_refl _) _).alloc (by simp) _
  refine ⟨w.heap.size + 1, [{ target := .collected w.heap.size, args := #[] }], W1, { target := .fn (.func gf) lb, args := #[.func (.yield (w.heap.size + 1)) #[] #[]] }, W1, gf,
    #[.func (.yield (w.heap.size + 1)) #[] #[]] ++ lb, W1, ?_, ?_, ?_, ?_, fun _ => h1, ?_⟩
  · rw [← hW1, hrec]; exact run_enterLoop_outer _ _ _ _ _
  · simp only [resolve, hg]
    simp [go_sem]
  · intro f' hf'; simp [Target.leads] at hf'; subst hf'; exact hFg
  · simp [invoke, go_sem, eg]
  · refine (hseq (w.heap.size + 1)
      (fun k W => I k W ∧ W.heap[w.heap.size + 1]? = some (.loop (rec .ready none)) ∧ W.heap[w.heap.size]? = some (.deferred (some [])))
      (fun W => Ix W ∧ W.heap[w.heap.size + 1]? = some (.loop (rec .done (some .ret))) ∧ W.heap[w.heap.size]? = some (.deferred (some [])))
      W1 hb1 (fun k W _ ⟨h1, h2, h3⟩ => ⟨hI k W _ none h1 ⟨rfl, rfl, rfl, Nat.le_refl _, fun _ _ _ => rfl⟩ (fun r e => by cases e), h2, h3⟩)
      (fun W _ ⟨h1, h2, h3⟩ => ⟨hIx () W _ none h1 ⟨rfl, rfl, rfl, Nat.le_refl _, fun _ _ _ => rfl⟩ (fun r e => by cases e), h2, h3⟩) ?_ ⟨hI1, hL1, hK1⟩).mono ?_
    · rintro k x W hx ⟨hi, hl, hk⟩
      have hy := run_yield (P := P) (args := encs x) hl (by rw [hrec]; exact hps x)
      rw [hrec] at hy
      refine ⟨fn, _, assign, body, hy, roundIn_of_wpIn hfn (hassign _ k x W _ hx hi ?_)⟩
      intro a' W' hkW hkp hi' ha'
      have hl' := hkW.same _ _ (by omega) hl rfl
      have hk' := hkW.same _ _ (Nat.le_refl _) hk rfl
      have hlt : w.heap.size + 1 < W'.heap.size := (Array.getElem?_eq_some_iff.1 hl').1
      refine ⟨_, run_beginRound hl' (by rw [hrec]), ?_⟩
      have hl2 : (W'.putObj (w.heap.size + 1) (.loop { rec .ready none with state := .busy })).heap[w.heap.size + 1]? = some (.loop { rec .ready none with state := .busy }) := World.putObj_heap_same hlt
      have hk2 : (W'.putObj (w.heap.size + 1) (.loop { rec .ready none with state := .busy })).heap[w.heap.size]? = some (.deferred (some [])) := (World.putObj_heap_other (by omega)).trans hk'
      have hw2 : Kp W' (W'.putObj (w.heap.size + 1) (.loop { rec .ready none with state := .busy })) := hput _ _ _ _ (by omega) hl' rfl
      refine wpIn_mono (hbody _ k x a' _ hx (hI.putObj _ hi' (by omega) hl' rfl) ((hAx a').putObj _ ha' (by omega) hl' rfl)) ?_
      rintro e a3 W3 hp
      cases e with
      | normal =>
        obtain ⟨hk3, hkp3, hi3⟩ := hp
        have hl3 := hk3.same _ _ (by omega) hl2 rfl
        have hr := run_endRound (P := P) none hl3
        rw [hrec] at hr
        have hl4 := World.putObj_heap_same (o := .loop (rec .ready none)) (Array.getElem?_eq_some_iff.1 hl3).1
        have hk4 : (W3.putObj (w.heap.size + 1) (.loop (rec .ready none))).heap[w.heap.size]? = some (.deferred (some [])) := (World.putObj_heap_other (by omega)).trans (hk3.same _ _ (Nat.le_refl _) hk2 rfl)
        have hi4 := hI.putObj (.loop (rec .ready none)) hi3 (by omega) hl3 rfl
        have hb4 := hput W3 _ _ (.loop (rec .ready none)) (by omega) hl3 rfl
        refine ⟨_, _, hr, .inl ⟨rfl, ?_, hKt (hKt hkp (hKt hw2 hkp3)) ?_⟩⟩
        · rw [hrec] at hl4 hk4 hi4 ⊢
          exact ⟨hi4, hl4, hk4⟩
        · rw [hrec] at hb4
          exact hb4
      | ret =>
        obtain ⟨hk3, hi3⟩ := hp
        have hl3 := hk3.same _ _ (by omega) hl2 rfl
        have hr := run_endRound (P := P) (some .ret) hl3
        rw [hrec] at hr
        have hl4 := World.putObj_heap_same (o := .loop (rec .done (some .ret))) (Array.getElem?_eq_some_iff.1 hl3).1
        have hk4 : (W3.putObj (w.heap.size + 1) (.loop (rec .done (some .ret)))).heap[w.heap.size]? = some (.deferred (some [])) := (World.putObj_heap_other (by omega)).trans (hk3.same _ _ (Nat.le_refl _) hk2 rfl)
        have hi4 := hIx.putObj (s := ()) (.loop (rec .done (some .ret))) hi3 (by omega) hl3 rfl
        refine ⟨_, _, hr, .inr ⟨rfl, ?_⟩⟩
        rw [hrec] at hl4 hk4 hi4 ⊢
        exact ⟨hi4, hl4, hk4⟩
      | _ => exact hp.elim
    · rintro e W2 ⟨⟨v, rfl⟩, (⟨hi, hl, hk⟩ | ⟨hi, hl, hk⟩)⟩
      · exact ⟨none, _, by have := run_endLoop (P := P) hl (by rw [hrec]; simp); rw [hrec] at this; exact this, hdone _ _ (Nat.le_refl _) (hI.putObj _ hi (by omega) hl rfl) ((World.putObj_heap_other (by omega)).trans hk)⟩
      · exact ⟨some .ret, _, by have := run_endLoop (P := P) hl (by rw [hrec]; simp); rw [hrec] at this; exact this, hstop _ _ (Nat.le_refl _) (hIx.putObj (s := ()) _ hi (by omega) hl rfl) ((World.putObj_heap_other (by omega)).trans hk)⟩

end Go.Proofs.Ytmdgnjmhbjdlmaa

/-! DkH -/
namespace Go.Proofs.Ytmdgnjmhbjdlmaa
open Go.RowKit

attribute [local go_sem] Oper.semAt_some

/-- What a round must keep: all that lay below n₀, and the box. -/
def Kp1 (n₀ Bb : Nat) (W W' : World) : Prop := Below n₀ W W' ∧ (∀ o, W.heap[Bb]? = some o → W'.heap[Bb]? = some o)
theorem Kp1.trans {n₀ Bb : Nat} {A B C : World} (h : Kp1 n₀ Bb A B) (k : Kp1 n₀ Bb B C) : Kp1 n₀ Bb A C := ⟨h.1.trans k.1, fun o e => k.2 o (h.2 o e)⟩

/-- The places of n writes, the last one first. -/
def backL (n : Nat) : List Nat := (List.range n).reverse
theorem backL_len (n : Nat) : (backL n).length = n := by simp [backL]
theorem backL_at {n k : Nat} (h : k < n) : (backL n)[k]? = some (n - 1 - k) := by
  unfold backL
  rw [List.getElem?_reverse (by simpa using h), List.length_range, List.getElem?_range (by omega)]

/-- What is handed to a round: the place, and the write. -/
def backV (pvs : List (Int × Value)) (x : Nat) : Array Value := #[.int .i64 (x : Int), .agg #[.int .i64 (pvs.getD x (0, .slice none 0 0)).1, (pvs.getD x (0, .slice none 0 0)).2]]

theorem Backward_any (A : Option Addr) (n c : Nat) (w : World) :
    Calls Try.prog 49 #[.slice A n c] w fun r w' => r = .returned (.func (.func 65) #[] #[.pointer (some ⟨w.heap.size, 0, none⟩)]) ∧ w' = w.alloc (.cells #[.slice A n c] 83) := by
  go_enter Try.func49, Try.ntmps49
  go_wp2_with fail
  go_ret
  exact ⟨by simp, rfl⟩

set_option maxRecDepth 100000 in
set_option maxHeartbeats 2000000 in
theorem back1_in (n : Nat) (l Bb : Nat) (w0 : World) (A : Option Addr) (np cp : Nat) (pvs : List (Int × Value)) (hr : Rd w0 2 A np (wrs pvs)) (hp : pvs.length = np) (hnp : np ≤ 1000000) (hone : ∀ q ∈ pvs, ∃ B m d, q.2 = .slice B m d)
    (J : Nat → World → Prop) (Jx : World → Prop) (_hJd : ∀ k W m, J k W → J k (World.drewN W m)) (_hJx : ∀ W m, Jx W → Jx (World.drewN W m))
    (hY : ∀ k x W1, (backL np)[k]? = some x → J k W1 → YieldAt Fence.wide (n - 1) Try.prog l (backV pvs x) W1 fun e W' => (e = .returned (.bool true) ∧ J (k + 1) W' ∧ Kp1 w0.heap.size Bb W1 W') ∨ (e = .returned (.bool false) ∧ Jx W'))
    (W : World) (hW : Below w0.heap.size w0 W) (hBb : Boxed W Bb 83 (.slice A np cp)) (h0 : J 0 W) :
    CallsIn Fence.wide n Try.prog 65 #[.func (.yield l) #[] #[], .pointer (some ⟨Bb, 0, none⟩)] W fun e W' => (∃ v, e = .returned v) ∧ (J np W' ∨ Jx W') := by
  have HY := Lib.hid hY
  have HP := Lib.hid hp
  have HONE := Lib.hid hone
  clear hY hp hone
  refine callsIn_of_wp Try.func65 rfl trivial ?_ rfl
  simp only [Try.ntmps65, List.size_toArray, List.length_cons, List.length_nil, Nat.reduceAdd, Nat.reduceSub, Array.replicate_succ, Array.replicate_zero, List.push_toArray, List.append_toArray, List.nil_append, List.cons_append]
  have hca := hBb.cell
  gi_wp2
  gi_loopw [3] (fun p wr => ∃ k : Nat, k ≤ np ∧ p = .int .i64 ((np : Int) - 1 - (k : Int)) ∧ Below w0.heap.size w0 wr ∧ Boxed wr Bb 83 (.slice A np cp) ∧ J k wr)
    (fun p _ => ((intOf p) + 1).toNat)
  case atStart => exact ⟨0, Nat.zero_le _, by simp, hW, hBb, h0⟩
  case round =>
    obtain ⟨k, hk, rfl, hB, hba, hJ⟩ := hrel
    by_cases hlt : k < np
    · have hca' := hba.cell
      obtain ⟨x, hx⟩ : ∃ x, x = np - 1 - k := ⟨_, rfl⟩
      have hxe : (np : Int) - 1 - (k : Int) = (x : Int) := by omega
      have hxl : x < np := by omega
      have hbk : (backL np)[k]? = some x := by rw [backL_at hlt, hx]
      have hxp : x < pvs.length := by rw [HP.out]; exact hxl
      obtain ⟨g, o, rfl, hc⟩ := Rd.plain (hr.below hB) (by omega) (by omega)
      have hiu : pvs[x]? = some (pvs.getD x (0, .slice none 0 0)) := by simp [List.getD, List.getElem?_eq_getElem hxp]
      obtain ⟨w1, w2⟩ := wrs_at pvs x _ hiu
      have c1 := hc _ _ w1
      have c2 := hc _ _ w2
      obtain ⟨fn, tmps, assign, body, hy, hR⟩ := HY.out k x wr hbk hJ
      obtain ⟨Bq, mq, dq, eq⟩ := HONE.out _ (List.mem_of_getElem? hiu)
      unfold backV at hy
      generalize pvs.getD x (0, .slice none 0 0) = pq at *
      obtain ⟨pq1, pq2⟩ := pq
      dsimp only at c1 c2 hy eq
      subst eq
      rw [hxe]
      have c2' : wr.cell? ⟨g, o + x * 2 + 1, none⟩ = some (.slice Bq mq dq) := by rw [Nat.add_assoc]; exact c2
      clear hc w1 w2 hiu c2 hca
      have HX := Lib.hid hx
      have HXE := Lib.hid hxe
      clear hx hxe
      gi_wp2
      refine ⟨fun h => (by cases h), ?_⟩
      refine hR.mono ?_
      rintro e W3 (⟨rfl, hJ3, hk3⟩ | ⟨rfl, hjx⟩)
      · gi_wp2
        go_roundw
        case rel => exact ⟨k + 1, by omega, by have h1 := HXE.out; simp; omega, hB.trans hk3.1, hk3.2 _ hba, hJ3⟩
        case measure => have h1 := HXE.out; first | (simp [intOf]; done) | (simp [intOf]; omega)
      · gi_wp2
        trace_state
        refine bodyPost_ret (results_none rfl _ _ _) rfl ?_
        exact ⟨⟨_, rfl⟩, .inr hjx⟩
    · obtain rfl : k = np := by omega
      have hneg : (k : Int) - 1 - (k : Int) = -1 := by omega
      rw [hneg]
      gi_wp2
      go_end0
      exact ⟨⟨_, rfl⟩, .inl hJ⟩

end Go.Proofs.Ytmdgnjmhbjdlmaa

/-! DkI -/
namespace Go.Proofs.Ytmdgnjmhbjdlmaa
open Go.RowKit Go.Shelf

attribute [local go_sem] Oper.semAt_some

/-- The last write upon block b, or what is durable there. -/
def lastL (bs : List (List UInt8)) (ps : List (Nat × List UInt8)) (b : Nat) : List UInt8 := ps.foldl (fun l p => if p.1 = b then p.2 else l) (bs.getD b [])

/-- Read: what it answers. -/
def readE (D : DiskS) (b : Int) : Int := if askE D b ≠ 0 then askE D b else if D.down then 6 else 0
def readL (D : DiskS) (b : Int) : List UInt8 := if readE D b ≠ 0 then [] else lastL D.blocks D.pending b.toNat

theorem lastL_none {bs : List (List UInt8)} {ps : List (Nat × List UInt8)} {b : Nat} (h : ∀ p ∈ ps, p.1 ≠ b) : lastL bs ps b = bs.getD b [] := by
  unfold lastL
  generalize bs.getD b [] = l
  induction ps generalizing l with
  | nil => rfl
  | cons p ps ih =>
    rw [List.foldl_cons, if_neg (h p (List.mem_cons_self ..))]
    exact ih (fun q hq => h q (List.mem_cons_of_mem _ hq)) l
theorem lastL_at {bs : List (List UInt8)} {ps : List (Nat × List UInt8)} {b i : Nat} {p : Nat × List UInt8} (hi : ps[i]? = some p) (hp : p.1 = b) (h : ∀ j q, i < j → ps[j]? = some q → q.1 ≠ b) : lastL bs ps b = p.2 := by
  obtain ⟨hl, e⟩ := List.getElem?_eq_some_iff.1 hi
  have hs : ps = ps.take i ++ p :: ps.drop (i + 1) := by rw [← e, ← List.drop_eq_getElem_cons hl, List.take_append_drop]
  unfold lastL
  rw [hs, List.foldl_append, List.foldl_cons, if_pos hp]
  have := lastL_none (bs := [p.2]) (b := 0) (ps := (ps.drop (i + 1)).map fun q => (if q.1 = b then 0 else 1, q.2)) (fun q hq => by
    obtain ⟨r, hr, rfl⟩ := List.mem_map.1 hq
    obtain ⟨j, hj, rfl⟩ := List.getElem_of_mem hr
    have := h (i + 1 + j) _ (by omega) (by rw [← List.getElem?_drop]; exact List.getElem?_eq_getElem hj)
    dsimp only
    rw [if_neg this]
    omega)
  unfold lastL at this
  rw [List.foldl_map] at this
  have e2 : ∀ (l : List UInt8) (q : Nat × List UInt8), (if (if q.1 = b then 0 else 1) = 0 then q.2 else l) = if q.1 = b then q.2 else l := by
    intro l q
    by_cases hq : q.1 = b <;> simp [hq]
  simp only [e2] at this
  exact this

set_option maxRecDepth 100000 in
set_option maxHeartbeats 1000000 in
theorem Read_bad (w : World) (ok : Nat → Prop) (base g : Nat) (F : Nat → Prop) (D : DiskS) (b : Int) (h : IsD w ok base g F D) (hr : readE D b ≠ 0) :
    Calls Try.prog 24 #[.pointer (some ⟨g, 0, none⟩), .int .i64 b] w fun e w' => e = .returned (.tuple #[.slice none 0 0, .int .i64 (readE D b)]) ∧ Below w.heap.size w w' := by
  have hb3 : Below w.heap.size w (((w.alloc (.cells #[.int .i64 b] 3)).alloc (.cells #[.slice none 0 0] 26)).alloc (.cells #[.int .i64 0] 28)) := gr_alloc (gr_alloc (gr_alloc (gr_refl w) _) _) _
  have h3 := h.below hb3
  have HA := Lib.hid (asked_any _ ok base g F D b h3)
  by_cases h0 : askE D b = 0
  · have hE : readE D b = 6 ∧ D.down = true := by
      unfold readE at hr ⊢
      rw [if_neg (by rw [h0]; simp)] at hr ⊢
      cases hd : D.down with
      | true => simp
      | false => rw [hd] at hr; simp at hr
    rw [h0] at HA
    rw [hE.1]
    obtain ⟨dr, dc, pv, dvs, pvs, hd, hF⟩ := h3
    have c3 := hd.db.c3
    rw [hE.2] at c3
    clear hd hF h hr h0 hE
    go_enter Try.func24, Try.ntmps24
    go_wp2_with fail
    refine HA.out.mono ?_
    rintro e w' ⟨rfl, rfl⟩
    go_wp2_with fail
    exact bodyPost_ret (v := .tuple #[.slice none 0 0, .int .i64 6]) (by simp [results, Try.results24, go_sem]) rfl ⟨rfl, gr_alloc (gr_alloc (gr_alloc (gr_refl w) _) _) _⟩
  · have hE : readE D b = askE D b := by unfold readE; rw [if_pos h0]
    rw [hE]
    have t1 : (askE D b != 0) = true := by rw [bne_iff_ne]; exact h0
    clear h3 hr hE h0
    generalize askE D b = ae at *
    go_enter Try.func24, Try.ntmps24
    go_wp2_with fail
    refine HA.out.mono ?_
    rintro e w' ⟨rfl, rfl⟩
    go_wp2_with fail
    exact bodyPost_ret (v := .tuple #[.slice none 0 0, .int .i64 ae]) (by simp [results, Try.results24, go_sem]) rfl ⟨rfl, gr_alloc (gr_alloc (gr_alloc (gr_refl w) _) _) _⟩

theorem keepsO {w w' : World} (h : Below w.heap.size w w') : KeepsOthers w w' := ⟨h.size, fun k _ hk _ => (h.block k (Array.getElem?_eq_some_iff.1 hk).1).trans hk⟩

/-- None of the last k writes is upon block b. -/
def noW (ps : List (Nat × List UInt8)) (b np k : Nat) : Prop := ∀ j p, np - k ≤ j → ps[j]? = some p → p.1 ≠ b

/-- All that Read's loop keeps. -/
structure RI (n₀ : Nat) (w : World) (b : Nat) (v4 : Value) (Av : Value) (W : World) : Prop where
  b3 : Boxed W n₀ 3 (.int .i64 (b : Int))
  b4 : Boxed W (n₀ + 1) 26 v4
  b5 : Boxed W (n₀ + 1 + 1) 28 (.int .i64 0)
  bb : Boxed W (n₀ + 1 + 1 + 1) 83 Av
  below : Below n₀ w W

theorem RI.ck {n₀ : Nat} {w : World} {b : Nat} {v4 Av : Value} {W W' : World} {row : Option Nat} (h : RI n₀ w b v4 Av W) (hg : W.grownBy W' row) (hr : ∀ r, row = some r → ∃ o : Obj, W.heap[r]? = some o ∧ o.isCells = false) (hb : Below n₀ w W') : RI n₀ w b v4 Av W' := by
  have hk : ∀ {k : Nat} {t : TypeId} {v : Value}, Boxed W k t v → Boxed W' k t v := fun {k t v} hB => hB.kept hg (fun e => by
    obtain ⟨o, ho, hc⟩ := hr k e.symm
    rw [show W.heap[k]? = _ from hB] at ho
    cases ho
    cases hc)
  exact ⟨hk h.b3, hk h.b4, hk h.b5, hk h.bb, hb⟩

/-- Only the way on. -/
def onlyN (K : Act → World → Prop) : Exit → Act → World → Prop
  | .normal, a, w => K a w
  | _, _, _ => False
theorem wpIn_onlyN {F : Fence} {n : Nat} {P : Program} {c : Code} {K : Act → World → Prop} {Q' : Exit → Act → World → Prop} {a : Act} {w : World} (h : c.wpIn F n P (onlyN K) a w) : c.wpIn F n P (Exit.then K Q') a w :=
  wpIn_mono h (fun e a w hp => by cases e <;> first | exact hp | exact hp.elim)

theorem RI.drawn {n₀ : Nat} {w : World} {b : Nat} {v4 Av : Value} {W : World} (h : RI n₀ w b v4 Av W) : RI n₀ w b v4 Av W.drew := ⟨h.b3, h.b4, h.b5, h.bb, ⟨h.below.os, h.below.tape, h.below.output, h.below.size, h.below.block⟩⟩

/-- What the last region's stores find. -/
theorem RI.laid {n₀ : Nat} {w : World} {b : Nat} {v4 Av : Value} {W W1 : World} (h : RI n₀ w b v4 Av W) (hb1 : Below W.heap.size W W1) (x : Value) :
    W1.cell? ⟨n₀ + 1, 0, none⟩ = some v4 ∧ W1.frozen? ⟨n₀ + 1, 0, none⟩ = false ∧ (W1.setCell ⟨n₀ + 1, 0, none⟩ x).cell? ⟨n₀ + 1 + 1, 0, none⟩ = some (.int .i64 0) ∧ (W1.setCell ⟨n₀ + 1, 0, none⟩ x).frozen? ⟨n₀ + 1 + 1, 0, none⟩ = false ∧
    (n₀ ≤ W.heap.size → RI n₀ w b x Av ((W1.setCell ⟨n₀ + 1, 0, none⟩ x).setCell ⟨n₀ + 1 + 1, 0, none⟩ (.int .i64 0))) := by
  have kp : ∀ {k : Nat} {t : TypeId} {v : Value}, Boxed W k t v → Boxed W1 k t v := fun {k t v} hB => Boxed.kept hB (row := none) ⟨hb1.os, hb1.tape, hb1.output, hb1.size, fun k hk _ => hb1.block k hk⟩ (by simp)
  have b3 := kp h.b3
  have b4 := kp h.b4
  have b5 := kp h.b5
  have bb := kp h.bb
  have g4 := grownBy_setCell' W1 (n₀ + 1) x
  have g5 := grownBy_setCell' (W1.setCell ⟨n₀ + 1, 0, none⟩ x) (n₀ + 1 + 1) (.int .i64 0)
  have c5 := b5.kept g4 (by simp)
  refine ⟨b4.cell, b4.frozen, c5.cell, c5.frozen, fun hle => ⟨?_, ?_, ?_, ?_, ?_⟩⟩
  · exact (b3.kept g4 (by simp; try omega)).kept g5 (by simp; try omega)
  · exact (b4.set _).kept g5 (by simp; try omega)
  · exact c5.set _
  · exact (bb.kept g4 (by simp; try omega)).kept g5 (by simp; try omega)
  · exact ((h.below.trans (hb1.mono hle)).setCell (p := ⟨n₀ + 1, 0, none⟩) (by dsimp only; omega) _).setCell (p := ⟨n₀ + 1 + 1, 0, none⟩) (by dsimp only; omega) _

set_option maxRecDepth 100000 in
set_option maxHeartbeats 2000000 in
theorem Read_good (w : World) (ok : Nat → Prop) (base g : Nat) (F : Nat → Prop) (D : DiskS) (b : Nat) (h : IsD w ok base g F D) (hb : b < D.blocks.length) (hdn : D.down = false) (hpl : D.pending.length ≤ 1000000) :
    Calls Try.prog 24 #[.pointer (some ⟨g, 0, none⟩), .int .i64 (b : Int)] w fun e w' => ∃ v, e = .returned (.tuple #[v, .int .i64 0]) ∧ OB w' w.heap.size v (lastL D.blocks D.pending b) ∧ Below w.heap.size w w' := by
  have h0 : askE D (b : Int) = 0 := by unfold askE; rw [if_neg (by omega)]
  have hb3 : Below w.heap.size w (((w.alloc (.cells #[.int .i64 (b : Int)] 3)).alloc (.cells #[.slice none 0 0] 26)).alloc (.cells #[.int .i64 0] 28)) := gr_alloc (gr_alloc (gr_alloc (gr_refl w) _) _) _
  have h3 := h.below hb3
  have HA := Lib.hid (asked_any _ ok base g F D (b : Int) h3)
  rw [h0] at HA
  obtain ⟨dr, dc, pv, dvs, pvs, hdw, hF⟩ := h
  have hd := hdw.below hb3
  have c3 := hd.db.c3
  have c2 := hd.db.c2
  rw [hdn] at c3
  obtain ⟨Ap, cp, rfl, _, _⟩ := own_form hd.pen
  refine (callsIn_wide (n := 9)).1 ?_
  refine callsIn_of_wp_marks Try.func24 rfl trivial ?_ rfl
  simp only [Try.ntmps24, List.size_toArray, List.length_cons, List.length_nil, Nat.reduceAdd, Nat.reduceSub, Array.replicate_succ, Array.replicate_zero, List.push_toArray, List.append_toArray, List.nil_append, List.cons_append]
  gi_wp2_with fail
  refine ⟨trivial, ?_⟩
  refine (callsIn_wide.2 HA.out).mono ?_
  rintro e w' ⟨rfl, rfl⟩
  gi_wp2_with fail
  refine ⟨trivial, ?_⟩
  refine (callsIn_wide.2 (Backward_any Ap _ cp _)).mono ?_
  rintro e w' ⟨rfl, rfl⟩
  gi_wp2_with fail
  have hRI : RI w.heap.size w b (.slice none 0 0) (.slice Ap D.pending.length cp) ((((w.alloc (.cells #[.int .i64 (b : Int)] 3)).alloc (.cells #[.slice none 0 0] 26)).alloc (.cells #[.int .i64 0] 28)).alloc (.cells #[.slice Ap D.pending.length cp] 83)) := by
    have hnew : ∀ (W : World) (t : TypeId) (v : Value) (k : Nat), W.heap.size = k → Boxed (W.alloc (.cells #[v] t)) k t v := fun W t v k e => e ▸ Boxed.new W t v
    exact ⟨(((hnew _ _ _ _ rfl).alloc _).alloc _).alloc _, ((hnew _ _ _ _ (by simp)).alloc _).alloc _, (hnew _ _ _ _ (by simp)).alloc _, hnew _ _ _ _ (by simp), gr_alloc hb3 _⟩
  have hd4 := hd.below (gr_alloc (gr_refl _) (.cells #[.slice Ap D.pending.length cp] 83))
  have hsz : ((((w.alloc (.cells #[.int .i64 (b : Int)] 3)).alloc (.cells #[.slice none 0 0] 26)).alloc (.cells #[.int .i64 0] 28)).alloc (.cells #[.slice Ap D.pending.length cp] 83)).heap.size = w.heap.size + 4 := by simp
  generalize ((((w.alloc (.cells #[.int .i64 (b : Int)] 3)).alloc (.cells #[.slice none 0 0] 26)).alloc (.cells #[.int .i64 0] 28)).alloc (.cells #[.slice Ap D.pending.length cp] 83)) = W0 at *
  generalize hn₀ : w.heap.size = n₀ at *
  have HN := Lib.hid hn₀
  have HZ := Lib.hid hsz
  generalize hnp : D.pending.length = np at *
  have HNP := Lib.hid hnp
  clear hn₀ hsz hnp c2 c3 HA h0 hb3 hd
  have hle : n₀ ≤ W0.heap.size := by have := HZ.out; omega
  have HDW := Lib.hid hdw
  have HPW : Hid (∀ k, k < np → ∃ p q : _ × _, D.pending[np - 1 - k]? = some p ∧ pvs.getD (np - 1 - k) (0, .slice none 0 0) = ((p.1 : Int), q.2) ∧ BW ok w q.2 p.2) := Lib.hid (fun k hk => by
    have hi : np - 1 - k < D.pending.length := by rw [HNP.out]; omega
    have hil : np - 1 - k < pvs.length := by rw [hdw.pl]; exact hi
    obtain ⟨a1, a2, a3⟩ := hdw.pw _ _ _ (List.getElem?_eq_getElem hil) (List.getElem?_eq_getElem hi)
    refine ⟨D.pending[np - 1 - k], pvs[np - 1 - k], List.getElem?_eq_getElem hi, ?_, a3⟩
    rw [List.getD, List.getElem?_eq_getElem hil]
    show pvs[np - 1 - k] = _
    rw [← a1])
  refine rangeFunc_stops rfl (by omega) (gf := 65) (lb := #[.pointer (some ⟨n₀ + 1 + 1 + 1, 0, none⟩)]) rfl trivial (enters_of Try.func65 (by kernel_rfl) rfl)
    (encs := backV pvs) (backL np) (Kp := Kp1 n₀ (n₀ + 1 + 1 + 1)) Kp1.trans ?put ?seq (fun _ => rfl)
    (fun k W => RI n₀ w b (.slice none 0 0) (.slice Ap np cp) W ∧ noW D.pending b np k) ?own (fun W => ∃ v, RI n₀ w b v (.slice Ap np cp) W ∧ OB W n₀ v (lastL D.blocks D.pending b)) ?ownx ⟨hRI, fun j p hj hp => by
      have := (List.getElem?_eq_some_iff.1 hp).1
      rw [HNP.out] at this
      omega⟩
    (fun k a' W => ∃ Bx, n₀ + 3 < Bx ∧ W.heap[Bx]? = some (.cells #[.int .i64 (pvs.getD (np - 1 - k) (0, .slice none 0 0)).1, (pvs.getD (np - 1 - k) (0, .slice none 0 0)).2] 90 (0, 0)) ∧ a' = { tmps := #[.pointer (some ⟨g, 0, none⟩), .int .i64 (b : Int), undef, .pointer (some ⟨n₀, 0, none⟩), .pointer (some ⟨n₀ + 1, 0, none⟩), .pointer (some ⟨n₀ + 1 + 1, 0, none⟩), .int .i64 0, undef, .pointer (some ⟨Bx, 0, none⟩), .pointer (some ⟨g, 0, none⟩), .int .i64 (b : Int), .int .i64 0, .int .i64 0, .bool false, undef, .pointer (some ⟨g, 0, none⟩),
      .pointer (some ⟨g, 0, none⟩), .pointer (some ⟨g, 3, none⟩), .bool false, .pointer (some ⟨g, 0, none⟩), .pointer (some ⟨g, 0, none⟩), .pointer (some ⟨g, 2, none⟩), .slice Ap np cp, .func (.func 65) #[] #[.pointer (some ⟨n₀ + 1 + 1 + 1, 0, none⟩)],
      .int .i64 (((np - 1 - k : Nat)) : Int), .agg #[.int .i64 (pvs.getD (np - 1 - k) (0, .slice none 0 0)).1, (pvs.getD (np - 1 - k) (0, .slice none 0 0)).2], undef, undef, undef, undef, undef, undef, undef, undef, undef, undef, undef, undef, undef, undef, undef], defers := [] }) ?ownA ?assign ?body ?done ?stop
  case put =>
    intro W l o o' hl ho hc
    have hz := HZ.out
    exact ⟨(Below.refl n₀ W).grown (grownBy_putObj' W l o') (by have := (Array.getElem?_eq_some_iff.1 ho).1; omega) (fun k e => by cases e; omega), fun u e => (World.putObj_heap_other (by omega)).trans e⟩
  case seq =>
    intro l J Jx W hB hJ hJx hY hJ0
    have hz := HN.out
    subst hz
    have hW : Below w.heap.size w W := hRI.below.trans (hB.mono hle)
    rw [backL_len]
    refine back1_in 8 l _ w Ap np cp pvs (by have := hdw.pen; rw [HNP.out] at this; exact own_rd this) (hdw.pl.trans HNP.out) hpl (fun q hq => ?_) J Jx hJ hJx hY W hW ((hB.block _ hRI.bb.lt).trans hRI.bb) hJ0
    obtain ⟨j, hj, rfl⟩ := List.getElem_of_mem hq
    have hj' : j < D.pending.length := by rw [← hdw.pl]; exact hj
    obtain ⟨_, gq, e, _⟩ := (hdw.pw j _ _ (List.getElem?_eq_getElem hj) (List.getElem?_eq_getElem hj')).2.2
    exact ⟨_, _, _, e⟩
  case own =>
    rintro k X Y row ⟨h1, h2⟩ hg hr
    have hz := HN.out
    subst hz
    exact ⟨h1.ck hg (fun r e => (hr r e).2) ((ownFrom_below (Nat.le_refl _) hle : OwnFrom W0.heap.size (fun (_ : Nat) W => Below w.heap.size w W)) k X Y row h1.below hg hr), h2⟩
  case ownx =>
    rintro _ X Y row ⟨v, h1, h2⟩ hg hr
    have hz := HN.out
    subst hz
    refine ⟨v, h1.ck hg (fun r e => (hr r e).2) ((ownFrom_below (Nat.le_refl _) hle : OwnFrom W0.heap.size (fun (_ : Nat) W => Below w.heap.size w W)) 0 X Y row h1.below hg hr), World.ownsRow.kept h2 hg ?_⟩
    rcases h2.2 with ⟨rfl, _⟩ | ⟨q, cap, cur, rfl, _, hq, _⟩
    · exact .inl rfl
    · refine .inr fun e => ?_
      obtain ⟨_, o, ho, hc⟩ := hr q (by simpa [Value.ownBlock] using e.symm)
      rw [hq] at ho
      cases ho
      cases hc
  case ownA =>
    rintro a' k X Y row ⟨Bx, h1, h2, h3⟩ hg hr
    refine ⟨Bx, h1, (hg.block Bx (Array.getElem?_eq_some_iff.1 h2).1 (fun e => ?_)).trans h2, h3⟩
    obtain ⟨_, o, ho, hc⟩ := hr Bx e.symm
    rw [h2] at ho
    cases ho
    cases hc
  case assign =>
    intro l k x W K hx hI hK
    have hkn : k < np := by have := (List.getElem?_eq_some_iff.1 hx).1; rwa [backL_len] at this
    rw [backL_at hkn] at hx
    injection hx with hx
    subst hx
    obtain ⟨p, q, e1, e2, _, gq, e3, _⟩ := HPW.out k hkn
    obtain ⟨hI1, hI2⟩ := hI
    have hbl := hI1.bb.lt
    unfold backV
    have HAX := Lib.hid (fun a' => hK a' (W.alloc (.cells #[.int .i64 (pvs.getD (np - 1 - k) (0, .slice none 0 0)).1, (pvs.getD (np - 1 - k) (0, .slice none 0 0)).2] 90)) ((KeepsOthers.alloc _ _).from _) ⟨(Below.refl n₀ W).alloc (by omega) _, fun o h => (Below.heap_alloc W _ _ (Array.getElem?_eq_some_iff.1 h).1).trans h⟩
      ⟨⟨hI1.b3.alloc _, hI1.b4.alloc _, hI1.b5.alloc _, hI1.bb.alloc _, hI1.below.alloc (by omega) _⟩, hI2⟩)
    clear hK
    rw [e2] at HAX ⊢
    dsimp only at HAX ⊢
    rw [e3] at HAX ⊢
    gi_wp2
    refine HAX.out _ ⟨W.heap.size, by omega, heap_alloc_new W _, ?_⟩
    rfl
  case body =>
    rintro l k x a' W hx ⟨hI1, hI2⟩ ⟨Bx, hBx, hcell, rfl⟩
    have hkn : k < np := by have := (List.getElem?_eq_some_iff.1 hx).1; rwa [backL_len] at this
    clear hx
    obtain ⟨⟨p1, p2⟩, q, e1, e2, hbw⟩ := HPW.out k hkn
    dsimp only at e2 hbw
    have hz := HN.out
    subst hz
    have hbw' := hbw.below hI1.below
    obtain ⟨hl2, gq, e3, hBq, _⟩ := hbw'
    rw [e2, e3] at hcell
    dsimp only at hcell
    have k0 : W.cell? ⟨Bx, 0, none⟩ = some (.int .i64 (p1 : Int)) := by rw [cell_of_row W Bx 0 _ _ _ hcell]; rfl
    have k1 : W.cell? ⟨Bx, 1, none⟩ = some (.slice (some ⟨gq, 0, none⟩) 4096 4096) := by rw [cell_of_row W Bx 1 _ _ _ hcell]; rfl
    have k3 := hI1.b3.cell
    by_cases hpb : p1 = b
    · subst hpb
      have hr := hBq.readsAll
      rw [hl2] at hr
      have HWH := Lib.hid (whole_any _ 4096 4096 p2 W hr (Nat.le_refl _))
      rw [splice_zer p2 hl2] at HWH
      have HLL := Lib.hid (lastL_at (bs := D.blocks) e1 rfl (fun j q' hj hq' => hI2 j q' (by omega) hq'))
      have HI1 := Lib.hid hI1
      have HL2 := Lib.hid hl2
      have hWs := hI1.below.size
      clear hbw e1 e2 e3 hBq hcell hr hI2 hI1 hl2
      gi_wp2_with fail
      refine ⟨trivial, ?_⟩
      refine (CallsIn.inRound l (callsIn_wide.2 HWH.out)).mono ?_
      rintro e W1 ⟨rfl, hB1, hb1⟩
      have b4 := Boxed.kept HI1.out.b4 (row := none) ⟨hb1.os, hb1.tape, hb1.output, hb1.size, fun k hk _ => hb1.block k hk⟩ (by simp)
      have b5 := Boxed.kept HI1.out.b5 (row := none) ⟨hb1.os, hb1.tape, hb1.output, hb1.size, fun k hk _ => hb1.block k hk⟩ (by simp)
      have b3 := Boxed.kept HI1.out.b3 (row := none) ⟨hb1.os, hb1.tape, hb1.output, hb1.size, fun k hk _ => hb1.block k hk⟩ (by simp)
      have bb := Boxed.kept HI1.out.bb (row := none) ⟨hb1.os, hb1.tape, hb1.output, hb1.size, fun k hk _ => hb1.block k hk⟩ (by simp)
      have y4 := b4.cell
      have z4 := b4.frozen
      have y5 := (b5.kept (grownBy_setCell' W1 (w.heap.size + 1) (.slice (some ⟨W.heap.size, 0, none⟩) 4096 4096)) (by simp)).cell
      have z5 := (b5.kept (grownBy_setCell' W1 (w.heap.size + 1) (.slice (some ⟨W.heap.size, 0, none⟩) 4096 4096)) (by simp)).frozen
      clear k0 k1 k3
      gi_wp2_with fail
      have g4 := grownBy_setCell' W1 (w.heap.size + 1) (.slice (some ⟨W.heap.size, 0, none⟩) 4096 4096)
      have g5 := grownBy_setCell' (W1.setCell ⟨w.heap.size + 1, 0, none⟩ (.slice (some ⟨W.heap.size, 0, none⟩) 4096 4096)) (w.heap.size + 1 + 1) (.int .i64 0)
      have hbl := HI1.out.bb.lt
      have hob := hB1.own (base := w.heap.size) hWs (by rw [HL2.out]; simp [maxLen])
      rw [HL2.out] at hob
      refine ⟨(((keepsO hb1).trans (KeepsOthers.setCell _ _ _)).trans (KeepsOthers.setCell _ _ _)).from _, .slice (some ⟨W.heap.size, 0, none⟩) 4096 4096, ⟨?_, ?_, ?_, ?_, ?_⟩, ?_⟩
      · exact (b3.kept g4 (by simp; try omega)).kept g5 (by simp; try omega)
      · exact (b4.set _).kept g5 (by simp; try omega)
      · exact (b5.kept g4 (by simp; try omega)).set _
      · exact (bb.kept g4 (by simp; try omega)).kept g5 (by simp; try omega)
      · exact (((HI1.out.below.trans (hb1.mono hWs)).setCell (p := ⟨w.heap.size + 1, 0, none⟩) (by dsimp only; omega) _).setCell (p := ⟨w.heap.size + 1 + 1, 0, none⟩) (by dsimp only; omega) _)
      · rw [HLL.out]
        exact World.ownsRow.kept (World.ownsRow.kept hob g4 (.inr (by simp [Value.ownBlock]; omega))) g5 (.inr (by simp [Value.ownBlock]; omega))
    · have t1 : ((p1 : Int) == (b : Int)) = false := beq_eq_false_iff_ne.2 (by omega)
      have t1' : (p1 == b) = false := beq_eq_false_iff_ne.2 hpb
      have HI : Hid (RI w.heap.size w b (.slice none 0 0) (.slice Ap np cp) W ∧ noW D.pending b np (k + 1)) := Lib.hid ⟨hI1, fun j p hj hp => by
        by_cases e : j = np - 1 - k
        · rw [e, e1] at hp
          cases hp
          exact hpb
        · exact hI2 j p (by omega) hp⟩
      clear hbw e1 e2 e3 hBq hcell hI2 hI1
      gi_wp2_with fail
      exact ⟨KeepsFrom.refl _ _, ⟨Below.refl _ _, fun o h => h⟩, HI.out⟩
  case done =>
    intro l W hD hI hK
    obtain ⟨hI1, hI2⟩ := hI
    have hz := HN.out
    subst hz
    have hdW := HDW.out.below hI1.below
    have c1 := hdW.db.c1
    obtain ⟨uo, co, _, hbo⟩ := hdW.at_ hb
    obtain ⟨Ao, no, co', mo, rfl, hro, hno, hso⟩ := hbo.read
    have HWH := Lib.hid (whole_any Ao no co' mo W.drew (hro.below (gr_drewN (gr_refl W) 1)) hno)
    have HI := Lib.hid hI1.drawn
    have HLL := Lib.hid ((lastL_none (bs := D.blocks) (fun p hp => by
      obtain ⟨j, hj, rfl⟩ := List.getElem_of_mem hp
      exact hI2 j _ (by rw [backL_len]; omega) (List.getElem?_eq_getElem hj))).trans hso.symm)
    have HK := Lib.hid hK
    have HD := Lib.hid hD
    have HSL : Hid ((splice zer 0 mo).length = 4096) := Lib.hid (by rw [hso]; exact hbo.1)
    have hWs := hI1.below.size
    have k3 := hI1.b3.cell
    have hi0' : (0 : Int) ≤ (b : Int) := Int.natCast_nonneg _
    have hi1' : (b : Int) < (D.blocks.length : Int) := by omega
    clear hbo hro hI1 hI2 hdW hK hD hso
    gi_wp2_with fail
    refine wpIn_onlyN ?_
    gi_region_with (refine ⟨trivial, ?_⟩; (with_reducible refine (callsIn_wide.2 HWH.out).mono ?_); rintro e W1 ⟨rfl, hB1, hb1⟩; obtain ⟨y4, z4, y5, z5, hRI1⟩ := HI.out.laid hb1 (.slice (some ⟨W.heap.size, 0, none⟩) 4096 4096))
    all_goals
      rename_i hKK
      refine hKK _ _ ?_
      have hzs := HZ.out
      have hDl := HD.out
      have hll := (Array.getElem?_eq_some_iff.1 HK.out).1
      have hRI2 := hRI1 hWs
      have hKW : ((W1.setCell ⟨w.heap.size + 1, 0, none⟩ (.slice (some ⟨W.heap.size, 0, none⟩) 4096 4096)).setCell ⟨w.heap.size + 1 + 1, 0, none⟩ (.int .i64 0)).heap[l]? = some (.deferred (some [])) := by
        rw [Below.heap_setCell _ _ _ l (by dsimp only; omega), Below.heap_setCell _ _ _ l (by dsimp only; omega), hb1.block l hll]
        exact HK.out
      have hob := hB1.own (base := w.heap.size) hWs (by rw [HSL.out]; simp [maxLen])
      rw [HSL.out, ← HLL.out] at hob
      have hob2 : OB ((W1.setCell ⟨w.heap.size + 1, 0, none⟩ (.slice (some ⟨W.heap.size, 0, none⟩) 4096 4096)).setCell ⟨w.heap.size + 1 + 1, 0, none⟩ (.int .i64 0)) w.heap.size (.slice (some ⟨W.heap.size, 0, none⟩) 4096 4096) (lastL D.blocks D.pending b) :=
        World.ownsRow.kept (World.ownsRow.kept hob (grownBy_setCell' _ _ _) (.inr (by simp [Value.ownBlock]; omega))) (grownBy_setCell' _ _ _) (.inr (by simp [Value.ownBlock]; omega))
      clear hb1 hB1 y4 z4 y5 z5 hRI1 hob
      generalize ((W1.setCell ⟨w.heap.size + 1, 0, none⟩ (.slice (some ⟨W.heap.size, 0, none⟩) 4096 4096)).setCell ⟨w.heap.size + 1 + 1, 0, none⟩ (.int .i64 0)) = W2 at *
      generalize Value.slice (some ⟨W.heap.size, 0, none⟩) 4096 4096 = v at *
      have HI := Lib.hid hRI2
      have HO := Lib.hid hob2
      have k4 := hRI2.b4.cell
      have k5 := hRI2.b5.cell
      have hK := Lib.hid hKW
      clear hob2 hRI2 hKW
      gi_wp2_with fail
      refine ⟨by simp, .inl ⟨_, _, rfl, run_takeDeferred hK.out, ?_⟩⟩
      have hg := grownBy_putObj' W2 l (.deferred none)
      have hbb : Below w.heap.size W2 (W2.putObj l (.deferred none)) := (Below.refl _ W2).grown hg (by have := (Array.getElem?_eq_some_iff.1 hK.out).1; omega) (fun k e => by cases e; omega)
      have q4 := (HI.out.b4.kept hg (by simp; omega)).cell
      have q5 := (HI.out.b5.kept hg (by simp; omega)).cell
      have hoo : OB (W2.putObj l (.deferred none)) w.heap.size v (lastL D.blocks D.pending b) := World.ownsRow.kept HO.out hg (by
        rcases HO.out.2 with ⟨rfl, _⟩ | ⟨q, cap, cur, rfl, _, hq, _⟩
        · exact .inl rfl
        · refine .inr fun e => ?_
          have e' : q = l := by simpa [Value.ownBlock] using e
          rw [e', hK.out] at hq
          cases hq)
      exact ⟨_, (by simp [results, Try.results24, go_sem, q4, q5]), v, rfl, hoo, HI.out.below.trans hbb⟩
  case stop =>
    rintro l W hl ⟨v, hI1, hO⟩ hK
    have HI := Lib.hid hI1
    have HO := Lib.hid hO
    have k4 := hI1.b4.cell
    have k5 := hI1.b5.cell
    clear hO hI1
    gi_wp2_with fail
    refine ⟨by simp, .inl ⟨_, _, rfl, run_takeDeferred hK, ?_⟩⟩
    have hz := HN.out
    subst hz
    have hzs := HZ.out
    have hg := grownBy_putObj' W l (.deferred none)
    have hbb : Below w.heap.size W (W.putObj l (.deferred none)) := (Below.refl _ W).grown hg (by have := (Array.getElem?_eq_some_iff.1 hK).1; omega) (fun k e => by cases e; omega)
    have q4 := (HI.out.b4.kept hg (by simp; omega)).cell
    have q5 := (HI.out.b5.kept hg (by simp; omega)).cell
    have hoo : OB (W.putObj l (.deferred none)) w.heap.size v (lastL D.blocks D.pending b) := World.ownsRow.kept HO.out hg (by
      rcases HO.out.2 with ⟨rfl, _⟩ | ⟨q, cap, cur, rfl, _, hq, _⟩
      · exact .inl rfl
      · refine .inr fun e => ?_
        have e' : q = l := by simpa [Value.ownBlock] using e
        rw [e', hK] at hq
        cases hq)
    exact ⟨_, (by simp [results, Try.results24, go_sem, q4, q5]), v, rfl, hoo, HI.out.below.trans hbb⟩

end Go.Proofs.Ytmdgnjmhbjdlmaa

/-! DkJ -/
namespace Go.Proofs.Ytmdgnjmhbjdlmaa
open Go.RowKit

theorem readE_cases (D : DiskS) (b : Int) : (readE D b = 0 ∧ ∃ k : Nat, b = k ∧ k < D.blocks.length ∧ D.down = false ∧ readL D b = lastL D.blocks D.pending k) ∨ (readE D b ≠ 0 ∧ readL D b = []) := by
  by_cases h : readE D b = 0
  · refine .inl ⟨h, ?_⟩
    have ha : askE D b = 0 := by
      unfold readE at h
      by_cases h0 : askE D b = 0
      · exact h0
      · rw [if_pos h0] at h; exact absurd h h0
    have hd : D.down = false := by
      unfold readE at h
      rw [if_neg (by rw [ha]; simp)] at h
      cases hd : D.down with
      | false => rfl
      | true => rw [hd] at h; simp at h
    obtain ⟨h1, h2⟩ := ask_in ha
    obtain ⟨k, rfl⟩ := Int.eq_ofNat_of_zero_le h1
    refine ⟨k, rfl, by omega, hd, ?_⟩
    unfold readL
    rw [if_neg (by rw [h]; simp)]
    rfl
  · exact .inr ⟨h, by unfold readL; rw [if_pos h]⟩

theorem Read_any (w : World) (ok : Nat → Prop) (base g : Nat) (F : Nat → Prop) (D : DiskS) (b : Int) (h : IsD w ok base g F D) (hpl : D.pending.length ≤ 1000000) :
    Calls Try.prog 24 #[.pointer (some ⟨g, 0, none⟩), .int .i64 b] w fun e w' => ∃ v, e = .returned (.tuple #[v, .int .i64 (readE D b)]) ∧ OB w' w.heap.size v (readL D b) ∧ Below w.heap.size w w' := by
  rcases readE_cases D b with ⟨h0, k, rfl, hk, hd, hL⟩ | ⟨h0, hL⟩
  · rw [h0, hL]
    exact Read_good w ok base g F D k h hk hd hpl
  · rw [hL]
    refine (Read_bad w ok base g F D b h h0).mono ?_
    rintro e w' ⟨rfl, hb⟩
    exact ⟨_, rfl, OB.nil _ _, hb⟩

/-- A type of which a disk turns no block. -/
def Foreign (t : TypeId) : Prop := t ≠ 85 ∧ t ≠ 26 ∧ t ≠ 90
theorem foreign_u8 : Foreign 5 := ⟨by decide, by decide, by decide⟩
theorem foreign_bool : Foreign 4 := ⟨by decide, by decide, by decide⟩

/-- All blocks of a foreign type are as they were. -/
def KB (w w' : World) : Prop := w.heap.size ≤ w'.heap.size ∧ ∀ (k : Nat) (cs : Array Value) (t : TypeId) (fr : Nat × Nat), Foreign t → w.heap[k]? = some (.cells cs t fr) → w'.heap[k]? = some (.cells cs t fr)

section
variable {w w' w'' : World} {base g : Nat} {v : Value} {l : List UInt8}
theorem KB.refl (w : World) : KB w w := ⟨Nat.le_refl _, fun _ _ _ _ _ h => h⟩
theorem KB.trans (h : KB w w') (k : KB w' w'') : KB w w'' := ⟨Nat.le_trans h.1 k.1, fun i cs t fr ht hi => k.2 i cs t fr ht (h.2 i cs t fr ht hi)⟩
theorem KB.of_below (h : Below w.heap.size w w') : KB w w' := ⟨h.size, fun i _ _ _ _ hi => (h.block i (Array.getElem?_eq_some_iff.1 hi).1).trans hi⟩
theorem KB.bb (h : KB w w') (hB : BB w g l) : BB w' g l := h.2 g _ _ _ foreign_u8 hB
theorem KB.row {e : TypeId} {size n : Nat} {xs : List Value} (h : KB w w') (he : Foreign e) (hO : w.ownsRow base e size v n xs) : w'.ownsRow base e size v n xs := by
  refine ⟨hO.1, ?_⟩
  rcases hO.2 with h0 | ⟨q, cap, cur, rfl, hb, hg, r⟩
  · exact .inl h0
  · exact .inr ⟨q, cap, cur, rfl, hb, h.2 q _ _ _ he hg, r⟩
theorem KB.ob (h : KB w w') (hO : OB w base v l) : OB w' base v l := h.row foreign_u8 hO
end

section
variable {w w' : World} {ok ok' : Nat → Prop} {base g : Nat} {F : Nat → Prop} {D : DiskS}
theorem IsD.lower {b : Nat} (h : IsD w ok base g F D) (hb : b ≤ base) : IsD w ok b g F D := by
  obtain ⟨dr, dc, pv, dvs, pvs, hd, hF⟩ := h
  exact ⟨dr, dc, pv, dvs, pvs, ⟨hd.db, own_low hd.dur hb, own_low hd.pen hb, hd.pl, hd.dv, hd.pw, hd.n1, hd.n2, hd.p1, hd.p2, hd.f1, hd.f2, Nat.le_trans hb hd.gb⟩, hF⟩
theorem IsD.foot_for (h : IsD w ok base g F D) : ∀ (k : Nat) (cs : Array Value) (t : TypeId) (fr : Nat × Nat), Foreign t → F k → w.heap[k]? = some (.cells cs t fr) → False := by
  obtain ⟨dr, dc, pv, dvs, pvs, hd, hF⟩ := h
  intro k cs t fr ht hk hB
  rcases (hF k).1 hk with rfl | rfl | hk
  · exact cells_ne hB hd.db ht.1
  · rcases hd.dur.2 with ⟨e, _⟩ | ⟨q, cap, cur, e, _, hq, _⟩
    · cases e
    · cases e; exact cells_ne hB hq ht.2.1
  · rcases hd.pen.2 with ⟨rfl, _⟩ | ⟨q, cap, cur, rfl, _, hq, _⟩
    · simp [Value.ownBlock] at hk
    · simp [Value.ownBlock] at hk; subst hk; exact cells_ne hB hq ht.2.2
theorem IsD.foot_ty (h : IsD w ok base g F D) : ∀ (k : Nat) (cs : Array Value) (fr : Nat × Nat), F k → w.heap[k]? = some (.cells cs 5 fr) → False := fun k cs fr => h.foot_for k cs _ fr foreign_u8
theorem IsD.kb (h : IsD w ok base g F D) (ho : Off F w w') : KB w w' := ⟨ho.size, fun k cs t fr ht hk => (ho.block k (Array.getElem?_eq_some_iff.1 hk).1 (fun hf => h.foot_for k cs t fr ht hf hk)).trans hk⟩
end

/-- One disk, made since w0. -/
def St (w0 w : World) (g : Nat) (D : DiskS) : Prop := Below w0.heap.size w0 w ∧ ∃ F, IsD w (fun k => w0.heap.size ≤ k) w0.heap.size g F D

section
variable {w0 w w' : World} {g : Nat} {D D' : DiskS}
theorem St.below (h : St w0 w g D) (hb : Below w.heap.size w w') : St w0 w' g D := by
  obtain ⟨h1, F, h2⟩ := h
  exact ⟨gr_trans h1 hb, F, h2.below hb⟩
theorem St.post {F : Nat → Prop} (h1 : Below w0.heap.size w0 w) (h2 : IsD w (fun k => w0.heap.size ≤ k) w0.heap.size g F D) (hp : DPost w (fun k => w0.heap.size ≤ k) w0.heap.size g F D' w') : St w0 w' g D' ∧ KB w w' := by
  obtain ⟨ho, F', h3, h4⟩ := hp
  refine ⟨⟨h1.trans (ho.below (fun k hk => (h2.foot_lt k hk).1) h1.size), F', h3.mono (fun k _ hk => ?_)⟩, h2.kb ho⟩
  rcases hk with hk | hk
  · exact hk
  · exact Nat.le_trans h1.size hk

theorem New_st (n : Nat) (w0 w : World) (h1 : 1 ≤ n) (h2 : n ≤ 4096) (hb : Below w0.heap.size w0 w) :
    Calls Try.prog 19 #[.int .i64 n] w fun e w' => ∃ g, e = .returned (.tuple #[.pointer (some ⟨g, 0, none⟩), .int .i64 0]) ∧ St w0 w' g (newD n) ∧ KB w w' := by
  refine (New_any n w h1 h2).mono ?_
  rintro e w' ⟨g, F, rfl, hd, hb'⟩
  exact ⟨g, rfl, ⟨gr_trans hb hb', F, (hd.mono (fun _ _ h => h.elim)).lower hb.size⟩, KB.of_below hb'⟩

theorem Write_st (b : Int) (A : Option Addr) (n c : Nat) (m : List UInt8) (h : St w0 w g D) (hm : OB w w0.heap.size (.slice A n c) m) (hn : m.length = n) (hpl : D.pending.length ≤ 1000000) :
    Calls Try.prog 28 #[.pointer (some ⟨g, 0, none⟩), .int .i64 b, .slice A n c] w fun e w' => e = .returned (.int .i64 (writeE D b n)) ∧ St w0 w' g (writeD D b m) ∧ KB w w' := by
  obtain ⟨h1, F, h2⟩ := h
  obtain ⟨A', c', e', hr, hcn, hcm⟩ := hm.formN hn
  injection e' with e1 e2 e3
  subst e1 e3
  refine (Write_any w _ _ g F D b A n c m h2 hr (fun ad e hf => ?_) (by unfold maxLen at hcm; omega) hpl).mono ?_
  · subst e
    rcases hm.2 with ⟨e, _⟩ | ⟨q, cap, cur, e, _, hg, _⟩
    · cases e
    · injection e with e
      injection e with e
      subst e
      exact h2.foot_ty q _ _ hf hg
  · rintro e w' ⟨rfl, hp⟩
    exact ⟨rfl, St.post h1 h2 hp⟩

theorem Sync_st (h : St w0 w g D) (hpl : D.pending.length ≤ 1000000) :
    Calls Try.prog 47 #[.pointer (some ⟨g, 0, none⟩)] w fun e w' => e = .returned (.int .i64 (opC D)) ∧ St w0 w' g (syncD D) ∧ KB w w' := by
  obtain ⟨h1, F, h2⟩ := h
  refine (Sync_any w _ _ g F D h2 hpl).mono ?_
  rintro e w' ⟨rfl, hp⟩
  exact ⟨rfl, St.post h1 h2 hp⟩

/-- The list of what is kept lies nowhere in the disk. -/
def apartK (w0 w : World) (K : Option Addr) (nk : Nat) : Prop := ∀ ad, K = some ad → 0 < nk → ad.block < w0.heap.size ∨ ∃ cs fr, w.heap[ad.block]? = some (.cells cs 4 fr)

theorem Read_st (b : Int) (h : St w0 w g D) (hpl : D.pending.length ≤ 1000000) :
    Calls Try.prog 24 #[.pointer (some ⟨g, 0, none⟩), .int .i64 b] w fun e w' => ∃ v, e = .returned (.tuple #[v, .int .i64 (readE D b)]) ∧ OB w' w.heap.size v (readL D b) ∧ St w0 w' g D ∧ Below w.heap.size w w' := by
  have h' := h
  obtain ⟨h1, F, h2⟩ := h
  refine (Read_any w _ _ g F D b h2 hpl).mono ?_
  rintro e w' ⟨v, rfl, ho, hb⟩
  exact ⟨v, rfl, ho, h'.below hb, hb⟩

theorem Durable_st (b : Int) (h : St w0 w g D) :
    Calls Try.prog 31 #[.pointer (some ⟨g, 0, none⟩), .int .i64 b] w fun e w' => ∃ v, e = .returned (.tuple #[v, .int .i64 (askE D b)]) ∧ OB w' w.heap.size v (durL D b) ∧ St w0 w' g D ∧ Below w.heap.size w w' := by
  have h' := h
  obtain ⟨h1, F, h2⟩ := h
  refine (Durable_any w _ _ g F D b h2).mono ?_
  rintro e w' ⟨v, rfl, ho, hb⟩
  exact ⟨v, rfl, ho, h'.below hb, hb⟩

theorem Pending_st (h : St w0 w g D) :
    Calls Try.prog 30 #[.pointer (some ⟨g, 0, none⟩)] w fun e w' => e = .returned (.int .i64 (D.pending.length : Int)) ∧ w = w' := by
  obtain ⟨h1, F, h2⟩ := h
  exact Pending_any w _ _ g F D h2

theorem Blocks_st (h : St w0 w g D) :
    Calls Try.prog 44 #[.pointer (some ⟨g, 0, none⟩)] w fun e w' => e = .returned (.int .i64 (D.blocks.length : Int)) ∧ w = w' := by
  obtain ⟨h1, F, h2⟩ := h
  exact Blocks_any w _ _ g F D h2
end

end Go.Proofs.Ytmdgnjmhbjdlmaa

/-! Apt -/
namespace Go.Proofs.Ytmdgnjmhbjdlmaa
open Go.RowKit

/-- The mark of a place. -/
def mkI (k i : Int) : Int := IntKind.u64.wrap (IntKind.u64.wrap (wrap64 (wrap64 (1000003 * wrap64 (k + 7)) + i)) * 11400714819323198485) / 72057594037927936 % 256
def mkB (k i : Nat) : UInt8 := UInt8.ofNat (mkI k i).toNat

set_option maxHeartbeats 400000 in
theorem markByte_any (k i : Nat) (w : World) :
    Calls Try.prog 41 #[.int .i64 (k : Int), .int .i64 (i : Int)] w fun e w' => e = .returned (.int .u8 ((mkB k i).toNat : Int)) ∧ w = w' := by
  go_enter Try.func41, Try.ntmps41
  go_wp2_with fail
  go_ret
  refine ⟨?_, rfl⟩
  have e : ((mkB k i).toNat : Int) = mkI k i := by
    have h1 : 0 ≤ mkI k i := Int.emod_nonneg _ (by decide)
    have h2 : mkI k i < 256 := Int.emod_lt_of_pos _ (by decide)
    unfold mkB
    generalize mkI (k : Int) (i : Int) = x at *
    rw [UInt8.toNat_ofNat']
    omega
  rw [e]
  rfl

theorem markByte_of (k i : Nat) (x : Int) (hx : x = i) (w : World) :
    Calls Try.prog 41 #[.int .i64 (k : Int), .int .i64 x] w fun e w' => e = .returned (.int .u8 ((mkB k i).toNat : Int)) ∧ w = w' := by
  subst hx
  exact markByte_any k i w

/-- So many marks. -/
def marks (k n : Nat) : List UInt8 := (List.range n).map (mkB k)
theorem marks_len (k n : Nat) : (marks k n).length = n := by simp [marks]
theorem marks_succ (k n : Nat) : marks k (n + 1) = marks k n ++ [mkB k n] := by simp [marks, List.range_succ]
theorem marks_get (k n i : Nat) (h : i < n) : (marks k n).getD i 0 = mkB k i := by simp [marks, List.getD, h]
theorem marks_take (k n i : Nat) (h : i ≤ n) : (marks k n).take i = marks k i := by
  unfold marks
  rw [← List.map_take, List.take_range, Nat.min_eq_left h]

theorem take_set_succ {l : List UInt8} {i k : Nat} (hi : i < l.length) (h : l.take i = marks k i) : (l.set i (mkB k i)).take (i + 1) = marks k (i + 1) := by
  rw [List.take_succ_eq_append_getElem (by rw [List.length_set]; exact hi), List.take_set, List.set_eq_of_length_le (by rw [List.length_take]; omega), h, marks_succ]
  simp

section
variable {w w' : World} {base g n cap : Nat} {l : List UInt8} {A : Option Addr}
theorem BR.grown {row : Option Nat} (h : BR w A n l) (hg : w.grownBy w' row) (hne : ∀ ad, A = some ad → some ad.block ≠ row) : BR w' A n l :=
  ⟨h.1, fun h0 => by
    obtain ⟨ad, e, hc⟩ := h.2 h0
    refine ⟨ad, e, fun j u hu => ?_⟩
    have := hc j u hu
    rw [← this]
    refine World.cell?_of_block (hg.block _ ?_ ?_)
    · exact World.block_lt_of_cell? w _ this
    · rw [block_of_add]; exact hne ad e⟩
theorem obA_some (h : OB w base (.slice A n cap) l) (hn : l.length = n) (h0 : 0 < n) : ∃ g, A = some ⟨g, 0, none⟩ ∧ n ≤ cap ∧ cap ≤ maxLen ∧ base ≤ g := by
  rcases h.2 with ⟨_, e⟩ | ⟨g', cap', cur, e, hb, hgb, h1, h2, _⟩
  · omega
  · injection e with e1 e2 e3
    subst e1 e3
    exact ⟨g', rfl, by omega, h2, hb⟩
theorem obBR (h : OB w base (.slice A n cap) l) (hn : l.length = n) : BR w A n l := by
  obtain ⟨A', c', e, hr, _, _⟩ := h.formN hn
  injection e with e1 e2 e3
  subst e1
  exact hr
/-- A block that holds values of another type is none of bytes. -/
theorem ob_ne {v : Value} {G : Nat} {cs : Array Value} {t : TypeId} {fr : Nat × Nat} (h : OB w base v l) (hG : w.heap[G]? = some (.cells cs t fr)) (ht : t ≠ 5) : v.ownBlock ≠ some G := by
  rcases h.2 with ⟨rfl, _⟩ | ⟨g', cap', cur, rfl, hb, hgb, _⟩
  · simp [Value.ownBlock]
  · intro e
    simp [Value.ownBlock] at e
    subst e
    rw [hgb] at hG
    cases hG
    exact ht rfl
theorem grown_set (w : World) (b j : Nat) (v : Value) : w.grownBy (w.setCell ⟨b, j, none⟩ v) (some b) :=
  ⟨rfl, rfl, rfl, (KeepsWalks.setCell w _ v).size, fun k _ hk => Below.heap_setCell _ _ _ k (fun e => hk (by rw [e]))⟩
theorem ob_kept {v : Value} {row : Option Nat} (h : OB w base v l) (hg : w.grownBy w' row) (hne : v.ownBlock = none ∨ v.ownBlock ≠ row) : OB w' base v l := World.ownsRow.kept h hg hne
end

theorem obn_cur {w : World} {base g n cap : Nat} {l : List UInt8} (h : OB w base (.slice (some ⟨g, 0, none⟩) n cap) l) (hn : l.length = n) : ∃ cur : Array Value, w.heap[g]? = some (.cells cur 5 (0, 0)) ∧ base ≤ g ∧ n ≤ cap ∧ cap ≤ maxLen ∧ cur.size = cap ∧ cur.toList.take n = l.map bv := by
  rcases h.2 with ⟨e, _⟩ | ⟨g', cap', cur, e, hb, hg, hnc, hm, hcu, ht⟩
  · cases e
  · injection e with e1 e2 e3
    injection e1 with e1
    injection e1 with e1
    subst e1 e3
    exact ⟨cur, hg, hb, by omega, hm, by simpa using hcu, by rw [← ht, hn]; simp⟩
theorem obn_cell {w : World} {base g n cap : Nat} {l : List UInt8} (h : OB w base (.slice (some ⟨g, 0, none⟩) n cap) l) (hn : l.length = n) {j : Nat} (hj : j < n) : w.cell? ⟨g, j, none⟩ = some (.int .u8 ((l.getD j 0).toNat : Int)) := by
  obtain ⟨cur, hg, _, _, _, hz, ht⟩ := obn_cur h hn
  rw [cell_of_row w g j _ _ _ hg]
  have : cur.toList[j]? = (l.map bv)[j]? := by rw [← ht, List.getElem?_take, if_pos hj]
  rw [Array.getElem?_toList] at this
  rw [this, List.getElem?_map, List.getElem?_eq_getElem (by omega)]
  simp [bv, List.getD, List.getElem?_eq_getElem (show j < l.length by omega)]
theorem obn_frozen {w : World} {base g n cap : Nat} {l : List UInt8} (h : OB w base (.slice (some ⟨g, 0, none⟩) n cap) l) (hn : l.length = n) (j : Nat) : w.frozen? ⟨g, j, none⟩ = false := by
  obtain ⟨cur, hg, _, _, _, hz, ht⟩ := obn_cur h hn
  simp [World.frozen?, hg]
theorem obn_set {w : World} {base g n cap : Nat} {l : List UInt8} (h : OB w base (.slice (some ⟨g, 0, none⟩) n cap) l) (hn : l.length = n) (j : Nat) (x : UInt8) : OB (w.setCell ⟨g, j, none⟩ (bv x)) base (.slice (some ⟨g, 0, none⟩) n cap) (l.set j x) := by
  obtain ⟨cur, hg, hb, hnc, hm, hz, ht⟩ := obn_cur h hn
  refine ⟨by simp, .inr ⟨g, cap, cur.setIfInBounds j (bv x), ?_, hb, ?_, ?_, hm, ?_, ?_⟩⟩
  · rw [List.length_set, hn]
  · simp only [World.setCell, Array.getElem?_modify, if_pos, hg]
    simp
  · rw [List.length_set]; omega
  · simp [hz]
  · rw [List.length_set, hn, Nat.mul_one, Array.toList_setIfInBounds, List.take_set, ht, List.map_set]

/-- The values of the lists. -/
abbrev apV (A : Nat → Option Addr) (N C : Nat → Nat) (j : Nat) : Value := .slice (A j) (N j) (C j)

/-- Each list lies in a block of its own from base on. -/
structure Ap1 (w : World) (base n : Nat) (A : Nat → Option Addr) (N C : Nat → Nat) (L : Nat → List UInt8) : Prop where
  ob : ∀ j, j < n → OB w base (apV A N C j) (L j)
  len : ∀ j, j < n → (L j).length = N j

/-- No two in one. -/
def ApD (n : Nat) (A : Nat → Option Addr) (N C : Nat → Nat) : Prop := ∀ i j, i < n → j < n → i ≠ j → (apV A N C j).ownBlock = none ∨ (apV A N C j).ownBlock ≠ (apV A N C i).ownBlock

theorem Ap1.set {w : World} {base n : Nat} {A : Nat → Option Addr} {N C : Nat → Nat} {L : Nat → List UInt8} (h : Ap1 w base n A N C L) (hd : ApD n A N C) {k i g : Nat} (hk : k < n) (hA : A k = some ⟨g, 0, none⟩) (x : UInt8) :
    Ap1 (w.setCell ⟨g, i, none⟩ (bv x)) base n A N C (fun j => if j = k then (L k).set i x else L j) := by
  refine ⟨fun j hj => ?_, fun j hj => ?_⟩
  · by_cases e : j = k
    · subst e
      rw [if_pos rfl]
      have := h.ob j hj
      unfold apV at this ⊢
      rw [hA] at this ⊢
      exact obn_set this (h.len j hj) i x
    · rw [if_neg e]
      refine ob_kept (h.ob j hj) (grown_set w g i _) ?_
      have := hd k j hk hj (Ne.symm e)
      unfold apV at this ⊢
      rw [hA] at this
      simpa [Value.ownBlock] using this
  · by_cases e : j = k
    · subst e
      rw [if_pos rfl, List.length_set]
      exact h.len j hj
    · rw [if_neg e]
      exact h.len j hj

/-- The first k lists have grown into Gv. -/
structure Ap3 (w : World) (base n : Nat) (A : Nat → Option Addr) (N C : Nat → Nat) (k : Nat) (Gv : Nat → Value) : Prop where
  old : ∀ j, k ≤ j → j < n → OB w base (apV A N C j) (marks j (N j))
  own : ∀ j, j < k → OB w base (Gv j) (marks j (N j + 40))
  rd : ∀ j, j < k → BR w (A j) (N j) (marks j (N j))
  ap : ∀ j, j < k → ∀ i, k ≤ i → i < n → (Gv j).ownBlock = none ∨ (Gv j).ownBlock ≠ (apV A N C i).ownBlock

theorem Ap3.step {w w' : World} {base n : Nat} {A : Nat → Option Addr} {N C : Nat → Nat} {k : Nat} {Gv : Nat → Value} (h : Ap3 w base n A N C k Gv) (hd : ApD n A N C) (hk : k < n) (hg : w.grownBy w' (apV A N C k).ownBlock) {gv : Value}
    (ho : OB w' base gv (marks k (N k + 40))) (hr : BR w' (A k) (N k) (marks k (N k))) (hb : gv.ownBlock = (apV A N C k).ownBlock ∨ ∃ b, gv.ownBlock = some b ∧ w.heap.size ≤ b) : Ap3 w' base n A N C (k + 1) (fun j => if j = k then gv else Gv j) := by
  refine ⟨fun j h1 h2 => ?_, fun j hj => ?_, fun j hj => ?_, fun j hj i h1 h2 => ?_⟩
  · exact ob_kept (h.old j (by omega) h2) hg (hd k j hk h2 (by omega))
  · by_cases e : j = k
    · subst e; rw [if_pos rfl]; exact ho
    · rw [if_neg e]; exact ob_kept (h.own j (by omega)) hg (h.ap j (by omega) k (Nat.le_refl _) hk)
  · by_cases e : j = k
    · subst e; exact hr
    · refine (h.rd j (by omega)).grown hg fun ad ea => ?_
      have := hd k j hk (by omega) (Ne.symm e)
      unfold apV at this ⊢
      rw [ea] at this
      simpa [Value.ownBlock] using this
  · by_cases e : j = k
    · subst e
      rw [if_pos rfl]
      rcases hb with hb | ⟨b, hb, hbb⟩
      · rw [hb]
        rcases hd i j h2 hk (by omega) with h3 | h3
        · exact .inl h3
        · exact .inr h3
      · refine .inr fun e' => ?_
        have := ((h.old i (by omega) h2).lt b (by rw [← e', hb])).2
        omega
    · rw [if_neg e]; exact h.ap j (by omega) i (by omega) h2

theorem Ap3.other {w w' : World} {base n : Nat} {A : Nat → Option Addr} {N C : Nat → Nat} {k G : Nat} {Gv : Nat → Value} (h : Ap3 w base n A N C k Gv) (hk : k ≤ n) (hg : w.grownBy w' (some G)) {cs : Array Value} {t : TypeId} {fr : Nat × Nat} (hG : w.heap[G]? = some (.cells cs t fr)) (ht : t ≠ 5)
    (hA : ∀ j, j < n → ∀ ad, A j = some ad → ad.block ≠ G) : Ap3 w' base n A N C k Gv :=
  ⟨fun j h1 h2 => ob_kept (h.old j h1 h2) hg (.inr (ob_ne (h.old j h1 h2) hG ht)), fun j hj => ob_kept (h.own j hj) hg (.inr (ob_ne (h.own j hj) hG ht)),
   fun j hj => (h.rd j hj).grown hg fun ad ea e => hA j (by omega) ad ea (by injection e), h.ap⟩

/-- gs, of which the first k are laid. -/
def gsArr (n k : Nat) (Gv : Nat → Value) : Array Value := ((List.range n).map fun j => if j < k then Gv j else .slice none 0 0).toArray

theorem gs_get (n k : Nat) (Gv : Nat → Value) (j : Nat) (hj : j < n) : (gsArr n k Gv)[j]? = some (if j < k then Gv j else .slice none 0 0) := by
  simp [gsArr, hj]
theorem gs_set (n k : Nat) (Gv : Nat → Value) (gv : Value) (_hk : k < n) : (gsArr n k Gv).setIfInBounds k gv = gsArr n (k + 1) (fun j => if j = k then gv else Gv j) := by
  unfold gsArr
  apply Array.ext_getElem?
  intro i
  rw [Array.getElem?_setIfInBounds]
  by_cases e : k = i
  · subst e
    rw [if_pos rfl]
    simp [_hk]
  · rw [if_neg e]
    by_cases hi : i < n
    · simp only [List.getElem?_toArray, List.getElem?_map, List.getElem?_range hi, Option.map_some]
      by_cases h1 : i < k
      · rw [if_pos h1, if_pos (by omega), if_neg (by omega)]
      · rw [if_neg h1, if_neg (by omega)]
    · rw [Array.getElem?_eq_none (by simp; omega), Array.getElem?_eq_none (by simp; omega)]

theorem info_bytes : (Try.prog.info? 26).map (fun i => (i.zero, i.size, i.bytes)) = some (some (.slice none 0 0), 1, 24) := by kernel_rfl

theorem run_mk_lists (n : Nat) (hn : n ≤ 4398046511104) (x : Int) (hx : x = n) (u : World) :
    (Instr.makeSlice 36 (.int .i64 x) (.int .i64 x)).run Try.prog u = .ok (.slice (some ⟨u.heap.size, 0, none⟩) n n) (u.alloc (.cells (gsArr n 0 (fun _ => .slice none 0 0)) 26)) := by
  obtain ⟨i0, hi0, hz0, hz1, hz2⟩ := info_parts info_bytes
  subst hx
  have h := run_make (P := Try.prog) u 36 26 i0 (.slice none 0 0) Try.underlying36 hi0 hz0 .i64 .i64 (n : Int) (n : Int) (by omega) (by omega) (by rw [hz2]; omega) (by omega)
  have e : madeCells #[.slice none 0 0] n = gsArr n 0 (fun _ => .slice none 0 0) := by
    apply Array.ext'
    rw [toList_madeCells_one]
    unfold gsArr
    simp only [Nat.not_lt_zero, if_false, List.map_const', List.length_range]
  simpa [hz1, Value.cells, e] using h

set_option maxRecDepth 100000 in
set_option maxHeartbeats 4000000 in
theorem ApartBytes_any (gl cl n base : Nat) (lcur : Array Value) (fr : Nat × Nat) (A : Nat → Option Addr) (N C : Nat → Nat) (L : Nat → List UInt8) (w : World) (h1 : Ap1 w base n A N C L) (hd : ApD n A N C) (hls : w.heap[gl]? = some (.cells lcur 26 fr))
    (hlc : ∀ j, j < n → lcur[j]? = some (apV A N C j)) (hN : ∀ j, j < n → N j ≤ 140737488355328) (hbase : base ≤ w.heap.size) (hn : n ≤ 4398046511104) :
    Calls Try.prog 15 #[.slice (some ⟨gl, 0, none⟩) n cl] w fun e w' => e = .returned (.bool true) ∧ Below base w w' := by
  obtain ⟨i0, hi0, hz0, hz1, hz2⟩ := info_parts info_u8
  have mk := run_mk_lists n hn n rfl
  have HD := Lib.hid hd
  have HLC := Lib.hid hlc
  have HN := Lib.hid hN
  have HA : Hid (∀ j, j < n → ∀ ad, A j = some ad → ad.block < w.heap.size) := Lib.hid (fun j hj ad ea => by
    have := ((h1.ob j hj).lt ad.block (by unfold apV; rw [ea]; rfl)).2
    exact this)
  have hgl : gl < w.heap.size := (Array.getElem?_eq_some_iff.1 hls).1
  clear hd hlc hN
  have hlsC : ∀ (W : World), W.heap[gl]? = some (.cells lcur 26 fr) → ∀ j, j < n → W.cell? ⟨gl, j, none⟩ = some (apV A N C j) := fun W hW j hj => by
    rw [cell_of_row W gl j _ _ _ hW]; exact HLC.out j hj
  have HLS := Lib.hid hlsC
  clear hlsC
  go_enter Try.func15, Try.ntmps15
  go_wp2_with fail
  have hG0 : (w.alloc (.cells (gsArr n 0 (fun _ => .slice none 0 0)) 26)).heap[w.heap.size]? = some (.cells (gsArr n 0 (fun _ => .slice none 0 0)) 26 (0, 0)) := heap_alloc_new w _
  have hl0 : (w.alloc (.cells (gsArr n 0 (fun _ => .slice none 0 0)) 26)).heap[gl]? = some (.cells lcur 26 fr) := (Below.heap_alloc w _ gl hgl).trans hls
  have hA0 : Ap1 (w.alloc (.cells (gsArr n 0 (fun _ => .slice none 0 0)) 26)) base n A N C L := ⟨fun j hj => (h1.ob j hj).below (gr_alloc (gr_refl w) _), h1.len⟩
  have hb0 : Below base w (w.alloc (.cells (gsArr n 0 (fun _ => .slice none 0 0)) 26)) := (Below.refl base w).alloc hbase _
  generalize w.alloc (.cells (gsArr n 0 (fun _ => .slice none 0 0)) 26) = w0 at *
  generalize hGe : w.heap.size = G at *
  have HGE := Lib.hid hGe
  clear h1 hls mk hGe
  go_loopw [4, 5] (fun p _q wr => ∃ (k : Nat) (L : Nat → List UInt8), k ≤ n ∧ p = .int .i64 k ∧ Hid (Ap1 wr base n A N C L) ∧ Hid (∀ j, j < k → L j = marks j (N j)) ∧ Hid (wr.heap[gl]? = some (.cells lcur 26 fr)) ∧
    Hid (wr.heap[G]? = some (.cells (gsArr n 0 (fun _ => .slice none 0 0)) 26 (0, 0))) ∧ Below base w wr) (fun p _ _ => n - (intOf p).toNat)
  case atStart => exact ⟨0, L, Nat.zero_le _, rfl, Lib.hid hA0, Lib.hid (fun j hj => by omega), Lib.hid hl0, Lib.hid hG0, hb0⟩
  case round =>
    clear hA0 hl0 hG0 hb0
    obtain ⟨k, L, hk, rfl, HAP, HM, HL, HG, hb⟩ := hrel
    by_cases hlt : k < n
    · have t1 : decide ((k : Int) < (n : Int)) = true := by simp; omega
      have t1' : decide (k < n) = true := by simp; omega
      go_wp2_with fail
      obtain ⟨wo, hwo⟩ : ∃ wo : World, wo = wr := ⟨_, rfl⟩
      subst hwo
      go_loopw [5] (fun q wr => ∃ (i : Nat) (L : Nat → List UInt8), i ≤ N k ∧ q = .int .i64 i ∧ Hid (Ap1 wr base n A N C L) ∧ Hid (∀ j, j < k → L j = marks j (N j)) ∧ Hid ((L k).take i = marks k i) ∧ Hid (wr.heap[gl]? = some (.cells lcur 26 fr)) ∧
        Hid (wr.heap[G]? = some (.cells (gsArr n 0 (fun _ => .slice none 0 0)) 26 (0, 0))) ∧ Below base w wr) (fun q _ => N k - (intOf q).toNat)
      case atStart => exact ⟨0, L, Nat.zero_le _, rfl, HAP, HM, Lib.hid rfl, HL, HG, hb⟩
      case round =>
        clear HAP HM HL HG hb L
        obtain ⟨i, L, hi, rfl, HAP, HM, HT, HL, HG, hb⟩ := hrel
        have hNk := HN.out k hlt
        have cV := HLS.out wr HL.out k hlt
        unfold apV at cV
        by_cases hlt2 : i < N k
        · obtain ⟨g, eA, hc1, hc2, hbg⟩ := obA_some (HAP.out.ob k hlt) (HAP.out.len k hlt) (by omega)
          have hob : OB wr base (.slice (some ⟨g, 0, none⟩) (N k) (C k)) (L k) := by have := HAP.out.ob k hlt; unfold apV at this; rw [eA] at this; exact this
          have c1 := obn_cell hob (HAP.out.len k hlt) (j := i) hlt2
          have z1 := obn_frozen hob (HAP.out.len k hlt) i
          rw [eA] at cV
          have hgG : g ≠ G := fun e => ob_ne hob HG.out (by decide) (by simp [Value.ownBlock, e])
          have hggl : g ≠ gl := fun e => ob_ne hob HL.out (by decide) (by simp [Value.ownBlock, e])
          have HAP' := Lib.hid (HAP.out.set HD.out (i := i) hlt eA (mkB k i))
          have HM' : Hid (∀ j, j < k → (if j = k then (L k).set i (mkB k i) else L j) = marks j (N j)) := Lib.hid (fun j hj => by rw [if_neg (by omega)]; exact HM.out j hj)
          have HT' : Hid ((if k = k then (L k).set i (mkB k i) else L k).take (i + 1) = marks k (i + 1)) := Lib.hid (by rw [if_pos rfl]; exact take_set_succ (by rw [HAP.out.len k hlt]; exact hlt2) HT.out)
          have HL' : Hid ((wr.setCell ⟨g, i, none⟩ (bv (mkB k i))).heap[gl]? = some (.cells lcur 26 fr)) := Lib.hid ((Below.heap_setCell _ _ _ gl (Ne.symm hggl)).trans HL.out)
          have HG' : Hid ((wr.setCell ⟨g, i, none⟩ (bv (mkB k i))).heap[G]? = some (.cells (gsArr n 0 (fun _ => .slice none 0 0)) 26 (0, 0))) := Lib.hid ((Below.heap_setCell _ _ _ G (Ne.symm hgG)).trans HG.out)
          have hb' : Below base w (wr.setCell ⟨g, i, none⟩ (bv (mkB k i))) := hb.setCell (p := ⟨g, i, none⟩) hbg _
          unfold bv at HAP' HL' HG' hb'
          have hi0' : (0 : Int) ≤ (k : Int) := Int.natCast_nonneg _
          have hi1' : (k : Int) < (n : Int) := by omega
          generalize (((L k).getD i 0).toNat : Int) = y0 at *
          clear HAP HM HT HL HG hb hob hgG hggl
          go_wp2_with fail
          go_region_with (go_at_call 41; refine (markByte_any k i _).mono ?_; rintro e w' ⟨rfl, rfl⟩)
          all_goals
            go_wp2_with fail
            go_roundw
            case rel => exact ⟨i + 1, _, by omega, by go_num, Lib.hid ⟨fun j hj => HAP'.out.ob j hj, HAP'.out.len⟩, HM', Lib.hid (by simpa using HT'.out), Lib.hid HL'.out, Lib.hid HG'.out, hb'.drew⟩
            case measure => simp [intOf]; omega
        · obtain rfl : i = N k := by omega
          have HM' : Hid (∀ j, j < k + 1 → L j = marks j (N j)) := Lib.hid (fun j hj => by
            by_cases e : j = k
            · subst e
              have := HT.out
              rwa [List.take_of_length_le (Nat.le_of_eq (HAP.out.len j hlt))] at this
            · exact HM.out j (by omega))
          clear HM HT
          go_wp2_with fail
          go_roundw
          case rel => exact ⟨k + 1, L, by omega, by go_num, HAP, HM', HL, HG, hb⟩
          case measure => simp [intOf]; omega
    · obtain rfl : k = n := by omega
      have H3 : Hid (Ap3 wr base k A N C 0 (fun _ => .slice none 0 0)) := Lib.hid ⟨fun j _ hj => by have := HAP.out.ob j hj; rw [HM.out j hj] at this; exact this, fun j hj => by omega, fun j hj => by omega, fun j hj => by omega⟩
      clear HAP HM
      go_wp2_with fail
      obtain ⟨wo, hwo⟩ : ∃ wo : World, wo = wr := ⟨_, rfl⟩
      subst hwo
      go_loopw [6, 7, 8] (fun p _g _q wr => ∃ (m : Nat) (Gv : Nat → Value), m ≤ k ∧ p = .int .i64 m ∧ Hid (Ap3 wr base k A N C m Gv) ∧ Hid (wr.heap[gl]? = some (.cells lcur 26 fr)) ∧
        Hid (wr.heap[G]? = some (.cells (gsArr k m Gv) 26 (0, 0))) ∧ Below base w wr) (fun p _ _ _ => k - (intOf p).toNat)
      case atStart => exact ⟨0, _, Nat.zero_le _, rfl, H3, HL, HG, hb⟩
      case round =>
        clear H3 HL HG hb
        obtain ⟨m, Gv, hm, rfl, H3, HL, HG, hb⟩ := hrel
        by_cases hlt : m < k
        · have t1 : decide ((m : Int) < (k : Int)) = true := by simp; omega
          have t1' : decide (m < k) = true := by simp; omega
          have hNm := HN.out m hlt
          have cV := HLS.out wr HL.out m hlt
          unfold apV at cV
          go_wp2_with fail
          obtain ⟨wk, hwk⟩ : ∃ wk : World, wk = wr := ⟨_, rfl⟩
          subst hwk
          have hobk := H3.out.old m (Nat.le_refl _) hlt
          have hbsz : base ≤ wk.heap.size := by have := HGE.out; have := hb.size; omega
          go_loopw [7, 8] (fun g q wr => ∃ (j : Nat), j ≤ 40 ∧ q = .int .i64 j ∧ Hid (OB wr base g (marks m (N m + j))) ∧ Hid (BR wr (A m) (N m) (marks m (N m))) ∧ Hid (wk.grownBy wr (apV A N C m).ownBlock) ∧
            Hid (g.ownBlock = (apV A N C m).ownBlock ∨ ∃ b, g.ownBlock = some b ∧ wk.heap.size ≤ b) ∧ Below base w wr) (fun _ q _ => 40 - (intOf q).toNat)
          case atStart => exact ⟨0, by omega, rfl, Lib.hid hobk, Lib.hid (obBR hobk (marks_len _ _)), Lib.hid (World.grownBy.refl wk _), Lib.hid (.inl rfl), hb⟩
          case round =>
            obtain ⟨j, hj, rfl, HO, HB, HGR, HBL, hbj⟩ := hrel
            have hl2 : Hid (wr.heap[gl]? = some (.cells lcur 26 fr)) := Lib.hid ((HGR.out.block gl (Array.getElem?_eq_some_iff.1 HL.out).1 (fun e => ob_ne hobk HL.out (by decide) e.symm)).trans HL.out)
            have cV := HLS.out wr hl2.out m hlt
            unfold apV at cV
            by_cases hlt2 : j < 40
            · have t2 : decide ((j : Int) < 40) = true := by simp; omega
              have hw1 : IntKind.i64.wrap ((N m : Int) + (j : Int)) = ((N m + j : Nat) : Int) := by rw [IntKind.wrap_i64]; omega
              have hml := marks_len m (N m + j)
              have ho2 := HO.out
              unfold OB at ho2
              rw [hml] at ho2
              have HO2 := Lib.hid ho2
              clear hml HO ho2
              obtain ⟨Ag, cg, rfl, _, _⟩ := own_form HO2.out
              have hmx : N m + j + 1 ≤ maxLen := by simp only [maxLen]; omega
              have hszj : base ≤ wr.heap.size + 1 := by have := HGR.out.size; omega
              have HR1 : ∀ W : World, Rd (W.alloc (.cells #[.int .u8 ((mkB m (N m + j)).toNat : Int)] 5)) 1 (some ⟨W.heap.size, 0, none⟩) 1 [bv (mkB m (N m + j))] := fun W => Rd.new W _ #[_] 1 1 rfl
              have HR := Lib.hid HR1
              have HFIN : Hid (∀ (v4 : Value) (w4 : World), w4.ownsRow base 5 1 v4 (N m + j + 1) ((marks m (N m + j)).map bv ++ [bv (mkB m (N m + j))]) → (wr.alloc (.cells #[.int .u8 ((mkB m (N m + j)).toNat : Int)] 5)).grownBy w4 (Value.slice Ag (N m + j) cg).ownBlock →
                  (v4.ownBlock = (Value.slice Ag (N m + j) cg).ownBlock ∨ (v4.ownBlock = some (wr.heap.size + 1) ∧ (wr.alloc (.cells #[.int .u8 ((mkB m (N m + j)).toNat : Int)] 5)).grownBy w4 none)) → OB w4 base v4 (marks m (N m + (j + 1))) ∧ BR w4 (A m) (N m) (marks m (N m)) ∧ wk.grownBy w4 (apV A N C m).ownBlock ∧
                  (v4.ownBlock = (apV A N C m).ownBlock ∨ ∃ b, v4.ownBlock = some b ∧ wk.heap.size ≤ b) ∧ Below base w w4) := Lib.hid (by
                intro v4 w4 hown4 hg4 hbl4
                have hnew : wk.heap.size ≤ wr.heap.size := HGR.out.size
                have hobk : OB wk base (apV A N C m) (marks m (N m)) := H3.out.old m (Nat.le_refl _) hlt
                have hgr : wr.grownBy w4 (Value.slice Ag (N m + j) cg).ownBlock := ⟨hg4.os, hg4.tape, hg4.output, Nat.le_trans (by simp) hg4.size, fun b hb hne => (hg4.block b (by simp; omega) hne).trans (Below.heap_alloc wr _ b hb)⟩
                have hgr2 : wk.grownBy w4 (apV A N C m).ownBlock := by
                  refine ⟨by rw [hgr.os, HGR.out.os], by rw [hgr.tape, HGR.out.tape], by rw [hgr.output, HGR.out.output], Nat.le_trans hnew hgr.size, fun b hb hne => ?_⟩
                  rw [hgr.block b (by omega) ?_, HGR.out.block b hb hne]
                  rcases HBL.out with e | ⟨b', e, hb'⟩
                  · rw [e]; exact hne
                  · rw [e]; intro e2; injection e2 with e2; omega
                have e40 : marks m (N m + (j + 1)) = marks m (N m + j) ++ [mkB m (N m + j)] := by rw [← marks_succ]; rfl
                have ho4 : OB w4 base v4 (marks m (N m + (j + 1))) := OB.of_own hown4 (by rw [e40, List.map_append]; rfl)
                refine ⟨ho4, ?_, hgr2, ?_, ?_⟩
                · rcases Nat.eq_zero_or_pos (N m) with h0 | h0
                  · rw [h0]; exact BR.none_ _ _
                  · obtain ⟨ga, eA, hc1, hc2, hbg⟩ := obA_some hobk (marks_len _ _) h0
                    rcases hbl4 with e4 | e4
                    · rcases HBL.out with e | ⟨b', e, hb'⟩
                      · obtain ⟨A4, c4, rfl, hr4, _, _⟩ := ho4.formN (n := N m + (j + 1)) (marks_len _ _)
                        have : (Value.slice A4 (N m + (j + 1)) c4).ownBlock = some ga := by rw [e4, e]; unfold apV; rw [eA]; rfl
                        have hA4 : A4 = some ⟨ga, 0, none⟩ := by
                          rcases ho4.2 with ⟨e5, _⟩ | ⟨g5, cap5, cur5, e5, _⟩
                          · cases e5
                          · injection e5 with e6
                            subst e6
                            have h6 : g5 = ga := by simpa [Value.ownBlock] using this
                            rw [h6]
                        rw [eA, ← hA4]
                        have := hr4.pre (j := N m) (by omega)
                        rwa [marks_take _ _ _ (by omega)] at this
                      · refine HB.out.grown hgr fun ad ea e2 => ?_
                        rw [e] at e2
                        rw [eA] at ea
                        cases ea
                        injection e2 with e2
                        have := (hobk.lt ga (by unfold apV; rw [eA]; rfl)).2
                        dsimp only at e2
                        omega
                    · exact (HB.out.below (gr_alloc (gr_refl wr) _)).grown e4.2 (fun _ _ => by simp)
                · rcases hbl4 with e4 | e4
                  · rw [e4]; exact HBL.out
                  · exact .inr ⟨_, e4.1, by omega⟩
                · exact (hbj.alloc (by have := HGE.out; have := hbj.size; omega) _).grown hg4 (by simp; omega) (fun b hb => (HO2.out.lt b hb).1))
              clear HB HBL
              go_wp2_with fail
              refine (markByte_of m (N m + j) _ (by simp) _).mono ?_
              rintro e w' ⟨rfl, rfl⟩
              go_wp2_with (at_builtin; refine wpList_append_Rd _ rfl (.tmp 52) (.tmp 62) _ rfl base 5 i0 _ 1 1 Try.underlying26 hi0 hz0 hz1 hz2 rfl (.slice Ag (N m + j) cg) (N m + j) _ rfl (HO2.out.alloc _) (some ⟨wr.heap.size, 0, none⟩) 1 1 [bv (mkB m (N m + j))] rfl (HR.out _) (by simp [Value.oneCell', bv]) (by omega) hmx (by rw [World.size_alloc]; exact hszj) ?_; intro v4 w4 hown4 hg4 _ hbl4; obtain ⟨k1, k2, k3, k4, k5⟩ := HFIN.out v4 w4 hown4 hg4 (by rw [World.size_alloc] at hbl4; exact hbl4))
              go_roundw
              case rel => exact ⟨j + 1, by omega, by go_num, Lib.hid k1, Lib.hid k2, Lib.hid k3, Lib.hid k4, k5⟩
              case measure => simp [intOf]; omega
            · obtain rfl : j = 40 := by omega
              have t2 : decide (((40 : Nat) : Int) < 40) = false := by simp
              have HGb : Hid (wr.heap[G]? = some (.cells (gsArr k m Gv) 26 (0, 0))) := Lib.hid ((HGR.out.block G (Array.getElem?_eq_some_iff.1 HG.out).1 (fun e => ob_ne hobk HG.out (by decide) e.symm)).trans HG.out)
              obtain ⟨Ag, cg, eg, _, _⟩ := own_form HO.out
              rw [marks_len] at eg
              subst eg
              have H4 := Lib.hid (H3.out.step HD.out hlt HGR.out HO.out HB.out HBL.out)
              have hcG : wr.cell? ⟨G, m, none⟩ = some (.slice none 0 0) := by
                rw [cell_of_row wr G m _ _ _ HGb.out, gs_get k m Gv m hlt, if_neg (by omega)]
              have hfG : wr.frozen? ⟨G, m, none⟩ = false := by simp [World.frozen?, HGb.out]
              have hGw : w.heap.size = G := HGE.out
              have HA5 : Hid (∀ j, j < k → ∀ ad, A j = some ad → ad.block ≠ G) := Lib.hid (fun j hj ad ea => by have := HA.out j hj ad ea; omega)
              have H5 := Lib.hid (H4.out.other (w' := wr.setCell ⟨G, m, none⟩ (.slice Ag (N m + 40) cg)) (by omega) (grown_set wr G m _) HGb.out (by decide) HA5.out)
              have HG5 : Hid ((wr.setCell ⟨G, m, none⟩ (.slice Ag (N m + 40) cg)).heap[G]? = some (.cells (gsArr k (m + 1) (fun j => if j = m then .slice Ag (N m + 40) cg else Gv j)) 26 (0, 0))) := Lib.hid (by
                rw [← gs_set k m Gv _ hlt]
                simp only [World.setCell, Array.getElem?_modify, if_pos, HGb.out]
                simp)
              have HL5 : Hid ((wr.setCell ⟨G, m, none⟩ (.slice Ag (N m + 40) cg)).heap[gl]? = some (.cells lcur 26 fr)) := Lib.hid ((Below.heap_setCell _ _ _ gl (by dsimp only; omega)).trans hl2.out)
              have hb5 : Below base w (wr.setCell ⟨G, m, none⟩ (.slice Ag (N m + 40) cg)) := hbj.setCell (p := ⟨G, m, none⟩) hbase _
              clear H3 H4 HO HB HGR HBL HG HGb hGw hobk HL hl2
              go_wp2_with fail
              go_roundw
              case rel => exact ⟨m + 1, _, by omega, by go_num, H5, HL5, HG5, hb5⟩
              case measure => simp [intOf]; omega
        · obtain rfl : m = k := by omega
          have t1 : decide ((m : Int) < (m : Int)) = false := by simp
          go_wp2_with fail
          obtain ⟨wz, hwz⟩ : ∃ wz : World, wz = wr := ⟨_, rfl⟩
          subst hwz
          go_loopw [9, 10] (fun p _q wr => ∃ (r q : Nat), r ≤ m ∧ p = .int .i64 r ∧ Hid (wr = wz.drewN q)) (fun p _ _ => m - (intOf p).toNat)
          case atStart => exact ⟨0, 0, Nat.zero_le _, rfl, Lib.hid rfl⟩
          case round =>
            obtain ⟨r, q, hr, rfl, HW⟩ := hrel
            by_cases hlt : r < m
            · have t1 : decide ((r : Int) < (m : Int)) = true := by simp; omega
              have t1' : decide (r < m) = true := by simp; omega
              have hNm := HN.out r hlt
              obtain ⟨Ag, cg, eg, hrg, hcg1, hcg2⟩ := (H3.out.own r hlt).formN (marks_len _ _)
              have hrv := H3.out.rd r hlt
              have cV0 : wz.cell? ⟨gl, r, none⟩ = some (.slice (A r) (N r) (C r)) := HLS.out wz HL.out r hlt
              have cG0 : wz.cell? ⟨G, r, none⟩ = some (.slice Ag (N r + 40) cg) := by
                rw [cell_of_row wz G r _ _ _ HG.out, gs_get m m Gv r hlt, if_pos hlt, eg]
              have HCV := Lib.hid cV0
              have HCG := Lib.hid cG0
              have HRG := Lib.hid hrg
              have HRV := Lib.hid hrv
              clear eg hrg hrv cV0 cG0
              go_wp2_with fail
              obtain ⟨wy, hwy⟩ : ∃ wy : World, wy = wr := ⟨_, rfl⟩
              subst hwy
              go_loopw [10] (fun p wr => ∃ (i q : Nat), i ≤ N r + 40 ∧ p = .int .i64 i ∧ Hid (wr = wz.drewN q)) (fun p _ => N r + 40 - (intOf p).toNat)
              case atStart => exact ⟨0, q, Nat.zero_le _, rfl, HW⟩
              case round =>
                clear HW
                obtain ⟨i, q, hi, rfl, HW⟩ := hrel
                have cV : wr.cell? ⟨gl, r, none⟩ = some (.slice (A r) (N r) (C r)) := by rw [HW.out]; exact HCV.out
                have cG : wr.cell? ⟨G, r, none⟩ = some (.slice Ag (N r + 40) cg) := by rw [HW.out]; exact HCG.out
                by_cases hlt2 : i < N r + 40
                · have t2 : decide ((i : Int) < (N r : Int) + 40) = true := by simp; omega
                  have rg : BR wr Ag (N r + 40) (marks r (N r + 40)) := by rw [HW.out]; exact HRG.out
                  obtain ⟨ga, oa, rfl, cb⟩ := rg.at_ (k := i) hlt2
                  rw [marks_get _ _ _ hlt2] at cb
                  have HMK := Lib.hid (markByte_any r i)
                  by_cases hlt3 : i < N r
                  · have t3 : decide ((i : Int) < (N r : Int)) = true := by simp; omega
                    have t3' : decide (i < N r) = true := by simp; omega
                    have rv : BR wr (A r) (N r) (marks r (N r)) := by rw [HW.out]; exact HRV.out
                    obtain ⟨gv, ov, eA, cc⟩ := rv.at_ (k := i) hlt3
                    rw [marks_get _ _ _ hlt3] at cc
                    rw [eA] at cV
                    generalize ((mkB r i).toNat : Int) = y at *
                    clear rv rg eA
                    go_wp2_with fail
                    go_quiet ((go_at_call 41; exact Calls.quiet_of_same ((HMK.out _).mono (fun _ _ h => ⟨h.1, h.2.symm⟩))))
                    go_wp2_with fail
                    go_roundw
                    case rel => exact ⟨i + 1, q + nq, by omega, by go_num, Lib.hid (by rw [HW.out, World.drewN_drewN])⟩
                    case measure => simp [intOf]; omega
                  · have t3 : decide ((i : Int) < (N r : Int)) = false := by simp; omega
                    have t3' : decide (i < N r) = false := by simp; omega
                    generalize ((mkB r i).toNat : Int) = y at *
                    clear rg
                    go_wp2_with fail
                    go_quiet ((go_at_call 41; exact Calls.quiet_of_same ((HMK.out _).mono (fun _ _ h => ⟨h.1, h.2.symm⟩))))
                    go_wp2_with fail
                    go_roundw
                    case rel => exact ⟨i + 1, q + nq, by omega, by go_num, Lib.hid (by rw [HW.out, World.drewN_drewN])⟩
                    case measure => simp [intOf]; omega
                · obtain rfl : i = N r + 40 := by omega
                  go_wp2_with fail
                  go_roundw
                  case rel => exact ⟨r + 1, q, by omega, by go_num, HW⟩
                  case measure => simp [intOf]; omega
            · obtain rfl : r = m := by omega
              go_wp2_with fail
              go_ret
              exact ⟨rfl, by rw [HW.out]; exact ⟨hb.os, hb.tape, hb.output, hb.size, hb.block⟩⟩

end Go.Proofs.Ytmdgnjmhbjdlmaa

/-! DkK -/
namespace Go.Proofs.Ytmdgnjmhbjdlmaa
open Go.RowKit

/-- Nothing is armed, and the power is there. -/
def calmD (bs : List (List UInt8)) (ps : List (Nat × List UInt8)) : DiskS := ⟨bs, ps, false, -1, -1, 0⟩

theorem newD_calm (n : Nat) : newD n = calmD (List.replicate n zer) [] := rfl
theorem opC_calm (bs : List (List UInt8)) (ps : List (Nat × List UInt8)) : opC (calmD bs ps) = 0 := rfl
theorem opS_calm (bs : List (List UInt8)) (ps : List (Nat × List UInt8)) : opS (calmD bs ps) = calmD bs ps := rfl
theorem askE_calm (bs : List (List UInt8)) (ps : List (Nat × List UInt8)) (b : Nat) (hb : b < bs.length) : askE (calmD bs ps) (b : Int) = 0 := by
  unfold askE
  rw [if_neg]
  show ¬ ((b : Int) < 0 ∨ (bs.length : Int) ≤ b)
  omega
theorem writeE_calm (bs : List (List UInt8)) (ps : List (Nat × List UInt8)) (b : Nat) (hb : b < bs.length) : writeE (calmD bs ps) (b : Int) 4096 = 0 := by
  unfold writeE
  rw [askE_calm bs ps b hb]
  rfl
theorem writeD_calm (bs : List (List UInt8)) (ps : List (Nat × List UInt8)) (b : Nat) (m : List UInt8) (hb : b < bs.length) (hm : m.length = 4096) : writeD (calmD bs ps) (b : Int) m = calmD bs (ps ++ [(b, m)]) := by
  unfold writeD
  rw [askE_calm bs ps b hb, opC_calm, opS_calm, if_neg (by simp [hm]), if_neg (by simp)]
  rfl
theorem syncD_calm (bs : List (List UInt8)) (ps : List (Nat × List UInt8)) : syncD (calmD bs ps) = calmD (carry bs ps) [] := rfl
theorem crashE_in (cut : Nat) (h : cut ≤ 4096) : crashE (cut : Int) = 0 := by unfold crashE; rw [if_neg (by omega)]
theorem crashD_in (D : DiskS) (keep : List Bool) (torn : Int) (cut : Nat) (h : cut ≤ 4096) : crashD D keep torn (cut : Int) = calmD (crashTo keep torn cut D.blocks D.pending D.pending.length) [] := by
  unfold crashD
  rw [crashE_in cut h, if_neg (by simp)]
  rfl
theorem readE_calm (bs : List (List UInt8)) (ps : List (Nat × List UInt8)) (b : Nat) (hb : b < bs.length) : readE (calmD bs ps) (b : Int) = 0 := by
  unfold readE
  rw [askE_calm bs ps b hb]
  rfl
theorem readL_calm (bs : List (List UInt8)) (ps : List (Nat × List UInt8)) (b : Nat) (hb : b < bs.length) : readL (calmD bs ps) (b : Int) = lastL bs ps b := by
  unfold readL
  rw [readE_calm bs ps b hb, if_neg (by simp)]
  rfl
theorem durL_calm (bs : List (List UInt8)) (ps : List (Nat × List UInt8)) (b : Nat) (hb : b < bs.length) : durL (calmD bs ps) (b : Int) = bs.getD b [] := by
  unfold durL
  rw [askE_calm bs ps b hb, if_pos rfl]
  rfl

/-- A block of one letter. -/
def lett (c : UInt8) : List UInt8 := List.replicate 4096 c
theorem lett_len (c : UInt8) : (lett c).length = 4096 := by unfold lett; rw [List.length_replicate]
theorem rep_at (n : Nat) (c : UInt8) (i : Nat) (h : i < n) : (List.replicate n c).getD i 0 = c := by simp [List.getD, h]
theorem lett_at (c : UInt8) (i : Nat) (h : i < 4096) : (lett c).getD i 0 = c := rep_at _ c i h
theorem lett_own {W : World} {q base : Nat} {c : UInt8} (hB : BB W q (List.replicate 4096 c)) (hq : base ≤ q) : OB W base (.slice (some ⟨q, 0, none⟩) 4096 4096) (lett c) := by
  have := hB.own (base := base) hq (by rw [List.length_replicate]; simp [maxLen])
  rwa [List.length_replicate] at this
theorem cut_at (n : Nat) (a b : UInt8) (h : 3 < n) : ((List.replicate n b).take 3 ++ (List.replicate n a).drop 3).getD 2 0 = b ∧ ((List.replicate n b).take 3 ++ (List.replicate n a).drop 3).getD 3 0 = a := by
  have h3 : min 3 n = 3 := by omega
  constructor
  · simp only [List.getD, List.take_replicate, List.drop_replicate, List.getElem?_append, List.length_replicate, h3, List.getElem?_replicate]
    simp
  · simp only [List.getD, List.take_replicate, List.drop_replicate, List.getElem?_append, List.length_replicate, h3, List.getElem?_replicate]
    rw [show (3 : Nat) - 3 = 0 from rfl, if_neg (by omega), if_pos (by omega)]
    rfl

/-- awake's last block. -/
def awkL : List UInt8 := (lett 98).take 3 ++ (lett 97).drop 3
theorem awkL_len : awkL.length = 4096 := by unfold awkL; rw [List.length_append, List.length_take, List.length_drop, lett_len, lett_len]; rfl
theorem awkL_2 : awkL.getD 2 0 = 98 := (cut_at 4096 97 98 (by omega)).1
theorem awkL_3 : awkL.getD 3 0 = 97 := (cut_at 4096 97 98 (by omega)).2

theorem LR.nil (w : World) : LR w none 0 [] := ⟨rfl, fun h => absurd h (by omega)⟩
theorem apartK_nil (w0 w : World) : apartK w0 w none 0 := fun _ e => by cases e

end Go.Proofs.Ytmdgnjmhbjdlmaa

/-! ApO -/
namespace Go.Proofs.Ytmdgnjmhbjdlmaa
open Go.RowKit

/-- The lists' own blocks. -/
def apS (n : Nat) (A : Nat → Option Addr) (N C : Nat → Nat) (k : Nat) : Prop := ∃ j, j < n ∧ (apV A N C j).ownBlock = some k

theorem Off.setNewB {S : Nat → Prop} {w w' : World} (h : Off S w w') {g j : Nat} (v : Value) (hg : w.heap.size ≤ g) : Off S w (w'.setCell ⟨g, j, none⟩ v) :=
  ⟨h.os, h.tape, h.output, Nat.le_trans h.size (KeepsWalks.setCell w' _ v).size, fun k hk hs => (Below.heap_setCell _ _ _ k (by dsimp only; omega)).trans (h.block k hk hs)⟩

set_option maxRecDepth 100000 in
set_option maxHeartbeats 4000000 in
theorem ApartBytes_off (gl cl n base : Nat) (lcur : Array Value) (fr : Nat × Nat) (A : Nat → Option Addr) (N C : Nat → Nat) (L : Nat → List UInt8) (w : World) (h1 : Ap1 w base n A N C L) (hd : ApD n A N C) (hls : w.heap[gl]? = some (.cells lcur 26 fr))
    (hlc : ∀ j, j < n → lcur[j]? = some (apV A N C j)) (hN : ∀ j, j < n → N j ≤ 140737488355328) (hbase : base ≤ w.heap.size) (hn : n ≤ 4398046511104) :
    Calls Try.prog 15 #[.slice (some ⟨gl, 0, none⟩) n cl] w fun e w' => e = .returned (.bool true) ∧ Off (apS n A N C) w w' := by
  obtain ⟨i0, hi0, hz0, hz1, hz2⟩ := info_parts info_u8
  have mk := run_mk_lists n hn n rfl
  have HD := Lib.hid hd
  have HLC := Lib.hid hlc
  have HN := Lib.hid hN
  have HA : Hid (∀ j, j < n → ∀ ad, A j = some ad → ad.block < w.heap.size) := Lib.hid (fun j hj ad ea => by
    have := ((h1.ob j hj).lt ad.block (by unfold apV; rw [ea]; rfl)).2
    exact this)
  have hgl : gl < w.heap.size := (Array.getElem?_eq_some_iff.1 hls).1
  clear hd hlc hN
  have hlsC : ∀ (W : World), W.heap[gl]? = some (.cells lcur 26 fr) → ∀ j, j < n → W.cell? ⟨gl, j, none⟩ = some (apV A N C j) := fun W hW j hj => by
    rw [cell_of_row W gl j _ _ _ hW]; exact HLC.out j hj
  have HLS := Lib.hid hlsC
  clear hlsC
  go_enter Try.func15, Try.ntmps15
  go_wp2_with fail
  have hG0 : (w.alloc (.cells (gsArr n 0 (fun _ => .slice none 0 0)) 26)).heap[w.heap.size]? = some (.cells (gsArr n 0 (fun _ => .slice none 0 0)) 26 (0, 0)) := heap_alloc_new w _
  have hl0 : (w.alloc (.cells (gsArr n 0 (fun _ => .slice none 0 0)) 26)).heap[gl]? = some (.cells lcur 26 fr) := (Below.heap_alloc w _ gl hgl).trans hls
  have hA0 : Ap1 (w.alloc (.cells (gsArr n 0 (fun _ => .slice none 0 0)) 26)) base n A N C L := ⟨fun j hj => (h1.ob j hj).below (gr_alloc (gr_refl w) _), h1.len⟩
  have hb0 : Off (apS n A N C) w (w.alloc (.cells (gsArr n 0 (fun _ => .slice none 0 0)) 26)) := (Off.refl _ w).alloc _
  generalize w.alloc (.cells (gsArr n 0 (fun _ => .slice none 0 0)) 26) = w0 at *
  generalize hGe : w.heap.size = G at *
  have HGE := Lib.hid hGe
  clear h1 hls mk hGe
  go_loopw [4, 5] (fun p _q wr => ∃ (k : Nat) (L : Nat → List UInt8), k ≤ n ∧ p = .int .i64 k ∧ Hid (Ap1 wr base n A N C L) ∧ Hid (∀ j, j < k → L j = marks j (N j)) ∧ Hid (wr.heap[gl]? = some (.cells lcur 26 fr)) ∧
    Hid (wr.heap[G]? = some (.cells (gsArr n 0 (fun _ => .slice none 0 0)) 26 (0, 0))) ∧ Off (apS n A N C) w wr) (fun p _ _ => n - (intOf p).toNat)
  case atStart => exact ⟨0, L, Nat.zero_le _, rfl, Lib.hid hA0, Lib.hid (fun j hj => by omega), Lib.hid hl0, Lib.hid hG0, hb0⟩
  case round =>
    clear hA0 hl0 hG0 hb0
    obtain ⟨k, L, hk, rfl, HAP, HM, HL, HG, hb⟩ := hrel
    by_cases hlt : k < n
    · have t1 : decide ((k : Int) < (n : Int)) = true := by simp; omega
      have t1' : decide (k < n) = true := by simp; omega
      go_wp2_with fail
      obtain ⟨wo, hwo⟩ : ∃ wo : World, wo = wr := ⟨_, rfl⟩
      subst hwo
      go_loopw [5] (fun q wr => ∃ (i : Nat) (L : Nat → List UInt8), i ≤ N k ∧ q = .int .i64 i ∧ Hid (Ap1 wr base n A N C L) ∧ Hid (∀ j, j < k → L j = marks j (N j)) ∧ Hid ((L k).take i = marks k i) ∧ Hid (wr.heap[gl]? = some (.cells lcur 26 fr)) ∧
        Hid (wr.heap[G]? = some (.cells (gsArr n 0 (fun _ => .slice none 0 0)) 26 (0, 0))) ∧ Off (apS n A N C) w wr) (fun q _ => N k - (intOf q).toNat)
      case atStart => exact ⟨0, L, Nat.zero_le _, rfl, HAP, HM, Lib.hid rfl, HL, HG, hb⟩
      case round =>
        clear HAP HM HL HG hb L
        obtain ⟨i, L, hi, rfl, HAP, HM, HT, HL, HG, hb⟩ := hrel
        have hNk := HN.out k hlt
        have cV := HLS.out wr HL.out k hlt
        unfold apV at cV
        by_cases hlt2 : i < N k
        · obtain ⟨g, eA, hc1, hc2, hbg⟩ := obA_some (HAP.out.ob k hlt) (HAP.out.len k hlt) (by omega)
          have hob : OB wr base (.slice (some ⟨g, 0, none⟩) (N k) (C k)) (L k) := by have := HAP.out.ob k hlt; unfold apV at this; rw [eA] at this; exact this
          have c1 := obn_cell hob (HAP.out.len k hlt) (j := i) hlt2
          have z1 := obn_frozen hob (HAP.out.len k hlt) i
          rw [eA] at cV
          have hgG : g ≠ G := fun e => ob_ne hob HG.out (by decide) (by simp [Value.ownBlock, e])
          have hggl : g ≠ gl := fun e => ob_ne hob HL.out (by decide) (by simp [Value.ownBlock, e])
          have HAP' := Lib.hid (HAP.out.set HD.out (i := i) hlt eA (mkB k i))
          have HM' : Hid (∀ j, j < k → (if j = k then (L k).set i (mkB k i) else L j) = marks j (N j)) := Lib.hid (fun j hj => by rw [if_neg (by omega)]; exact HM.out j hj)
          have HT' : Hid ((if k = k then (L k).set i (mkB k i) else L k).take (i + 1) = marks k (i + 1)) := Lib.hid (by rw [if_pos rfl]; exact take_set_succ (by rw [HAP.out.len k hlt]; exact hlt2) HT.out)
          have HL' : Hid ((wr.setCell ⟨g, i, none⟩ (bv (mkB k i))).heap[gl]? = some (.cells lcur 26 fr)) := Lib.hid ((Below.heap_setCell _ _ _ gl (Ne.symm hggl)).trans HL.out)
          have HG' : Hid ((wr.setCell ⟨g, i, none⟩ (bv (mkB k i))).heap[G]? = some (.cells (gsArr n 0 (fun _ => .slice none 0 0)) 26 (0, 0))) := Lib.hid ((Below.heap_setCell _ _ _ G (Ne.symm hgG)).trans HG.out)
          have hb' : Off (apS n A N C) w (wr.setCell ⟨g, i, none⟩ (bv (mkB k i))) := hb.setCell (g := g) (j := i) _ ⟨k, hlt, by unfold apV; rw [eA]; rfl⟩
          unfold bv at HAP' HL' HG' hb'
          have hi0' : (0 : Int) ≤ (k : Int) := Int.natCast_nonneg _
          have hi1' : (k : Int) < (n : Int) := by omega
          generalize (((L k).getD i 0).toNat : Int) = y0 at *
          clear HAP HM HT HL HG hb hob hgG hggl
          go_wp2_with fail
          go_region_with (go_at_call 41; refine (markByte_any k i _).mono ?_; rintro e w' ⟨rfl, rfl⟩)
          all_goals
            go_wp2_with fail
            go_roundw
            case rel => exact ⟨i + 1, _, by omega, by go_num, Lib.hid ⟨fun j hj => HAP'.out.ob j hj, HAP'.out.len⟩, HM', Lib.hid (by simpa using HT'.out), Lib.hid HL'.out, Lib.hid HG'.out, hb'.drewN 1⟩
            case measure => simp [intOf]; omega
        · obtain rfl : i = N k := by omega
          have HM' : Hid (∀ j, j < k + 1 → L j = marks j (N j)) := Lib.hid (fun j hj => by
            by_cases e : j = k
            · subst e
              have := HT.out
              rwa [List.take_of_length_le (Nat.le_of_eq (HAP.out.len j hlt))] at this
            · exact HM.out j (by omega))
          clear HM HT
          go_wp2_with fail
          go_roundw
          case rel => exact ⟨k + 1, L, by omega, by go_num, HAP, HM', HL, HG, hb⟩
          case measure => simp [intOf]; omega
    · obtain rfl : k = n := by omega
      have H3 : Hid (Ap3 wr base k A N C 0 (fun _ => .slice none 0 0)) := Lib.hid ⟨fun j _ hj => by have := HAP.out.ob j hj; rw [HM.out j hj] at this; exact this, fun j hj => by omega, fun j hj => by omega, fun j hj => by omega⟩
      clear HAP HM
      go_wp2_with fail
      obtain ⟨wo, hwo⟩ : ∃ wo : World, wo = wr := ⟨_, rfl⟩
      subst hwo
      go_loopw [6, 7, 8] (fun p _g _q wr => ∃ (m : Nat) (Gv : Nat → Value), m ≤ k ∧ p = .int .i64 m ∧ Hid (Ap3 wr base k A N C m Gv) ∧ Hid (wr.heap[gl]? = some (.cells lcur 26 fr)) ∧
        Hid (wr.heap[G]? = some (.cells (gsArr k m Gv) 26 (0, 0))) ∧ Off (apS k A N C) w wr) (fun p _ _ _ => k - (intOf p).toNat)
      case atStart => exact ⟨0, _, Nat.zero_le _, rfl, H3, HL, HG, hb⟩
      case round =>
        clear H3 HL HG hb
        obtain ⟨m, Gv, hm, rfl, H3, HL, HG, hb⟩ := hrel
        by_cases hlt : m < k
        · have t1 : decide ((m : Int) < (k : Int)) = true := by simp; omega
          have t1' : decide (m < k) = true := by simp; omega
          have hNm := HN.out m hlt
          have cV := HLS.out wr HL.out m hlt
          unfold apV at cV
          go_wp2_with fail
          obtain ⟨wk, hwk⟩ : ∃ wk : World, wk = wr := ⟨_, rfl⟩
          subst hwk
          have hobk := H3.out.old m (Nat.le_refl _) hlt
          have hbsz : base ≤ wk.heap.size := by have := HGE.out; have := hb.size; omega
          go_loopw [7, 8] (fun g q wr => ∃ (j : Nat), j ≤ 40 ∧ q = .int .i64 j ∧ Hid (OB wr base g (marks m (N m + j))) ∧ Hid (BR wr (A m) (N m) (marks m (N m))) ∧ Hid (wk.grownBy wr (apV A N C m).ownBlock) ∧
            Hid (g.ownBlock = (apV A N C m).ownBlock ∨ ∃ b, g.ownBlock = some b ∧ wk.heap.size ≤ b) ∧ Off (apS k A N C) w wr) (fun _ q _ => 40 - (intOf q).toNat)
          case atStart => exact ⟨0, by omega, rfl, Lib.hid hobk, Lib.hid (obBR hobk (marks_len _ _)), Lib.hid (World.grownBy.refl wk _), Lib.hid (.inl rfl), hb⟩
          case round =>
            obtain ⟨j, hj, rfl, HO, HB, HGR, HBL, hbj⟩ := hrel
            have hl2 : Hid (wr.heap[gl]? = some (.cells lcur 26 fr)) := Lib.hid ((HGR.out.block gl (Array.getElem?_eq_some_iff.1 HL.out).1 (fun e => ob_ne hobk HL.out (by decide) e.symm)).trans HL.out)
            have cV := HLS.out wr hl2.out m hlt
            unfold apV at cV
            by_cases hlt2 : j < 40
            · have t2 : decide ((j : Int) < 40) = true := by simp; omega
              have hw1 : IntKind.i64.wrap ((N m : Int) + (j : Int)) = ((N m + j : Nat) : Int) := by rw [IntKind.wrap_i64]; omega
              have hml := marks_len m (N m + j)
              have ho2 := HO.out
              unfold OB at ho2
              rw [hml] at ho2
              have HO2 := Lib.hid ho2
              clear hml HO ho2
              obtain ⟨Ag, cg, rfl, _, _⟩ := own_form HO2.out
              have hmx : N m + j + 1 ≤ maxLen := by simp only [maxLen]; omega
              have hszj : base ≤ wr.heap.size + 1 := by have := HGR.out.size; omega
              have HR1 : ∀ W : World, Rd (W.alloc (.cells #[.int .u8 ((mkB m (N m + j)).toNat : Int)] 5)) 1 (some ⟨W.heap.size, 0, none⟩) 1 [bv (mkB m (N m + j))] := fun W => Rd.new W _ #[_] 1 1 rfl
              have HR := Lib.hid HR1
              have HFIN : Hid (∀ (v4 : Value) (w4 : World), w4.ownsRow base 5 1 v4 (N m + j + 1) ((marks m (N m + j)).map bv ++ [bv (mkB m (N m + j))]) → (wr.alloc (.cells #[.int .u8 ((mkB m (N m + j)).toNat : Int)] 5)).grownBy w4 (Value.slice Ag (N m + j) cg).ownBlock →
                  (v4.ownBlock = (Value.slice Ag (N m + j) cg).ownBlock ∨ (v4.ownBlock = some (wr.heap.size + 1) ∧ (wr.alloc (.cells #[.int .u8 ((mkB m (N m + j)).toNat : Int)] 5)).grownBy w4 none)) → OB w4 base v4 (marks m (N m + (j + 1))) ∧ BR w4 (A m) (N m) (marks m (N m)) ∧ wk.grownBy w4 (apV A N C m).ownBlock ∧
                  (v4.ownBlock = (apV A N C m).ownBlock ∨ ∃ b, v4.ownBlock = some b ∧ wk.heap.size ≤ b) ∧ Off (apS k A N C) w w4) := Lib.hid (by
                intro v4 w4 hown4 hg4 hbl4
                have hnew : wk.heap.size ≤ wr.heap.size := HGR.out.size
                have hobk : OB wk base (apV A N C m) (marks m (N m)) := H3.out.old m (Nat.le_refl _) hlt
                have hgr : wr.grownBy w4 (Value.slice Ag (N m + j) cg).ownBlock := ⟨hg4.os, hg4.tape, hg4.output, Nat.le_trans (by simp) hg4.size, fun b hb hne => (hg4.block b (by simp; omega) hne).trans (Below.heap_alloc wr _ b hb)⟩
                have hgr2 : wk.grownBy w4 (apV A N C m).ownBlock := by
                  refine ⟨by rw [hgr.os, HGR.out.os], by rw [hgr.tape, HGR.out.tape], by rw [hgr.output, HGR.out.output], Nat.le_trans hnew hgr.size, fun b hb hne => ?_⟩
                  rw [hgr.block b (by omega) ?_, HGR.out.block b hb hne]
                  rcases HBL.out with e | ⟨b', e, hb'⟩
                  · rw [e]; exact hne
                  · rw [e]; intro e2; injection e2 with e2; omega
                have e40 : marks m (N m + (j + 1)) = marks m (N m + j) ++ [mkB m (N m + j)] := by rw [← marks_succ]; rfl
                have ho4 : OB w4 base v4 (marks m (N m + (j + 1))) := OB.of_own hown4 (by rw [e40, List.map_append]; rfl)
                refine ⟨ho4, ?_, hgr2, ?_, ?_⟩
                · rcases Nat.eq_zero_or_pos (N m) with h0 | h0
                  · rw [h0]; exact BR.none_ _ _
                  · obtain ⟨ga, eA, hc1, hc2, hbg⟩ := obA_some hobk (marks_len _ _) h0
                    rcases hbl4 with e4 | e4
                    · rcases HBL.out with e | ⟨b', e, hb'⟩
                      · obtain ⟨A4, c4, rfl, hr4, _, _⟩ := ho4.formN (n := N m + (j + 1)) (marks_len _ _)
                        have : (Value.slice A4 (N m + (j + 1)) c4).ownBlock = some ga := by rw [e4, e]; unfold apV; rw [eA]; rfl
                        have hA4 : A4 = some ⟨ga, 0, none⟩ := by
                          rcases ho4.2 with ⟨e5, _⟩ | ⟨g5, cap5, cur5, e5, _⟩
                          · cases e5
                          · injection e5 with e6
                            subst e6
                            have h6 : g5 = ga := by simpa [Value.ownBlock] using this
                            rw [h6]
                        rw [eA, ← hA4]
                        have := hr4.pre (j := N m) (by omega)
                        rwa [marks_take _ _ _ (by omega)] at this
                      · refine HB.out.grown hgr fun ad ea e2 => ?_
                        rw [e] at e2
                        rw [eA] at ea
                        cases ea
                        injection e2 with e2
                        have := (hobk.lt ga (by unfold apV; rw [eA]; rfl)).2
                        dsimp only at e2
                        omega
                    · exact (HB.out.below (gr_alloc (gr_refl wr) _)).grown e4.2 (fun _ _ => by simp)
                · rcases hbl4 with e4 | e4
                  · rw [e4]; exact HBL.out
                  · exact .inr ⟨_, e4.1, by omega⟩
                · exact hb.trans (Off.of_grown hgr2 (fun b e => ⟨m, hlt, e⟩)))
              clear HB HBL
              go_wp2_with fail
              refine (markByte_of m (N m + j) _ (by simp) _).mono ?_
              rintro e w' ⟨rfl, rfl⟩
              go_wp2_with (at_builtin; refine wpList_append_Rd _ rfl (.tmp 52) (.tmp 62) _ rfl base 5 i0 _ 1 1 Try.underlying26 hi0 hz0 hz1 hz2 rfl (.slice Ag (N m + j) cg) (N m + j) _ rfl (HO2.out.alloc _) (some ⟨wr.heap.size, 0, none⟩) 1 1 [bv (mkB m (N m + j))] rfl (HR.out _) (by simp [Value.oneCell', bv]) (by omega) hmx (by rw [World.size_alloc]; exact hszj) ?_; intro v4 w4 hown4 hg4 _ hbl4; obtain ⟨k1, k2, k3, k4, k5⟩ := HFIN.out v4 w4 hown4 hg4 (by rw [World.size_alloc] at hbl4; exact hbl4))
              go_roundw
              case rel => exact ⟨j + 1, by omega, by go_num, Lib.hid k1, Lib.hid k2, Lib.hid k3, Lib.hid k4, k5⟩
              case measure => simp [intOf]; omega
            · obtain rfl : j = 40 := by omega
              have t2 : decide (((40 : Nat) : Int) < 40) = false := by simp
              have HGb : Hid (wr.heap[G]? = some (.cells (gsArr k m Gv) 26 (0, 0))) := Lib.hid ((HGR.out.block G (Array.getElem?_eq_some_iff.1 HG.out).1 (fun e => ob_ne hobk HG.out (by decide) e.symm)).trans HG.out)
              obtain ⟨Ag, cg, eg, _, _⟩ := own_form HO.out
              rw [marks_len] at eg
              subst eg
              have H4 := Lib.hid (H3.out.step HD.out hlt HGR.out HO.out HB.out HBL.out)
              have hcG : wr.cell? ⟨G, m, none⟩ = some (.slice none 0 0) := by
                rw [cell_of_row wr G m _ _ _ HGb.out, gs_get k m Gv m hlt, if_neg (by omega)]
              have hfG : wr.frozen? ⟨G, m, none⟩ = false := by simp [World.frozen?, HGb.out]
              have hGw : w.heap.size = G := HGE.out
              have HA5 : Hid (∀ j, j < k → ∀ ad, A j = some ad → ad.block ≠ G) := Lib.hid (fun j hj ad ea => by have := HA.out j hj ad ea; omega)
              have H5 := Lib.hid (H4.out.other (w' := wr.setCell ⟨G, m, none⟩ (.slice Ag (N m + 40) cg)) (by omega) (grown_set wr G m _) HGb.out (by decide) HA5.out)
              have HG5 : Hid ((wr.setCell ⟨G, m, none⟩ (.slice Ag (N m + 40) cg)).heap[G]? = some (.cells (gsArr k (m + 1) (fun j => if j = m then .slice Ag (N m + 40) cg else Gv j)) 26 (0, 0))) := Lib.hid (by
                rw [← gs_set k m Gv _ hlt]
                simp only [World.setCell, Array.getElem?_modify, if_pos, HGb.out]
                simp)
              have HL5 : Hid ((wr.setCell ⟨G, m, none⟩ (.slice Ag (N m + 40) cg)).heap[gl]? = some (.cells lcur 26 fr)) := Lib.hid ((Below.heap_setCell _ _ _ gl (by dsimp only; omega)).trans hl2.out)
              have hb5 : Off (apS k A N C) w (wr.setCell ⟨G, m, none⟩ (.slice Ag (N m + 40) cg)) := hbj.setNewB _ (Nat.le_of_eq hGw)
              clear H3 H4 HO HB HGR HBL HG HGb hGw hobk HL hl2
              go_wp2_with fail
              go_roundw
              case rel => exact ⟨m + 1, _, by omega, by go_num, H5, HL5, HG5, hb5⟩
              case measure => simp [intOf]; omega
        · obtain rfl : m = k := by omega
          have t1 : decide ((m : Int) < (m : Int)) = false := by simp
          go_wp2_with fail
          obtain ⟨wz, hwz⟩ : ∃ wz : World, wz = wr := ⟨_, rfl⟩
          subst hwz
          go_loopw [9, 10] (fun p _q wr => ∃ (r q : Nat), r ≤ m ∧ p = .int .i64 r ∧ Hid (wr = wz.drewN q)) (fun p _ _ => m - (intOf p).toNat)
          case atStart => exact ⟨0, 0, Nat.zero_le _, rfl, Lib.hid rfl⟩
          case round =>
            obtain ⟨r, q, hr, rfl, HW⟩ := hrel
            by_cases hlt : r < m
            · have t1 : decide ((r : Int) < (m : Int)) = true := by simp; omega
              have t1' : decide (r < m) = true := by simp; omega
              have hNm := HN.out r hlt
              obtain ⟨Ag, cg, eg, hrg, hcg1, hcg2⟩ := (H3.out.own r hlt).formN (marks_len _ _)
              have hrv := H3.out.rd r hlt
              have cV0 : wz.cell? ⟨gl, r, none⟩ = some (.slice (A r) (N r) (C r)) := HLS.out wz HL.out r hlt
              have cG0 : wz.cell? ⟨G, r, none⟩ = some (.slice Ag (N r + 40) cg) := by
                rw [cell_of_row wz G r _ _ _ HG.out, gs_get m m Gv r hlt, if_pos hlt, eg]
              have HCV := Lib.hid cV0
              have HCG := Lib.hid cG0
              have HRG := Lib.hid hrg
              have HRV := Lib.hid hrv
              clear eg hrg hrv cV0 cG0
              go_wp2_with fail
              obtain ⟨wy, hwy⟩ : ∃ wy : World, wy = wr := ⟨_, rfl⟩
              subst hwy
              go_loopw [10] (fun p wr => ∃ (i q : Nat), i ≤ N r + 40 ∧ p = .int .i64 i ∧ Hid (wr = wz.drewN q)) (fun p _ => N r + 40 - (intOf p).toNat)
              case atStart => exact ⟨0, q, Nat.zero_le _, rfl, HW⟩
              case round =>
                clear HW
                obtain ⟨i, q, hi, rfl, HW⟩ := hrel
                have cV : wr.cell? ⟨gl, r, none⟩ = some (.slice (A r) (N r) (C r)) := by rw [HW.out]; exact HCV.out
                have cG : wr.cell? ⟨G, r, none⟩ = some (.slice Ag (N r + 40) cg) := by rw [HW.out]; exact HCG.out
                by_cases hlt2 : i < N r + 40
                · have t2 : decide ((i : Int) < (N r : Int) + 40) = true := by simp; omega
                  have rg : BR wr Ag (N r + 40) (marks r (N r + 40)) := by rw [HW.out]; exact HRG.out
                  obtain ⟨ga, oa, rfl, cb⟩ := rg.at_ (k := i) hlt2
                  rw [marks_get _ _ _ hlt2] at cb
                  have HMK := Lib.hid (markByte_any r i)
                  by_cases hlt3 : i < N r
                  · have t3 : decide ((i : Int) < (N r : Int)) = true := by simp; omega
                    have t3' : decide (i < N r) = true := by simp; omega
                    have rv : BR wr (A r) (N r) (marks r (N r)) := by rw [HW.out]; exact HRV.out
                    obtain ⟨gv, ov, eA, cc⟩ := rv.at_ (k := i) hlt3
                    rw [marks_get _ _ _ hlt3] at cc
                    rw [eA] at cV
                    generalize ((mkB r i).toNat : Int) = y at *
                    clear rv rg eA
                    go_wp2_with fail
                    go_quiet ((go_at_call 41; exact Calls.quiet_of_same ((HMK.out _).mono (fun _ _ h => ⟨h.1, h.2.symm⟩))))
                    go_wp2_with fail
                    go_roundw
                    case rel => exact ⟨i + 1, q + nq, by omega, by go_num, Lib.hid (by rw [HW.out, World.drewN_drewN])⟩
                    case measure => simp [intOf]; omega
                  · have t3 : decide ((i : Int) < (N r : Int)) = false := by simp; omega
                    have t3' : decide (i < N r) = false := by simp; omega
                    generalize ((mkB r i).toNat : Int) = y at *
                    clear rg
                    go_wp2_with fail
                    go_quiet ((go_at_call 41; exact Calls.quiet_of_same ((HMK.out _).mono (fun _ _ h => ⟨h.1, h.2.symm⟩))))
                    go_wp2_with fail
                    go_roundw
                    case rel => exact ⟨i + 1, q + nq, by omega, by go_num, Lib.hid (by rw [HW.out, World.drewN_drewN])⟩
                    case measure => simp [intOf]; omega
                · obtain rfl : i = N r + 40 := by omega
                  go_wp2_with fail
                  go_roundw
                  case rel => exact ⟨r + 1, q, by omega, by go_num, HW⟩
                  case measure => simp [intOf]; omega
            · obtain rfl : r = m := by omega
              go_wp2_with fail
              go_ret
              exact ⟨rfl, by rw [HW.out]; exact hb.drewN q⟩

end Go.Proofs.Ytmdgnjmhbjdlmaa

/-! DkM -/
namespace Go.Proofs.Ytmdgnjmhbjdlmaa
open Go.RowKit

section
variable {ok ok' : Nat → Prop} {w w' : World} {u : Value} {l : List UInt8} {base g dr dc : Nat} {F : Nat → Prop} {pv : Value} {dvs : List Value} {pvs : List (Int × Value)} {D : DiskS}
theorem BV.offO {S : Nat → Prop} (h : BV ok w u l) (ho : Off S w w') (hS : ∀ k, S k → ok k → False) : BV ok w' u l := by
  obtain ⟨hl, h | ⟨g, e, hB, hg⟩⟩ := h
  · exact ⟨hl, .inl h⟩
  · exact ⟨hl, .inr ⟨g, e, (ho.block g hB.lt (fun hs => hS g hs hg)).trans hB, hg⟩⟩
theorem BW.offO {S : Nat → Prop} (h : BW ok w u l) (ho : Off S w w') (hS : ∀ k, S k → ok k → False) : BW ok w' u l := by
  obtain ⟨hl, g, e, hB, hg⟩ := h
  exact ⟨hl, g, e, (ho.block g hB.lt (fun hs => hS g hs hg)).trans hB, hg⟩
theorem DK.offO {S : Nat → Prop} (h : DK w ok base g dr dc pv dvs pvs D) (ho : Off S w w') (hS : ∀ k, foot g dr pv k → ¬ S k) (hB : ∀ k, S k → ok k → False) : DK w' ok base g dr dc pv dvs pvs D :=
  ⟨h.db.off ho (hS g (.inl rfl)), ownsRow_off h.dur ho (fun k e => hS k (by cases e; exact .inr (.inl rfl))), ownsRow_off h.pen ho (fun k e => hS k (.inr (.inr e))), h.pl,
   fun i u l h1 h2 => (h.dv i u l h1 h2).offO ho hB, fun i q p h1 h2 => ⟨(h.pw i q p h1 h2).1, (h.pw i q p h1 h2).2.1, (h.pw i q p h1 h2).2.2.offO ho hB⟩, h.n1, h.n2, h.p1, h.p2, h.f1, h.f2, h.gb⟩
theorem IsD.offO {S : Nat → Prop} (h : IsD w ok base g F D) (ho : Off S w w') (hS : ∀ k, F k → ¬ S k) (hB : ∀ k, S k → ok k → False) : IsD w' ok base g F D := by
  obtain ⟨dr, dc, pv, dvs, pvs, hd, hF⟩ := h
  exact ⟨dr, dc, pv, dvs, pvs, hd.offO ho (fun k hk => hS k ((hF k).2 hk)) hB, hF⟩
/-- Only blocks that there are hold its bytes. -/
theorem IsD.sharp (h : IsD w ok base g F D) : IsD w (fun k => ok k ∧ k < w.heap.size) base g F D := h.mono (fun _ hk ho => ⟨ho, hk⟩)
end

/-- Bytes of 4096, read back. -/
theorem OB.full {w : World} {base : Nat} {v : Value} {l : List UInt8} (h : OB w base v l) (hl : l.length = 4096) : ∃ q c, v = .slice (some ⟨q, 0, none⟩) 4096 c ∧ base ≤ q ∧ q < w.heap.size ∧ c ≤ maxLen := by
  obtain ⟨A, c, rfl, hr, hc, hm⟩ := h.formN hl
  obtain ⟨q, rfl, _, _, hb⟩ := obA_some h hl (by omega)
  exact ⟨q, c, rfl, hb, (h.lt q rfl).2, hm⟩

end Go.Proofs.Ytmdgnjmhbjdlmaa

/-! DkN -/
namespace Go.Proofs.Ytmdgnjmhbjdlmaa
open Go.RowKit

/-- A block of 4096 bytes has been made. -/
def Fresh (w : World) (e : Ending) (w' : World) : Prop := ∃ L : List UInt8, L.length = 4096 ∧ e = .returned (.slice (some ⟨w.heap.size, 0, none⟩) 4096 4096) ∧ BB w' w.heap.size L ∧ Below w.heap.size w w'

theorem crash_all (bs : List (List UInt8)) (ps : List (Nat × List UInt8)) (n : Nat) : ∀ k, k ≤ n → k ≤ ps.length → crashTo (List.replicate n true) (-1) 0 bs ps k = carry bs (ps.take k)
  | 0, _, _ => rfl
  | k + 1, h1, h2 => by
    have ih := crash_all bs ps n k (by omega) (by omega)
    have hp : ps[k]? = some (ps.getD k (0, [])) := by
      rw [List.getD, List.getElem?_eq_getElem (by omega)]
      rfl
    unfold crashTo
    rw [ih, carry_snoc bs hp]
    unfold crash1
    rw [if_neg (by omega), if_pos]
    simp only [List.getD, List.getElem?_replicate]
    rw [if_pos (by omega)]
    rfl
theorem crash_none (bs : List (List UInt8)) (ps : List (Nat × List UInt8)) : ∀ k, crashTo [] (-1) 0 bs ps k = bs
  | 0 => rfl
  | k + 1 => by
    unfold crashTo
    rw [crash_none bs ps k]
    unfold crash1
    rw [if_neg (by omega), if_neg (by simp)]
theorem carry_at (ps : List (Nat × List UInt8)) : ∀ (bs : List (List UInt8)) (b : Nat), b < bs.length → (carry bs ps).getD b [] = lastL bs ps b := by
  induction ps with
  | nil => intro bs b _; rfl
  | cons p ps ih =>
    intro bs b hb
    have h := ih (bs.set p.1 p.2) b (by rw [List.length_set]; exact hb)
    have e1 : carry bs (p :: ps) = carry (bs.set p.1 p.2) ps := rfl
    have e2 : lastL bs (p :: ps) b = lastL (bs.set p.1 p.2) ps b := by
      unfold lastL
      rw [List.foldl_cons]
      congr 1
      simp only [List.getD, List.getElem?_set]
      by_cases e : p.1 = b
      · rw [if_pos e, if_pos e, if_pos (by omega)]
        rfl
      · rw [if_neg e, if_neg e]
    rw [e1, e2, h]

/-- What one disk does leaves another one. -/
theorem IsD.side {w w' : World} {ok ok2 : Nat → Prop} {base base2 g g2 : Nat} {F F2 : Nat → Prop} {D D2 : DiskS} (h2 : IsD w ok2 base2 g2 F2 D2) (h : IsD w ok base g F D) (ho : Off F w w') (hd : ∀ k, F k → F2 k → False) : IsD w' ok2 base2 g2 F2 D2 :=
  h2.off ho (fun k hk hf => hd k hf hk) h.foot_bytes

theorem trues_lr {w : World} {base n c : Nat} {A : Option Addr} (h : w.ownsRow base 4 1 (.slice A n c) n (List.replicate n (.bool true))) : LR w A n (List.replicate n true) := by
  have := own_rd h
  unfold LR
  rw [List.map_replicate]
  exact this

/-- Where a row of the call's own lies. -/
theorem own_at {w : World} {base n c : Nat} {A : Option Addr} {e : TypeId} {size : Nat} {xs : List Value} (h : w.ownsRow base e size (.slice A n c) n xs) {ad : Addr} (ea : A = some ad) : ∃ cur fr, w.heap[ad.block]? = some (.cells cur e fr) := by
  subst ea
  rcases h.2 with ⟨e, _⟩ | ⟨q, cap, cur, e, _, hq, _⟩
  · cases e
  · injection e with e
    injection e with e
    subst e
    exact ⟨_, _, hq⟩

end Go.Proofs.Ytmdgnjmhbjdlmaa

/-! StA -/
namespace Go.Proofs.Ytmdgnjmhbjdlmaa
open Go.RowKit

theorem OB.cells8 {w : World} {base : Nat} {A : Option Addr} {c v : Nat} (h : OB w base (.slice A 8 c) (leB v 8)) :
    ∃ g, A = some ⟨g, 0, none⟩ ∧ base ≤ g ∧ g < w.heap.size ∧ 8 ≤ c ∧ ∀ j, j < 8 → w.cell? ⟨g, j, none⟩ = some (.int .u8 ((leB v 8).getD j 0).toNat) := by
  have hl := h.lt
  rcases h.2 with ⟨e, h0⟩ | ⟨g, cap, cur, e, hb, hg, hn, hm, hc, ht⟩
  · rw [leB_length] at h0; cases h0
  · injection e with e1 e2 e3
    subst e1 e3
    refine ⟨g, rfl, hb, (Array.getElem?_eq_some_iff.1 hg).1, by rw [leB_length] at hn; exact hn, fun j hj => ?_⟩
    have := h.cells (g := g) rfl j (bv ((leB v 8).getD j 0)) (by rw [List.getElem?_map, List.getElem?_eq_getElem (by rw [leB_length]; exact hj)]; simp [List.getD, List.getElem?_eq_getElem (show j < (leB v 8).length by rw [leB_length]; exact hj)])
    rw [add_plain] at this
    exact this

theorem seal_list (a l : List UInt8) (n : Nat) (ha : a.length = 8) (hl : l.length = n) (hn : n ≤ 4080) :
    splice (splice (splice (List.replicate 4096 (0 : UInt8)) 0 a) 8 l) 4088 a = a ++ (l ++ List.replicate (4080 - n) 0) ++ a := by
  have e1 : splice (List.replicate 4096 (0 : UInt8)) 0 a = a ++ List.replicate 4088 0 := by
    unfold splice
    rw [List.take_zero, List.nil_append, ha, List.drop_replicate]
  have e2 : splice (a ++ List.replicate 4088 (0 : UInt8)) 8 l = a ++ (l ++ List.replicate (4088 - n) 0) := by
    unfold splice
    rw [List.take_left' ha, List.drop_append, List.drop_eq_nil_of_le (by omega), List.nil_append, List.drop_replicate, ha, hl]
    congr 3
    omega
  rw [e1, e2]
  have e3 : List.replicate (4088 - n) (0 : UInt8) = List.replicate (4080 - n) 0 ++ List.replicate 8 0 := by
    rw [List.replicate_append_replicate]; congr 1; omega
  rw [e3]
  have e4 : a ++ (l ++ (List.replicate (4080 - n) (0 : UInt8) ++ List.replicate 8 0)) = (a ++ (l ++ List.replicate (4080 - n) 0)) ++ List.replicate 8 0 := by simp only [List.append_assoc]
  have e5 : (a ++ (l ++ List.replicate (4080 - n) (0 : UInt8))).length = 4088 := by simp only [List.length_append, List.length_replicate]; omega
  rw [e4]
  unfold splice
  rw [List.take_left' e5, List.drop_eq_nil_of_le (by rw [List.length_append, e5, List.length_replicate]; omega), List.append_nil]

set_option maxHeartbeats 400000 in
set_option maxRecDepth 100000 in
theorem Seal_fits (A : Option Addr) (n c v : Nat) (l : List UInt8) (w : World) (ha : BR w A n l) (hn : n ≤ 4080) (hv : v < 18446744073709551616) :
    Calls Try.prog 62 #[.slice A n c, .int .u64 v] w fun e w' => ∃ r, e = .returned (.tuple #[r, .int .i64 0]) ∧ OB w' w.heap.size r (leB v 8 ++ (l ++ List.replicate (4080 - n) 0) ++ leB v 8) ∧ Below w.heap.size w w' := by
  have hn' : decide ((4080 : Int) < (n : Int)) = false := by simp; omega
  have HV := Lib.hid hv
  have mk := run_mk_bytes 4096 (by omega) 4096 rfl
  clear hv
  go_enter Try.func62, Try.ntmps62
  go_wp2_with fail
  refine (Add64_any none 0 0 [] w v (BR.none_ _ _) (by omega) HV.out).mono ?_
  rintro e w1 ⟨v1, rfl, ho1, hb1⟩
  rw [List.nil_append] at ho1
  obtain ⟨A1, c1, rfl, r1, hc1, hm1⟩ := ho1.formN (n := 8) (by rw [leB_length])
  obtain ⟨g, rfl, hg1, hg2, hg3, hcell⟩ := ho1.cells8
  obtain ⟨x0, x1, x2, x3, x4, x5, x6, x7, hx⟩ : ∃ x0 x1 x2 x3 x4 x5 x6 x7, leB v 8 = [x0, x1, x2, x3, x4, x5, x6, x7] := ⟨_, _, _, _, _, _, _, _, rfl⟩
  rw [hx] at hcell
  have k0 : w1.cell? ⟨g, 0, none⟩ = some (.int .u8 (x0.toNat : Int)) := hcell 0 (by omega)
  have k1 : w1.cell? ⟨g, 1, none⟩ = some (.int .u8 (x1.toNat : Int)) := hcell 1 (by omega)
  have k2 : w1.cell? ⟨g, 2, none⟩ = some (.int .u8 (x2.toNat : Int)) := hcell 2 (by omega)
  have k3 : w1.cell? ⟨g, 3, none⟩ = some (.int .u8 (x3.toNat : Int)) := hcell 3 (by omega)
  have k4 : w1.cell? ⟨g, 4, none⟩ = some (.int .u8 (x4.toNat : Int)) := hcell 4 (by omega)
  have k5 : w1.cell? ⟨g, 5, none⟩ = some (.int .u8 (x5.toNat : Int)) := hcell 5 (by omega)
  have k6 : w1.cell? ⟨g, 6, none⟩ = some (.int .u8 (x6.toNat : Int)) := hcell 6 (by omega)
  have k7 : w1.cell? ⟨g, 7, none⟩ = some (.int .u8 (x7.toNat : Int)) := hcell 7 (by omega)
  have HX := Lib.hid hx
  clear hcell hx
  have hAt := fun W => run_arrayAt (P := Try.prog) W 94 5 8 (some ⟨g, 0, none⟩) 8 c1 Try.underlying94 (by omega)
  go_upto_region 4 with fail
  have hm : BR (w1.alloc (.cells #[.int .u8 (x0.toNat : Int), .int .u8 (x1.toNat : Int), .int .u8 (x2.toNat : Int), .int .u8 (x3.toNat : Int), .int .u8 (x4.toNat : Int), .int .u8 (x5.toNat : Int), .int .u8 (x6.toNat : Int), .int .u8 (x7.toNat : Int)] 94)) (some ⟨w1.heap.size, 0, none⟩) 8 (leB v 8) := by
    rw [HX.out]
    exact BR.litAt _ _ _ _ _ _ rfl rfl rfl
  have hb2 := gr_alloc hb1 (.cells #[.int .u8 (x0.toNat : Int), .int .u8 (x1.toNat : Int), .int .u8 (x2.toNat : Int), .int .u8 (x3.toNat : Int), .int .u8 (x4.toNat : Int), .int .u8 (x5.toNat : Int), .int .u8 (x6.toNat : Int), .int .u8 (x7.toNat : Int)] 94)
  have hsz : w1.heap.size < (w1.alloc (.cells #[.int .u8 (x0.toNat : Int), .int .u8 (x1.toNat : Int), .int .u8 (x2.toNat : Int), .int .u8 (x3.toNat : Int), .int .u8 (x4.toNat : Int), .int .u8 (x5.toNat : Int), .int .u8 (x6.toNat : Int), .int .u8 (x7.toNat : Int)] 94)).heap.size := by simp
  clear k0 k1 k2 k3 k4 k5 k6 k7 hAt HX ho1 r1 hg1 hg2 hg3
  generalize (w1.alloc (.cells #[.int .u8 (x0.toNat : Int), .int .u8 (x1.toNat : Int), .int .u8 (x2.toNat : Int), .int .u8 (x3.toNat : Int), .int .u8 (x4.toNat : Int), .int .u8 (x5.toNat : Int), .int .u8 (x6.toNat : Int), .int .u8 (x7.toNat : Int)] 94)) = W2 at *
  generalize w1.heap.size = g6 at *
  clear hb1
  have hB := BB.zero W2 4096
  have hm3 := hm.alloc (.cells (zeroB 4096) 5)
  have hb3 := gr_alloc hb2 (.cells (zeroB 4096) 5)
  have hsz3 : W2.heap.size < (W2.alloc (.cells (zeroB 4096) 5)).heap.size := by simp
  have hge := hb2.size
  have hla : (leB v 8).length = 8 := leB_length v 8
  have hll := ha.len
  generalize hZ : List.replicate 4096 (0 : UInt8) = Z at hB
  have hZl : Z.length = 4096 := by rw [← hZ, List.length_replicate]
  generalize hE1 : splice Z 0 (leB v 8) = L1
  generalize hE2 : splice L1 8 l = L2
  generalize hE3 : splice L2 4088 (leB v 8) = L3
  have hl1 : L1.length = 4096 := by rw [← hE1, length_splice _ _ _ (by omega)]; exact hZl
  have hl2 : L2.length = 4096 := by rw [← hE2, length_splice _ _ _ (by omega)]; exact hl1
  have hl3 : L3.length = 4096 := by rw [← hE3, length_splice _ _ _ (by omega)]; exact hl2
  have c1' := run_copy_B (W2.alloc (.cells (zeroB 4096) 5)) 3 W2.heap.size 0 4096 4096 _ _ (some ⟨W2.heap.size, 0, none⟩) _ 8 8 8 hB hm3 rfl (fun _ => rfl) (by omega)
  rw [List.take_of_length_le (by omega), hE1] at c1'
  have hb4 := setB_below hb3 hge L1
  have hB4 := hB.set_ L1
  have hm4 := BR.put (g := W2.heap.size) hm3 (by rintro ad e; cases e; show g6 ≠ W2.heap.size; omega) L1
  have c2' := run_copy_B _ 3 W2.heap.size 8 4088 4088 _ _ (some ⟨W2.heap.size, 8, none⟩) A n c n hB4 (ha.below hb4) (Nat.min_eq_left (by omega)) (fun _ => rfl) (by omega)
  rw [List.take_of_length_le (by omega), hE2, setB_setB] at c2'
  have hb5 := setB_below hb3 hge L2
  have hB5 := hB.set_ L2
  have hm5 := BR.put (g := W2.heap.size) hm3 (by rintro ad e; cases e; show g6 ≠ W2.heap.size; omega) L2
  have c3' := run_copy_B _ 3 W2.heap.size 4088 8 8 _ _ (some ⟨W2.heap.size, 4088, none⟩) _ 8 8 8 hB5.drew hm5.drew rfl (fun _ => rfl) (by omega)
  rw [List.take_of_length_le (by omega), hE3, setB_drew, setB_setB] at c3'
  have hB6 := hB.set_ L3
  have hb6 := setB_below hb3 hge L3
  have hfin : leB v 8 ++ (l ++ List.replicate (4080 - n) 0) ++ leB v 8 = L3 := by
    rw [← hE3, ← hE2, ← hE1, ← hZ]
    exact (seal_list (leB v 8) l n hla hll hn).symm
  have HF := Lib.hid hfin
  have HZ := Lib.hid hl3
  clear hfin hl1 hl2 hl3 hE1 hE2 hE3 hZ hZl hla hll hB hB4 hB5 hm3 hm4 hm5 hm hb2 hb4 hb5 hsz hsz3
  go_wp2_with fail
  go_region
  go_wp2
  go_ret2
  refine ⟨_, rfl, ?_, hb6.drew⟩
  have := hB6.drew.own (base := w.heap.size) (by omega) (by rw [HZ.out]; simp [maxLen])
  rw [HF.out]
  rw [HZ.out] at this
  exact this


set_option maxHeartbeats 400000 in
theorem Seal_long (A : Option Addr) (n c v : Nat) (w : World) (hn : 4080 < n) (hn2 : n ≤ 9223372036854775807) :
    Calls Try.prog 62 #[.slice A n c, .int .u64 v] w fun e w' => e = .returned (.tuple #[.slice none 0 0, .int .i64 3]) ∧ w = w' := by
  go_enter Try.func62, Try.ntmps62
  go_wp2
  go_ret2
  exact ⟨rfl, rfl⟩

end Go.Proofs.Ytmdgnjmhbjdlmaa
