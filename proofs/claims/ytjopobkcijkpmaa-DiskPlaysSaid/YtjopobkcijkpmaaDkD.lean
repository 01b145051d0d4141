/-
  Contracts: disk's begun, New, Write.
-/
import Derived.Test.YtjopobkcijkpmaaDkC
namespace Go.Proofs.Ytjopobkcijkpmaa
open Go.RowKit

set_option maxHeartbeats 400000 in
theorem begun_any (A : Option Addr) (n c : Nat) (w : World) :
    Calls Try.prog 59 #[.slice A n c] w fun e w' => e = .returned (.pointer (some ⟨w.heap.size, 0, none⟩)) ∧ DB w' w.heap.size (.slice A n c) (.slice none 0 0) false (-1) (-1) 0 ∧ Below w.heap.size w w' := by
  have h1 : DB (w.alloc (.cells #[.pointer (some ⟨w.heap.size, 0, none⟩), .slice A n c, .slice none 0 0, .bool false, .int .i64 0, .int .i64 0, .int .i64 0] 83)) w.heap.size (.slice A n c) (.slice none 0 0) false 0 0 0 := heap_alloc_new w _
  have hb1 := gr_alloc (gr_refl w) (.cells #[.pointer (some ⟨w.heap.size, 0, none⟩), .slice A n c, .slice none 0 0, .bool false, .int .i64 0, .int .i64 0, .int .i64 0] 83)
  have HD := Lib.hid (disarm_any w.heap.size _ _ _ _ _ _ _ h1)
  go_enter Try.func59, Try.ntmps59
  go_wp2_with fail
  refine HD.out.mono ?_
  rintro e w2 ⟨⟨x, rfl⟩, h2, ho⟩
  go_wp2_with fail
  go_ret
  exact ⟨rfl, h2, hb1.trans (ho.below (fun k e => by omega) hb1.size)⟩

/-- A new disk. -/
def newD (n : Nat) : DiskS := ⟨List.replicate n zer, [], false, -1, -1, 0⟩

/-- So many nil lists. -/
def nils (n : Nat) : Array Value := madeCells #[.slice none 0 0] n
theorem nils_toList (n : Nat) : (nils n).toList = List.replicate n (.slice none 0 0) := by unfold nils; rw [toList_madeCells_one]

theorem info_lists : (Try.prog.info? 33).map (fun i => (i.zero, i.size, i.bytes)) = some (some (.slice none 0 0), 1, 24) := by kernel_rfl
theorem info_write : (Try.prog.info? 110).map (fun i => (i.zero, i.size, i.bytes)) = some (some (.agg #[.int .i64 0, .slice none 0 0]), 2, 32) := by kernel_rfl

theorem run_mk_nils (n : Nat) (hn : n ≤ 4398046511104) (x : Int) (hx : x = n) (u : World) :
    (Instr.makeSlice 31 (.int .i64 x) (.int .i64 x)).run Try.prog u = .ok (.slice (some ⟨u.heap.size, 0, none⟩) n n) (u.alloc (.cells (nils n) 33)) := by
  obtain ⟨i0, hi0, hz0, hz1, hz2⟩ := info_parts info_lists
  subst hx
  have h := run_make (P := Try.prog) u 31 33 i0 (.slice none 0 0) Try.underlying31 hi0 hz0 .i64 .i64 (n : Int) (n : Int) (by omega) (by omega) (by rw [hz2]; omega) (by omega)
  simpa [hz1, Value.cells, nils] using h

set_option maxHeartbeats 400000 in
theorem New_bad (n : Int) (w : World) (h : n < 1 ∨ 4096 < n) :
    Calls Try.prog 16 #[.int .i64 n] w fun e w' => e = .returned (.tuple #[.pointer none, .int .i64 2]) ∧ w = w' := by
  by_cases h1 : n < 1
  · have t1 : decide (n < 1) = true := by simpa using h1
    clear h
    go_enter Try.func16, Try.ntmps16
    go_wp2_with fail
    go_ret2
    exact ⟨rfl, rfl⟩
  · have t1 : decide (n < 1) = false := by simpa using h1
    have t2 : decide (4096 < n) = true := by simp; omega
    clear h
    go_enter Try.func16, Try.ntmps16
    go_wp2_with fail
    go_ret2
    exact ⟨rfl, rfl⟩

set_option maxHeartbeats 400000 in
theorem New_any (n : Nat) (w : World) (h1 : 1 ≤ n) (h2 : n ≤ 4096) :
    Calls Try.prog 16 #[.int .i64 n] w fun e w' => ∃ g F, e = .returned (.tuple #[.pointer (some ⟨g, 0, none⟩), .int .i64 0]) ∧ IsD w' (fun _ => False) w.heap.size g F (newD n) ∧ Below w.heap.size w w' := by
  have mk := run_mk_nils n (by omega) n rfl
  have t1 : decide ((n : Int) < 1) = false := by simp; omega
  have t2 : decide (4096 < (n : Int)) = false := by simp; omega
  have HB := Lib.hid (begun_any (some ⟨w.heap.size, 0, none⟩) n n (w.alloc (.cells (nils n) 33)))
  have hrow : (w.alloc (.cells (nils n) 33)).ownsRow w.heap.size 33 1 (.slice (some ⟨w.heap.size, 0, none⟩) n n) n (List.replicate n (.slice none 0 0)) := by
    refine ⟨by simp, .inr ⟨w.heap.size, n, nils n, rfl, Nat.le_refl _, heap_alloc_new w _, Nat.le_refl _, by simp only [maxLen]; omega, ?_, ?_⟩⟩
    · have := congrArg List.length (nils_toList n); simpa using this
    · rw [nils_toList]; simp
  have hb1 := gr_alloc (gr_refl w) (.cells (nils n) 33)
  go_enter Try.func16, Try.ntmps16
  go_wp2_with fail
  refine HB.out.mono ?_
  rintro e w2 ⟨rfl, hdb, hb2⟩
  go_wp2_with fail
  go_ret2
  have hl : (newD n).blocks.length = n := by simp [newD]
  refine ⟨_, foot (w.heap.size + 1) w.heap.size (.slice none 0 0), rfl, ⟨w.heap.size, n, .slice none 0 0, List.replicate n (.slice none 0 0), [], ⟨?_, ?_, ⟨rfl, .inl ⟨rfl, rfl⟩⟩, rfl, ?_, ?_, ?_, ?_, ?_, ?_, ?_, ?_, ?_⟩, fun k => Iff.rfl⟩, gr_trans hb1 hb2⟩
  · rw [hl]
    rw [World.size_alloc] at hdb
    exact hdb
  · rw [hl]
    exact World.ownsRow.kept hrow (row := none) ⟨hb2.os, hb2.tape, hb2.output, hb2.size, fun k hk _ => hb2.block k hk⟩ (.inr (by simp [Value.ownBlock]))
  · intro i u l hu hll
    have e1 : u = .slice none 0 0 := List.eq_of_mem_replicate (List.mem_of_getElem? hu)
    have e2 : l = zer := List.eq_of_mem_replicate (List.mem_of_getElem? (show (List.replicate n zer)[i]? = some l from hll))
    subst e1 e2
    exact ⟨zer_len, .inl ⟨rfl, rfl⟩⟩
  · intro i q p hq; simp at hq
  · rw [hl]; exact h1
  · rw [hl]; exact h2
  · exact Int.le_refl _
  · show (-1 : Int) ≤ _; omega
  · exact Int.le_refl _
  · show (-1 : Int) ≤ _; omega
  · show w.heap.size ≤ w.heap.size + 1; omega

/-- A disk behind an operation. -/
def opS (D : DiskS) : DiskS := { D with down := opD D.down D.power, power := opL D.down D.power, fault := opL D.down D.fault }
def opC (D : DiskS) : Int := opE D.down D.power D.fault D.wi

theorem opL_ge {dn : Bool} {n : Int} (h : -1 ≤ n) : -1 ≤ opL dn n := by
  unfold opL stL
  split
  · exact h
  · split <;> omega
theorem opL_le {dn : Bool} {n : Int} (h : n ≤ 9223372036854775807) : opL dn n ≤ 9223372036854775807 := by
  unfold opL stL
  split
  · exact h
  · split <;> omega

theorem DK.oper {w w' : World} {ok : Nat → Prop} {base g dr dc : Nat} {pv : Value} {dvs : List Value} {pvs : List (Int × Value)} {D : DiskS} (h : DK w ok base g dr dc pv dvs pvs D) (ho : Off (· = g) w w')
    (hdb : DB w' g (.slice (some ⟨dr, 0, none⟩) D.blocks.length dc) pv (opD D.down D.power) (opL D.down D.power) (opL D.down D.fault) D.wi) : DK w' ok base g dr dc pv dvs pvs (opS D) :=
  h.turn ho hdb rfl rfl (opL_ge h.p1) (opL_le h.p2) (opL_ge h.f1) (opL_le h.f2)

/-- Write: what it answers, and the disk then. -/
def writeE (D : DiskS) (b : Int) (n : Nat) : Int := if askE D b ≠ 0 then askE D b else if n ≠ 4096 then 2 else opC D
def writeD (D : DiskS) (b : Int) (m : List UInt8) : DiskS := if askE D b ≠ 0 ∨ m.length ≠ 4096 then D else if opC D ≠ 0 then opS D else { opS D with pending := D.pending ++ [(b.toNat, m)] }

theorem ask02 (D : DiskS) (b : Int) : askE D b = 0 ∨ askE D b = 2 := by unfold askE; split <;> simp
theorem ask_in {D : DiskS} {b : Int} (h0 : askE D b = 0) : 0 ≤ b ∧ b < (D.blocks.length : Int) := by
  unfold askE at h0
  split at h0
  · cases h0
  · omega

/-- A write has joined: what lies in memory behind it. -/
theorem DK.pushed {w1 w2 w4 : World} {ok : Nat → Prop} {base g dr dc nb bi : Nat} {pv v4 : Value} {dvs : List Value} {pvs : List (Int × Value)} {D : DiskS} {m : List UInt8} {o : Obj} (h : DK w1 ok base g dr dc pv dvs pvs D) (hb2 : Below w1.heap.size w1 w2) (hB : BB w2 nb m) (hnb : w1.heap.size ≤ nb)
    (hml : m.length = 4096) (hbi : bi < D.blocks.length) (hown4 : w4.ownsRow base 110 2 v4 (D.pending.length + 1) (wrs pvs ++ [.int .i64 (bi : Int), .slice (some ⟨nb, 0, none⟩) 4096 4096])) (hg4 : (w2.alloc o).grownBy w4 pv.ownBlock) :
    DB w4 g (.slice (some ⟨dr, 0, none⟩) D.blocks.length dc) pv D.down D.power D.fault D.wi ∧ DK (w4.setCell ⟨g, 2, none⟩ v4) (fun k => ok k ∨ w1.heap.size ≤ k) base g dr dc v4 dvs (pvs ++ [((bi : Int), .slice (some ⟨nb, 0, none⟩) 4096 4096)]) { D with pending := D.pending ++ [(bi, m)] } ∧
    Off (foot g dr pv) w1 (w4.setCell ⟨g, 2, none⟩ v4) := by
  have hpw : pv.ownBlock = none ∨ ∃ k, pv.ownBlock = some k := by cases pv.ownBlock <;> simp
  have o4 : Off (fun k => pv.ownBlock = some k) w1 w4 := (Off.of_below (gr_trans hb2 (gr_alloc (gr_refl w2) o))).trans (Off.of_grown hg4 (fun k e => e))
  have hS4 : ∀ k q, pv.ownBlock = some k → BB w1 k q → False := fun k q e => h.foot_bytes k q (.inr (.inr e))
  have db4 : DB w4 g (.slice (some ⟨dr, 0, none⟩) D.blocks.length dc) pv D.down D.power D.fault D.wi := h.db.off o4 h.ne_gp
  have o5 : Off (foot g dr pv) w1 (w4.setCell ⟨g, 2, none⟩ v4) := (o4.mono (fun k _ e => .inr (.inr e))).setCell _ (.inl rfl)
  have og : Off (· = g) w4 (w4.setCell ⟨g, 2, none⟩ v4) := (Off.refl _ w4).setCell _ rfl
  have hv4 : v4.ownBlock ≠ some g := by
    intro e
    rcases hown4.2 with ⟨rfl, _⟩ | ⟨q, cap, cur, rfl, _, hq, _⟩
    · simp [Value.ownBlock] at e
    · simp [Value.ownBlock] at e; subst e; exact cells_ne hq db4 (by decide)
  have hBn : BB w4 nb m := by
    have h2 : BB (w2.alloc o) nb m := hB.alloc o
    refine (hg4.block nb h2.lt (fun e => ?_)).trans h2
    have := (h.foot_lt nb (.inr (.inr e.symm))).2
    omega
  have hB5 : ∀ {k : Nat} {q : List UInt8}, BB w4 k q → BB (w4.setCell ⟨g, 2, none⟩ v4) k q := fun {k q} hk => (og.block k hk.lt (fun e => by subst e; exact hk.ne db4 (by decide) rfl)).trans hk
  have hbv : ∀ {u : Value} {l : List UInt8}, BV ok w1 u l → BV (fun k => ok k ∨ w1.heap.size ≤ k) (w4.setCell ⟨g, 2, none⟩ v4) u l := by
    intro u l hu
    exact (hu.off o5 (fun k q hk => h.foot_bytes k q hk)).mono (fun k _ hk => .inl hk)
  refine ⟨db4, ⟨db4.s2 v4, ?_, ?_, ?_, fun i u l h1 h2 => hbv (h.dv i u l h1 h2), ?_, h.n1, h.n2, h.p1, h.p2, h.f1, h.f2, h.gb⟩, o5⟩
  · exact ownsRow_off (ownsRow_off h.dur o4 (fun k e e' => h.ne_dp (by cases e; exact e'))) og (fun k e => by cases e; exact Ne.symm h.ne_gd)
  · rw [wrs_append]
    show World.ownsRow _ base _ 2 v4 (D.pending ++ [(bi, m)]).length _
    rw [List.length_append]
    exact ownsRow_off hown4 og (fun k e e' => hv4 (by rw [e, e']))
  · rw [List.length_append, h.pl]
    show _ = (D.pending ++ [(bi, m)]).length
    rw [List.length_append]; rfl
  · intro i q p hq hp
    have hp' : (D.pending ++ [(bi, m)])[i]? = some p := hp
    rcases Nat.lt_or_ge i D.pending.length with hi | hi
    · rw [List.getElem?_append_left hi] at hp'
      rw [List.getElem?_append_left (by rw [h.pl]; exact hi)] at hq
      obtain ⟨a1, a2, a3⟩ := h.pw i q p hq hp'
      exact ⟨a1, a2, (a3.off o5 (fun k q hk => h.foot_bytes k q hk)).mono (fun k _ hk => .inl hk)⟩
    · rw [List.getElem?_append_right hi] at hp'
      rw [List.getElem?_append_right (by rw [h.pl]; exact hi), h.pl] at hq
      rcases Nat.eq_zero_or_pos (i - D.pending.length) with h0 | h0
      · rw [h0] at hp' hq
        simp only [List.getElem?_cons_zero, Option.some.injEq] at hp' hq
        subst hp' hq
        exact ⟨rfl, hbi, hml, nb, rfl, hB5 hBn, .inr hnb⟩
      · rw [List.getElem?_eq_none (by simp; omega)] at hp'
        cases hp'

set_option maxRecDepth 100000 in
set_option maxHeartbeats 2000000 in
theorem Write_any (w : World) (ok : Nat → Prop) (base g : Nat) (F : Nat → Prop) (D : DiskS) (b : Int) (A : Option Addr) (n c : Nat) (m : List UInt8) (h : IsD w ok base g F D) (hm : BR w A n m) (hA : ∀ ad, A = some ad → ¬ F ad.block) (hn : n ≤ 9223372036854775807) (hpl : D.pending.length ≤ 1000000) :
    Calls Try.prog 20 #[.pointer (some ⟨g, 0, none⟩), .int .i64 b, .slice A n c] w fun e w' => e = .returned (.int .i64 (writeE D b n)) ∧ DPost w ok base g F (writeD D b m) w' := by
  have HA := Lib.hid (asked_any w ok base g F D b h)
  have HML := Lib.hid hm.len
  have HSAME := Lib.hid (DPost.same h)
  rcases ask02 D b with h0 | h0
  · rw [h0] at HA
    by_cases hn4 : n = 4096
    · subst hn4
      obtain ⟨dr, dc, pv, dvs, pvs, hd, hF⟩ := h
      have HO := Lib.hid (operation_any g _ _ _ _ _ _ w hd.db hd.p1 hd.p2 hd.f1 hd.f2)
      have HE : Hid (writeE D b 4096 = opC D) := Lib.hid (by unfold writeE; rw [if_neg (by rw [h0]; simp), if_neg (by simp)])
      have HAsk := Lib.hid h0
      by_cases hop : opC D = 0
      · obtain ⟨hb0, hbl⟩ := ask_in h0
        obtain ⟨bi, rfl⟩ := Int.eq_ofNat_of_zero_le hb0
        have hbi : bi < D.blocks.length := by omega
        have HD : Hid (writeD D (bi : Int) m = { opS D with pending := D.pending ++ [(bi, m)] }) := Lib.hid (by
          unfold writeD
          rw [if_neg (by rw [h0, HML.out]; simp), if_neg (by rw [hop]; simp), Int.toNat_natCast])
        have hop' : opE D.down D.power D.fault D.wi = 0 := hop
        rw [hop'] at HO
        rw [hop] at HE
        obtain ⟨i1, hi1, hy0, hy1, hy2⟩ := info_parts info_write
        have hFg : ∀ ad, A = some ad → ad.block ≠ g := fun ad e e' => hA ad e ((hF _).2 (.inl e'))
        have HFG := Lib.hid hFg
        have HFF := Lib.hid hF
        have HDK := Lib.hid hd
        have HMM := Lib.hid hm
        obtain ⟨Ap, cp, rfl, _, _⟩ := own_form hd.pen
        clear hd hF hm hA h0 hop hop' hFg hb0 hbl HSAME
        go_enter Try.func20, Try.ntmps20
        go_wp2_with fail
        refine HA.out.mono ?_
        rintro e w' ⟨rfl, rfl⟩
        go_wp2_with fail
        refine HO.out.mono ?_
        rintro e w1 ⟨rfl, hdb1, ho1⟩
        have hd1 := HDK.out.oper ho1 hdb1
        have hm1 : BR w1.drew A 4096 m := ⟨HMM.out.1, fun h => by
          obtain ⟨ad, e, hc⟩ := HMM.out.2 h
          refine ⟨ad, e, fun j u hu => ?_⟩
          have := hc j u hu
          rw [← this]
          exact World.cell?_of_block (ho1.block _ (World.block_lt_of_cell? w _ this) (by rw [block_of_add]; exact HFG.out ad e))⟩
        have HWH := Lib.hid (whole_any A 4096 c m w1.drew hm1 (Nat.le_refl _))
        have HD1 := Lib.hid hd1
        have HDB1 := Lib.hid hdb1
        have hc2 : w1.drew.cell? ⟨g, 2, none⟩ = some (.slice Ap D.pending.length cp) := hdb1.c2
        have hpb : D.blocks.length = (opS D).blocks.length := rfl
        have HPEN : Hid (∀ w2 : World, Below w1.drew.heap.size w1.drew w2 → ∀ o : Obj, (w2.alloc o).ownsRow base 110 2 (.slice Ap D.pending.length cp) D.pending.length (wrs pvs)) := Lib.hid (fun w2 hb2 o => by
          have hb2' : Below w1.heap.size w1 w2 := ⟨hb2.os, hb2.tape, hb2.output, hb2.size, hb2.block⟩
          exact ownsRow_off hd1.pen (S := fun _ => False) (Off.of_below (gr_alloc hb2' o)) (fun _ _ h => h))
        have HC2 : Hid (∀ w2 : World, Below w1.drew.heap.size w1.drew w2 → w2.cell? ⟨g, 2, none⟩ = some (.slice Ap D.pending.length cp) ∧ ∀ o : Obj, (w2.alloc o).cell? ⟨g, 2, none⟩ = some (.slice Ap D.pending.length cp)) := Lib.hid (fun w2 hb2 => ⟨keep_of_below hb2 hdb1.c2, fun o => keep_of_below (gr_alloc hb2 o) hdb1.c2⟩)
        have HPUSH : Hid (∀ (w2 w4 : World) (v4 : Value) (o : Obj), BB w2 w1.drew.heap.size (splice zer 0 m) → Below w1.drew.heap.size w1.drew w2 → w4.ownsRow base 110 2 v4 (D.pending.length + 1) (wrs pvs ++ [.int .i64 (bi : Int), .slice (some ⟨w1.drew.heap.size, 0, none⟩) 4096 4096]) →
            (w2.alloc o).grownBy w4 (Value.slice Ap D.pending.length cp).ownBlock → (v4.ownBlock = (Value.slice Ap D.pending.length cp).ownBlock ∨ (v4.ownBlock = some (w2.alloc o).heap.size ∧ (w2.alloc o).grownBy w4 none)) →
            w4.cell? ⟨g, 2, none⟩ = some (.slice Ap D.pending.length cp) ∧ w4.frozen? ⟨g, 2, none⟩ = false ∧ DPost w ok base g F { opS D with pending := D.pending ++ [(bi, m)] } (w4.setCell ⟨g, 2, none⟩ v4)) := Lib.hid (by
          intro w2 w4 v4 o hB2 hb2 hown4 hg4 hbl
          have hb2' : Below w1.heap.size w1 w2 := ⟨hb2.os, hb2.tape, hb2.output, hb2.size, hb2.block⟩
          rw [splice_zer m HML.out] at hB2
          obtain ⟨db4, hk, ho5⟩ := DK.pushed hd1 hb2' hB2 (Nat.le_refl _) HML.out hbi hown4 hg4
          refine ⟨db4.c2, db4.frozen 2, (ho1.mono (fun k _ e => (HFF.out k).2 (.inl e))).trans (ho5.mono (fun k _ e => (HFF.out k).2 e)), foot g dr v4, ⟨dr, dc, v4, dvs, _, hk.mono (fun k _ h => h.imp id (fun h => Nat.le_trans ho1.size h)), fun k => Iff.rfl⟩, fun k hk => ?_⟩
          rcases hk with rfl | rfl | hk
          · exact .inl ((HFF.out _).2 (.inl rfl))
          · exact .inl ((HFF.out _).2 (.inr (.inl rfl)))
          · rcases hbl with e | ⟨e, _⟩
            · exact .inl ((HFF.out _).2 (.inr (.inr (by rw [← e]; exact hk))))
            · rw [e] at hk
              injection hk with hk
              rw [World.size_alloc] at hk
              have h1 := ho1.size
              have h2 := hb2'.size
              exact .inr (by omega))
        have hone : ∀ u ∈ [Value.int .i64 (bi : Int), .slice (some ⟨w1.drew.heap.size, 0, none⟩) 4096 4096], u.oneCell' = true := by
          intro u hu
          simp only [List.mem_cons, List.not_mem_nil, or_false] at hu
          rcases hu with rfl | rfl <;> rfl
        have HONE := Lib.hid hone
        have hmx : D.pending.length + 1 ≤ maxLen := by simp only [maxLen]; omega
        have HBS : Hid (∀ (w2 : World) (o : Obj), Below w1.drew.heap.size w1.drew w2 → base ≤ (w2.alloc o).heap.size) := Lib.hid (fun w2 o hb2 => by
          have h1 := hd1.gb
          have h2 := hd1.db.lt
          have h3 := hb2.size
          have h4 : w1.drew.heap.size = w1.heap.size := rfl
          rw [World.size_alloc]; omega)
        have HRD : Hid (∀ (w2 : World), Rd (w2.alloc (.cells #[.int .i64 (bi : Int), .slice (some ⟨w1.drew.heap.size, 0, none⟩) 4096 4096] 110)) 2 (some ⟨w2.heap.size, 0, none⟩) 1 [.int .i64 (bi : Int), .slice (some ⟨w1.drew.heap.size, 0, none⟩) 4096 4096]) := Lib.hid (fun w2 => Rd.new w2 _ #[_, _] 1 2 rfl)
        clear hdb1 hd1 hm1 HDK HMM hone
        generalize D.pending.length = np at *
        go_wp2_with fail
        go_region_law (first
          | (refine step_append_Rd _ rfl (.tmp 27) (.tmp 32) _ rfl base 110 i1 _ 2 32 Try.underlying76 hi1 hy0 hy1 hy2 rfl (.slice Ap np cp) np (wrs pvs) rfl (HPEN.out w2 hb2 _) (some ⟨w2.heap.size, 0, none⟩) 1 1 [.int .i64 (bi : Int), .slice (some ⟨w1.drew.heap.size, 0, none⟩) 4096 4096] rfl (HRD.out w2) HONE.out (by omega) hmx (HBS.out w2 _ hb2) ?_; intro v4 w4 hown4 hg4 _ hbl4; obtain ⟨k1, k2, k3⟩ := HPUSH.out w2 w4 v4 _ hB2 hb2 hown4 hg4 hbl4; obtain ⟨g4, c4, rfl⟩ := ownsRow_succ hown4)
          | (go_simp; go_at_call 63; refine HWH.out.mono ?_; rintro e w2 ⟨rfl, hB2, hb2⟩; obtain ⟨k5, k6⟩ := HC2.out w2 hb2))
        all_goals
          go_wp2_with fail
          go_ret
          exact ⟨ret_i HE.out.symm, by rw [HD.out]; exact k3⟩
      · have HD : Hid (writeD D b m = opS D) := Lib.hid (by
          unfold writeD
          rw [if_neg (by rw [h0, HML.out]; simp), if_pos hop])
        have t1 : (opC D != 0) = true := by rw [bne_iff_ne]; exact hop
        have HO2 : Hid (Calls Try.prog 61 #[.pointer (some ⟨g, 0, none⟩)] w fun e w' => e = .returned (.int .i64 (opC D)) ∧ DPost w ok base g F (opS D) w') := Lib.hid (HO.out.mono (by
          rintro e w' ⟨rfl, hdb, ho⟩
          exact ⟨rfl, ho.mono (fun k _ e => (hF k).2 (.inl e)), F, ⟨dr, dc, pv, dvs, pvs, (hd.oper ho hdb).mono (fun k _ h => .inl h), hF⟩, fun k h => .inl h⟩))
        clear hd hF hm hA h0 hop HO HSAME HAsk
        generalize opC D = oc at *
        go_enter Try.func20, Try.ntmps20
        go_wp2_with fail
        refine HA.out.mono ?_
        rintro e w' ⟨rfl, rfl⟩
        go_wp2_with fail
        refine HO2.out.mono ?_
        rintro e w1 ⟨rfl, hp⟩
        go_wp2_with fail
        go_ret
        exact ⟨ret_i HE.out.symm, by rw [HD.out]; exact hp⟩
    · have t1 : ((n : Int) != 4096) = true := by rw [bne_iff_ne]; omega
      have HE : Hid (writeE D b n = 2) := Lib.hid (by unfold writeE; rw [if_neg (by rw [h0]; simp), if_pos hn4])
      have HP : Hid (DPost w ok base g F (writeD D b m) w) := Lib.hid (by unfold writeD; rw [if_pos (.inr (by rw [HML.out]; exact hn4))]; exact HSAME.out)
      clear h h0 hn4
      go_enter Try.func20, Try.ntmps20
      go_wp2_with fail
      refine HA.out.mono ?_
      rintro e w' ⟨rfl, rfl⟩
      go_wp2_with fail
      go_ret
      exact ⟨ret_i HE.out.symm, HP.out⟩
  · have HE : Hid (writeE D b n = 2) := Lib.hid (by unfold writeE; rw [if_pos (by rw [h0]; simp), h0])
    have HP : Hid (DPost w ok base g F (writeD D b m) w) := Lib.hid (by unfold writeD; rw [if_pos (.inl (by rw [h0]; simp))]; exact HSAME.out)
    rw [h0] at HA
    clear h h0
    go_enter Try.func20, Try.ntmps20
    go_wp2_with fail
    refine HA.out.mono ?_
    rintro e w' ⟨rfl, rfl⟩
    go_wp2_with fail
    go_ret
    exact ⟨ret_i HE.out.symm, HP.out⟩

end Go.Proofs.Ytjopobkcijkpmaa
