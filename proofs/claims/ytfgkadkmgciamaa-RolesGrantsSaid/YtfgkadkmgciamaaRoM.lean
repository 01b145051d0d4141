/-
  Grants: alike; what a role may; the closures that are handed to the library.
-/
import Derived.Test.YtfgkadkmgciamaaRoL
namespace Go.Proofs.Ytfgkadkmgciamaa
open Go Go.RowKit

theorem cells5 {w : World} {b : Nat} {x : Gr} (h : w.heap[b]? = some (.cells #[.string ⟨x.tb.toArray⟩, .int .u8 x.pv, .string ⟨x.gt.toArray⟩, .string ⟨x.gb.toArray⟩, .bool x.op] 30 (0, 0))) : w.cell? ⟨b, 0, none⟩ = some (.string ⟨x.tb.toArray⟩) ∧ w.cell? ⟨b, 1, none⟩ = some (.int .u8 x.pv) ∧ w.cell? ⟨b, 2, none⟩ = some (.string ⟨x.gt.toArray⟩) ∧ w.cell? ⟨b, 3, none⟩ = some (.string ⟨x.gb.toArray⟩) ∧ w.cell? ⟨b, 4, none⟩ = some (.bool x.op) :=
  ⟨by rw [cell_of_row w b 0 _ _ _ h]; rfl, by rw [cell_of_row w b 1 _ _ _ h]; rfl, by rw [cell_of_row w b 2 _ _ _ h]; rfl, by rw [cell_of_row w b 3 _ _ _ h]; rfl, by rw [cell_of_row w b 4 _ _ _ h]; rfl⟩

set_option maxRecDepth 100000 in
set_option maxHeartbeats 2000000 in
theorem alike_any (a b : Gr) (w : World) : Calls Try.prog 40 #[.agg #[.string ⟨a.tb.toArray⟩, .int .u8 a.pv, .string ⟨a.gt.toArray⟩, .string ⟨a.gb.toArray⟩, .bool a.op], .agg #[.string ⟨b.tb.toArray⟩, .int .u8 b.pv, .string ⟨b.gt.toArray⟩, .string ⟨b.gb.toArray⟩, .bool b.op]] w fun e w' => e = .returned (.bool (alikeB a b)) ∧ Below w.heap.size w w' := by
  have HA := Lib.hid (gr_alloc (gr_refl w) (.cells #[.string ⟨a.tb.toArray⟩, .int .u8 a.pv, .string ⟨a.gt.toArray⟩, .string ⟨a.gb.toArray⟩, .bool a.op] 30))
  have HCA := Lib.hid (heap_alloc_new w (.cells #[.string ⟨a.tb.toArray⟩, .int .u8 a.pv, .string ⟨a.gt.toArray⟩, .string ⟨a.gb.toArray⟩, .bool a.op] 30))
  have HSA : Hid ((w.alloc (.cells #[.string ⟨a.tb.toArray⟩, .int .u8 a.pv, .string ⟨a.gt.toArray⟩, .string ⟨a.gb.toArray⟩, .bool a.op] 30)).heap.size = w.heap.size + 1) := Lib.hid (World.size_alloc _ _)
  obtain ⟨r, hr⟩ : ∃ r, r = alikeB a b := ⟨_, rfl⟩
  have HR := Lib.hid hr
  rw [← hr]
  clear hr
  go_enter Try.func40, Try.ntmps40
  go_upto_region 1 with fail
  generalize w.alloc (.cells #[.string ⟨a.tb.toArray⟩, .int .u8 a.pv, .string ⟨a.gt.toArray⟩, .string ⟨a.gb.toArray⟩, .bool a.op] 30) = w1 at *
  have HB := Lib.hid (gr_alloc (gr_refl w1) (.cells #[.string ⟨b.tb.toArray⟩, .int .u8 b.pv, .string ⟨b.gt.toArray⟩, .string ⟨b.gb.toArray⟩, .bool b.op] 30))
  have HCB := Lib.hid (heap_alloc_new w1 (.cells #[.string ⟨b.tb.toArray⟩, .int .u8 b.pv, .string ⟨b.gt.toArray⟩, .string ⟨b.gb.toArray⟩, .bool b.op] 30))
  have hs1 := HSA.out
  generalize hw2 : w1.alloc (.cells #[.string ⟨b.tb.toArray⟩, .int .u8 b.pv, .string ⟨b.gt.toArray⟩, .string ⟨b.gb.toArray⟩, .bool b.op] 30) = w2 at *
  rw [hs1] at *
  clear hw2
  obtain ⟨a0, a1, a2, a3, a4⟩ := cells5 ((HB.out.block w.heap.size (by rw [hs1]; omega)).trans HCA.out)
  obtain ⟨b0, b1, b2, b3, b4⟩ := cells5 HCB.out
  have h2a := (HB.out.block w.heap.size (by rw [hs1]; omega)).trans HCA.out
  have f4 : w2.frozen? ⟨w.heap.size, 4, none⟩ = false := by simp [World.frozen?, h2a]
  have h3 : (w2.setCell ⟨w.heap.size, 4, none⟩ (.bool b.op)).heap[w.heap.size]? = some (.cells #[.string ⟨a.tb.toArray⟩, .int .u8 a.pv, .string ⟨a.gt.toArray⟩, .string ⟨a.gb.toArray⟩, .bool b.op] 30 (0, 0)) := by
    simp only [World.setCell, Array.getElem?_modify, if_pos, h2a]
    rfl
  have ho := (Off.refl (· = w.heap.size) w2).setCell (g := w.heap.size) (j := 4) (.bool b.op) rfl
  have h3b := (ho.block (w.heap.size + 1) (Array.getElem?_eq_some_iff.1 HCB.out).1 (show ¬ (w.heap.size + 1 = w.heap.size) by omega)).trans HCB.out
  have HBB : Hid (Below w.heap.size w (w2.setCell ⟨w.heap.size, 4, none⟩ (.bool b.op))) := Lib.hid ((HA.out.trans (HB.out.mono (by rw [hs1]; omega))).trans (ho.below (fun k hk => by rw [hk]; exact Nat.le_refl _) (by have e1 := HB.out.size; have e2 := HA.out.size; omega)))
  have H3 := Lib.hid h3
  have H3B := Lib.hid h3b
  clear h2a h3 h3b ho HA HB HCA HCB HSA hs1
  go_upto_region 2 with fail
  generalize w2.setCell ⟨w.heap.size, 4, none⟩ (.bool b.op) = w3 at *
  clear a0 a1 a2 a3 a4 b0 b1 b2 b3 b4 f4
  obtain ⟨a0, a1, a2, a3, a4⟩ := cells5 (x := { a with op := b.op }) H3.out
  obtain ⟨b0, b1, b2, b3, b4⟩ := cells5 H3B.out
  have heq : ∀ W, Sem.run Try.prog (binOp .eql 30 (.agg #[.string ⟨a.tb.toArray⟩, .int .u8 a.pv, .string ⟨a.gt.toArray⟩, .string ⟨a.gb.toArray⟩, .bool b.op]) (.agg #[.string ⟨b.tb.toArray⟩, .int .u8 b.pv, .string ⟨b.gt.toArray⟩, .string ⟨b.gb.toArray⟩, .bool b.op])) W = .ok (.bool r) W := fun W => by
    have := run_eqlG { a with op := b.op } b W
    rw [HR.out]
    unfold alikeB
    simpa using this
  go_wp2_with fail
  go_ret
  exact ⟨rfl, HBB.out⟩

set_option maxRecDepth 100000 in
set_option maxHeartbeats 2000000 in
theorem mayGiveC (tb role : Str) (pv : Int) (bt bp br : Nat) (x : Gr) (w : World) (y0 : w.cell? ⟨bt, 0, none⟩ = some (.string ⟨tb.toArray⟩)) (y1 : w.cell? ⟨bp, 0, none⟩ = some (.int .u8 pv)) (y2 : w.cell? ⟨br, 0, none⟩ = some (.string ⟨role.toArray⟩)) :
    Calls Try.prog 54 #[.agg #[.string ⟨x.tb.toArray⟩, .int .u8 x.pv, .string ⟨x.gt.toArray⟩, .string ⟨x.gb.toArray⟩, .bool x.op], .pointer (some ⟨bt, 0, none⟩), .pointer (some ⟨bp, 0, none⟩), .pointer (some ⟨br, 0, none⟩)] w fun e w' => e = .returned (.bool (x.tb == tb && x.pv == pv && x.op && x.gt == role)) ∧ Below w.heap.size w w' := by
  obtain ⟨xt, xp, xg, xb, xo⟩ := x
  dsimp only
  have HA := Lib.hid (gr_alloc (gr_refl w) (.cells #[.string ⟨xt.toArray⟩, .int .u8 xp, .string ⟨xg.toArray⟩, .string ⟨xb.toArray⟩, .bool xo] 30))
  have HCA := Lib.hid (heap_alloc_new w (.cells #[.string ⟨xt.toArray⟩, .int .u8 xp, .string ⟨xg.toArray⟩, .string ⟨xb.toArray⟩, .bool xo] 30))
  obtain ⟨r0, hr0⟩ : ∃ r, r = (xt == tb) := ⟨_, rfl⟩
  have heq0 : ∀ W, Sem.run Try.prog (binOp .eql 9 (.string ⟨xt.toArray⟩) (.string ⟨tb.toArray⟩)) W = .ok (.bool r0) W := fun W => by rw [hr0]; exact run_eqlS _ _ _ W
  obtain ⟨r1, hr1⟩ : ∃ r, r = (xp == pv) := ⟨_, rfl⟩
  have heq1 : ∀ W, Sem.run Try.prog (binOp .eql 28 (.int .u8 xp) (.int .u8 pv)) W = .ok (.bool r1) W := fun W => by rw [hr1]; simp [binOp, Op.intCmp]
  obtain ⟨r2, hr2⟩ : ∃ r, r = (xg == role) := ⟨_, rfl⟩
  have heq2 : ∀ W, Sem.run Try.prog (binOp .eql 9 (.string ⟨xg.toArray⟩) (.string ⟨role.toArray⟩)) W = .ok (.bool r2) W := fun W => by rw [hr2]; exact run_eqlS _ _ _ W
  rw [← hr0, ← hr1, ← hr2]
  have t0 : (xt == tb) = r0 := hr0.symm
  have t1 : (xp == pv) = r1 := hr1.symm
  have t2 : (xg == role) = r2 := hr2.symm
  clear hr0 hr1 hr2
  go_enter Try.func54, Try.ntmps54
  go_upto_region 1 with fail
  generalize w.alloc (.cells #[.string ⟨xt.toArray⟩, .int .u8 xp, .string ⟨xg.toArray⟩, .string ⟨xb.toArray⟩, .bool xo] 30) = w1 at *
  obtain ⟨c0, c1, c2, c3, c4⟩ := cells5 (x := ⟨xt, xp, xg, xb, xo⟩) HCA.out
  dsimp only at c0 c1 c2 c3 c4
  have y0 := keep_of_below HA.out y0
  have y1 := keep_of_below HA.out y1
  have y2 := keep_of_below HA.out y2
  cases r0 <;> cases r1 <;> cases r2 <;> cases xo
  all_goals
    go_wp2_with fail
    go_ret
    exact ⟨rfl, HA.out⟩

set_option maxRecDepth 100000 in
set_option maxHeartbeats 2000000 in
theorem hasC (tb : Str) (pv : Int) (bt bp bc : Nat) (C : Option Addr) (m d : Nat) (cl : List Str) (x : Gr) (w : World) (y0 : w.cell? ⟨bt, 0, none⟩ = some (.string ⟨tb.toArray⟩)) (y1 : w.cell? ⟨bp, 0, none⟩ = some (.int .u8 pv)) (y2 : w.cell? ⟨bc, 0, none⟩ = some (.slice C m d)) (hc : ER ES 1 w C m cl) (hm : m ≤ 9223372036854775807) :
    Calls Try.prog 46 #[.agg #[.string ⟨x.tb.toArray⟩, .int .u8 x.pv, .string ⟨x.gt.toArray⟩, .string ⟨x.gb.toArray⟩, .bool x.op], .pointer (some ⟨bt, 0, none⟩), .pointer (some ⟨bp, 0, none⟩), .pointer (some ⟨bc, 0, none⟩)] w fun e w' => e = .returned (.bool (x.tb == tb && x.pv == pv && cl.contains x.gt)) ∧ Below w.heap.size w w' := by
  obtain ⟨xt, xp, xg, xb, xo⟩ := x
  dsimp only
  have HA := Lib.hid (gr_alloc (gr_refl w) (.cells #[.string ⟨xt.toArray⟩, .int .u8 xp, .string ⟨xg.toArray⟩, .string ⟨xb.toArray⟩, .bool xo] 30))
  have HCA := Lib.hid (heap_alloc_new w (.cells #[.string ⟨xt.toArray⟩, .int .u8 xp, .string ⟨xg.toArray⟩, .string ⟨xb.toArray⟩, .bool xo] 30))
  obtain ⟨r0, hr0⟩ : ∃ r, r = (xt == tb) := ⟨_, rfl⟩
  obtain ⟨r1, hr1⟩ : ∃ r, r = (xp == pv) := ⟨_, rfl⟩
  obtain ⟨r2, hr2⟩ : ∃ r, r = cl.contains xg := ⟨_, rfl⟩
  have HI := Lib.hid (ContainsS_any C m d cl xg _ (hc.below HA.out) hm)
  rw [← hr2] at HI
  rw [← hr0, ← hr1, ← hr2]
  have t0 : (xt == tb) = r0 := hr0.symm
  have t1 : (xp == pv) = r1 := hr1.symm
  clear hr0 hr1 hr2 hc
  go_enter Try.func46, Try.ntmps46
  go_upto_region 1 with fail
  generalize w.alloc (.cells #[.string ⟨xt.toArray⟩, .int .u8 xp, .string ⟨xg.toArray⟩, .string ⟨xb.toArray⟩, .bool xo] 30) = w1 at *
  obtain ⟨c0, c1, c2, c3, c4⟩ := cells5 (x := ⟨xt, xp, xg, xb, xo⟩) HCA.out
  dsimp only at c0 c1 c2 c3 c4
  have y0 := keep_of_below HA.out y0
  have y1 := keep_of_below HA.out y1
  have y2 := keep_of_below HA.out y2
  cases r0
  · go_wp2_with fail
    go_ret
    exact ⟨rfl, HA.out⟩
  · cases r1
    · go_wp2_with fail
      go_ret
      exact ⟨rfl, HA.out⟩
    · go_wp2_with fail
      refine HI.out.mono ?_
      rintro e w2 ⟨rfl, rfl⟩
      go_wp2_with fail
      go_ret
      exact ⟨rfl, HA.out⟩

set_option maxRecDepth 100000 in
set_option maxHeartbeats 2000000 in
theorem giveC (g : Gr) (bg : Nat) (x : Gr) (w : World) (hb : w.heap[bg]? = some (.cells #[.string ⟨g.tb.toArray⟩, .int .u8 g.pv, .string ⟨g.gt.toArray⟩, .string ⟨g.gb.toArray⟩, .bool g.op] 30 (0, 0))) :
    Calls Try.prog 39 #[.agg #[.string ⟨x.tb.toArray⟩, .int .u8 x.pv, .string ⟨x.gt.toArray⟩, .string ⟨x.gb.toArray⟩, .bool x.op], .pointer (some ⟨bg, 0, none⟩)] w fun e w' => e = .returned (.bool (alikeB x g)) ∧ Below w.heap.size w w' := by
  have HA := Lib.hid (gr_alloc (gr_refl w) (.cells #[.string ⟨x.tb.toArray⟩, .int .u8 x.pv, .string ⟨x.gt.toArray⟩, .string ⟨x.gb.toArray⟩, .bool x.op] 30))
  have HCA := Lib.hid (heap_alloc_new w (.cells #[.string ⟨x.tb.toArray⟩, .int .u8 x.pv, .string ⟨x.gt.toArray⟩, .string ⟨x.gb.toArray⟩, .bool x.op] 30))
  obtain ⟨b0, b1, b2, b3, b4⟩ := cells5 hb
  go_enter Try.func39, Try.ntmps39
  go_upto_region 1 with fail
  generalize w.alloc (.cells #[.string ⟨x.tb.toArray⟩, .int .u8 x.pv, .string ⟨x.gt.toArray⟩, .string ⟨x.gb.toArray⟩, .bool x.op] 30) = w1 at *
  obtain ⟨c0, c1, c2, c3, c4⟩ := cells5 HCA.out
  have b0 := keep_of_below HA.out b0
  have b1 := keep_of_below HA.out b1
  have b2 := keep_of_below HA.out b2
  have b3 := keep_of_below HA.out b3
  have b4 := keep_of_below HA.out b4
  go_wp2_with fail
  refine (alike_any x g w1).mono ?_
  rintro e w2 ⟨rfl, hb2⟩
  have HB2 := Lib.hid (gr_trans HA.out hb2)
  clear hb2
  go_wp2_with fail
  go_ret
  exact ⟨rfl, HB2.out⟩

theorem egMay : ∀ args w, (callFunc 54 args).run Try.prog w = .ok (.enter 54 args) w := enters_of Try.func54 (by kernel_rfl) rfl
theorem egHas : ∀ args w, (callFunc 46 args).run Try.prog w = .ok (.enter 46 args) w := enters_of Try.func46 (by kernel_rfl) rfl
theorem egGive : ∀ args w, (callFunc 39 args).run Try.prog w = .ok (.enter 39 args) w := enters_of Try.func39 (by kernel_rfl) rfl

theorem one_cell {w : World} {b : Nat} {v : Value} {t : TypeId} {fr : Nat × Nat} (h : w.heap[b]? = some (.cells #[v] t fr)) : w.cell? ⟨b, 0, none⟩ = some v := by
  rw [cell_of_row w b 0 _ _ _ h]
  rfl

set_option maxRecDepth 100000 in
set_option maxHeartbeats 2000000 in
theorem mayGive_any (A : Option Addr) (n c : Nat) (l : List Gr) (role tb : Str) (pv : Int) (w : World) (h : ER EG 5 w A n l) (hn : n ≤ 9223372036854775807) :
    Calls Try.prog 36 #[.slice A n c, .string ⟨role.toArray⟩, .string ⟨tb.toArray⟩, .int .u8 pv] w fun e w' => e = .returned (.bool (mayGiveL l role tb pv)) ∧ Below w.heap.size w w' := by
  have HCC : Hid (∀ W, W = ((w.alloc (.cells #[.string ⟨role.toArray⟩] 9)).alloc (.cells #[.string ⟨tb.toArray⟩] 9)).alloc (.cells #[.int .u8 pv] 28) → Calls Try.prog 45 #[.slice A n c, .func (.func 54) #[] #[.pointer (some ⟨w.heap.size + 1, 0, none⟩), .pointer (some ⟨w.heap.size + 1 + 1, 0, none⟩), .pointer (some ⟨w.heap.size, 0, none⟩)]] W fun e w' => e = .returned (.bool (mayGiveL l role tb pv)) ∧ Below w.heap.size w w') := Lib.hid (by
    intro W hW
    have b1 := gr_alloc (gr_refl w) (.cells #[.string ⟨role.toArray⟩] 9)
    have k1 := heap_alloc_new w (.cells #[.string ⟨role.toArray⟩] 9)
    have z1 : (w.alloc (.cells #[.string ⟨role.toArray⟩] 9)).heap.size = w.heap.size + 1 := World.size_alloc _ _
    generalize w.alloc (.cells #[.string ⟨role.toArray⟩] 9) = w1 at *
    have b2 := gr_alloc (gr_refl w1) (.cells #[.string ⟨tb.toArray⟩] 9)
    have k2 := heap_alloc_new w1 (.cells #[.string ⟨tb.toArray⟩] 9)
    have z2 : (w1.alloc (.cells #[.string ⟨tb.toArray⟩] 9)).heap.size = w1.heap.size + 1 := World.size_alloc _ _
    generalize w1.alloc (.cells #[.string ⟨tb.toArray⟩] 9) = w2 at *
    have b3 := gr_alloc (gr_refl w2) (.cells #[.int .u8 pv] 28)
    have k3 := heap_alloc_new w2 (.cells #[.int .u8 pv] 28)
    rw [← hW] at b3 k3
    rw [z2, z1] at k3
    rw [z1] at k2
    have y0 := keep_of_below b3 (one_cell k2)
    have y1 := one_cell k3
    have y2 := keep_of_below b3 (keep_of_below b2 (one_cell k1))
    have hbw : Below w.heap.size w W := b1.trans ((b2.trans (b3.mono b2.size)).mono b1.size)
    refine (ContainsFuncGr_any _ _ egMay (fun x => x.tb == tb && x.pv == pv && x.op && x.gt == role) A n c l W (h.below hbw) hn (fun W' x _ hb' => ?_)).mono ?_
    · refine (mayGiveC tb role pv _ _ _ x W' (keep_of_below hb' y0) (keep_of_below hb' y1) (keep_of_below hb' y2)).mono ?_
      rintro e w' ⟨rfl, hb2⟩
      exact ⟨rfl, hb'.trans (hb2.mono hb'.size)⟩
    · rintro e w' ⟨rfl, hb'⟩
      exact ⟨rfl, hbw.trans (hb'.mono hbw.size)⟩)
  clear h
  generalize mayGiveL l role tb pv = r at *
  go_enter Try.func36, Try.ntmps36
  go_wp2_with fail
  refine (HCC.out _ rfl).mono ?_
  rintro e w' ⟨rfl, hb⟩
  have HB := Lib.hid hb
  clear hb HCC
  go_wp2_with fail
  go_ret
  exact ⟨rfl, HB.out⟩

set_option maxRecDepth 100000 in
set_option maxHeartbeats 2000000 in
theorem Has_any (A C : Option Addr) (n c m d : Nat) (l : List Gr) (cl : List Str) (ow tb : Str) (pv : Int) (w : World) (h : ER EG 5 w A n l) (hc : ER ES 1 w C m cl) (hn : n ≤ 9223372036854775807) (hm : m ≤ 9223372036854775807) :
    Calls Try.prog 14 #[.slice A n c, .slice C m d, .string ⟨ow.toArray⟩, .string ⟨tb.toArray⟩, .int .u8 pv] w fun e w' => e = .returned (.bool (hasL l cl ow tb pv)) ∧ Below w.heap.size w w' := by
  have HCC : Hid (∀ W, W = ((w.alloc (.cells #[.slice C m d] 40)).alloc (.cells #[.string ⟨tb.toArray⟩] 9)).alloc (.cells #[.int .u8 pv] 28) → W.cell? ⟨w.heap.size, 0, none⟩ = some (.slice C m d) ∧ Below w.heap.size w W ∧ Calls Try.prog 45 #[.slice A n c, .func (.func 46) #[] #[.pointer (some ⟨w.heap.size + 1, 0, none⟩), .pointer (some ⟨w.heap.size + 1 + 1, 0, none⟩), .pointer (some ⟨w.heap.size, 0, none⟩)]] W fun e w' => e = .returned (.bool (l.any fun g => g.tb == tb && g.pv == pv && cl.contains g.gt)) ∧ Below w.heap.size w w') := Lib.hid (by
    intro W hW
    have b1 := gr_alloc (gr_refl w) (.cells #[.slice C m d] 40)
    have k1 := heap_alloc_new w (.cells #[.slice C m d] 40)
    have z1 : (w.alloc (.cells #[.slice C m d] 40)).heap.size = w.heap.size + 1 := World.size_alloc _ _
    generalize w.alloc (.cells #[.slice C m d] 40) = w1 at *
    have b2 := gr_alloc (gr_refl w1) (.cells #[.string ⟨tb.toArray⟩] 9)
    have k2 := heap_alloc_new w1 (.cells #[.string ⟨tb.toArray⟩] 9)
    have z2 : (w1.alloc (.cells #[.string ⟨tb.toArray⟩] 9)).heap.size = w1.heap.size + 1 := World.size_alloc _ _
    generalize w1.alloc (.cells #[.string ⟨tb.toArray⟩] 9) = w2 at *
    have b3 := gr_alloc (gr_refl w2) (.cells #[.int .u8 pv] 28)
    have k3 := heap_alloc_new w2 (.cells #[.int .u8 pv] 28)
    rw [← hW] at b3 k3
    rw [z2, z1] at k3
    rw [z1] at k2
    have y0 := keep_of_below b3 (one_cell k2)
    have y1 := one_cell k3
    have y2 := keep_of_below b3 (keep_of_below b2 (one_cell k1))
    have hbw : Below w.heap.size w W := b1.trans ((b2.trans (b3.mono b2.size)).mono b1.size)
    refine ⟨y2, hbw, (ContainsFuncGr_any _ _ egHas (fun x => x.tb == tb && x.pv == pv && cl.contains x.gt) A n c l W (h.below hbw) hn (fun W' x _ hb' => ?_)).mono ?_⟩
    · refine (hasC tb pv _ _ _ C m d cl x W' (keep_of_below hb' y0) (keep_of_below hb' y1) (keep_of_below hb' y2) ((hc.below hbw).below hb') hm).mono ?_
      rintro e w' ⟨rfl, hb2⟩
      exact ⟨rfl, hb'.trans (hb2.mono hb'.size)⟩
    · rintro e w' ⟨rfl, hb'⟩
      exact ⟨rfl, hbw.trans (hb'.mono hbw.size)⟩)
  have HI : Hid (∀ W, Below w.heap.size w W → Calls Try.prog 44 #[.slice C m d, .string ⟨ow.toArray⟩] W fun e w' => e = .returned (.bool (cl.contains ow)) ∧ W = w') := Lib.hid (fun W hW => ContainsS_any C m d cl ow W (hc.below hW) hm)
  unfold hasL
  clear h hc
  generalize (l.any fun g => g.tb == tb && g.pv == pv && cl.contains g.gt) = r1 at *
  generalize cl.contains ow = r2 at *
  have HW := Lib.hid (HCC.out _ rfl)
  clear HCC
  go_enter Try.func14, Try.ntmps14
  go_upto_region 1 with fail
  generalize ((w.alloc (.cells #[.slice C m d] 40)).alloc (.cells #[.string ⟨tb.toArray⟩] 9)).alloc (.cells #[.int .u8 pv] 28) = W at *
  have y := HW.out.1
  go_wp2_with fail
  refine (HI.out W HW.out.2.1).mono ?_
  rintro e w2 ⟨rfl, rfl⟩
  cases r2
  · go_wp2_with fail
    refine HW.out.2.2.mono ?_
    rintro e w' ⟨rfl, hb⟩
    have HB := Lib.hid hb
    clear hb HW
    go_wp2_with fail
    go_ret
    exact ⟨rfl, HB.out⟩
  · go_wp2_with fail
    go_ret
    exact ⟨rfl, HW.out.2.1⟩

set_option maxRecDepth 100000 in
set_option maxHeartbeats 2000000 in
theorem May_any (A C : Option Addr) (n c m d : Nat) (l : List Gr) (cl : List Str) (ow tb : Str) (pv : Int) (w : World) (h : ER EG 5 w A n l) (hc : ER ES 1 w C m cl) (hn : n ≤ 9223372036854775807) (hm : m ≤ 9223372036854775807) :
    Calls Try.prog 18 #[.slice A n c, .slice C m d, .string ⟨ow.toArray⟩, .string ⟨tb.toArray⟩, .int .u8 pv] w fun e w' => e = .returned (.tuple #[.string ⟨(mayL l cl ow tb pv).1.toArray⟩, .bool (mayL l cl ow tb pv).2]) ∧ Below w.heap.size w w' := by
  have HC := Lib.hid hc
  have HCL := Lib.hid hc.1
  have HI := Lib.hid (ContainsS_any C m d cl ow w hc hm)
  have HG := Lib.hid (fun W role (hW : Below w.heap.size w W) => mayGive_any A n c l role tb pv W (h.below hW) hn)
  obtain ⟨R, hR⟩ : ∃ R, R = mayL l cl ow tb pv := ⟨_, rfl⟩
  rw [← hR]
  have HR := Lib.hid hR
  obtain ⟨r2, hr2⟩ : ∃ r, r = cl.contains ow := ⟨_, rfl⟩
  rw [← hr2] at HI
  have HR2 := Lib.hid hr2
  clear h hc hR hr2
  go_enter Try.func18, Try.ntmps18
  go_wp2_with fail
  refine HI.out.mono ?_
  rintro e w2 ⟨rfl, rfl⟩
  cases r2
  · have HE : Hid (R = match cl.find? (fun r => mayGiveL l r tb pv) with | some r => (r, true) | none => ([], false)) := Lib.hid (by rw [HR.out]; unfold mayL; rw [← HR2.out]; rfl)
    go_wp2_with fail
    go_loopw [13, 20] (fun _ i wr => ∃ (k : Nat), k ≤ m ∧ i = .int .i64 (k : Int) ∧ Below w.heap.size w wr ∧ Hid ((cl.take k).find? (fun r => mayGiveL l r tb pv) = none)) (fun _ i _ => m - (intOf i).toNat)
    case atStart => exact ⟨0, Nat.zero_le _, rfl, gr_refl w, Lib.hid (by simp)⟩
    case round =>
      obtain ⟨k, hk, rfl, hb, HK⟩ := hrel
      have HB := Lib.hid hb
      by_cases hlt : k < m
      · have t1 : decide ((k : Int) < (m : Int)) = true := decide_eq_true (by omega)
        have t2 : decide (k < m) = true := decide_eq_true hlt
        have i0 : (0 : Int) ≤ (k : Int) := Int.natCast_nonneg _
        have i1 : (k : Int) < (m : Int) := by omega
        obtain ⟨ga, o, x, rfl, hx, q0⟩ := (HC.out.below hb).atStr hlt
        have HX := Lib.hid (take_snoc hx)
        have HTK := Lib.hid (List.take_append_drop (k + 1) cl)
        obtain ⟨r, hr⟩ : ∃ r, r = mayGiveL l x tb pv := ⟨_, rfl⟩
        have HGX := Lib.hid (HG.out wr x hb)
        rw [← hr] at HGX
        have HRX := Lib.hid hr
        clear hx hb hr
        go_wp2_with fail
        refine HGX.out.mono ?_
        rintro e w3 ⟨rfl, hb3⟩
        have HB3 := Lib.hid (HB.out.trans (hb3.mono HB.out.size))
        clear hb3
        cases r
        · go_wp2_with fail
          go_roundw
          case rel => exact ⟨k + 1, by omega, by go_num, HB3.out, Lib.hid (by rw [HX.out, List.find?_append, HK.out]; simp [← HRX.out])⟩
          case measure => simp [intOf]; omega
        · have HF : Hid (R = (x, true)) := Lib.hid (by
            have e : cl.find? (fun r => mayGiveL l r tb pv) = some x := by
              rw [← HTK.out, HX.out, List.find?_append, List.find?_append, HK.out]
              simp [← HRX.out]
            rw [HE.out, e])
          go_wp2_with fail
          go_ret2
          exact ⟨by rw [HF.out]; rfl, HB3.out⟩
      · obtain rfl : k = m := by omega
        have t1 : decide ((k : Int) < (k : Int)) = false := decide_eq_false (by omega)
        have HF : Hid (R = ([], false)) := Lib.hid (by
          have := HK.out
          rw [List.take_of_length_le (by rw [HCL.out]; omega)] at this
          rw [HE.out, this])
        clear hb
        go_wp2_with fail
        go_ret2
        exact ⟨by rw [HF.out]; rfl, HB.out⟩
  · have HE : Hid (R = (ow, true)) := Lib.hid (by rw [HR.out]; unfold mayL; rw [← HR2.out]; rfl)
    go_wp2_with fail
    go_ret2
    exact ⟨by rw [HE.out]; rfl, gr_refl w⟩

end Go.Proofs.Ytfgkadkmgciamaa
