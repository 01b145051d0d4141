/-
  Chapter 03's does: what it leaves; the calls but Write and Read.
-/
import Derived.Test.YtjopobkcijkpmaaDpK
import Derived.Test.YtjopobkcijkpmaaOpB
namespace Go.Proofs.Ytjopobkcijkpmaa
open Go Go.RowKit

/-- A disk and the document's, alike. -/
structure Pr (w : World) (base g : Nat) (F G : Nat → Prop) (v : Value) (D : DiskS) : Prop where
  isd : ∃ ok, IsD w ok base g F D
  rk : RK G w v D
  gl : ∀ k, G k → k < w.heap.size
  fg : ∀ k, F k → ¬ G k
/-- What a call on both leaves. -/
def DoesP (w : World) (base g : Nat) (F G : Nat → Prop) (D : DiskS) (e : Ending) (w' : World) : Prop :=
  ∃ v' D' F' G', e = .returned (.tuple #[v', .bool true]) ∧ Pr w' base g F' G' v' D' ∧ Off F w w' ∧ (∀ k, F' k → F k ∨ w.heap.size ≤ k) ∧ (∀ k, G' k → G k ∨ w.heap.size ≤ k) ∧ D'.blocks.length = D.blocks.length ∧ D'.pending.length ≤ D.pending.length + 1

section
variable {w w1 w2 w2b w3 wf : World} {base g : Nat} {F G : Nat → Prop} {D D' : DiskS} {v v' : Value} {ok : Nat → Prop}
theorem DoesP.close (h : Pr w base g F G v D) (hb1 : Below w.heap.size w w1) (hp : DPost w1 (fun k => ok k ∧ k < w.heap.size) base g F D' w2) (hb2 : Below w2.heap.size w2 w2b) (hb3 : Below w2b.heap.size w2b w3) (hr : RK (plusG G w2b w3) w3 v' D') {S : Nat → Prop} (ho : Off S w3 wf)
    (hS : ∀ k, S k → (w.heap.size ≤ k ∧ k < w1.heap.size) ∨ (w2.heap.size ≤ k ∧ k < w2b.heap.size) ∨ w3.heap.size ≤ k) (hn : D'.blocks.length = D.blocks.length) (hl : D'.pending.length ≤ D.pending.length + 1) : DoesP w base g F G D (.returned (.tuple #[v', .bool true])) wf := by
  obtain ⟨ho2, F', hd2, hF'⟩ := hp
  have z1 := hb1.size
  have z2 := ho2.size
  have z2b := hb2.size
  have z3 := hb3.size
  have zf := ho.size
  obtain ⟨ok0, hd0⟩ := h.isd
  have hFl : ∀ k, F k → k < w.heap.size := fun k hk => (hd0.foot_lt k hk).2
  have hFl' : ∀ k, F' k → k < w2.heap.size := fun k hk => (hd2.foot_lt k hk).2
  have hd3 := (hd2.sharp.below hb2).below hb3
  refine ⟨v', D', F', plusG G w2b w3, rfl, ⟨⟨_, hd3.offO ho (fun k hk hs => ?_) (fun k hs hk => ?_)⟩, hr.off ho (fun k hs hk => ?_), fun k hk => ?_, fun k hk hg => ?_⟩, ?_, fun k hk => ?_, fun k hk => ?_, hn, hl⟩
  · have := hFl' k hk
    rcases hS k hs with h1 | h1 | h1
    · rcases hF' k hk with h2 | h2
      · have := hFl k h2; omega
      · omega
    · omega
    · omega
  · obtain ⟨hk1, hk2⟩ := hk
    rcases hS k hs with h1 | h1 | h1
    · rcases hk1 with h2 | h2
      · omega
      · omega
    · omega
    · omega
  · rcases hk with hk | hk
    · have := h.gl k hk
      rcases hS k hs with h1 | h1 | h1 <;> omega
    · rcases hS k hs with h1 | h1 | h1 <;> omega
  · rcases hk with hk | hk
    · have := h.gl k hk; omega
    · omega
  · have := hFl' k hk
    rcases hg with hg | hg
    · have hgl := h.gl k hg
      rcases hF' k hk with h2 | h2
      · exact h.fg k h2 hg
      · omega
    · omega
  · refine ⟨?_, ?_, ?_, by omega, fun k hk hf => ?_⟩
    · rw [ho.os, hb3.os, hb2.os, ho2.os, hb1.os]
    · rw [ho.tape, hb3.tape, hb2.tape, ho2.tape, hb1.tape]
    · rw [ho.output, hb3.output, hb2.output, ho2.output, hb1.output]
    · rw [ho.block k (by omega) (fun hs => by rcases hS k hs with h1 | h1 | h1 <;> omega), hb3.block k (by omega), hb2.block k (by omega), ho2.block k (by omega) hf, hb1.block k hk]
  · rcases hF' k hk with h1 | h1
    · exact .inl h1
    · exact .inr (by omega)
  · rcases hk with h1 | h1
    · exact .inl h1
    · exact .inr (by omega)
end
theorem DK.nums {w : World} {ok : Nat → Prop} {base g : Nat} {F : Nat → Prop} {D : DiskS} (h : IsD w ok base g F D) : D.blocks.length ≤ 4096 ∧ -1 ≤ D.power ∧ D.power ≤ 9223372036854775807 ∧ -1 ≤ D.fault ∧ D.fault ≤ 9223372036854775807 := by
  obtain ⟨dr, dc, pv, dvs, pvs, hd, hF⟩ := h
  exact ⟨hd.n2, hd.p1, hd.p2, hd.f1, hd.f2⟩
theorem writeD_len (D : DiskS) (b : Int) (m : List UInt8) : (writeD D b m).blocks.length = D.blocks.length ∧ (writeD D b m).pending.length ≤ D.pending.length + 1 := by
  unfold writeD
  split
  · exact ⟨rfl, Nat.le_succ _⟩
  · split
    · exact ⟨rfl, Nat.le_succ _⟩
    · exact ⟨rfl, by simp⟩
theorem syncD_len (D : DiskS) : (syncD D).blocks.length = D.blocks.length ∧ (syncD D).pending.length ≤ D.pending.length + 1 := by
  unfold syncD
  split
  · exact ⟨rfl, Nat.le_succ _⟩
  · exact ⟨carry_len _ _, Nat.zero_le _⟩
theorem crashD_len (D : DiskS) (keep : List Bool) (torn cut : Int) : (crashD D keep torn cut).blocks.length = D.blocks.length ∧ (crashD D keep torn cut).pending.length ≤ D.pending.length + 1 := by
  unfold crashD
  split
  · exact ⟨rfl, Nat.le_succ _⟩
  · exact ⟨crashTo_len _ _ _ _ _ _, Nat.zero_le _⟩
theorem armD_len (D : DiskS) (n : Int) : (armD D n).blocks.length = D.blocks.length ∧ (armD D n).pending.length ≤ D.pending.length + 1 := by
  unfold armD
  split <;> exact ⟨rfl, Nat.le_succ _⟩
theorem failD_len (D : DiskS) (n e : Int) : (failD D n e).blocks.length = D.blocks.length ∧ (failD D n e).pending.length ≤ D.pending.length + 1 := by
  unfold failD
  split <;> exact ⟨rfl, Nat.le_succ _⟩
theorem set6p {w : World} {g : Nat} {y0 y1 y2 y3 y4 y5 : Value} (h : B6 w g y0 y1 y2 y3 y4 y5) (u0 u1 u2 u3 u4 u5 : Value) :
    ∀ w2, w2 = (((((w.setCell ⟨g, 0, none⟩ u0).setCell ⟨g, 1, none⟩ u1).setCell ⟨g, 2, none⟩ u2).setCell ⟨g, 3, none⟩ u3).setCell ⟨g, 4, none⟩ u4).setCell ⟨g, 5, none⟩ u5 → B6 w2 g u0 u1 u2 u3 u4 u5 ∧ Off (· = g) w w2 := by
  rintro w2 rfl
  exact ⟨((((((h.set0 u0).set1 u1).set2 u2).set3 u3).set4 u4).set5 u5), ((((((Off.refl (· = g) w).setCell _ rfl).setCell _ rfl).setCell _ rfl).setCell _ rfl).setCell _ rfl).setCell _ rfl⟩
/-- Three variables: the document's disk, the call, the result. -/
theorem threeO (w : World) (x0 x1 x2 x3 x4 x5 : Value) (kd on bt sd : Int) (sh : Bool) (nn er : Int) (K : Option Addr) (nk ck : Nat) (torn cut : Int) : ∀ w1, w1 = ((w.alloc (.cells #[x0, x1, x2, x3, x4, x5] 66)).alloc (.cells #[.int .i64 kd, .int .i64 on, .int .i64 bt, .int .i64 sd, .bool sh, .int .i64 nn, .int .i64 er, .slice K nk ck, .int .i64 torn, .int .i64 cut] 72)).alloc (.cells #[.slice none 0 0, .slice none 0 0, .bool false, .int .i64 0, .int .i64 0, .int .i64 0] 66) →
    B6 w1 w.heap.size x0 x1 x2 x3 x4 x5 ∧ w1.heap[w.heap.size + 1]? = some (.cells #[.int .i64 kd, .int .i64 on, .int .i64 bt, .int .i64 sd, .bool sh, .int .i64 nn, .int .i64 er, .slice K nk ck, .int .i64 torn, .int .i64 cut] 72 (0, 0)) ∧ B6 w1 (w.heap.size + 1 + 1) (.slice none 0 0) (.slice none 0 0) (.bool false) (.int .i64 0) (.int .i64 0) (.int .i64 0) ∧ Below w.heap.size w w1 ∧ w1.heap.size = w.heap.size + 3 := by
  rintro w1 rfl
  have a := B6.new w x0 x1 x2 x3 x4 x5
  have b0 := gr_alloc (gr_refl w) (.cells #[x0, x1, x2, x3, x4, x5] 66)
  have s0 : (w.alloc (.cells #[x0, x1, x2, x3, x4, x5] 66)).heap.size = w.heap.size + 1 := World.size_alloc _ _
  generalize w.alloc (.cells #[x0, x1, x2, x3, x4, x5] 66) = w2 at *
  have b := heap_alloc_new w2 (.cells #[.int .i64 kd, .int .i64 on, .int .i64 bt, .int .i64 sd, .bool sh, .int .i64 nn, .int .i64 er, .slice K nk ck, .int .i64 torn, .int .i64 cut] 72)
  have b1 := gr_alloc (gr_refl w2) (.cells #[.int .i64 kd, .int .i64 on, .int .i64 bt, .int .i64 sd, .bool sh, .int .i64 nn, .int .i64 er, .slice K nk ck, .int .i64 torn, .int .i64 cut] 72)
  have s1 : (w2.alloc (.cells #[.int .i64 kd, .int .i64 on, .int .i64 bt, .int .i64 sd, .bool sh, .int .i64 nn, .int .i64 er, .slice K nk ck, .int .i64 torn, .int .i64 cut] 72)).heap.size = w.heap.size + 1 + 1 := by rw [World.size_alloc, s0]
  generalize w2.alloc (.cells #[.int .i64 kd, .int .i64 on, .int .i64 bt, .int .i64 sd, .bool sh, .int .i64 nn, .int .i64 er, .slice K nk ck, .int .i64 torn, .int .i64 cut] 72) = w3 at *
  have b2 := gr_alloc (gr_refl w3) (.cells #[.slice none 0 0, .slice none 0 0, .bool false, .int .i64 0, .int .i64 0, .int .i64 0] 66)
  have c := B6.new w3 (.slice none 0 0) (.slice none 0 0) (.bool false) (.int .i64 0) (.int .i64 0) (.int .i64 0)
  rw [s0] at b
  rw [s1] at c
  exact ⟨(a.below b1).below b2, (b2.block _ (Array.getElem?_eq_some_iff.1 b).1).trans b, c, gr_trans (gr_trans b0 b1) b2, by rw [World.size_alloc, s1]⟩

set_option maxRecDepth 100000 in
set_option maxHeartbeats 4000000 in
theorem does_sync (w : World) (base g : Nat) (F G : Nat → Prop) (v : Value) (D : DiskS) (on bt sd : Int) (sh : Bool) (nn er : Int) (K : Option Addr) (nk ck : Nat) (torn cut : Int) (h : Pr w base g F G v D) (hpl : D.pending.length ≤ 1000000) :
    Calls Try.prog 46 #[.pointer (some ⟨g, 0, none⟩), v, .agg #[.int .i64 2, .int .i64 on, .int .i64 bt, .int .i64 sd, .bool sh, .int .i64 nn, .int .i64 er, .slice K nk ck, .int .i64 torn, .int .i64 cut]] w (DoesP w base g F G D) := by
  obtain ⟨ok, hd⟩ := h.isd
  have hd := hd.sharp
  have hnum := DK.nums hd
  have HH := Lib.hid h
  have hFl : ∀ k, F k → k < w.heap.size := fun k hk => (hd.foot_lt k hk).2
  have HD := Lib.hid hd
  obtain ⟨bA, bc, wA, wc, bus, wus, rfl, k1, k2, k3, k4, _⟩ := h.rk
  have HT := Lib.hid (threeO w (.slice bA D.blocks.length bc) (.slice wA D.pending.length wc) (.bool D.down) (.int .i64 D.power) (.int .i64 D.fault) (.int .i64 D.wi) 2 on bt sd sh nn er K nk ck torn cut)
  clear hd h k1 k2 k3 k4
  have e1 : ((2 : Int) == 1) = false := by decide
  have e2 : ((2 : Int) == 2) = true := by decide
  go_enter Try.func46, Try.ntmps46
  go_upto_region 1 with fail
  obtain ⟨x1, xo, x3, hb, hsz⟩ := HT.out _ rfl
  clear HT
  generalize ((w.alloc (.cells #[.slice bA D.blocks.length bc, .slice wA D.pending.length wc, .bool D.down, .int .i64 D.power, .int .i64 D.fault, .int .i64 D.wi] 66)).alloc (.cells #[.int .i64 2, .int .i64 on, .int .i64 bt, .int .i64 sd, .bool sh, .int .i64 nn, .int .i64 er, .slice K nk ck, .int .i64 torn, .int .i64 cut] 72)).alloc (.cells #[.slice none 0 0, .slice none 0 0, .bool false, .int .i64 0, .int .i64 0, .int .i64 0] 66) = w1 at *
  have o0 : w1.cell? ⟨w.heap.size + 1, 0, none⟩ = some (.int .i64 2) := by rw [cell_of_row w1 _ 0 _ _ _ xo]; rfl
  go_wp2_with fail
  refine (Sync_any w1 _ base g F D (HD.out.below hb) hpl).mono ?_
  rintro e w2 ⟨rfl, hp⟩
  have h2 := hp.1.size
  have x1 := x1.off hp.1 (fun hf => by have := hFl _ hf; omega)
  have x3 := x3.off hp.1 (fun hf => by have := hFl _ hf; omega)
  have xo := (hp.1.block _ (Array.getElem?_eq_some_iff.1 xo).1 (fun hf => by have := hFl _ hf; omega)).trans xo
  clear o0
  have hrk2 := (HH.out.rk.below hb).off hp.1 (fun k hk hg => HH.out.fg k hk hg)
  have hgl2 : ∀ k, G k → k < w2.heap.size := fun k hk => by have := HH.out.gl k hk; omega
  have y0 := x1.c0
  have y1 := x1.c1
  have y2 := x1.c2
  have y3 := x1.c3
  have y4 := x1.c4
  have y5 := x1.c5
  go_wp2_with fail
  refine (refSync03_any G _ D w2 hrk2 hgl2 hnum.2.1 hnum.2.2.1 hnum.2.2.2.1 hnum.2.2.2.2 hnum.1 hpl).mono ?_
  rintro e w3 ⟨v', rfl, hr, hb3⟩
  have hlen := syncD_len D
  generalize syncD D = DN at *
  generalize opC D = oe at *
  have beqe : (oe == oe) = true := beq_self_eq_true _
  have HR := Lib.hid hr
  obtain ⟨bA', bc', wA', wc', bus', wus', rfl, _, _, _, _, _⟩ := hr
  have x3 := x3.below hb3
  have hba := gr_alloc (gr_refl w3) (.cells #[.slice bA' DN.blocks.length bc', .slice wA' DN.pending.length wc', .bool DN.down, .int .i64 DN.power, .int .i64 DN.fault, .int .i64 DN.wi] 66)
  have X2 := B6.new w3 (.slice bA' DN.blocks.length bc') (.slice wA' DN.pending.length wc') (.bool DN.down) (.int .i64 DN.power) (.int .i64 DN.fault) (.int .i64 DN.wi)
  have HCL : Hid (∀ (wf : World) (S : Nat → Prop), Off S w3 wf → (∀ k, S k → k = w.heap.size + 1 + 1 ∨ w3.heap.size ≤ k) → DoesP w base g F G D (.returned (.tuple #[.agg #[.slice bA' DN.blocks.length bc', .slice wA' DN.pending.length wc', .bool DN.down, .int .i64 DN.power, .int .i64 DN.fault, .int .i64 DN.wi], .bool true])) wf) := Lib.hid (fun wf S ho hS =>
    DoesP.close HH.out hb hp (gr_refl w2) hb3 HR.out ho (fun k hk => by rcases hS k hk with rfl | h1; exact .inl ⟨by omega, by omega⟩; exact .inr (.inr h1)) hlen.1 hlen.2)
  clear HR hrk2 hgl2 hp hb3 HD HH y0 y1 y2 y3 y4 y5 
  have x3 := x3.below hba
  clear hlen
  go_upto_region 12 with fail
  generalize w3.alloc (.cells #[.slice bA' DN.blocks.length bc', .slice wA' DN.pending.length wc', .bool DN.down, .int .i64 DN.power, .int .i64 DN.fault, .int .i64 DN.wi] 66) = w4 at *
  clear x1
  have y0 := X2.c0
  have y1 := X2.c1
  have y2 := X2.c2
  have y3 := X2.c3
  have y4 := X2.c4
  have y5 := X2.c5
  have r0 := x3.c0
  have r1 := x3.c1
  have r2 := x3.c2
  have r3 := x3.c3
  have r4 := x3.c4
  have r5 := x3.c5
  have f0 := x3.fz 0
  have f1 := x3.fz 1
  have f2 := x3.fz 2
  have f3 := x3.fz 3
  have f4 := x3.fz 4
  have f5 := x3.fz 5
  have HS := Lib.hid (set6p x3 (.slice bA' DN.blocks.length bc') (.slice wA' DN.pending.length wc') (.bool DN.down) (.int .i64 DN.power) (.int .i64 DN.fault) (.int .i64 DN.wi))
  go_wp2_with fail
  clear r0 f0 r1 f1 r2 f2 r3 f3 r4 f4 r5 f5
  obtain ⟨s1, s3⟩ := HS.out _ rfl
  clear HS
  generalize ((((((w4.setCell ⟨w.heap.size + 1 + 1, 0, none⟩ (.slice bA' DN.blocks.length bc')).setCell ⟨w.heap.size + 1 + 1, 1, none⟩ (.slice wA' DN.pending.length wc')).setCell ⟨w.heap.size + 1 + 1, 2, none⟩ (.bool DN.down)).setCell ⟨w.heap.size + 1 + 1, 3, none⟩ (.int .i64 DN.power)).setCell ⟨w.heap.size + 1 + 1, 4, none⟩ (.int .i64 DN.fault)).setCell ⟨w.heap.size + 1 + 1, 5, none⟩ (.int .i64 DN.wi)) = wf at *
  have z0 := s1.c0
  have z1 := s1.c1
  have z2 := s1.c2
  have z3 := s1.c3
  have z4 := s1.c4
  have z5 := s1.c5
  refine bodyPost_ret (v := .tuple #[.agg #[.slice bA' DN.blocks.length bc', .slice wA' DN.pending.length wc', .bool DN.down, .int .i64 DN.power, .int .i64 DN.fault, .int .i64 DN.wi], .bool true]) (by simp [results, Try.results46, go_sem, z0, z1, z2, z3, z4, z5]) rfl ?_
  exact HCL.out _ _ ((Off.of_below (S := fun k => k = w.heap.size + 1 + 1 ∨ w3.heap.size ≤ k) hba).trans (s3.mono (fun k _ hk => .inl hk))) (fun k hk => hk)

set_option maxRecDepth 100000 in
set_option maxHeartbeats 4000000 in
theorem does_arm (w : World) (base g : Nat) (F G : Nat → Prop) (v : Value) (D : DiskS) (on bt sd : Int) (sh : Bool) (nn er : Int) (K : Option Addr) (nk ck : Nat) (torn cut : Int) (h : Pr w base g F G v D) (_hpl : D.pending.length ≤ 1000000) (hnn : nn ≤ 9223372036854775807) :
    Calls Try.prog 46 #[.pointer (some ⟨g, 0, none⟩), v, .agg #[.int .i64 4, .int .i64 on, .int .i64 bt, .int .i64 sd, .bool sh, .int .i64 nn, .int .i64 er, .slice K nk ck, .int .i64 torn, .int .i64 cut]] w (DoesP w base g F G D) := by
  obtain ⟨ok, hd⟩ := h.isd
  have hd := hd.sharp
  have hnum := DK.nums hd
  have HH := Lib.hid h
  have hFl : ∀ k, F k → k < w.heap.size := fun k hk => (hd.foot_lt k hk).2
  have HD := Lib.hid hd
  obtain ⟨bA, bc, wA, wc, bus, wus, rfl, k1, k2, k3, k4, _⟩ := h.rk
  have HT := Lib.hid (threeO w (.slice bA D.blocks.length bc) (.slice wA D.pending.length wc) (.bool D.down) (.int .i64 D.power) (.int .i64 D.fault) (.int .i64 D.wi) 4 on bt sd sh nn er K nk ck torn cut)
  clear hd h k1 k2 k3 k4
  have e1 : ((4 : Int) == 1) = false := by decide
  have e2 : ((4 : Int) == 2) = false := by decide
  have e3 : ((4 : Int) == 3) = false := by decide
  have e4 : ((4 : Int) == 4) = true := by decide
  go_enter Try.func46, Try.ntmps46
  go_upto_region 1 with fail
  obtain ⟨x1, xo, x3, hb, hsz⟩ := HT.out _ rfl
  clear HT
  generalize ((w.alloc (.cells #[.slice bA D.blocks.length bc, .slice wA D.pending.length wc, .bool D.down, .int .i64 D.power, .int .i64 D.fault, .int .i64 D.wi] 66)).alloc (.cells #[.int .i64 4, .int .i64 on, .int .i64 bt, .int .i64 sd, .bool sh, .int .i64 nn, .int .i64 er, .slice K nk ck, .int .i64 torn, .int .i64 cut] 72)).alloc (.cells #[.slice none 0 0, .slice none 0 0, .bool false, .int .i64 0, .int .i64 0, .int .i64 0] 66) = w1 at *
  have o0 : w1.cell? ⟨w.heap.size + 1, 0, none⟩ = some (.int .i64 4) := by rw [cell_of_row w1 _ 0 _ _ _ xo]; rfl
  have o5 : w1.cell? ⟨w.heap.size + 1, 5, none⟩ = some (.int .i64 nn) := by rw [cell_of_row w1 _ 5 _ _ _ xo]; rfl
  go_wp2_with fail
  refine (Arm_any w1 _ base g F D nn (HD.out.below hb) hnn).mono ?_
  rintro e w2 ⟨rfl, hp⟩
  have h2 := hp.1.size
  have x1 := x1.off hp.1 (fun hf => by have := hFl _ hf; omega)
  have x3 := x3.off hp.1 (fun hf => by have := hFl _ hf; omega)
  have xo := (hp.1.block _ (Array.getElem?_eq_some_iff.1 xo).1 (fun hf => by have := hFl _ hf; omega)).trans xo
  clear o0
  clear o5
  have o5 : w2.cell? ⟨w.heap.size + 1, 5, none⟩ = some (.int .i64 nn) := by rw [cell_of_row w2 _ 5 _ _ _ xo]; rfl
  have hrk2 := (HH.out.rk.below hb).off hp.1 (fun k hk hg => HH.out.fg k hk hg)
  have hgl2 : ∀ k, G k → k < w2.heap.size := fun k hk => by have := HH.out.gl k hk; omega
  have y0 := x1.c0
  have y1 := x1.c1
  have y2 := x1.c2
  have y3 := x1.c3
  have y4 := x1.c4
  have y5 := x1.c5
  go_wp2_with fail
  refine (refArmed_any G _ D nn w2 hrk2).mono ?_
  rintro e w3 ⟨v', rfl, hr, hb3⟩
  have hr := RK.mono (G' := plusG G w2 w3) hr (fun k hk => .inl hk)
  have hlen := armD_len D nn
  generalize armD D nn = DN at *
  generalize armE nn = oe at *
  have beqe : (oe == oe) = true := beq_self_eq_true _
  have HR := Lib.hid hr
  obtain ⟨bA', bc', wA', wc', bus', wus', rfl, _, _, _, _, _⟩ := hr
  have x3 := x3.below hb3
  have hba := gr_alloc (gr_refl w3) (.cells #[.slice bA' DN.blocks.length bc', .slice wA' DN.pending.length wc', .bool DN.down, .int .i64 DN.power, .int .i64 DN.fault, .int .i64 DN.wi] 66)
  have X2 := B6.new w3 (.slice bA' DN.blocks.length bc') (.slice wA' DN.pending.length wc') (.bool DN.down) (.int .i64 DN.power) (.int .i64 DN.fault) (.int .i64 DN.wi)
  have HCL : Hid (∀ (wf : World) (S : Nat → Prop), Off S w3 wf → (∀ k, S k → k = w.heap.size + 1 + 1 ∨ w3.heap.size ≤ k) → DoesP w base g F G D (.returned (.tuple #[.agg #[.slice bA' DN.blocks.length bc', .slice wA' DN.pending.length wc', .bool DN.down, .int .i64 DN.power, .int .i64 DN.fault, .int .i64 DN.wi], .bool true])) wf) := Lib.hid (fun wf S ho hS =>
    DoesP.close HH.out hb hp (gr_refl w2) hb3 HR.out ho (fun k hk => by rcases hS k hk with rfl | h1; exact .inl ⟨by omega, by omega⟩; exact .inr (.inr h1)) hlen.1 hlen.2)
  clear HR hrk2 hgl2 hp hb3 HD HH y0 y1 y2 y3 y4 y5 o5
  have x3 := x3.below hba
  clear hlen
  go_upto_region 22 with fail
  generalize w3.alloc (.cells #[.slice bA' DN.blocks.length bc', .slice wA' DN.pending.length wc', .bool DN.down, .int .i64 DN.power, .int .i64 DN.fault, .int .i64 DN.wi] 66) = w4 at *
  clear x1
  have y0 := X2.c0
  have y1 := X2.c1
  have y2 := X2.c2
  have y3 := X2.c3
  have y4 := X2.c4
  have y5 := X2.c5
  have r0 := x3.c0
  have r1 := x3.c1
  have r2 := x3.c2
  have r3 := x3.c3
  have r4 := x3.c4
  have r5 := x3.c5
  have f0 := x3.fz 0
  have f1 := x3.fz 1
  have f2 := x3.fz 2
  have f3 := x3.fz 3
  have f4 := x3.fz 4
  have f5 := x3.fz 5
  have HS := Lib.hid (set6p x3 (.slice bA' DN.blocks.length bc') (.slice wA' DN.pending.length wc') (.bool DN.down) (.int .i64 DN.power) (.int .i64 DN.fault) (.int .i64 DN.wi))
  go_wp2_with fail
  clear r0 f0 r1 f1 r2 f2 r3 f3 r4 f4 r5 f5
  obtain ⟨s1, s3⟩ := HS.out _ rfl
  clear HS
  generalize ((((((w4.setCell ⟨w.heap.size + 1 + 1, 0, none⟩ (.slice bA' DN.blocks.length bc')).setCell ⟨w.heap.size + 1 + 1, 1, none⟩ (.slice wA' DN.pending.length wc')).setCell ⟨w.heap.size + 1 + 1, 2, none⟩ (.bool DN.down)).setCell ⟨w.heap.size + 1 + 1, 3, none⟩ (.int .i64 DN.power)).setCell ⟨w.heap.size + 1 + 1, 4, none⟩ (.int .i64 DN.fault)).setCell ⟨w.heap.size + 1 + 1, 5, none⟩ (.int .i64 DN.wi)) = wf at *
  have z0 := s1.c0
  have z1 := s1.c1
  have z2 := s1.c2
  have z3 := s1.c3
  have z4 := s1.c4
  have z5 := s1.c5
  refine bodyPost_ret (v := .tuple #[.agg #[.slice bA' DN.blocks.length bc', .slice wA' DN.pending.length wc', .bool DN.down, .int .i64 DN.power, .int .i64 DN.fault, .int .i64 DN.wi], .bool true]) (by simp [results, Try.results46, go_sem, z0, z1, z2, z3, z4, z5]) rfl ?_
  exact HCL.out _ _ ((Off.of_below (S := fun k => k = w.heap.size + 1 + 1 ∨ w3.heap.size ≤ k) hba).trans (s3.mono (fun k _ hk => .inl hk))) (fun k hk => hk)

set_option maxRecDepth 100000 in
set_option maxHeartbeats 4000000 in
theorem does_fail (w : World) (base g : Nat) (F G : Nat → Prop) (v : Value) (D : DiskS) (on bt sd : Int) (sh : Bool) (nn er : Int) (K : Option Addr) (nk ck : Nat) (torn cut : Int) (h : Pr w base g F G v D) (_hpl : D.pending.length ≤ 1000000) (hnn : nn ≤ 9223372036854775807) :
    Calls Try.prog 46 #[.pointer (some ⟨g, 0, none⟩), v, .agg #[.int .i64 5, .int .i64 on, .int .i64 bt, .int .i64 sd, .bool sh, .int .i64 nn, .int .i64 er, .slice K nk ck, .int .i64 torn, .int .i64 cut]] w (DoesP w base g F G D) := by
  obtain ⟨ok, hd⟩ := h.isd
  have hd := hd.sharp
  have hnum := DK.nums hd
  have HH := Lib.hid h
  have hFl : ∀ k, F k → k < w.heap.size := fun k hk => (hd.foot_lt k hk).2
  have HD := Lib.hid hd
  obtain ⟨bA, bc, wA, wc, bus, wus, rfl, k1, k2, k3, k4, _⟩ := h.rk
  have HT := Lib.hid (threeO w (.slice bA D.blocks.length bc) (.slice wA D.pending.length wc) (.bool D.down) (.int .i64 D.power) (.int .i64 D.fault) (.int .i64 D.wi) 5 on bt sd sh nn er K nk ck torn cut)
  clear hd h k1 k2 k3 k4
  have e1 : ((5 : Int) == 1) = false := by decide
  have e2 : ((5 : Int) == 2) = false := by decide
  have e3 : ((5 : Int) == 3) = false := by decide
  have e4 : ((5 : Int) == 4) = false := by decide
  have e5 : ((5 : Int) == 5) = true := by decide
  go_enter Try.func46, Try.ntmps46
  go_upto_region 1 with fail
  obtain ⟨x1, xo, x3, hb, hsz⟩ := HT.out _ rfl
  clear HT
  generalize ((w.alloc (.cells #[.slice bA D.blocks.length bc, .slice wA D.pending.length wc, .bool D.down, .int .i64 D.power, .int .i64 D.fault, .int .i64 D.wi] 66)).alloc (.cells #[.int .i64 5, .int .i64 on, .int .i64 bt, .int .i64 sd, .bool sh, .int .i64 nn, .int .i64 er, .slice K nk ck, .int .i64 torn, .int .i64 cut] 72)).alloc (.cells #[.slice none 0 0, .slice none 0 0, .bool false, .int .i64 0, .int .i64 0, .int .i64 0] 66) = w1 at *
  have o0 : w1.cell? ⟨w.heap.size + 1, 0, none⟩ = some (.int .i64 5) := by rw [cell_of_row w1 _ 0 _ _ _ xo]; rfl
  have o5 : w1.cell? ⟨w.heap.size + 1, 5, none⟩ = some (.int .i64 nn) := by rw [cell_of_row w1 _ 5 _ _ _ xo]; rfl
  have o6 : w1.cell? ⟨w.heap.size + 1, 6, none⟩ = some (.int .i64 er) := by rw [cell_of_row w1 _ 6 _ _ _ xo]; rfl
  go_wp2_with fail
  refine (Fail_any w1 _ base g F D nn er (HD.out.below hb) hnn).mono ?_
  rintro e w2 ⟨rfl, hp⟩
  have h2 := hp.1.size
  have x1 := x1.off hp.1 (fun hf => by have := hFl _ hf; omega)
  have x3 := x3.off hp.1 (fun hf => by have := hFl _ hf; omega)
  have xo := (hp.1.block _ (Array.getElem?_eq_some_iff.1 xo).1 (fun hf => by have := hFl _ hf; omega)).trans xo
  clear o0
  clear o5
  clear o6
  have o5 : w2.cell? ⟨w.heap.size + 1, 5, none⟩ = some (.int .i64 nn) := by rw [cell_of_row w2 _ 5 _ _ _ xo]; rfl
  have o6 : w2.cell? ⟨w.heap.size + 1, 6, none⟩ = some (.int .i64 er) := by rw [cell_of_row w2 _ 6 _ _ _ xo]; rfl
  have hrk2 := (HH.out.rk.below hb).off hp.1 (fun k hk hg => HH.out.fg k hk hg)
  have hgl2 : ∀ k, G k → k < w2.heap.size := fun k hk => by have := HH.out.gl k hk; omega
  have y0 := x1.c0
  have y1 := x1.c1
  have y2 := x1.c2
  have y3 := x1.c3
  have y4 := x1.c4
  have y5 := x1.c5
  go_wp2_with fail
  refine (refFailing_any G _ D nn er w2 hrk2).mono ?_
  rintro e w3 ⟨v', rfl, hr, hb3⟩
  have hr := RK.mono (G' := plusG G w2 w3) hr (fun k hk => .inl hk)
  have hlen := failD_len D nn er
  generalize failD D nn er = DN at *
  generalize failE nn er = oe at *
  have beqe : (oe == oe) = true := beq_self_eq_true _
  have HR := Lib.hid hr
  obtain ⟨bA', bc', wA', wc', bus', wus', rfl, _, _, _, _, _⟩ := hr
  have x3 := x3.below hb3
  have hba := gr_alloc (gr_refl w3) (.cells #[.slice bA' DN.blocks.length bc', .slice wA' DN.pending.length wc', .bool DN.down, .int .i64 DN.power, .int .i64 DN.fault, .int .i64 DN.wi] 66)
  have X2 := B6.new w3 (.slice bA' DN.blocks.length bc') (.slice wA' DN.pending.length wc') (.bool DN.down) (.int .i64 DN.power) (.int .i64 DN.fault) (.int .i64 DN.wi)
  have HCL : Hid (∀ (wf : World) (S : Nat → Prop), Off S w3 wf → (∀ k, S k → k = w.heap.size + 1 + 1 ∨ w3.heap.size ≤ k) → DoesP w base g F G D (.returned (.tuple #[.agg #[.slice bA' DN.blocks.length bc', .slice wA' DN.pending.length wc', .bool DN.down, .int .i64 DN.power, .int .i64 DN.fault, .int .i64 DN.wi], .bool true])) wf) := Lib.hid (fun wf S ho hS =>
    DoesP.close HH.out hb hp (gr_refl w2) hb3 HR.out ho (fun k hk => by rcases hS k hk with rfl | h1; exact .inl ⟨by omega, by omega⟩; exact .inr (.inr h1)) hlen.1 hlen.2)
  clear HR hrk2 hgl2 hp hb3 HD HH y0 y1 y2 y3 y4 y5 o5 o6
  have x3 := x3.below hba
  clear hlen
  go_upto_region 26 with fail
  generalize w3.alloc (.cells #[.slice bA' DN.blocks.length bc', .slice wA' DN.pending.length wc', .bool DN.down, .int .i64 DN.power, .int .i64 DN.fault, .int .i64 DN.wi] 66) = w4 at *
  clear x1
  have y0 := X2.c0
  have y1 := X2.c1
  have y2 := X2.c2
  have y3 := X2.c3
  have y4 := X2.c4
  have y5 := X2.c5
  have r0 := x3.c0
  have r1 := x3.c1
  have r2 := x3.c2
  have r3 := x3.c3
  have r4 := x3.c4
  have r5 := x3.c5
  have f0 := x3.fz 0
  have f1 := x3.fz 1
  have f2 := x3.fz 2
  have f3 := x3.fz 3
  have f4 := x3.fz 4
  have f5 := x3.fz 5
  have HS := Lib.hid (set6p x3 (.slice bA' DN.blocks.length bc') (.slice wA' DN.pending.length wc') (.bool DN.down) (.int .i64 DN.power) (.int .i64 DN.fault) (.int .i64 DN.wi))
  go_wp2_with fail
  clear r0 f0 r1 f1 r2 f2 r3 f3 r4 f4 r5 f5
  obtain ⟨s1, s3⟩ := HS.out _ rfl
  clear HS
  generalize ((((((w4.setCell ⟨w.heap.size + 1 + 1, 0, none⟩ (.slice bA' DN.blocks.length bc')).setCell ⟨w.heap.size + 1 + 1, 1, none⟩ (.slice wA' DN.pending.length wc')).setCell ⟨w.heap.size + 1 + 1, 2, none⟩ (.bool DN.down)).setCell ⟨w.heap.size + 1 + 1, 3, none⟩ (.int .i64 DN.power)).setCell ⟨w.heap.size + 1 + 1, 4, none⟩ (.int .i64 DN.fault)).setCell ⟨w.heap.size + 1 + 1, 5, none⟩ (.int .i64 DN.wi)) = wf at *
  have z0 := s1.c0
  have z1 := s1.c1
  have z2 := s1.c2
  have z3 := s1.c3
  have z4 := s1.c4
  have z5 := s1.c5
  refine bodyPost_ret (v := .tuple #[.agg #[.slice bA' DN.blocks.length bc', .slice wA' DN.pending.length wc', .bool DN.down, .int .i64 DN.power, .int .i64 DN.fault, .int .i64 DN.wi], .bool true]) (by simp [results, Try.results46, go_sem, z0, z1, z2, z3, z4, z5]) rfl ?_
  exact HCL.out _ _ ((Off.of_below (S := fun k => k = w.heap.size + 1 + 1 ∨ w3.heap.size ≤ k) hba).trans (s3.mono (fun k _ hk => .inl hk))) (fun k hk => hk)

set_option maxRecDepth 100000 in
set_option maxHeartbeats 4000000 in
theorem does_crash (w : World) (base g : Nat) (F G : Nat → Prop) (v : Value) (D : DiskS) (on bt sd : Int) (sh : Bool) (nn er : Int) (K : Option Addr) (nk ck : Nat) (torn cut : Int) (keep : List Bool) (h : Pr w base g F G v D) (hpl : D.pending.length ≤ 1000000) (hK : LR w K nk keep) (hKF : ∀ ad, K = some ad → 0 < nk → ¬ F ad.block) (hnk : nk ≤ 9223372036854775807) :
    Calls Try.prog 46 #[.pointer (some ⟨g, 0, none⟩), v, .agg #[.int .i64 6, .int .i64 on, .int .i64 bt, .int .i64 sd, .bool sh, .int .i64 nn, .int .i64 er, .slice K nk ck, .int .i64 torn, .int .i64 cut]] w (DoesP w base g F G D) := by
  obtain ⟨ok, hd⟩ := h.isd
  have hd := hd.sharp
  have hnum := DK.nums hd
  have HH := Lib.hid h
  have hFl : ∀ k, F k → k < w.heap.size := fun k hk => (hd.foot_lt k hk).2
  have HD := Lib.hid hd
  obtain ⟨bA, bc, wA, wc, bus, wus, rfl, k1, k2, k3, k4, _⟩ := h.rk
  have HT := Lib.hid (threeO w (.slice bA D.blocks.length bc) (.slice wA D.pending.length wc) (.bool D.down) (.int .i64 D.power) (.int .i64 D.fault) (.int .i64 D.wi) 6 on bt sd sh nn er K nk ck torn cut)
  clear hd h k1 k2 k3 k4
  have e1 : ((6 : Int) == 1) = false := by decide
  have e2 : ((6 : Int) == 2) = false := by decide
  have e3 : ((6 : Int) == 3) = false := by decide
  have e4 : ((6 : Int) == 4) = false := by decide
  have e5 : ((6 : Int) == 5) = false := by decide
  have e6 : ((6 : Int) == 6) = true := by decide
  go_enter Try.func46, Try.ntmps46
  go_upto_region 1 with fail
  obtain ⟨x1, xo, x3, hb, hsz⟩ := HT.out _ rfl
  clear HT
  generalize ((w.alloc (.cells #[.slice bA D.blocks.length bc, .slice wA D.pending.length wc, .bool D.down, .int .i64 D.power, .int .i64 D.fault, .int .i64 D.wi] 66)).alloc (.cells #[.int .i64 6, .int .i64 on, .int .i64 bt, .int .i64 sd, .bool sh, .int .i64 nn, .int .i64 er, .slice K nk ck, .int .i64 torn, .int .i64 cut] 72)).alloc (.cells #[.slice none 0 0, .slice none 0 0, .bool false, .int .i64 0, .int .i64 0, .int .i64 0] 66) = w1 at *
  have o0 : w1.cell? ⟨w.heap.size + 1, 0, none⟩ = some (.int .i64 6) := by rw [cell_of_row w1 _ 0 _ _ _ xo]; rfl
  have o7 : w1.cell? ⟨w.heap.size + 1, 7, none⟩ = some (.slice K nk ck) := by rw [cell_of_row w1 _ 7 _ _ _ xo]; rfl
  have o8 : w1.cell? ⟨w.heap.size + 1, 8, none⟩ = some (.int .i64 torn) := by rw [cell_of_row w1 _ 8 _ _ _ xo]; rfl
  have o9 : w1.cell? ⟨w.heap.size + 1, 9, none⟩ = some (.int .i64 cut) := by rw [cell_of_row w1 _ 9 _ _ _ xo]; rfl
  go_wp2_with fail
  refine (Crash_any w1 _ base g F D K nk ck keep torn cut (HD.out.below hb) (hK.below hb) hKF hnk hpl).mono ?_
  rintro e w2 ⟨rfl, hp⟩
  have h2 := hp.1.size
  have x1 := x1.off hp.1 (fun hf => by have := hFl _ hf; omega)
  have x3 := x3.off hp.1 (fun hf => by have := hFl _ hf; omega)
  have xo := (hp.1.block _ (Array.getElem?_eq_some_iff.1 xo).1 (fun hf => by have := hFl _ hf; omega)).trans xo
  clear o0
  clear o7
  clear o8
  clear o9
  have o7 : w2.cell? ⟨w.heap.size + 1, 7, none⟩ = some (.slice K nk ck) := by rw [cell_of_row w2 _ 7 _ _ _ xo]; rfl
  have o8 : w2.cell? ⟨w.heap.size + 1, 8, none⟩ = some (.int .i64 torn) := by rw [cell_of_row w2 _ 8 _ _ _ xo]; rfl
  have o9 : w2.cell? ⟨w.heap.size + 1, 9, none⟩ = some (.int .i64 cut) := by rw [cell_of_row w2 _ 9 _ _ _ xo]; rfl
  have hrk2 := (HH.out.rk.below hb).off hp.1 (fun k hk hg => HH.out.fg k hk hg)
  have hgl2 : ∀ k, G k → k < w2.heap.size := fun k hk => by have := HH.out.gl k hk; omega
  have y0 := x1.c0
  have y1 := x1.c1
  have y2 := x1.c2
  have y3 := x1.c3
  have y4 := x1.c4
  have y5 := x1.c5
  go_wp2_with fail
  refine (refCrash_any G _ D K nk ck keep torn cut w2 hrk2 hgl2 ((hK.below hb).off hp.1 hKF) hnk hnum.1 hpl).mono ?_
  rintro e w3 ⟨v', rfl, hr, hb3⟩
  have hlen := crashD_len D keep torn cut
  generalize crashD D keep torn cut = DN at *
  generalize crashE cut = oe at *
  have beqe : (oe == oe) = true := beq_self_eq_true _
  have HR := Lib.hid hr
  obtain ⟨bA', bc', wA', wc', bus', wus', rfl, _, _, _, _, _⟩ := hr
  have x3 := x3.below hb3
  have hba := gr_alloc (gr_refl w3) (.cells #[.slice bA' DN.blocks.length bc', .slice wA' DN.pending.length wc', .bool DN.down, .int .i64 DN.power, .int .i64 DN.fault, .int .i64 DN.wi] 66)
  have X2 := B6.new w3 (.slice bA' DN.blocks.length bc') (.slice wA' DN.pending.length wc') (.bool DN.down) (.int .i64 DN.power) (.int .i64 DN.fault) (.int .i64 DN.wi)
  have HCL : Hid (∀ (wf : World) (S : Nat → Prop), Off S w3 wf → (∀ k, S k → k = w.heap.size + 1 + 1 ∨ w3.heap.size ≤ k) → DoesP w base g F G D (.returned (.tuple #[.agg #[.slice bA' DN.blocks.length bc', .slice wA' DN.pending.length wc', .bool DN.down, .int .i64 DN.power, .int .i64 DN.fault, .int .i64 DN.wi], .bool true])) wf) := Lib.hid (fun wf S ho hS =>
    DoesP.close HH.out hb hp (gr_refl w2) hb3 HR.out ho (fun k hk => by rcases hS k hk with rfl | h1; exact .inl ⟨by omega, by omega⟩; exact .inr (.inr h1)) hlen.1 hlen.2)
  clear HR hrk2 hgl2 hp hb3 HD HH y0 y1 y2 y3 y4 y5 o7 o8 o9
  have x3 := x3.below hba
  clear hlen
  go_upto_region 30 with fail
  generalize w3.alloc (.cells #[.slice bA' DN.blocks.length bc', .slice wA' DN.pending.length wc', .bool DN.down, .int .i64 DN.power, .int .i64 DN.fault, .int .i64 DN.wi] 66) = w4 at *
  clear x1
  have y0 := X2.c0
  have y1 := X2.c1
  have y2 := X2.c2
  have y3 := X2.c3
  have y4 := X2.c4
  have y5 := X2.c5
  have r0 := x3.c0
  have r1 := x3.c1
  have r2 := x3.c2
  have r3 := x3.c3
  have r4 := x3.c4
  have r5 := x3.c5
  have f0 := x3.fz 0
  have f1 := x3.fz 1
  have f2 := x3.fz 2
  have f3 := x3.fz 3
  have f4 := x3.fz 4
  have f5 := x3.fz 5
  have HS := Lib.hid (set6p x3 (.slice bA' DN.blocks.length bc') (.slice wA' DN.pending.length wc') (.bool DN.down) (.int .i64 DN.power) (.int .i64 DN.fault) (.int .i64 DN.wi))
  go_wp2_with fail
  clear r0 f0 r1 f1 r2 f2 r3 f3 r4 f4 r5 f5
  obtain ⟨s1, s3⟩ := HS.out _ rfl
  clear HS
  generalize ((((((w4.setCell ⟨w.heap.size + 1 + 1, 0, none⟩ (.slice bA' DN.blocks.length bc')).setCell ⟨w.heap.size + 1 + 1, 1, none⟩ (.slice wA' DN.pending.length wc')).setCell ⟨w.heap.size + 1 + 1, 2, none⟩ (.bool DN.down)).setCell ⟨w.heap.size + 1 + 1, 3, none⟩ (.int .i64 DN.power)).setCell ⟨w.heap.size + 1 + 1, 4, none⟩ (.int .i64 DN.fault)).setCell ⟨w.heap.size + 1 + 1, 5, none⟩ (.int .i64 DN.wi)) = wf at *
  have z0 := s1.c0
  have z1 := s1.c1
  have z2 := s1.c2
  have z3 := s1.c3
  have z4 := s1.c4
  have z5 := s1.c5
  refine bodyPost_ret (v := .tuple #[.agg #[.slice bA' DN.blocks.length bc', .slice wA' DN.pending.length wc', .bool DN.down, .int .i64 DN.power, .int .i64 DN.fault, .int .i64 DN.wi], .bool true]) (by simp [results, Try.results46, go_sem, z0, z1, z2, z3, z4, z5]) rfl ?_
  exact HCL.out _ _ ((Off.of_below (S := fun k => k = w.heap.size + 1 + 1 ∨ w3.heap.size ≤ k) hba).trans (s3.mono (fun k _ hk => .inl hk))) (fun k hk => hk)


end Go.Proofs.Ytjopobkcijkpmaa
