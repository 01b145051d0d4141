/-
  The reference of chapter 03: Sync.
-/
import Derived.Test.YtjopobkcijkpmaaDpH
namespace Go.Proofs.Ytjopobkcijkpmaa
open Go.RowKit

theorem B6.off {S : Nat → Prop} {w w' : World} {g : Nat} {x0 x1 x2 x3 x4 x5 : Value} (h : B6 w g x0 x1 x2 x3 x4 x5) (ho : Off S w w') (hg : ¬ S g) : B6 w' g x0 x1 x2 x3 x4 x5 := (ho.block g (Array.getElem?_eq_some_iff.1 h).1 hg).trans h
theorem info_bool03 : (Try.prog.info? 4).map (fun i => (i.zero, i.size, i.bytes)) = some (some (.bool false), 1, 1) := by kernel_rfl
/-- The disk behind an operation. -/
theorem RKd.op {G : Nat → Prop} {w : World} {bA wA : Option Addr} {bus : List Value} {wus : List (Int × Value)} {D D' : DiskS} (h : RKd G w bA bus wA wus D) (h1 : D'.blocks = D.blocks) (h2 : D'.pending = D.pending) : RKd G w bA bus wA wus D' := by
  cases D
  cases D'
  subst h1 h2
  exact ⟨h.br, h.bv, h.wr, h.wv, h.wl⟩

set_option maxRecDepth 100000 in
set_option maxHeartbeats 4000000 in
theorem refSync03_any (G : Nat → Prop) (v : Value) (D : DiskS) (w : World) (h : RK G w v D) (hG : ∀ k, G k → k < w.heap.size) (p1 : -1 ≤ D.power) (p2 : D.power ≤ 9223372036854775807) (f1 : -1 ≤ D.fault) (f2 : D.fault ≤ 9223372036854775807) (hn1 : D.blocks.length ≤ 4096) (hp : D.pending.length ≤ 1000000) :
    Calls Try.prog 83 #[v] w fun e w' => ∃ v', e = .returned (.tuple #[v', .int .i64 (opC D)]) ∧ RK (plusG G w w') w' v' (syncD D) ∧ Below w.heap.size w w' := by
  have HG := Lib.hid hG
  have HL : Hid (∀ (W : World) (K : Option Addr) (ck : Nat), Below w.heap.size w W → LR W K D.pending.length (List.replicate D.pending.length true) → _) := Lib.hid (fun W K ck hb hK => refLeft_any G v D K D.pending.length ck (List.replicate D.pending.length true) (-1) 0 W (h.below hb) (fun k hk => Nat.lt_of_lt_of_le (hG k hk) hb.size) hK (by omega) (by omega) hn1 hp)
  have HCA : Hid (crashTo (List.replicate D.pending.length true) (-1) 0 D.blocks D.pending D.pending.length = carry D.blocks D.pending) := Lib.hid (by rw [crash_all _ _ _ _ (Nat.le_refl _) (Nat.le_refl _), List.take_length])
  rw [HCA.out] at HL
  have HCL : Hid ((carry D.blocks D.pending).length = D.blocks.length) := Lib.hid (carry_len _ _)
  obtain ⟨bA, bc, wA, wc, bus, wus, rfl, k1, k2, k3, k4, hd⟩ := h
  have HT := Lib.hid (two6 w (.slice bA D.blocks.length bc) (.slice wA D.pending.length wc) (.bool D.down) (.int .i64 D.power) (.int .i64 D.fault) (.int .i64 D.wi))
  have HO := Lib.hid (fun W => opV_any bA wA D.blocks.length bc D.pending.length wc D.down D.power D.fault D.wi W p1 p2 f1 f2)
  have HRO : Hid (∀ wf, Below w.heap.size w wf → RK (plusG G w wf) wf (.agg #[.slice bA D.blocks.length bc, .slice wA D.pending.length wc, .bool (opD D.down D.power), .int .i64 (opL D.down D.power), .int .i64 (opL D.down D.fault), .int .i64 D.wi]) (opS D)) := Lib.hid (fun wf hb => ⟨bA, bc, wA, wc, bus, wus, rfl, k1, k2, k3, k4, ((hd.below hb).mono (fun k hk => .inl hk)).op rfl rfl⟩)
  have HSD : Hid ((opE D.down D.power D.fault D.wi ≠ 0 → syncD D = opS D) ∧ (opE D.down D.power D.fault D.wi = 0 → syncD D = ⟨carry D.blocks D.pending, [], opD D.down D.power, opL D.down D.power, opL D.down D.fault, D.wi⟩)) := Lib.hid ⟨fun h => by unfold syncD; exact if_pos h, fun h => by unfold syncD; rw [if_neg (fun h2 => h2 h)]; rfl⟩
  have HOC : Hid (opC D = opE D.down D.power D.fault D.wi) := Lib.hid rfl
  clear hd hG k1 k2 k3 k4
  obtain ⟨i0, hi0, hz0, hz1, hz2⟩ := info_parts info_bool03
  generalize carry D.blocks D.pending = bs at *
  generalize D.blocks.length = bn at *
  generalize D.pending.length = wn at *
  generalize opE D.down D.power D.fault D.wi = oe at *
  generalize opD D.down D.power = od at *
  generalize opL D.down D.power = op at *
  generalize opL D.down D.fault = of_ at *
  go_enter Try.func83, Try.ntmps83
  go_upto_region 1 with fail
  obtain ⟨x1, x2, hb⟩ := HT.out _ rfl
  clear HT
  generalize (w.alloc (.cells #[.slice bA bn bc, .slice wA wn wc, .bool D.down, .int .i64 D.power, .int .i64 D.fault, .int .i64 D.wi] 66)).alloc (.cells #[.slice none 0 0, .slice none 0 0, .bool false, .int .i64 0, .int .i64 0, .int .i64 0] 66) = w1 at *
  have hlt1 : w.heap.size + 1 < w1.heap.size := (Array.getElem?_eq_some_iff.1 x2).1
  have y0 := x1.c0
  have y1 := x1.c1
  have y2 := x1.c2
  have y3 := x1.c3
  have y4 := x1.c4
  have y5 := x1.c5
  go_wp2_with fail
  refine (HO.out w1).mono ?_
  rintro e w2 ⟨rfl, hb2⟩
  have x1 := x1.below hb2
  have x2 := x2.below hb2
  have hb := gr_trans hb (hb2.mono (by omega))
  have htg : w.heap.size + 1 < w2.heap.size := (Array.getElem?_eq_some_iff.1 x2).1
  have hba := gr_alloc (gr_refl w2) (.cells #[.slice bA bn bc, .slice wA wn wc, .bool od, .int .i64 op, .int .i64 of_, .int .i64 D.wi] 66)
  have s1 := B6.new w2 (.slice bA bn bc) (.slice wA wn wc) (.bool od) (.int .i64 op) (.int .i64 of_) (.int .i64 D.wi)
  clear y0 y1 y2 y3 y4 y5 HO
  go_upto_region 2 with fail
  generalize w2.alloc (.cells #[.slice bA bn bc, .slice wA wn wc, .bool od, .int .i64 op, .int .i64 of_, .int .i64 D.wi] 66) = w3 at *
  have x1 := x1.below hba
  have x2 := x2.below hba
  have hlt3 : w2.heap.size < w3.heap.size := (Array.getElem?_eq_some_iff.1 s1).1
  have hb := gr_trans hb (hba.mono (by omega))
  clear hba
  generalize w2.heap.size = tg at *
  by_cases ho : oe = 0
  · subst ho
    have HXE := Lib.hid (HSD.out.2 rfl)
    clear HSD HRO
    have HX1 := Lib.hid x1
    have HX2 := Lib.hid x2
    have HS1 := Lib.hid s1
    have HB3 := Lib.hid hb
    clear x1 x2 s1 hb
    go_wp2_with fail
    go_loopw [6, 7] (fun va i wr => ∃ (j : Nat), j ≤ wn ∧ i = .int .i64 (j : Int) ∧ Hid (wr.ownsRow w3.heap.size 4 1 va j (List.replicate j (.bool true)) ∧ Below w3.heap.size w3 wr)) (fun _ i _ => wn - (intOf i).toNat)
    case atStart => exact ⟨0, Nat.zero_le _, rfl, Lib.hid ⟨⟨rfl, .inl ⟨rfl, rfl⟩⟩, gr_refl _⟩⟩
    case round =>
      obtain ⟨j, hj, rfl, HJ⟩ := hrel
      have y1 := (HX1.out.below HJ.out.2).c1
      have hrow := HJ.out.1
      obtain ⟨Av, cv, rfl, hcv, hcv'⟩ := own_form hrow
      have hsz := HJ.out.2.size
      by_cases hlt : j < wn
      · have t1 : decide ((j : Int) < (wn : Int)) = true := decide_eq_true (by omega)
        have t1' : decide (j < wn) = true := decide_eq_true hlt
        have HR1 := Lib.hid (Rd.new wr 4 #[.bool true] 1 1 rfl)
        have hrow2 := ownsRow_off hrow (Off.of_below (S := fun _ => False) (gr_alloc (gr_refl wr) (.cells #[.bool true] 4))) (fun _ _ h => h)
        have hba := gr_alloc HJ.out.2 (.cells #[.bool true] 4)
        clear hrow
        go_wp2_with (at_builtin; refine wpList_append_Rd _ rfl (.tmp 24) (.tmp 25) _ rfl w3.heap.size 4 i0 _ 1 1 Try.underlying23 hi0 hz0 hz1 hz2 rfl (.slice Av j cv) j _ rfl hrow2 (some ⟨wr.heap.size, 0, none⟩) 1 1 [.bool true] rfl HR1.out (by simp [Value.oneCell']) (by omega) (by simp only [maxLen]; omega) (by rw [World.size_alloc]; omega) ?_; intro v4 w4 hown4 hg4 _ _)
        have HJ4 : Hid (w4.ownsRow w3.heap.size 4 1 v4 (j + 1) (List.replicate (j + 1) (.bool true)) ∧ Below w3.heap.size w3 w4) := Lib.hid ⟨by rw [List.replicate_succ']; exact hown4, gr_own hba hrow2 hg4⟩
        clear hown4 hg4 hrow2 hba
        go_roundw
        case rel => exact ⟨j + 1, by omega, by go_num, HJ4⟩
        case measure => simp [intOf]; omega
      · obtain rfl : j = wn := by omega
        have t1 : decide ((j : Int) < (j : Int)) = false := decide_eq_false (by omega)
        have HLR := Lib.hid (trues_lr hrow)
        have x1 := HX1.out.below HJ.out.2
        have x2 := HX2.out.below HJ.out.2
        have s1 := HS1.out.below HJ.out.2
        have hb := gr_trans HB3.out (HJ.out.2.mono (by omega))
        have HBR := Lib.hid hb
        clear hrow HJ HX1 HX2 HS1 HB3 y1
        have y0 := x1.c0
        have y1 := x1.c1
        have y2 := x1.c2
        have y3 := x1.c3
        have y4 := x1.c4
        have y5 := x1.c5
        go_wp2_with fail
        refine (HL.out wr Av cv HBR.out HLR.out).mono ?_
        rintro e w5 ⟨A, c, us, rfl, l1, l2, l3, l4, hb5⟩
        have x2 := x2.below hb5
        have s1 := s1.below hb5
        have hb := gr_trans hb (hb5.mono (by omega))
        have HF : Hid (∀ wf, Off (fun k => k = tg ∨ k = w.heap.size + 1) w5 wf → RK (plusG G w wf) wf (.agg #[.slice A bn c, .slice none 0 0, .bool od, .int .i64 op, .int .i64 of_, .int .i64 D.wi]) ⟨bs, [], od, op, of_, D.wi⟩) := Lib.hid (fun wf ho =>
          ((RK.of_left HCL.out l1 l2 l3 l4 od op of_ D.wi).off ho (by
            rintro k (rfl | rfl) (hk | ⟨hk, _⟩)
            · have := HG.out _ hk; omega
            · omega
            · have := HG.out _ hk; omega
            · omega)).mono (plusG.mono (by omega) ho.size))
        clear l3 l4 y0 y1 y2 y3 y4 y5 x1 HL
        have q0 := s1.c0
        have g0 := s1.fz 0
        have o1 : Off (fun k => k = tg ∨ k = w.heap.size + 1) w5 (w5.setCell ⟨tg, 0, none⟩ (.slice A bn c)) := (Off.refl _ w5).setCell _ (.inl rfl)
        have s1 := s1.set0 (.slice A bn c)
        have x2 := x2.setO (k := tg) (j := 0) (u := .slice A bn c) (by omega)
        have hb := hb.setCell (p := ⟨tg, 0, none⟩) (show w.heap.size ≤ tg by omega) (.slice A bn c)
        go_upto_region 10 with fail
        clear q0 g0
        generalize w5.setCell ⟨tg, 0, none⟩ (.slice A bn c) = w6 at *
        have q0 := s1.c1
        have g0 := s1.fz 1
        have o1 := o1.setCell (g := tg) (j := 1) (.slice none 0 0) (.inl rfl)
        have s1 := s1.set1 (.slice none 0 0)
        have x2 := x2.setO (k := tg) (j := 1) (u := .slice none 0 0) (by omega)
        have hb := hb.setCell (p := ⟨tg, 1, none⟩) (show w.heap.size ≤ tg by omega) (.slice none 0 0)
        go_upto_region 11 with fail
        clear q0 g0
        generalize w6.setCell ⟨tg, 1, none⟩ (.slice none 0 0) = w7 at *
        have y0 := s1.c0
        have y1 := s1.c1
        have y2 := s1.c2
        have y3 := s1.c3
        have y4 := s1.c4
        have y5 := s1.c5
        clear s1
        have r0 := x2.c0
        have r1 := x2.c1
        have r2 := x2.c2
        have r3 := x2.c3
        have r4 := x2.c4
        have r5 := x2.c5
        have f0 := x2.fz 0
        have f1 := x2.fz 1
        have f2 := x2.fz 2
        have f3 := x2.fz 3
        have f4 := x2.fz 4
        have f5 := x2.fz 5
        have HS := Lib.hid (set6o x2 (.slice A bn c) (.slice none 0 0) (.bool od) (.int .i64 op) (.int .i64 of_) (.int .i64 D.wi) hb (by omega))
        go_wp2_with fail
        clear r0 f0 r1 f1 r2 f2 r3 f3 r4 f4 r5 f5
        obtain ⟨s1, s2, s3⟩ := HS.out _ rfl
        clear HS
        generalize ((((((w7.setCell ⟨w.heap.size + 1, 0, none⟩ (.slice A bn c)).setCell ⟨w.heap.size + 1, 1, none⟩ (.slice none 0 0)).setCell ⟨w.heap.size + 1, 2, none⟩ (.bool od)).setCell ⟨w.heap.size + 1, 3, none⟩ (.int .i64 op)).setCell ⟨w.heap.size + 1, 4, none⟩ (.int .i64 of_)).setCell ⟨w.heap.size + 1, 5, none⟩ (.int .i64 D.wi)) = wf at *
        have z0 := s1.c0
        have z1 := s1.c1
        have z2 := s1.c2
        have z3 := s1.c3
        have z4 := s1.c4
        have z5 := s1.c5
        refine bodyPost_ret (v := .tuple #[.agg #[.slice A bn c, .slice none 0 0, .bool od, .int .i64 op, .int .i64 of_, .int .i64 D.wi], .int .i64 (0)]) (by simp [results, Try.results83, go_sem, z0, z1, z2, z3, z4, z5]) rfl ?_
        rw [HOC.out, HXE.out]
        exact ⟨_, rfl, HF.out wf (o1.trans (s3.mono (fun k _ hk => .inr hk))), s2⟩
  · have t1 : (oe != 0) = true := bne_iff_ne.2 ho
    have HXE := Lib.hid (HSD.out.1 ho)
    clear HSD ho HL HCA HCL
    have y0 := s1.c0
    have y1 := s1.c1
    have y2 := s1.c2
    have y3 := s1.c3
    have y4 := s1.c4
    have y5 := s1.c5
    clear s1 x1
    have r0 := x2.c0
    have r1 := x2.c1
    have r2 := x2.c2
    have r3 := x2.c3
    have r4 := x2.c4
    have r5 := x2.c5
    have f0 := x2.fz 0
    have f1 := x2.fz 1
    have f2 := x2.fz 2
    have f3 := x2.fz 3
    have f4 := x2.fz 4
    have f5 := x2.fz 5
    have HS := Lib.hid (set6o x2 (.slice bA bn bc) (.slice wA wn wc) (.bool od) (.int .i64 op) (.int .i64 of_) (.int .i64 D.wi) hb (by omega))
    go_wp2_with fail
    clear r0 f0 r1 f1 r2 f2 r3 f3 r4 f4 r5 f5
    obtain ⟨s1, s2, s3⟩ := HS.out _ rfl
    clear HS
    generalize ((((((w3.setCell ⟨w.heap.size + 1, 0, none⟩ (.slice bA bn bc)).setCell ⟨w.heap.size + 1, 1, none⟩ (.slice wA wn wc)).setCell ⟨w.heap.size + 1, 2, none⟩ (.bool od)).setCell ⟨w.heap.size + 1, 3, none⟩ (.int .i64 op)).setCell ⟨w.heap.size + 1, 4, none⟩ (.int .i64 of_)).setCell ⟨w.heap.size + 1, 5, none⟩ (.int .i64 D.wi)) = wf at *
    have z0 := s1.c0
    have z1 := s1.c1
    have z2 := s1.c2
    have z3 := s1.c3
    have z4 := s1.c4
    have z5 := s1.c5
    refine bodyPost_ret (v := .tuple #[.agg #[.slice bA bn bc, .slice wA wn wc, .bool od, .int .i64 op, .int .i64 of_, .int .i64 D.wi], .int .i64 (oe)]) (by simp [results, Try.results83, go_sem, z0, z1, z2, z3, z4, z5]) rfl ?_
    rw [HOC.out, HXE.out]
    exact ⟨_, rfl, HRO.out wf s2, s2⟩

end Go.Proofs.Ytjopobkcijkpmaa
