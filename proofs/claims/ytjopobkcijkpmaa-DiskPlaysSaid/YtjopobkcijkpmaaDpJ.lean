/-
  The reference of chapter 03: Put.
-/
import Derived.Test.YtjopobkcijkpmaaDpI
namespace Go.Proofs.Ytjopobkcijkpmaa
open Go Go.RowKit

theorem info_refW : (Try.prog.info? 147).map (fun i => (i.zero, i.size, i.bytes)) = some (some (.agg #[.int .i64 0, .slice none 0 0]), 2, 32) := by kernel_rfl
/-- A write with bytes of one's own. -/
def MP.rw (base n : Nat) (b : Int) (l : List UInt8) : MP := ⟨fun v w => ∃ A c, v = .agg #[.int .i64 b, .slice A n c] ∧ w.ownsRow base 5 1 (.slice A n c) n (l.map bv), fun _ _ _ hb ⟨A, c, e, h⟩ => ⟨A, c, e, ownsRow_off h (Off.of_below (S := fun _ => False) hb) (fun _ _ h => h)⟩⟩
def MP.rw1 (base n : Nat) (b : Int) (l : List UInt8) : MP := ⟨fun v w => ∃ g A c, v = .slice (some ⟨g, 0, none⟩) 1 1 ∧ Proofs.Ytjopobkcijkpmaa.Rd w 2 (some ⟨g, 0, none⟩) 1 [.int .i64 b, .slice A n c] ∧ w.ownsRow base 5 1 (.slice A n c) n (l.map bv), fun _ _ _ hb ⟨g, A, c, e, h1, h2⟩ => ⟨g, A, c, e, h1.below hb, ownsRow_off h2 (Off.of_below (S := fun _ => False) hb) (fun _ _ h => h)⟩⟩
theorem RKd.oneW {G : Nat → Prop} {w : World} {bA wA : Option Addr} {bus : List Value} {wus : List (Int × Value)} {D : DiskS} (h : RKd G w bA bus wA wus D) : ∀ u ∈ wrs wus, u.oneCell' = true := by
  have hv : ∀ q ∈ wus, q.2.oneCell' = true := by
    intro q hq
    obtain ⟨i, hi, e⟩ := List.mem_iff_getElem.1 hq
    have hd : i < D.pending.length := by rw [← h.wl]; exact hi
    obtain ⟨_, _, _, A, c, e2, _⟩ := h.wv i q _ (by rw [List.getElem?_eq_getElem hi, e]) (List.getElem?_eq_getElem hd)
    rw [e2]
    rfl
  clear h
  induction wus with
  | nil => intro u hu; cases hu
  | cons q qs ih =>
    intro u hu
    simp only [wrs, List.mem_cons] at hu
    rcases hu with rfl | rfl | hu
    · rfl
    · exact hv q (by simp)
    · exact ih (fun q hq => hv q (by simp [hq])) u hu
theorem wrs_push (ps : List (Int × Value)) (q : Int × Value) : wrs (ps ++ [q]) = wrs ps ++ [.int .i64 q.1, q.2] := by
  induction ps with
  | nil => rfl
  | cons p ps ih => simp only [List.cons_append, wrs, ih]
/-- One more write. -/
theorem RKd.push {G G' : Nat → Prop} {w : World} {bA wA A8 : Option Addr} {bus : List Value} {wus : List (Int × Value)} {D D' : DiskS} (h : RKd G w bA bus wA wus D) {base c8 b : Nat} {u : Value} {l : List UInt8} (hb : b < D.blocks.length)
    (ho : w.ownsRow base 147 2 (.slice A8 (D.pending.length + 1) c8) (D.pending.length + 1) (wrs (wus ++ [((b : Int), u)]))) (hu : VG G' w u l) (hG : ∀ k, G k → G' k) (hG2 : ∀ k, base ≤ k → k < w.heap.size → G' k) (e1 : D'.blocks = D.blocks) (e2 : D'.pending = D.pending ++ [(b, l)]) : RKd G' w bA bus A8 (wus ++ [((b : Int), u)]) D' := by
  have h' := h.mono hG
  refine ⟨by rw [e1]; exact h'.br, by rw [e1]; exact h'.bv, ?_, ?_, by rw [e2, List.length_append, List.length_append, h.wl]; rfl⟩
  · rw [e2, List.length_append]
    refine ⟨Rd.of_own ho, fun ad ea _ => ?_⟩
    obtain ⟨cur, fr, h3⟩ := own_at ho ea
    obtain ⟨g, c, e⟩ := own_plain ho (by omega)
    injection e with e _ _
    rw [ea] at e
    cases e
    exact hG2 g (ho.lt g (by rw [ea]; rfl)).1 (Array.getElem?_eq_some_iff.1 h3).1
  · intro i q p hq hp
    rw [e2] at hp
    rw [e1]
    have hl := h.wl
    rcases Nat.lt_or_ge i D.pending.length with hi | hi
    · rw [List.getElem?_append_left (by omega)] at hq
      rw [List.getElem?_append_left hi] at hp
      exact h'.wv i q p hq hp
    · rw [List.getElem?_append_right (by omega)] at hq
      rw [List.getElem?_append_right hi] at hp
      obtain ⟨e3, e4⟩ : i - wus.length = 0 ∧ i - D.pending.length = 0 := by
        have := (List.getElem?_eq_some_iff.1 hp).1
        simp at this
        omega
      rw [e3] at hq
      rw [e4] at hp
      simp at hq hp
      subst hq hp
      exact ⟨rfl, hb, hu⟩
theorem own_beside {w w4 : World} {base base' : Nat} {e e' : TypeId} {size size' n n' : Nat} {v v' : Value} {xs xs' : List Value} (h : w.ownsRow base e size v n xs) (k : w.ownsRow base' e' size' v' n' xs') (hne : e ≠ e') (hg : w.grownBy w4 v'.ownBlock) : w4.ownsRow base e size v n xs :=
  ownsRow_off h (Off.of_grown (S := fun k => v'.ownBlock = some k) hg (fun _ e => e)) (fun q hq hs => by
    obtain ⟨c1, e1⟩ := own_blk h hq
    obtain ⟨c2, e2⟩ := own_blk k hs
    exact cells_ne e1 e2 hne)
/-- Bytes of one's own lie in new blocks. -/
theorem VG.own {G : Nat → Prop} {w : World} {base c : Nat} {A : Option Addr} {l : List UInt8} (hl : l.length = 4096) (ho : w.ownsRow base 5 1 (.slice A 4096 c) 4096 (l.map bv)) (hG2 : ∀ k, base ≤ k → k < w.heap.size → G k) : VG G w (.slice A 4096 c) l := by
  have hob : OB w base (.slice A 4096 c) l := by unfold OB; rw [hl]; exact ho
  obtain ⟨A', c', e, hr, hc, hm⟩ := hob.formN hl
  injection e with e1 _ e3
  subst e1 e3
  refine ⟨hl, A, c, rfl, hr, fun ad ea => ?_, hc, hm⟩
  obtain ⟨cur, fr, h3⟩ := own_at ho ea
  obtain ⟨g, c, e⟩ := own_plain ho (by omega)
  injection e with e _ _
  rw [ea] at e
  cases e
  exact hG2 g (ho.lt g (by rw [ea]; rfl)).1 (Array.getElem?_eq_some_iff.1 h3).1

set_option maxRecDepth 100000 in
set_option maxHeartbeats 4000000 in
theorem refPut03_any (G : Nat → Prop) (v : Value) (D : DiskS) (b : Int) (A : Option Addr) (n c : Nat) (l : List UInt8) (w : World) (h : RK G w v D) (hG : ∀ k, G k → k < w.heap.size) (hA : BR w A n l) (p1 : -1 ≤ D.power) (p2 : D.power ≤ 9223372036854775807) (f1 : -1 ≤ D.fault) (f2 : D.fault ≤ 9223372036854775807) (hp : D.pending.length ≤ 1000000) (hnn : n ≤ 1000000) :
    Calls Try.prog 80 #[v, .int .i64 b, .slice A n c] w fun e w' => ∃ v', e = .returned (.tuple #[v', .int .i64 (writeE D b n)]) ∧ RK (plusG G w w') w' v' (writeD D b l) ∧ Below w.heap.size w w' := by
  have HG := Lib.hid hG
  have HLN := Lib.hid hA.len
  have HAA := Lib.hid hA
  have HRV := Lib.hid h
  obtain ⟨bA, bc, wA, wc, bus, wus, rfl, k1, k2, k3, k4, hd⟩ := h
  have HT := Lib.hid (two6 w (.slice bA D.blocks.length bc) (.slice wA D.pending.length wc) (.bool D.down) (.int .i64 D.power) (.int .i64 D.fault) (.int .i64 D.wi))
  have HO := Lib.hid (fun W => opV_any bA wA D.blocks.length bc D.pending.length wc D.down D.power D.fault D.wi W p1 p2 f1 f2)
  have IS := Lib.hid (fun W => refIs_any bA wA D.blocks.length bc D.pending.length wc D.down D.power D.fault D.wi b W)
  have HRO : Hid (∀ wf, Below w.heap.size w wf → RK (plusG G w wf) wf (.agg #[.slice bA D.blocks.length bc, .slice wA D.pending.length wc, .bool (opD D.down D.power), .int .i64 (opL D.down D.power), .int .i64 (opL D.down D.fault), .int .i64 D.wi]) (opS D)) := Lib.hid (fun wf hb => ⟨bA, bc, wA, wc, bus, wus, rfl, k1, k2, k3, k4, ((hd.below hb).mono (fun k hk => .inl hk)).op rfl rfl⟩)
  have HRS : Hid (∀ wf, Below w.heap.size w wf → RK (plusG G w wf) wf (.agg #[.slice bA D.blocks.length bc, .slice wA D.pending.length wc, .bool D.down, .int .i64 D.power, .int .i64 D.fault, .int .i64 D.wi]) D) := Lib.hid (fun wf hb => (HRV.out.below hb).mono (fun k hk => .inl hk))
  have HOC : Hid (opC D = opE D.down D.power D.fault D.wi) := Lib.hid rfl
  have HDD := Lib.hid hd
  have HAK := Lib.hid (ask_is D b)
  have HK1 := Lib.hid k1
  have HK2 := Lib.hid k2
  unfold maxLen at k2 k4
  clear hd hG hA HRV k1
  by_cases hin : 0 ≤ b ∧ b < (D.blocks.length : Int)
  · have HE0 : Hid (askE D b = 0) := Lib.hid (by rw [HAK.out, if_pos (decide_eq_true hin)])
    rw [decide_eq_true hin] at IS
    obtain ⟨bi, rfl⟩ := Int.eq_ofNat_of_zero_le hin.1
    have hbi : bi < D.blocks.length := by omega
    clear hin HAK
    by_cases hn : n = 4096
    · subst hn
      have HWE : Hid (writeE D (bi : Int) 4096 = opC D) := Lib.hid (by unfold writeE; rw [if_neg (by rw [HE0.out]; simp), if_neg (by simp)])
      have HWD : Hid ((opE D.down D.power D.fault D.wi ≠ 0 → writeD D (bi : Int) l = opS D) ∧ (opE D.down D.power D.fault D.wi = 0 → writeD D (bi : Int) l = { opS D with pending := D.pending ++ [(bi, l)] })) := Lib.hid ⟨fun h => by
        unfold writeD
        rw [if_neg (by rw [HE0.out, HLN.out]; simp), if_pos (show opC D ≠ 0 from h)], fun h => by
        unfold writeD
        rw [if_neg (by rw [HE0.out, HLN.out]; simp), if_neg (show ¬ opC D ≠ 0 from fun h2 => h2 h), Int.toNat_natCast]⟩
      obtain ⟨i0, hi0, hz0, hz1, hz2⟩ := info_parts info_refW
      have HPU : Hid (∀ (w3 w8 : World) (A8 : Option Addr) (c8 : Nat) (u : Value), Below w.heap.size w w8 → w.heap.size ≤ w3.heap.size → D.pending.length + 1 ≤ c8 → c8 ≤ maxLen → w8.ownsRow w3.heap.size 147 2 (.slice A8 (D.pending.length + 1) c8) (D.pending.length + 1) (wrs wus ++ [.int .i64 (bi : Int), u]) → VG (plusG G w3 w8) w8 u l →
          RK (plusG G w3 w8) w8 (.agg #[.slice bA D.blocks.length bc, .slice A8 (D.pending.length + 1) c8, .bool (opD D.down D.power), .int .i64 (opL D.down D.power), .int .i64 (opL D.down D.fault), .int .i64 D.wi]) { opS D with pending := D.pending ++ [(bi, l)] }) := Lib.hid (by
        intro w3 w8 A8 c8 u hb8 h38 q1 q2 ho hv
        have ho' : w8.ownsRow w3.heap.size 147 2 (.slice A8 (D.pending.length + 1) c8) (D.pending.length + 1) (wrs (wus ++ [((bi : Int), u)])) := by rw [wrs_push]; exact ho
        have hl : ({ opS D with pending := D.pending ++ [(bi, l)] } : DiskS).pending.length = D.pending.length + 1 := by simp
        refine ⟨bA, bc, A8, c8, bus, wus ++ [((bi : Int), u)], by rw [hl]; rfl, HK1.out, HK2.out, by rw [hl]; exact q1, q2, ?_⟩
        exact (HDD.out.below hb8).push hbi ho' hv (fun k hk => .inl hk) (fun k h1 h2 => .inr ⟨h1, h2⟩) rfl rfl)
      have HRW := Lib.hid (show Rd w 2 wA D.pending.length (wrs wus) from HDD.out.wr.1)
      have HOW := Lib.hid HDD.out.oneW
      clear HRS HE0 HK1 HK2 hbi HDD
      generalize D.blocks.length = bn at *
      generalize D.pending.length = wn at *
      generalize opE D.down D.power D.fault D.wi = oe at *
      generalize opD D.down D.power = od at *
      generalize opL D.down D.power = op at *
      generalize opL D.down D.fault = of_ at *
      go_enter Try.func80, Try.ntmps80
      go_upto_region 1 with fail
      obtain ⟨x1, x2, hb⟩ := HT.out _ rfl
      clear HT
      generalize (w.alloc (.cells #[.slice bA bn bc, .slice wA wn wc, .bool D.down, .int .i64 D.power, .int .i64 D.fault, .int .i64 D.wi] 66)).alloc (.cells #[.slice none 0 0, .slice none 0 0, .bool false, .int .i64 0, .int .i64 0, .int .i64 0] 66) = w1 at *
      have hlt1 : w.heap.size + 1 < w1.heap.size := (Array.getElem?_eq_some_iff.1 x2).1
      have y0 := x1.c0
      have y1 := x1.c1
      have y2 := x1.c2
      have y3 := x1.c3
      have y4 := x1.c4
      have y5 := x1.c5
      go_wp2_with fail
      refine (IS.out w1).mono ?_
      rintro e w1b ⟨rfl, hbI⟩
      have x1 := x1.below hbI
      have x2 := x2.below hbI
      have hb := gr_trans hb (hbI.mono (by omega))
      have hlt1 : w.heap.size + 1 < w1b.heap.size := (Array.getElem?_eq_some_iff.1 x2).1
      clear y0 y1 y2 y3 y4 y5 hbI IS
      have y0 := x1.c0
      have y1 := x1.c1
      have y2 := x1.c2
      have y3 := x1.c3
      have y4 := x1.c4
      have y5 := x1.c5
      go_wp2_with fail
      refine (HO.out w1b).mono ?_
      rintro e w2 ⟨rfl, hb2⟩
      have x1 := x1.below hb2
      have x2 := x2.below hb2
      have hb := gr_trans hb (hb2.mono (by omega))
      have htg : w.heap.size + 1 < w2.heap.size := (Array.getElem?_eq_some_iff.1 x2).1
      have hba := gr_alloc (gr_refl w2) (.cells #[.slice bA bn bc, .slice wA wn wc, .bool od, .int .i64 op, .int .i64 of_, .int .i64 D.wi] 66)
      have s1 := B6.new w2 (.slice bA bn bc) (.slice wA wn wc) (.bool od) (.int .i64 op) (.int .i64 of_) (.int .i64 D.wi)
      clear y0 y1 y2 y3 y4 y5 HO
      go_upto_region 4 with fail
      generalize w2.alloc (.cells #[.slice bA bn bc, .slice wA wn wc, .bool od, .int .i64 op, .int .i64 of_, .int .i64 D.wi] 66) = w3 at *
      have x1 := x1.below hba
      have x2 := x2.below hba
      have hlt3 : w2.heap.size < w3.heap.size := (Array.getElem?_eq_some_iff.1 s1).1
      have hb := gr_trans hb (hba.mono (by omega))
      clear hba
      generalize w2.heap.size = tg at *
      by_cases ho : oe = 0
      · subst ho
        have HXE := Lib.hid (HWD.out.2 rfl)
        clear HWD HRO
        have HB3 := Lib.hid hb
        have y1 := x1.c1
        have HOR := Lib.hid (HRW.out.below hb)
        go_wp2_with (at_builtin; refine wpList_append_Rd _ rfl _ _ _ rfl w3.heap.size 147 i0 _ 2 32 Try.underlying64 hi0 hz0 hz1 hz2 rfl (.slice none 0 0) 0 [] rfl ⟨rfl, .inl ⟨rfl, rfl⟩⟩ wA wn wc (wrs wus) rfl HOR.out HOW.out (by omega) (by simp only [maxLen]; omega) (Nat.le_refl _) ?_; intro v4 w4 hown4 hg4 _ _; skip)
        rw [Nat.zero_add, List.nil_append] at hown4
        obtain ⟨Av, cv, rfl, hcv, hcv'⟩ := own_form hown4
        have hb34 : Below w3.heap.size w3 w4 := (gr_refl w3).grown hg4 (Nat.le_refl _) (by simp [Value.ownBlock])
        have HB34 := Lib.hid hb34
        have HROW := Lib.hid hown4
        have HA4 := Lib.hid (HAA.out.below (gr_trans HB3.out (hb34.mono (by omega))))
        clear hown4 hg4 hb34 y1 HOR HRW HOW HAA
        refine (CopyBytes_any A 4096 c l w4 HA4.out (by omega)).mono ?_
        rintro e w5 ⟨v5, rfl, ob5, hb5⟩
        obtain ⟨A5, c5, rfl, _, _, _⟩ := ob5.formN HLN.out
        have ho5 : w5.ownsRow w3.heap.size 5 1 (.slice A5 4096 c5) 4096 (l.map bv) := by have := ob5.lower HB34.out.size; unfold OB at this; rw [HLN.out] at this; exact this
        have hba := gr_alloc (gr_refl w5) (.cells #[.int .i64 (bi : Int), .slice A5 4096 c5] 147)
        have hb4q := gr_trans hb5 hba
        have hb3q := gr_trans HB34.out hb4q
        have HRQ := Lib.hid (ownsRow_off HROW.out (Off.of_below (S := fun _ => False) hb4q) (fun _ _ h => h))
        have HR5 := Lib.hid (ownsRow_off ho5 (Off.of_below (S := fun _ => False) hba) (fun _ _ h => h))
        have HZ5 := Lib.hid (Rd.new w5 147 #[.int .i64 (bi : Int), .slice A5 4096 c5] 1 2 rfl)
        have HB3Q := Lib.hid hb3q
        have hsz4 := HB34.out.size
        clear ho5 ob5 hb3q hb4q hba hb5 HROW
        go_upto_region 9 with ((at_builtin); (refine wpList_append_Rd _ rfl (.tmp 34) (.tmp 39) _ rfl w3.heap.size 147 i0 _ 2 32 Try.underlying64 hi0 hz0 hz1 hz2 rfl (.slice Av wn cv) wn (wrs wus) rfl HRQ.out (some ⟨w5.heap.size, 0, none⟩) 1 1 [.int .i64 (bi : Int), .slice A5 4096 c5] rfl HZ5.out (by simp [Value.oneCell']) (by omega) (by simp only [maxLen]; omega) HB3Q.out.size ?_); (intro v8 w8 ho8 hg8 _ _); (have hb38 := gr_own HB3Q.out HRQ.out hg8); (have hv8 := VG.own (G := plusG G w3 w8) HLN.out (own_beside HR5.out HRQ.out (by decide) hg8) (fun k h1 h2 => .inr ⟨h1, h2⟩)); (obtain ⟨A8, c8, rfl, hc8, hc8'⟩ := own_form ho8); (have hb8 := gr_trans HB3.out (hb38.mono (by omega))); (have HR8 := Lib.hid (HPU.out w3 w8 A8 c8 _ hb8 HB3.out.size hc8 hc8' ho8 hv8)); (have s1 := s1.below hb38); (have x2 := x2.below hb38); (have hsz8 := hb38.size); (have q0 := s1.c1); (have g0 := s1.fz 1); (clear ho8 hg8 hv8 hb38 HPU HRQ HR5 HZ5))
        have o1 : Off (fun k => k = tg ∨ k = w.heap.size + 1) w8 (w8.setCell ⟨tg, 1, none⟩ (.slice A8 (wn + 1) c8)) := (Off.refl _ w8).setCell _ (.inl rfl)
        have s1 := s1.set1 (.slice A8 (wn + 1) c8)
        have x2 := x2.setO (k := tg) (j := 1) (u := .slice A8 (wn + 1) c8) (by omega)
        have hb := hb8.setCell (p := ⟨tg, 1, none⟩) (show w.heap.size ≤ tg by omega) (.slice A8 (wn + 1) c8)
        clear q0 g0 hb8
        generalize w8.setCell ⟨tg, 1, none⟩ (.slice A8 (wn + 1) c8) = w9 at *
        have HF : Hid (∀ wf, Off (fun k => k = tg ∨ k = w.heap.size + 1) w8 wf → RK (plusG G w wf) wf (.agg #[.slice bA bn bc, .slice A8 (wn + 1) c8, .bool od, .int .i64 op, .int .i64 of_, .int .i64 D.wi]) { opS D with pending := D.pending ++ [(bi, l)] }) := Lib.hid (fun wf ho =>
          (HR8.out.off ho (by
            rintro k (rfl | rfl) (hk | ⟨hk, _⟩)
            · have := HG.out _ hk; omega
            · omega
            · have := HG.out _ hk; omega
            · omega)).mono (plusG.mono (by omega) ho.size))
        clear HR8
        have y0 := s1.c0
        have y1 := s1.c1
        have y2 := s1.c2
        have y3 := s1.c3
        have y4 := s1.c4
        have y5 := s1.c5
        clear s1 x1
        have r0 := x2.c0
        have r1 := x2.c1
        have r2 := x2.c2
        have r3 := x2.c3
        have r4 := x2.c4
        have r5 := x2.c5
        have f0 := x2.fz 0
        have f1 := x2.fz 1
        have f2 := x2.fz 2
        have f3 := x2.fz 3
        have f4 := x2.fz 4
        have f5 := x2.fz 5
        have HS := Lib.hid (set6o x2 (.slice bA bn bc) (.slice A8 (wn + 1) c8) (.bool od) (.int .i64 op) (.int .i64 of_) (.int .i64 D.wi) hb (by omega))
        go_wp2_with fail
        clear r0 f0 r1 f1 r2 f2 r3 f3 r4 f4 r5 f5
        obtain ⟨s1, s2, s3⟩ := HS.out _ rfl
        clear HS
        generalize ((((((w9.setCell ⟨w.heap.size + 1, 0, none⟩ (.slice bA bn bc)).setCell ⟨w.heap.size + 1, 1, none⟩ (.slice A8 (wn + 1) c8)).setCell ⟨w.heap.size + 1, 2, none⟩ (.bool od)).setCell ⟨w.heap.size + 1, 3, none⟩ (.int .i64 op)).setCell ⟨w.heap.size + 1, 4, none⟩ (.int .i64 of_)).setCell ⟨w.heap.size + 1, 5, none⟩ (.int .i64 D.wi)) = wf at *
        have z0 := s1.c0
        have z1 := s1.c1
        have z2 := s1.c2
        have z3 := s1.c3
        have z4 := s1.c4
        have z5 := s1.c5
        refine bodyPost_ret (v := .tuple #[.agg #[.slice bA bn bc, .slice A8 (wn + 1) c8, .bool od, .int .i64 op, .int .i64 of_, .int .i64 D.wi], .int .i64 (0)]) (by simp [results, Try.results80, go_sem, z0, z1, z2, z3, z4, z5]) rfl ?_
        rw [HWE.out, HOC.out, HXE.out]
        exact ⟨_, rfl, HF.out wf (o1.trans (s3.mono (fun k _ hk => .inr hk))), s2⟩
      · have t1 : (oe != 0) = true := bne_iff_ne.2 ho
        have HXE := Lib.hid (HWD.out.1 ho)
        clear HWD ho HPU
        have y0 := s1.c0
        have y1 := s1.c1
        have y2 := s1.c2
        have y3 := s1.c3
        have y4 := s1.c4
        have y5 := s1.c5
        clear s1 x1
        have r0 := x2.c0
        have r1 := x2.c1
        have r2 := x2.c2
        have r3 := x2.c3
        have r4 := x2.c4
        have r5 := x2.c5
        have f0 := x2.fz 0
        have f1 := x2.fz 1
        have f2 := x2.fz 2
        have f3 := x2.fz 3
        have f4 := x2.fz 4
        have f5 := x2.fz 5
        have HS := Lib.hid (set6o x2 (.slice bA bn bc) (.slice wA wn wc) (.bool od) (.int .i64 op) (.int .i64 of_) (.int .i64 D.wi) hb (by omega))
        go_wp2_with fail
        clear r0 f0 r1 f1 r2 f2 r3 f3 r4 f4 r5 f5
        obtain ⟨s1, s2, s3⟩ := HS.out _ rfl
        clear HS
        generalize ((((((w3.setCell ⟨w.heap.size + 1, 0, none⟩ (.slice bA bn bc)).setCell ⟨w.heap.size + 1, 1, none⟩ (.slice wA wn wc)).setCell ⟨w.heap.size + 1, 2, none⟩ (.bool od)).setCell ⟨w.heap.size + 1, 3, none⟩ (.int .i64 op)).setCell ⟨w.heap.size + 1, 4, none⟩ (.int .i64 of_)).setCell ⟨w.heap.size + 1, 5, none⟩ (.int .i64 D.wi)) = wf at *
        have z0 := s1.c0
        have z1 := s1.c1
        have z2 := s1.c2
        have z3 := s1.c3
        have z4 := s1.c4
        have z5 := s1.c5
        refine bodyPost_ret (v := .tuple #[.agg #[.slice bA bn bc, .slice wA wn wc, .bool od, .int .i64 op, .int .i64 of_, .int .i64 D.wi], .int .i64 (oe)]) (by simp [results, Try.results80, go_sem, z0, z1, z2, z3, z4, z5]) rfl ?_
        rw [HWE.out, HOC.out, HXE.out]
        exact ⟨_, rfl, HRO.out wf s2, s2⟩
    · have HE : Hid (writeE D (bi : Int) n = 2 ∧ writeD D (bi : Int) l = D) := Lib.hid ⟨by unfold writeE; rw [if_neg (by rw [HE0.out]; simp), if_pos hn], by unfold writeD; rw [if_pos (Or.inr (by rw [HLN.out]; exact hn))]⟩
      have t2 : ((n : Int) != 4096) = true := bne_iff_ne.2 (by omega)
      clear HO HRO HOC HDD HE0 HAA HLN hbi HK1 HK2
      generalize D.blocks.length = bn at *
      generalize D.pending.length = wn at *
      go_enter Try.func80, Try.ntmps80
      go_upto_region 1 with fail
      obtain ⟨x1, x2, hb⟩ := HT.out _ rfl
      clear HT
      generalize (w.alloc (.cells #[.slice bA bn bc, .slice wA wn wc, .bool D.down, .int .i64 D.power, .int .i64 D.fault, .int .i64 D.wi] 66)).alloc (.cells #[.slice none 0 0, .slice none 0 0, .bool false, .int .i64 0, .int .i64 0, .int .i64 0] 66) = w1 at *
      have hlt1 : w.heap.size + 1 < w1.heap.size := (Array.getElem?_eq_some_iff.1 x2).1
      have y0 := x1.c0
      have y1 := x1.c1
      have y2 := x1.c2
      have y3 := x1.c3
      have y4 := x1.c4
      have y5 := x1.c5
      go_wp2_with fail
      refine (IS.out w1).mono ?_
      rintro e w1b ⟨rfl, hbI⟩
      have x1 := x1.below hbI
      have x2 := x2.below hbI
      have hb := gr_trans hb (hbI.mono (by omega))
      have hlt1 : w.heap.size + 1 < w1b.heap.size := (Array.getElem?_eq_some_iff.1 x2).1
      clear y0 y1 y2 y3 y4 y5 hbI IS
      have y0 := x1.c0
      have y1 := x1.c1
      have y2 := x1.c2
      have y3 := x1.c3
      have y4 := x1.c4
      have y5 := x1.c5
      go_upto_region 2 with fail
      have r0 := x2.c0
      have r1 := x2.c1
      have r2 := x2.c2
      have r3 := x2.c3
      have r4 := x2.c4
      have r5 := x2.c5
      have f0 := x2.fz 0
      have f1 := x2.fz 1
      have f2 := x2.fz 2
      have f3 := x2.fz 3
      have f4 := x2.fz 4
      have f5 := x2.fz 5
      have HS := Lib.hid (set6o x2 (.slice bA bn bc) (.slice wA wn wc) (.bool D.down) (.int .i64 D.power) (.int .i64 D.fault) (.int .i64 D.wi) hb (by omega))
      go_wp2_with fail
      clear r0 f0 r1 f1 r2 f2 r3 f3 r4 f4 r5 f5
      obtain ⟨s1, s2, s3⟩ := HS.out _ rfl
      clear HS
      generalize ((((((w1b.setCell ⟨w.heap.size + 1, 0, none⟩ (.slice bA bn bc)).setCell ⟨w.heap.size + 1, 1, none⟩ (.slice wA wn wc)).setCell ⟨w.heap.size + 1, 2, none⟩ (.bool D.down)).setCell ⟨w.heap.size + 1, 3, none⟩ (.int .i64 D.power)).setCell ⟨w.heap.size + 1, 4, none⟩ (.int .i64 D.fault)).setCell ⟨w.heap.size + 1, 5, none⟩ (.int .i64 D.wi)) = wf at *
      have z0 := s1.c0
      have z1 := s1.c1
      have z2 := s1.c2
      have z3 := s1.c3
      have z4 := s1.c4
      have z5 := s1.c5
      refine bodyPost_ret (v := .tuple #[.agg #[.slice bA bn bc, .slice wA wn wc, .bool D.down, .int .i64 D.power, .int .i64 D.fault, .int .i64 D.wi], .int .i64 (2)]) (by simp [results, Try.results80, go_sem, z0, z1, z2, z3, z4, z5]) rfl ?_
      rw [HE.out.1, HE.out.2]
      exact ⟨_, rfl, HRS.out wf s2, s2⟩
  · have HE : Hid (writeE D b n = 2 ∧ writeD D b l = D) := Lib.hid (by
      have h2 : askE D b = 2 := by rw [HAK.out, if_neg (by rw [decide_eq_false hin]; simp)]
      exact ⟨by unfold writeE; rw [if_pos (by rw [h2]; decide), h2], by unfold writeD; rw [if_pos (Or.inl (by rw [h2]; decide))]⟩)
    rw [decide_eq_false hin] at IS
    clear hin HO HRO HOC HDD HAA HLN HAK HK1 HK2
    generalize D.blocks.length = bn at *
    generalize D.pending.length = wn at *
    go_enter Try.func80, Try.ntmps80
    go_upto_region 1 with fail
    obtain ⟨x1, x2, hb⟩ := HT.out _ rfl
    clear HT
    generalize (w.alloc (.cells #[.slice bA bn bc, .slice wA wn wc, .bool D.down, .int .i64 D.power, .int .i64 D.fault, .int .i64 D.wi] 66)).alloc (.cells #[.slice none 0 0, .slice none 0 0, .bool false, .int .i64 0, .int .i64 0, .int .i64 0] 66) = w1 at *
    have hlt1 : w.heap.size + 1 < w1.heap.size := (Array.getElem?_eq_some_iff.1 x2).1
    have y0 := x1.c0
    have y1 := x1.c1
    have y2 := x1.c2
    have y3 := x1.c3
    have y4 := x1.c4
    have y5 := x1.c5
    go_wp2_with fail
    refine (IS.out w1).mono ?_
    rintro e w1b ⟨rfl, hbI⟩
    have x1 := x1.below hbI
    have x2 := x2.below hbI
    have hb := gr_trans hb (hbI.mono (by omega))
    have hlt1 : w.heap.size + 1 < w1b.heap.size := (Array.getElem?_eq_some_iff.1 x2).1
    clear y0 y1 y2 y3 y4 y5 hbI IS
    have y0 := x1.c0
    have y1 := x1.c1
    have y2 := x1.c2
    have y3 := x1.c3
    have y4 := x1.c4
    have y5 := x1.c5
    go_upto_region 2 with fail
    have r0 := x2.c0
    have r1 := x2.c1
    have r2 := x2.c2
    have r3 := x2.c3
    have r4 := x2.c4
    have r5 := x2.c5
    have f0 := x2.fz 0
    have f1 := x2.fz 1
    have f2 := x2.fz 2
    have f3 := x2.fz 3
    have f4 := x2.fz 4
    have f5 := x2.fz 5
    have HS := Lib.hid (set6o x2 (.slice bA bn bc) (.slice wA wn wc) (.bool D.down) (.int .i64 D.power) (.int .i64 D.fault) (.int .i64 D.wi) hb (by omega))
    go_wp2_with fail
    clear r0 f0 r1 f1 r2 f2 r3 f3 r4 f4 r5 f5
    obtain ⟨s1, s2, s3⟩ := HS.out _ rfl
    clear HS
    generalize ((((((w1b.setCell ⟨w.heap.size + 1, 0, none⟩ (.slice bA bn bc)).setCell ⟨w.heap.size + 1, 1, none⟩ (.slice wA wn wc)).setCell ⟨w.heap.size + 1, 2, none⟩ (.bool D.down)).setCell ⟨w.heap.size + 1, 3, none⟩ (.int .i64 D.power)).setCell ⟨w.heap.size + 1, 4, none⟩ (.int .i64 D.fault)).setCell ⟨w.heap.size + 1, 5, none⟩ (.int .i64 D.wi)) = wf at *
    have z0 := s1.c0
    have z1 := s1.c1
    have z2 := s1.c2
    have z3 := s1.c3
    have z4 := s1.c4
    have z5 := s1.c5
    refine bodyPost_ret (v := .tuple #[.agg #[.slice bA bn bc, .slice wA wn wc, .bool D.down, .int .i64 D.power, .int .i64 D.fault, .int .i64 D.wi], .int .i64 (2)]) (by simp [results, Try.results80, go_sem, z0, z1, z2, z3, z4, z5]) rfl ?_
    rw [HE.out.1, HE.out.2]
    exact ⟨_, rfl, HRS.out wf s2, s2⟩

end Go.Proofs.Ytjopobkcijkpmaa
