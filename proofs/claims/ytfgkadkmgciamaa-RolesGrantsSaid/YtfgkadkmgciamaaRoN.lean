/-
  roles.Give.
-/
import Derived.Test.YtfgkadkmgciamaaRoM
namespace Go.Proofs.Ytfgkadkmgciamaa
open Go Go.RowKit

theorem own_setK {w : World} {base : Nat} {T : TypeId} {k g n cap : Nat} {xs : List Value} (h : w.ownsRow base T k (.slice (some ⟨g, 0, none⟩) n cap) n xs) (j : Nat) (u : Value) :
    (w.setCell ⟨g, j, none⟩ u).ownsRow base T k (.slice (some ⟨g, 0, none⟩) n cap) n (xs.set j u) := by
  obtain ⟨h1, h2⟩ := h
  rcases h2 with ⟨e, _⟩ | ⟨g', cap', cur, e, hb, hg, hnc, hm, hcu, ht⟩
  · cases e
  · cases e
    refine ⟨by rw [List.length_set]; exact h1, .inr ⟨g, cap, cur.setIfInBounds j u, rfl, hb, ?_, hnc, hm, ?_, ?_⟩⟩
    · simp only [World.setCell, Array.getElem?_modify, if_pos, hg]
      simp
    · simpa using hcu
    · rw [Array.toList_setIfInBounds, List.take_set, ht]
theorem own_preK {w : World} {base : Nat} {T : TypeId} {k g n m cap : Nat} {xs : List Value} (h : w.ownsRow base T k (.slice (some ⟨g, 0, none⟩) n cap) n xs) (hm : m ≤ n) : w.ownsRow base T k (.slice (some ⟨g, 0, none⟩) m cap) m (xs.take (m * k)) := by
  obtain ⟨h1, h2⟩ := h
  have hmk : m * k ≤ n * k := Nat.mul_le_mul_right _ hm
  rcases h2 with ⟨e, _⟩ | ⟨g', cap', cur, e, hb, hg, hnc, hmx, hcu, ht⟩
  · cases e
  · cases e
    refine ⟨by rw [List.length_take]; omega, .inr ⟨g, cap, cur, rfl, hb, hg, by omega, hmx, hcu, ?_⟩⟩
    rw [← ht, List.take_take, Nat.min_eq_left hmk]
theorem flat_set {α : Type} {enc : α → List Value} {k : Nat} (hk : ∀ x, (enc x).length = k) : ∀ (l : List α) (i j : Nat) (x y : α) (u : Value), l[i]? = some x → j < k → enc y = (enc x).set j u → (l.flatMap enc).set (i * k + j) u = (l.set i y).flatMap enc
  | [], _, _, _, _, _, h, _, _ => by simp at h
  | z :: l, 0, j, x, y, u, h, hj, e => by
    obtain rfl : z = x := by simpa using h
    rw [List.set_cons_zero, List.flatMap_cons, List.flatMap_cons, Nat.zero_mul, Nat.zero_add, List.set_append_left _ _ (by rw [hk]; exact hj), e]
  | z :: l, i + 1, j, x, y, u, h, hj, e => by
    rw [List.set_cons_succ, List.flatMap_cons, List.flatMap_cons, List.set_append_right _ _ (by rw [hk, Nat.succ_mul]; omega), hk]
    have e2 : (i + 1) * k + j - k = i * k + j := by rw [Nat.succ_mul]; omega
    rw [e2, flat_set hk l i j x y u (by simpa using h) hj e]
theorem EO.pre {α : Type} {enc : α → List Value} {k : Nat} (hk : ∀ x, (enc x).length = k) {T : TypeId} {w : World} {base g n cap m : Nat} {l : List α} (h : EO enc k T w base (.slice (some ⟨g, 0, none⟩) n cap) l) (hn : l.length = n) (hm : m ≤ n) : EO enc k T w base (.slice (some ⟨g, 0, none⟩) m cap) (l.take m) := by
  unfold EO at h ⊢
  rw [hn] at h
  have h2 := own_preK h hm
  have e : ∀ (l : List α) (m : Nat), (l.flatMap enc).take (m * k) = (l.take m).flatMap enc := fun l => by
    induction l with
    | nil => intro m; simp
    | cons x l ih =>
      intro m
      cases m with
      | zero => simp
      | succ m =>
        rw [List.take_succ_cons, List.flatMap_cons, List.flatMap_cons, List.take_append, hk, Nat.succ_mul, Nat.add_sub_cancel, ih m, List.take_of_length_le (by rw [hk]; omega)]
  rw [e] at h2
  rw [List.length_take, hn, Nat.min_eq_left hm]
  exact h2
theorem giveL_none {l : List Gr} {g : Gr} (h : ∀ x ∈ l, alikeB x g = false) : giveL l g = l ++ [g] := by
  induction l with
  | nil => rfl
  | cons x l ih =>
    unfold giveL
    rw [h x (List.mem_cons_self ..), ih fun y hy => h y (List.mem_cons_of_mem _ hy)]
    rfl
theorem giveL_at {g : Gr} : ∀ {l : List Gr} {k : Nat} {x : Gr}, l[k]? = some x → alikeB x g = true → (∀ (j : Nat) (y : Gr), j < k → l[j]? = some y → alikeB y g = false) → giveL l g = l.set k { x with op := x.op || g.op }
  | [], _, _, h, _, _ => by simp at h
  | z :: l, 0, x, h, ha, _ => by
    obtain rfl : z = x := by simpa using h
    unfold giveL
    rw [ha]
    rfl
  | z :: l, k + 1, x, h, ha, hb => by
    unfold giveL
    rw [hb 0 z (Nat.succ_pos _) rfl, giveL_at (k := k) (by simpa using h) ha fun j y hj hy => hb (j + 1) y (by omega) (by simpa using hy)]
    rfl
theorem giveL_len {g : Gr} : ∀ (l : List Gr), (giveL l g).length = l.length ∨ (giveL l g).length = l.length + 1
  | [] => .inr rfl
  | z :: l => by
    unfold giveL
    split
    · exact .inl rfl
    · simpa using giveL_len l

theorem EO.cellG {w : World} {base g n c : Nat} {l : List Gr} (h : EO EG 5 30 w base (.slice (some ⟨g, 0, none⟩) n c) l) {i : Nat} {x : Gr} (hx : l[i]? = some x) : w.cell? ⟨g, i * 5 + 4, none⟩ = some (.bool x.op) := by
  obtain ⟨A, c', e, her, _⟩ := h.form
  injection e with e1 e2 e3
  subst e1
  obtain ⟨g', o, y, e4, hy, _, _, _, _, hc⟩ := her.atGr (List.getElem?_eq_some_iff.1 hx).1
  injection e4 with e4
  injection e4 with e4 e5
  subst e4 e5
  rw [hx] at hy
  injection hy with hy
  subst hy
  simpa using hc
/-- What Give answers. -/
def GiveP (l : List Gr) (ow : Str) (g : Gr) (base : Nat) (e : Ending) (w' : World) : Prop :=
  (e = .returned (.tuple #[.slice none 0 0, .int .i64 (giveE l ow g)]) ∧ giveE l ow g ≠ 0) ∨ ∃ v, e = .returned (.tuple #[v, .int .i64 0]) ∧ giveE l ow g = 0 ∧ EO EG 5 30 w' base v (giveL l g)

set_option maxRecDepth 100000 in
set_option maxHeartbeats 4000000 in
theorem Give_any (A : Option Addr) (n c : Nat) (l : List Gr) (ow : Str) (g : Gr) (w : World) (h : ER EG 5 w A n l) (hn : n ≤ 2199023255552) :
    Calls Try.prog 12 #[.slice A n c, .string ⟨ow.toArray⟩, .agg #[.string ⟨g.tb.toArray⟩, .int .u8 g.pv, .string ⟨g.gt.toArray⟩, .string ⟨g.gb.toArray⟩, .bool g.op]] w fun e w' => GiveP l ow g w.heap.size e w' ∧ Below w.heap.size w w' := by
  obtain ⟨i0, z, hi0, hz0, hzs, hz1, hz2⟩ := info_Gr'
  have HA := Lib.hid (gr_alloc (gr_refl w) (.cells #[.string ⟨g.tb.toArray⟩, .int .u8 g.pv, .string ⟨g.gt.toArray⟩, .string ⟨g.gb.toArray⟩, .bool g.op] 30))
  have HCA := Lib.hid (heap_alloc_new w (.cells #[.string ⟨g.tb.toArray⟩, .int .u8 g.pv, .string ⟨g.gt.toArray⟩, .string ⟨g.gb.toArray⟩, .bool g.op] 30))
  have HS := Lib.hid (h.below HA.out)
  have HL := Lib.hid h.1
  have HM := Lib.hid (fun W (hW : Below w.heap.size w W) => mayGive_any A n c l g.gb g.tb g.pv W (h.below hW) (by omega))
  obtain ⟨r0, hr0⟩ : ∃ r, r = (g.gt == ow) := ⟨_, rfl⟩
  obtain ⟨r1, hr1⟩ : ∃ r, r = decide (g.pv < 1) := ⟨_, rfl⟩
  obtain ⟨r2, hr2⟩ : ∃ r, r = decide (4 < g.pv) := ⟨_, rfl⟩
  obtain ⟨r3, hr3⟩ : ∃ r, r = (g.gb == ow) := ⟨_, rfl⟩
  obtain ⟨r4, hr4⟩ : ∃ r, r = mayGiveL l g.gb g.tb g.pv := ⟨_, rfl⟩
  rw [← hr4] at HM
  have HE : Hid (giveE l ow g = if r0 || r1 || r2 then 2 else if !r3 && !r4 then 312 else 0) := Lib.hid (by
    unfold giveE
    rw [hr0, hr1, hr2, hr3, hr4]
    by_cases a0 : g.gt = ow <;> by_cases a1 : g.pv < 1 <;> by_cases a2 : 4 < g.pv <;> by_cases a3 : g.gb = ow <;> cases a4 : mayGiveL l g.gb g.tb g.pv <;> simp [a0, a1, a2, a3])
  have t0 : (g.gt == ow) = r0 := hr0.symm
  have t1 : decide (g.pv < 1) = r1 := hr1.symm
  have t2 : decide (4 < g.pv) = r2 := hr2.symm
  have t3 : (g.gb == ow) = r3 := hr3.symm
  clear h hr0 hr1 hr2 hr3 hr4
  go_enter Try.func12, Try.ntmps12
  go_upto_region 1 with fail
  generalize w.alloc (.cells #[.string ⟨g.tb.toArray⟩, .int .u8 g.pv, .string ⟨g.gt.toArray⟩, .string ⟨g.gb.toArray⟩, .bool g.op] 30) = w1 at *
  obtain ⟨c0, c1, c2, c3, c4⟩ := cells5 HCA.out
  have HBq1 := HA
  cases r0
  · cases r1
    · cases r2
      · cases r3
        · go_wp2_with fail
          refine (HM.out w1 HA.out).mono ?_
          rintro e w2 ⟨rfl, hb2⟩
          cases r4
          · have HB2 := Lib.hid (HA.out.trans (hb2.mono HA.out.size))
            have HE2 : Hid (giveE l ow g = 312) := Lib.hid (by rw [HE.out]; rfl)
            clear hb2
            go_wp2_with fail
            go_ret2
            exact ⟨.inl ⟨by rw [HE2.out]; rfl, by rw [HE2.out]; decide⟩, HB2.out⟩
          · have HE0 : Hid (giveE l ow g = 0) := Lib.hid (by rw [HE.out]; rfl)
            have HBq := Lib.hid (HA.out.trans (hb2.mono HA.out.size))
            have HSq := Lib.hid (HS.out.below hb2)
            have HCq := Lib.hid ((hb2.block w.heap.size (Array.getElem?_eq_some_iff.1 HCA.out).1).trans HCA.out)
            obtain ⟨c0, c1, c2, c3, c4⟩ := cells5 HCq.out
            clear hb2 HBq1 HA HS HCA
            generalize w2 = wq at *
            have HCC : Hid (∀ BX BY W, BX = .cells #[.string ⟨g.tb.toArray⟩, .int .u8 g.pv, .string ⟨g.gt.toArray⟩, .string ⟨g.gb.toArray⟩, .bool g.op] 30 → BY = .cells #[.slice A n c, .slice (some ⟨wq.heap.size, 0, none⟩) 1 1] 22 → W = (wq.alloc BX).alloc BY → Calls Try.prog 37 #[.slice (some ⟨wq.heap.size + 1, 0, none⟩) 2 2] W fun e w' => ∃ v, e = .returned v ∧ EO EG 5 30 w' wq.heap.size v (l ++ [g]) ∧ Below wq.heap.size wq w') := Lib.hid (by
              intro BX BY W hBX hBY hW
              have hb4 := gr_alloc (gr_refl wq) BX
              have hs4 : (wq.alloc BX).heap.size = wq.heap.size + 1 := World.size_alloc _ _
              have hb5 := gr_alloc (gr_refl (wq.alloc BX)) BY
              have hc5 := heap_alloc_new (wq.alloc BX) BY
              rw [hs4, ← hW] at hc5
              rw [← hW] at hb5
              have hER : ER EG 5 (wq.alloc BX) (some ⟨wq.heap.size, 0, none⟩) 1 [g] := ⟨rfl, by rw [hBX]; exact rd_new1 wq 30 5 (EG g) rfl⟩
              rw [hBY] at hc5
              refine (ConcatGr_any A (some ⟨wq.heap.size, 0, none⟩) n 1 c 1 (wq.heap.size + 1) l [g] W ((HSq.out.below hb4).below hb5) (hER.below hb5) (by rw [cell_of_row W _ 0 _ _ _ hc5]; rfl) (by rw [cell_of_row W _ 1 _ _ _ hc5]; rfl) (by omega)).mono ?_
              rintro e w' ⟨v, rfl, ho, hb⟩
              have hbw : Below wq.heap.size wq W := hb4.trans (hb5.mono hb4.size)
              exact ⟨v, rfl, ho.lower hbw.size, hbw.trans (hb.mono hbw.size)⟩)
            go_wp2_with fail
            refine (HCC.out _ _ _ rfl rfl rfl).mono ?_
            rintro e w6 ⟨v6, rfl, ho6, hb6⟩
            obtain ⟨gn, cn, rfl, hgn, hgl, hcn1, hcn2⟩ := ho6.block (by simp)
            have hln : (l ++ [g]).length = n + 1 := by rw [List.length_append, HL.out]; rfl
            rw [hln] at ho6 hcn1 ⊢
            have HO6 := Lib.hid ho6
            have HB6 := Lib.hid hb6
            have HC6 := Lib.hid ((hb6.block w.heap.size (Array.getElem?_eq_some_iff.1 HCq.out).1).trans HCq.out)
            have HS6 := Lib.hid (HSq.out.below hb6)
            have HIX := Lib.hid (IndexFuncGr_any 39 #[.pointer (some ⟨w.heap.size, 0, none⟩)] egGive (fun h => alikeB h g) A n c l w6 HS6.out (by omega) (fun W x _ hW => by
              refine (giveC g w.heap.size x W ((hW.block _ (Array.getElem?_eq_some_iff.1 HC6.out).1).trans HC6.out)).mono ?_
              rintro e w' ⟨rfl, hb⟩
              exact ⟨rfl, hW.trans (hb.mono hW.size)⟩))
            have HBW6 := Lib.hid (HBq.out.trans (hb6.mono HBq.out.size))
            clear ho6 hb6 HCC hln c0 c1 c2 c3 c4
            go_wp2_with fail
            refine HIX.out.mono ?_
            rintro e w7 ⟨r, rfl, hidx, hb7⟩
            have HIDX := Lib.hid hidx
            have HB7 := Lib.hid (HBW6.out.trans (hb7.mono HBW6.out.size))
            have HO7 := Lib.hid (HO6.out.below hb7)
            have HC7 := Lib.hid ((hb7.block w.heap.size (Array.getElem?_eq_some_iff.1 HC6.out).1).trans HC6.out)
            have HGW : Hid (w.heap.size ≤ gn) := Lib.hid (Nat.le_trans HBq.out.size hgn)
            clear hidx hb7 HIX
            have hcut := fun W => run_cut_h (P := Try.prog) W 22 30 i0 Try.underlying22 hi0 5 hz1 (some ⟨gn, 0, none⟩) (n + 1) cn (n : Int) n rfl (by omega)
            have HCUT := Lib.hid hcut
            clear hcut
            rcases HIDX.out with ⟨rfl, hno⟩ | ⟨k, x, rfl, hx, hax, hbef⟩
            · have HFIN : Hid (EO EG 5 30 w7 w.heap.size (.slice (some ⟨gn, 0, none⟩) (n + 1) cn) (giveL l g)) := Lib.hid (by rw [giveL_none hno]; exact HO7.out.lower HBq.out.size)
              clear hno
              go_wp2_with fail
              go_ret2
              exact ⟨.inr ⟨_, rfl, HE0.out, HFIN.out⟩, HB7.out⟩
            · have hkl : k < n := by rw [← HL.out]; exact (List.getElem?_eq_some_iff.1 hx).1
              have HGL := Lib.hid (giveL_at hx hax hbef)
              have hx2 : (l ++ [g])[k]? = some x := by rw [List.getElem?_append_left (by rw [HL.out]; exact hkl)]; exact hx
              have y0 := HO7.out.cellG hx2
              have f0 := own_frozen HO7.out (k * 5 + 4)
              obtain ⟨d0, d1, d2, d3, d4⟩ := cells5 HC7.out
              have i0' : (0 : Int) ≤ (k : Int) := Int.natCast_nonneg _
              have i1' : (k : Int) < ((n + 1 : Nat) : Int) := by omega
              have i2' : (k : Int) < (n : Int) + 1 := by omega
              have t9 : decide ((k : Int) < 0) = false := decide_eq_false (by omega)
              have HFIN : Hid (∀ W, W = w7.setCell ⟨gn, k * 5 + 4, none⟩ (.bool (x.op || g.op)) → EO EG 5 30 W w.heap.size (.slice (some ⟨gn, 0, none⟩) n cn) (giveL l g) ∧ Below w.heap.size w W) := Lib.hid (by
                rintro W rfl
                have hset : EO EG 5 30 (w7.setCell ⟨gn, k * 5 + 4, none⟩ (.bool (x.op || g.op))) wq.heap.size (.slice (some ⟨gn, 0, none⟩) (n + 1) cn) ((l ++ [g]).set k { x with op := x.op || g.op }) := by
                  have h1 := HO7.out
                  unfold EO at h1 ⊢
                  have hl : (l ++ [g]).length = n + 1 := by rw [List.length_append, HL.out]; rfl
                  rw [hl] at h1
                  rw [List.length_set, hl, ← flat_set EG_len (l ++ [g]) k 4 x { x with op := x.op || g.op } (.bool (x.op || g.op)) hx2 (by decide) rfl]
                  exact own_setK h1 _ _
                have hpre := hset.pre EG_len (m := n) (by rw [List.length_set, List.length_append, HL.out]; rfl) (by omega)
                have e1 : (((l ++ [g]).set k { x with op := x.op || g.op }).take n) = giveL l g := by
                  rw [HGL.out, List.set_append_left _ _ (by rw [HL.out]; exact hkl)]
                  exact List.take_left' (by rw [List.length_set, HL.out])
                rw [e1] at hpre
                exact ⟨hpre.lower HBq.out.size, HB7.out.trans (((Off.refl (· = gn) w7).setCell (g := gn) (j := k * 5 + 4) (.bool (x.op || g.op)) rfl).below (fun j hj => by rw [hj]; exact HGW.out) HB7.out.size)⟩)
              clear hx hax hbef hx2 HC6 HC7 d0 d1 d2 d3
              have hcut := HCUT.out
              cases hxo : x.op
              · cases hgo : g.op
                all_goals
                  rw [hxo] at y0
                  rw [hgo] at d4
                  simp only [hxo, hgo, Bool.or_false, Bool.or_true] at HFIN
                  clear hxo hgo
                  go_wp2_with fail
                  have HF2 := Lib.hid (HFIN.out _ rfl)
                  go_ret2
                  exact ⟨.inr ⟨_, rfl, HE0.out, HF2.out.1⟩, HF2.out.2⟩
              · rw [hxo] at y0
                simp only [hxo, Bool.true_or] at HFIN
                clear hxo
                go_wp2_with fail
                have HF2 := Lib.hid (HFIN.out _ rfl)
                go_ret2
                exact ⟨.inr ⟨_, rfl, HE0.out, HF2.out.1⟩, HF2.out.2⟩
        · have HE0 : Hid (giveE l ow g = 0) := Lib.hid (by rw [HE.out]; rfl)
          have HBq := HA
          have HSq := HS
          have HCq := HCA
          clear HA HS HCA HBq1
          generalize w1 = wq at *
          have HCC : Hid (∀ BX BY W, BX = .cells #[.string ⟨g.tb.toArray⟩, .int .u8 g.pv, .string ⟨g.gt.toArray⟩, .string ⟨g.gb.toArray⟩, .bool g.op] 30 → BY = .cells #[.slice A n c, .slice (some ⟨wq.heap.size, 0, none⟩) 1 1] 22 → W = (wq.alloc BX).alloc BY → Calls Try.prog 37 #[.slice (some ⟨wq.heap.size + 1, 0, none⟩) 2 2] W fun e w' => ∃ v, e = .returned v ∧ EO EG 5 30 w' wq.heap.size v (l ++ [g]) ∧ Below wq.heap.size wq w') := Lib.hid (by
            intro BX BY W hBX hBY hW
            have hb4 := gr_alloc (gr_refl wq) BX
            have hs4 : (wq.alloc BX).heap.size = wq.heap.size + 1 := World.size_alloc _ _
            have hb5 := gr_alloc (gr_refl (wq.alloc BX)) BY
            have hc5 := heap_alloc_new (wq.alloc BX) BY
            rw [hs4, ← hW] at hc5
            rw [← hW] at hb5
            have hER : ER EG 5 (wq.alloc BX) (some ⟨wq.heap.size, 0, none⟩) 1 [g] := ⟨rfl, by rw [hBX]; exact rd_new1 wq 30 5 (EG g) rfl⟩
            rw [hBY] at hc5
            refine (ConcatGr_any A (some ⟨wq.heap.size, 0, none⟩) n 1 c 1 (wq.heap.size + 1) l [g] W ((HSq.out.below hb4).below hb5) (hER.below hb5) (by rw [cell_of_row W _ 0 _ _ _ hc5]; rfl) (by rw [cell_of_row W _ 1 _ _ _ hc5]; rfl) (by omega)).mono ?_
            rintro e w' ⟨v, rfl, ho, hb⟩
            have hbw : Below wq.heap.size wq W := hb4.trans (hb5.mono hb4.size)
            exact ⟨v, rfl, ho.lower hbw.size, hbw.trans (hb.mono hbw.size)⟩)
          go_wp2_with fail
          refine (HCC.out _ _ _ rfl rfl rfl).mono ?_
          rintro e w6 ⟨v6, rfl, ho6, hb6⟩
          obtain ⟨gn, cn, rfl, hgn, hgl, hcn1, hcn2⟩ := ho6.block (by simp)
          have hln : (l ++ [g]).length = n + 1 := by rw [List.length_append, HL.out]; rfl
          rw [hln] at ho6 hcn1 ⊢
          have HO6 := Lib.hid ho6
          have HB6 := Lib.hid hb6
          have HC6 := Lib.hid ((hb6.block w.heap.size (Array.getElem?_eq_some_iff.1 HCq.out).1).trans HCq.out)
          have HS6 := Lib.hid (HSq.out.below hb6)
          have HIX := Lib.hid (IndexFuncGr_any 39 #[.pointer (some ⟨w.heap.size, 0, none⟩)] egGive (fun h => alikeB h g) A n c l w6 HS6.out (by omega) (fun W x _ hW => by
            refine (giveC g w.heap.size x W ((hW.block _ (Array.getElem?_eq_some_iff.1 HC6.out).1).trans HC6.out)).mono ?_
            rintro e w' ⟨rfl, hb⟩
            exact ⟨rfl, hW.trans (hb.mono hW.size)⟩))
          have HBW6 := Lib.hid (HBq.out.trans (hb6.mono HBq.out.size))
          clear ho6 hb6 HCC hln c0 c1 c2 c3 c4
          go_wp2_with fail
          refine HIX.out.mono ?_
          rintro e w7 ⟨r, rfl, hidx, hb7⟩
          have HIDX := Lib.hid hidx
          have HB7 := Lib.hid (HBW6.out.trans (hb7.mono HBW6.out.size))
          have HO7 := Lib.hid (HO6.out.below hb7)
          have HC7 := Lib.hid ((hb7.block w.heap.size (Array.getElem?_eq_some_iff.1 HC6.out).1).trans HC6.out)
          have HGW : Hid (w.heap.size ≤ gn) := Lib.hid (Nat.le_trans HBq.out.size hgn)
          clear hidx hb7 HIX
          have hcut := fun W => run_cut_h (P := Try.prog) W 22 30 i0 Try.underlying22 hi0 5 hz1 (some ⟨gn, 0, none⟩) (n + 1) cn (n : Int) n rfl (by omega)
          have HCUT := Lib.hid hcut
          clear hcut
          rcases HIDX.out with ⟨rfl, hno⟩ | ⟨k, x, rfl, hx, hax, hbef⟩
          · have HFIN : Hid (EO EG 5 30 w7 w.heap.size (.slice (some ⟨gn, 0, none⟩) (n + 1) cn) (giveL l g)) := Lib.hid (by rw [giveL_none hno]; exact HO7.out.lower HBq.out.size)
            clear hno
            go_wp2_with fail
            go_ret2
            exact ⟨.inr ⟨_, rfl, HE0.out, HFIN.out⟩, HB7.out⟩
          · have hkl : k < n := by rw [← HL.out]; exact (List.getElem?_eq_some_iff.1 hx).1
            have HGL := Lib.hid (giveL_at hx hax hbef)
            have hx2 : (l ++ [g])[k]? = some x := by rw [List.getElem?_append_left (by rw [HL.out]; exact hkl)]; exact hx
            have y0 := HO7.out.cellG hx2
            have f0 := own_frozen HO7.out (k * 5 + 4)
            obtain ⟨d0, d1, d2, d3, d4⟩ := cells5 HC7.out
            have i0' : (0 : Int) ≤ (k : Int) := Int.natCast_nonneg _
            have i1' : (k : Int) < ((n + 1 : Nat) : Int) := by omega
            have i2' : (k : Int) < (n : Int) + 1 := by omega
            have t9 : decide ((k : Int) < 0) = false := decide_eq_false (by omega)
            have HFIN : Hid (∀ W, W = w7.setCell ⟨gn, k * 5 + 4, none⟩ (.bool (x.op || g.op)) → EO EG 5 30 W w.heap.size (.slice (some ⟨gn, 0, none⟩) n cn) (giveL l g) ∧ Below w.heap.size w W) := Lib.hid (by
              rintro W rfl
              have hset : EO EG 5 30 (w7.setCell ⟨gn, k * 5 + 4, none⟩ (.bool (x.op || g.op))) wq.heap.size (.slice (some ⟨gn, 0, none⟩) (n + 1) cn) ((l ++ [g]).set k { x with op := x.op || g.op }) := by
                have h1 := HO7.out
                unfold EO at h1 ⊢
                have hl : (l ++ [g]).length = n + 1 := by rw [List.length_append, HL.out]; rfl
                rw [hl] at h1
                rw [List.length_set, hl, ← flat_set EG_len (l ++ [g]) k 4 x { x with op := x.op || g.op } (.bool (x.op || g.op)) hx2 (by decide) rfl]
                exact own_setK h1 _ _
              have hpre := hset.pre EG_len (m := n) (by rw [List.length_set, List.length_append, HL.out]; rfl) (by omega)
              have e1 : (((l ++ [g]).set k { x with op := x.op || g.op }).take n) = giveL l g := by
                rw [HGL.out, List.set_append_left _ _ (by rw [HL.out]; exact hkl)]
                exact List.take_left' (by rw [List.length_set, HL.out])
              rw [e1] at hpre
              exact ⟨hpre.lower HBq.out.size, HB7.out.trans (((Off.refl (· = gn) w7).setCell (g := gn) (j := k * 5 + 4) (.bool (x.op || g.op)) rfl).below (fun j hj => by rw [hj]; exact HGW.out) HB7.out.size)⟩)
            clear hx hax hbef hx2 HC6 HC7 d0 d1 d2 d3
            have hcut := HCUT.out
            cases hxo : x.op
            · cases hgo : g.op
              all_goals
                rw [hxo] at y0
                rw [hgo] at d4
                simp only [hxo, hgo, Bool.or_false, Bool.or_true] at HFIN
                clear hxo hgo
                go_wp2_with fail
                have HF2 := Lib.hid (HFIN.out _ rfl)
                go_ret2
                exact ⟨.inr ⟨_, rfl, HE0.out, HF2.out.1⟩, HF2.out.2⟩
            · rw [hxo] at y0
              simp only [hxo, Bool.true_or] at HFIN
              clear hxo
              go_wp2_with fail
              have HF2 := Lib.hid (HFIN.out _ rfl)
              go_ret2
              exact ⟨.inr ⟨_, rfl, HE0.out, HF2.out.1⟩, HF2.out.2⟩
      · have HE2 : Hid (giveE l ow g = 2) := Lib.hid (by rw [HE.out]; rfl)
        go_wp2_with fail
        go_ret2
        exact ⟨.inl ⟨by rw [HE2.out]; rfl, by rw [HE2.out]; decide⟩, HA.out⟩
    · have HE2 : Hid (giveE l ow g = 2) := Lib.hid (by rw [HE.out]; rfl)
      go_wp2_with fail
      go_ret2
      exact ⟨.inl ⟨by rw [HE2.out]; rfl, by rw [HE2.out]; decide⟩, HA.out⟩
  · have HE2 : Hid (giveE l ow g = 2) := Lib.hid (by rw [HE.out]; rfl)
    go_wp2_with fail
    go_ret2
    exact ⟨.inl ⟨by rw [HE2.out]; rfl, by rw [HE2.out]; decide⟩, HA.out⟩

end Go.Proofs.Ytfgkadkmgciamaa
