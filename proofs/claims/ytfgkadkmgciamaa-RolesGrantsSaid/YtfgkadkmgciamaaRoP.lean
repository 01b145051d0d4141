/-
  Take's closures; slices.DeleteFunc of grants.
-/
import Derived.Test.YtfgkadkmgciamaaRoO
namespace Go.Proofs.Ytfgkadkmgciamaa
open Go Go.RowKit Go.Maps Go.WideMaps

set_option maxRecDepth 100000 in
set_option maxHeartbeats 2000000 in
theorem holdsC (b bm : Nat) (ks : List Str) (x : Gr) (w : World) (y : w.cell? ⟨bm, 0, none⟩ = some (.map (some b))) (hms : MS w b ks) (hx : x.gb.length ≤ maxLen) :
    Calls Try.prog 41 #[.agg #[.string ⟨x.tb.toArray⟩, .int .u8 x.pv, .string ⟨x.gt.toArray⟩, .string ⟨x.gb.toArray⟩, .bool x.op], .pointer (some ⟨bm, 0, none⟩)] w fun e w' => e = .returned (.bool (ks.contains x.gb)) ∧ Below w.heap.size w w' := by
  have HA := Lib.hid (gr_alloc (gr_refl w) (.cells #[.string ⟨x.tb.toArray⟩, .int .u8 x.pv, .string ⟨x.gt.toArray⟩, .string ⟨x.gb.toArray⟩, .bool x.op] 30))
  have HCA := Lib.hid (heap_alloc_new w (.cells #[.string ⟨x.tb.toArray⟩, .int .u8 x.pv, .string ⟨x.gt.toArray⟩, .string ⟨x.gb.toArray⟩, .bool x.op] 30))
  obtain ⟨cv, hlk⟩ := (hms.below HA.out).look x.gb hx
  generalize ks.contains x.gb = r at *
  clear hms
  go_enter Try.func41, Try.ntmps41
  go_upto_region 1 with fail
  generalize w.alloc (.cells #[.string ⟨x.tb.toArray⟩, .int .u8 x.pv, .string ⟨x.gt.toArray⟩, .string ⟨x.gb.toArray⟩, .bool x.op] 30) = w1 at *
  obtain ⟨c0, c1, c2, c3, c4⟩ := cells5 HCA.out
  have y := keep_of_below HA.out y
  go_wp2_with fail
  go_ret
  exact ⟨rfl, HA.out⟩

set_option maxRecDepth 100000 in
set_option maxHeartbeats 2000000 in
theorem takeC (g : Gr) (b bm bg bh : Nat) (ks : List Str) (x : Gr) (w : World) (hg : w.heap[bg]? = some (.cells #[.string ⟨g.tb.toArray⟩, .int .u8 g.pv, .string ⟨g.gt.toArray⟩, .string ⟨g.gb.toArray⟩, .bool g.op] 30 (0, 0))) (yh : w.cell? ⟨bh, 0, none⟩ = some (.func (.func 41) #[] #[.pointer (some ⟨bm, 0, none⟩)])) (y : w.cell? ⟨bm, 0, none⟩ = some (.map (some b))) (hms : MS w b ks) (hx : x.gb.length ≤ maxLen) :
    Calls Try.prog 43 #[.agg #[.string ⟨x.tb.toArray⟩, .int .u8 x.pv, .string ⟨x.gt.toArray⟩, .string ⟨x.gb.toArray⟩, .bool x.op], .pointer (some ⟨bg, 0, none⟩), .pointer (some ⟨bh, 0, none⟩)] w fun e w' => e = .returned (.bool (x.tb == g.tb && x.pv == g.pv && !(ks.contains x.gb))) ∧ Below w.heap.size w w' := by
  have HA := Lib.hid (gr_alloc (gr_refl w) (.cells #[.string ⟨x.tb.toArray⟩, .int .u8 x.pv, .string ⟨x.gt.toArray⟩, .string ⟨x.gb.toArray⟩, .bool x.op] 30))
  have HCA := Lib.hid (heap_alloc_new w (.cells #[.string ⟨x.tb.toArray⟩, .int .u8 x.pv, .string ⟨x.gt.toArray⟩, .string ⟨x.gb.toArray⟩, .bool x.op] 30))
  obtain ⟨r0, hr0⟩ : ∃ r, r = (x.tb == g.tb) := ⟨_, rfl⟩
  obtain ⟨r1, hr1⟩ : ∃ r, r = (x.pv == g.pv) := ⟨_, rfl⟩
  obtain ⟨r2, hr2⟩ : ∃ r, r = ks.contains x.gb := ⟨_, rfl⟩
  have HH := Lib.hid (holdsC b bm ks x _ (keep_of_below HA.out y) (hms.below HA.out) hx)
  rw [← hr2] at HH
  rw [← hr0, ← hr1, ← hr2]
  have t0 : (x.tb == g.tb) = r0 := hr0.symm
  have t1 : (x.pv == g.pv) = r1 := hr1.symm
  clear hr0 hr1 hr2 hms
  obtain ⟨b0, b1, b2, b3, b4⟩ := cells5 hg
  go_enter Try.func43, Try.ntmps43
  go_upto_region 1 with fail
  generalize w.alloc (.cells #[.string ⟨x.tb.toArray⟩, .int .u8 x.pv, .string ⟨x.gt.toArray⟩, .string ⟨x.gb.toArray⟩, .bool x.op] 30) = w1 at *
  obtain ⟨c0, c1, c2, c3, c4⟩ := cells5 HCA.out
  have b0 := keep_of_below HA.out b0
  have b1 := keep_of_below HA.out b1
  have yh := keep_of_below HA.out yh
  cases r0
  · go_wp2_with fail
    go_ret
    exact ⟨rfl, HA.out⟩
  · cases r1
    · go_wp2_with fail
      go_ret
      exact ⟨rfl, HA.out⟩
    · go_wp2_with fail
      refine HH.out.mono ?_
      rintro e w2 ⟨rfl, hb2⟩
      have HB2 := Lib.hid (gr_trans HA.out hb2)
      clear hb2
      go_wp2_with fail
      go_ret
      exact ⟨rfl, HB2.out⟩

/-- Zero values are cells. -/
theorem zero_one (z : Array Value) (h : ∀ j, j < z.size → z[j]!.oneCell' = true) (h0 : 0 < z.size) (n : Nat) : ∀ u ∈ (Builtin.zeroCells z n).toList, u.oneCell' = true := by
  intro u hu
  unfold Builtin.zeroCells at hu
  simp only [Array.toList_map, List.mem_map] at hu
  obtain ⟨i, _, rfl⟩ := hu
  exact h _ (Nat.mod_lt _ h0)

theorem takeflat (l : List Gr) (m : Nat) : (l.flatMap EG).take (m * 5) = (l.take m).flatMap EG := by
  induction l generalizing m with
  | nil => simp
  | cons x l ih =>
    cases m with
    | zero => simp
    | succ m => rw [List.take_succ_cons, List.flatMap_cons, List.flatMap_cons, List.take_append, EG_len, Nat.succ_mul, Nat.add_sub_cancel, ih m, List.take_of_length_le (by rw [EG_len]; omega)]
theorem run_clearG {w : World} {base gq n c : Nat} {xs : List Value} (h : w.ownsRow base 30 5 (.slice (some ⟨gq, 0, none⟩) n c) n xs) (i : Nat) (hi : i < n) :
    ∃ w', (∀ ty cc, (Builtin.clear_ #[22] ty #[.slice (some ⟨gq, i * 5, none⟩) (n - i) cc]).run Try.prog w = .ok (.tuple #[]) w') ∧ w'.ownsRow base 30 5 (.slice (some ⟨gq, 0, none⟩) i c) i (xs.take (i * 5)) ∧ Off (· = gq) w w' := by
  obtain ⟨h1, h2⟩ := h
  rcases h2 with ⟨e, _⟩ | ⟨g', cap', cur, e, hb, hg, hnc, hmx, hcu, ht⟩
  · cases e
  · cases e
    have hv : ∀ w, (zeroValue 30).run Try.prog w = .ok (.agg #[.string ⟨#[]⟩, .int .u8 0, .string ⟨#[]⟩, .string ⟨#[]⟩, .bool false]) w := fun _ => by kernel_rfl
    have hone := zero_one #[.string ⟨#[]⟩, .int .u8 0, .string ⟨#[]⟩, .string ⟨#[]⟩, .bool false] (fun j hj => by
      have : j = 0 ∨ j = 1 ∨ j = 2 ∨ j = 3 ∨ j = 4 := by simp at hj; omega
      rcases this with rfl | rfl | rfl | rfl | rfl <;> rfl) (by decide) (n - i)
    have hsz : (Builtin.zeroCells #[.string ⟨#[]⟩, .int .u8 0, .string ⟨#[]⟩, .string ⟨#[]⟩, .bool false] (n - i)).size = (n - i) * 5 := size_zeroCells _ _
    have hlen : (Builtin.zeroCells #[.string ⟨#[]⟩, .int .u8 0, .string ⟨#[]⟩, .string ⟨#[]⟩, .bool false] (n - i)).toList.length = (n - i) * 5 := by rw [Array.length_toList]; exact hsz
    generalize hZ : Builtin.zeroCells #[.string ⟨#[]⟩, .int .u8 0, .string ⟨#[]⟩, .string ⟨#[]⟩, .bool false] (n - i) = Z at *
    have hni : i * 5 + (n - i) * 5 = n * 5 := by rw [← Nat.add_mul]; congr 1; omega
    have hcc : n * 5 ≤ cur.size := by rw [hcu]; exact Nat.mul_le_mul_right _ hnc
    have hst := run_storeCells_at Try.prog gq (i * 5) 30 Z.toList 0 cur w hg (by rw [hlen]; omega) hone
    obtain ⟨m, hm⟩ : ∃ m, n - i = m + 1 := ⟨n - i - 1, by omega⟩
    refine ⟨w.setRow gq (cur.toList.take (i * 5 + 0) ++ Z.toList ++ cur.toList.drop (i * 5 + 0 + Z.toList.length)).toArray, fun ty cc => ?_, ⟨?_, .inr ⟨gq, c, (cur.toList.take (i * 5 + 0) ++ Z.toList ++ cur.toList.drop (i * 5 + 0 + Z.toList.length)).toArray, rfl, hb, setRow_heap w gq cur _ _ _ hg, by omega, hmx, ?_, ?_⟩⟩, ⟨rfl, rfl, rfl, by simp, fun j _ hj => setRow_other w gq j _ (fun e => hj e)⟩⟩
    · rw [hm] at hZ ⊢
      simp [Builtin.clear_, run_underlying Try.underlying22, hv, Value.cells, hZ, hst]
    · rw [List.length_take, h1]
      have := Nat.mul_le_mul_right 5 (Nat.le_of_lt hi)
      omega
    · simp only [List.size_toArray, List.length_append, List.length_take, List.length_drop, Array.length_toList, hlen]
      rw [← hcu]
      omega
    · rw [Nat.add_zero, ← ht, List.take_take, List.append_assoc, List.take_append_of_le_length (by rw [List.length_take, Array.length_toList]; omega), List.take_take, Nat.min_self, Nat.min_eq_left (Nat.mul_le_mul_right _ (Nat.le_of_lt hi))]

theorem EO.cellsG {w : World} {base g n c : Nat} {l : List Gr} (h : EO EG 5 30 w base (.slice (some ⟨g, 0, none⟩) n c) l) {i : Nat} {x : Gr} (hx : l[i]? = some x) : w.cell? ⟨g, i * 5, none⟩ = some (.string ⟨x.tb.toArray⟩) ∧ w.cell? ⟨g, i * 5 + 1, none⟩ = some (.int .u8 x.pv) ∧ w.cell? ⟨g, i * 5 + 2, none⟩ = some (.string ⟨x.gt.toArray⟩) ∧ w.cell? ⟨g, i * 5 + 3, none⟩ = some (.string ⟨x.gb.toArray⟩) ∧ w.cell? ⟨g, i * 5 + 4, none⟩ = some (.bool x.op) := by
  obtain ⟨A, c', e, her, _⟩ := h.form
  injection e with e1 e2 e3
  subst e1
  obtain ⟨g', o, y, e4, hy, c0, c1, c2, c3, c4⟩ := her.atGr (List.getElem?_eq_some_iff.1 hx).1
  injection e4 with e4
  injection e4 with e4 e5
  subst e4 e5
  rw [hx] at hy
  injection hy with hy
  subst hy
  exact ⟨by simpa using c0, by simpa using c1, by simpa using c2, by simpa using c3, by simpa using c4⟩
theorem flat_setG {l : List Gr} {i : Nat} {y x : Gr} (hy : l[i]? = some y) : (((((l.flatMap EG).set (i * 5) (.string ⟨x.tb.toArray⟩)).set (i * 5 + 1) (.int .u8 x.pv)).set (i * 5 + 2) (.string ⟨x.gt.toArray⟩)).set (i * 5 + 3) (.string ⟨x.gb.toArray⟩)).set (i * 5 + 4) (.bool x.op) = (l.set i x).flatMap EG := by
  have hi := (List.getElem?_eq_some_iff.1 hy).1
  have e0 := flat_set EG_len l i 0 y { y with tb := x.tb } _ hy (by decide) rfl
  have e1 := flat_set EG_len (l.set i { y with tb := x.tb }) i 1 { y with tb := x.tb } { y with tb := x.tb, pv := x.pv } _ (List.getElem?_set_self hi) (by decide) rfl
  have e2 := flat_set EG_len (l.set i { y with tb := x.tb, pv := x.pv }) i 2 { y with tb := x.tb, pv := x.pv } { y with tb := x.tb, pv := x.pv, gt := x.gt } _ (List.getElem?_set_self hi) (by decide) rfl
  have e3 := flat_set EG_len (l.set i { y with tb := x.tb, pv := x.pv, gt := x.gt }) i 3 { y with tb := x.tb, pv := x.pv, gt := x.gt } { y with tb := x.tb, pv := x.pv, gt := x.gt, gb := x.gb } _ (List.getElem?_set_self hi) (by decide) rfl
  have e4 := flat_set EG_len (l.set i { y with tb := x.tb, pv := x.pv, gt := x.gt, gb := x.gb }) i 4 { y with tb := x.tb, pv := x.pv, gt := x.gt, gb := x.gb } x _ (List.getElem?_set_self hi) (by decide) rfl
  rw [List.set_set] at e1 e2 e3 e4
  rw [Nat.add_zero] at e0
  dsimp only at e0 e1 e2 e3 e4
  rw [e0, e1, e2, e3, e4]
theorem EO.set5 {w : World} {base gq n c : Nat} {l : List Gr} (h : EO EG 5 30 w base (.slice (some ⟨gq, 0, none⟩) n c) l) (hn : l.length = n) {i : Nat} (hi : i < n) (x : Gr) : EO EG 5 30 (((((w.setCell ⟨gq, i * 5, none⟩ (.string ⟨x.tb.toArray⟩)).setCell ⟨gq, i * 5 + 1, none⟩ (.int .u8 x.pv)).setCell ⟨gq, i * 5 + 2, none⟩ (.string ⟨x.gt.toArray⟩)).setCell ⟨gq, i * 5 + 3, none⟩ (.string ⟨x.gb.toArray⟩)).setCell ⟨gq, i * 5 + 4, none⟩ (.bool x.op)) base (.slice (some ⟨gq, 0, none⟩) n c) (l.set i x) := by
  have hy : l[i]? = some (l[i]'(by omega)) := List.getElem?_eq_getElem (by omega)
  unfold EO at h ⊢
  rw [hn] at h
  rw [List.length_set, hn, ← flat_setG hy]
  exact own_setK (own_setK (own_setK (own_setK (own_setK h _ _) _ _) _ _) _ _) _ _

set_option maxRecDepth 100000 in
set_option maxHeartbeats 4000000 in
theorem DeleteFunc_nil (A : Option Addr) (c : Nat) (g : Nat) (lb : Array Value) (eg : ∀ args w, (callFunc g args).run Try.prog w = .ok (.enter g args) w) (w : World) :
    Calls Try.prog 42 #[.slice A 0 c, .func (.func g) #[] lb] w fun e w' => e = .returned (.slice A 0 c) ∧ Below w.heap.size w w' := by
  have HI := Lib.hid (IndexFuncGr_any g lb eg (fun _ => false) A 0 c [] w (ER.none_ w A) (by omega) (fun W x hx _ => by cases hx))
  go_enter Try.func42, Try.ntmps42
  go_wp2_with fail
  refine HI.out.mono ?_
  rintro e w1 ⟨r, rfl, hidx, hb⟩
  obtain rfl : r = -1 := by
    rcases hidx with ⟨e, _⟩ | ⟨k, x, _, hx, _⟩
    · exact e
    · simp at hx
  have HB := Lib.hid hb
  clear hidx hb
  go_wp2_with fail
  go_ret
  exact ⟨rfl, HB.out⟩

set_option maxRecDepth 100000 in
set_option maxHeartbeats 4000000 in
theorem DeleteFunc_any (g : Nat) (lb : Array Value) (eg : ∀ args w, (callFunc g args).run Try.prog w = .ok (.enter g args) w) (p : Gr → Bool) (gq n c base : Nat) (l : List Gr) (w : World) (h : EO EG 5 30 w base (.slice (some ⟨gq, 0, none⟩) n c) l) (hl : l.length = n) (hn : n ≤ 2199023255552) (hc : n ≤ c) (_hcm : c ≤ maxLen) (_hgl : gq < w.heap.size)
    (hp : ∀ (W : World) (x : Gr), x ∈ l → Off (· = gq) w W → Calls Try.prog g (#[.agg (EG x).toArray] ++ lb) W fun e w' => e = .returned (.bool (p x)) ∧ Below W.heap.size W w') :
    Calls Try.prog 42 #[.slice (some ⟨gq, 0, none⟩) n c, .func (.func g) #[] lb] w fun e w' => ∃ m, e = .returned (.slice (some ⟨gq, 0, none⟩) m c) ∧ m ≤ n ∧ EO EG 5 30 w' base (.slice (some ⟨gq, 0, none⟩) m c) (l.filter fun x => !p x) ∧ Off (· = gq) w w' := by
  obtain ⟨i0, z, hi0, hz0, hzs, hz1, hz2⟩ := info_Gr'
  have HER : Hid (ER EG 5 w (some ⟨gq, 0, none⟩) n l) := Lib.hid (by
    obtain ⟨A, c', e, her, _⟩ := h.form
    injection e with e1 e2 e3
    subst e1
    rw [hl] at her
    exact her)
  have HI := Lib.hid (IndexFuncGr_any g lb eg p (some ⟨gq, 0, none⟩) n c l w HER.out (by omega) (fun W x hx hW => (hp W x hx (Off.of_below hW)).mono (fun e w' hh => ⟨hh.1, hW.trans (hh.2.mono hW.size)⟩)))
  have HO := Lib.hid h
  have HL := Lib.hid hl
  have HP := Lib.hid hp
  have hcutA := fun (W : World) (i : Nat) (hi : i ≤ n) => run_cut_l (P := Try.prog) W 22 30 i0 Try.underlying22 hi0 5 hz1 (some ⟨gq, 0, none⟩) n c (i : Int) i rfl hi
  have hcutB := fun (W : World) (i : Nat) (hi : i ≤ c) => run_cut_h (P := Try.prog) W 22 30 i0 Try.underlying22 hi0 5 hz1 (some ⟨gq, 0, none⟩) n c (i : Int) i rfl hi
  have HCA := Lib.hid hcutA
  have HCB := Lib.hid hcutB
  clear h hl hp hcutA hcutB
  go_enter Try.func42, Try.ntmps42
  go_wp2_with fail
  refine HI.out.mono ?_
  rintro e w1 ⟨r, rfl, hidx, hb1⟩
  have HB1 := Lib.hid hb1
  have HIX := Lib.hid hidx
  clear hb1 hidx HI
  rcases HIX.out with ⟨rfl, hno⟩ | ⟨k, x, rfl, hx, hpx, hbef⟩
  · have HF : Hid (EO EG 5 30 w1 base (.slice (some ⟨gq, 0, none⟩) n c) (l.filter fun x => !p x)) := Lib.hid (by
      rw [List.filter_eq_self.2 (fun x hx => by rw [hno x hx]; rfl)]
      exact HO.out.below HB1.out)
    clear hno
    go_wp2_with fail
    go_ret
    exact ⟨n, rfl, Nat.le_refl _, HF.out, Off.of_below HB1.out⟩
  · have hkn : k < n := by rw [← HL.out]; exact (List.getElem?_eq_some_iff.1 hx).1
    have tq : ((k : Int) == -1) = false := beq_eq_false_iff_ne.2 (by omega)
    have HF0 : Hid (l.take k = (l.take (k + 1)).filter fun x => !p x) := Lib.hid (by
      rw [take_snoc hx, List.filter_append, List.filter_eq_self.2 (fun y hy => ?_)]
      · simp [hpx]
      · obtain ⟨j, hj, rfl⟩ := List.getElem_of_mem hy
        rw [List.length_take] at hj
        rw [List.getElem_take, hbef j _ (by omega) (List.getElem?_eq_getElem (by omega))]
        rfl)
    have HO1 := Lib.hid (HO.out.below HB1.out)
    have HOF1 : Hid (Off (· = gq) w w1) := Lib.hid (Off.of_below HB1.out)
    clear hx hpx hbef HO HB1 HER
    go_wp2_with fail
    go_loopw [5, 6, 7] (fun iv jv _ wr => ∃ (i j : Nat) (ys : List Gr), i < j ∧ j ≤ n ∧ iv = .int .i64 (i : Int) ∧ jv = .int .i64 (j : Int) ∧ EO EG 5 30 wr base (.slice (some ⟨gq, 0, none⟩) n c) ys ∧ Hid (ys.length = n) ∧ Hid (ys.take i = (l.take j).filter fun x => !p x) ∧ Hid (∀ m, j ≤ m → ys[m]? = l[m]?) ∧ Off (· = gq) w wr) (fun _ jv _ _ => n - (intOf jv).toNat)
    case atStart => exact ⟨k, k + 1, l, by omega, by omega, rfl, by go_num, HO1.out, HL, HF0, Lib.hid (fun _ _ => rfl), HOF1.out⟩
    case round =>
      clear HO1 HOF1 HF0 tq
      obtain ⟨i, j, ys, hij, hjn, rfl, rfl, heo, HYL, HYT, HYD, hof⟩ := hrel
      have HEO := Lib.hid heo
      have HOF := Lib.hid hof
      by_cases hlt : j < n
      · have t1 : decide ((j : Int) < (n : Int)) = true := decide_eq_true (by omega)
        have t2 : decide (j < n) = true := decide_eq_true hlt
        have j0' : (0 : Int) ≤ (j : Int) := Int.natCast_nonneg _
        have j1' : (j : Int) < (n : Int) := by omega
        have i0' : (0 : Int) ≤ (i : Int) := Int.natCast_nonneg _
        have i1' : (i : Int) < (n : Int) := by omega
        obtain ⟨x, hx⟩ : ∃ x, l[j]? = some x := ⟨_, List.getElem?_eq_getElem (by rw [HL.out]; exact hlt)⟩
        have hyx : ys[j]? = some x := by rw [HYD.out j (Nat.le_refl _)]; exact hx
        obtain ⟨q0, q1, q2, q3, q4⟩ := heo.cellsG hyx
        have HX := Lib.hid hx
        have HXM := Lib.hid (List.mem_of_getElem? hx)
        have HTK := Lib.hid (take_snoc hx)
        have hba := gr_alloc (gr_refl wr) (.cells #[.string ⟨x.tb.toArray⟩, .int .u8 x.pv, .string ⟨x.gt.toArray⟩, .string ⟨x.gb.toArray⟩, .bool x.op] 30)
        have hca : (wr.alloc (.cells #[.string ⟨x.tb.toArray⟩, .int .u8 x.pv, .string ⟨x.gt.toArray⟩, .string ⟨x.gb.toArray⟩, .bool x.op] 30)).heap[wr.heap.size]? = some (.cells #[.string ⟨x.tb.toArray⟩, .int .u8 x.pv, .string ⟨x.gt.toArray⟩, .string ⟨x.gb.toArray⟩, .bool x.op] 30 (0, 0)) := heap_alloc_new wr _
        have HEO3 := Lib.hid (HEO.out.below hba)
        have HOF3 := Lib.hid (HOF.out.trans (Off.of_below (S := (· = gq)) hba))
        clear hx hyx heo hof hba
        go_upto_region 8 with fail
        generalize wr.alloc (.cells #[.string ⟨x.tb.toArray⟩, .int .u8 x.pv, .string ⟨x.gt.toArray⟩, .string ⟨x.gb.toArray⟩, .bool x.op] 30) = w3 at *
        clear q0 q1 q2 q3 q4
        obtain ⟨c0, c1, c2, c3, c4⟩ := cells5 hca
        have HC3 := Lib.hid hca
        have hcall := HP.out w3 x HXM.out HOF3.out
        clear hca
        cases hq : p x with
        | true =>
          rw [hq] at hcall
          have HQ := Lib.hid hq
          clear hq
          go_wp2_with (go_at_fn g; refine hcall.mono ?_; rintro e w' ⟨rfl, hb'⟩)
          have HB4 := Lib.hid (HOF3.out.trans (Off.of_below (S := (· = gq)) hb'))
          have HE4 := Lib.hid (HEO3.out.below hb')
          clear hb'
          go_roundw
          case rel => exact ⟨i, j + 1, ys, by omega, by omega, rfl, by go_num, HE4.out, HYL, Lib.hid (by rw [HTK.out, List.filter_append, HYT.out]; simp [HQ.out]), Lib.hid (fun m hm => HYD.out m (by omega)), HB4.out⟩
          case measure => simp [intOf]; omega
        | false =>
          rw [hq] at hcall
          have HQ := Lib.hid hq
          clear hq
          go_upto_region 9 with (go_at_fn g; refine hcall.mono ?_; rintro e w' ⟨rfl, hb'⟩)
          clear c0 c1 c2 c3 c4
          have HB4 := Lib.hid (HOF3.out.trans (Off.of_below (S := (· = gq)) hb'))
          have HE4 := Lib.hid (HEO3.out.below hb')
          obtain ⟨c0, c1, c2, c3, c4⟩ := cells5 ((hb'.block _ (Array.getElem?_eq_some_iff.1 HC3.out).1).trans HC3.out)
          clear hb' hcall
          obtain ⟨y, hy⟩ : ∃ y, ys[i]? = some y := ⟨_, List.getElem?_eq_getElem (by rw [HYL.out]; omega)⟩
          obtain ⟨d0, d1, d2, d3, d4⟩ := HE4.out.cellsG hy
          have f0 := own_frozen HE4.out (i * 5)
          have f1 := own_frozen HE4.out (i * 5 + 1)
          have f2 := own_frozen HE4.out (i * 5 + 2)
          have f3 := own_frozen HE4.out (i * 5 + 3)
          have f4 := own_frozen HE4.out (i * 5 + 4)
          have HIN : Hid (i < n) := Lib.hid (by omega)
          have HFIN : Hid (∀ W, W = (((((w'.setCell ⟨gq, i * 5, none⟩ (.string ⟨x.tb.toArray⟩)).setCell ⟨gq, i * 5 + 1, none⟩ (.int .u8 x.pv)).setCell ⟨gq, i * 5 + 2, none⟩ (.string ⟨x.gt.toArray⟩)).setCell ⟨gq, i * 5 + 3, none⟩ (.string ⟨x.gb.toArray⟩)).setCell ⟨gq, i * 5 + 4, none⟩ (.bool x.op)) → EO EG 5 30 W base (.slice (some ⟨gq, 0, none⟩) n c) (ys.set i x) ∧ Off (· = gq) w W) := Lib.hid (by
            rintro W rfl
            exact ⟨HE4.out.set5 HYL.out HIN.out x, ((((HB4.out.setCell _ rfl).setCell _ rfl).setCell _ rfl).setCell _ rfl).setCell _ rfl⟩)
          clear hy
          go_wp2_with fail
          have HF2 := Lib.hid (HFIN.out _ rfl)
          clear HFIN
          go_roundw
          case rel => exact ⟨i + 1, j + 1, ys.set i x, by omega, by omega, by go_num, by go_num, HF2.out.1, Lib.hid (by rw [List.length_set]; exact HYL.out), Lib.hid (by
            rw [List.take_add_one, List.getElem?_set_self (by rw [HYL.out]; omega), List.take_set_of_le (Nat.le_refl _), HYT.out, HTK.out, List.filter_append]
            simp [HQ.out]), Lib.hid (fun m hm => by rw [List.getElem?_set_ne (by omega)]; exact HYD.out m (by omega)), HF2.out.2⟩
          case measure => simp [intOf]; omega
      · obtain rfl : j = n := by omega
        have t1 : decide ((j : Int) < (j : Int)) = false := decide_eq_false (by omega)
        have HOW : Hid (wr.ownsRow base 30 5 (.slice (some ⟨gq, 0, none⟩) j c) j (ys.flatMap EG)) := Lib.hid (by have := heo; unfold EO at this; rw [HYL.out] at this; exact this)
        obtain ⟨w9, hclr, ho9, hof9⟩ := run_clearG HOW.out i hij
        have HF9 : Hid (EO EG 5 30 w9 base (.slice (some ⟨gq, 0, none⟩) i c) (l.filter fun x => !p x)) := Lib.hid (by
          have e1 : ys.take i = l.filter fun x => !p x := by rw [HYT.out, List.take_of_length_le (by rw [HL.out]; omega)]
          have e2 := takeflat ys i
          rw [e1] at e2
          rw [e2] at ho9
          unfold EO
          rw [← e1, List.length_take, HYL.out, Nat.min_eq_left (Nat.le_of_lt hij), e1]
          exact ho9)
        have HOF9 := Lib.hid (HOF.out.trans hof9)
        have hcA := fun W => HCA.out W i (by omega)
        have hcB := fun W => HCB.out W i (by omega)
        have hcutA : Go.Proofs.Ytfgkadkmgciamaa.cutA (some ⟨gq, 0, none⟩) c i 5 = some ⟨gq, i * 5, none⟩ := by
          unfold Go.Proofs.Ytfgkadkmgciamaa.cutA
          rw [if_neg (by omega)]
          simp [Addr.add_lit]
        rw [hcutA] at hcA
        clear heo hof ho9 hof9 hcutA
        go_wp2_with fail
        go_ret
        exact ⟨i, rfl, Nat.le_of_lt hij, HF9.out, HOF9.out⟩

end Go.Proofs.Ytfgkadkmgciamaa
