/-
  The walk of DiskPlays.
-/
import Derived.Test.YtjopobkcijkpmaaDpQ
import Derived.Deep.CutBlock
import Derived.Deep.DeepCutAuto
namespace Go.Proofs.Ytjopobkcijkpmaa
open Go Go.RowKit

/-- The state of play: two disks, two documents. -/
def PS (w wr : World) (bd bl g0 g1 : Nat) (D0 D1 : DiskS) (bA0 : Option Addr) (bc0 : Nat) (wA0 : Option Addr) (wc0 : Nat) (bA1 : Option Addr) (bc1 : Nat) (wA1 : Option Addr) (wc1 : Nat) : Prop :=
  Duo wr w.heap.size (fun k => k = bd ∨ k = bl) g0 g1 (.agg #[.slice bA0 D0.blocks.length bc0, .slice wA0 D0.pending.length wc0, .bool D0.down, .int .i64 D0.power, .int .i64 D0.fault, .int .i64 D0.wi]) (.agg #[.slice bA1 D1.blocks.length bc1, .slice wA1 D1.pending.length wc1, .bool D1.down, .int .i64 D1.power, .int .i64 D1.fault, .int .i64 D1.wi]) D0 D1 ∧ DB2 wr bd (.pointer (some ⟨g0, 0, none⟩)) (.pointer (some ⟨g1, 0, none⟩)) ∧ L12 wr bl (.slice bA0 D0.blocks.length bc0) (.slice wA0 D0.pending.length wc0) (.bool D0.down) (.int .i64 D0.power) (.int .i64 D0.fault) (.int .i64 D0.wi) (.slice bA1 D1.blocks.length bc1) (.slice wA1 D1.pending.length wc1) (.bool D1.down) (.int .i64 D1.power) (.int .i64 D1.fault) (.int .i64 D1.wi) ∧ Below w.heap.size w wr ∧ w.heap.size ≤ bd ∧ w.heap.size ≤ bl ∧ bd ≠ bl
/-- The same, however the disks stand. -/
def PL (n j : Nat) (w wr : World) (bd bl : Nat) : Prop := ∃ g0 g1 D0 D1 bA0 bc0 wA0 wc0 bA1 bc1 wA1 wc1, PS w wr bd bl g0 g1 D0 D1 bA0 bc0 wA0 wc0 bA1 bc1 wA1 wc1 ∧ D0.blocks.length = n ∧ D1.blocks.length = n ∧ D0.pending.length ≤ j ∧ D1.pending.length ≤ j

theorem PL.below {n j : Nat} {w wr w' : World} {bd bl : Nat} (h : PL n j w wr bd bl) (hb : Below wr.heap.size wr w') : PL n j w w' bd bl := by
  obtain ⟨g0, g1, D0, D1, bA0, bc0, wA0, wc0, bA1, bc1, wA1, wc1, ⟨hDuo, hd, hl, hbw, hx1, hx2, hx3⟩, h2⟩ := h
  exact ⟨g0, g1, D0, D1, bA0, bc0, wA0, wc0, bA1, bc1, wA1, wc1, ⟨hDuo.below hb, hd.below hb, hl.below hb, hbw.trans (hb.mono hbw.size), hx1, hx2, hx3⟩, h2⟩
theorem PL.bel {n j : Nat} {w wr : World} {bd bl : Nat} (h : PL n j w wr bd bl) : Below w.heap.size w wr := by
  obtain ⟨g0, g1, D0, D1, bA0, bc0, wA0, wc0, bA1, bc1, wA1, wc1, ⟨hDuo, hd, hl, hbw, hx1, hx2, hx3⟩, h2⟩ := h
  exact hbw
theorem askE_ok {D : DiskS} {b : Nat} (h : b < D.blocks.length) : askE D (b : Int) = 0 := by
  unfold askE
  rw [if_neg (by omega)]
theorem and_one01 (x : Int) : bits .and .i64 x 1 = 0 ∨ bits .and .i64 x 1 = 1 := by
  show IntKind.i64.wrap ((BitVec.ofInt 64 x &&& BitVec.ofInt 64 1).toNat : Int) = 0 ∨ IntKind.i64.wrap ((BitVec.ofInt 64 x &&& BitVec.ofInt 64 1).toNat : Int) = 1
  have h1 : (BitVec.ofInt 64 1).toNat = 1 := by decide
  rw [BitVec.toNat_and, h1, Nat.and_one_is_mod]
  rcases Nat.mod_two_eq_zero_or_one (BitVec.ofInt 64 x).toNat with h | h <;> rw [h]
  · exact .inl (by decide)
  · exact .inr (by decide)
theorem LR.lt {w : World} {K : Option Addr} {nk : Nat} {keep : List Bool} (h : LR w K nk keep) : ∀ ad, K = some ad → 0 < nk → ad.block < w.heap.size := by
  intro ad e h0
  obtain ⟨g, o, e2, hc⟩ := Rd.plain h h0 (by omega)
  rw [e2] at e
  cases e
  have hl : (keep.map Value.bool).length = nk := by have := h.1; omega
  have hc0 := hc 0 _ (List.getElem?_eq_getElem (by omega))
  exact World.block_lt_of_cell? _ _ hc0
theorem boxNo {w : World} {bd bl : Nat} {a b a0 a1 a2 a3 a4 a5 b0 b1 b2 b3 b4 b5 : Value} (hd : DB2 w bd a b) (hl : L12 w bl a0 a1 a2 a3 a4 a5 b0 b1 b2 b3 b4 b5) : ∀ k m, (k = bd ∨ k = bl) → BB w k m → False := by
  rintro k m (rfl | rfl) hB
  · unfold DB2 at hd
    unfold BB at hB
    rw [hd] at hB
    simp at hB
  · unfold L12 at hl
    unfold BB at hB
    rw [hl] at hB
    simp at hB

set_option maxRecDepth 100000 in
set_option maxHeartbeats 16000000 in
theorem DiskPlays_any (blk : Int) (A : Option Addr) (n c : Nat) (l : List Sc) (w : World) (hS : SR w A n l) (hnc : n ≤ c) (hcm : c ≤ maxLen) :
    Calls Try.prog 9 #[.int .i64 blk, .slice A n c] w fun e w' => e = .returned (.bool true) ∧ Below w.heap.size w w' := by
  have HSR := Lib.hid hS
  have HAW := Lib.hid awake03_any
  have hnm : n ≤ 9223372036854775807 := by unfold maxLen at hcm; omega
  clear hS hnc hcm
  by_cases hbad : blk < 1 ∨ 4096 < blk
  · have hbad2 := hbad
    have HN := Lib.hid (New_bad blk w hbad)
    have HR := Lib.hid (refNew03_bad blk w hbad)
    have HL := Lib.hid (fun (W : World) => gr_alloc (gr_refl W) (.cells #[.slice none 0 0, .slice none 0 0, .bool false, .int .i64 0, .int .i64 0, .int .i64 0] 66))
    clear hbad
    rcases hbad2 with h | h
    all_goals
      first | (have t1 : decide (6 < blk) = false := decide_eq_false (by omega)) | (have t1 : decide (6 < blk) = true := decide_eq_true (by omega); have t2 : decide (blk ≤ 4096) = false := decide_eq_false (by omega))
      clear h
      go_enter Try.func9, Try.ntmps9
      go_wp2_with fail
      refine HN.out.mono ?_
      rintro e w' ⟨rfl, rfl⟩
      go_wp2_with fail
      refine HR.out.mono ?_
      rintro e w1 ⟨rfl, hb1⟩
      have hb2 := HL.out w1
      have HS := Lib.hid (B6.new w1 (.slice none 0 0) (.slice none 0 0) (.bool false) (.int .i64 0) (.int .i64 0) (.int .i64 0))
      have HB2 := Lib.hid (gr_trans hb1 hb2)
      clear hb1 hb2 HL HS
      go_upto_region 5 with fail
      generalize w1.alloc (.cells #[.slice none 0 0, .slice none 0 0, .bool false, .int .i64 0, .int .i64 0, .int .i64 0] 66) = w2 at *
      go_wp2_with fail
      refine (HAW.out w2).mono ?_
      rintro e w3 ⟨rfl, hb3⟩
      have HB3 := Lib.hid (hb3.mono HB2.out.size)
      go_wp2_with fail
      go_ret
      exact ⟨rfl, HB2.out.trans HB3.out⟩
  · obtain ⟨m, b, hm1, hm2, HP⟩ : ∃ (m : Nat) (b : Bool), 1 ≤ m ∧ m ≤ 6 ∧ Hid (b = (decide (6 < blk) && decide (blk ≤ 4096)) ∧ (b = false → blk = m) ∧ (b = true → (m : Int) = 1 + blk % 6)) := by
      by_cases h6 : blk ≤ 6
      · exact ⟨blk.toNat, false, by omega, by omega, Lib.hid ⟨by rw [decide_eq_false (by omega)]; rfl, fun _ => by omega, fun h => by cases h⟩⟩
      · exact ⟨(1 + blk % 6).toNat, true, by omega, by omega, Lib.hid ⟨by rw [decide_eq_true (by omega), decide_eq_true (by omega)]; rfl, (fun h => by cases h), fun _ => by omega⟩⟩
    have HPK := Lib.hid (Pick_any blk 6)
    clear hbad
    go_enter Try.func9, Try.ntmps9
    go_upto_region 1 with fail
    go_cut [25] (fun s25 wx => s25 = .bool b ∧ w = wx)
    case first =>
      have h1 := HP.out.1
      have HB := Lib.hid h1
      clear h1
      by_cases h6 : 6 < blk
      · have t1 : decide (6 < blk) = true := decide_eq_true h6
        have t2 : decide (blk ≤ 4096) = b := by rw [HB.out, t1]; rfl
        go_wp2_with fail
        go_meet
        exact ⟨rfl, rfl⟩
      · have t1 : decide (6 < blk) = false := decide_eq_false h6
        go_wp2_with fail
        go_meet
        exact ⟨by rw [HB.out, t1]; rfl, rfl⟩
    case rest =>
      obtain ⟨rfl, rfl⟩ := hcut
      go_upto_if 25 with fail
      go_cut [0] (fun s0 wx => s0 = .int .i64 (m : Int) ∧ w = wx)
      case first =>
        cases b
        · have HE := Lib.hid (HP.out.2.1 rfl)
          go_wp2_with fail
          go_meet
          exact ⟨by rw [HE.out], rfl⟩
        · have HE := Lib.hid (HP.out.2.2 rfl)
          go_wp2_with fail
          refine (HPK.out _ (by omega) (by omega)).mono ?_
          rintro e w' ⟨rfl, rfl⟩
          have hp1 : 0 ≤ blk % 6 := by omega
          have hp2 : blk % 6 < 6 := by omega
          go_wp2_with fail
          go_meet
          exact ⟨by rw [HE.out], rfl⟩
      case rest =>
        obtain ⟨rfl, rfl⟩ := hcut
        clear HP HPK
        go_wp2_with fail
        refine (New_any m w (by omega) (by omega)).mono ?_
        rintro e w1 ⟨g0, F0, rfl, hd0, hb1⟩
        go_wp2_with fail
        refine (refNew03_good m w1 hm1 (by omega)).mono ?_
        rintro e w2 ⟨v, rfl, hr, hb2⟩
        obtain ⟨bA, bc, wA, wc, bus, wus, rfl, _⟩ := id hr
        have HND : Hid ((newD m).blocks.length = m ∧ (newD m).pending.length = 0) := Lib.hid ⟨List.length_replicate, rfl⟩
        have HN2 := Lib.hid (fun W => New_any m W (by omega) (by omega))
        have HRK := Lib.hid hr
        clear hr
        generalize newD m = D at *
        go_upto_region 7 with fail
        have hb3 := gr_alloc (gr_refl w2) (.cells #[.slice bA D.blocks.length bc, .slice wA D.pending.length wc, .bool D.down, .int .i64 D.power, .int .i64 D.fault, .int .i64 D.wi] 66)
        have x6 := B6.new w2 (.slice bA D.blocks.length bc) (.slice wA D.pending.length wc) (.bool D.down) (.int .i64 D.power) (.int .i64 D.fault) (.int .i64 D.wi)
        generalize hn3 : w2.alloc (.cells #[.slice bA D.blocks.length bc, .slice wA D.pending.length wc, .bool D.down, .int .i64 D.power, .int .i64 D.fault, .int .i64 D.wi] 66) = w3 at *
        clear hn3
        go_wp2_with fail
        refine (HN2.out w3).mono ?_
        rintro e w4 ⟨g1, F1, rfl, hd1, hb4⟩
        have HDU := Lib.hid (Duo.start hd0 hb1 hb2 HRK.out hb3 hd1 hb4)
        have HW4 := Lib.hid (((hb1.trans (hb2.mono hb1.size)).trans (hb3.mono (Nat.le_trans hb1.size hb2.size))).trans (hb4.mono (Nat.le_trans (Nat.le_trans hb1.size hb2.size) hb3.size)))
        have x6 := x6.below hb4
        clear hd0 hd1 hb1 hb2 hb3 hb4 HRK HN2
        have hb5 := gr_alloc (gr_refl w4) (.cells #[.pointer (some ⟨g0, 0, none⟩), .pointer (some ⟨g1, 0, none⟩)] 69)
        have xd : DB2 (w4.alloc (.cells #[.pointer (some ⟨g0, 0, none⟩), .pointer (some ⟨g1, 0, none⟩)] 69)) w4.heap.size (.pointer (some ⟨g0, 0, none⟩)) (.pointer (some ⟨g1, 0, none⟩)) := heap_alloc_new w4 _
        have hs5 : (w4.alloc (.cells #[.pointer (some ⟨g0, 0, none⟩), .pointer (some ⟨g1, 0, none⟩)] 69)).heap.size = w4.heap.size + 1 := World.size_alloc _ _
        have HS5 := Lib.hid hs5
        clear hs5
        go_upto_region 9 with fail
        generalize w4.alloc (.cells #[.pointer (some ⟨g0, 0, none⟩), .pointer (some ⟨g1, 0, none⟩)] 69) = w5 at *
        have x6 := x6.below hb5
        have y0 := x6.c0
        have y1 := x6.c1
        have y2 := x6.c2
        have y3 := x6.c3
        have y4 := x6.c4
        have y5 := x6.c5
        have hb6 := gr_alloc (gr_refl w5) (.cells #[.slice bA D.blocks.length bc, .slice wA D.pending.length wc, .bool D.down, .int .i64 D.power, .int .i64 D.fault, .int .i64 D.wi, .slice bA D.blocks.length bc, .slice wA D.pending.length wc, .bool D.down, .int .i64 D.power, .int .i64 D.fault, .int .i64 D.wi] 70)
        have xl : L12 (w5.alloc (.cells #[.slice bA D.blocks.length bc, .slice wA D.pending.length wc, .bool D.down, .int .i64 D.power, .int .i64 D.fault, .int .i64 D.wi, .slice bA D.blocks.length bc, .slice wA D.pending.length wc, .bool D.down, .int .i64 D.power, .int .i64 D.fault, .int .i64 D.wi] 70)) w5.heap.size (.slice bA D.blocks.length bc) (.slice wA D.pending.length wc) (.bool D.down) (.int .i64 D.power) (.int .i64 D.fault) (.int .i64 D.wi) (.slice bA D.blocks.length bc) (.slice wA D.pending.length wc) (.bool D.down) (.int .i64 D.power) (.int .i64 D.fault) (.int .i64 D.wi) := heap_alloc_new w5 _
        have hs6 : (w5.alloc (.cells #[.slice bA D.blocks.length bc, .slice wA D.pending.length wc, .bool D.down, .int .i64 D.power, .int .i64 D.fault, .int .i64 D.wi, .slice bA D.blocks.length bc, .slice wA D.pending.length wc, .bool D.down, .int .i64 D.power, .int .i64 D.fault, .int .i64 D.wi] 70)).heap.size = w5.heap.size + 1 := World.size_alloc _ _
        have HPL0 : Hid (PL m 0 w (w5.alloc (.cells #[.slice bA D.blocks.length bc, .slice wA D.pending.length wc, .bool D.down, .int .i64 D.power, .int .i64 D.fault, .int .i64 D.wi, .slice bA D.blocks.length bc, .slice wA D.pending.length wc, .bool D.down, .int .i64 D.power, .int .i64 D.fault, .int .i64 D.wi] 70)) w4.heap.size w5.heap.size) := Lib.hid (by
          have z5 := HS5.out
          have hw4 := HW4.out.size
          have hb56 := hb5.trans (hb6.mono (by omega))
          refine ⟨g0, g1, D, D, bA, bc, wA, wc, bA, bc, wA, wc, ⟨HDU.out.bar hb56 (fun k hk => .inr ?_), xd.below hb6, xl, HW4.out.trans (hb56.mono hw4), hw4, by omega, by omega⟩, HND.out.1, HND.out.1, Nat.le_of_eq HND.out.2, Nat.le_of_eq HND.out.2⟩
          rcases hk with rfl | rfl <;> omega)
        clear xd xl hb6 hs6 hb5 HDU HND x6
        go_upto_block 0 with fail
        generalize w5.alloc (.cells #[.slice bA D.blocks.length bc, .slice wA D.pending.length wc, .bool D.down, .int .i64 D.power, .int .i64 D.fault, .int .i64 D.wi, .slice bA D.blocks.length bc, .slice wA D.pending.length wc, .bool D.down, .int .i64 D.power, .int .i64 D.fault, .int .i64 D.wi] 70) = w6 at *
        clear y0 y1 y2 y3 y4 y5
        generalize w5.heap.size = bl at *
        generalize w4.heap.size = bd at *
        clear HS5 HW4
        go_cut [] (fun wx => ∃ j, j ≤ 120 ∧ PL m j w wx bd bl)
        case first =>
          go_wp2_with fail
          go_loopw [13, 14, 15] (fun i _ _ wr => ∃ (k : Nat), k ≤ n ∧ k ≤ 120 ∧ i = .int .i64 k ∧ PL m k w wr bd bl) (fun i _ _ _ => 120 - (intOf i).toNat)
          case atStart => exact ⟨0, by omega, by omega, rfl, HPL0.out⟩
          case round =>
            clear HPL0
            obtain ⟨k, hkn, hk, rfl, hPL⟩ := hrel
            by_cases hlt : k < n ∧ k < 120
            · have t1 : decide ((k : Int) < (n : Int)) = true := decide_eq_true (by omega)
              have t2 : decide (k < n) = true := decide_eq_true hlt.1
              have t3 : decide ((k : Int) < 120) = true := decide_eq_true (by omega)
              have i0 : (0 : Int) ≤ (k : Int) := Int.natCast_nonneg _
              have i1 : (k : Int) < (n : Int) := by omega
              obtain ⟨g, o, s, rfl, hl, K, nk, ck, q0, q1, q2, q3, q4, q5, q6, q7, q8, q9, hLR, hnk, hnn, hon1, hon2⟩ := HSR.out.2 k hlt.1
              obtain ⟨kd, on, bt, sd, sh, nn, er, keep, torn, cut⟩ := s
              dsimp only at q0 q1 q2 q3 q4 q5 q6 q7 q8 q9 hLR hnn hon1 hon2
              have HKeep := Lib.hid (fun (W : World) (hW : Below w.heap.size w W) => (⟨keep_of_below hW q0, keep_of_below hW q1, keep_of_below hW q2, keep_of_below hW q3, keep_of_below hW q4, keep_of_below hW q5, keep_of_below hW q6, keep_of_below hW q7, keep_of_below hW q8, keep_of_below hW q9⟩ : W.cell? ⟨g, o + k * 10, none⟩ = some (.int .i64 kd) ∧ W.cell? ⟨g, o + k * 10 + 1, none⟩ = some (.int .i64 on) ∧ W.cell? ⟨g, o + k * 10 + 2, none⟩ = some (.int .i64 bt) ∧ W.cell? ⟨g, o + k * 10 + 3, none⟩ = some (.int .i64 sd) ∧ W.cell? ⟨g, o + k * 10 + 4, none⟩ = some (.bool sh) ∧ W.cell? ⟨g, o + k * 10 + 5, none⟩ = some (.int .i64 nn) ∧ W.cell? ⟨g, o + k * 10 + 6, none⟩ = some (.int .i64 er) ∧ W.cell? ⟨g, o + k * 10 + 7, none⟩ = some (.slice K nk ck) ∧ W.cell? ⟨g, o + k * 10 + 8, none⟩ = some (.int .i64 torn) ∧ W.cell? ⟨g, o + k * 10 + 9, none⟩ = some (.int .i64 cut)))
              have HLR := Lib.hid (fun (W : World) (hW : Below w.heap.size w W) => (show LR W K nk keep from Rd.below hLR hW))
              have HKB : Hid (∀ ad, K = some ad → 0 < nk → ad.block < w.heap.size) := Lib.hid hLR.lt
              clear q0 q1 q2 q3 q4 q5 q6 q7 q8 q9 hLR hl
              have HPL := Lib.hid hPL
              obtain ⟨g0, g1, D0, D1, bA0, bc0, wA0, wc0, bA1, bc1, wA1, wc1, ⟨hDuo, hd, hl, hbw, hx1, hx2, hx3⟩, hm0, hm1', hp0, hp1⟩ := hPL
              have HM0 := Lib.hid hm0
              have HM1 := Lib.hid hm1'
              clear hm0 hm1'
              obtain ⟨q0, q1, q2, q3, q4, q5, q6, q7, q8, q9⟩ := HKeep.out wr hbw
              rcases and_one01 on with hb01 | hb01
              · by_cases hk7 : kd = 7
                · have tk : (kd == 7) = true := beq_iff_eq.2 hk7
                  go_upto_region 15 with fail
                  have HDU := Lib.hid hDuo
                  have HBX := Lib.hid hd
                  have HLX := Lib.hid hl
                  have HBW := Lib.hid hbw
                  clear hDuo hd hl hbw q0 q1 q2 q3 q4 q5 q6 q7 q8 q9
                  refine wp_region_any (by kernel_rfl) ?_
                  change wpAny _ _ _ _ _ _ _ (World.drew wr)
                  have hD := bel_drew (w := wr) (gr_refl _)
                  generalize World.drew wr = wt at *
                  refine wpAny_of_held (S := fun W => W.cell? ⟨bd, 0, none⟩ = some (.pointer (some ⟨g0, 0, none⟩)) ∧ W.cell? ⟨bl, 0, none⟩ = some (.slice bA0 D0.blocks.length bc0) ∧ W.cell? ⟨bl, 1, none⟩ = some (.slice wA0 D0.pending.length wc0) ∧ W.cell? ⟨bl, 2, none⟩ = some (.bool D0.down) ∧ W.cell? ⟨bl, 3, none⟩ = some (.int .i64 D0.power) ∧ W.cell? ⟨bl, 4, none⟩ = some (.int .i64 D0.fault) ∧ W.cell? ⟨bl, 5, none⟩ = some (.int .i64 D0.wi)) _ _ _ _ ?_
                  have hHeld : wt.cell? ⟨bd, 0, none⟩ = some (.pointer (some ⟨g0, 0, none⟩)) ∧ wt.cell? ⟨bl, 0, none⟩ = some (.slice bA0 D0.blocks.length bc0) ∧ wt.cell? ⟨bl, 1, none⟩ = some (.slice wA0 D0.pending.length wc0) ∧ wt.cell? ⟨bl, 2, none⟩ = some (.bool D0.down) ∧ wt.cell? ⟨bl, 3, none⟩ = some (.int .i64 D0.power) ∧ wt.cell? ⟨bl, 4, none⟩ = some (.int .i64 D0.fault) ∧ wt.cell? ⟨bl, 5, none⟩ = some (.int .i64 D0.wi) := ⟨(HBX.out.below hD).c0, (HLX.out.below hD).c0, (HLX.out.below hD).c1, (HLX.out.below hD).c2, (HLX.out.below hD).c3, (HLX.out.below hD).c4, (HLX.out.below hD).c5⟩
                  refine wpAnyH_take (i := 0) (v := .int .i64 0) rfl (by kernel_rfl) (by kernel_rfl) (by kernel_rfl) (fun _ _ _ h => h) (Or.inl ⟨by rfl, ?_⟩) hHeld ?_
                  · intro W hS
                    (try dsimp only at hS)
                    go_simp
                    all_goals (first | done | decide | rfl)
                  try simp only [Act.put, List.getElem_toArray, List.getElem_cons_zero, List.setIfInBounds_toArray, List.set_cons_zero, List.set_cons_succ]
                  refine wpAnyH_take (i := 1) (v := .int .i64 1) rfl (by kernel_rfl) (by kernel_rfl) (by kernel_rfl) (fun _ _ _ h => h) (Or.inl ⟨by rfl, ?_⟩) hHeld ?_
                  · intro W hS
                    (try dsimp only at hS)
                    go_simp
                    all_goals (first | done | decide | rfl)
                  try simp only [Act.put, List.getElem_toArray, List.getElem_cons_succ, List.getElem_cons_zero, List.setIfInBounds_toArray, List.set_cons_zero, List.set_cons_succ]
                  refine wpAnyH_take (i := 2) (v := .int .i64 0) rfl (by kernel_rfl) (by kernel_rfl) (by kernel_rfl) (fun _ _ _ h => h) (Or.inl ⟨by rfl, ?_⟩) hHeld ?_
                  · intro W hS
                    (try dsimp only at hS)
                    go_simp
                    all_goals (first | done | decide | rfl)
                  try simp only [Act.put, List.getElem_toArray, List.getElem_cons_succ, List.getElem_cons_zero, List.setIfInBounds_toArray, List.set_cons_zero, List.set_cons_succ]
                  refine wpAnyH_take (i := 3) (v := .int .i64 1) rfl (by kernel_rfl) (by kernel_rfl) (by kernel_rfl) (fun _ _ _ h => h) (Or.inl ⟨by rfl, ?_⟩) hHeld ?_
                  · intro W hS
                    (try dsimp only at hS)
                    go_simp
                    all_goals (first | done | decide | rfl)
                  try simp only [Act.put, List.getElem_toArray, List.getElem_cons_succ, List.getElem_cons_zero, List.setIfInBounds_toArray, List.set_cons_zero, List.set_cons_succ]
                  refine wpAnyH_take (i := 4) (v := .int .i64 0) rfl (by kernel_rfl) (by kernel_rfl) (by kernel_rfl) (fun _ _ _ h => h) (Or.inl ⟨by rfl, ?_⟩) hHeld ?_
                  · intro W hS
                    (try dsimp only at hS)
                    go_simp
                    all_goals (first | done | decide | rfl)
                  try simp only [Act.put, List.getElem_toArray, List.getElem_cons_succ, List.getElem_cons_zero, List.setIfInBounds_toArray, List.set_cons_zero, List.set_cons_succ]
                  refine wpAnyH_take (i := 5) (v := .pointer (some ⟨bd, 0, none⟩)) rfl (by kernel_rfl) (by kernel_rfl) (by kernel_rfl) (fun _ _ _ h => h) (Or.inl ⟨by rfl, ?_⟩) hHeld ?_
                  · intro W hS
                    (try dsimp only at hS)
                    go_simp
                    all_goals (first | done | decide | rfl)
                  try simp only [Act.put, List.getElem_toArray, List.getElem_cons_succ, List.getElem_cons_zero, List.setIfInBounds_toArray, List.set_cons_zero, List.set_cons_succ]
                  refine wpAnyH_take (i := 6) (v := .pointer (some ⟨g0, 0, none⟩)) rfl (by kernel_rfl) (by kernel_rfl) (by kernel_rfl) (fun _ _ _ h => h) (Or.inl ⟨by rfl, ?_⟩) hHeld ?_
                  · intro W hS
                    (try dsimp only at hS)
                    obtain ⟨s1, s2, s3, s4, s5, s6, s7⟩ := hS
                    go_simp
                  try simp only [Act.put, List.getElem_toArray, List.getElem_cons_succ, List.getElem_cons_zero, List.setIfInBounds_toArray, List.set_cons_zero, List.set_cons_succ]
                  refine wpAnyH_take (i := 8) (v := .int .i64 0) rfl (by kernel_rfl) (by kernel_rfl) (by kernel_rfl) (fun _ _ _ h => h) (Or.inl ⟨by rfl, ?_⟩) hHeld ?_
                  · intro W hS
                    (try dsimp only at hS)
                    go_simp
                    all_goals (first | done | decide | rfl)
                  try simp only [Act.put, List.getElem_toArray, List.getElem_cons_succ, List.getElem_cons_zero, List.setIfInBounds_toArray, List.set_cons_zero, List.set_cons_succ]
                  refine wpAnyH_take (i := 9) (v := .pointer (some ⟨bl, 0, none⟩)) rfl (by kernel_rfl) (by kernel_rfl) (by kernel_rfl) (fun _ _ _ h => h) (Or.inl ⟨by rfl, ?_⟩) hHeld ?_
                  · intro W hS
                    (try dsimp only at hS)
                    go_simp
                    all_goals (first | done | decide | rfl)
                  try simp only [Act.put, List.getElem_toArray, List.getElem_cons_succ, List.getElem_cons_zero, List.setIfInBounds_toArray, List.set_cons_zero, List.set_cons_succ]
                  refine wpAnyH_take (i := 10) (v := .agg #[.slice bA0 D0.blocks.length bc0, .slice wA0 D0.pending.length wc0, .bool D0.down, .int .i64 D0.power, .int .i64 D0.fault, .int .i64 D0.wi]) rfl (by kernel_rfl) (by kernel_rfl) (by kernel_rfl) (fun _ _ _ h => h) (Or.inl ⟨by rfl, ?_⟩) hHeld ?_
                  · intro W hS
                    (try dsimp only at hS)
                    obtain ⟨s1, s2, s3, s4, s5, s6, s7⟩ := hS
                    go_simp
                  try simp only [Act.put, List.getElem_toArray, List.getElem_cons_succ, List.getElem_cons_zero, List.setIfInBounds_toArray, List.set_cons_zero, List.set_cons_succ]
                  refine wpAnyH_ready (rs := [7]) (by kernel_rfl) (by simp) ?_
                  refine AllReadyH.cons rfl (fun KK hK => ?_) AllReadyH.nil
                  try simp only [List.getElem_toArray, List.getElem_cons_succ, List.getElem_cons_zero]
                  go_simp
                  refine ((HDU.out.below hD).copy (by omega) (HBW.out.trans (hD.mono HBW.out.size)).size).mono ?_
                  rintro e w2 ⟨gn, rfl, hDuo2, hb2⟩
                  dsimp only
                  have hbx := (HBX.out.below hD).below hb2
                  have hlx := (HLX.out.below hD).below hb2
                  refine hK.out _ _ ?_ (fun hHeld2 => ?_)
                  · exact ⟨hbx.c0, hlx.c0, hlx.c1, hlx.c2, hlx.c3, hlx.c4, hlx.c5⟩
                  clear hK KK hHeld
                  have hHeld := hHeld2
                  clear hHeld2
                  try simp only [Act.put, List.setIfInBounds_toArray, List.set_cons_zero, List.set_cons_succ]
                  refine wpAnyH_take (i := 11) (v := .pointer (some ⟨bd, 1, none⟩)) rfl (by kernel_rfl) (by kernel_rfl) (by kernel_rfl) (fun _ _ _ h => h) (Or.inl ⟨by rfl, ?_⟩) hHeld ?_
                  · intro W hS
                    (try dsimp only at hS)
                    go_simp
                    all_goals (first | done | decide | rfl)
                  try simp only [Act.put, List.getElem_toArray, List.getElem_cons_succ, List.getElem_cons_zero, List.setIfInBounds_toArray, List.set_cons_zero, List.set_cons_succ]
                  have y0 := hbx.c1
                  have z0 := hbx.fz 1
                  have hbx3 := hbx.s1 (.pointer (some ⟨gn, 0, none⟩))
                  have ho3 : Off (fun k => k = bd ∨ k = bl) w2 (w2.setCell ⟨bd, 1, none⟩ (.pointer (some ⟨gn, 0, none⟩))) := (Off.refl _ _).setCell _ (.inl rfl)
                  have hlx3 := hlx.off ((Off.refl (· = bd) w2).setCell (g := bd) (j := 1) (.pointer (some ⟨gn, 0, none⟩)) rfl) (show ¬ (bl = bd) from fun e => hx3 e.symm)
                  have HN3 := Lib.hid (boxNo hbx hlx)
                  refine wpAnyH_ready (rs := [12]) (by kernel_rfl) (by simp) ?_
                  refine AllReadyH.cons rfl (fun KK hK => ?_) AllReadyH.nil
                  try simp only [List.getElem_toArray, List.getElem_cons_succ, List.getElem_cons_zero]
                  go_simp
                  generalize w2.setCell ⟨bd, 1, none⟩ (.pointer (some ⟨gn, 0, none⟩)) = w3 at *
                  refine hK.out _ _ ?_ (fun hHeld2 => ?_)
                  · exact ⟨hbx3.c0, hlx3.c0, hlx3.c1, hlx3.c2, hlx3.c3, hlx3.c4, hlx3.c5⟩
                  clear hK KK hHeld
                  have hHeld := hHeld2
                  clear hHeld2
                  try simp only [Act.put, List.setIfInBounds_toArray, List.set_cons_zero, List.set_cons_succ]
                  clear y0 z0
                  refine wpAnyH_take (i := 13) (v := .pointer (some ⟨bl, 6, none⟩)) rfl (by kernel_rfl) (by kernel_rfl) (by kernel_rfl) (fun _ _ _ h => h) (Or.inl ⟨by rfl, ?_⟩) hHeld ?_
                  · intro W hS
                    (try dsimp only at hS)
                    go_simp
                    all_goals (first | done | decide | rfl)
                  try simp only [Act.put, List.getElem_toArray, List.getElem_cons_succ, List.getElem_cons_zero, List.setIfInBounds_toArray, List.set_cons_zero, List.set_cons_succ]
                  have r0 := hlx3.c6
                  have r1 := hlx3.c7
                  have r2 := hlx3.c8
                  have r3 := hlx3.c9
                  have r4 := hlx3.c10
                  have r5 := hlx3.c11
                  have f0 := hlx3.fz 6
                  have f1 := hlx3.fz 7
                  have f2 := hlx3.fz 8
                  have f3 := hlx3.fz 9
                  have f4 := hlx3.fz 10
                  have f5 := hlx3.fz 11
                  have HST := Lib.hid (hlx3.set1 (.slice bA0 D0.blocks.length bc0) (.slice wA0 D0.pending.length wc0) (.bool D0.down) (.int .i64 D0.power) (.int .i64 D0.fault) (.int .i64 D0.wi))
                  refine wpAnyH_ready (rs := [14]) (by kernel_rfl) (by simp) ?_
                  refine AllReadyH.cons rfl (fun KK hK => ?_) AllReadyH.nil
                  try simp only [List.getElem_toArray, List.getElem_cons_succ, List.getElem_cons_zero]
                  go_simp
                  clear r0 f0 r1 f1 r2 f2 r3 f3 r4 f4 r5 f5
                  obtain ⟨hlx4, ho4⟩ := HST.out _ rfl
                  clear HST
                  generalize ((((((w3.setCell ⟨bl, 6, none⟩ (.slice bA0 D0.blocks.length bc0)).setCell ⟨bl, 7, none⟩ (.slice wA0 D0.pending.length wc0)).setCell ⟨bl, 8, none⟩ (.bool D0.down)).setCell ⟨bl, 9, none⟩ (.int .i64 D0.power)).setCell ⟨bl, 10, none⟩ (.int .i64 D0.fault)).setCell ⟨bl, 11, none⟩ (.int .i64 D0.wi)) = w4 at *
                  have hbx4 := hbx3.off ho4 (show ¬ (bd = bl) from hx3)
                  refine hK.out _ _ ?_ (fun hHeld2 => ?_)
                  · exact ⟨hbx4.c0, hlx4.c0, hlx4.c1, hlx4.c2, hlx4.c3, hlx4.c4, hlx4.c5⟩
                  clear hK KK hHeld
                  have hHeld := hHeld2
                  clear hHeld2
                  try simp only [Act.put, List.setIfInBounds_toArray, List.set_cons_zero, List.set_cons_succ]
                  refine wpAnyH_done (by kernel_rfl) ?_ _
                  clear hHeld
                  have HPN : Hid (PL m (k + 1) w w4 bd bl) := Lib.hid (by
                    have hoo := ho3.trans (ho4.mono (fun k _ hk => .inr hk))
                    have hdn := Duo.box hDuo2 hoo HN3.out
                    have h1 := HBW.out.trans ((hD.trans (hb2.mono hD.size)).mono HBW.out.size)
                    exact ⟨g0, gn, D0, D0, bA0, bc0, wA0, wc0, bA0, bc0, wA0, wc0, ⟨hdn, hbx4, hlx4, h1.trans (hoo.below (fun k hk => by rcases hk with rfl | rfl <;> assumption) h1.size), hx1, hx2, hx3⟩, HM0.out, HM0.out, by omega, by omega⟩)
                  clear hbx hlx hbx3 ho3 hlx3 hlx4 ho4 hbx4 hDuo2 hb2 hD HDU HBX HLX HBW HPL
                  go_wp2_with fail
                  go_roundw
                  case rel => exact ⟨k + 1, by omega, by omega, by go_num, HPN.out⟩
                  case measure => simp [intOf]; omega
                · have tk : (kd == 7) = false := beq_eq_false_iff_ne.2 hk7
                  go_upto_region 17 with fail
                  have HDU := Lib.hid hDuo
                  have HBX := Lib.hid hd
                  have HLX := Lib.hid hl
                  have HBW := Lib.hid hbw
                  clear hDuo hd hl hbw q0 q1 q2 q3 q4 q5 q6 q7 q8 q9
                  refine wp_region_lastL (by kernel_rfl) (by simp) (by kernel_rfl) (by kernel_rfl) ?_
                  simp only [List.dropLast, List.length_cons, List.length_nil]
                  have hD := bel_drew (w := wr) (gr_refl _)
                  generalize World.drew wr = wt at *
                  refine wpAny_of_held (S := fun W => W.cell? ⟨bd, 0, none⟩ = some (.pointer (some ⟨g0, 0, none⟩)) ∧ W.cell? ⟨g, o + k * 10, none⟩ = some (.int .i64 kd) ∧ W.cell? ⟨g, o + k * 10 + 1, none⟩ = some (.int .i64 on) ∧ W.cell? ⟨g, o + k * 10 + 2, none⟩ = some (.int .i64 bt) ∧ W.cell? ⟨g, o + k * 10 + 3, none⟩ = some (.int .i64 sd) ∧ W.cell? ⟨g, o + k * 10 + 4, none⟩ = some (.bool sh) ∧ W.cell? ⟨g, o + k * 10 + 5, none⟩ = some (.int .i64 nn) ∧ W.cell? ⟨g, o + k * 10 + 6, none⟩ = some (.int .i64 er) ∧ W.cell? ⟨g, o + k * 10 + 7, none⟩ = some (.slice K nk ck) ∧ W.cell? ⟨g, o + k * 10 + 8, none⟩ = some (.int .i64 torn) ∧ W.cell? ⟨g, o + k * 10 + 9, none⟩ = some (.int .i64 cut)) _ _ _ _ ?_
                  obtain ⟨q0, q1, q2, q3, q4, q5, q6, q7, q8, q9⟩ := HKeep.out wt (HBW.out.trans (hD.mono HBW.out.size))
                  have hHeld : wt.cell? ⟨bd, 0, none⟩ = some (.pointer (some ⟨g0, 0, none⟩)) ∧ wt.cell? ⟨g, o + k * 10, none⟩ = some (.int .i64 kd) ∧ wt.cell? ⟨g, o + k * 10 + 1, none⟩ = some (.int .i64 on) ∧ wt.cell? ⟨g, o + k * 10 + 2, none⟩ = some (.int .i64 bt) ∧ wt.cell? ⟨g, o + k * 10 + 3, none⟩ = some (.int .i64 sd) ∧ wt.cell? ⟨g, o + k * 10 + 4, none⟩ = some (.bool sh) ∧ wt.cell? ⟨g, o + k * 10 + 5, none⟩ = some (.int .i64 nn) ∧ wt.cell? ⟨g, o + k * 10 + 6, none⟩ = some (.int .i64 er) ∧ wt.cell? ⟨g, o + k * 10 + 7, none⟩ = some (.slice K nk ck) ∧ wt.cell? ⟨g, o + k * 10 + 8, none⟩ = some (.int .i64 torn) ∧ wt.cell? ⟨g, o + k * 10 + 9, none⟩ = some (.int .i64 cut) := ⟨(HBX.out.below hD).c0, q0, q1, q2, q3, q4, q5, q6, q7, q8, q9⟩
                  clear q0 q1 q2 q3 q4 q5 q6 q7 q8 q9
                  refine wpAnyH_take (i := 0) (v := .int .i64 0) rfl (by kernel_rfl) (by kernel_rfl) (by kernel_rfl) (fun _ _ _ h => h) (Or.inl ⟨by rfl, ?_⟩) hHeld ?_
                  · intro W hS
                    (try dsimp only at hS)
                    go_simp
                    all_goals (first | done | decide | rfl)
                  try simp only [Act.put, List.getElem_toArray, List.getElem_cons_zero, List.setIfInBounds_toArray, List.set_cons_zero, List.set_cons_succ]
                  refine wpAnyH_take (i := 1) (v := .int .i64 0) rfl (by kernel_rfl) (by kernel_rfl) (by kernel_rfl) (fun _ _ _ h => h) (Or.inl ⟨by rfl, ?_⟩) hHeld ?_
                  · intro W hS
                    (try dsimp only at hS)
                    go_simp
                    all_goals (first | done | decide | rfl)
                  try simp only [Act.put, List.getElem_toArray, List.getElem_cons_succ, List.getElem_cons_zero, List.setIfInBounds_toArray, List.set_cons_zero, List.set_cons_succ]
                  refine wpAnyH_take (i := 2) (v := .pointer (some ⟨bd, 0, none⟩)) rfl (by kernel_rfl) (by kernel_rfl) (by kernel_rfl) (fun _ _ _ h => h) (Or.inl ⟨by rfl, ?_⟩) hHeld ?_
                  · intro W hS
                    (try dsimp only at hS)
                    go_simp
                    all_goals (first | done | decide | rfl)
                  try simp only [Act.put, List.getElem_toArray, List.getElem_cons_succ, List.getElem_cons_zero, List.setIfInBounds_toArray, List.set_cons_zero, List.set_cons_succ]
                  refine wpAnyH_take (i := 3) (v := .pointer (some ⟨g0, 0, none⟩)) rfl (by kernel_rfl) (by kernel_rfl) (by kernel_rfl) (fun _ _ _ h => h) (Or.inl ⟨by rfl, ?_⟩) hHeld ?_
                  · intro W hS
                    (try dsimp only at hS)
                    obtain ⟨s1, s2, s3, s4, s5, s6, s7, s8, s9, s10, s11⟩ := hS
                    go_simp
                  try simp only [Act.put, List.getElem_toArray, List.getElem_cons_succ, List.getElem_cons_zero, List.setIfInBounds_toArray, List.set_cons_zero, List.set_cons_succ]
                  refine wpAnyH_take (i := 4) (v := .int .i64 0) rfl (by kernel_rfl) (by kernel_rfl) (by kernel_rfl) (fun _ _ _ h => h) (Or.inl ⟨by rfl, ?_⟩) hHeld ?_
                  · intro W hS
                    (try dsimp only at hS)
                    go_simp
                    all_goals (first | done | decide | rfl)
                  try simp only [Act.put, List.getElem_toArray, List.getElem_cons_succ, List.getElem_cons_zero, List.setIfInBounds_toArray, List.set_cons_zero, List.set_cons_succ]
                  refine wpAnyH_take (i := 5) (v := .pointer (some ⟨bl, 0, none⟩)) rfl (by kernel_rfl) (by kernel_rfl) (by kernel_rfl) (fun _ _ _ h => h) (Or.inl ⟨by rfl, ?_⟩) hHeld ?_
                  · intro W hS
                    (try dsimp only at hS)
                    go_simp
                    all_goals (first | done | decide | rfl)
                  try simp only [Act.put, List.getElem_toArray, List.getElem_cons_succ, List.getElem_cons_zero, List.setIfInBounds_toArray, List.set_cons_zero, List.set_cons_succ]
                  refine wpAnyH_take (i := 7) (v := .slice (some ⟨g, o, none⟩) n c) rfl (by kernel_rfl) (by kernel_rfl) (by kernel_rfl) (fun _ _ _ h => h) (Or.inl ⟨by rfl, ?_⟩) hHeld ?_
                  · intro W hS
                    (try dsimp only at hS)
                    go_simp
                    all_goals (first | done | decide | rfl)
                  try simp only [Act.put, List.getElem_toArray, List.getElem_cons_succ, List.getElem_cons_zero, List.setIfInBounds_toArray, List.set_cons_zero, List.set_cons_succ]
                  refine wpAnyH_take (i := 8) (v := .int .i64 (k : Int)) rfl (by kernel_rfl) (by kernel_rfl) (by kernel_rfl) (fun _ _ _ h => h) (Or.inl ⟨by rfl, ?_⟩) hHeld ?_
                  · intro W hS
                    (try dsimp only at hS)
                    go_simp
                    all_goals (first | done | decide | rfl)
                  try simp only [Act.put, List.getElem_toArray, List.getElem_cons_succ, List.getElem_cons_zero, List.setIfInBounds_toArray, List.set_cons_zero, List.set_cons_succ]
                  refine wpAnyH_take (i := 9) (v := .pointer (some ⟨g, o + k * 10, none⟩)) rfl (by kernel_rfl) (by kernel_rfl) (by kernel_rfl) (fun _ _ _ h => h) (Or.inl ⟨by rfl, ?_⟩) hHeld ?_
                  · intro W hS
                    (try dsimp only at hS)
                    go_simp
                    all_goals (first | done | decide | rfl)
                  try simp only [Act.put, List.getElem_toArray, List.getElem_cons_succ, List.getElem_cons_zero, List.setIfInBounds_toArray, List.set_cons_zero, List.set_cons_succ]
                  refine wpAnyH_take (i := 10) (v := .agg #[.int .i64 kd, .int .i64 on, .int .i64 bt, .int .i64 sd, .bool sh, .int .i64 nn, .int .i64 er, .slice K nk ck, .int .i64 torn, .int .i64 cut]) rfl (by kernel_rfl) (by kernel_rfl) (by kernel_rfl) (fun _ _ _ h => h) (Or.inl ⟨by rfl, ?_⟩) hHeld ?_
                  · intro W hS
                    (try dsimp only at hS)
                    obtain ⟨s1, s2, s3, s4, s5, s6, s7, s8, s9, s10, s11⟩ := hS
                    go_simp
                  try simp only [Act.put, List.getElem_toArray, List.getElem_cons_succ, List.getElem_cons_zero, List.setIfInBounds_toArray, List.set_cons_zero, List.set_cons_succ]
                  refine wpAnyH_ready (rs := [6]) (by kernel_rfl) (by simp) ?_
                  refine AllReadyH.cons rfl (fun KK hK => ?_) AllReadyH.nil
                  try simp only [List.getElem_toArray, List.getElem_cons_succ, List.getElem_cons_zero]
                  have z0 := (HLX.out.below hD).c0
                  have z1 := (HLX.out.below hD).c1
                  have z2 := (HLX.out.below hD).c2
                  have z3 := (HLX.out.below hD).c3
                  have z4 := (HLX.out.below hD).c4
                  have z5 := (HLX.out.below hD).c5
                  go_simp
                  clear z0 z1 z2 z3 z4 z5
                  refine hK.out _ _ ?_ (fun hHeld2 => ?_)
                  · exact hHeld
                  clear hK KK hHeld
                  have hHeld := hHeld2
                  clear hHeld2
                  try simp only [Act.put, List.setIfInBounds_toArray, List.set_cons_zero, List.set_cons_succ]
                  refine wpAnyH_ready (rs := [11]) (by kernel_rfl) (by simp) ?_
                  refine AllReadyH.cons rfl (fun KK hK => ?_) AllReadyH.nil
                  try simp only [List.getElem_toArray, List.getElem_cons_succ, List.getElem_cons_zero]
                  go_simp
                  obtain ⟨F, G, hPr, hFl, hcl⟩ := (HDU.out.below hD).does
                  have HCL := Lib.hid hcl
                  have HFL := Lib.hid hFl
                  clear hcl hFl
                  refine (does_any wt w.heap.size g0 F G _ D0 kd on bt sd sh nn er K nk ck keep torn cut hPr (by omega) hnn (HLR.out wt (HBW.out.trans (hD.mono HBW.out.size))) (fun ad e h0 hF => by have h1 := HKB.out ad e h0; have h2 := (HFL.out _ hF).1; omega) (by omega)).mono ?_
                  rintro e w2 hDP
                  obtain ⟨v', D', rfl, hDuo2, ho2, hn2, hl2⟩ := HCL.out e w2 hDP
                  obtain ⟨bA', bc', wA', wc', rfl⟩ := hDuo2.form
                  have HN2 := Lib.hid hn2
                  have HL2 := Lib.hid hl2
                  have HDU2 := Lib.hid hDuo2
                  have hbt : Below w.heap.size w wt := HBW.out.trans (hD.mono HBW.out.size)
                  have hb2 : Below w.heap.size wt w2 := ho2.below (fun k hk => (HFL.out k hk).1) hbt.size
                  have HB2 := Lib.hid (hbt.trans hb2)
                  clear hbt hb2 hn2 hl2 hDuo2 hDP hPr
                  dsimp only
                  have hbx := (HBX.out.below hD).off ho2 (fun h => (HFL.out _ h).2 (.inl rfl))
                  have hlx := (HLX.out.below hD).off ho2 (fun h => (HFL.out _ h).2 (.inr rfl))
                  obtain ⟨q0, q1, q2, q3, q4, q5, q6, q7, q8, q9⟩ := HKeep.out w2 HB2.out
                  refine hK.out _ _ ?_ (fun hHeld2 => ?_)
                  · exact ⟨hbx.c0, q0, q1, q2, q3, q4, q5, q6, q7, q8, q9⟩
                  clear hK KK hHeld
                  have hHeld := hHeld2
                  clear hHeld2
                  try simp only [Act.put, List.setIfInBounds_toArray, List.set_cons_zero, List.set_cons_succ]
                  clear ho2
                  refine wpAnyH_take (i := 12) (v := .tuple #[.agg #[.slice bA' D'.blocks.length bc', .slice wA' D'.pending.length wc', .bool D'.down, .int .i64 D'.power, .int .i64 D'.fault, .int .i64 D'.wi], .bool true]) rfl (by kernel_rfl) (by kernel_rfl) (by kernel_rfl) (fun _ _ _ h => h) (Or.inl ⟨by rfl, ?_⟩) hHeld ?_
                  · intro W hS
                    (try dsimp only at hS)
                    go_simp
                    all_goals (first | done | decide | rfl)
                  try simp only [Act.put, List.getElem_toArray, List.getElem_cons_succ, List.getElem_cons_zero, List.setIfInBounds_toArray, List.set_cons_zero, List.set_cons_succ]
                  refine wpAnyH_take (i := 13) (v := .agg #[.slice bA' D'.blocks.length bc', .slice wA' D'.pending.length wc', .bool D'.down, .int .i64 D'.power, .int .i64 D'.fault, .int .i64 D'.wi]) rfl (by kernel_rfl) (by kernel_rfl) (by kernel_rfl) (fun _ _ _ h => h) (Or.inl ⟨by rfl, ?_⟩) hHeld ?_
                  · intro W hS
                    (try dsimp only at hS)
                    go_simp
                    all_goals (first | done | decide | rfl)
                  try simp only [Act.put, List.getElem_toArray, List.getElem_cons_succ, List.getElem_cons_zero, List.setIfInBounds_toArray, List.set_cons_zero, List.set_cons_succ]
                  refine wpAnyH_take (i := 14) (v := .bool true) rfl (by kernel_rfl) (by kernel_rfl) (by kernel_rfl) (fun _ _ _ h => h) (Or.inl ⟨by rfl, ?_⟩) hHeld ?_
                  · intro W hS
                    (try dsimp only at hS)
                    go_simp
                    all_goals (first | done | decide | rfl)
                  try simp only [Act.put, List.getElem_toArray, List.getElem_cons_succ, List.getElem_cons_zero, List.setIfInBounds_toArray, List.set_cons_zero, List.set_cons_succ]
                  refine wpAnyH_take (i := 15) (v := .pointer (some ⟨bl, 0, none⟩)) rfl (by kernel_rfl) (by kernel_rfl) (by kernel_rfl) (fun _ _ _ h => h) (Or.inl ⟨by rfl, ?_⟩) hHeld ?_
                  · intro W hS
                    (try dsimp only at hS)
                    go_simp
                    all_goals (first | done | decide | rfl)
                  try simp only [Act.put, List.getElem_toArray, List.getElem_cons_succ, List.getElem_cons_zero, List.setIfInBounds_toArray, List.set_cons_zero, List.set_cons_succ]
                  clear q0 q1 q2 q3 q4 q5 q6 q7 q8 q9
                  have r0 := hlx.c0
                  have r1 := hlx.c1
                  have r2 := hlx.c2
                  have r3 := hlx.c3
                  have r4 := hlx.c4
                  have r5 := hlx.c5
                  have f0 := hlx.fz 0
                  have f1 := hlx.fz 1
                  have f2 := hlx.fz 2
                  have f3 := hlx.fz 3
                  have f4 := hlx.fz 4
                  have f5 := hlx.fz 5
                  have HST := Lib.hid (hlx.set0 (.slice bA' D'.blocks.length bc') (.slice wA' D'.pending.length wc') (.bool D'.down) (.int .i64 D'.power) (.int .i64 D'.fault) (.int .i64 D'.wi))
                  have HN3 := Lib.hid (boxNo hbx hlx)
                  refine wpAnyH_ready (rs := [16]) (by kernel_rfl) (by simp) ?_
                  refine AllReadyH.cons rfl (fun KK hK => ?_) AllReadyH.nil
                  try simp only [List.getElem_toArray, List.getElem_cons_succ, List.getElem_cons_zero]
                  go_simp
                  clear r0 f0 r1 f1 r2 f2 r3 f3 r4 f4 r5 f5
                  obtain ⟨hlx4, ho4⟩ := HST.out _ rfl
                  clear HST
                  generalize ((((((w2.setCell ⟨bl, 0, none⟩ (.slice bA' D'.blocks.length bc')).setCell ⟨bl, 1, none⟩ (.slice wA' D'.pending.length wc')).setCell ⟨bl, 2, none⟩ (.bool D'.down)).setCell ⟨bl, 3, none⟩ (.int .i64 D'.power)).setCell ⟨bl, 4, none⟩ (.int .i64 D'.fault)).setCell ⟨bl, 5, none⟩ (.int .i64 D'.wi)) = w4 at *
                  have hbx4 := hbx.off ho4 (show ¬ (bd = bl) from hx3)
                  have hoo : Off (fun k => k = bd ∨ k = bl) w2 w4 := ho4.mono (fun k _ hk => .inr hk)
                  have HDU4 := Lib.hid (Duo.box HDU2.out hoo HN3.out)
                  have HBX4 := Lib.hid hbx4
                  have HLX4 := Lib.hid hlx4
                  have HB4 := Lib.hid (HB2.out.trans (hoo.below (fun k hk => by rcases hk with rfl | rfl <;> assumption) HB2.out.size))
                  have HNM := Lib.hid (HN2.out.trans HM0.out)
                  obtain ⟨q0, q1, q2, q3, q4, q5, q6, q7, q8, q9⟩ := HKeep.out w4 HB4.out
                  refine hK.out _ _ ?_ (fun hHeld2 => ?_)
                  · exact ⟨hbx4.c0, q0, q1, q2, q3, q4, q5, q6, q7, q8, q9⟩
                  clear hK KK hHeld
                  have hHeld := hHeld2
                  clear hHeld2
                  try simp only [Act.put, List.setIfInBounds_toArray, List.set_cons_zero, List.set_cons_succ]
                  refine wpAnyH_done (by kernel_rfl) ?_ _
                  clear hHeld q0 q1 q2 q3 q4 q5 q6 q7 q8 q9
                  clear hbx hlx hlx4 ho4 hbx4 hoo HDU2 HN3 HB2 HFL HCL HDU HBX HLX HBW hD HPL HKeep HLR HKB
                  refine lastQ_step (o := _) rfl (fun KK hK => ?_)
                  try simp only [List.getElem_toArray, List.getElem_cons_succ, List.getElem_cons_zero]
                  go_simp
                  refine hK _ _ ?_
                  clear hK KK
                  go_upto_region 18 with fail
                  have CB := Lib.hid HBX4.out.c0
                  have CW := Lib.hid HLX4.out.c1
                  refine' wp_region_mono (by kernel_rfl) (by kernel_rfl) (by kernel_rfl) (by kernel_rfl) (by kernel_rfl) (by kernel_rfl)
                    [MP.is (.bool true), MP.is (.bool false), MP.is (.bool false), MP.is (.int .i64 0), MP.is (.pointer (some ⟨bd, 0, none⟩)), MP.is (.pointer (some ⟨g0, 0, none⟩)), MP.is (.int .i64 (D'.pending.length : Int)), MP.is (.int .i64 0), MP.is (.pointer (some ⟨bl, 0, none⟩)), MP.is (.pointer (some ⟨bl, 1, none⟩)), MP.is (.slice wA' D'.pending.length wc'), MP.is (.int .i64 (D'.pending.length : Int)), MP.is (.bool false), MP.is (.bool false), MP.is (.bool false), MP.is (.int .i64 0), MP.is (.pointer (some ⟨bd, 0, none⟩)), MP.is (.pointer (some ⟨g0, 0, none⟩)), MP.is (.int .i64 (m : Int)), MP.is (.int .i64 (m : Int)), MP.is (.bool false), MP.is (.bool false)] ?hAA1 ?hst1 ?hend1
                  case hAA1 =>
                    intro f
                    conv => lhs; simp only [putA, dstOf, List.size_toArray, List.length_cons, List.length_nil, Nat.zero_add, Nat.reduceAdd, List.getElem?_toArray, List.getElem?_cons_zero, List.getElem?_cons_succ, Option.bind_some, Act.put, List.setIfInBounds_toArray, List.set_cons_zero, List.set_cons_succ]
                    first | done | exact rfl
                  case hst1 =>
                    change Steps _ _ _ _ _ [0, 1, 2, 3, 4, 5, 6, 7, 8, 9, 10, 11, 12, 13, 14, 15, 16, 17, 18, 19, 20, 21]
                    refine Steps.cons rfl ?_ ?_
                    · intro f wz hB h K Q hK
                      try simp only [List.getElem_toArray, List.getElem_cons_zero]
                      go_simp
                      exact hK _ _ (gr_refl _) rfl
                    refine Steps.cons rfl ?_ ?_
                    · intro f wz hB h K Q hK
                      have h0 : (MP.is (.bool true)).p (f 0) wz := h 0 (by kernel_rfl)
                      have e0 : f 0 = (.bool true) := h0
                      simp only [e0] at hK ⊢
                      clear e0
                      try simp only [List.getElem_toArray, List.getElem_cons_succ, List.getElem_cons_zero]
                      go_simp
                      exact hK _ _ (gr_refl _) rfl
                    refine Steps.cons rfl ?_ ?_
                    · intro f wz hB h K Q hK
                      have h1 : (MP.is (.bool false)).p (f 1) wz := h 1 (by kernel_rfl)
                      have e1 : f 1 = (.bool false) := h1
                      simp only [e1] at hK ⊢
                      clear e1
                      try simp only [List.getElem_toArray, List.getElem_cons_succ, List.getElem_cons_zero]
                      go_simp
                      exact hK _ _ (gr_refl _) rfl
                    refine Steps.cons rfl ?_ ?_
                    · intro f wz hB h K Q hK
                      have h2 : (MP.is (.bool false)).p (f 2) wz := h 2 (by kernel_rfl)
                      have e2 : f 2 = (.bool false) := h2
                      simp only [e2] at hK ⊢
                      clear e2
                      try simp only [List.getElem_toArray, List.getElem_cons_succ, List.getElem_cons_zero]
                      go_simp
                      exact hK _ _ (gr_refl _) rfl
                    refine Steps.cons rfl ?_ ?_
                    · intro f wz hB h K Q hK
                      have h2 : (MP.is (.bool false)).p (f 2) wz := h 2 (by kernel_rfl)
                      have e2 : f 2 = (.bool false) := h2
                      have h3 : (MP.is (.int .i64 0)).p (f 3) wz := h 3 (by kernel_rfl)
                      have e3 : f 3 = (.int .i64 0) := h3
                      simp only [e2, e3] at hK ⊢
                      clear e2 e3
                      try simp only [List.getElem_toArray, List.getElem_cons_succ, List.getElem_cons_zero]
                      go_simp
                      exact hK _ _ (gr_refl _) rfl
                    refine Steps.cons rfl ?_ ?_
                    · intro f wz hB h K Q hK
                      have h2 : (MP.is (.bool false)).p (f 2) wz := h 2 (by kernel_rfl)
                      have e2 : f 2 = (.bool false) := h2
                      have h4 : (MP.is (.pointer (some ⟨bd, 0, none⟩))).p (f 4) wz := h 4 (by kernel_rfl)
                      have e4 : f 4 = (.pointer (some ⟨bd, 0, none⟩)) := h4
                      simp only [e2, e4] at hK ⊢
                      clear e2 e4
                      try simp only [List.getElem_toArray, List.getElem_cons_succ, List.getElem_cons_zero]
                      have y0 := keep_of_below (bel_drew hB) CB.out
                      have y1 := keep_of_below (bel_drew hB) CW.out
                      go_simp
                      exact hK _ _ (gr_refl _) rfl
                    refine Steps.cons rfl ?_ ?_
                    · intro f wz hB h K Q hK
                      have h2 : (MP.is (.bool false)).p (f 2) wz := h 2 (by kernel_rfl)
                      have e2 : f 2 = (.bool false) := h2
                      have h5 : (MP.is (.pointer (some ⟨g0, 0, none⟩))).p (f 5) wz := h 5 (by kernel_rfl)
                      have e5 : f 5 = (.pointer (some ⟨g0, 0, none⟩)) := h5
                      simp only [e2, e5] at hK ⊢
                      clear e2 e5
                      try simp only [List.getElem_toArray, List.getElem_cons_succ, List.getElem_cons_zero]
                      go_simp
                      refine ((HDU4.out.below (bel_drew hB)).pending).mono ?_
                      rintro e w5 ⟨rfl, rfl⟩
                      exact hK _ _ (gr_refl _) rfl
                    refine Steps.cons rfl ?_ ?_
                    · intro f wz hB h K Q hK
                      have h2 : (MP.is (.bool false)).p (f 2) wz := h 2 (by kernel_rfl)
                      have e2 : f 2 = (.bool false) := h2
                      simp only [e2] at hK ⊢
                      clear e2
                      try simp only [List.getElem_toArray, List.getElem_cons_succ, List.getElem_cons_zero]
                      go_simp
                      exact hK _ _ (gr_refl _) rfl
                    refine Steps.cons rfl ?_ ?_
                    · intro f wz hB h K Q hK
                      have h2 : (MP.is (.bool false)).p (f 2) wz := h 2 (by kernel_rfl)
                      have e2 : f 2 = (.bool false) := h2
                      have h7 : (MP.is (.int .i64 0)).p (f 7) wz := h 7 (by kernel_rfl)
                      have e7 : f 7 = (.int .i64 0) := h7
                      simp only [e2, e7] at hK ⊢
                      clear e2 e7
                      try simp only [List.getElem_toArray, List.getElem_cons_succ, List.getElem_cons_zero]
                      go_simp
                      exact hK _ _ (gr_refl _) rfl
                    refine Steps.cons rfl ?_ ?_
                    · intro f wz hB h K Q hK
                      have h2 : (MP.is (.bool false)).p (f 2) wz := h 2 (by kernel_rfl)
                      have e2 : f 2 = (.bool false) := h2
                      have h8 : (MP.is (.pointer (some ⟨bl, 0, none⟩))).p (f 8) wz := h 8 (by kernel_rfl)
                      have e8 : f 8 = (.pointer (some ⟨bl, 0, none⟩)) := h8
                      simp only [e2, e8] at hK ⊢
                      clear e2 e8
                      try simp only [List.getElem_toArray, List.getElem_cons_succ, List.getElem_cons_zero]
                      go_simp
                      exact hK _ _ (gr_refl _) rfl
                    refine Steps.cons rfl ?_ ?_
                    · intro f wz hB h K Q hK
                      have h2 : (MP.is (.bool false)).p (f 2) wz := h 2 (by kernel_rfl)
                      have e2 : f 2 = (.bool false) := h2
                      have h9 : (MP.is (.pointer (some ⟨bl, 1, none⟩))).p (f 9) wz := h 9 (by kernel_rfl)
                      have e9 : f 9 = (.pointer (some ⟨bl, 1, none⟩)) := h9
                      simp only [e2, e9] at hK ⊢
                      clear e2 e9
                      try simp only [List.getElem_toArray, List.getElem_cons_succ, List.getElem_cons_zero]
                      have y0 := keep_of_below (bel_drew hB) CB.out
                      have y1 := keep_of_below (bel_drew hB) CW.out
                      go_simp
                      exact hK _ _ (gr_refl _) rfl
                    refine Steps.cons rfl ?_ ?_
                    · intro f wz hB h K Q hK
                      have h2 : (MP.is (.bool false)).p (f 2) wz := h 2 (by kernel_rfl)
                      have e2 : f 2 = (.bool false) := h2
                      have h10 : (MP.is (.slice wA' D'.pending.length wc')).p (f 10) wz := h 10 (by kernel_rfl)
                      have e10 : f 10 = (.slice wA' D'.pending.length wc') := h10
                      simp only [e2, e10] at hK ⊢
                      clear e2 e10
                      try simp only [List.getElem_toArray, List.getElem_cons_succ, List.getElem_cons_zero]
                      go_simp
                      exact hK _ _ (gr_refl _) rfl
                    refine Steps.cons rfl ?_ ?_
                    · intro f wz hB h K Q hK
                      have h2 : (MP.is (.bool false)).p (f 2) wz := h 2 (by kernel_rfl)
                      have e2 : f 2 = (.bool false) := h2
                      have h6 : (MP.is (.int .i64 (D'.pending.length : Int))).p (f 6) wz := h 6 (by kernel_rfl)
                      have e6 : f 6 = (.int .i64 (D'.pending.length : Int)) := h6
                      have h11 : (MP.is (.int .i64 (D'.pending.length : Int))).p (f 11) wz := h 11 (by kernel_rfl)
                      have e11 : f 11 = (.int .i64 (D'.pending.length : Int)) := h11
                      simp only [e2, e6, e11] at hK ⊢
                      clear e2 e6 e11
                      try simp only [List.getElem_toArray, List.getElem_cons_succ, List.getElem_cons_zero]
                      go_simp
                      exact hK _ _ (gr_refl _) rfl
                    refine Steps.cons rfl ?_ ?_
                    · intro f wz hB h K Q hK
                      have h2 : (MP.is (.bool false)).p (f 2) wz := h 2 (by kernel_rfl)
                      have e2 : f 2 = (.bool false) := h2
                      have h12 : (MP.is (.bool false)).p (f 12) wz := h 12 (by kernel_rfl)
                      have e12 : f 12 = (.bool false) := h12
                      simp only [e2, e12] at hK ⊢
                      clear e2 e12
                      try simp only [List.getElem_toArray, List.getElem_cons_succ, List.getElem_cons_zero]
                      go_simp
                      exact hK _ _ (gr_refl _) rfl
                    refine Steps.cons rfl ?_ ?_
                    · intro f wz hB h K Q hK
                      have h13 : (MP.is (.bool false)).p (f 13) wz := h 13 (by kernel_rfl)
                      have e13 : f 13 = (.bool false) := h13
                      simp only [e13] at hK ⊢
                      clear e13
                      try simp only [List.getElem_toArray, List.getElem_cons_succ, List.getElem_cons_zero]
                      go_simp
                      exact hK _ _ (gr_refl _) rfl
                    refine Steps.cons rfl ?_ ?_
                    · intro f wz hB h K Q hK
                      have h14 : (MP.is (.bool false)).p (f 14) wz := h 14 (by kernel_rfl)
                      have e14 : f 14 = (.bool false) := h14
                      simp only [e14] at hK ⊢
                      clear e14
                      try simp only [List.getElem_toArray, List.getElem_cons_succ, List.getElem_cons_zero]
                      go_simp
                      exact hK _ _ (gr_refl _) rfl
                    refine Steps.cons rfl ?_ ?_
                    · intro f wz hB h K Q hK
                      have h14 : (MP.is (.bool false)).p (f 14) wz := h 14 (by kernel_rfl)
                      have e14 : f 14 = (.bool false) := h14
                      have h15 : (MP.is (.int .i64 0)).p (f 15) wz := h 15 (by kernel_rfl)
                      have e15 : f 15 = (.int .i64 0) := h15
                      simp only [e14, e15] at hK ⊢
                      clear e14 e15
                      try simp only [List.getElem_toArray, List.getElem_cons_succ, List.getElem_cons_zero]
                      go_simp
                      exact hK _ _ (gr_refl _) rfl
                    refine Steps.cons rfl ?_ ?_
                    · intro f wz hB h K Q hK
                      have h14 : (MP.is (.bool false)).p (f 14) wz := h 14 (by kernel_rfl)
                      have e14 : f 14 = (.bool false) := h14
                      have h16 : (MP.is (.pointer (some ⟨bd, 0, none⟩))).p (f 16) wz := h 16 (by kernel_rfl)
                      have e16 : f 16 = (.pointer (some ⟨bd, 0, none⟩)) := h16
                      simp only [e14, e16] at hK ⊢
                      clear e14 e16
                      try simp only [List.getElem_toArray, List.getElem_cons_succ, List.getElem_cons_zero]
                      have y0 := keep_of_below (bel_drew hB) CB.out
                      have y1 := keep_of_below (bel_drew hB) CW.out
                      go_simp
                      exact hK _ _ (gr_refl _) rfl
                    refine Steps.cons rfl ?_ ?_
                    · intro f wz hB h K Q hK
                      have h14 : (MP.is (.bool false)).p (f 14) wz := h 14 (by kernel_rfl)
                      have e14 : f 14 = (.bool false) := h14
                      have h17 : (MP.is (.pointer (some ⟨g0, 0, none⟩))).p (f 17) wz := h 17 (by kernel_rfl)
                      have e17 : f 17 = (.pointer (some ⟨g0, 0, none⟩)) := h17
                      simp only [e14, e17] at hK ⊢
                      clear e14 e17
                      try simp only [List.getElem_toArray, List.getElem_cons_succ, List.getElem_cons_zero]
                      go_simp
                      refine ((HDU4.out.below (bel_drew hB)).blocks).mono ?_
                      rintro e w5 ⟨rfl, rfl⟩
                      exact hK _ _ (gr_refl _) (congrArg (fun x : Nat => Value.int .i64 (x : Int)) HNM.out)
                    refine Steps.cons rfl ?_ ?_
                    · intro f wz hB h K Q hK
                      have h14 : (MP.is (.bool false)).p (f 14) wz := h 14 (by kernel_rfl)
                      have e14 : f 14 = (.bool false) := h14
                      simp only [e14] at hK ⊢
                      clear e14
                      try simp only [List.getElem_toArray, List.getElem_cons_succ, List.getElem_cons_zero]
                      go_simp
                      exact hK _ _ (gr_refl _) rfl
                    refine Steps.cons rfl ?_ ?_
                    · intro f wz hB h K Q hK
                      have h14 : (MP.is (.bool false)).p (f 14) wz := h 14 (by kernel_rfl)
                      have e14 : f 14 = (.bool false) := h14
                      have h18 : (MP.is (.int .i64 (m : Int))).p (f 18) wz := h 18 (by kernel_rfl)
                      have e18 : f 18 = (.int .i64 (m : Int)) := h18
                      have h19 : (MP.is (.int .i64 (m : Int))).p (f 19) wz := h 19 (by kernel_rfl)
                      have e19 : f 19 = (.int .i64 (m : Int)) := h19
                      simp only [e14, e18, e19] at hK ⊢
                      clear e14 e18 e19
                      try simp only [List.getElem_toArray, List.getElem_cons_succ, List.getElem_cons_zero]
                      go_simp
                      exact hK _ _ (gr_refl _) rfl
                    refine Steps.cons rfl ?_ ?_
                    · intro f wz hB h K Q hK
                      have h14 : (MP.is (.bool false)).p (f 14) wz := h 14 (by kernel_rfl)
                      have e14 : f 14 = (.bool false) := h14
                      have h20 : (MP.is (.bool false)).p (f 20) wz := h 20 (by kernel_rfl)
                      have e20 : f 20 = (.bool false) := h20
                      simp only [e14, e20] at hK ⊢
                      clear e14 e20
                      try simp only [List.getElem_toArray, List.getElem_cons_succ, List.getElem_cons_zero]
                      go_simp
                      exact hK _ _ (gr_refl _) rfl
                    exact Steps.nil
                  intro f w5 hB5 hR
                  have e0 : f 0 = (.bool true) := hR 0 (by decide)
                  have e1 : f 1 = (.bool false) := hR 1 (by decide)
                  have e2 : f 2 = (.bool false) := hR 2 (by decide)
                  have e3 : f 3 = (.int .i64 0) := hR 3 (by decide)
                  have e4 : f 4 = (.pointer (some ⟨bd, 0, none⟩)) := hR 4 (by decide)
                  have e5 : f 5 = (.pointer (some ⟨g0, 0, none⟩)) := hR 5 (by decide)
                  have e6 : f 6 = (.int .i64 (D'.pending.length : Int)) := hR 6 (by decide)
                  have e7 : f 7 = (.int .i64 0) := hR 7 (by decide)
                  have e8 : f 8 = (.pointer (some ⟨bl, 0, none⟩)) := hR 8 (by decide)
                  have e9 : f 9 = (.pointer (some ⟨bl, 1, none⟩)) := hR 9 (by decide)
                  have e10 : f 10 = (.slice wA' D'.pending.length wc') := hR 10 (by decide)
                  have e11 : f 11 = (.int .i64 (D'.pending.length : Int)) := hR 11 (by decide)
                  have e12 : f 12 = (.bool false) := hR 12 (by decide)
                  have e13 : f 13 = (.bool false) := hR 13 (by decide)
                  have e14 : f 14 = (.bool false) := hR 14 (by decide)
                  have e15 : f 15 = (.int .i64 0) := hR 15 (by decide)
                  have e16 : f 16 = (.pointer (some ⟨bd, 0, none⟩)) := hR 16 (by decide)
                  have e17 : f 17 = (.pointer (some ⟨g0, 0, none⟩)) := hR 17 (by decide)
                  have e18 : f 18 = (.int .i64 (m : Int)) := hR 18 (by decide)
                  have e19 : f 19 = (.int .i64 (m : Int)) := hR 19 (by decide)
                  have e20 : f 20 = (.bool false) := hR 20 (by decide)
                  have e21 : f 21 = (.bool false) := hR 21 (by decide)
                  simp only [e0, e1, e2, e3, e4, e5, e6, e7, e8, e9, e10, e11, e12, e13, e14, e15, e16, e17, e18, e19, e20, e21]
                  clear e0 e1 e2 e3 e4 e5 e6 e7 e8 e9 e10 e11 e12 e13 e14 e15 e16 e17 e18 e19 e20 e21 hR
                  have HPN : Hid (PL m (k + 1) w w5 bd bl) := Lib.hid (by
                    have hD5 := bel_drew hB5
                    have hl2 := HL2.out
                    exact ⟨g0, g1, D', D1, bA', bc', wA', wc', bA1, bc1, wA1, wc1, ⟨(HDU4.out).below hD5, HBX4.out.below hD5, HLX4.out.below hD5, HB4.out.trans (hD5.mono HB4.out.size), hx1, hx2, hx3⟩, HNM.out, HM1.out, by omega, by omega⟩)
                  clear HDU4 HBX4 HLX4 HB4 HL2 HN2 HNM CB CW hB5
                  go_wp2_with fail
                  go_roundw
                  case rel => exact ⟨k + 1, by omega, by omega, by go_num, HPN.out⟩
                  case measure => simp [intOf]; omega
              · by_cases hk7 : kd = 7
                · have tk : (kd == 7) = true := beq_iff_eq.2 hk7
                  go_upto_region 15 with fail
                  have HDU := Lib.hid hDuo
                  have HBX := Lib.hid hd
                  have HLX := Lib.hid hl
                  have HBW := Lib.hid hbw
                  clear hDuo hd hl hbw q0 q1 q2 q3 q4 q5 q6 q7 q8 q9
                  refine wp_region_any (by kernel_rfl) ?_
                  change wpAny _ _ _ _ _ _ _ (World.drew wr)
                  have hD := bel_drew (w := wr) (gr_refl _)
                  generalize World.drew wr = wt at *
                  refine wpAny_of_held (S := fun W => W.cell? ⟨bd, 1, none⟩ = some (.pointer (some ⟨g1, 0, none⟩)) ∧ W.cell? ⟨bl, 6, none⟩ = some (.slice bA1 D1.blocks.length bc1) ∧ W.cell? ⟨bl, 7, none⟩ = some (.slice wA1 D1.pending.length wc1) ∧ W.cell? ⟨bl, 8, none⟩ = some (.bool D1.down) ∧ W.cell? ⟨bl, 9, none⟩ = some (.int .i64 D1.power) ∧ W.cell? ⟨bl, 10, none⟩ = some (.int .i64 D1.fault) ∧ W.cell? ⟨bl, 11, none⟩ = some (.int .i64 D1.wi)) _ _ _ _ ?_
                  have hHeld : wt.cell? ⟨bd, 1, none⟩ = some (.pointer (some ⟨g1, 0, none⟩)) ∧ wt.cell? ⟨bl, 6, none⟩ = some (.slice bA1 D1.blocks.length bc1) ∧ wt.cell? ⟨bl, 7, none⟩ = some (.slice wA1 D1.pending.length wc1) ∧ wt.cell? ⟨bl, 8, none⟩ = some (.bool D1.down) ∧ wt.cell? ⟨bl, 9, none⟩ = some (.int .i64 D1.power) ∧ wt.cell? ⟨bl, 10, none⟩ = some (.int .i64 D1.fault) ∧ wt.cell? ⟨bl, 11, none⟩ = some (.int .i64 D1.wi) := ⟨(HBX.out.below hD).c1, (HLX.out.below hD).c6, (HLX.out.below hD).c7, (HLX.out.below hD).c8, (HLX.out.below hD).c9, (HLX.out.below hD).c10, (HLX.out.below hD).c11⟩
                  refine wpAnyH_take (i := 0) (v := .int .i64 1) rfl (by kernel_rfl) (by kernel_rfl) (by kernel_rfl) (fun _ _ _ h => h) (Or.inl ⟨by rfl, ?_⟩) hHeld ?_
                  · intro W hS
                    (try dsimp only at hS)
                    go_simp
                    all_goals (first | done | decide | rfl)
                  try simp only [Act.put, List.getElem_toArray, List.getElem_cons_zero, List.setIfInBounds_toArray, List.set_cons_zero, List.set_cons_succ]
                  refine wpAnyH_take (i := 1) (v := .int .i64 0) rfl (by kernel_rfl) (by kernel_rfl) (by kernel_rfl) (fun _ _ _ h => h) (Or.inl ⟨by rfl, ?_⟩) hHeld ?_
                  · intro W hS
                    (try dsimp only at hS)
                    go_simp
                    all_goals (first | done | decide | rfl)
                  try simp only [Act.put, List.getElem_toArray, List.getElem_cons_succ, List.getElem_cons_zero, List.setIfInBounds_toArray, List.set_cons_zero, List.set_cons_succ]
                  refine wpAnyH_take (i := 2) (v := .int .i64 1) rfl (by kernel_rfl) (by kernel_rfl) (by kernel_rfl) (fun _ _ _ h => h) (Or.inl ⟨by rfl, ?_⟩) hHeld ?_
                  · intro W hS
                    (try dsimp only at hS)
                    go_simp
                    all_goals (first | done | decide | rfl)
                  try simp only [Act.put, List.getElem_toArray, List.getElem_cons_succ, List.getElem_cons_zero, List.setIfInBounds_toArray, List.set_cons_zero, List.set_cons_succ]
                  refine wpAnyH_take (i := 3) (v := .int .i64 0) rfl (by kernel_rfl) (by kernel_rfl) (by kernel_rfl) (fun _ _ _ h => h) (Or.inl ⟨by rfl, ?_⟩) hHeld ?_
                  · intro W hS
                    (try dsimp only at hS)
                    go_simp
                    all_goals (first | done | decide | rfl)
                  try simp only [Act.put, List.getElem_toArray, List.getElem_cons_succ, List.getElem_cons_zero, List.setIfInBounds_toArray, List.set_cons_zero, List.set_cons_succ]
                  refine wpAnyH_take (i := 4) (v := .int .i64 1) rfl (by kernel_rfl) (by kernel_rfl) (by kernel_rfl) (fun _ _ _ h => h) (Or.inl ⟨by rfl, ?_⟩) hHeld ?_
                  · intro W hS
                    (try dsimp only at hS)
                    go_simp
                    all_goals (first | done | decide | rfl)
                  try simp only [Act.put, List.getElem_toArray, List.getElem_cons_succ, List.getElem_cons_zero, List.setIfInBounds_toArray, List.set_cons_zero, List.set_cons_succ]
                  refine wpAnyH_take (i := 5) (v := .pointer (some ⟨bd, 1, none⟩)) rfl (by kernel_rfl) (by kernel_rfl) (by kernel_rfl) (fun _ _ _ h => h) (Or.inl ⟨by rfl, ?_⟩) hHeld ?_
                  · intro W hS
                    (try dsimp only at hS)
                    go_simp
                    all_goals (first | done | decide | rfl)
                  try simp only [Act.put, List.getElem_toArray, List.getElem_cons_succ, List.getElem_cons_zero, List.setIfInBounds_toArray, List.set_cons_zero, List.set_cons_succ]
                  refine wpAnyH_take (i := 6) (v := .pointer (some ⟨g1, 0, none⟩)) rfl (by kernel_rfl) (by kernel_rfl) (by kernel_rfl) (fun _ _ _ h => h) (Or.inl ⟨by rfl, ?_⟩) hHeld ?_
                  · intro W hS
                    (try dsimp only at hS)
                    obtain ⟨s1, s2, s3, s4, s5, s6, s7⟩ := hS
                    go_simp
                  try simp only [Act.put, List.getElem_toArray, List.getElem_cons_succ, List.getElem_cons_zero, List.setIfInBounds_toArray, List.set_cons_zero, List.set_cons_succ]
                  refine wpAnyH_take (i := 8) (v := .int .i64 1) rfl (by kernel_rfl) (by kernel_rfl) (by kernel_rfl) (fun _ _ _ h => h) (Or.inl ⟨by rfl, ?_⟩) hHeld ?_
                  · intro W hS
                    (try dsimp only at hS)
                    go_simp
                    all_goals (first | done | decide | rfl)
                  try simp only [Act.put, List.getElem_toArray, List.getElem_cons_succ, List.getElem_cons_zero, List.setIfInBounds_toArray, List.set_cons_zero, List.set_cons_succ]
                  refine wpAnyH_take (i := 9) (v := .pointer (some ⟨bl, 6, none⟩)) rfl (by kernel_rfl) (by kernel_rfl) (by kernel_rfl) (fun _ _ _ h => h) (Or.inl ⟨by rfl, ?_⟩) hHeld ?_
                  · intro W hS
                    (try dsimp only at hS)
                    go_simp
                    all_goals (first | done | decide | rfl)
                  try simp only [Act.put, List.getElem_toArray, List.getElem_cons_succ, List.getElem_cons_zero, List.setIfInBounds_toArray, List.set_cons_zero, List.set_cons_succ]
                  refine wpAnyH_take (i := 10) (v := .agg #[.slice bA1 D1.blocks.length bc1, .slice wA1 D1.pending.length wc1, .bool D1.down, .int .i64 D1.power, .int .i64 D1.fault, .int .i64 D1.wi]) rfl (by kernel_rfl) (by kernel_rfl) (by kernel_rfl) (fun _ _ _ h => h) (Or.inl ⟨by rfl, ?_⟩) hHeld ?_
                  · intro W hS
                    (try dsimp only at hS)
                    obtain ⟨s1, s2, s3, s4, s5, s6, s7⟩ := hS
                    go_simp
                  try simp only [Act.put, List.getElem_toArray, List.getElem_cons_succ, List.getElem_cons_zero, List.setIfInBounds_toArray, List.set_cons_zero, List.set_cons_succ]
                  refine wpAnyH_ready (rs := [7]) (by kernel_rfl) (by simp) ?_
                  refine AllReadyH.cons rfl (fun KK hK => ?_) AllReadyH.nil
                  try simp only [List.getElem_toArray, List.getElem_cons_succ, List.getElem_cons_zero]
                  go_simp
                  refine ((HDU.out.below hD).swap.copy (by omega) (HBW.out.trans (hD.mono HBW.out.size)).size).mono ?_
                  rintro e w2 ⟨gn, rfl, hDuo2, hb2⟩
                  dsimp only
                  have hbx := (HBX.out.below hD).below hb2
                  have hlx := (HLX.out.below hD).below hb2
                  refine hK.out _ _ ?_ (fun hHeld2 => ?_)
                  · exact ⟨hbx.c1, hlx.c6, hlx.c7, hlx.c8, hlx.c9, hlx.c10, hlx.c11⟩
                  clear hK KK hHeld
                  have hHeld := hHeld2
                  clear hHeld2
                  try simp only [Act.put, List.setIfInBounds_toArray, List.set_cons_zero, List.set_cons_succ]
                  refine wpAnyH_take (i := 11) (v := .pointer (some ⟨bd, 0, none⟩)) rfl (by kernel_rfl) (by kernel_rfl) (by kernel_rfl) (fun _ _ _ h => h) (Or.inl ⟨by rfl, ?_⟩) hHeld ?_
                  · intro W hS
                    (try dsimp only at hS)
                    go_simp
                    all_goals (first | done | decide | rfl)
                  try simp only [Act.put, List.getElem_toArray, List.getElem_cons_succ, List.getElem_cons_zero, List.setIfInBounds_toArray, List.set_cons_zero, List.set_cons_succ]
                  have y0 := hbx.c0
                  have z0 := hbx.fz 0
                  have hbx3 := hbx.s0 (.pointer (some ⟨gn, 0, none⟩))
                  have ho3 : Off (fun k => k = bd ∨ k = bl) w2 (w2.setCell ⟨bd, 0, none⟩ (.pointer (some ⟨gn, 0, none⟩))) := (Off.refl _ _).setCell _ (.inl rfl)
                  have hlx3 := hlx.off ((Off.refl (· = bd) w2).setCell (g := bd) (j := 0) (.pointer (some ⟨gn, 0, none⟩)) rfl) (show ¬ (bl = bd) from fun e => hx3 e.symm)
                  have HN3 := Lib.hid (boxNo hbx hlx)
                  refine wpAnyH_ready (rs := [12]) (by kernel_rfl) (by simp) ?_
                  refine AllReadyH.cons rfl (fun KK hK => ?_) AllReadyH.nil
                  try simp only [List.getElem_toArray, List.getElem_cons_succ, List.getElem_cons_zero]
                  go_simp
                  generalize w2.setCell ⟨bd, 0, none⟩ (.pointer (some ⟨gn, 0, none⟩)) = w3 at *
                  refine hK.out _ _ ?_ (fun hHeld2 => ?_)
                  · exact ⟨hbx3.c1, hlx3.c6, hlx3.c7, hlx3.c8, hlx3.c9, hlx3.c10, hlx3.c11⟩
                  clear hK KK hHeld
                  have hHeld := hHeld2
                  clear hHeld2
                  try simp only [Act.put, List.setIfInBounds_toArray, List.set_cons_zero, List.set_cons_succ]
                  clear y0 z0
                  refine wpAnyH_take (i := 13) (v := .pointer (some ⟨bl, 0, none⟩)) rfl (by kernel_rfl) (by kernel_rfl) (by kernel_rfl) (fun _ _ _ h => h) (Or.inl ⟨by rfl, ?_⟩) hHeld ?_
                  · intro W hS
                    (try dsimp only at hS)
                    go_simp
                    all_goals (first | done | decide | rfl)
                  try simp only [Act.put, List.getElem_toArray, List.getElem_cons_succ, List.getElem_cons_zero, List.setIfInBounds_toArray, List.set_cons_zero, List.set_cons_succ]
                  have r0 := hlx3.c0
                  have r1 := hlx3.c1
                  have r2 := hlx3.c2
                  have r3 := hlx3.c3
                  have r4 := hlx3.c4
                  have r5 := hlx3.c5
                  have f0 := hlx3.fz 0
                  have f1 := hlx3.fz 1
                  have f2 := hlx3.fz 2
                  have f3 := hlx3.fz 3
                  have f4 := hlx3.fz 4
                  have f5 := hlx3.fz 5
                  have HST := Lib.hid (hlx3.set0 (.slice bA1 D1.blocks.length bc1) (.slice wA1 D1.pending.length wc1) (.bool D1.down) (.int .i64 D1.power) (.int .i64 D1.fault) (.int .i64 D1.wi))
                  refine wpAnyH_ready (rs := [14]) (by kernel_rfl) (by simp) ?_
                  refine AllReadyH.cons rfl (fun KK hK => ?_) AllReadyH.nil
                  try simp only [List.getElem_toArray, List.getElem_cons_succ, List.getElem_cons_zero]
                  go_simp
                  clear r0 f0 r1 f1 r2 f2 r3 f3 r4 f4 r5 f5
                  obtain ⟨hlx4, ho4⟩ := HST.out _ rfl
                  clear HST
                  generalize ((((((w3.setCell ⟨bl, 0, none⟩ (.slice bA1 D1.blocks.length bc1)).setCell ⟨bl, 1, none⟩ (.slice wA1 D1.pending.length wc1)).setCell ⟨bl, 2, none⟩ (.bool D1.down)).setCell ⟨bl, 3, none⟩ (.int .i64 D1.power)).setCell ⟨bl, 4, none⟩ (.int .i64 D1.fault)).setCell ⟨bl, 5, none⟩ (.int .i64 D1.wi)) = w4 at *
                  have hbx4 := hbx3.off ho4 (show ¬ (bd = bl) from hx3)
                  refine hK.out _ _ ?_ (fun hHeld2 => ?_)
                  · exact ⟨hbx4.c1, hlx4.c6, hlx4.c7, hlx4.c8, hlx4.c9, hlx4.c10, hlx4.c11⟩
                  clear hK KK hHeld
                  have hHeld := hHeld2
                  clear hHeld2
                  try simp only [Act.put, List.setIfInBounds_toArray, List.set_cons_zero, List.set_cons_succ]
                  refine wpAnyH_done (by kernel_rfl) ?_ _
                  clear hHeld
                  have HPN : Hid (PL m (k + 1) w w4 bd bl) := Lib.hid (by
                    have hoo := ho3.trans (ho4.mono (fun k _ hk => .inr hk))
                    have hdn := Duo.box hDuo2.swap hoo HN3.out
                    have h1 := HBW.out.trans ((hD.trans (hb2.mono hD.size)).mono HBW.out.size)
                    exact ⟨gn, g1, D1, D1, bA1, bc1, wA1, wc1, bA1, bc1, wA1, wc1, ⟨hdn, hbx4, hlx4, h1.trans (hoo.below (fun k hk => by rcases hk with rfl | rfl <;> assumption) h1.size), hx1, hx2, hx3⟩, HM1.out, HM1.out, by omega, by omega⟩)
                  clear hbx hlx hbx3 ho3 hlx3 hlx4 ho4 hbx4 hDuo2 hb2 hD HDU HBX HLX HBW HPL
                  go_wp2_with fail
                  go_roundw
                  case rel => exact ⟨k + 1, by omega, by omega, by go_num, HPN.out⟩
                  case measure => simp [intOf]; omega
                · have tk : (kd == 7) = false := beq_eq_false_iff_ne.2 hk7
                  go_upto_region 17 with fail
                  have HDU := Lib.hid hDuo
                  have HBX := Lib.hid hd
                  have HLX := Lib.hid hl
                  have HBW := Lib.hid hbw
                  clear hDuo hd hl hbw q0 q1 q2 q3 q4 q5 q6 q7 q8 q9
                  refine wp_region_lastL (by kernel_rfl) (by simp) (by kernel_rfl) (by kernel_rfl) ?_
                  simp only [List.dropLast, List.length_cons, List.length_nil]
                  have hD := bel_drew (w := wr) (gr_refl _)
                  generalize World.drew wr = wt at *
                  refine wpAny_of_held (S := fun W => W.cell? ⟨bd, 1, none⟩ = some (.pointer (some ⟨g1, 0, none⟩)) ∧ W.cell? ⟨g, o + k * 10, none⟩ = some (.int .i64 kd) ∧ W.cell? ⟨g, o + k * 10 + 1, none⟩ = some (.int .i64 on) ∧ W.cell? ⟨g, o + k * 10 + 2, none⟩ = some (.int .i64 bt) ∧ W.cell? ⟨g, o + k * 10 + 3, none⟩ = some (.int .i64 sd) ∧ W.cell? ⟨g, o + k * 10 + 4, none⟩ = some (.bool sh) ∧ W.cell? ⟨g, o + k * 10 + 5, none⟩ = some (.int .i64 nn) ∧ W.cell? ⟨g, o + k * 10 + 6, none⟩ = some (.int .i64 er) ∧ W.cell? ⟨g, o + k * 10 + 7, none⟩ = some (.slice K nk ck) ∧ W.cell? ⟨g, o + k * 10 + 8, none⟩ = some (.int .i64 torn) ∧ W.cell? ⟨g, o + k * 10 + 9, none⟩ = some (.int .i64 cut)) _ _ _ _ ?_
                  obtain ⟨q0, q1, q2, q3, q4, q5, q6, q7, q8, q9⟩ := HKeep.out wt (HBW.out.trans (hD.mono HBW.out.size))
                  have hHeld : wt.cell? ⟨bd, 1, none⟩ = some (.pointer (some ⟨g1, 0, none⟩)) ∧ wt.cell? ⟨g, o + k * 10, none⟩ = some (.int .i64 kd) ∧ wt.cell? ⟨g, o + k * 10 + 1, none⟩ = some (.int .i64 on) ∧ wt.cell? ⟨g, o + k * 10 + 2, none⟩ = some (.int .i64 bt) ∧ wt.cell? ⟨g, o + k * 10 + 3, none⟩ = some (.int .i64 sd) ∧ wt.cell? ⟨g, o + k * 10 + 4, none⟩ = some (.bool sh) ∧ wt.cell? ⟨g, o + k * 10 + 5, none⟩ = some (.int .i64 nn) ∧ wt.cell? ⟨g, o + k * 10 + 6, none⟩ = some (.int .i64 er) ∧ wt.cell? ⟨g, o + k * 10 + 7, none⟩ = some (.slice K nk ck) ∧ wt.cell? ⟨g, o + k * 10 + 8, none⟩ = some (.int .i64 torn) ∧ wt.cell? ⟨g, o + k * 10 + 9, none⟩ = some (.int .i64 cut) := ⟨(HBX.out.below hD).c1, q0, q1, q2, q3, q4, q5, q6, q7, q8, q9⟩
                  clear q0 q1 q2 q3 q4 q5 q6 q7 q8 q9
                  refine wpAnyH_take (i := 0) (v := .int .i64 1) rfl (by kernel_rfl) (by kernel_rfl) (by kernel_rfl) (fun _ _ _ h => h) (Or.inl ⟨by rfl, ?_⟩) hHeld ?_
                  · intro W hS
                    (try dsimp only at hS)
                    go_simp
                    all_goals (first | done | decide | rfl)
                  try simp only [Act.put, List.getElem_toArray, List.getElem_cons_zero, List.setIfInBounds_toArray, List.set_cons_zero, List.set_cons_succ]
                  refine wpAnyH_take (i := 1) (v := .int .i64 1) rfl (by kernel_rfl) (by kernel_rfl) (by kernel_rfl) (fun _ _ _ h => h) (Or.inl ⟨by rfl, ?_⟩) hHeld ?_
                  · intro W hS
                    (try dsimp only at hS)
                    go_simp
                    all_goals (first | done | decide | rfl)
                  try simp only [Act.put, List.getElem_toArray, List.getElem_cons_succ, List.getElem_cons_zero, List.setIfInBounds_toArray, List.set_cons_zero, List.set_cons_succ]
                  refine wpAnyH_take (i := 2) (v := .pointer (some ⟨bd, 1, none⟩)) rfl (by kernel_rfl) (by kernel_rfl) (by kernel_rfl) (fun _ _ _ h => h) (Or.inl ⟨by rfl, ?_⟩) hHeld ?_
                  · intro W hS
                    (try dsimp only at hS)
                    go_simp
                    all_goals (first | done | decide | rfl)
                  try simp only [Act.put, List.getElem_toArray, List.getElem_cons_succ, List.getElem_cons_zero, List.setIfInBounds_toArray, List.set_cons_zero, List.set_cons_succ]
                  refine wpAnyH_take (i := 3) (v := .pointer (some ⟨g1, 0, none⟩)) rfl (by kernel_rfl) (by kernel_rfl) (by kernel_rfl) (fun _ _ _ h => h) (Or.inl ⟨by rfl, ?_⟩) hHeld ?_
                  · intro W hS
                    (try dsimp only at hS)
                    obtain ⟨s1, s2, s3, s4, s5, s6, s7, s8, s9, s10, s11⟩ := hS
                    go_simp
                  try simp only [Act.put, List.getElem_toArray, List.getElem_cons_succ, List.getElem_cons_zero, List.setIfInBounds_toArray, List.set_cons_zero, List.set_cons_succ]
                  refine wpAnyH_take (i := 4) (v := .int .i64 1) rfl (by kernel_rfl) (by kernel_rfl) (by kernel_rfl) (fun _ _ _ h => h) (Or.inl ⟨by rfl, ?_⟩) hHeld ?_
                  · intro W hS
                    (try dsimp only at hS)
                    go_simp
                    all_goals (first | done | decide | rfl)
                  try simp only [Act.put, List.getElem_toArray, List.getElem_cons_succ, List.getElem_cons_zero, List.setIfInBounds_toArray, List.set_cons_zero, List.set_cons_succ]
                  refine wpAnyH_take (i := 5) (v := .pointer (some ⟨bl, 6, none⟩)) rfl (by kernel_rfl) (by kernel_rfl) (by kernel_rfl) (fun _ _ _ h => h) (Or.inl ⟨by rfl, ?_⟩) hHeld ?_
                  · intro W hS
                    (try dsimp only at hS)
                    go_simp
                    all_goals (first | done | decide | rfl)
                  try simp only [Act.put, List.getElem_toArray, List.getElem_cons_succ, List.getElem_cons_zero, List.setIfInBounds_toArray, List.set_cons_zero, List.set_cons_succ]
                  refine wpAnyH_take (i := 7) (v := .slice (some ⟨g, o, none⟩) n c) rfl (by kernel_rfl) (by kernel_rfl) (by kernel_rfl) (fun _ _ _ h => h) (Or.inl ⟨by rfl, ?_⟩) hHeld ?_
                  · intro W hS
                    (try dsimp only at hS)
                    go_simp
                    all_goals (first | done | decide | rfl)
                  try simp only [Act.put, List.getElem_toArray, List.getElem_cons_succ, List.getElem_cons_zero, List.setIfInBounds_toArray, List.set_cons_zero, List.set_cons_succ]
                  refine wpAnyH_take (i := 8) (v := .int .i64 (k : Int)) rfl (by kernel_rfl) (by kernel_rfl) (by kernel_rfl) (fun _ _ _ h => h) (Or.inl ⟨by rfl, ?_⟩) hHeld ?_
                  · intro W hS
                    (try dsimp only at hS)
                    go_simp
                    all_goals (first | done | decide | rfl)
                  try simp only [Act.put, List.getElem_toArray, List.getElem_cons_succ, List.getElem_cons_zero, List.setIfInBounds_toArray, List.set_cons_zero, List.set_cons_succ]
                  refine wpAnyH_take (i := 9) (v := .pointer (some ⟨g, o + k * 10, none⟩)) rfl (by kernel_rfl) (by kernel_rfl) (by kernel_rfl) (fun _ _ _ h => h) (Or.inl ⟨by rfl, ?_⟩) hHeld ?_
                  · intro W hS
                    (try dsimp only at hS)
                    go_simp
                    all_goals (first | done | decide | rfl)
                  try simp only [Act.put, List.getElem_toArray, List.getElem_cons_succ, List.getElem_cons_zero, List.setIfInBounds_toArray, List.set_cons_zero, List.set_cons_succ]
                  refine wpAnyH_take (i := 10) (v := .agg #[.int .i64 kd, .int .i64 on, .int .i64 bt, .int .i64 sd, .bool sh, .int .i64 nn, .int .i64 er, .slice K nk ck, .int .i64 torn, .int .i64 cut]) rfl (by kernel_rfl) (by kernel_rfl) (by kernel_rfl) (fun _ _ _ h => h) (Or.inl ⟨by rfl, ?_⟩) hHeld ?_
                  · intro W hS
                    (try dsimp only at hS)
                    obtain ⟨s1, s2, s3, s4, s5, s6, s7, s8, s9, s10, s11⟩ := hS
                    go_simp
                  try simp only [Act.put, List.getElem_toArray, List.getElem_cons_succ, List.getElem_cons_zero, List.setIfInBounds_toArray, List.set_cons_zero, List.set_cons_succ]
                  refine wpAnyH_ready (rs := [6]) (by kernel_rfl) (by simp) ?_
                  refine AllReadyH.cons rfl (fun KK hK => ?_) AllReadyH.nil
                  try simp only [List.getElem_toArray, List.getElem_cons_succ, List.getElem_cons_zero]
                  have z0 := (HLX.out.below hD).c6
                  have z1 := (HLX.out.below hD).c7
                  have z2 := (HLX.out.below hD).c8
                  have z3 := (HLX.out.below hD).c9
                  have z4 := (HLX.out.below hD).c10
                  have z5 := (HLX.out.below hD).c11
                  go_simp
                  clear z0 z1 z2 z3 z4 z5
                  refine hK.out _ _ ?_ (fun hHeld2 => ?_)
                  · exact hHeld
                  clear hK KK hHeld
                  have hHeld := hHeld2
                  clear hHeld2
                  try simp only [Act.put, List.setIfInBounds_toArray, List.set_cons_zero, List.set_cons_succ]
                  refine wpAnyH_ready (rs := [11]) (by kernel_rfl) (by simp) ?_
                  refine AllReadyH.cons rfl (fun KK hK => ?_) AllReadyH.nil
                  try simp only [List.getElem_toArray, List.getElem_cons_succ, List.getElem_cons_zero]
                  go_simp
                  obtain ⟨F, G, hPr, hFl, hcl⟩ := (HDU.out.below hD).swap.does
                  have HCL := Lib.hid hcl
                  have HFL := Lib.hid hFl
                  clear hcl hFl
                  refine (does_any wt w.heap.size g1 F G _ D1 kd on bt sd sh nn er K nk ck keep torn cut hPr (by omega) hnn (HLR.out wt (HBW.out.trans (hD.mono HBW.out.size))) (fun ad e h0 hF => by have h1 := HKB.out ad e h0; have h2 := (HFL.out _ hF).1; omega) (by omega)).mono ?_
                  rintro e w2 hDP
                  obtain ⟨v', D', rfl, hDuo2, ho2, hn2, hl2⟩ := HCL.out e w2 hDP
                  obtain ⟨bA', bc', wA', wc', rfl⟩ := hDuo2.form
                  have HN2 := Lib.hid hn2
                  have HL2 := Lib.hid hl2
                  have HDU2 := Lib.hid hDuo2
                  have hbt : Below w.heap.size w wt := HBW.out.trans (hD.mono HBW.out.size)
                  have hb2 : Below w.heap.size wt w2 := ho2.below (fun k hk => (HFL.out k hk).1) hbt.size
                  have HB2 := Lib.hid (hbt.trans hb2)
                  clear hbt hb2 hn2 hl2 hDuo2 hDP hPr
                  dsimp only
                  have hbx := (HBX.out.below hD).off ho2 (fun h => (HFL.out _ h).2 (.inl rfl))
                  have hlx := (HLX.out.below hD).off ho2 (fun h => (HFL.out _ h).2 (.inr rfl))
                  obtain ⟨q0, q1, q2, q3, q4, q5, q6, q7, q8, q9⟩ := HKeep.out w2 HB2.out
                  refine hK.out _ _ ?_ (fun hHeld2 => ?_)
                  · exact ⟨hbx.c1, q0, q1, q2, q3, q4, q5, q6, q7, q8, q9⟩
                  clear hK KK hHeld
                  have hHeld := hHeld2
                  clear hHeld2
                  try simp only [Act.put, List.setIfInBounds_toArray, List.set_cons_zero, List.set_cons_succ]
                  clear ho2
                  refine wpAnyH_take (i := 12) (v := .tuple #[.agg #[.slice bA' D'.blocks.length bc', .slice wA' D'.pending.length wc', .bool D'.down, .int .i64 D'.power, .int .i64 D'.fault, .int .i64 D'.wi], .bool true]) rfl (by kernel_rfl) (by kernel_rfl) (by kernel_rfl) (fun _ _ _ h => h) (Or.inl ⟨by rfl, ?_⟩) hHeld ?_
                  · intro W hS
                    (try dsimp only at hS)
                    go_simp
                    all_goals (first | done | decide | rfl)
                  try simp only [Act.put, List.getElem_toArray, List.getElem_cons_succ, List.getElem_cons_zero, List.setIfInBounds_toArray, List.set_cons_zero, List.set_cons_succ]
                  refine wpAnyH_take (i := 13) (v := .agg #[.slice bA' D'.blocks.length bc', .slice wA' D'.pending.length wc', .bool D'.down, .int .i64 D'.power, .int .i64 D'.fault, .int .i64 D'.wi]) rfl (by kernel_rfl) (by kernel_rfl) (by kernel_rfl) (fun _ _ _ h => h) (Or.inl ⟨by rfl, ?_⟩) hHeld ?_
                  · intro W hS
                    (try dsimp only at hS)
                    go_simp
                    all_goals (first | done | decide | rfl)
                  try simp only [Act.put, List.getElem_toArray, List.getElem_cons_succ, List.getElem_cons_zero, List.setIfInBounds_toArray, List.set_cons_zero, List.set_cons_succ]
                  refine wpAnyH_take (i := 14) (v := .bool true) rfl (by kernel_rfl) (by kernel_rfl) (by kernel_rfl) (fun _ _ _ h => h) (Or.inl ⟨by rfl, ?_⟩) hHeld ?_
                  · intro W hS
                    (try dsimp only at hS)
                    go_simp
                    all_goals (first | done | decide | rfl)
                  try simp only [Act.put, List.getElem_toArray, List.getElem_cons_succ, List.getElem_cons_zero, List.setIfInBounds_toArray, List.set_cons_zero, List.set_cons_succ]
                  refine wpAnyH_take (i := 15) (v := .pointer (some ⟨bl, 6, none⟩)) rfl (by kernel_rfl) (by kernel_rfl) (by kernel_rfl) (fun _ _ _ h => h) (Or.inl ⟨by rfl, ?_⟩) hHeld ?_
                  · intro W hS
                    (try dsimp only at hS)
                    go_simp
                    all_goals (first | done | decide | rfl)
                  try simp only [Act.put, List.getElem_toArray, List.getElem_cons_succ, List.getElem_cons_zero, List.setIfInBounds_toArray, List.set_cons_zero, List.set_cons_succ]
                  clear q0 q1 q2 q3 q4 q5 q6 q7 q8 q9
                  have r0 := hlx.c6
                  have r1 := hlx.c7
                  have r2 := hlx.c8
                  have r3 := hlx.c9
                  have r4 := hlx.c10
                  have r5 := hlx.c11
                  have f0 := hlx.fz 6
                  have f1 := hlx.fz 7
                  have f2 := hlx.fz 8
                  have f3 := hlx.fz 9
                  have f4 := hlx.fz 10
                  have f5 := hlx.fz 11
                  have HST := Lib.hid (hlx.set1 (.slice bA' D'.blocks.length bc') (.slice wA' D'.pending.length wc') (.bool D'.down) (.int .i64 D'.power) (.int .i64 D'.fault) (.int .i64 D'.wi))
                  have HN3 := Lib.hid (boxNo hbx hlx)
                  refine wpAnyH_ready (rs := [16]) (by kernel_rfl) (by simp) ?_
                  refine AllReadyH.cons rfl (fun KK hK => ?_) AllReadyH.nil
                  try simp only [List.getElem_toArray, List.getElem_cons_succ, List.getElem_cons_zero]
                  go_simp
                  clear r0 f0 r1 f1 r2 f2 r3 f3 r4 f4 r5 f5
                  obtain ⟨hlx4, ho4⟩ := HST.out _ rfl
                  clear HST
                  generalize ((((((w2.setCell ⟨bl, 6, none⟩ (.slice bA' D'.blocks.length bc')).setCell ⟨bl, 7, none⟩ (.slice wA' D'.pending.length wc')).setCell ⟨bl, 8, none⟩ (.bool D'.down)).setCell ⟨bl, 9, none⟩ (.int .i64 D'.power)).setCell ⟨bl, 10, none⟩ (.int .i64 D'.fault)).setCell ⟨bl, 11, none⟩ (.int .i64 D'.wi)) = w4 at *
                  have hbx4 := hbx.off ho4 (show ¬ (bd = bl) from hx3)
                  have hoo : Off (fun k => k = bd ∨ k = bl) w2 w4 := ho4.mono (fun k _ hk => .inr hk)
                  have HDU4 := Lib.hid (Duo.box HDU2.out hoo HN3.out)
                  have HBX4 := Lib.hid hbx4
                  have HLX4 := Lib.hid hlx4
                  have HB4 := Lib.hid (HB2.out.trans (hoo.below (fun k hk => by rcases hk with rfl | rfl <;> assumption) HB2.out.size))
                  have HNM := Lib.hid (HN2.out.trans HM1.out)
                  obtain ⟨q0, q1, q2, q3, q4, q5, q6, q7, q8, q9⟩ := HKeep.out w4 HB4.out
                  refine hK.out _ _ ?_ (fun hHeld2 => ?_)
                  · exact ⟨hbx4.c1, q0, q1, q2, q3, q4, q5, q6, q7, q8, q9⟩
                  clear hK KK hHeld
                  have hHeld := hHeld2
                  clear hHeld2
                  try simp only [Act.put, List.setIfInBounds_toArray, List.set_cons_zero, List.set_cons_succ]
                  refine wpAnyH_done (by kernel_rfl) ?_ _
                  clear hHeld q0 q1 q2 q3 q4 q5 q6 q7 q8 q9
                  clear hbx hlx hlx4 ho4 hbx4 hoo HDU2 HN3 HB2 HFL HCL HDU HBX HLX HBW hD HPL HKeep HLR HKB
                  refine lastQ_step (o := _) rfl (fun KK hK => ?_)
                  try simp only [List.getElem_toArray, List.getElem_cons_succ, List.getElem_cons_zero]
                  go_simp
                  refine hK _ _ ?_
                  clear hK KK
                  go_upto_region 18 with fail
                  have CB := Lib.hid HBX4.out.c1
                  have CW := Lib.hid HLX4.out.c7
                  refine' wp_region_mono (by kernel_rfl) (by kernel_rfl) (by kernel_rfl) (by kernel_rfl) (by kernel_rfl) (by kernel_rfl)
                    [MP.is (.bool true), MP.is (.bool false), MP.is (.bool false), MP.is (.int .i64 1), MP.is (.pointer (some ⟨bd, 1, none⟩)), MP.is (.pointer (some ⟨g1, 0, none⟩)), MP.is (.int .i64 (D'.pending.length : Int)), MP.is (.int .i64 1), MP.is (.pointer (some ⟨bl, 6, none⟩)), MP.is (.pointer (some ⟨bl, 7, none⟩)), MP.is (.slice wA' D'.pending.length wc'), MP.is (.int .i64 (D'.pending.length : Int)), MP.is (.bool false), MP.is (.bool false), MP.is (.bool false), MP.is (.int .i64 1), MP.is (.pointer (some ⟨bd, 1, none⟩)), MP.is (.pointer (some ⟨g1, 0, none⟩)), MP.is (.int .i64 (m : Int)), MP.is (.int .i64 (m : Int)), MP.is (.bool false), MP.is (.bool false)] ?hAA2 ?hst2 ?hend2
                  case hAA2 =>
                    intro f
                    conv => lhs; simp only [putA, dstOf, List.size_toArray, List.length_cons, List.length_nil, Nat.zero_add, Nat.reduceAdd, List.getElem?_toArray, List.getElem?_cons_zero, List.getElem?_cons_succ, Option.bind_some, Act.put, List.setIfInBounds_toArray, List.set_cons_zero, List.set_cons_succ]
                    first | done | exact rfl
                  case hst2 =>
                    change Steps _ _ _ _ _ [0, 1, 2, 3, 4, 5, 6, 7, 8, 9, 10, 11, 12, 13, 14, 15, 16, 17, 18, 19, 20, 21]
                    refine Steps.cons rfl ?_ ?_
                    · intro f wz hB h K Q hK
                      try simp only [List.getElem_toArray, List.getElem_cons_zero]
                      go_simp
                      exact hK _ _ (gr_refl _) rfl
                    refine Steps.cons rfl ?_ ?_
                    · intro f wz hB h K Q hK
                      have h0 : (MP.is (.bool true)).p (f 0) wz := h 0 (by kernel_rfl)
                      have e0 : f 0 = (.bool true) := h0
                      simp only [e0] at hK ⊢
                      clear e0
                      try simp only [List.getElem_toArray, List.getElem_cons_succ, List.getElem_cons_zero]
                      go_simp
                      exact hK _ _ (gr_refl _) rfl
                    refine Steps.cons rfl ?_ ?_
                    · intro f wz hB h K Q hK
                      have h1 : (MP.is (.bool false)).p (f 1) wz := h 1 (by kernel_rfl)
                      have e1 : f 1 = (.bool false) := h1
                      simp only [e1] at hK ⊢
                      clear e1
                      try simp only [List.getElem_toArray, List.getElem_cons_succ, List.getElem_cons_zero]
                      go_simp
                      exact hK _ _ (gr_refl _) rfl
                    refine Steps.cons rfl ?_ ?_
                    · intro f wz hB h K Q hK
                      have h2 : (MP.is (.bool false)).p (f 2) wz := h 2 (by kernel_rfl)
                      have e2 : f 2 = (.bool false) := h2
                      simp only [e2] at hK ⊢
                      clear e2
                      try simp only [List.getElem_toArray, List.getElem_cons_succ, List.getElem_cons_zero]
                      go_simp
                      exact hK _ _ (gr_refl _) rfl
                    refine Steps.cons rfl ?_ ?_
                    · intro f wz hB h K Q hK
                      have h2 : (MP.is (.bool false)).p (f 2) wz := h 2 (by kernel_rfl)
                      have e2 : f 2 = (.bool false) := h2
                      have h3 : (MP.is (.int .i64 1)).p (f 3) wz := h 3 (by kernel_rfl)
                      have e3 : f 3 = (.int .i64 1) := h3
                      simp only [e2, e3] at hK ⊢
                      clear e2 e3
                      try simp only [List.getElem_toArray, List.getElem_cons_succ, List.getElem_cons_zero]
                      go_simp
                      exact hK _ _ (gr_refl _) rfl
                    refine Steps.cons rfl ?_ ?_
                    · intro f wz hB h K Q hK
                      have h2 : (MP.is (.bool false)).p (f 2) wz := h 2 (by kernel_rfl)
                      have e2 : f 2 = (.bool false) := h2
                      have h4 : (MP.is (.pointer (some ⟨bd, 1, none⟩))).p (f 4) wz := h 4 (by kernel_rfl)
                      have e4 : f 4 = (.pointer (some ⟨bd, 1, none⟩)) := h4
                      simp only [e2, e4] at hK ⊢
                      clear e2 e4
                      try simp only [List.getElem_toArray, List.getElem_cons_succ, List.getElem_cons_zero]
                      have y0 := keep_of_below (bel_drew hB) CB.out
                      have y1 := keep_of_below (bel_drew hB) CW.out
                      go_simp
                      exact hK _ _ (gr_refl _) rfl
                    refine Steps.cons rfl ?_ ?_
                    · intro f wz hB h K Q hK
                      have h2 : (MP.is (.bool false)).p (f 2) wz := h 2 (by kernel_rfl)
                      have e2 : f 2 = (.bool false) := h2
                      have h5 : (MP.is (.pointer (some ⟨g1, 0, none⟩))).p (f 5) wz := h 5 (by kernel_rfl)
                      have e5 : f 5 = (.pointer (some ⟨g1, 0, none⟩)) := h5
                      simp only [e2, e5] at hK ⊢
                      clear e2 e5
                      try simp only [List.getElem_toArray, List.getElem_cons_succ, List.getElem_cons_zero]
                      go_simp
                      refine ((HDU4.out.below (bel_drew hB)).pending).mono ?_
                      rintro e w5 ⟨rfl, rfl⟩
                      exact hK _ _ (gr_refl _) rfl
                    refine Steps.cons rfl ?_ ?_
                    · intro f wz hB h K Q hK
                      have h2 : (MP.is (.bool false)).p (f 2) wz := h 2 (by kernel_rfl)
                      have e2 : f 2 = (.bool false) := h2
                      simp only [e2] at hK ⊢
                      clear e2
                      try simp only [List.getElem_toArray, List.getElem_cons_succ, List.getElem_cons_zero]
                      go_simp
                      exact hK _ _ (gr_refl _) rfl
                    refine Steps.cons rfl ?_ ?_
                    · intro f wz hB h K Q hK
                      have h2 : (MP.is (.bool false)).p (f 2) wz := h 2 (by kernel_rfl)
                      have e2 : f 2 = (.bool false) := h2
                      have h7 : (MP.is (.int .i64 1)).p (f 7) wz := h 7 (by kernel_rfl)
                      have e7 : f 7 = (.int .i64 1) := h7
                      simp only [e2, e7] at hK ⊢
                      clear e2 e7
                      try simp only [List.getElem_toArray, List.getElem_cons_succ, List.getElem_cons_zero]
                      go_simp
                      exact hK _ _ (gr_refl _) rfl
                    refine Steps.cons rfl ?_ ?_
                    · intro f wz hB h K Q hK
                      have h2 : (MP.is (.bool false)).p (f 2) wz := h 2 (by kernel_rfl)
                      have e2 : f 2 = (.bool false) := h2
                      have h8 : (MP.is (.pointer (some ⟨bl, 6, none⟩))).p (f 8) wz := h 8 (by kernel_rfl)
                      have e8 : f 8 = (.pointer (some ⟨bl, 6, none⟩)) := h8
                      simp only [e2, e8] at hK ⊢
                      clear e2 e8
                      try simp only [List.getElem_toArray, List.getElem_cons_succ, List.getElem_cons_zero]
                      go_simp
                      exact hK _ _ (gr_refl _) rfl
                    refine Steps.cons rfl ?_ ?_
                    · intro f wz hB h K Q hK
                      have h2 : (MP.is (.bool false)).p (f 2) wz := h 2 (by kernel_rfl)
                      have e2 : f 2 = (.bool false) := h2
                      have h9 : (MP.is (.pointer (some ⟨bl, 7, none⟩))).p (f 9) wz := h 9 (by kernel_rfl)
                      have e9 : f 9 = (.pointer (some ⟨bl, 7, none⟩)) := h9
                      simp only [e2, e9] at hK ⊢
                      clear e2 e9
                      try simp only [List.getElem_toArray, List.getElem_cons_succ, List.getElem_cons_zero]
                      have y0 := keep_of_below (bel_drew hB) CB.out
                      have y1 := keep_of_below (bel_drew hB) CW.out
                      go_simp
                      exact hK _ _ (gr_refl _) rfl
                    refine Steps.cons rfl ?_ ?_
                    · intro f wz hB h K Q hK
                      have h2 : (MP.is (.bool false)).p (f 2) wz := h 2 (by kernel_rfl)
                      have e2 : f 2 = (.bool false) := h2
                      have h10 : (MP.is (.slice wA' D'.pending.length wc')).p (f 10) wz := h 10 (by kernel_rfl)
                      have e10 : f 10 = (.slice wA' D'.pending.length wc') := h10
                      simp only [e2, e10] at hK ⊢
                      clear e2 e10
                      try simp only [List.getElem_toArray, List.getElem_cons_succ, List.getElem_cons_zero]
                      go_simp
                      exact hK _ _ (gr_refl _) rfl
                    refine Steps.cons rfl ?_ ?_
                    · intro f wz hB h K Q hK
                      have h2 : (MP.is (.bool false)).p (f 2) wz := h 2 (by kernel_rfl)
                      have e2 : f 2 = (.bool false) := h2
                      have h6 : (MP.is (.int .i64 (D'.pending.length : Int))).p (f 6) wz := h 6 (by kernel_rfl)
                      have e6 : f 6 = (.int .i64 (D'.pending.length : Int)) := h6
                      have h11 : (MP.is (.int .i64 (D'.pending.length : Int))).p (f 11) wz := h 11 (by kernel_rfl)
                      have e11 : f 11 = (.int .i64 (D'.pending.length : Int)) := h11
                      simp only [e2, e6, e11] at hK ⊢
                      clear e2 e6 e11
                      try simp only [List.getElem_toArray, List.getElem_cons_succ, List.getElem_cons_zero]
                      go_simp
                      exact hK _ _ (gr_refl _) rfl
                    refine Steps.cons rfl ?_ ?_
                    · intro f wz hB h K Q hK
                      have h2 : (MP.is (.bool false)).p (f 2) wz := h 2 (by kernel_rfl)
                      have e2 : f 2 = (.bool false) := h2
                      have h12 : (MP.is (.bool false)).p (f 12) wz := h 12 (by kernel_rfl)
                      have e12 : f 12 = (.bool false) := h12
                      simp only [e2, e12] at hK ⊢
                      clear e2 e12
                      try simp only [List.getElem_toArray, List.getElem_cons_succ, List.getElem_cons_zero]
                      go_simp
                      exact hK _ _ (gr_refl _) rfl
                    refine Steps.cons rfl ?_ ?_
                    · intro f wz hB h K Q hK
                      have h13 : (MP.is (.bool false)).p (f 13) wz := h 13 (by kernel_rfl)
                      have e13 : f 13 = (.bool false) := h13
                      simp only [e13] at hK ⊢
                      clear e13
                      try simp only [List.getElem_toArray, List.getElem_cons_succ, List.getElem_cons_zero]
                      go_simp
                      exact hK _ _ (gr_refl _) rfl
                    refine Steps.cons rfl ?_ ?_
                    · intro f wz hB h K Q hK
                      have h14 : (MP.is (.bool false)).p (f 14) wz := h 14 (by kernel_rfl)
                      have e14 : f 14 = (.bool false) := h14
                      simp only [e14] at hK ⊢
                      clear e14
                      try simp only [List.getElem_toArray, List.getElem_cons_succ, List.getElem_cons_zero]
                      go_simp
                      exact hK _ _ (gr_refl _) rfl
                    refine Steps.cons rfl ?_ ?_
                    · intro f wz hB h K Q hK
                      have h14 : (MP.is (.bool false)).p (f 14) wz := h 14 (by kernel_rfl)
                      have e14 : f 14 = (.bool false) := h14
                      have h15 : (MP.is (.int .i64 1)).p (f 15) wz := h 15 (by kernel_rfl)
                      have e15 : f 15 = (.int .i64 1) := h15
                      simp only [e14, e15] at hK ⊢
                      clear e14 e15
                      try simp only [List.getElem_toArray, List.getElem_cons_succ, List.getElem_cons_zero]
                      go_simp
                      exact hK _ _ (gr_refl _) rfl
                    refine Steps.cons rfl ?_ ?_
                    · intro f wz hB h K Q hK
                      have h14 : (MP.is (.bool false)).p (f 14) wz := h 14 (by kernel_rfl)
                      have e14 : f 14 = (.bool false) := h14
                      have h16 : (MP.is (.pointer (some ⟨bd, 1, none⟩))).p (f 16) wz := h 16 (by kernel_rfl)
                      have e16 : f 16 = (.pointer (some ⟨bd, 1, none⟩)) := h16
                      simp only [e14, e16] at hK ⊢
                      clear e14 e16
                      try simp only [List.getElem_toArray, List.getElem_cons_succ, List.getElem_cons_zero]
                      have y0 := keep_of_below (bel_drew hB) CB.out
                      have y1 := keep_of_below (bel_drew hB) CW.out
                      go_simp
                      exact hK _ _ (gr_refl _) rfl
                    refine Steps.cons rfl ?_ ?_
                    · intro f wz hB h K Q hK
                      have h14 : (MP.is (.bool false)).p (f 14) wz := h 14 (by kernel_rfl)
                      have e14 : f 14 = (.bool false) := h14
                      have h17 : (MP.is (.pointer (some ⟨g1, 0, none⟩))).p (f 17) wz := h 17 (by kernel_rfl)
                      have e17 : f 17 = (.pointer (some ⟨g1, 0, none⟩)) := h17
                      simp only [e14, e17] at hK ⊢
                      clear e14 e17
                      try simp only [List.getElem_toArray, List.getElem_cons_succ, List.getElem_cons_zero]
                      go_simp
                      refine ((HDU4.out.below (bel_drew hB)).blocks).mono ?_
                      rintro e w5 ⟨rfl, rfl⟩
                      exact hK _ _ (gr_refl _) (congrArg (fun x : Nat => Value.int .i64 (x : Int)) HNM.out)
                    refine Steps.cons rfl ?_ ?_
                    · intro f wz hB h K Q hK
                      have h14 : (MP.is (.bool false)).p (f 14) wz := h 14 (by kernel_rfl)
                      have e14 : f 14 = (.bool false) := h14
                      simp only [e14] at hK ⊢
                      clear e14
                      try simp only [List.getElem_toArray, List.getElem_cons_succ, List.getElem_cons_zero]
                      go_simp
                      exact hK _ _ (gr_refl _) rfl
                    refine Steps.cons rfl ?_ ?_
                    · intro f wz hB h K Q hK
                      have h14 : (MP.is (.bool false)).p (f 14) wz := h 14 (by kernel_rfl)
                      have e14 : f 14 = (.bool false) := h14
                      have h18 : (MP.is (.int .i64 (m : Int))).p (f 18) wz := h 18 (by kernel_rfl)
                      have e18 : f 18 = (.int .i64 (m : Int)) := h18
                      have h19 : (MP.is (.int .i64 (m : Int))).p (f 19) wz := h 19 (by kernel_rfl)
                      have e19 : f 19 = (.int .i64 (m : Int)) := h19
                      simp only [e14, e18, e19] at hK ⊢
                      clear e14 e18 e19
                      try simp only [List.getElem_toArray, List.getElem_cons_succ, List.getElem_cons_zero]
                      go_simp
                      exact hK _ _ (gr_refl _) rfl
                    refine Steps.cons rfl ?_ ?_
                    · intro f wz hB h K Q hK
                      have h14 : (MP.is (.bool false)).p (f 14) wz := h 14 (by kernel_rfl)
                      have e14 : f 14 = (.bool false) := h14
                      have h20 : (MP.is (.bool false)).p (f 20) wz := h 20 (by kernel_rfl)
                      have e20 : f 20 = (.bool false) := h20
                      simp only [e14, e20] at hK ⊢
                      clear e14 e20
                      try simp only [List.getElem_toArray, List.getElem_cons_succ, List.getElem_cons_zero]
                      go_simp
                      exact hK _ _ (gr_refl _) rfl
                    exact Steps.nil
                  intro f w5 hB5 hR
                  have e0 : f 0 = (.bool true) := hR 0 (by decide)
                  have e1 : f 1 = (.bool false) := hR 1 (by decide)
                  have e2 : f 2 = (.bool false) := hR 2 (by decide)
                  have e3 : f 3 = (.int .i64 1) := hR 3 (by decide)
                  have e4 : f 4 = (.pointer (some ⟨bd, 1, none⟩)) := hR 4 (by decide)
                  have e5 : f 5 = (.pointer (some ⟨g1, 0, none⟩)) := hR 5 (by decide)
                  have e6 : f 6 = (.int .i64 (D'.pending.length : Int)) := hR 6 (by decide)
                  have e7 : f 7 = (.int .i64 1) := hR 7 (by decide)
                  have e8 : f 8 = (.pointer (some ⟨bl, 6, none⟩)) := hR 8 (by decide)
                  have e9 : f 9 = (.pointer (some ⟨bl, 7, none⟩)) := hR 9 (by decide)
                  have e10 : f 10 = (.slice wA' D'.pending.length wc') := hR 10 (by decide)
                  have e11 : f 11 = (.int .i64 (D'.pending.length : Int)) := hR 11 (by decide)
                  have e12 : f 12 = (.bool false) := hR 12 (by decide)
                  have e13 : f 13 = (.bool false) := hR 13 (by decide)
                  have e14 : f 14 = (.bool false) := hR 14 (by decide)
                  have e15 : f 15 = (.int .i64 1) := hR 15 (by decide)
                  have e16 : f 16 = (.pointer (some ⟨bd, 1, none⟩)) := hR 16 (by decide)
                  have e17 : f 17 = (.pointer (some ⟨g1, 0, none⟩)) := hR 17 (by decide)
                  have e18 : f 18 = (.int .i64 (m : Int)) := hR 18 (by decide)
                  have e19 : f 19 = (.int .i64 (m : Int)) := hR 19 (by decide)
                  have e20 : f 20 = (.bool false) := hR 20 (by decide)
                  have e21 : f 21 = (.bool false) := hR 21 (by decide)
                  simp only [e0, e1, e2, e3, e4, e5, e6, e7, e8, e9, e10, e11, e12, e13, e14, e15, e16, e17, e18, e19, e20, e21]
                  clear e0 e1 e2 e3 e4 e5 e6 e7 e8 e9 e10 e11 e12 e13 e14 e15 e16 e17 e18 e19 e20 e21 hR
                  have HPN : Hid (PL m (k + 1) w w5 bd bl) := Lib.hid (by
                    have hD5 := bel_drew hB5
                    have hl2 := HL2.out
                    exact ⟨g0, g1, D0, D', bA0, bc0, wA0, wc0, bA', bc', wA', wc', ⟨(HDU4.out.swap).below hD5, HBX4.out.below hD5, HLX4.out.below hD5, HB4.out.trans (hD5.mono HB4.out.size), hx1, hx2, hx3⟩, HM0.out, HNM.out, by omega, by omega⟩)
                  clear HDU4 HBX4 HLX4 HB4 HL2 HN2 HNM CB CW hB5
                  go_wp2_with fail
                  go_roundw
                  case rel => exact ⟨k + 1, by omega, by omega, by go_num, HPN.out⟩
                  case measure => simp [intOf]; omega
            · by_cases hkn2 : k < n
              · have t1 : decide ((k : Int) < (n : Int)) = true := decide_eq_true (by omega)
                have t2 : decide (k < n) = true := decide_eq_true hkn2
                have t3 : decide ((k : Int) < 120) = false := decide_eq_false (by omega)
                have HP := Lib.hid hPL
                clear hPL
                go_wp2_with fail
                go_meet
                exact ⟨k, hk, HP.out⟩
              · obtain rfl : k = n := by omega
                have t1 : decide ((k : Int) < (k : Int)) = false := decide_eq_false (by omega)
                have t2 : decide (k < k) = false := decide_eq_false (by omega)
                have HP := Lib.hid hPL
                clear hPL
                go_wp2_with fail
                go_meet
                exact ⟨k, hk, HP.out⟩
        case rest =>
          obtain ⟨j, hj, hPL⟩ := hcut
          have HP0 := Lib.hid hPL
          clear hPL HPL0 hj HSR
          go_wp2_with fail
          go_loopw [16, 17, 18, 19] (fun s16 _ _ _ wr => ∃ (q : Int), (q = 0 ∨ q = 1 ∨ q = 2) ∧ s16 = .int .i64 q ∧ PL m j w wr bd bl) (fun s16 _ _ _ _ => 2 - (intOf s16).toNat)
          case atStart => exact ⟨0, .inl rfl, rfl, HP0.out⟩
          case round =>
            clear HP0
            obtain ⟨q, hq, rfl, hPL⟩ := hrel
            have HQ0 := Lib.hid hPL
            clear hPL
            rcases hq with rfl | rfl | rfl
            · go_wp2_with fail
              go_loopw [17, 18, 19] (fun s17 _ _ wq => ∃ (b : Nat), b ≤ m ∧ s17 = .int .i64 (b : Int) ∧ PL m j w wq bd bl) (fun s17 _ _ _ => m - (intOf s17).toNat)
              case atStart => exact ⟨0, by omega, rfl, HQ0.out⟩
              case round =>
                clear HQ0
                obtain ⟨b, hb, rfl, hPL⟩ := hrel
                by_cases hlt : b < m
                · have t1 : decide ((b : Int) < (m : Int)) = true := decide_eq_true (by omega)
                  have t2 : decide (b < m) = true := decide_eq_true hlt
                  have HP := Lib.hid hPL
                  obtain ⟨g0, g1, D0, D1, bA0, bc0, wA0, wc0, bA1, bc1, wA1, wc1, ⟨hDuo, hd, hl, hbw, hx1, hx2, hx3⟩, hm0, hm1', hp0, hp1⟩ := hPL
                  have hbl : b < D0.blocks.length := by rw [hm0]; exact hlt
                  have y0 := hd.c0
                  have HDU := Lib.hid hDuo
                  have HLX := Lib.hid hl
                  clear hDuo hd hl hbw hm0 hm1' hp0 hp1 hx1 hx2 hx3
                  go_wp2_with fail
                  refine (HDU.out.durable (b : Int)).mono ?_
                  rintro e w2 ⟨v, rfl, hob, hb2⟩
                  obtain ⟨g, o, A, c, rfl, hc, hr, hlen⟩ := (HDU.out.below hb2).block hbl
                  have he : askE D0 (b : Int) = 0 := askE_ok (by omega)
                  have hdl : durL D0 (b : Int) = D0.blocks.getD b [] := by unfold durL; rw [if_pos he, Int.toNat_natCast]
                  rw [hdl] at hob
                  obtain ⟨A2, c2, rfl, hr2, _, _⟩ := hob.formN hlen
                  have te : (D0.blocks.getD b [] == D0.blocks.getD b []) = true := beq_self_eq_true _
                  have HR := Lib.hid hr
                  have HR2 := Lib.hid hr2
                  have HPN := Lib.hid (HP.out.below hb2)
                  have z0 := (HLX.out.below hb2).c0
                  have i0 : (0 : Int) ≤ (b : Int) := Int.natCast_nonneg _
                  have i1 : (b : Int) < (D0.blocks.length : Int) := by omega
                  generalize D0.blocks.getD b [] = LL at *
                  clear hr hr2 hob HDU HLX HP hdl he hb2 y0 hlen
                  go_wp2_with fail
                  refine (SameBytes_any A2 A 4096 4096 c2 c _ _ _ HR2.out HR.out).mono ?_
                  rintro e w3 ⟨rfl, rfl⟩
                  clear hc z0
                  go_wp2_with fail
                  go_roundw
                  case rel => exact ⟨b + 1, by omega, by go_num, HPN.out⟩
                  case measure => simp [intOf]; omega
                · obtain rfl : b = m := by omega
                  have t1 : decide ((b : Int) < (b : Int)) = false := decide_eq_false (by omega)
                  have HP := Lib.hid hPL
                  clear hPL hlt
                  go_wp2_with fail
                  go_roundw
                  case rel => exact ⟨1, by omega, by go_num, HP.out⟩
                  case measure => simp [intOf]
            · go_wp2_with fail
              go_loopw [17, 18, 19] (fun s17 _ _ wq => ∃ (b : Nat), b ≤ m ∧ s17 = .int .i64 (b : Int) ∧ PL m j w wq bd bl) (fun s17 _ _ _ => m - (intOf s17).toNat)
              case atStart => exact ⟨0, by omega, rfl, HQ0.out⟩
              case round =>
                clear HQ0
                obtain ⟨b, hb, rfl, hPL⟩ := hrel
                by_cases hlt : b < m
                · have t1 : decide ((b : Int) < (m : Int)) = true := decide_eq_true (by omega)
                  have t2 : decide (b < m) = true := decide_eq_true hlt
                  have HP := Lib.hid hPL
                  obtain ⟨g0, g1, D0, D1, bA0, bc0, wA0, wc0, bA1, bc1, wA1, wc1, ⟨hDuo, hd, hl, hbw, hx1, hx2, hx3⟩, hm0, hm1', hp0, hp1⟩ := hPL
                  have hbl : b < D1.blocks.length := by rw [hm1']; exact hlt
                  have y0 := hd.c1
                  have HDU := Lib.hid hDuo
                  have HLX := Lib.hid hl
                  clear hDuo hd hl hbw hm0 hm1' hp0 hp1 hx1 hx2 hx3
                  go_wp2_with fail
                  refine (HDU.out.swap.durable (b : Int)).mono ?_
                  rintro e w2 ⟨v, rfl, hob, hb2⟩
                  obtain ⟨g, o, A, c, rfl, hc, hr, hlen⟩ := (HDU.out.swap.below hb2).block hbl
                  have he : askE D1 (b : Int) = 0 := askE_ok (by omega)
                  have hdl : durL D1 (b : Int) = D1.blocks.getD b [] := by unfold durL; rw [if_pos he, Int.toNat_natCast]
                  rw [hdl] at hob
                  obtain ⟨A2, c2, rfl, hr2, _, _⟩ := hob.formN hlen
                  have te : (D1.blocks.getD b [] == D1.blocks.getD b []) = true := beq_self_eq_true _
                  have HR := Lib.hid hr
                  have HR2 := Lib.hid hr2
                  have HPN := Lib.hid (HP.out.below hb2)
                  have z0 := (HLX.out.below hb2).c6
                  have i0 : (0 : Int) ≤ (b : Int) := Int.natCast_nonneg _
                  have i1 : (b : Int) < (D1.blocks.length : Int) := by omega
                  generalize D1.blocks.getD b [] = LL at *
                  clear hr hr2 hob HDU HLX HP hdl he hb2 y0 hlen
                  go_wp2_with fail
                  refine (SameBytes_any A2 A 4096 4096 c2 c _ _ _ HR2.out HR.out).mono ?_
                  rintro e w3 ⟨rfl, rfl⟩
                  clear hc z0
                  go_wp2_with fail
                  go_roundw
                  case rel => exact ⟨b + 1, by omega, by go_num, HPN.out⟩
                  case measure => simp [intOf]; omega
                · obtain rfl : b = m := by omega
                  have t1 : decide ((b : Int) < (b : Int)) = false := decide_eq_false (by omega)
                  have HP := Lib.hid hPL
                  clear hPL hlt
                  go_wp2_with fail
                  go_roundw
                  case rel => exact ⟨2, by omega, by go_num, HP.out⟩
                  case measure => simp [intOf]
            · go_wp2_with fail
              refine (HAW.out _).mono ?_
              rintro e w9 ⟨rfl, hb9⟩
              have HB9 := Lib.hid (HQ0.out.bel.trans (hb9.mono HQ0.out.bel.size))
              clear hb9 HQ0
              go_wp2_with fail
              go_ret
              exact ⟨rfl, HB9.out⟩

end Go.Proofs.Ytjopobkcijkpmaa
