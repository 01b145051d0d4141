/-
  Texts of this claim, joined: DfE, RdI, RdJ, RdK, RdL, RdM, Row, Opn, OpR, RdN, RdO, RdP. No statement of the program is proved here.
-/
import Derived.Test.YtlopcmmbkfjidaaPkF1
import Derived.Test.YtlopcmmbkfjidaaPkF4
import Derived.ProofKit
import Derived.OpenShut
import Derived.JoinedCond
import Derived.SizedLaws
import Derived.Deep.CondSized
import Derived.Test.YtlopcmmbkfjidaaPkF3
import Derived.Deep.SlicePairs
import Derived.Lib.SmallJoins
import Derived.Deep.Slices
/-! DfE -/
namespace Go.Proofs.Ytlopcmmbkfjidaa
open Go.RowKit

theorem pc_getD {ps : List Pc} {k : Nat} (hk : k < ps.length) : ps[k] = ps.getD k (0, []) := by simp [List.getD, List.getElem?_eq_getElem hk]

/-- As far as k the two are the same; one place further. -/
theorem same_pre {ps qs : List Pc} {k : Nat} (h1 : k < ps.length) (h2 : k < qs.length) (h : ps.take k = qs.take k) : ps.take (k + 1) = qs.take (k + 1) ↔ ps.getD k (0, []) = qs.getD k (0, []) := by
  rw [List.take_succ_eq_append_getElem h1, List.take_succ_eq_append_getElem h2, h, pc_getD h1, pc_getD h2]
  constructor
  · intro e
    have := List.append_cancel_left e
    injection this
  · intro e; rw [e]

/-- Are two lists of pieces the same? -/
def samePcs (ps qs : List Pc) : Bool := decide (ps = qs)

theorem ret_b {a b : Bool} (h : a = b) : Ending.returned (.bool a) = .returned (.bool b) := by rw [h]

theorem same_not {ps qs : List Pc} {k : Nat} (_ : k < ps.length) (_ : k < qs.length) (_ : ps.take k = qs.take k) (h : ¬ ps.take (k + 1) = qs.take (k + 1)) : samePcs ps qs = false := by
  unfold samePcs
  rw [decide_eq_false_iff_not]
  rintro rfl
  exact h rfl

set_option maxRecDepth 100000 in
set_option maxHeartbeats 1000000 in
theorem SamePieces_any (A B : Option Addr) (n m c d : Nat) (ps qs : List Pc) (w : World) (ha : PR w A n ps) (hb : PR w B m qs) (hn : n ≤ 9223372036854775807) (hm : m ≤ 9223372036854775807) :
    Calls Try.prog 63 #[.slice A n c, .slice B m d] w fun r w' => r = .returned (.bool (samePcs ps qs)) ∧ ∃ k, w' = w.drewN k := by
  have HA := Lib.hid ha.len
  have HB := Lib.hid hb.len
  by_cases hnm : n = m
  · subst hnm
    go_enter Try.func63, Try.ntmps63
    go_wp2_with fail
    go_loopw [5] (fun i wr => ∃ (k q : Nat), k ≤ n ∧ i = .int .i64 k ∧ Hid (ps.take k = qs.take k) ∧ Hid (wr = w.drewN q)) (fun i _ => n - (intOf i).toNat)
    case atStart => exact ⟨0, 0, Nat.zero_le _, rfl, Lib.hid rfl, Lib.hid rfl⟩
    case round =>
      obtain ⟨k, q, hk, rfl, HT, HW⟩ := hrel
      by_cases hlt : k < n
      · have ha' : PR wr A n ps := by rw [HW.out]; exact ha
        have hb' : PR wr B n qs := by rw [HW.out]; exact hb
        obtain ⟨gp, op, Bp, cp, rfl, q1, q2, q3, q4, q5⟩ := ha'.at_ (i := k) hlt
        obtain ⟨gr, or, Br, cr, rfl, r1, r2, r3, r4, r5⟩ := hb'.at_ (i := k) hlt
        have HP := Lib.hid (same_pre (by rw [HA.out]; exact hlt) (by rw [HB.out]; exact hlt) HT.out)
        obtain ⟨⟨pa, pb⟩, HE1⟩ : ∃ p, p = ps.getD k (0, []) := ⟨_, rfl⟩
        obtain ⟨⟨ra, rb⟩, HE2⟩ : ∃ p, p = qs.getD k (0, []) := ⟨_, rfl⟩
        rw [← HE1] at q1 q2 q3 q4 HP
        rw [← HE2] at r1 r2 r3 r4 HP
        clear HE1 HE2
        dsimp only at q1 q2 q3 q4 r1 r2 r3 r4
        generalize hpl : pb.length = pn at *
        generalize hrl : rb.length = rn at *
        clear hpl hrl ha' hb'
        by_cases h1 : pa = ra
        · subst h1
          by_cases h2 : pb = rb
          · have t2 : (pb == rb) = true := by simpa using h2
            go_wp2_with fail
            go_quiet ((go_at_call 62; exact Calls.quiet_of_same ((SameBytes_any Bp Br pn rn cp cr pb rb _ (q3.drewN _) (r3.drewN _)).mono (fun _ _ h => ⟨h.1, h.2.symm⟩))))
            go_wp2_with fail
            go_roundw
            case rel => exact ⟨k + 1, q + nq, by omega, by go_num, Lib.hid (HP.out.2 (by rw [h2])), Lib.hid (by rw [HW.out, World.drewN_drewN])⟩
            case measure => simp [intOf]; omega
          · have t2 : (pb == rb) = false := by simpa using h2
            go_wp2_with fail
            go_quiet ((go_at_call 62; exact Calls.quiet_of_same ((SameBytes_any Bp Br pn rn cp cr pb rb _ (q3.drewN _) (r3.drewN _)).mono (fun _ _ h => ⟨h.1, h.2.symm⟩))))
            go_wp2_with fail
            go_ret
            exact ⟨ret_b (same_not (by rw [HA.out]; exact hlt) (by rw [HB.out]; exact hlt) HT.out (fun h => h2 (congrArg Prod.snd (HP.out.1 h)))).symm, q + nq, by rw [HW.out, World.drewN_drewN]⟩
        · have t1 : (pa != ra) = true := by simpa using h1
          go_wp2_with fail
          go_quiet (fail)
          go_wp2_with fail
          go_ret
          exact ⟨ret_b (same_not (by rw [HA.out]; exact hlt) (by rw [HB.out]; exact hlt) HT.out (fun h => h1 (congrArg Prod.fst (HP.out.1 h)))).symm, q + nq, by rw [HW.out, World.drewN_drewN]⟩
      · obtain rfl : k = n := by omega
        go_wp2_with fail
        go_ret
        refine ⟨?_, q, HW.out⟩
        have h := HT.out
        rw [List.take_of_length_le (Nat.le_of_eq HA.out), List.take_of_length_le (Nat.le_of_eq HB.out)] at h
        unfold samePcs
        rw [h]
        simp
  · have hne : ((n : Int) != (m : Int)) = true := by rw [bne_iff_ne]; omega
    have hne' : (n != m) = true := by rw [bne_iff_ne]; omega
    go_enter Try.func63, Try.ntmps63
    go_wp2_with fail
    go_ret
    refine ⟨?_, 0, rfl⟩
    have : samePcs ps qs = false := by
      unfold samePcs
      rw [decide_eq_false_iff_not]
      rintro rfl
      exact hnm (HA.out.symm.trans HB.out)
    rw [this]
    rfl

/-- A piece whose bytes lie in a block of its own joins a row of pieces. -/
theorem OP.snoc {w3 w4 : World} {base k B3 : Nat} {v v4 u : Value} {ps : List Pc} {a : Int} {l : List UInt8} {us : List (Int × Value)} {w : World} {o : Obj}
    (hrow : w.ownsRow base 83 2 v k (pcs us)) (hk : ps.length = k) (hul : us.length = ps.length) (huv : ∀ (i : Nat) (p : Pc) (q : Int × Value), ps[i]? = some p → us[i]? = some q → q.1 = p.1 ∧ OB w base q.2 p.2)
    (hdis : us.Pairwise (fun q r => ∀ k, q.2.ownBlock = some k → r.2.ownBlock ≠ some k)) (hb3 : Below w.heap.size w w3) (ho3 : OB w3 B3 u l) (hB3 : w.heap.size ≤ B3) (hbase : base ≤ B3)
    (hown4 : w4.ownsRow base 83 2 v4 (k + 1) (pcs us ++ [.int .i64 a, u])) (hg4 : (w3.alloc o).grownBy w4 v.ownBlock) : OP w4 base v4 (ps ++ [(a, l)]) := by
  have h3row : (w3.alloc o).ownsRow base 83 2 v k (pcs us) := (CK.own (CK.of_below hb3) hrow).alloc _
  have T4 : CT w3 w4 := (CT.alloc o).trans (CT.of_row h3row hg4)
  have T5 : CT w w4 := (CT.of_below hb3).trans T4
  refine ⟨us ++ [(a, u)], ?_, ?_, ?_, ?_⟩
  · rw [pcs_append, List.length_append, hk]
    exact hown4
  · rw [List.length_append, List.length_append, hul]; rfl
  · intro i p q hp hq
    rcases Nat.lt_or_ge i ps.length with hi | hi
    · rw [List.getElem?_append_left hi] at hp
      rw [List.getElem?_append_left (by omega)] at hq
      exact ⟨(huv i p q hp hq).1, T5.ob (huv i p q hp hq).2⟩
    · rw [List.getElem?_append_right hi] at hp
      rw [List.getElem?_append_right (by omega), hul] at hq
      rcases Nat.eq_zero_or_pos (i - ps.length) with h0 | h0
      · rw [h0] at hp hq
        simp only [List.getElem?_cons_zero, Option.some.injEq] at hp hq
        subst hp hq
        exact ⟨rfl, T4.ob (OB.lower ho3 hbase)⟩
      · rw [List.getElem?_eq_none (by simp; omega)] at hp
        cases hp
  · rw [List.pairwise_append]
    refine ⟨hdis, List.pairwise_singleton _ _, ?_⟩
    intro q hq r hr k hk hk'
    rw [List.mem_singleton] at hr
    subst hr
    obtain ⟨j, hj, hjq⟩ := List.getElem_of_mem hq
    have h1 := (huv j _ q (List.getElem?_eq_getElem (show j < ps.length by omega)) (by rw [List.getElem?_eq_getElem hj, hjq])).2
    have h2 := (h1.lt k hk).2
    have h3 := (ho3.lt k hk').1
    omega

theorem pcs_take_succ {ps : List Pc} {k : Nat} (hk : k < ps.length) : ps.take (k + 1) = ps.take k ++ [ps.getD k (0, [])] := by
  rw [List.take_succ_eq_append_getElem hk, pc_getD hk]

section
variable {w : World} {base g n cap : Nat} {l : List UInt8}
theorem OB.cur (h : OB w base (.slice (some ⟨g, 0, none⟩) n cap) l) (hn : l.length = n) : ∃ cur : Array Value, w.heap[g]? = some (.cells cur 5 (0, 0)) ∧ base ≤ g ∧ n ≤ cap ∧ cap ≤ maxLen ∧ cur.size = cap ∧ cur.toList.take n = l.map bv := by
  rcases h.2 with ⟨e, _⟩ | ⟨g', cap', cur, e, hb, hg, hnc, hm, hcu, ht⟩
  · cases e
  · injection e with e1 e2 e3
    injection e1 with e1
    injection e1 with e1
    subst e1 e3
    exact ⟨cur, hg, hb, by omega, hm, by simpa using hcu, by rw [← ht, hn]; simp⟩
theorem OB.cell (h : OB w base (.slice (some ⟨g, 0, none⟩) n cap) l) (hn : l.length = n) {j : Nat} (hj : j < n) : w.cell? ⟨g, j, none⟩ = some (.int .u8 ((l.getD j 0).toNat : Int)) := by
  obtain ⟨cur, hg, _, _, _, hz, ht⟩ := h.cur hn
  rw [cell_of_row w g j _ _ _ hg]
  have : cur.toList[j]? = (l.map bv)[j]? := by rw [← ht, List.getElem?_take, if_pos hj]
  rw [Array.getElem?_toList] at this
  rw [this, List.getElem?_map, List.getElem?_eq_getElem (by omega)]
  simp [bv, List.getD, List.getElem?_eq_getElem (show j < l.length by omega)]
theorem OB.frozen (h : OB w base (.slice (some ⟨g, 0, none⟩) n cap) l) (hn : l.length = n) (j : Nat) : w.frozen? ⟨g, j, none⟩ = false := by
  obtain ⟨cur, hg, _, _, _, hz, ht⟩ := h.cur hn
  simp [World.frozen?, hg]
theorem OB.setCell (h : OB w base (.slice (some ⟨g, 0, none⟩) n cap) l) (hn : l.length = n) (j : Nat) (x : UInt8) (_hj : j < n) : OB (w.setCell ⟨g, j, none⟩ (bv x)) base (.slice (some ⟨g, 0, none⟩) n cap) (l.set j x) := by
  obtain ⟨cur, hg, hb, hnc, hm, hz, ht⟩ := h.cur hn
  refine ⟨by simp, .inr ⟨g, cap, cur.setIfInBounds j (bv x), ?_, hb, ?_, ?_, hm, ?_, ?_⟩⟩
  · rw [List.length_set, hn]
  · simp only [World.setCell, Array.getElem?_modify, if_pos, hg]
    simp
  · rw [List.length_set]; omega
  · simp [hz]
  · rw [List.length_set, hn, Nat.mul_one, Array.toList_setIfInBounds, List.take_set, ht, List.map_set]
theorem OB.setInt (h : OB w base (.slice (some ⟨g, 0, none⟩) n cap) l) (hn : l.length = n) (j : Nat) (x : UInt8) (hj : j < n) (v : Int) (hv : v = (x.toNat : Int)) : OB (w.setCell ⟨g, j, none⟩ (.int .u8 v)) base (.slice (some ⟨g, 0, none⟩) n cap) (l.set j x) := by
  subst hv
  exact h.setCell hn j x hj
theorem OB.ge (h : OB w base (.slice (some ⟨g, 0, none⟩) n cap) l) (hn : l.length = n) : base ≤ g := by
  obtain ⟨cur, hg, hb, _⟩ := h.cur hn
  exact hb
end

end Go.Proofs.Ytlopcmmbkfjidaa

/-! RdI -/
namespace Go.Proofs.Ytlopcmmbkfjidaa
open Go.RowKit

theorem beq_dec {l r : List UInt8} : (l == r) = decide (l = r) := by rw [Bool.eq_iff_iff]; simp
theorem take_next {α : Type} {ps qs : List α} {k : Nat} {z : α} (h1 : k < ps.length) (h2 : k < qs.length) (h : ps.take k = qs.take k) : ps.take (k + 1) = qs.take (k + 1) ↔ ps.getD k z = qs.getD k z := by
  have e1 : ps[k] = ps.getD k z := by simp [List.getD, List.getElem?_eq_getElem h1]
  have e2 : qs[k] = qs.getD k z := by simp [List.getD, List.getElem?_eq_getElem h2]
  rw [List.take_succ_eq_append_getElem h1, List.take_succ_eq_append_getElem h2, h, e1, e2]
  constructor
  · intro e
    have := List.append_cancel_left e
    injection this
  · intro e; rw [e]
theorem take_part {α : Type} {ps qs : List α} {k : Nat} (h : ¬ ps.take (k + 1) = qs.take (k + 1)) : ps ≠ qs := by
  rintro rfl
  exact h rfl

end Go.Proofs.Ytlopcmmbkfjidaa

/-! RdJ -/
namespace Go.Proofs.Ytlopcmmbkfjidaa
open Go.RowKit

set_option maxRecDepth 100000 in
set_option maxHeartbeats 4000000 in
theorem SameRecord_any (k k' tx tx' : Int) (A B : Option Addr) (n m c d : Nat) (cs ds : List Ch) (w : World) (ha : CR w A n cs) (hb : CR w B m ds) (hn : n ≤ 9223372036854775807) (hm : m ≤ 9223372036854775807) (hpa : ∀ c ∈ cs, c.2.2.length ≤ 9223372036854775807) (hpb : ∀ c ∈ ds, c.2.2.length ≤ 9223372036854775807) :
    Calls Try.prog 43 #[.agg #[.int .u8 k, .int .i64 tx, .slice A n c], .agg #[.int .u8 k', .int .i64 tx', .slice B m d]] w fun e w' => e = .returned (.bool (decide (k = k' ∧ tx = tx' ∧ cs = ds))) ∧ Below w.heap.size w w' := by
  have hB1 := gr_alloc (gr_refl w) (.cells #[.int .u8 k, .int .i64 tx, .slice A n c] 25)
  have hB2 := gr_alloc hB1 (.cells #[.int .u8 k', .int .i64 tx', .slice B m d] 25)
  have x1 := (B3.new w (.int .u8 k) (.int .i64 tx) (.slice A n c) (t := 25) (by decide)).nb (NB.below (gr_alloc (gr_refl _) (.cells #[.int .u8 k', .int .i64 tx', .slice B m d] 25)))
  have x2 := B3.new (w.alloc (.cells #[.int .u8 k, .int .i64 tx, .slice A n c] 25)) (.int .u8 k') (.int .i64 tx') (.slice B m d) (t := 25) (by decide)
  have hsz : (w.alloc (.cells #[.int .u8 k, .int .i64 tx, .slice A n c] 25)).heap.size = w.heap.size + 1 := World.size_alloc _ _
  rw [hsz] at x2
  have X1 := Lib.hid x1
  have X2 := Lib.hid x2
  have HB := Lib.hid hB2
  have HA := Lib.hid ha.len
  have HM := Lib.hid hb.len
  have HPA := Lib.hid hpa
  have HPB := Lib.hid hpb
  have PA := Lib.hid (ha.below hB2)
  have PB := Lib.hid (hb.below hB2)
  clear ha hb hB1 hB2 hpa hpb hsz x1 x2
  by_cases hh : k = k' ∧ tx = tx' ∧ n = m
  · obtain ⟨h1, h2, h3⟩ := hh
    subst h1 h2 h3
    have t1 : (k != k) = false := by simp
    have t2 : (tx != tx) = false := by simp
    have t3 : ((n : Int) != (n : Int)) = false := by simp
    go_enter Try.func43, Try.ntmps43
    go_wp2_with fail
    go_loopw [5, 6, 7] (fun i _ _ wr => ∃ j : Nat, j ≤ n ∧ i = .int .i64 j ∧ Hid (cs.take j = ds.take j) ∧ Hid (Below ((w.alloc (.cells #[.int .u8 k, .int .i64 tx, .slice A n c] 25)).alloc (.cells #[.int .u8 k, .int .i64 tx, .slice B n d] 25)).heap.size ((w.alloc (.cells #[.int .u8 k, .int .i64 tx, .slice A n c] 25)).alloc (.cells #[.int .u8 k, .int .i64 tx, .slice B n d] 25)) wr)) (fun i _ _ _ => n - (intOf i).toNat)
    case atStart => exact ⟨0, Nat.zero_le _, rfl, Lib.hid rfl, Lib.hid (gr_refl _)⟩
    case round =>
      obtain ⟨j, hj, rfl, HT, HW⟩ := hrel
      by_cases hlt : j < n
      · have u1 : decide ((j : Int) < (n : Int)) = true := decide_eq_true (by omega)
        have u2 : decide (j < n) = true := decide_eq_true hlt
        have j0 : (0 : Int) ≤ (j : Int) := Int.natCast_nonneg _
        have j1 : (j : Int) < (n : Int) := by omega
        have c1 := (X1.out.nb (NB.below HW.out)).c2
        have c2 := (X2.out.nb (NB.below HW.out)).c2
        obtain ⟨gp, op, Bp, cp, Dp, dp, rfl, q0, q1, q2, q3, q4, q5, q6, q7, q8⟩ := (PA.out.below HW.out).at_ (i := j) hlt
        obtain ⟨gr, ro, Br, cr, Dr, dr, rfl, r0, r1, r2, r3, r4, r5, r6, r7, r8⟩ := (PB.out.below HW.out).at_ (i := j) hlt
        have HP := Lib.hid (take_next (z := ch0) (by rw [HA.out]; exact hlt) (by rw [HM.out]; exact hlt) HT.out)
        have hpk := HPA.out (cs.getD j ch0) (ch_mem (by rw [HA.out]; exact hlt))
        have hqk := HPB.out (ds.getD j ch0) (ch_mem (by rw [HM.out]; exact hlt))
        obtain ⟨x, hx⟩ : ∃ x, cs.getD j ch0 = x := ⟨_, rfl⟩
        obtain ⟨y, hy⟩ : ∃ y, ds.getD j ch0 = y := ⟨_, rfl⟩
        rw [hx] at q0 q1 q2 q3 q6 HP hpk
        rw [hy] at r0 r1 r2 r3 r6 HP hqk
        obtain ⟨pa, pb, pp⟩ := x
        obtain ⟨ra, rb, rp⟩ := y
        dsimp only at q0 q1 q2 q3 q6 r0 r1 r2 r3 r6 hpk hqk
        clear hx hy q4 q5 q7 q8 r4 r5 r7 r8 hlt
        have Q3 := Lib.hid q3
        have Q6 := Lib.hid q6
        have R3 := Lib.hid r3
        have R6 := Lib.hid r6
        clear q3 q6 r3 r6
        have q2' : wr.cell? ⟨gp, op + j * 3 + 2, none⟩ = some (.slice Dp pp.length dp) := q2
        have r2' : wr.cell? ⟨gr, ro + j * 3 + 2, none⟩ = some (.slice Dr rp.length dr) := r2
        have n1 := World.new_ne wr _ c1
        have n2 := World.new_ne wr _ c2
        have n3 := World.new_ne wr _ q0
        have n4 := World.new_ne wr _ r0
        have hbz : ∀ o1 o2, Below wr.heap.size wr (((wr.alloc o1).alloc o2).drew) := fun o1 o2 => gr_drewN (gr_alloc (gr_alloc (gr_refl wr) o1) o2) 1
        have hbq : ∀ o1 o2 (q : Nat), Below wr.heap.size wr (((wr.alloc o1).alloc o2).drewN q) := fun o1 o2 q => gr_drewN (gr_alloc (gr_alloc (gr_refl wr) o1) o2) q
        by_cases h1 : pa = ra
        · subst h1
          have t4 : (pa != pa) = false := by simp
          by_cases h2 : pb = rb
          · subst h2
            have t5 : (pb == pb) = true := by simp
            by_cases h3 : pp = rp
            · subst h3
              have HT2 : Hid (cs.take (j + 1) = ds.take (j + 1)) := Lib.hid (HP.out.2 rfl)
              have t6 : samePcs pp pp = true := by unfold samePcs; simp
              clear HP HT
              skip
              go_wp2_with fail
              go_region_held3 (fun W => W.cell? ⟨w.heap.size, 2, none⟩ = some (.slice (some ⟨gp, op, none⟩) n c) ∧ W.cell? ⟨w.heap.size + 1, 2, none⟩ = some (.slice (some ⟨gr, ro, none⟩) n d) ∧ W.cell? ⟨gp, op + j * 3, none⟩ = some (.int .i64 pa) ∧ W.cell? ⟨gp, op + j * 3 + 1, none⟩ = some (.slice Bp pb.length cp) ∧ W.cell? ⟨gp, op + j * 3 + 2, none⟩ = some (.slice Dp pp.length dp) ∧ W.cell? ⟨gr, ro + j * 3, none⟩ = some (.int .i64 pa) ∧ W.cell? ⟨gr, ro + j * 3 + 1, none⟩ = some (.slice Br pb.length cr) ∧ W.cell? ⟨gr, ro + j * 3 + 2, none⟩ = some (.slice Dr pp.length dr))
                (first | exact ⟨c1, c2, q0, q1, q2', r0, r1, r2'⟩ | go_keep)
                (fail)
              all_goals
                go_wp2_with fail
                refine (SameBytes_any Bp Br _ _ cp cr pb pb _ (Q3.out.below (hbz _ _)) (R3.out.below (hbz _ _))).mono ?_
                rintro e w' ⟨rfl, rfl⟩
                go_wp2_with fail
                refine (SamePieces_any Dp Dr _ _ dp dr pp pp _ (Q6.out.below (hbz _ _)) (R6.out.below (hbz _ _)) hpk hqk).mono ?_
                rintro e w' ⟨rfl, qd, rfl⟩
                rw [t6]
                go_wp2_with fail
                go_roundw
                case rel => exact ⟨j + 1, by omega, by go_num, HT2, Lib.hid (gr_trans HW.out (hbq _ _ _))⟩
                case measure => simp [intOf]; omega
            · have t6 : samePcs pp rp = false := by unfold samePcs; exact decide_eq_false h3
              have HN : Hid (cs ≠ ds) := Lib.hid (take_part (fun h => h3 (by have := HP.out.1 h; injection this with _ b; injection b)))
              clear HP HT h3
              skip
              go_wp2_with fail
              go_region_held3 (fun W => W.cell? ⟨w.heap.size, 2, none⟩ = some (.slice (some ⟨gp, op, none⟩) n c) ∧ W.cell? ⟨w.heap.size + 1, 2, none⟩ = some (.slice (some ⟨gr, ro, none⟩) n d) ∧ W.cell? ⟨gp, op + j * 3, none⟩ = some (.int .i64 pa) ∧ W.cell? ⟨gp, op + j * 3 + 1, none⟩ = some (.slice Bp pb.length cp) ∧ W.cell? ⟨gp, op + j * 3 + 2, none⟩ = some (.slice Dp pp.length dp) ∧ W.cell? ⟨gr, ro + j * 3, none⟩ = some (.int .i64 pa) ∧ W.cell? ⟨gr, ro + j * 3 + 1, none⟩ = some (.slice Br pb.length cr) ∧ W.cell? ⟨gr, ro + j * 3 + 2, none⟩ = some (.slice Dr rp.length dr))
                (first | exact ⟨c1, c2, q0, q1, q2', r0, r1, r2'⟩ | go_keep)
                (fail)
              all_goals
                go_wp2_with fail
                refine (SameBytes_any Bp Br _ _ cp cr pb pb _ (Q3.out.below (hbz _ _)) (R3.out.below (hbz _ _))).mono ?_
                rintro e w' ⟨rfl, rfl⟩
                go_wp2_with fail
                refine (SamePieces_any Dp Dr _ _ dp dr pp rp _ (Q6.out.below (hbz _ _)) (R6.out.below (hbz _ _)) hpk hqk).mono ?_
                rintro e w' ⟨rfl, qd, rfl⟩
                rw [t6]
                go_wp2_with fail
                go_ret
                refine ⟨?_, gr_trans HB.out (gr_trans HW.out (hbq _ _ _))⟩
                rw [decide_eq_false (fun h => HN.out h.2.2)]
                rfl
          · have t5 : (pb == rb) = false := beq_eq_false_iff_ne.2 h2
            have HN : Hid (cs ≠ ds) := Lib.hid (take_part (fun h => h2 (by have := HP.out.1 h; injection this with _ b; injection b)))
            clear HP HT h2
            skip
            go_wp2_with fail
            go_region_held3 (fun W => W.cell? ⟨w.heap.size, 2, none⟩ = some (.slice (some ⟨gp, op, none⟩) n c) ∧ W.cell? ⟨w.heap.size + 1, 2, none⟩ = some (.slice (some ⟨gr, ro, none⟩) n d) ∧ W.cell? ⟨gp, op + j * 3, none⟩ = some (.int .i64 pa) ∧ W.cell? ⟨gp, op + j * 3 + 1, none⟩ = some (.slice Bp pb.length cp) ∧ W.cell? ⟨gp, op + j * 3 + 2, none⟩ = some (.slice Dp pp.length dp) ∧ W.cell? ⟨gr, ro + j * 3, none⟩ = some (.int .i64 pa) ∧ W.cell? ⟨gr, ro + j * 3 + 1, none⟩ = some (.slice Br rb.length cr) ∧ W.cell? ⟨gr, ro + j * 3 + 2, none⟩ = some (.slice Dr rp.length dr))
              (first | exact ⟨c1, c2, q0, q1, q2', r0, r1, r2'⟩ | go_keep)
              (fail)
            all_goals
              go_wp2_with fail
              refine (SameBytes_any Bp Br _ _ cp cr pb rb _ (Q3.out.below (hbz _ _)) (R3.out.below (hbz _ _))).mono ?_
              rintro e w' ⟨rfl, rfl⟩
              go_wp2_with fail
              go_ret
              refine ⟨?_, gr_trans HB.out (gr_trans HW.out (hbz _ _))⟩
              rw [decide_eq_false (fun h => HN.out h.2.2)]
              rfl
        · have t4 : (pa != ra) = true := by simp; exact h1
          have HN : Hid (cs ≠ ds) := Lib.hid (take_part (fun h => h1 (by have := HP.out.1 h; injection this)))
          clear HP HT h1
          skip
          go_wp2_with fail
          go_region_held3 (fun W => W.cell? ⟨w.heap.size, 2, none⟩ = some (.slice (some ⟨gp, op, none⟩) n c) ∧ W.cell? ⟨w.heap.size + 1, 2, none⟩ = some (.slice (some ⟨gr, ro, none⟩) n d) ∧ W.cell? ⟨gp, op + j * 3, none⟩ = some (.int .i64 pa) ∧ W.cell? ⟨gp, op + j * 3 + 1, none⟩ = some (.slice Bp pb.length cp) ∧ W.cell? ⟨gp, op + j * 3 + 2, none⟩ = some (.slice Dp pp.length dp) ∧ W.cell? ⟨gr, ro + j * 3, none⟩ = some (.int .i64 ra) ∧ W.cell? ⟨gr, ro + j * 3 + 1, none⟩ = some (.slice Br rb.length cr) ∧ W.cell? ⟨gr, ro + j * 3 + 2, none⟩ = some (.slice Dr rp.length dr))
            (first | exact ⟨c1, c2, q0, q1, q2', r0, r1, r2'⟩ | go_keep)
            (fail)
          all_goals
            go_wp2_with fail
            go_ret
            refine ⟨?_, gr_trans HB.out (gr_trans HW.out (hbz _ _))⟩
            rw [decide_eq_false (fun h => HN.out h.2.2)]
            rfl
      · obtain rfl : n = j := by omega
        have u1 : decide ((n : Int) < (n : Int)) = false := decide_eq_false (by omega)
        have u2 : decide (n < n) = false := decide_eq_false (by omega)
        have c1 := (X1.out.nb (NB.below HW.out)).c2
        have HN : Hid (cs = ds) := Lib.hid (by
          have h := HT.out
          rwa [List.take_of_length_le (Nat.le_of_eq HA.out), List.take_of_length_le (Nat.le_of_eq HM.out)] at h)
        clear HT
        go_wp2_with fail
        go_ret
        refine ⟨?_, gr_trans HB.out HW.out⟩
        rw [decide_eq_true ⟨by simp, by simp, HN.out⟩]
        rfl
  · have HN : Hid (¬ (k = k' ∧ tx = tx' ∧ cs = ds)) := Lib.hid (fun h => hh ⟨h.1, h.2.1, by rw [← HA.out, ← HM.out, h.2.2]⟩)
    have hw : (k != k') = true ∨ ((k != k') = false ∧ ((tx != tx') = true ∨ ((tx != tx') = false ∧ ((n : Int) != (m : Int)) = true))) := by
      by_cases h1 : k = k'
      · subst h1
        by_cases h2 : tx = tx'
        · subst h2
          exact .inr ⟨by simp, .inr ⟨by simp, by simp; exact fun e => hh ⟨rfl, rfl, by omega⟩⟩⟩
        · exact .inr ⟨by simp, .inl (by simp; exact h2)⟩
      · exact .inl (by simp; exact h1)
    clear hh
    rcases hw with t1 | ⟨t1, t2 | ⟨t2, t3⟩⟩
    all_goals
      go_enter Try.func43, Try.ntmps43
      go_wp2_with fail
      go_ret
      refine ⟨?_, HB.out⟩
      rw [decide_eq_false HN.out]
      rfl

end Go.Proofs.Ytlopcmmbkfjidaa

/-! RdK -/
namespace Go.Proofs.Ytlopcmmbkfjidaa
open Go.RowKit

def atomR : Rec := ⟨1, 1, [(2, [], [(3, [7])])]⟩
def commitR : Rec := ⟨2, 5, []⟩
def atomL : List UInt8 := [23, 0, 0, 0, 1, 1, 0, 0, 0, 0, 0, 0, 0, 1, 0, 2, 0, 0, 0, 0, 1, 0, 3, 0, 1, 0, 7]
def commitL : List UInt8 := [11, 0, 0, 0, 2, 5, 0, 0, 0, 0, 0, 0, 0, 0, 0]
theorem atom_right : atomR.right = true := by decide +kernel
theorem commit_right : commitR.right = true := by decide +kernel
theorem atom_enc : encR atomR = atomL := by decide +kernel
theorem commit_enc : encR commitR = commitL := by decide +kernel

/-- A literal of one change. -/
theorem CR.lit1 (w : World) {a : Int} {u1 u2 : Value} {l : List UInt8} {ps : List Pc} (h1 : VB w u1 l) (h2 : VP w u2 ps) : CR (w.alloc (.cells #[.int .i64 a, u1, u2] 86)) (some ⟨w.heap.size, 0, none⟩) 1 [(a, l, ps)] := by
  refine ⟨[(a, u1, u2)], Rd.new w _ #[.int .i64 a, u1, u2] 1 3 rfl, rfl, fun i p q hp hq => ?_⟩
  obtain rfl | h0 : i = 0 ∨ 1 ≤ i := by omega
  · simp at hp hq
    subst hp hq
    exact ⟨rfl, h1.below (gr_alloc (gr_refl w) _), h2.below (gr_alloc (gr_refl w) _)⟩
  · rw [List.getElem?_eq_none (by simpa using h0)] at hp
    cases hp
theorem PN.vp {w : World} {v : Value} {n : Nat} {ps : List Pc} (h : PN w v n ps) : VP w v ps := by
  obtain ⟨A, c, e, h1, h2, h3⟩ := h
  have := h1.len
  subst this
  exact ⟨A, c, e, h1, h2, h3⟩
theorem bytes_lit (w : World) (l : List UInt8) (cs : Array Value) (n : Nat) (hn : l.length = n) (hs : n ≤ maxLen) (h : cs.toList = l.map bv) (hc : cs.size = n) : OB (w.alloc (.cells cs 5)) w.heap.size (.slice (some ⟨w.heap.size, 0, none⟩) n n) l := by
  subst hn
  refine ⟨by simp, .inr ⟨_, l.length, cs, rfl, Nat.le_refl _, heap_alloc_new w _, Nat.le_refl _, hs, by omega, ?_⟩⟩
  rw [h, Nat.mul_one, List.take_of_length_le (by rw [List.length_map]; exact Nat.le_refl _)]
end Go.Proofs.Ytlopcmmbkfjidaa

/-! RdL -/
namespace Go.Proofs.Ytlopcmmbkfjidaa
open Go.RowKit

def atomR9 : List UInt8 := atomL ++ [9]
theorem dec_a0 : (decR (atomL ++ [9])).kind = 1 := by decide +kernel
theorem dec_a1 : (decR (atomL ++ [9])).tx = 1 := by decide +kernel
theorem dec_a2 : (decR (atomL ++ [9])).cs = [(2, [], [(3, [7])])] := by decide +kernel
theorem dec_aN : decN (atomL ++ [9]) = 27 := by decide +kernel
theorem dec_aE : decE (atomL ++ [9]) = 0 := by decide +kernel
theorem same_atom : decide ((1 : Int) = 1 ∧ (1 : Int) = 1 ∧ ([(2, [], [(3, [7])])] : List Ch) = [(2, [], [(3, [7])])]) = true := by decide +kernel
def MP.atm : MP := ⟨fun v w => ∃ A, v = .agg #[.int .u8 1, .int .i64 1, .slice A 1 1] ∧ CR w A 1 [(2, [], [(3, [7])])], fun _ _ _ hb ⟨A, e, h⟩ => ⟨A, e, h.below hb⟩⟩

end Go.Proofs.Ytlopcmmbkfjidaa

/-! RdM -/
namespace Go.Proofs.Ytlopcmmbkfjidaa
open Go.RowKit

theorem body_len {b : List UInt8} (h : ¬ short b) : (body b).length = said b := by
  unfold short at h
  unfold body
  rw [List.length_take, List.length_drop]
  omega
theorem said_enc {r : Rec} (h : r.right = true) (b : List UInt8) : said (encR r ++ b) = (encB r).length := by
  have hs := encB_small h
  unfold said encR
  rw [List.append_assoc, List.take_append_of_le_length (by rw [leB_length]; exact Nat.le_refl _), List.take_of_length_le (by rw [leB_length]; exact Nat.le_refl _), leN_leB, Nat.mod_eq_of_lt (by omega)]
theorem encR_len (r : Rec) : (encR r).length = 4 + (encB r).length := by
  unfold encR
  rw [List.length_append, leB_length]
theorem body_enc {r : Rec} (h : r.right = true) (b : List UInt8) : body (encR r ++ b) = encB r := by
  unfold body
  rw [said_enc h b]
  unfold encR
  rw [List.append_assoc, List.drop_left' (leB_length _ _), List.take_left' rfl]
theorem dec_back {r : Rec} (h : r.right = true) (b : List UInt8) : decE (encR r ++ b) = 0 ∧ decN (encR r ++ b) = (encR r).length ∧ decR (encR r ++ b) = r := by
  have hs : ¬ short (encR r ++ b) := by
    unfold short
    rw [said_enc h b, List.length_append, encR_len]
    omega
  have hp := pRecord_c h
  have hf : fine (encR r ++ b) := by
    unfold fine
    rw [body_enc h b, said_enc h b, hp]
    exact ⟨rfl, h⟩
  unfold decE decN decR
  rw [if_neg hs, if_pos hf, if_neg hs, if_pos hf, if_neg hs, if_pos hf, body_enc h b, said_enc h b, hp, encR_len]
  exact ⟨rfl, rfl, rfl⟩
theorem dec_short {r : Rec} (h : r.right = true) {p : Nat} (hp : p < (encR r).length) : decE ((encR r).take p) = 150 := by
  have hs : short ((encR r).take p) := by
    unfold short
    rw [List.length_take]
    by_cases h4 : p < 4
    · left; omega
    · right
      have e : said ((encR r).take p) = (encB r).length := by
        have := said_enc h []
        rw [List.append_nil] at this
        rw [← this]
        unfold said
        rw [List.take_take, Nat.min_eq_left (by omega)]
      rw [e]
      rw [encR_len] at hp ⊢
      omega
  unfold decE
  rw [if_pos hs]
theorem dec_own {b : List UInt8} (h : decE b = 0) : (decR b).right = true ∧ decN b ≤ b.length ∧ encR (decR b) = b.take (decN b) := by
  have hle := (decN_le h).2
  unfold decE at h
  split at h
  · omega
  · split at h
    · rename_i hs hf
      have hl := body_len hs
      have e0 : decR b = (pRecord (body b)).1 := by unfold decR; rw [if_neg hs, if_pos hf]
      have eN : decN b = 4 + said b := by unfold decN; rw [if_neg hs, if_pos hf]
      have hb : body b = encB (pRecord (body b)).1 := pRecord_s (r := (pRecord (body b)).1) (by rw [hl, ← hf.1]) hf.2
      rw [e0]
      refine ⟨hf.2, hle, ?_⟩
      unfold encR
      rw [← hb, hl, eN]
      have h4 : (b.take 4).length = 4 := by
        unfold short at hs
        rw [List.length_take]
        omega
      have h5 : leB (said b) 4 = b.take 4 := by
        have := leB_leN (b.take 4)
        rw [h4] at this
        exact this
      rw [h5]
      unfold body
      rw [List.take_add]
    · omega
theorem decE_not {b : List UInt8} (h : decE b ≠ 0) : decN b = 0 ∧ (decE b = 150 ∨ decE b = 151) := by
  unfold decE at h ⊢
  unfold decN
  split at h
  · rename_i hs
    rw [if_pos hs, if_pos hs]
    exact ⟨rfl, .inl rfl⟩
  · rename_i hs
    split at h
    · omega
    · rename_i hf
      rw [if_neg hs, if_neg hf, if_neg hs, if_neg hf]
      exact ⟨rfl, .inr rfl⟩

/-- Appending bytes to bytes of one's own, many. -/
theorem wpList_append_M (w : World) {ops : Array Oper} {rest : List Oper} {o : Oper} {a : Act} {Q : Exit → Act → World → Prop} (hgd : o.guard = none) (s x : Operand)
    (ho : o.op = .call { callee := .builtin .append, args := #[s, x], argTypes := #[30, 30] })
    {base : Nat} {v : Value} {l m : List UInt8} (hs : a.eval s = v) (hv : OB w base v l) {A : Option Addr} {n c : Nat} (hx : a.eval x = .slice A n c) (hr : BR w A n m) (hsz : l.length + n ≤ 200000000000000) (hbase : base ≤ w.heap.size)
    (h : ∀ A' c' w', BR w' A' (l.length + n) (l ++ m) → l.length + n ≤ c' → c' ≤ maxLen → Below base w w' → NB w w' → wpList Try.prog ops Q rest (a.put o.dst (.slice A' (l.length + n) c')) w') : wpList Try.prog ops Q (o :: rest) a w := by
  obtain ⟨i0, hi0, hz0, hz1, hz2⟩ := info_parts info_u8
  have hlen : (l ++ m).length = l.length + n := by rw [List.length_append, hr.len]
  refine wpList_append_Rd w hgd s x 30 ho base 5 i0 _ 1 1 Try.underlying30 hi0 hz0 hz1 hz2 rfl v l.length (l.map bv) hs hv A n c (m.map bv) hx hr (one_bv _) (by omega) (by simp only [maxLen]; omega) hbase ?_
  intro v' w' hown hg _ _
  have ho' : OB w' base v' (l ++ m) := by
    unfold OB
    rw [hlen, List.map_append]
    exact hown
  obtain ⟨A', c', rfl, b1, b2, b3⟩ := ho'.formN hlen
  refine h A' c' w' b1 b2 b3 ⟨hg.os, hg.tape, hg.output, hg.size, fun k hk => hg.block k (Nat.lt_of_lt_of_le hk hbase) (fun e => ?_)⟩ (fun k cs t fr ht hk => (hg.block k (Array.getElem?_eq_some_iff.1 hk).1 (fun e => ?_)).trans hk)
  · have := (hv.lt k e.symm).1
    omega
  · obtain ⟨cur, hc⟩ := own_blk hv e.symm
    exact cells_ne hk hc ht

end Go.Proofs.Ytlopcmmbkfjidaa

/-! Row -/
namespace Go.Proofs.Ytlopcmmbkfjidaa
open Go.ChangeShapes Go.WideShapes Go.ChangeAt Go.RowKit

theorem own : ownKnob Try.prog.godebug = none := by kernel_rfl
theorem laidOut : laidOutB Try.prog = true := by kernel_rfl

section
variable {H : Type} {enc : TypeId × Value → H} {P : Program}

theorem trodAll_stays (hl : laidOutB P = true) {W W' : World} (hb : Below W.heap.size W W') :
    ∀ (ts : List TypeId) (vs : List Value) (ds : List (DataW H)) (ps : List MemPlace), (∀ t ∈ ts, P.readableRec t = true ∧ t < P.types.size) →
      DataW.TrodAll enc P W 0 (fun _ => true) true ts vs ds ps → (∀ x ∈ ps, x.block < W.heap.size) → DataW.TrodAll enc P W' 0 (fun b => decide (b < W.heap.size)) true ts vs ds ps
  | [], [], [], _ => fun _ h _ => h
  | t :: ts, v :: vs, d :: ds, ps => fun hr h hlt => by
    obtain ⟨p, q, h1, h2, rfl⟩ := h
    exact ⟨p, q, Below.trod hl (hr t (List.mem_cons_self ..)).1 (hr t (List.mem_cons_self ..)).2 h1 hb (fun x hx => hlt x (List.mem_append.2 (.inl hx))),
      trodAll_stays hl hb ts vs ds q (fun t ht => hr t (List.mem_cons_of_mem _ ht)) h2 (fun x hx => hlt x (List.mem_append.2 (.inr hx))), rfl⟩
  | [], _ :: _, _, _ => fun _ h _ => by cases h
  | [], [], _ :: _, _ => fun _ h _ => by cases h
  | _ :: _, [], _, _ => fun _ h _ => by cases h
  | _ :: _, _ :: _, [], _ => fun _ h _ => by cases h

/-- THE POST OF A LAW: it has returned true, and the world has only grown. -/
theorem law_post {fn : Func} {s : ChangeSpec} {bt : TypeId} (hl : laidOutB P = true) (hrow : ∀ t ∈ fn.params.toList, P.readableRec t = true ∧ t < P.types.size)
    (hres : fn.resultTypes = #[bt]) (hbt : P.underlying bt = some .bool) (hv : s.vars = []) {W W' : World} {args : Array Value} {ds gs : List (DataW H)} {before : List MemPlace}
    (hW : DataW.Whole enc P fn.params.toList s.vars false W args.toList ds gs before) (hs : s.fn H (ds ++ gs) = { results := [.lit (.bool true)], args := ds })
    (hb : Below W.heap.size W W') : s.post enc P fn false true false false W args (.bool true) W' := by
  have hW' := hW
  obtain ⟨p, q, hA, hV, rfl, _, _⟩ := hW
  have hlt : ∀ x ∈ p, x.block < W.heap.size := fun x hx => hW'.lt x (List.mem_append.2 (.inl hx))
  refine ⟨ds, gs, p ++ q, [], p, [], hW', ?_, ?_, ?_, hb.frame _, fun h => by cases h⟩
  · rw [hs, hres]
    exact trodAll_mk1 (shut_bool hbt _)
  · rw [hs]
    exact trodAll_stays hl hb _ _ _ _ hrow hA hlt
  · rw [hs, hv]
    rfl
end

theorem cells_u8 : Try.prog.cellsOf 5 = 1 := by kernel_rfl
theorem bytes_u8 : Try.prog.bytesOf 5 = 1 := by kernel_rfl

/-- The datum of a slice: nil, or so many values and so many spare ones. -/
def SliceD {H : Type} (d : DataW H) (n c : Nat) : Prop := (d = .nil ∧ n = 0 ∧ c = 0) ∨ ∃ e s, d = .slice e s ∧ e.length = n ∧ s.length = c - n

set_option maxRecDepth 100000 in
/-- AN ARGUMENT OF TYPE []byte, OPENED, nil OR NOT. -/
theorem open_bytes {H : Type} {enc : TypeId × Value → H} {W : World} {base : Nat} {v : Value} {d : DataW H} {p : List MemPlace}
    (hv : Value.okWide Try.prog W .any base 30 v) (h0 : DataW.Trod enc Try.prog W 0 (fun _ => true) true 30 v d p) :
    ∃ A n c l, v = .slice A n c ∧ BR W A n l ∧ n ≤ c ∧ c ≤ maxLen ∧ SliceD d n c := by
  obtain ⟨A, n, c, rfl⟩ := okWide_slice Try.underlying30 hv
  obtain ⟨fuel, hf⟩ := h0
  rcases open_ints Try.underlying30 Try.underlying5 cells_u8 hf with ⟨hcs, hx⟩ | ⟨a, len', cap', zs, hcs, _, hl, hm, hz, hx, hcell, hwz⟩
  · simp [Value.cells] at hcs
    obtain ⟨rfl, rfl, rfl⟩ := hcs
    simp only [Prod.mk.injEq] at hx
    obtain ⟨rfl, rfl⟩ := hx
    exact ⟨none, 0, 0, [], rfl, BR.none_ _ _, Nat.le_refl _, Nat.zero_le _, .inl ⟨rfl, rfl, rfl⟩⟩
  · simp [Value.cells] at hcs
    obtain ⟨rfl, rfl, rfl⟩ := hcs
    simp only [Prod.mk.injEq] at hx
    obtain ⟨rfl, rfl⟩ := hx
    simp only [if_true] at hz
    refine ⟨some a, n, c, (zs.take n).map fun z => UInt8.ofNat z.toNat, rfl, ⟨by simp; omega, fun _ => ⟨a, rfl, fun j u hu => ?_⟩⟩, hl, hm, .inr ⟨_, _, rfl, by simp [lits]; omega, by simp [lits]; omega⟩⟩
    have hj : j < n := by
      rcases Nat.lt_or_ge j n with h | h
      · exact h
      · rw [List.getElem?_eq_none (by simp; omega)] at hu
        cases hu
    have hjz : j < zs.length := by omega
    rw [hcell j hjz]
    have hr := bounds_u8 (hwz zs[j] (List.getElem_mem hjz))
    simp [hj, List.getElem?_eq_getElem hjz, bv] at hu
    rw [← hu]
    simp [List.getD, List.getElem?_eq_getElem hjz]
    omega

theorem bulk_one {H : Type} (d : DataW H) : 1 ≤ Rows.uptoBulk d := by
  cases d with
  | lit l => cases l <;> simp [Rows.uptoBulk]
  | nil => simp [Rows.uptoBulk]
  | ptr d => simp [Rows.uptoBulk]
  | slice elems spare => simp [Rows.uptoBulk]
  | agg parts => simp [Rows.uptoBulk]
  | iface t d => simp [Rows.uptoBulk]
  | map entries => simp [Rows.uptoBulk]
  | held h => simp [Rows.uptoBulk]
theorem bulk_len {H : Type} (l : List (DataW H)) : l.length ≤ Rows.uptoBulkAll l := by
  induction l with
  | nil => simp [Rows.uptoBulkAll]
  | cons x r ih => have := bulk_one x; simp only [Rows.uptoBulkAll, List.length_cons]; omega
theorem bulk_part {H : Type} {d : DataW H} {l : List (DataW H)} (h : d ∈ l) : Rows.uptoBulk d ≤ Rows.uptoBulkAll l := by
  induction l with
  | nil => cases h
  | cons x r ih =>
    simp only [Rows.uptoBulkAll]
    cases List.mem_cons.1 h with
    | inl e => subst e; omega
    | inr e => have := ih e; omega
theorem bulk_bound {H : Type} {l : List (DataW H)} (hk : Rows.uptoSmall H l = true) : Rows.uptoBulkAll l ≤ 1048576 := of_decide_eq_true hk
theorem SliceD.bulk {H : Type} {d : DataW H} {n c : Nat} (h : SliceD d n c) (hnc : n ≤ c) : c ≤ Rows.uptoBulk d := by
  rcases h with ⟨_, _, rfl⟩ | ⟨e, s, rfl, h1, h2⟩
  · omega
  · have b1 := bulk_len e
    have b2 := bulk_len s
    simp only [Rows.uptoBulk]
    omega
theorem SliceD.small {H : Type} {d : DataW H} {n c : Nat} {l : List (DataW H)} (h : SliceD d n c) (hnc : n ≤ c) (hd : d ∈ l) (hk : Rows.uptoSmall H l = true) : c ≤ 1048576 :=
  Nat.le_trans (h.bulk hnc) (Nat.le_trans (bulk_part hd) (bulk_bound hk))
/-- What the form's reach says of a slice of bytes. -/
theorem SliceD.reach {H : Type} {d : DataW H} {n c : Nat} {ts : List TypeId} {ds : List (DataW H)} {j : Nat} (h : SliceD d n c) (hnc : n ≤ c) (ht : ts[j]? = some 30) (hd : ds[j]? = some d)
    (hz : (DataW.weightsEach Try.prog ts ds).all (· ≤ reachBytes) = true) : c ≤ 140737488351232 := by
  rcases h with ⟨_, _, rfl⟩ | ⟨e, s, rfl, h1, h2⟩
  · omega
  · have := List.all_eq_true.1 hz _ (DataW.weights_mem_each ht hd ((e.length + s.length) * Try.prog.bytesOf 5) (by simp [DataW.weights, Try.underlying30]))
    rw [bytes_u8] at this
    have h3 : reachBytes = 140737488351232 := by decide
    simp [h3] at this
    omega

end Go.Proofs.Ytlopcmmbkfjidaa

/-! Opn -/
namespace Go.Proofs.Ytlopcmmbkfjidaa
open Go.ChangeShapes Go.WideShapes Go.ChangeAt Go.RowKit Go.Deep

/-- A datum within the form's reach. -/
def Wt {H : Type} (t : TypeId) (d : DataW H) : Prop := ∀ n ∈ d.weights Try.prog t, n ≤ reachBytes

theorem reach_val : reachBytes = 140737488351232 := by decide

section
variable {H : Type} {enc : TypeId × Value → H} {W : World} {base : Nat} {spare : Nat → Bool} {held : Bool}
theorem Wt.of_each {ts : List TypeId} {ds : List (DataW H)} {j : Nat} {t : TypeId} {d : DataW H} (hz : (DataW.weightsEach Try.prog ts ds).all (· ≤ reachBytes) = true) (ht : ts[j]? = some t) (hd : ds[j]? = some d) : Wt t d :=
  fun n hn => by simpa using List.all_eq_true.1 hz n (DataW.weights_mem_each ht hd n hn)
theorem weights_all {e : TypeId} {l : List (DataW H)} {d : DataW H} (hd : d ∈ l) : ∀ n ∈ d.weights Try.prog e, n ∈ DataW.weightsAll Try.prog e l := by
  induction l with
  | nil => cases hd
  | cons x r ih =>
    intro n hn
    simp only [DataW.weightsAll, List.mem_append]
    rcases List.mem_cons.1 hd with rfl | h
    · exact .inl hn
    · exact .inr (ih h n hn)
theorem Wt.slice {t e : TypeId} {l s : List (DataW H)} (h : Wt t (.slice l s)) (ht : Try.prog.underlying t = some (.slice e)) : (l.length + s.length) * Try.prog.bytesOf e ≤ 140737488351232 ∧ ∀ d ∈ l, Wt e d := by
  unfold Wt at h
  simp only [DataW.weights, ht] at h
  refine ⟨?_, fun d hd n hn => h n (List.mem_cons_of_mem _ (List.mem_append.2 (.inl (weights_all hd n hn))))⟩
  have := h _ (List.mem_cons_self ..)
  rw [reach_val] at this
  exact this
theorem Wt.agg {t : TypeId} {fs : Array Field} {l : List (DataW H)} (h : Wt t (.agg l)) (ht : Try.prog.underlying t = some (.struct fs)) {j : Nat} {f : Field} {d : DataW H} (hf : fs[j]? = some f) (hd : l[j]? = some d) : Wt f.type d := by
  intro n hn
  refine h n ?_
  simp only [DataW.weights, ht]
  exact DataW.weights_mem_each (j := j) (t := f.type) (by simp [hf]) hd n hn

/-- Bytes. -/
theorem op_bytes {fuel : Nat} {cs : List Value} {x : DataW H × List MemPlace} (h : DataW.trod enc Try.prog W base spare held fuel 30 cs = some x) (hw : Wt 30 x.1) (hsp : ∀ k, spare k = true) :
    ∃ A n c l, cs = [.slice A n c] ∧ BR W A n l ∧ n ≤ c ∧ c ≤ 140737488351232 := by
  rcases open_ints Try.underlying30 Try.underlying5 cells_u8 h with ⟨rfl, rfl⟩ | ⟨a, n, c, zs, rfl, _, hl, hm, hz, rfl, hcell, hwz⟩
  · exact ⟨none, 0, 0, [], rfl, BR.none_ _ _, Nat.le_refl _, by omega⟩
  · have hc := (Wt.slice hw Try.underlying30).1
    rw [bytes_u8] at hc
    rw [hsp] at hz
    simp only [if_true] at hz
    simp only [lits, List.length_map, List.length_take, List.length_drop] at hc
    refine ⟨some a, n, c, (zs.take n).map fun z => UInt8.ofNat z.toNat, rfl, ⟨by simp; omega, fun _ => ⟨a, rfl, fun j u hu => ?_⟩⟩, hl, by omega⟩
    have hj : j < n := by
      rcases Nat.lt_or_ge j n with h | h
      · exact h
      · rw [List.getElem?_eq_none (by simp; omega)] at hu
        cases hu
    have hjz : j < zs.length := by omega
    rw [hcell j hjz]
    have hr := bounds_u8 (hwz zs[j] (List.getElem_mem hjz))
    simp [hj, List.getElem?_eq_getElem hjz, bv] at hu
    rw [← hu]
    simp [List.getD, List.getElem?_eq_getElem hjz]
    omega

theorem cells_int : Try.prog.cellsOf 3 = 1 := by kernel_rfl
theorem bytes_int : Try.prog.bytesOf 3 = 8 := by kernel_rfl
theorem cells_piece : Try.prog.cellsOf 83 = 2 := by kernel_rfl
theorem bytes_piece : Try.prog.bytesOf 83 = 32 := by kernel_rfl
theorem cells_bytes : Try.prog.cellsOf 30 = 1 := by kernel_rfl

/-- Pieces. -/
theorem op_pieces {fuel : Nat} {cs : List Value} {x : DataW H × List MemPlace} (h : DataW.trod enc Try.prog W base spare held fuel 84 cs = some x) (hw : Wt 84 x.1) (hsp : ∀ k, spare k = true) :
    ∃ A n c ps, cs = [.slice A n c] ∧ PR W A n ps ∧ n ≤ c ∧ c ≤ 4398046511000 ∧ ∀ p ∈ ps, -9223372036854775808 ≤ p.1 ∧ p.1 ≤ 9223372036854775807 ∧ p.2.length ≤ 140737488351232 := by
  have hu := Try.underlying83
  rcases open_slice_pairs Try.underlying84 hu cells_piece rfl rfl cells_int cells_bytes h with ⟨rfl, rfl⟩ | ⟨a, n, c, m, k, V0, V1, D0, D1, P0, P1, rfl, _, hl, hm, hmm, rfl, he⟩
  · exact ⟨none, 0, 0, [], rfl, PR.none_ _ _, Nat.le_refl _, by omega, fun p hp => by cases hp⟩
  · rw [hsp] at hmm
    simp only [if_true] at hmm
    subst hmm
    obtain ⟨hc, hel⟩ := Wt.slice hw Try.underlying84
    rw [bytes_piece] at hc
    simp only [List.length_map, List.length_range] at hc
    have hone : ∀ i, i < n → ∃ q : Pc × Value, V0 i = .int .i64 q.1.1 ∧ V1 i = q.2 ∧ VB W q.2 q.1.2 ∧ -9223372036854775808 ≤ q.1.1 ∧ q.1.1 ≤ 9223372036854775807 ∧ q.1.2.length ≤ 140737488351232 := by
      intro i hi
      obtain ⟨c0, c1, t0, t1⟩ := he i (by omega)
      obtain ⟨z, e0, _, hz⟩ := DataW.trod_int Try.underlying3 t0
      have hb := bounds_i64 hz
      have hwi : Wt 83 (.agg [D0 i, D1 i]) := hel _ (List.mem_map.2 ⟨i, List.mem_range.2 hi, rfl⟩)
      have hw1 : Wt 30 (D1 i) := hwi.agg hu (j := 1) rfl rfl
      obtain ⟨A, n', c', l, e1, hr, hnc, hcm⟩ := op_bytes t1 hw1 hsp
      injection e0 with e0
      injection e1 with e1
      have hll := hr.len
      subst hll
      exact ⟨((z, l), V1 i), e0, rfl, ⟨A, c', e1, hr, hnc, by simp only [maxLen]; omega⟩, hb.1, hb.2, by dsimp only; omega⟩
    let q : Nat → Pc × Value := fun i => if h : i < n then Classical.choose (hone i h) else ((0, []), .slice none 0 0)
    have hq : ∀ i, i < n → V0 i = .int .i64 (q i).1.1 ∧ V1 i = (q i).2 ∧ VB W (q i).2 (q i).1.2 ∧ -9223372036854775808 ≤ (q i).1.1 ∧ (q i).1.1 ≤ 9223372036854775807 ∧ (q i).1.2.length ≤ 140737488351232 := by
      intro i hi
      have := Classical.choose_spec (hone i hi)
      simp only [q, dif_pos hi]
      exact this
    refine ⟨some a, n, _, (List.range n).map fun i => (q i).1, rfl, ⟨(List.range n).map fun i => ((q i).1.1, (q i).2), ⟨by simp [pcs_length], fun _ => ⟨a, rfl, ?_⟩⟩, by simp, ?_⟩, hl, by omega, ?_⟩
    · intro j u hu
      have hj : j < n * 2 := by
        rcases Nat.lt_or_ge j (n * 2) with h | h
        · exact h
        · rw [List.getElem?_eq_none (by rw [pcs_length]; simp; omega)] at hu
          cases hu
      have hi : j / 2 < n := by omega
      have hpc := pcs_at ((List.range n).map fun i => ((q i).1.1, (q i).2)) (j / 2) ((q (j / 2)).1.1, (q (j / 2)).2) (by simp [hi])
      obtain ⟨c0, c1, _, _⟩ := he (j / 2) (by omega)
      obtain ⟨e0, e1, _⟩ := hq (j / 2) hi
      rcases Nat.mod_two_eq_zero_or_one j with h2 | h2
      · have hj2 : j = j / 2 * 2 := by omega
        rw [hj2] at hu ⊢
        rw [hpc.1] at hu
        rw [c0, ← hu, e0]
      · have hj2 : j = j / 2 * 2 + 1 := by omega
        rw [hj2] at hu ⊢
        have hh : (j / 2 * 2 + 1) / 2 = j / 2 := by omega
        rw [hpc.2] at hu
        rw [c1, ← hu, e1]
    · intro i p r hp hr
      have hi : i < n := by
        rcases Nat.lt_or_ge i n with h | h
        · exact h
        · rw [List.getElem?_eq_none (by simp; omega)] at hp
          cases hp
      simp [hi] at hp hr
      subst hp hr
      exact ⟨rfl, (hq i hi).2.2.1⟩
    · intro p hp
      obtain ⟨i, hi, rfl⟩ := List.mem_map.1 hp
      exact (hq i (List.mem_range.1 hi)).2.2.2

/-- Ints. -/
theorem op_ints {fuel : Nat} {cs : List Value} {x : DataW H × List MemPlace} (h : DataW.trod enc Try.prog W base spare held fuel 43 cs = some x) (hw : Wt 43 x.1) (hsp : ∀ k, spare k = true) :
    ∃ A n c l, cs = [.slice A n c] ∧ IR W A n l ∧ n ≤ c ∧ c ≤ 17592186043904 ∧ ∀ z ∈ l, -9223372036854775808 ≤ z ∧ z ≤ 9223372036854775807 := by
  rcases open_ints Try.underlying43 Try.underlying3 cells_int h with ⟨rfl, rfl⟩ | ⟨a, n, c, zs, rfl, _, hl, hm, hz, rfl, hcell, hwz⟩
  · exact ⟨none, 0, 0, [], rfl, IR.none_ _ _, Nat.le_refl _, by omega, fun z hz => by cases hz⟩
  · have hc := (Wt.slice hw Try.underlying43).1
    rw [bytes_int] at hc
    rw [hsp] at hz
    simp only [if_true] at hz
    simp only [lits, List.length_map, List.length_take, List.length_drop] at hc
    refine ⟨some a, n, c, zs.take n, rfl, ⟨by simp; omega, fun _ => ⟨a, rfl, fun j u hu => ?_⟩⟩, hl, by omega, fun z hz => bounds_i64 (hwz z (List.mem_of_mem_take hz))⟩
    have hj : j < n := by
      rcases Nat.lt_or_ge j n with h | h
      · exact h
      · rw [List.getElem?_eq_none (by simp; omega)] at hu
        cases hu
    have hjz : j < zs.length := by omega
    rw [hcell j hjz]
    simp [hj, List.getElem?_eq_getElem hjz] at hu
    rw [← hu]
    simp [List.getD, List.getElem?_eq_getElem hjz]
end

end Go.Proofs.Ytlopcmmbkfjidaa

/-! OpR -/
namespace Go.Proofs.Ytlopcmmbkfjidaa
open Go.ChangeShapes Go.WideShapes Go.ChangeAt Go.RowKit Go.Deep Go.Joins

set_option maxRecDepth 100000 in
theorem cells_change : Try.prog.cellsOf 86 = 3 := by kernel_rfl
set_option maxRecDepth 100000 in
theorem bytes_change : Try.prog.bytesOf 86 = 56 := by kernel_rfl
set_option maxRecDepth 100000 in
theorem cells_record : Try.prog.cellsOf 25 = 3 := by kernel_rfl
set_option maxRecDepth 100000 in
theorem cells_pieces : Try.prog.cellsOf 84 = 1 := by kernel_rfl

/-- What is asked of a change that came in. -/
def chIn (c : Ch) : Prop := c.2.2.length ≤ 9223372036854775807 ∧ ∀ p ∈ c.2.2, p.1 ≤ 9223372036854775807

section
variable {H : Type} {enc : TypeId × Value → H} {W : World} {base : Nat} {spare : Nat → Bool} {held : Bool}

set_option maxRecDepth 100000 in
theorem op_changes {fuel : Nat} {cs : List Value} {x : DataW H × List MemPlace} (h : DataW.trod enc Try.prog W base spare held fuel 23 cs = some x) (hw : Wt 23 x.1) (hsp : ∀ k, spare k = true) :
    ∃ A n c l, cs = [.slice A n c] ∧ CR W A n l ∧ n ≤ c ∧ c ≤ 4398046511000 ∧ ∀ ch ∈ l, chIn ch := by
  have hu := Try.underlying86
  rcases open_slice Try.underlying23 h with ⟨rfl, rfl⟩ | ⟨a, n, c, m, k, D, Pl, rfl, _, hl, hm, hmm, rfl, he⟩
  · exact ⟨none, 0, 0, [], rfl, CR.none_ _ _, Nat.le_refl _, by omega, fun p hp => by cases hp⟩
  · rw [hsp] at hmm
    simp only [if_true] at hmm
    subst hmm
    obtain ⟨hc, hel⟩ := Wt.slice hw Try.underlying23
    rw [bytes_change] at hc
    simp only [List.length_map, List.length_range] at hc
    have hone : ∀ i, i < n → ∃ q : Ch × Value × Value, W.cell? (a.add (i * 3)) = some (.int .i64 q.1.1) ∧ W.cell? (a.add (i * 3 + 1)) = some q.2.1 ∧ W.cell? (a.add (i * 3 + 2)) = some q.2.2 ∧ VB W q.2.1 q.1.2.1 ∧ VP W q.2.2 q.1.2.2 ∧ chIn q.1 := by
      intro i hi
      obtain ⟨cs', g1, g2⟩ := he i (by omega)
      rw [cells_change] at g1
      obtain ⟨_, hlen, hcell⟩ := World.cells?_some g1
      have e0 := hcell 0 (by omega)
      have e1 := hcell 1 (by omega)
      have e2 := hcell 2 (by omega)
      rw [add_add] at e0 e1 e2
      have hwi : Wt 86 (D i) := hel _ (List.mem_map.2 ⟨i, List.mem_range.2 hi, rfl⟩)
      obtain ⟨xs, k', hk, hxy, _, hxl, hf⟩ := DataW.trod_struct hu g2
      match xs, hxl, cs', hlen with
      | [y0, y1, y2], _, [v0, v1, v2], _ =>
        have f0 := hf 0 _ rfl
        have f1 := hf 1 _ rfl
        have f2 := hf 2 _ rfl
        simp [cells_int, cells_bytes, cells_pieces] at f0 f1 f2
        simp only [Prod.mk.injEq] at hxy
        have hD := hxy.1
        simp at hD
        rw [hD] at hwi
        obtain ⟨z, z0, _, hz⟩ := DataW.trod_int Try.underlying3 f0
        have hb := bounds_i64 hz
        have hw1 : Wt 30 y1.1 := hwi.agg hu (j := 1) rfl rfl
        have hw2 : Wt 84 y2.1 := hwi.agg hu (j := 2) rfl rfl
        obtain ⟨A1, n1, c1, l1, q1, r1, nc1, cm1⟩ := op_bytes f1 hw1 hsp
        obtain ⟨A2, n2, c2, l2, q2, r2, nc2, cm2, pm2⟩ := op_pieces f2 hw2 hsp
        injection z0 with z0
        injection q1 with q1
        injection q2 with q2
        have hl1 := r1.len
        have hl2 := r2.len
        subst hl1 hl2 z0 q1 q2
        exact ⟨((z, l1, l2), _, _), by simpa using e0, by simpa using e1, by simpa using e2, ⟨A1, c1, rfl, r1, nc1, by simp only [maxLen]; omega⟩, ⟨A2, c2, rfl, r2, nc2, by simp only [maxLen]; omega⟩, by dsimp only; omega, fun p hp => (pm2 p hp).2.1⟩
    let q : Nat → Ch × Value × Value := fun i => if h : i < n then Classical.choose (hone i h) else (ch0, .slice none 0 0, .slice none 0 0)
    have hq : ∀ i, i < n → W.cell? (a.add (i * 3)) = some (.int .i64 (q i).1.1) ∧ W.cell? (a.add (i * 3 + 1)) = some (q i).2.1 ∧ W.cell? (a.add (i * 3 + 2)) = some (q i).2.2 ∧ VB W (q i).2.1 (q i).1.2.1 ∧ VP W (q i).2.2 (q i).1.2.2 ∧ chIn (q i).1 := by
      intro i hi
      have := Classical.choose_spec (hone i hi)
      simp only [q, dif_pos hi]
      exact this
    refine ⟨some a, n, _, (List.range n).map fun i => (q i).1, rfl, ⟨(List.range n).map fun i => ((q i).1.1, (q i).2.1, (q i).2.2), ⟨by simp [chs_length], fun _ => ⟨a, rfl, ?_⟩⟩, by simp, ?_⟩, hl, by omega, ?_⟩
    · intro j u hu
      have hj : j < n * 3 := by
        rcases Nat.lt_or_ge j (n * 3) with h | h
        · exact h
        · rw [List.getElem?_eq_none (by rw [chs_length]; simp; omega)] at hu
          cases hu
      have hi : j / 3 < n := by omega
      have hpc := chs_at ((List.range n).map fun i => ((q i).1.1, (q i).2.1, (q i).2.2)) (j / 3) ((q (j / 3)).1.1, (q (j / 3)).2.1, (q (j / 3)).2.2) (by simp [hi])
      obtain ⟨e0, e1, e2, _⟩ := hq (j / 3) hi
      have h3 : j = j / 3 * 3 ∨ j = j / 3 * 3 + 1 ∨ j = j / 3 * 3 + 2 := by omega
      generalize j / 3 = i at *
      rcases h3 with rfl | rfl | rfl
      · rw [hpc.1] at hu
        rw [e0, ← hu]
      · rw [hpc.2.1] at hu
        rw [e1, ← hu]
      · rw [hpc.2.2] at hu
        rw [e2, ← hu]
    · intro i p r hp hr
      have hi : i < n := by
        rcases Nat.lt_or_ge i n with h | h
        · exact h
        · rw [List.getElem?_eq_none (by simp; omega)] at hp
          cases hp
      simp [hi] at hp hr
      subst hp hr
      exact ⟨rfl, (hq i hi).2.2.2.1, (hq i hi).2.2.2.2.1⟩
    · intro p hp
      obtain ⟨i, hi, rfl⟩ := List.mem_map.1 hp
      exact (hq i (List.mem_range.1 hi)).2.2.2.2.2

set_option maxRecDepth 100000 in
/-- A record. -/
theorem op_record {r : Reach} {b0 : Nat} {v : Value} {d : DataW H} {p : List MemPlace} (hv : Value.okWide Try.prog W r b0 25 v) (h : DataW.Trod enc Try.prog W base (fun _ => true) held 25 v d p) (hw : Wt 25 d) :
    ∃ (k : Nat) (tx : Int) (A : Option Addr) (n c : Nat) (l : List Ch), v = .agg #[.int .u8 (k : Int), .int .i64 tx, .slice A n c] ∧ k < 256 ∧ -9223372036854775808 ≤ tx ∧ tx ≤ 9223372036854775807 ∧ CR W A n l ∧ n ≤ c ∧ c ≤ 4398046511000 ∧ ∀ ch ∈ l, chIn ch := by
  obtain ⟨c0, c1, c2, y0, y1, y2, m, rfl, rfl, rfl, h0, h1, h2⟩ := open_agg3 Try.underlying25 (by kernel_rfl) cells_record hv h
  obtain ⟨x, e1, _, wx⟩ := DataW.trod_int Try.underlying22 h0
  obtain ⟨y, e2, _, wy⟩ := DataW.trod_int Try.underlying3 h1
  obtain ⟨A, n, c, l, e0, hl, hnc, hc, hq⟩ := op_changes h2 (hw.agg Try.underlying25 (j := 2) rfl rfl) (fun _ => rfl)
  injection e0 with e0
  injection e1 with e1
  injection e2 with e2
  subst e0 e1 e2
  have bx := bounds_u8 wx
  have by' := bounds_i64 wy
  obtain ⟨k, rfl⟩ := Int.eq_ofNat_of_zero_le bx.1
  exact ⟨k, y, A, n, c, l, rfl, by omega, by'.1, by'.2, hl, hnc, hc, hq⟩
end

end Go.Proofs.Ytlopcmmbkfjidaa

/-! RdN -/
namespace Go.Proofs.Ytlopcmmbkfjidaa
open Go.ChangeShapes Go.WideShapes Go.ChangeAt Go.RowKit Go.Deep Go.Joins

set_option maxRecDepth 100000 in
theorem rcs_at : ∀ (ps : List (Int × Int × Value)) (i : Nat) (p : Int × Int × Value), ps[i]? = some p → (rcs ps)[i * 3]? = some (.int .u8 p.1) ∧ (rcs ps)[i * 3 + 1]? = some (.int .i64 p.2.1) ∧ (rcs ps)[i * 3 + 2]? = some p.2.2
  | [], i, p, h => by simp at h
  | q :: ps, 0, p, h => by
    simp at h
    subst h
    exact ⟨rfl, rfl, rfl⟩
  | q :: ps, i + 1, p, h => by
    have h' : ps[i]? = some p := by simpa using h
    obtain ⟨h1, h2, h3⟩ := rcs_at ps i p h'
    have e : (i + 1) * 3 = i * 3 + 3 := by omega
    unfold rcs
    rw [e]
    exact ⟨h1, h2, h3⟩

/-- A slice of changes as a value. -/
def VC (w : World) (u : Value) (cs : List Ch) : Prop := ∃ A c, u = .slice A cs.length c ∧ CR w A cs.length cs ∧ cs.length ≤ c ∧ c ≤ maxLen
set_option maxRecDepth 100000 in
theorem VC.below {w w' : World} {u : Value} {cs : List Ch} (h : VC w u cs) (hb : Below w.heap.size w w') : VC w' u cs := by
  obtain ⟨A, c, e, h1, h2⟩ := h
  exact ⟨A, c, e, h1.below hb, h2⟩
/-- A row of records that can be read. -/
def RW (w : World) (A : Option Addr) (n : Nat) (rs : List Rec) : Prop :=
  ∃ us : List (Int × Int × Value), Rd w 3 A n (rcs us) ∧ us.length = rs.length ∧ ∀ (i : Nat) (p : Rec) (q : Int × Int × Value), rs[i]? = some p → us[i]? = some q → q.1 = (p.kind : Int) ∧ q.2.1 = p.tx ∧ VC w q.2.2 p.cs
section
variable {w w' : World} {A : Option Addr} {n : Nat} {rs : List Rec}
set_option maxRecDepth 100000 in
theorem RW.len (h : RW w A n rs) : rs.length = n := by
  obtain ⟨us, hr, hl, _⟩ := h
  have := hr.1
  rw [rcs_length] at this
  omega
set_option maxRecDepth 100000 in
theorem RW.below (h : RW w A n rs) (hb : Below w.heap.size w w') : RW w' A n rs := by
  obtain ⟨us, hr, hl, hv⟩ := h
  exact ⟨us, hr.below hb, hl, fun i p q hp hq => ⟨(hv i p q hp hq).1, (hv i p q hp hq).2.1, (hv i p q hp hq).2.2.below hb⟩⟩
set_option maxRecDepth 100000 in
theorem RW.none_ (w : World) (A : Option Addr) : RW w A 0 [] := ⟨[], ⟨rfl, fun h => absurd h (by omega)⟩, rfl, fun i p q h => by simp at h⟩
set_option maxRecDepth 100000 in
theorem RW.at_ (h : RW w A n rs) {i : Nat} (hi : i < n) : ∃ g o D d, A = some ⟨g, o, none⟩ ∧ w.cell? ⟨g, o + i * 3, none⟩ = some (.int .u8 ((rs.getD i rec0).kind : Int)) ∧
    w.cell? ⟨g, o + i * 3 + 1, none⟩ = some (.int .i64 (rs.getD i rec0).tx) ∧ w.cell? ⟨g, o + i * 3 + 2, none⟩ = some (.slice D (rs.getD i rec0).cs.length d) ∧
    CR w D (rs.getD i rec0).cs.length (rs.getD i rec0).cs ∧ (rs.getD i rec0).cs.length ≤ d ∧ d ≤ maxLen := by
  have hn := h.len
  obtain ⟨us, hr, hl, hv⟩ := h
  obtain ⟨g, o, e, hc⟩ := Rd.plain hr (by omega) (by omega)
  have hip : rs[i]? = some (rs.getD i rec0) := by simp [List.getD, List.getElem?_eq_getElem (show i < rs.length by omega)]
  have hiu : us[i]? = some (us[i]'(by omega)) := List.getElem?_eq_getElem (by omega)
  obtain ⟨e1, e2, ⟨D, d, e3, r', h3, h4⟩⟩ := hv i _ _ hip hiu
  obtain ⟨c1, c2, c3⟩ := rcs_at us i _ hiu
  refine ⟨g, o, D, d, e, ?_, ?_, ?_, r', h3, h4⟩
  · rw [← e1]; exact hc _ _ c1
  · rw [← e2]; exact hc _ _ c2
  · rw [← e3]; exact hc _ _ c3
end

set_option maxRecDepth 100000 in
theorem bytes_record : Try.prog.bytesOf 25 = 40 := by kernel_rfl
set_option maxRecDepth 100000 in
theorem cells_changes : Try.prog.cellsOf 23 = 1 := by kernel_rfl
set_option maxRecDepth 100000 in
theorem cells_kind : Try.prog.cellsOf 22 = 1 := by kernel_rfl
/-- What is asked of a record that came in. -/
def recIn (r : Rec) : Prop := r.kind < 256 ∧ -9223372036854775808 ≤ r.tx ∧ r.tx ≤ 9223372036854775807 ∧ r.cs.length ≤ 9223372036854775807 ∧ ∀ c ∈ r.cs, chIn c

section
variable {H : Type} {enc : TypeId × Value → H} {W : World} {base : Nat} {spare : Nat → Bool} {held : Bool}
set_option maxRecDepth 100000 in
theorem op_records {fuel : Nat} {cs : List Value} {x : DataW H × List MemPlace} (h : DataW.trod enc Try.prog W base spare held fuel 53 cs = some x) (hw : Wt 53 x.1) (hsp : ∀ k, spare k = true) :
    ∃ A n c l, cs = [.slice A n c] ∧ RW W A n l ∧ n ≤ c ∧ c ≤ 4398046511000 ∧ ∀ r ∈ l, recIn r := by
  have hu := Try.underlying25
  rcases open_slice Try.underlying53 h with ⟨rfl, rfl⟩ | ⟨a, n, c, m, k, D, Pl, rfl, _, hl, hm, hmm, rfl, he⟩
  · exact ⟨none, 0, 0, [], rfl, RW.none_ _ _, Nat.le_refl _, by omega, fun p hp => by cases hp⟩
  · rw [hsp] at hmm
    simp only [if_true] at hmm
    subst hmm
    obtain ⟨hc, hel⟩ := Wt.slice hw Try.underlying53
    rw [bytes_record] at hc
    simp only [List.length_map, List.length_range] at hc
    have hone : ∀ i, i < n → ∃ q : Rec × Value, W.cell? (a.add (i * 3)) = some (.int .u8 (q.1.kind : Int)) ∧ W.cell? (a.add (i * 3 + 1)) = some (.int .i64 q.1.tx) ∧ W.cell? (a.add (i * 3 + 2)) = some q.2 ∧ VC W q.2 q.1.cs ∧ recIn q.1 := by
      intro i hi
      obtain ⟨cs', g1, g2⟩ := he i (by omega)
      rw [cells_record] at g1
      obtain ⟨_, hlen, hcell⟩ := World.cells?_some g1
      have e0 := hcell 0 (by omega)
      have e1 := hcell 1 (by omega)
      have e2 := hcell 2 (by omega)
      rw [add_add] at e0 e1 e2
      have hwi : Wt 25 (D i) := hel _ (List.mem_map.2 ⟨i, List.mem_range.2 hi, rfl⟩)
      obtain ⟨xs, k', hk, hxy, _, hxl, hf⟩ := DataW.trod_struct hu g2
      match xs, hxl, cs', hlen with
      | [y0, y1, y2], _, [v0, v1, v2], _ =>
        have f0 := hf 0 _ rfl
        have f1 := hf 1 _ rfl
        have f2 := hf 2 _ rfl
        simp [cells_int, cells_changes, cells_kind] at f0 f1 f2
        simp only [Prod.mk.injEq] at hxy
        have hD := hxy.1
        simp at hD
        rw [hD] at hwi
        obtain ⟨z, z0, _, hz⟩ := DataW.trod_int Try.underlying22 f0
        obtain ⟨t, t0, _, ht⟩ := DataW.trod_int Try.underlying3 f1
        have hb := bounds_u8 hz
        have ht' := bounds_i64 ht
        obtain ⟨zk, rfl⟩ := Int.eq_ofNat_of_zero_le hb.1
        have hw2 : Wt 23 y2.1 := hwi.agg hu (j := 2) rfl rfl
        obtain ⟨A2, n2, c2, l2, q2, r2, nc2, cm2, pm2⟩ := op_changes f2 hw2 hsp
        injection z0 with z0
        injection t0 with t0
        injection q2 with q2
        have hl2 := r2.len
        subst hl2 z0 t0 q2
        exact ⟨(⟨zk, t, l2⟩, _), by simpa using e0, by simpa using e1, by simpa using e2, ⟨A2, c2, rfl, r2, nc2, by simp only [maxLen]; omega⟩, ⟨by dsimp only; omega, ht'.1, ht'.2, by dsimp only; omega, pm2⟩⟩
    let q : Nat → Rec × Value := fun i => if h : i < n then Classical.choose (hone i h) else (rec0, .slice none 0 0)
    have hq : ∀ i, i < n → W.cell? (a.add (i * 3)) = some (.int .u8 ((q i).1.kind : Int)) ∧ W.cell? (a.add (i * 3 + 1)) = some (.int .i64 (q i).1.tx) ∧ W.cell? (a.add (i * 3 + 2)) = some (q i).2 ∧ VC W (q i).2 (q i).1.cs ∧ recIn (q i).1 := by
      intro i hi
      have := Classical.choose_spec (hone i hi)
      simp only [q, dif_pos hi]
      exact this
    refine ⟨some a, n, _, (List.range n).map fun i => (q i).1, rfl, ⟨(List.range n).map fun i => (((q i).1.kind : Int), (q i).1.tx, (q i).2), ⟨by simp [rcs_length], fun _ => ⟨a, rfl, ?_⟩⟩, by simp, ?_⟩, hl, by omega, ?_⟩
    · intro j u hu
      have hj : j < n * 3 := by
        rcases Nat.lt_or_ge j (n * 3) with h | h
        · exact h
        · rw [List.getElem?_eq_none (by rw [rcs_length]; simp; omega)] at hu
          cases hu
      have hi : j / 3 < n := by omega
      have hpc := rcs_at ((List.range n).map fun i => (((q i).1.kind : Int), (q i).1.tx, (q i).2)) (j / 3) (((q (j / 3)).1.kind : Int), (q (j / 3)).1.tx, (q (j / 3)).2) (by simp [hi])
      obtain ⟨e0, e1, e2, _⟩ := hq (j / 3) hi
      have h3 : j = j / 3 * 3 ∨ j = j / 3 * 3 + 1 ∨ j = j / 3 * 3 + 2 := by omega
      generalize j / 3 = i at *
      rcases h3 with rfl | rfl | rfl
      · rw [hpc.1] at hu
        rw [e0, ← hu]
      · rw [hpc.2.1] at hu
        rw [e1, ← hu]
      · rw [hpc.2.2] at hu
        rw [e2, ← hu]
    · intro i p r hp hr
      have hi : i < n := by
        rcases Nat.lt_or_ge i n with h | h
        · exact h
        · rw [List.getElem?_eq_none (by simp; omega)] at hp
          cases hp
      simp [hi] at hp hr
      subst hp hr
      exact ⟨rfl, rfl, (hq i hi).2.2.2.1⟩
    · intro p hp
      obtain ⟨i, hi, rfl⟩ := List.mem_map.1 hp
      exact (hq i (List.mem_range.1 hi)).2.2.2.2
end

end Go.Proofs.Ytlopcmmbkfjidaa

/-! RdO -/
namespace Go.Proofs.Ytlopcmmbkfjidaa
open Go.RowKit

theorem rec_mem {rs : List Rec} {k : Nat} (hk : k < rs.length) : rs.getD k rec0 ∈ rs := by
  have : rs[k] = rs.getD k rec0 := by simp [List.getD, List.getElem?_eq_getElem hk]
  rw [← this]
  exact List.getElem_mem _

set_option maxRecDepth 100000 in
set_option maxHeartbeats 2000000 in
theorem SameRecords_eq (A B : Option Addr) (n c d : Nat) (rs : List Rec) (w : World) (ha : RW w A n rs) (hb : RW w B n rs) (hn : n ≤ 4398046511104) (hp : ∀ r ∈ rs, r.cs.length ≤ 9223372036854775807 ∧ ∀ c ∈ r.cs, c.2.2.length ≤ 9223372036854775807) :
    Calls Try.prog 23 #[.slice A n c, .slice B n d] w fun e w' => e = .returned (.bool true) ∧ Below w.heap.size w w' := by
  have HP := Lib.hid hp
  have PA := Lib.hid ha
  have PB := Lib.hid hb
  have HL := Lib.hid ha.len
  have t0 : ((n : Int) != (n : Int)) = false := by simp
  clear ha hb hp
  go_enter Try.func23, Try.ntmps23
  go_wp2_with fail
  go_loopw [5] (fun i wr => ∃ k : Nat, k ≤ n ∧ i = .int .i64 k ∧ Hid (Below w.heap.size w wr)) (fun i _ => n - (intOf i).toNat)
  case atStart => exact ⟨0, Nat.zero_le _, rfl, Lib.hid (gr_refl _)⟩
  case round =>
    obtain ⟨k, hk, rfl, HW⟩ := hrel
    by_cases hlt : k < n
    · have t1 : decide ((k : Int) < (n : Int)) = true := decide_eq_true (by omega)
      have t2 : decide (k < n) = true := decide_eq_true hlt
      have j0 : (0 : Int) ≤ (k : Int) := Int.natCast_nonneg _
      have j1 : (k : Int) < (n : Int) := by omega
      obtain ⟨gp, op, Dp, dp, rfl, q0, q1, q2, q3, _, _⟩ := (PA.out.below HW.out).at_ (i := k) hlt
      obtain ⟨gr, ro, Dr, dr, rfl, r0, r1, r2, r3, _, _⟩ := (PB.out.below HW.out).at_ (i := k) hlt
      have hpk := HP.out (rs.getD k rec0) (rec_mem (by rw [HL.out]; exact hlt))
      generalize rs.getD k rec0 = x at *
      obtain ⟨xk, xt, xc⟩ := x
      dsimp only at q0 q1 q2 q3 r0 r1 r2 r3 hpk
      have QC := Lib.hid (And.intro q0 (And.intro q1 q2))
      have RC := Lib.hid (And.intro r0 (And.intro r1 r2))
      have CQ := Lib.hid q3
      have CP := Lib.hid r3
      have HPK := Lib.hid hpk
      clear q0 q1 q2 q3 r0 r1 r2 r3 hpk
      go_wp2_with fail
      refine' wp_region_mono (by kernel_rfl) (by kernel_rfl) (by kernel_rfl) (by kernel_rfl) (by kernel_rfl) (by kernel_rfl)
        [MP.is (.slice (some ⟨gp, op, none⟩) n c), MP.is (.int .i64 (k : Int)), MP.is (.pointer (some ⟨gp, op + k * 3, none⟩)), MP.is (.agg #[.int .u8 (xk : Int), .int .i64 xt, .slice Dp xc.length dp]), MP.is (.slice (some ⟨gr, ro, none⟩) n d), MP.is (.int .i64 (k : Int)), MP.is (.pointer (some ⟨gr, ro + k * 3, none⟩)), MP.is (.agg #[.int .u8 (xk : Int), .int .i64 xt, .slice Dr xc.length dr]), MP.is (.bool true), MP.is (.bool false)] ?hAA ?hst ?hend
      case hAA =>
        intro f
        simp only [putA, dstOf, List.size_toArray, List.length_cons, List.length_nil, Nat.zero_add, Nat.reduceAdd, List.getElem?_toArray, List.getElem?_cons_zero, List.getElem?_cons_succ, Option.bind_some, Act.put, List.setIfInBounds_toArray, List.set_cons_zero, List.set_cons_succ]
        exact rfl
      case hst =>
        change Steps _ _ _ _ _ [0, 1, 2, 3, 4, 5, 6, 7, 8, 9]
        refine Steps.cons rfl ?_ ?_
        · intro f w hB h K Q hK
          try simp only [List.getElem_toArray, List.getElem_cons_zero]
          go_simp
          exact hK _ _ (gr_refl _) rfl
        refine Steps.cons rfl ?_ ?_
        · intro f w hB h K Q hK
          try simp only [List.getElem_toArray, List.getElem_cons_succ, List.getElem_cons_zero]
          go_simp
          exact hK _ _ (gr_refl _) rfl
        refine Steps.cons rfl ?_ ?_
        · intro f w hB h K Q hK
          have h0 : (MP.is (.slice (some ⟨gp, op, none⟩) n c)).p (f 0) w := h 0 (by kernel_rfl)
          have e0 : f 0 = (.slice (some ⟨gp, op, none⟩) n c) := h0
          have h1 : (MP.is (.int .i64 (k : Int))).p (f 1) w := h 1 (by kernel_rfl)
          have e1 : f 1 = (.int .i64 (k : Int)) := h1
          simp only [e0, e1] at hK ⊢
          clear e0 e1
          try simp only [List.getElem_toArray, List.getElem_cons_succ, List.getElem_cons_zero]
          go_simp
          exact hK _ _ (gr_refl _) rfl
        refine Steps.cons rfl ?_ ?_
        · intro f w hB h K Q hK
          have h2 : (MP.is (.pointer (some ⟨gp, op + k * 3, none⟩))).p (f 2) w := h 2 (by kernel_rfl)
          have e2 : f 2 = (.pointer (some ⟨gp, op + k * 3, none⟩)) := h2
          simp only [e2] at hK ⊢
          clear e2
          try simp only [List.getElem_toArray, List.getElem_cons_succ, List.getElem_cons_zero]
          have y0 := keep_of_below (bel_drew hB) QC.out.1
          have y1 := keep_of_below (bel_drew hB) QC.out.2.1
          have y2 := keep_of_below (bel_drew hB) QC.out.2.2
          go_simp
          exact hK _ _ (gr_refl _) rfl
        refine Steps.cons rfl ?_ ?_
        · intro f w hB h K Q hK
          try simp only [List.getElem_toArray, List.getElem_cons_succ, List.getElem_cons_zero]
          go_simp
          exact hK _ _ (gr_refl _) rfl
        refine Steps.cons rfl ?_ ?_
        · intro f w hB h K Q hK
          try simp only [List.getElem_toArray, List.getElem_cons_succ, List.getElem_cons_zero]
          go_simp
          exact hK _ _ (gr_refl _) rfl
        refine Steps.cons rfl ?_ ?_
        · intro f w hB h K Q hK
          have h4 : (MP.is (.slice (some ⟨gr, ro, none⟩) n d)).p (f 4) w := h 4 (by kernel_rfl)
          have e4 : f 4 = (.slice (some ⟨gr, ro, none⟩) n d) := h4
          have h5 : (MP.is (.int .i64 (k : Int))).p (f 5) w := h 5 (by kernel_rfl)
          have e5 : f 5 = (.int .i64 (k : Int)) := h5
          simp only [e4, e5] at hK ⊢
          clear e4 e5
          try simp only [List.getElem_toArray, List.getElem_cons_succ, List.getElem_cons_zero]
          go_simp
          exact hK _ _ (gr_refl _) rfl
        refine Steps.cons rfl ?_ ?_
        · intro f w hB h K Q hK
          have h6 : (MP.is (.pointer (some ⟨gr, ro + k * 3, none⟩))).p (f 6) w := h 6 (by kernel_rfl)
          have e6 : f 6 = (.pointer (some ⟨gr, ro + k * 3, none⟩)) := h6
          simp only [e6] at hK ⊢
          clear e6
          try simp only [List.getElem_toArray, List.getElem_cons_succ, List.getElem_cons_zero]
          have y0 := keep_of_below (bel_drew hB) RC.out.1
          have y1 := keep_of_below (bel_drew hB) RC.out.2.1
          have y2 := keep_of_below (bel_drew hB) RC.out.2.2
          go_simp
          exact hK _ _ (gr_refl _) rfl
        refine Steps.cons rfl ?_ ?_
        · intro f w hB h K Q hK
          have h3 : (MP.is (.agg #[.int .u8 (xk : Int), .int .i64 xt, .slice Dp xc.length dp])).p (f 3) w := h 3 (by kernel_rfl)
          have e3 : f 3 = (.agg #[.int .u8 (xk : Int), .int .i64 xt, .slice Dp xc.length dp]) := h3
          have h7 : (MP.is (.agg #[.int .u8 (xk : Int), .int .i64 xt, .slice Dr xc.length dr])).p (f 7) w := h 7 (by kernel_rfl)
          have e7 : f 7 = (.agg #[.int .u8 (xk : Int), .int .i64 xt, .slice Dr xc.length dr]) := h7
          simp only [e3, e7] at hK ⊢
          clear e3 e7
          try simp only [List.getElem_toArray, List.getElem_cons_succ, List.getElem_cons_zero]
          go_simp
          refine (SameRecord_any xk xk xt xt Dp Dr _ _ dp dr xc xc _ (CQ.out.below (bel_drew hB)) (CP.out.below (bel_drew hB)) HPK.out.1 HPK.out.1 HPK.out.2 HPK.out.2).mono ?_
          rw [show decide ((xk : Int) = (xk : Int) ∧ xt = xt ∧ xc = xc) = true from decide_eq_true ⟨rfl, rfl, rfl⟩]
          rintro e w1 ⟨rfl, hb1⟩
          exact hK _ _ hb1 rfl
        refine Steps.cons rfl ?_ ?_
        · intro f w hB h K Q hK
          have h8 : (MP.is (.bool true)).p (f 8) w := h 8 (by kernel_rfl)
          have e8 : f 8 = (.bool true) := h8
          simp only [e8] at hK ⊢
          clear e8
          try simp only [List.getElem_toArray, List.getElem_cons_succ, List.getElem_cons_zero]
          go_simp
          exact hK _ _ (gr_refl _) rfl
        exact Steps.nil
      case hend =>
        intro f w2 hB2 hR
        have HW2 := Lib.hid (gr_trans HW.out (bel_drew hB2))
        have e0 : f 0 = (.slice (some ⟨gp, op, none⟩) n c) := hR 0 (by decide)
        have e1 : f 1 = (.int .i64 (k : Int)) := hR 1 (by decide)
        have e2 : f 2 = (.pointer (some ⟨gp, op + k * 3, none⟩)) := hR 2 (by decide)
        have e3 : f 3 = (.agg #[.int .u8 (xk : Int), .int .i64 xt, .slice Dp xc.length dp]) := hR 3 (by decide)
        have e4 : f 4 = (.slice (some ⟨gr, ro, none⟩) n d) := hR 4 (by decide)
        have e5 : f 5 = (.int .i64 (k : Int)) := hR 5 (by decide)
        have e6 : f 6 = (.pointer (some ⟨gr, ro + k * 3, none⟩)) := hR 6 (by decide)
        have e7 : f 7 = (.agg #[.int .u8 (xk : Int), .int .i64 xt, .slice Dr xc.length dr]) := hR 7 (by decide)
        have e8 : f 8 = (.bool true) := hR 8 (by decide)
        have e9 : f 9 = (.bool false) := hR 9 (by decide)
        simp only [e0, e1, e2, e3, e4, e5, e6, e7, e8, e9]
        clear e0 e1 e2 e3 e4 e5 e6 e7 e8 e9 hR
        go_wp2_with fail
        go_roundw
        all_goals have hlt := of_decide_eq_true t2
        case rel => exact ⟨k + 1, by omega, by go_num, HW2⟩
        case measure => simp [intOf]; omega
    · have t1 : decide ((k : Int) < (n : Int)) = false := decide_eq_false (by omega)
      have t2 : decide (k < n) = false := decide_eq_false hlt
      go_wp2
      go_ret
      exact ⟨rfl, HW.out⟩

end Go.Proofs.Ytlopcmmbkfjidaa

/-! RdP -/
namespace Go.Proofs.Ytlopcmmbkfjidaa
open Go.RowKit

def joinE : List Rec → List UInt8
  | [] => []
  | r :: rs => encR r ++ joinE rs
theorem joinE_snoc (rs : List Rec) (r : Rec) : joinE (rs ++ [r]) = joinE rs ++ encR r := by
  induction rs with
  | nil => simp [joinE]
  | cons q rs ih => simp only [List.cons_append, joinE, ih, List.append_assoc]
theorem allF_join : ∀ (rs : List Rec) (f : Nat) (acc : List Rec) (rest : List UInt8), (∀ r ∈ rs, r.right = true) → allF (f + rs.length) acc (joinE rs ++ rest) = allF f (acc ++ rs) rest
  | [], f, acc, rest, _ => by simp [joinE]
  | r :: rs, f, acc, rest, h => by
    have hr := h r (List.mem_cons_self ..)
    obtain ⟨d1, d2, d3⟩ := dec_back hr (joinE rs ++ rest)
    have hne : encR r ++ (joinE rs ++ rest) ≠ [] := fun e => by
      have := congrArg List.length e
      rw [List.length_append, encR_len] at this
      simp at this
    have e : f + (r :: rs).length = (f + rs.length) + 1 := by simp; omega
    rw [e]
    rw [show joinE (r :: rs) ++ rest = encR r ++ (joinE rs ++ rest) from List.append_assoc _ _ _]
    rw [show allF ((f + rs.length) + 1) acc (encR r ++ (joinE rs ++ rest)) = if encR r ++ (joinE rs ++ rest) = [] then (acc, 0) else if decE (encR r ++ (joinE rs ++ rest)) ≠ 0 then ([], decE (encR r ++ (joinE rs ++ rest))) else allF (f + rs.length) (acc ++ [decR (encR r ++ (joinE rs ++ rest))]) ((encR r ++ (joinE rs ++ rest)).drop (decN (encR r ++ (joinE rs ++ rest)))) from rfl]
    rw [if_neg hne, d1, if_neg (by simp), d2, d3, List.drop_left' rfl, allF_join rs f (acc ++ [r]) rest (fun q hq => h q (List.mem_cons_of_mem _ hq))]
    simp

end Go.Proofs.Ytlopcmmbkfjidaa
