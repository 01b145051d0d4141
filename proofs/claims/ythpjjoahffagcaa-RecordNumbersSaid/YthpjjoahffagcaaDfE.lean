/-
  chancerylow.SamePieces, chancerylow.CopyPieces.
-/
import Derived.Test.YthpjjoahffagcaaDfD
namespace Go.Proofs.Ythpjjoahffagcaa
open Go.RowKit

theorem sameB_own (x y : Value) (l : List UInt8) (w : World) {b1 b2 : Nat} (h1 : OB w b1 x l) (h2 : OB w b2 y l) :
    Calls Try.prog 30 #[x, y] w fun e w' => e = .returned (.bool true) ∧ w = w' := by
  obtain ⟨A, c, rfl, r1, _, _⟩ := h1.form
  obtain ⟨B, d, rfl, r2, _, _⟩ := h2.form
  refine (SameBytes_any A B _ _ c d l l w r1 r2).mono ?_
  rintro e w' ⟨rfl, rfl⟩
  exact ⟨by simp, rfl⟩

theorem pc_getD {ps : List Pc} {k : Nat} (hk : k < ps.length) : ps[k] = ps.getD k (0, []) := by simp [List.getD, List.getElem?_eq_getElem hk]

/-- As far as k the two are the same; one place further. -/
theorem same_pre {ps qs : List Pc} {k : Nat} (h1 : k < ps.length) (h2 : k < qs.length) (h : ps.take k = qs.take k) : ps.take (k + 1) = qs.take (k + 1) ↔ ps.getD k (0, []) = qs.getD k (0, []) := by
  rw [List.take_succ_eq_append_getElem h1, List.take_succ_eq_append_getElem h2, h, pc_getD h1, pc_getD h2]
  constructor
  · intro e
    have := List.append_cancel_left e
    injection this
  · intro e; rw [e]

/-- Are two lists of pieces the same? -/
def samePcs (ps qs : List Pc) : Bool := decide (ps = qs)

theorem ret_b {a b : Bool} (h : a = b) : Ending.returned (.bool a) = .returned (.bool b) := by rw [h]

theorem same_not {ps qs : List Pc} {k : Nat} (_ : k < ps.length) (_ : k < qs.length) (_ : ps.take k = qs.take k) (h : ¬ ps.take (k + 1) = qs.take (k + 1)) : samePcs ps qs = false := by
  unfold samePcs
  rw [decide_eq_false_iff_not]
  rintro rfl
  exact h rfl

set_option maxRecDepth 100000 in
set_option maxHeartbeats 1000000 in
theorem SamePieces_any (A B : Option Addr) (n m c d : Nat) (ps qs : List Pc) (w : World) (ha : PR w A n ps) (hb : PR w B m qs) (hn : n ≤ 9223372036854775807) (hm : m ≤ 9223372036854775807) :
    Calls Try.prog 43 #[.slice A n c, .slice B m d] w fun r w' => r = .returned (.bool (samePcs ps qs)) ∧ ∃ k, w' = w.drewN k := by
  have HA := Lib.hid ha.len
  have HB := Lib.hid hb.len
  by_cases hnm : n = m
  · subst hnm
    go_enter Try.func43, Try.ntmps43
    go_wp2_with fail
    go_loopw [5] (fun i wr => ∃ (k q : Nat), k ≤ n ∧ i = .int .i64 k ∧ Hid (ps.take k = qs.take k) ∧ Hid (wr = w.drewN q)) (fun i _ => n - (intOf i).toNat)
    case atStart => exact ⟨0, 0, Nat.zero_le _, rfl, Lib.hid rfl, Lib.hid rfl⟩
    case round =>
      obtain ⟨k, q, hk, rfl, HT, HW⟩ := hrel
      by_cases hlt : k < n
      · have ha' : PR wr A n ps := by rw [HW.out]; exact ha
        have hb' : PR wr B n qs := by rw [HW.out]; exact hb
        obtain ⟨gp, op, Bp, cp, rfl, q1, q2, q3, q4, q5⟩ := ha'.at_ (i := k) hlt
        obtain ⟨gr, or, Br, cr, rfl, r1, r2, r3, r4, r5⟩ := hb'.at_ (i := k) hlt
        have HP := Lib.hid (same_pre (by rw [HA.out]; exact hlt) (by rw [HB.out]; exact hlt) HT.out)
        obtain ⟨⟨pa, pb⟩, HE1⟩ : ∃ p, p = ps.getD k (0, []) := ⟨_, rfl⟩
        obtain ⟨⟨ra, rb⟩, HE2⟩ : ∃ p, p = qs.getD k (0, []) := ⟨_, rfl⟩
        rw [← HE1] at q1 q2 q3 q4 HP
        rw [← HE2] at r1 r2 r3 r4 HP
        clear HE1 HE2
        dsimp only at q1 q2 q3 q4 r1 r2 r3 r4
        generalize hpl : pb.length = pn at *
        generalize hrl : rb.length = rn at *
        clear hpl hrl ha' hb'
        by_cases h1 : pa = ra
        · subst h1
          by_cases h2 : pb = rb
          · have t2 : (pb == rb) = true := by simpa using h2
            go_wp2_with fail
            go_quiet ((go_at_call 30; exact Calls.quiet_of_same ((SameBytes_any Bp Br pn rn cp cr pb rb _ (q3.drewN _) (r3.drewN _)).mono (fun _ _ h => ⟨h.1, h.2.symm⟩))))
            go_wp2_with fail
            go_roundw
            case rel => exact ⟨k + 1, q + nq, by omega, by go_num, Lib.hid (HP.out.2 (by rw [h2])), Lib.hid (by rw [HW.out, World.drewN_drewN])⟩
            case measure => simp [intOf]; omega
          · have t2 : (pb == rb) = false := by simpa using h2
            go_wp2_with fail
            go_quiet ((go_at_call 30; exact Calls.quiet_of_same ((SameBytes_any Bp Br pn rn cp cr pb rb _ (q3.drewN _) (r3.drewN _)).mono (fun _ _ h => ⟨h.1, h.2.symm⟩))))
            go_wp2_with fail
            go_ret
            exact ⟨ret_b (same_not (by rw [HA.out]; exact hlt) (by rw [HB.out]; exact hlt) HT.out (fun h => h2 (congrArg Prod.snd (HP.out.1 h)))).symm, q + nq, by rw [HW.out, World.drewN_drewN]⟩
        · have t1 : (pa != ra) = true := by simpa using h1
          go_wp2_with fail
          go_quiet (fail)
          go_wp2_with fail
          go_ret
          exact ⟨ret_b (same_not (by rw [HA.out]; exact hlt) (by rw [HB.out]; exact hlt) HT.out (fun h => h1 (congrArg Prod.fst (HP.out.1 h)))).symm, q + nq, by rw [HW.out, World.drewN_drewN]⟩
      · obtain rfl : k = n := by omega
        go_wp2_with fail
        go_ret
        refine ⟨?_, q, HW.out⟩
        have h := HT.out
        rw [List.take_of_length_le (Nat.le_of_eq HA.out), List.take_of_length_le (Nat.le_of_eq HB.out)] at h
        unfold samePcs
        rw [h]
        simp
  · have hne : ((n : Int) != (m : Int)) = true := by rw [bne_iff_ne]; omega
    have hne' : (n != m) = true := by rw [bne_iff_ne]; omega
    go_enter Try.func43, Try.ntmps43
    go_wp2_with fail
    go_ret
    refine ⟨?_, 0, rfl⟩
    have : samePcs ps qs = false := by
      unfold samePcs
      rw [decide_eq_false_iff_not]
      rintro rfl
      exact hnm (HA.out.symm.trans HB.out)
    rw [this]
    rfl

/-- A piece whose bytes lie in a block of its own joins a row of pieces. -/
theorem OP.snoc {w3 w4 : World} {base k B3 : Nat} {v v4 u : Value} {ps : List Pc} {a : Int} {l : List UInt8} {us : List (Int × Value)} {w : World} {o : Obj}
    (hrow : w.ownsRow base 29 2 v k (pcs us)) (hk : ps.length = k) (hul : us.length = ps.length) (huv : ∀ (i : Nat) (p : Pc) (q : Int × Value), ps[i]? = some p → us[i]? = some q → q.1 = p.1 ∧ OB w base q.2 p.2)
    (hdis : us.Pairwise (fun q r => ∀ k, q.2.ownBlock = some k → r.2.ownBlock ≠ some k)) (hb3 : Below w.heap.size w w3) (ho3 : OB w3 B3 u l) (hB3 : w.heap.size ≤ B3) (hbase : base ≤ B3)
    (hown4 : w4.ownsRow base 29 2 v4 (k + 1) (pcs us ++ [.int .i64 a, u])) (hg4 : (w3.alloc o).grownBy w4 v.ownBlock) : OP w4 base v4 (ps ++ [(a, l)]) := by
  have h3row : (w3.alloc o).ownsRow base 29 2 v k (pcs us) := (CK.own (CK.of_below hb3) hrow).alloc _
  have T4 : CT w3 w4 := (CT.alloc o).trans (CT.of_row h3row hg4)
  have T5 : CT w w4 := (CT.of_below hb3).trans T4
  refine ⟨us ++ [(a, u)], ?_, ?_, ?_, ?_⟩
  · rw [pcs_append, List.length_append, hk]
    exact hown4
  · rw [List.length_append, List.length_append, hul]; rfl
  · intro i p q hp hq
    rcases Nat.lt_or_ge i ps.length with hi | hi
    · rw [List.getElem?_append_left hi] at hp
      rw [List.getElem?_append_left (by omega)] at hq
      exact ⟨(huv i p q hp hq).1, T5.ob (huv i p q hp hq).2⟩
    · rw [List.getElem?_append_right hi] at hp
      rw [List.getElem?_append_right (by omega), hul] at hq
      rcases Nat.eq_zero_or_pos (i - ps.length) with h0 | h0
      · rw [h0] at hp hq
        simp only [List.getElem?_cons_zero, Option.some.injEq] at hp hq
        subst hp hq
        exact ⟨rfl, T4.ob (OB.lower ho3 hbase)⟩
      · rw [List.getElem?_eq_none (by simp; omega)] at hp
        cases hp
  · rw [List.pairwise_append]
    refine ⟨hdis, List.pairwise_singleton _ _, ?_⟩
    intro q hq r hr k hk hk'
    rw [List.mem_singleton] at hr
    subst hr
    obtain ⟨j, hj, hjq⟩ := List.getElem_of_mem hq
    have h1 := (huv j _ q (List.getElem?_eq_getElem (show j < ps.length by omega)) (by rw [List.getElem?_eq_getElem hj, hjq])).2
    have h2 := (h1.lt k hk).2
    have h3 := (ho3.lt k hk').1
    omega

theorem pcs_take_succ {ps : List Pc} {k : Nat} (hk : k < ps.length) : ps.take (k + 1) = ps.take k ++ [ps.getD k (0, [])] := by
  rw [List.take_succ_eq_append_getElem hk, pc_getD hk]

set_option maxRecDepth 100000 in
set_option maxHeartbeats 2000000 in
theorem CopyPieces_any (B : Option Addr) (n d : Nat) (ps : List Pc) (w : World) (hp : PR w B n ps) (hn : n ≤ 4398046511104) (hpl : ∀ p ∈ ps, p.2.length ≤ 211106232532992) :
    Calls Try.prog 48 #[.slice B n d] w fun r w' => ∃ v, r = .returned v ∧ OP w' w.heap.size v ps ∧ Below w.heap.size w w' := by
  obtain ⟨i1, hi1, hy0, hy1, hy2⟩ := info_parts info_piece
  have HPN := Lib.hid hp.len
  have HPL := Lib.hid hpl
  clear hpl
  go_enter Try.func48, Try.ntmps48
  go_wp2_with fail
  go_loopw [3, 4] (fun v i wr => ∃ k : Nat, k ≤ n ∧ i = .int .i64 k ∧ OP wr w.heap.size v (ps.take k) ∧ Below w.heap.size w wr) (fun _ i _ => n - (intOf i).toNat)
  case atStart => exact ⟨0, Nat.zero_le _, rfl, OP.nil _ _, gr_refl w⟩
  case round =>
    obtain ⟨k, hk, rfl, ho, hb⟩ := hrel
    by_cases hlt : k < n
    · obtain ⟨gp, op, Bp, cp, rfl, q1, q2, q3, q4, q5⟩ := hp.at_ (i := k) hlt
      have hmem : ps.getD k (0, []) ∈ ps := by
        have : k < ps.length := by rw [HPN.out]; exact hlt
        rw [← pc_getD this]
        exact List.getElem_mem _
      have hub := HPL.out _ hmem
      have HT := Lib.hid (pcs_take_succ (ps := ps) (k := k) (by rw [HPN.out]; exact hlt))
      obtain ⟨us, hrow, hul, huv, hdis⟩ := ho
      have hkl : (ps.take k).length = k := by rw [List.length_take, HPN.out]; omega
      rw [hkl] at hrow
      obtain ⟨Av, cv, rfl, _, _⟩ := own_form hrow
      obtain ⟨⟨pa, pb⟩, HE1⟩ : ∃ p, p = ps.getD k (0, []) := ⟨_, rfl⟩
      rw [← HE1] at q1 q2 q3 q4 HT hub
      clear HE1 hmem
      dsimp only at q1 q2 q3 q4 hub
      obtain ⟨pn, hpn⟩ : ∃ pn, pn = pb.length := ⟨_, rfl⟩
      rw [← hpn] at q2 q3 q4 hub
      have HPB := Lib.hid hpn.symm
      clear hpn
      have hK : ∀ W, Below w.heap.size w W → W.cell? ⟨gp, op + k * 2, none⟩ = some (.int .i64 pa) ∧ W.cell? ⟨gp, op + k * 2 + 1, none⟩ = some (.slice Bp pn cp) :=
        fun W h => ⟨keep_of_below h q1, keep_of_below h q2⟩
      have HK := Lib.hid hK
      have HROW := Lib.hid hrow
      have HSN := Lib.hid (fun w3 w4 u v4 o ho3 hb3 hown4 hg4 => OP.snoc (w3 := w3) (w4 := w4) (u := u) (v4 := v4) (o := o) (a := pa) (l := pb) hrow hkl hul huv hdis hb3 ho3 (Nat.le_refl _) hb.size hown4 hg4)
      clear hK hul huv hdis hkl hrow
      have CB := Lib.hid (CopyBytes_any Bp pn cp pb wr.drew (q3.below (gr_drewN hb 1)) hub)
      have hi0' : (0 : Int) ≤ (k : Int) := Int.natCast_nonneg _
      have hi1' : (k : Int) < (n : Int) := by omega
      have hone : ∀ (u : Value), u.oneCell' = true → ∀ u' ∈ [Value.int .i64 pa, u], u'.oneCell' = true := by
        intro u hu u' hu'
        simp only [List.mem_cons, List.not_mem_nil, or_false] at hu'
        rcases hu' with rfl | rfl
        · rfl
        · exact hu
      have HONE := Lib.hid hone
      clear hone
      have hmx : k + 1 ≤ maxLen := by simp only [maxLen]; omega
      go_wp2_with fail
      have hS0 := HK.out _ hb
      go_region_held3 (fun W => W.cell? ⟨gp, op + k * 2, none⟩ = some (.int .i64 pa) ∧ W.cell? ⟨gp, op + k * 2 + 1, none⟩ = some (.slice Bp pn cp))
        (first | go_keep | exact HK.out _ hb5 | exact HK.out _ hb4 | exact HK.out _ hb3)
        (first
          | (go_at_call 31; refine CB.out.mono ?_; rintro r w3 ⟨v3, rfl, ho3, hbb⟩; have hbw : Below wr.heap.size wr w3 := ⟨hbb.os, hbb.tape, hbb.output, hbb.size, hbb.block⟩; have hb3 : Below w.heap.size w w3 := gr_trans hb (w := wr) hbw; have HR3 := Lib.hid (CK.own (CK.of_below (w := wr) hbw) HROW.out); obtain ⟨A3, c3, rfl, r3, hc3, hm3⟩ := ho3.formN (n := pn) HPB.out)
          | (refine step_append_Rd _ rfl _ _ _ rfl w.heap.size 29 i1 _ 2 32 Try.underlying22 hi1 hy0 hy1 hy2 rfl (.slice Av k cv) k (pcs us) rfl (HR3.out.alloc _) (some ⟨w3.heap.size, 0, none⟩) 1 1 [.int .i64 pa, .slice A3 pn c3] rfl (rd_two _ _ _ _) (HONE.out _ rfl) (by omega) hmx (gr_alloc hb3 _).size ?_; intro v4 w4 hown4 hg4 _ _; have hb5 : Below w.heap.size w w4 := gr_own (gr_alloc hb3 _) (HR3.out.alloc _) hg4))
      go_wp2_with fail
      go_roundw
      case rel => exact ⟨k + 1, by omega, by go_num, by rw [HT.out]; exact HSN.out w3 w4 _ v4 _ ho3 hbw hown4 hg4, hb5⟩
      case measure => simp [intOf]; omega
    · obtain rfl : k = n := by omega
      go_wp2_with fail
      go_ret
      rw [List.take_of_length_le (Nat.le_of_eq HPN.out)] at ho
      exact ⟨_, rfl, ho, hb⟩

section
variable {w : World} {base g n cap : Nat} {l : List UInt8}
theorem OB.cur (h : OB w base (.slice (some ⟨g, 0, none⟩) n cap) l) (hn : l.length = n) : ∃ cur : Array Value, w.heap[g]? = some (.cells cur 5 (0, 0)) ∧ base ≤ g ∧ n ≤ cap ∧ cap ≤ maxLen ∧ cur.size = cap ∧ cur.toList.take n = l.map bv := by
  rcases h.2 with ⟨e, _⟩ | ⟨g', cap', cur, e, hb, hg, hnc, hm, hcu, ht⟩
  · cases e
  · injection e with e1 e2 e3
    injection e1 with e1
    injection e1 with e1
    subst e1 e3
    exact ⟨cur, hg, hb, by omega, hm, by simpa using hcu, by rw [← ht, hn]; simp⟩
theorem OB.cell (h : OB w base (.slice (some ⟨g, 0, none⟩) n cap) l) (hn : l.length = n) {j : Nat} (hj : j < n) : w.cell? ⟨g, j, none⟩ = some (.int .u8 ((l.getD j 0).toNat : Int)) := by
  obtain ⟨cur, hg, _, _, _, hz, ht⟩ := h.cur hn
  rw [cell_of_row w g j _ _ _ hg]
  have : cur.toList[j]? = (l.map bv)[j]? := by rw [← ht, List.getElem?_take, if_pos hj]
  rw [Array.getElem?_toList] at this
  rw [this, List.getElem?_map, List.getElem?_eq_getElem (by omega)]
  simp [bv, List.getD, List.getElem?_eq_getElem (show j < l.length by omega)]
theorem OB.frozen (h : OB w base (.slice (some ⟨g, 0, none⟩) n cap) l) (hn : l.length = n) (j : Nat) : w.frozen? ⟨g, j, none⟩ = false := by
  obtain ⟨cur, hg, _, _, _, hz, ht⟩ := h.cur hn
  simp [World.frozen?, hg]
theorem OB.setCell (h : OB w base (.slice (some ⟨g, 0, none⟩) n cap) l) (hn : l.length = n) (j : Nat) (x : UInt8) (_hj : j < n) : OB (w.setCell ⟨g, j, none⟩ (bv x)) base (.slice (some ⟨g, 0, none⟩) n cap) (l.set j x) := by
  obtain ⟨cur, hg, hb, hnc, hm, hz, ht⟩ := h.cur hn
  refine ⟨by simp, .inr ⟨g, cap, cur.setIfInBounds j (bv x), ?_, hb, ?_, ?_, hm, ?_, ?_⟩⟩
  · rw [List.length_set, hn]
  · simp only [World.setCell, Array.getElem?_modify, if_pos, hg]
    simp
  · rw [List.length_set]; omega
  · simp [hz]
  · rw [List.length_set, hn, Nat.mul_one, Array.toList_setIfInBounds, List.take_set, ht, List.map_set]
theorem OB.setInt (h : OB w base (.slice (some ⟨g, 0, none⟩) n cap) l) (hn : l.length = n) (j : Nat) (x : UInt8) (hj : j < n) (v : Int) (hv : v = (x.toNat : Int)) : OB (w.setCell ⟨g, j, none⟩ (.int .u8 v)) base (.slice (some ⟨g, 0, none⟩) n cap) (l.set j x) := by
  subst hv
  exact h.setCell hn j x hj
theorem OB.ge (h : OB w base (.slice (some ⟨g, 0, none⟩) n cap) l) (hn : l.length = n) : base ≤ g := by
  obtain ⟨cur, hg, hb, _⟩ := h.cur hn
  exact hb
end

end Go.Proofs.Ythpjjoahffagcaa
