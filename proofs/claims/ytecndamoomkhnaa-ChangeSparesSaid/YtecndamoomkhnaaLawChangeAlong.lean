/-
  The law ChangeAlong, walked.
-/
import Derived.Test.YtecndamoomkhnaaDfI
namespace Go.Proofs.Ytecndamoomkhnaa
open Go.RowKit

theorem OB.br {w : World} {base n cap : Nat} {A : Option Addr} {l : List UInt8} (h : OB w base (.slice A n cap) l) (hn : l.length = n) : BR w A n l := by
  obtain ⟨A', c', e, hr, _, _⟩ := h.formN hn
  injection e with e1 e2 e3
  subst e1
  exact hr

/-- A row of pieces of the call's own, and pieces behind it, in one row: it reads as both. -/
theorem PR.joined {w0 w3 w4 : World} {k m : Nat} {B : Option Addr} {v v4 : Value} {ps qs : List Pc} {us us' : List (Int × Value)} (hrow : w3.ownsRow w0.heap.size 40 2 v k (pcs us)) (hk : ps.length = k) (hul : us.length = ps.length)
    (huv : ∀ (i : Nat) (p : Pc) (q : Int × Value), ps[i]? = some p → us[i]? = some q → q.1 = p.1 ∧ OB w3 w0.heap.size q.2 p.2) (_hrd : Rd w0 2 B m (pcs us')) (hul' : us'.length = qs.length) (_hm : qs.length = m)
    (huv' : ∀ (i : Nat) (p : Pc) (q : Int × Value), qs[i]? = some p → us'[i]? = some q → q.1 = p.1 ∧ VB w0 q.2 p.2)
    (hown4 : w4.ownsRow w0.heap.size 40 2 v4 (k + m) (pcs us ++ pcs us')) (hg4 : w3.grownBy w4 v.ownBlock) (hb : Below w0.heap.size w0 w4) :
    ∃ A c, v4 = .slice A (k + m) c ∧ PR w4 A (k + m) (ps ++ qs) := by
  have hT := CT.of_row hrow hg4
  obtain ⟨A, c, rfl, _, _⟩ := own_form hown4
  refine ⟨A, c, rfl, us ++ us', ?_, by simp [hul, hul'], ?_⟩
  · rw [pcs_append]
    refine ⟨hown4.1, fun h0 => ?_⟩
    rcases hown4.2 with ⟨e, _⟩ | ⟨g, cap, cur, e, _⟩
    · injection e with e1 e2; omega
    · injection e with e1 e2 e3
      subst e1 e3
      exact ⟨_, rfl, hown4.cells (g := g) rfl⟩
  · intro i p q hp hq
    rcases Nat.lt_or_ge i ps.length with hi | hi
    · rw [List.getElem?_append_left hi] at hp
      rw [List.getElem?_append_left (by omega)] at hq
      exact ⟨(huv i p q hp hq).1, (hT.ob (huv i p q hp hq).2).vb⟩
    · rw [List.getElem?_append_right hi] at hp
      rw [List.getElem?_append_right (by omega), hul] at hq
      exact ⟨(huv' _ p q hp hq).1, (huv' _ p q hp hq).2.below hb⟩

theorem diffL_small (a b : List UInt8) (hb : b.length = 4080) : (diffL a b).length ≤ 4080 ∧ ∀ p ∈ diffL a b, 0 ≤ p.1 ∧ p.1 ≤ 4080 ∧ p.2.length ≤ 4080 := by
  refine ⟨by rw [diffL_dfo]; exact dfoP_len _ _ _, fun p hp => ?_⟩
  obtain ⟨j, hj, rfl⟩ := List.getElem_of_mem hp
  obtain ⟨⟨h1, h2, h3⟩, _⟩ := good_diff (a := a) hb j hj
  rw [← pc_getD hj] at h1 h2 h3
  omega

set_option maxRecDepth 100000 in
set_option maxHeartbeats 4000000 in
theorem ChangeAlong_walk (seed : Int) (A B : Option Addr) (n c m d : Nat) (ts us0 : List Int) (w : World) (ht : IR w A n ts) (hu : IR w B m us0) (hn : n ≤ 9223372036854775807) (_hm : m ≤ 9223372036854775807) :
    Calls Try.prog 8 #[.int .i64 seed, .slice A n c, .slice B m d] w fun e w' => e = .returned (.bool true) ∧ Below w.heap.size w w' := by
  obtain ⟨i1, hi1, hy0, hy1, hy2⟩ := info_parts info_piece
  go_enter Try.func8, Try.ntmps8
  go_wp2_with fail
  refine (pages_any seed A n c ts w ht hn).mono ?_
  rintro e w1 ⟨g, h, cap, a, b, rfl, hP, hb1⟩
  have HA := Lib.hid hP.la
  have HB := Lib.hid hP.lb
  have oa1 := hP.oa
  have ob1 := hP.ob
  obtain ⟨Ab, cb, eb, rb1, _, _⟩ := ob1.formN hP.lb
  injection eb with e1 e2 e3
  subst e1 e3
  have ra1 := (hP.oa.formN hP.la)
  obtain ⟨Aa, ca, ea, ra1, _, _⟩ := ra1
  injection ea with e1 e2 e3
  subst e1 e3
  go_wp2_with fail
  refine (CopyBytes_any _ 4080 cap b w1 rb1 (by omega)).mono ?_
  rintro e w2 ⟨v2, rfl, oc2, hb2⟩
  obtain ⟨gc, capc, rfl, hcc1, hcc2, hgc⟩ := ob_some oc2 HB.out (by omega)
  have hbw := gr_trans hb1 hb2
  have hcap1 := hP.cap1
  have ra2 := ra1.below hb2
  have rb2 := rb1.below hb2
  have oa2 := oa1.below hb2
  have hgc' : w.heap.size ≤ gc := Nat.le_trans hb1.size hgc
  have hga : gc ≠ g := by
    have := (oa1.lt g rfl).2
    omega
  have hgb : gc ≠ h := by
    have := (ob1.lt h rfl).2
    omega
  clear oa1 ob1 ra1 rb1 hb1 hP
  have hP : 4080 ≤ cap := hcap1
  go_wp2_with fail
  go_loopw [10, 11] (fun i _x wr => ∃ (k : Nat) (cc : List UInt8), k ≤ m ∧ k ≤ 200 ∧ i = .int .i64 k ∧ OB wr w1.heap.size (.slice (some ⟨gc, 0, none⟩) 4080 capc) cc ∧ Hid (cc.length = 4080) ∧ BR wr (some ⟨g, 0, none⟩) 4080 a ∧ BR wr (some ⟨h, 0, none⟩) 4080 b ∧ OB wr w.heap.size (.slice (some ⟨g, 0, none⟩) 4080 4080) a ∧ Below w.heap.size w wr) (fun i _ _ => m - (intOf i).toNat)
  case atStart => exact ⟨0, b, Nat.zero_le _, Nat.zero_le _, rfl, oc2, HB, ra2, rb2, oa2, hbw⟩
  case round =>
    obtain ⟨k, cc, hk, hk2, rfl, oc, HC, ra, rb, oa, hb⟩ := hrel
    clear oc2 ra2 rb2 oa2 hbw hb2
    by_cases hlt : k < m
    · have t1 : decide ((k : Int) < (m : Int)) = true := by simp; omega
      have t1' : decide (k < m) = true := by simp; omega
      by_cases h2 : k < 200
      · have t2 : decide ((k : Int) < 200) = true := by simp; omega
        obtain ⟨gu, ou, rfl, c1⟩ := (hu.below hb).at_ (k := k) hlt
        generalize us0.getD k 0 = z at *
        go_wp2_with fail
        refine (Pick_any z 1000003 _ (by omega) (by omega)).mono ?_
        rintro e w' ⟨rfl, rfl⟩
        have p1 := Int.emod_nonneg z (show (1000003 : Int) ≠ 0 by decide)
        have p2 := Int.emod_lt_of_pos z (show (0 : Int) < 1000003 by decide)
        generalize z % 1000003 = x at *
        obtain ⟨x, rfl⟩ := Int.eq_ofNat_of_zero_le p1
        have p3 : x / 4080 < 256 := by omega
        have p4 : x % 4080 < 4080 := Nat.mod_lt _ (by omega)
        have q1 := oc.cell HC.out (j := x % 4080) p4
        have q2 := oc.frozen HC.out (x % 4080)
        have oc' := oc.setInt HC.out (x % 4080) (UInt8.ofNat (x / 4080)) p4 ((x : Int) / 4080) (by rw [UInt8.toNat_ofNat']; omega)
        have HC' := Lib.hid (show (cc.set (x % 4080) (UInt8.ofNat (x / 4080))).length = 4080 by rw [List.length_set]; exact HC.out)
        have oa' := oa.other (k := gc) (j := x % 4080) (.int .u8 ((x : Int) / 4080)) hga.symm
        have hset : ∀ {q : Nat} {l : List UInt8}, q ≠ gc → BR wr (some ⟨q, 0, none⟩) 4080 l → BR (wr.setCell ⟨gc, x % 4080, none⟩ (.int .u8 ((x : Int) / 4080))) (some ⟨q, 0, none⟩) 4080 l := by
          intro q l hq hr
          refine ⟨hr.1, fun h0 => ?_⟩
          obtain ⟨ad, e, hcell⟩ := hr.2 h0
          refine ⟨ad, e, fun j u hu => ?_⟩
          injection e with e
          subst e
          rw [← hcell j u hu]
          exact World.cell?_of_block (Below.heap_setCell _ _ _ _ (by rw [block_of_add]; exact hq))
        have ra' := hset (Ne.symm hga) ra
        have rb' := hset (Ne.symm hgb) rb
        have hb' := hb.setCell (p := ⟨gc, x % 4080, none⟩) hgc' (.int .u8 ((x : Int) / 4080))
        clear hset oc oa ra rb hb HC
        go_wp2_with fail
        go_roundw
        case rel => exact ⟨k + 1, _, by omega, by omega, by go_num, oc', HC', ra', rb', oa', hb'⟩
        case measure => simp [intOf]; omega
      · have t2 : decide ((k : Int) < 200) = false := by simp; omega
        clear hk hk2 hlt h2
        have rc := oc.br HC.out
        go_wp2_with fail
        refine (Diff_any _ _ _ _ _ _ _ ra rb hP).mono ?_
        rintro e w3 ⟨v3, rfl, op3, hb3⟩
        go_wp2_with fail
        refine (Diff_any _ _ _ _ _ _ _ (rb.below hb3) (rc.below hb3) hcc1).mono ?_
        rintro e w4 ⟨v4, rfl, op4, hb4⟩
        have hb34 := gr_trans hb3 hb4
        have op3' := op3.below hb4
        obtain ⟨A3, c3, rfl, pr3, hc3, hm3⟩ := op3'.form rfl
        obtain ⟨A4, c4, rfl, pr4, hc4, hm4⟩ := op4.form rfl
        have L3 := Lib.hid (diffL_small a b HB.out)
        have L4 := Lib.hid (diffL_small b cc HC.out)
        generalize hD3 : diffL a b = D3 at *
        generalize hD4 : diffL b cc = D4 at *
        generalize hn3 : D3.length = n3 at *
        generalize hn4 : D4.length = n4 at *
        have HD3 := Lib.hid hD3
        have HD4 := Lib.hid hD4
        have HN3 := Lib.hid hn3
        have HN4 := Lib.hid hn4
        clear hD3 hD4 hn3 hn4
        have l3 : n3 ≤ 4080 := L3.out.1
        have l4 : n4 ≤ 4080 := L4.out.1
        go_wp2_with fail
        refine (CopyPieces_any _ _ _ D3 w4 pr3 (by omega) (fun p hp => by have := L3.out.2 p hp; omega)).mono ?_
        rintro e w5 ⟨v5, rfl, op5, hb5⟩
        obtain ⟨us, hrow, hul, huv, hdis⟩ := op5
        rw [HN3.out] at hrow
        obtain ⟨A5, c5, rfl, hc5, hm5⟩ := own_form hrow
        obtain ⟨us', hrd, hul', huv'⟩ := pr4
        have HJ := Lib.hid (fun w6 v6 hown6 hg6 hb6 => PR.joined (w0 := w4) (w3 := w5) (w4 := w6) (v4 := v6) hrow HN3.out hul huv hrd hul' HN4.out huv' hown6 hg6 hb6)
        have HROW := Lib.hid hrow
        have HRD := Lib.hid (hrd.below hb5)
        have HONE := Lib.hid (one_pcs us' (fun q hq => by
          obtain ⟨j, hj, hjq⟩ := List.getElem_of_mem hq
          exact (huv' j _ q (List.getElem?_eq_getElem (show j < D4.length by omega)) (by rw [List.getElem?_eq_getElem hj, hjq])).2.one))
        have hsz5 := hb5.size
        have hmx : n3 + n4 ≤ maxLen := by simp only [maxLen]; omega
        clear hul huv hdis hrd hul' huv' hrow
        go_wp2_with (at_builtin; refine wpList_append_Rd _ rfl (.tmp 67) (.tmp 68) _ rfl w4.heap.size 40 i1 _ 2 32 Try.underlying31 hi1 hy0 hy1 hy2 rfl (.slice A5 n3 c5) n3 (pcs us) rfl HROW.out A4 n4 c4 (pcs us') rfl HRD.out HONE.out (by omega) hmx hsz5 ?_; intro v6 w6 hown6 hg6 _ _; have hb6 : Below w4.heap.size w4 w6 := gr_own hb5 HROW.out hg6; obtain ⟨A6, c6, rfl, pr6⟩ := HJ.out w6 v6 hown6 hg6 hb6)
        have hb46 := gr_trans hb34 hb6
        refine (Apply_any _ _ _ (n3 + n4) c6 a (D3 ++ D4) w6 (ra.below hb46) pr6 (by omega) (fun p hp => by rcases List.mem_append.1 hp with h | h; (have := L3.out.2 p h; omega); (have := L4.out.2 p h; omega))).mono ?_
        rintro e w7 ⟨hb7, hx7⟩
        have hap : applyL a (D3 ++ D4) = some cc := by rw [applyL_append, ← HD3.out, apply_diff HA.out HB.out, ← HD4.out]; exact apply_diff HB.out HC.out
        rw [hap] at hx7
        obtain ⟨v7, rfl, ob7⟩ := hx7
        have hb67 := gr_trans hb46 hb7
        clear hap hown6 hg6 pr6 HJ HROW HRD HONE
        go_wp2_with fail
        refine (Diff_any _ _ _ _ _ _ _ (rb.below hb67) (ra.below hb67) (by omega)).mono ?_
        rintro e w8 ⟨v8, rfl, op8, hb8⟩
        have hb78 := gr_trans hb67 hb8
        obtain ⟨A8, c8, rfl, pr8, hc8, hm8⟩ := op8.form rfl
        have L8 := Lib.hid (diffL_small b a HA.out)
        have HSZ := Lib.hid (size_shape (shape_diff HA.out HB.out))
        have HAP := Lib.hid (apply_diff HB.out HA.out)
        rw [HD3.out] at HSZ
        generalize diffL b a = D8 at *
        generalize hn8 : D8.length = n8 at *
        have HN8 := Lib.hid hn8
        clear hn8
        have l8 : n8 ≤ 4080 := L8.out.1
        go_wp2_with fail
        refine (Apply_any _ _ _ n8 c8 b D8 w8 (rb.below hb78) pr8 (by omega) (fun p hp => by have := L8.out.2 p hp; omega)).mono ?_
        rintro e w9 ⟨hb9, hx9⟩
        rw [HAP.out] at hx9
        obtain ⟨v9, rfl, ob9⟩ := hx9
        have hb89 := gr_trans hb78 hb9
        go_wp2_with fail
        refine (sameB_own _ _ cc _ ((ob7.below hb8).below hb9) (oc.below hb89)).mono ?_
        rintro e w' ⟨rfl, rfl⟩
        go_wp2_with fail
        refine (sameB_own _ _ a _ ob9 (oa.below hb89)).mono ?_
        rintro e w' ⟨rfl, rfl⟩
        go_wp2_with fail
        refine (Size_any _ _ _ D3 _ ((((pr3.below hb6).below hb7).below hb8).below hb9) (by omega)).mono ?_
        rintro e w10 ⟨rfl, hb10⟩
        rw [HSZ.out]
        go_wp2_with fail
        refine (Size_any _ _ _ D8 _ ((pr8.below hb9).below hb10) (by omega)).mono ?_
        rintro e w11 ⟨rfl, hb11⟩
        go_wp2_with fail
        refine (awake08_any _).mono ?_
        rintro e w12 ⟨rfl, hb12⟩
        go_wp2
        go_ret
        exact ⟨rfl, gr_trans (gr_trans (gr_trans (gr_trans hb hb89) hb10) hb11) hb12⟩
    · have t1 : decide ((k : Int) < (m : Int)) = false := by simp; omega
      have t1' : decide (k < m) = false := by simp; omega
      clear hk hk2 hlt
      have rc := oc.br HC.out
      go_wp2_with fail
      refine (Diff_any _ _ _ _ _ _ _ ra rb hP).mono ?_
      rintro e w3 ⟨v3, rfl, op3, hb3⟩
      go_wp2_with fail
      refine (Diff_any _ _ _ _ _ _ _ (rb.below hb3) (rc.below hb3) hcc1).mono ?_
      rintro e w4 ⟨v4, rfl, op4, hb4⟩
      have hb34 := gr_trans hb3 hb4
      have op3' := op3.below hb4
      obtain ⟨A3, c3, rfl, pr3, hc3, hm3⟩ := op3'.form rfl
      obtain ⟨A4, c4, rfl, pr4, hc4, hm4⟩ := op4.form rfl
      have L3 := Lib.hid (diffL_small a b HB.out)
      have L4 := Lib.hid (diffL_small b cc HC.out)
      generalize hD3 : diffL a b = D3 at *
      generalize hD4 : diffL b cc = D4 at *
      generalize hn3 : D3.length = n3 at *
      generalize hn4 : D4.length = n4 at *
      have HD3 := Lib.hid hD3
      have HD4 := Lib.hid hD4
      have HN3 := Lib.hid hn3
      have HN4 := Lib.hid hn4
      clear hD3 hD4 hn3 hn4
      have l3 : n3 ≤ 4080 := L3.out.1
      have l4 : n4 ≤ 4080 := L4.out.1
      go_wp2_with fail
      refine (CopyPieces_any _ _ _ D3 w4 pr3 (by omega) (fun p hp => by have := L3.out.2 p hp; omega)).mono ?_
      rintro e w5 ⟨v5, rfl, op5, hb5⟩
      obtain ⟨us, hrow, hul, huv, hdis⟩ := op5
      rw [HN3.out] at hrow
      obtain ⟨A5, c5, rfl, hc5, hm5⟩ := own_form hrow
      obtain ⟨us', hrd, hul', huv'⟩ := pr4
      have HJ := Lib.hid (fun w6 v6 hown6 hg6 hb6 => PR.joined (w0 := w4) (w3 := w5) (w4 := w6) (v4 := v6) hrow HN3.out hul huv hrd hul' HN4.out huv' hown6 hg6 hb6)
      have HROW := Lib.hid hrow
      have HRD := Lib.hid (hrd.below hb5)
      have HONE := Lib.hid (one_pcs us' (fun q hq => by
        obtain ⟨j, hj, hjq⟩ := List.getElem_of_mem hq
        exact (huv' j _ q (List.getElem?_eq_getElem (show j < D4.length by omega)) (by rw [List.getElem?_eq_getElem hj, hjq])).2.one))
      have hsz5 := hb5.size
      have hmx : n3 + n4 ≤ maxLen := by simp only [maxLen]; omega
      clear hul huv hdis hrd hul' huv' hrow
      go_wp2_with (at_builtin; refine wpList_append_Rd _ rfl (.tmp 67) (.tmp 68) _ rfl w4.heap.size 40 i1 _ 2 32 Try.underlying31 hi1 hy0 hy1 hy2 rfl (.slice A5 n3 c5) n3 (pcs us) rfl HROW.out A4 n4 c4 (pcs us') rfl HRD.out HONE.out (by omega) hmx hsz5 ?_; intro v6 w6 hown6 hg6 _ _; have hb6 : Below w4.heap.size w4 w6 := gr_own hb5 HROW.out hg6; obtain ⟨A6, c6, rfl, pr6⟩ := HJ.out w6 v6 hown6 hg6 hb6)
      have hb46 := gr_trans hb34 hb6
      refine (Apply_any _ _ _ (n3 + n4) c6 a (D3 ++ D4) w6 (ra.below hb46) pr6 (by omega) (fun p hp => by rcases List.mem_append.1 hp with h | h; (have := L3.out.2 p h; omega); (have := L4.out.2 p h; omega))).mono ?_
      rintro e w7 ⟨hb7, hx7⟩
      have hap : applyL a (D3 ++ D4) = some cc := by rw [applyL_append, ← HD3.out, apply_diff HA.out HB.out, ← HD4.out]; exact apply_diff HB.out HC.out
      rw [hap] at hx7
      obtain ⟨v7, rfl, ob7⟩ := hx7
      have hb67 := gr_trans hb46 hb7
      clear hap hown6 hg6 pr6 HJ HROW HRD HONE
      go_wp2_with fail
      refine (Diff_any _ _ _ _ _ _ _ (rb.below hb67) (ra.below hb67) (by omega)).mono ?_
      rintro e w8 ⟨v8, rfl, op8, hb8⟩
      have hb78 := gr_trans hb67 hb8
      obtain ⟨A8, c8, rfl, pr8, hc8, hm8⟩ := op8.form rfl
      have L8 := Lib.hid (diffL_small b a HA.out)
      have HSZ := Lib.hid (size_shape (shape_diff HA.out HB.out))
      have HAP := Lib.hid (apply_diff HB.out HA.out)
      rw [HD3.out] at HSZ
      generalize diffL b a = D8 at *
      generalize hn8 : D8.length = n8 at *
      have HN8 := Lib.hid hn8
      clear hn8
      have l8 : n8 ≤ 4080 := L8.out.1
      go_wp2_with fail
      refine (Apply_any _ _ _ n8 c8 b D8 w8 (rb.below hb78) pr8 (by omega) (fun p hp => by have := L8.out.2 p hp; omega)).mono ?_
      rintro e w9 ⟨hb9, hx9⟩
      rw [HAP.out] at hx9
      obtain ⟨v9, rfl, ob9⟩ := hx9
      have hb89 := gr_trans hb78 hb9
      go_wp2_with fail
      refine (sameB_own _ _ cc _ ((ob7.below hb8).below hb9) (oc.below hb89)).mono ?_
      rintro e w' ⟨rfl, rfl⟩
      go_wp2_with fail
      refine (sameB_own _ _ a _ ob9 (oa.below hb89)).mono ?_
      rintro e w' ⟨rfl, rfl⟩
      go_wp2_with fail
      refine (Size_any _ _ _ D3 _ ((((pr3.below hb6).below hb7).below hb8).below hb9) (by omega)).mono ?_
      rintro e w10 ⟨rfl, hb10⟩
      rw [HSZ.out]
      go_wp2_with fail
      refine (Size_any _ _ _ D8 _ ((pr8.below hb9).below hb10) (by omega)).mono ?_
      rintro e w11 ⟨rfl, hb11⟩
      go_wp2_with fail
      refine (awake08_any _).mono ?_
      rintro e w12 ⟨rfl, hb12⟩
      go_wp2
      go_ret
      exact ⟨rfl, gr_trans (gr_trans (gr_trans (gr_trans hb hb89) hb10) hb11) hb12⟩

end Go.Proofs.Ytecndamoomkhnaa
