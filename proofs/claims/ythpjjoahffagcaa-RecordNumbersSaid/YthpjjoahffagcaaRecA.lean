/-
  Words for memory: changes of pages. Contracts: record.rightPieces, record.rightChanges, record.Right.
-/
import Derived.Test.YthpjjoahffagcaaPc
namespace Go.Proofs.Ythpjjoahffagcaa
open Go.RowKit

/-- The value u is a slice of the pieces ps. -/
def VP (w : World) (u : Value) (ps : List Pc) : Prop := ∃ A c, u = .slice A ps.length c ∧ PR w A ps.length ps ∧ ps.length ≤ c ∧ c ≤ maxLen

theorem VP.below {w w' : World} {u : Value} {ps : List Pc} (h : VP w u ps) (hb : Below w.heap.size w w') : VP w' u ps := by
  obtain ⟨A, c, e, r, h1, h2⟩ := h
  exact ⟨A, c, e, r.below hb, h1, h2⟩
theorem VP.one {w : World} {u : Value} {ps : List Pc} (h : VP w u ps) : u.oneCell' = true := by
  obtain ⟨A, c, rfl, _⟩ := h
  rfl
theorem OP.vp {w : World} {base : Nat} {u : Value} {ps : List Pc} (h : OP w base u ps) : VP w u ps := by
  obtain ⟨A, c, e, r, h1, h2⟩ := h.form rfl
  exact ⟨A, c, e, r, h1, h2⟩

/-- A change: its page, its image, its pieces. -/
abbrev Ch := Int × List UInt8 × List Pc

/-- The cells of changes. -/
def chs : List (Int × Value × Value) → List Value
  | [] => []
  | p :: ps => .int .i64 p.1 :: p.2.1 :: p.2.2 :: chs ps

theorem chs_length (ps : List (Int × Value × Value)) : (chs ps).length = ps.length * 3 := by
  induction ps with
  | nil => rfl
  | cons p ps ih => simp only [chs, List.length_cons, ih]; omega
theorem chs_append (ps qs : List (Int × Value × Value)) : chs (ps ++ qs) = chs ps ++ chs qs := by
  induction ps with
  | nil => rfl
  | cons p ps ih => simp only [chs, List.cons_append, ih]
theorem chs_at : ∀ (ps : List (Int × Value × Value)) (i : Nat) (p : Int × Value × Value), ps[i]? = some p → (chs ps)[i * 3]? = some (.int .i64 p.1) ∧ (chs ps)[i * 3 + 1]? = some p.2.1 ∧ (chs ps)[i * 3 + 2]? = some p.2.2
  | [], i, p, h => by simp at h
  | q :: ps, 0, p, h => by
    simp at h
    subst h
    exact ⟨rfl, rfl, rfl⟩
  | q :: ps, i + 1, p, h => by
    have ih := chs_at ps i p (by simpa using h)
    have e1 : (i + 1) * 3 = i * 3 + 3 := by omega
    have e2 : (i + 1) * 3 + 1 = i * 3 + 1 + 3 := by omega
    have e3 : (i + 1) * 3 + 2 = i * 3 + 2 + 3 := by omega
    rw [e3, e2, e1]
    simpa [chs] using ih
theorem one_chs (ps : List (Int × Value × Value)) (h : ∀ p ∈ ps, p.2.1.oneCell' = true ∧ p.2.2.oneCell' = true) : ∀ u ∈ chs ps, u.oneCell' = true := by
  induction ps with
  | nil => intro u hu; cases hu
  | cons p ps ih =>
    intro u hu
    simp only [chs, List.mem_cons] at hu
    rcases hu with rfl | rfl | rfl | hu
    · rfl
    · exact (h p (List.mem_cons_self ..)).1
    · exact (h p (List.mem_cons_self ..)).2
    · exact ih (fun q hq => h q (List.mem_cons_of_mem _ hq)) u hu

/-- The slice value '.slice A n c' holds the changes cs. -/
def CR (w : World) (A : Option Addr) (n : Nat) (cs : List Ch) : Prop :=
  ∃ us : List (Int × Value × Value), Rd w 3 A n (chs us) ∧ us.length = cs.length ∧ ∀ (i : Nat) (p : Ch) (q : Int × Value × Value), cs[i]? = some p → us[i]? = some q → q.1 = p.1 ∧ VB w q.2.1 p.2.1 ∧ VP w q.2.2 p.2.2

section
variable {w w' : World} {A : Option Addr} {n : Nat} {cs : List Ch}
theorem CR.len (h : CR w A n cs) : cs.length = n := by
  obtain ⟨us, hr, hl, _⟩ := h
  have := hr.1
  rw [chs_length] at this
  omega
theorem CR.below (h : CR w A n cs) (hb : Below w.heap.size w w') : CR w' A n cs := by
  obtain ⟨us, hr, hl, hv⟩ := h
  exact ⟨us, hr.below hb, hl, fun i p q hp hq => ⟨(hv i p q hp hq).1, (hv i p q hp hq).2.1.below hb, (hv i p q hp hq).2.2.below hb⟩⟩
theorem CR.none_ (w : World) (A : Option Addr) : CR w A 0 [] := ⟨[], ⟨rfl, fun h => absurd h (by omega)⟩, rfl, fun i p q h => by simp at h⟩

/-- The change that is none. -/
abbrev ch0 : Ch := (0, [], [])

theorem CR.at_ (h : CR w A n cs) {i : Nat} (hi : i < n) : ∃ g o B c D d, A = some ⟨g, o, none⟩ ∧ w.cell? ⟨g, o + i * 3, none⟩ = some (.int .i64 (cs.getD i ch0).1) ∧
    w.cell? ⟨g, o + i * 3 + 1, none⟩ = some (.slice B (cs.getD i ch0).2.1.length c) ∧ w.cell? ⟨g, o + i * 3 + 1 + 1, none⟩ = some (.slice D (cs.getD i ch0).2.2.length d) ∧
    BR w B (cs.getD i ch0).2.1.length (cs.getD i ch0).2.1 ∧ (cs.getD i ch0).2.1.length ≤ c ∧ c ≤ maxLen ∧
    PR w D (cs.getD i ch0).2.2.length (cs.getD i ch0).2.2 ∧ (cs.getD i ch0).2.2.length ≤ d ∧ d ≤ maxLen := by
  have hn := h.len
  obtain ⟨us, hr, hl, hv⟩ := h
  obtain ⟨g, o, e, hc⟩ := Rd.plain hr (by omega) (by omega)
  have hip : cs[i]? = some (cs.getD i ch0) := by simp [List.getD, List.getElem?_eq_getElem (show i < cs.length by omega)]
  have hiu : us[i]? = some (us[i]'(by omega)) := List.getElem?_eq_getElem (by omega)
  obtain ⟨e1, ⟨B, c, e2, r, h1, h2⟩, ⟨D, d, e3, r', h3, h4⟩⟩ := hv i _ _ hip hiu
  obtain ⟨c1, c2, c3⟩ := chs_at us i _ hiu
  refine ⟨g, o, B, c, D, d, e, ?_, ?_, ?_, r, h1, h2, r', h3, h4⟩
  · rw [← e1]; exact hc _ _ c1
  · rw [← e2]; exact hc _ _ c2
  · rw [← e3]; exact hc _ _ c3
end

theorem pc_getD' {ps : List Pc} {k : Nat} (hk : k < ps.length) : ps[k] = ps.getD k (0, []) := by simp [List.getD, List.getElem?_eq_getElem hk]
theorem pc_drop {ps : List Pc} {k : Nat} (hk : k < ps.length) : ps.drop k = ps.getD k (0, []) :: ps.drop (k + 1) := by rw [List.drop_eq_getElem_cons hk, pc_getD' hk]
theorem ch_drop {cs : List Ch} {k : Nat} (hk : k < cs.length) : cs.drop k = cs.getD k ch0 :: cs.drop (k + 1) := by
  rw [List.drop_eq_getElem_cons hk]
  simp [List.getD, List.getElem?_eq_getElem hk]
theorem pc_mem {ps : List Pc} {k : Nat} (hk : k < ps.length) : ps.getD k (0, []) ∈ ps := by rw [← pc_getD' hk]; exact List.getElem_mem _
theorem ch_mem {cs : List Ch} {k : Nat} (hk : k < cs.length) : cs.getD k ch0 ∈ cs := by
  have : cs[k] = cs.getD k ch0 := by simp [List.getD, List.getElem?_eq_getElem hk]
  rw [← this]; exact List.getElem_mem _

/-- Are pieces right ones, each behind the one ahead (the last ended at e)? -/
def rpFrom : Int → List Pc → Bool
  | _, [] => true
  | e, p :: ps => if p.1 < e ∨ p.2.length = 0 ∨ 4080 - p.1 < p.2.length then false else rpFrom (p.1 + p.2.length) ps

theorem ret_bl {a b : Bool} (h : a = b) : Ending.returned (.bool a) = .returned (.bool b) := by rw [h]

set_option maxRecDepth 100000 in
set_option maxHeartbeats 1000000 in
theorem rightPieces_any (B : Option Addr) (n d : Nat) (ps : List Pc) (w : World) (hp : PR w B n ps) (hn : n ≤ 9223372036854775807) (hpb : ∀ p ∈ ps, p.1 ≤ 9223372036854775807) :
    Calls Try.prog 63 #[.slice B n d] w fun r w' => r = .returned (.bool (rpFrom 0 ps)) ∧ Below w.heap.size w w' := by
  have HPN := Lib.hid hp.len
  have HPB := Lib.hid hpb
  clear hpb
  go_enter Try.func63, Try.ntmps63
  go_wp2_with fail
  go_loopw [3, 8] (fun s i wr => ∃ (k : Nat) (e : Int), k ≤ n ∧ i = .int .i64 k ∧ s = .int .i64 e ∧ 0 ≤ e ∧ e ≤ 4080 ∧ Hid (rpFrom 0 ps = rpFrom e (ps.drop k)) ∧ Below w.heap.size w wr) (fun _ i _ => n - (intOf i).toNat)
  case atStart => exact ⟨0, 0, Nat.zero_le _, rfl, rfl, Int.le_refl _, by omega, Lib.hid rfl, gr_refl w⟩
  case round =>
    obtain ⟨k, e, hk, rfl, rfl, he0, he1, HR, hb⟩ := hrel
    by_cases hlt : k < n
    · obtain ⟨gp, op, Bp, cp, rfl, q1, q2, q3, q4, q5⟩ := (hp.below hb).at_ (i := k) hlt
      have hkl : k < ps.length := by rw [HPN.out]; exact hlt
      have hub := HPB.out _ (pc_mem hkl)
      have HS := Lib.hid (HR.out.trans (by rw [pc_drop hkl]))
      clear HR hkl
      obtain ⟨⟨pa, pb⟩, HE⟩ : ∃ p, p = ps.getD k (0, []) := ⟨_, rfl⟩
      rw [← HE] at q1 q2 q3 q4 HS hub
      clear HE
      dsimp only at q1 q2 q3 q4 hub
      obtain ⟨pn, hpn⟩ : ∃ pn, pn = pb.length := ⟨_, rfl⟩
      rw [← hpn] at q2 q3 q4
      have HPL := Lib.hid hpn
      clear hpn
      unfold maxLen at q5
      have hbad : (pa < e ∨ pn = 0 ∨ 4080 - pa < (pn : Int)) → rpFrom 0 ps = false := fun h => by
        rw [HS.out]
        unfold rpFrom
        rw [← HPL.out, if_pos h]
      have hgood : ¬ (pa < e ∨ pn = 0 ∨ 4080 - pa < (pn : Int)) → rpFrom 0 ps = rpFrom (pa + pn) (ps.drop (k + 1)) := fun h => by
        rw [HS.out]
        conv => lhs; unfold rpFrom
        rw [← HPL.out, if_neg h]
      have HB := Lib.hid hbad
      have HG := Lib.hid hgood
      clear hbad hgood HS
      by_cases h1 : pa < e
      · have t1 : decide (pa < e) = true := by simpa using h1
        go_wp2_with fail
        go_ret
        exact ⟨ret_bl (HB.out (.inl h1)).symm, gr_alloc hb _⟩
      · have t1 : decide (pa < e) = false := by simpa using h1
        by_cases h2 : pn = 0
        · subst h2
          go_wp2_with fail
          go_ret
          exact ⟨ret_bl (HB.out (by simp)).symm, gr_alloc hb _⟩
        · have t2 : ((pn : Int) == 0) = false := beq_eq_false_iff_ne.2 (by omega)
          have t2' : (pn == 0) = false := beq_eq_false_iff_ne.2 h2
          have hpa : 0 ≤ pa := by omega
          by_cases h3 : 4080 - pa < (pn : Int)
          · have t3 : decide (4080 - pa < (pn : Int)) = true := by simpa using h3
            go_wp2_with fail
            go_ret
            exact ⟨ret_bl (HB.out (.inr (.inr h3))).symm, gr_alloc hb _⟩
          · have t3 : decide (4080 - pa < (pn : Int)) = false := by simpa using h3
            have HG' := Lib.hid (HG.out (by omega))
            clear HB HG
            have hs1 : pa + (pn : Int) ≤ 4080 := by omega
            go_wp2_with fail
            go_roundw
            case rel => exact ⟨k + 1, pa + pn, by omega, by go_num, rfl, by omega, by omega, HG', gr_alloc hb _⟩
            case measure => simp [intOf]; omega
    · obtain rfl : k = n := by omega
      go_wp2_with fail
      go_ret
      refine ⟨ret_bl ?_, hb⟩
      rw [HR.out, List.drop_eq_nil_of_le (Nat.le_of_eq HPN.out)]
      rfl

/-- Are changes right ones, of rising pages (the last was of page 'last')? -/
def rcFrom : Int → List Ch → Bool
  | _, [] => true
  | last, c :: cs => if c.1 ≤ last ∨ 4096 ≤ c.1 then false else
      if 0 < c.2.1.length then (if c.2.1.length ≠ 4080 ∨ 0 < c.2.2.length then false else rcFrom c.1 cs) else (if rpFrom 0 c.2.2 = true then rcFrom c.1 cs else false)

set_option maxRecDepth 100000 in
set_option maxHeartbeats 2000000 in
theorem rightChanges_any (A : Option Addr) (n d : Nat) (cs : List Ch) (w : World) (hc : CR w A n cs) (hn : n ≤ 9223372036854775807) (hpb : ∀ c ∈ cs, ∀ p ∈ c.2.2, p.1 ≤ 9223372036854775807) :
    Calls Try.prog 51 #[.slice A n d] w fun r w' => r = .returned (.bool (rcFrom (-1) cs)) ∧ Below w.heap.size w w' := by
  have HCN := Lib.hid hc.len
  have HPB := Lib.hid hpb
  clear hpb
  go_enter Try.func51, Try.ntmps51
  go_wp2_with fail
  go_loopw [3, 8] (fun s i wr => ∃ (k : Nat) (e : Int), k ≤ n ∧ i = .int .i64 k ∧ s = .int .i64 e ∧ Hid (rcFrom (-1) cs = rcFrom e (cs.drop k)) ∧ Below w.heap.size w wr) (fun _ i _ => n - (intOf i).toNat)
  case atStart => exact ⟨0, -1, Nat.zero_le _, rfl, rfl, Lib.hid rfl, gr_refl w⟩
  case round =>
    obtain ⟨k, e, hk, rfl, rfl, HR, hb⟩ := hrel
    by_cases hlt : k < n
    · obtain ⟨g, o, B, c, D, d', rfl, q1, q2, q3, r1, r2, r3, r4, r5, r6⟩ := (hc.below hb).at_ (i := k) hlt
      have hkl : k < cs.length := by rw [HCN.out]; exact hlt
      have hub := HPB.out _ (ch_mem hkl)
      have HS := Lib.hid (HR.out.trans (by rw [ch_drop hkl]))
      clear HR hkl
      obtain ⟨⟨pg, im, qs⟩, HE⟩ : ∃ p, p = cs.getD k ch0 := ⟨_, rfl⟩
      rw [← HE] at q1 q2 q3 r1 r2 r4 r5 HS hub
      clear HE
      dsimp only at q1 q2 q3 r1 r2 r4 r5 hub
      obtain ⟨ni, hni⟩ : ∃ ni, ni = im.length := ⟨_, rfl⟩
      obtain ⟨nq, hnq⟩ : ∃ nq, nq = qs.length := ⟨_, rfl⟩
      rw [← hni] at q2 r1 r2
      rw [← hnq] at q3 r4 r5
      have HNI := Lib.hid hni
      have HNQ := Lib.hid hnq
      clear hni hnq r1 r2
      unfold maxLen at r3 r6
      have HU := Lib.hid hub
      clear hub
      have hbad : (pg ≤ e ∨ 4096 ≤ pg) → rcFrom (-1) cs = false := fun h => by
        rw [HS.out]; unfold rcFrom; rw [if_pos h]
      have himg : ¬ (pg ≤ e ∨ 4096 ≤ pg) → 0 < ni → rcFrom (-1) cs = if ni ≠ 4080 ∨ 0 < nq then false else rcFrom pg (cs.drop (k + 1)) := fun h h2 => by
        rw [HS.out]; conv => lhs; unfold rcFrom
        rw [if_neg h]; dsimp only; rw [← HNI.out, ← HNQ.out, if_pos h2]
      have hpcs : ¬ (pg ≤ e ∨ 4096 ≤ pg) → ni = 0 → rcFrom (-1) cs = if rpFrom 0 qs = true then rcFrom pg (cs.drop (k + 1)) else false := fun h h2 => by
        rw [HS.out]; conv => lhs; unfold rcFrom
        rw [if_neg h]; dsimp only; rw [← HNI.out, if_neg (by omega)]
      have HB := Lib.hid hbad
      have HI := Lib.hid himg
      have HP := Lib.hid hpcs
      clear hbad himg hpcs HS
      by_cases h1 : pg ≤ e
      · have t1 : decide (pg ≤ e) = true := by simpa using h1
        go_wp2_with fail
        go_ret
        exact ⟨ret_bl (HB.out (.inl h1)).symm, gr_alloc hb _⟩
      · have t1 : decide (pg ≤ e) = false := by simpa using h1
        by_cases h2 : 4096 ≤ pg
        · have t2 : decide (4096 ≤ pg) = true := by simpa using h2
          go_wp2_with fail
          go_ret
          exact ⟨ret_bl (HB.out (.inr h2)).symm, gr_alloc hb _⟩
        · have t2 : decide (4096 ≤ pg) = false := by simpa using h2
          have hok : ¬ (pg ≤ e ∨ 4096 ≤ pg) := by omega
          by_cases h3 : 0 < ni
          · have t3 : decide ((0 : Int) < (ni : Int)) = true := by simp; omega
            have t3' : decide (0 < ni) = true := by simpa using h3
            have HI' := Lib.hid (HI.out hok h3)
            clear HI HP HB
            by_cases h4 : ni = 4080
            · subst h4
              by_cases h5 : 0 < nq
              · have t5 : decide ((0 : Int) < (nq : Int)) = true := by simp; omega
                have t5' : decide (0 < nq) = true := by simpa using h5
                go_wp2_with fail
                go_ret
                exact ⟨ret_bl (by rw [HI'.out, if_pos (.inr h5)]), gr_alloc hb _⟩
              · have t5 : decide ((0 : Int) < (nq : Int)) = false := by simp; omega
                have t5' : decide (0 < nq) = false := by simpa using h5
                have HI2 := Lib.hid (HI'.out.trans (if_neg (by omega)))
                clear HI'
                go_wp2_with fail
                go_roundw
                case rel => exact ⟨k + 1, pg, by omega, by go_num, rfl, HI2, gr_alloc hb _⟩
                case measure => simp [intOf]; omega
            · have t4 : ((ni : Int) != 4080) = true := by rw [bne_iff_ne]; omega
              have t4' : (ni != 4080) = true := by rw [bne_iff_ne]; exact h4
              go_wp2_with fail
              go_ret
              exact ⟨ret_bl (by rw [HI'.out, if_pos (.inl h4)]), gr_alloc hb _⟩
          · obtain rfl : ni = 0 := by omega
            have HP' := Lib.hid (HP.out hok rfl)
            clear HI HP HB
            go_wp2_with fail
            refine (rightPieces_any D nq d' qs _ (r4.below (gr_alloc (gr_refl wr) _)) (by omega) HU.out).mono ?_
            rintro r w2 ⟨rfl, hb2⟩
            have hb3 := gr_trans (gr_alloc hb _) hb2
            cases hq : rpFrom 0 qs with
            | true =>
              have HP2 := Lib.hid (HP'.out.trans (if_pos hq))
              clear HP' hq
              go_wp2_with fail
              go_roundw
              case rel => exact ⟨k + 1, pg, by omega, by go_num, rfl, HP2, hb3⟩
              case measure => simp [intOf]; omega
            | false =>
              have HP2 := Lib.hid (HP'.out.trans (if_neg (by rw [hq]; simp)))
              clear HP' hq
              go_wp2_with fail
              go_ret
              exact ⟨ret_bl HP2.out.symm, hb3⟩
    · obtain rfl : k = n := by omega
      go_wp2_with fail
      go_ret
      refine ⟨ret_bl ?_, hb⟩
      rw [HR.out, List.drop_eq_nil_of_le (Nat.le_of_eq HCN.out)]
      rfl

/-- Is it a right record? -/
def rightR (k tx : Int) (cs : List Ch) : Bool :=
  if tx < 0 ∨ 4611686018427387904 < tx then false else if k = 2 ∨ k = 3 then decide (cs.length = 0) else if k = 1 then (decide (1 ≤ cs.length ∧ cs.length ≤ 16) && rcFrom (-1) cs) else false

set_option maxRecDepth 100000 in
set_option maxHeartbeats 2000000 in
theorem Right_any (k tx : Int) (A : Option Addr) (n d : Nat) (cs : List Ch) (w : World) (hc : CR w A n cs) (hn : n ≤ 9223372036854775807) (hpb : ∀ c ∈ cs, ∀ p ∈ c.2.2, p.1 ≤ 9223372036854775807) :
    Calls Try.prog 27 #[.agg #[.int .u8 k, .int .i64 tx, .slice A n d]] w fun r w' => r = .returned (.bool (rightR k tx cs)) ∧ Below w.heap.size w w' := by
  have hl := hc.len
  have HPB := Lib.hid hpb
  have HR : Hid (rightR k tx cs = if tx < 0 ∨ 4611686018427387904 < tx then false else if k = 2 ∨ k = 3 then decide (n = 0) else if k = 1 then (decide (1 ≤ n ∧ n ≤ 16) && rcFrom (-1) cs) else false) := Lib.hid (by unfold rightR; rw [hl])
  clear hl hpb
  have hb1 := gr_alloc (gr_refl w) (.cells #[.int .u8 k, .int .i64 tx, .slice A n d] 38)
  by_cases h1 : tx < 0
  · have t1 : decide (tx < 0) = true := by simpa using h1
    go_enter Try.func27, Try.ntmps27
    go_wp2_with fail
    go_ret
    exact ⟨ret_bl (by rw [HR.out, if_pos (.inl h1)]), hb1⟩
  have t1 : decide (tx < 0) = false := by simpa using h1
  by_cases h2 : 4611686018427387904 < tx
  · have t2 : decide (4611686018427387904 < tx) = true := by simpa using h2
    go_enter Try.func27, Try.ntmps27
    go_wp2_with fail
    go_ret
    exact ⟨ret_bl (by rw [HR.out, if_pos (.inr h2)]), hb1⟩
  have t2 : decide (4611686018427387904 < tx) = false := by simpa using h2
  have HR2 := Lib.hid (HR.out.trans (if_neg (by omega)))
  clear HR
  by_cases k2 : k = 2
  · subst k2
    have HR3 := Lib.hid (HR2.out.trans (if_pos (.inl rfl)))
    clear HR2
    by_cases hz : n = 0
    · subst hz
      go_enter Try.func27, Try.ntmps27
      go_wp2_with fail
      go_ret
      exact ⟨ret_bl (by rw [HR3.out]; simp), hb1⟩
    · have tz : ((n : Int) == 0) = false := beq_eq_false_iff_ne.2 (by omega)
      have tz' : (n == 0) = false := beq_eq_false_iff_ne.2 hz
      go_enter Try.func27, Try.ntmps27
      go_wp2_with fail
      go_ret
      exact ⟨ret_bl (by rw [HR3.out]; simp [hz]), hb1⟩
  have u2 : (k == 2) = false := beq_eq_false_iff_ne.2 k2
  by_cases k3 : k = 3
  · subst k3
    have HR3 := Lib.hid (HR2.out.trans (if_pos (.inr rfl)))
    clear HR2
    by_cases hz : n = 0
    · subst hz
      go_enter Try.func27, Try.ntmps27
      go_wp2_with fail
      go_ret
      exact ⟨ret_bl (by rw [HR3.out]; simp), hb1⟩
    · have tz : ((n : Int) == 0) = false := beq_eq_false_iff_ne.2 (by omega)
      have tz' : (n == 0) = false := beq_eq_false_iff_ne.2 hz
      go_enter Try.func27, Try.ntmps27
      go_wp2_with fail
      go_ret
      exact ⟨ret_bl (by rw [HR3.out]; simp [hz]), hb1⟩
  have u3 : (k == 3) = false := beq_eq_false_iff_ne.2 k3
  have HR3 := Lib.hid (HR2.out.trans (if_neg (by omega)))
  clear HR2
  by_cases k1 : k = 1
  · subst k1
    have HR4 := Lib.hid (HR3.out.trans (if_pos rfl))
    clear HR3
    by_cases n1 : 1 ≤ n
    · have m1 : decide ((1 : Int) ≤ (n : Int)) = true := by simp; omega
      have m1' : decide (1 ≤ n) = true := by simpa using n1
      by_cases n2 : n ≤ 16
      · have m2 : decide ((n : Int) ≤ 16) = true := by simp; omega
        have m2' : decide (n ≤ 16) = true := by simpa using n2
        have HC := Lib.hid (rightChanges_any A n d cs _ (hc.below hb1) hn HPB.out)
        go_enter Try.func27, Try.ntmps27
        go_wp2_with fail
        refine HC.out.mono ?_
        rintro r w2 ⟨rfl, hb2⟩
        go_wp2_with fail
        go_ret
        refine ⟨ret_bl ?_, gr_trans hb1 hb2⟩
        rw [HR4.out]
        simp [n1, n2]
      · have m2 : decide ((n : Int) ≤ 16) = false := by simp; omega
        have m2' : decide (n ≤ 16) = false := by simpa using n2
        go_enter Try.func27, Try.ntmps27
        go_wp2_with fail
        go_ret
        exact ⟨ret_bl (by rw [HR4.out]; simp; omega), hb1⟩
    · have m1 : decide ((1 : Int) ≤ (n : Int)) = false := by simp; omega
      have m1' : decide (1 ≤ n) = false := by simpa using n1
      go_enter Try.func27, Try.ntmps27
      go_wp2_with fail
      go_ret
      exact ⟨ret_bl (by rw [HR4.out]; simp; omega), hb1⟩
  · have u1 : (k == 1) = false := beq_eq_false_iff_ne.2 k1
    go_enter Try.func27, Try.ntmps27
    go_wp2_with fail
    go_ret
    exact ⟨ret_bl (by rw [HR3.out, if_neg k1]), hb1⟩

end Go.Proofs.Ythpjjoahffagcaa
