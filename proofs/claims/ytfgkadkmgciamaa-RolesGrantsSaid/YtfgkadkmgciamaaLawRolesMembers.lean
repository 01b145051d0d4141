/-
  The walk of RolesMembers.
-/
import Derived.Test.YtfgkadkmgciamaaRoS
import Derived.Test.YtfgkadkmgciamaaOpM
namespace Go.Proofs.Ytfgkadkmgciamaa
open Go Go.RowKit

/-- What Join answers, as numbers and lists. -/
def JQ (l : List Mb) (m : Mb) (r : Int) (out : List Mb) : Prop := (r = 321 ∧ out = [] ∧ m ∈ l) ∨ (r = 310 ∧ out = [] ∧ m ∉ l ∧ Reach l m.2 m.1) ∨ (r = 0 ∧ out = l ++ [m] ∧ m ∉ l ∧ ¬ Reach l m.2 m.1)
theorem JQ.unique {l : List Mb} {m : Mb} {r r' : Int} {o o' : List Mb} (h : JQ l m r o) (h' : JQ l m r' o') : r = r' ∧ o = o' := by
  rcases h with ⟨rfl, rfl, h⟩ | ⟨rfl, rfl, h, h2⟩ | ⟨rfl, rfl, h, h2⟩ <;> rcases h' with ⟨rfl, rfl, k⟩ | ⟨rfl, rfl, k, k2⟩ | ⟨rfl, rfl, k, k2⟩ <;> first | exact ⟨rfl, rfl⟩ | contradiction
theorem JoinP.q {l : List Mb} {m : Mb} {base : Nat} {e : Ending} {w' : World} (h : JoinP l m base e w') : ∃ v r out, e = .returned (.tuple #[v, .int .i64 r]) ∧ JQ l m r out ∧ EO EM 2 52 w' base v out := by
  rcases h with ⟨rfl, h⟩ | ⟨rfl, h, h2⟩ | ⟨v, rfl, h, h2, h3⟩
  · exact ⟨_, _, [], rfl, .inl ⟨rfl, rfl, h⟩, EO.nil _ _⟩
  · exact ⟨_, _, [], rfl, .inr (.inl ⟨rfl, rfl, h, h2⟩), EO.nil _ _⟩
  · exact ⟨v, _, _, rfl, .inr (.inr ⟨rfl, rfl, h, h2⟩), h3⟩
def LQ (l : List Mb) (m : Mb) (r : Int) (out : List Mb) : Prop := (r = 311 ∧ out = [] ∧ m ∉ l) ∨ (r = 0 ∧ out = (l.filter fun x => !(x.1 == m.1 && x.2 == m.2)) ∧ m ∈ l)
theorem LQ.unique {l : List Mb} {m : Mb} {r r' : Int} {o o' : List Mb} (h : LQ l m r o) (h' : LQ l m r' o') : r = r' ∧ o = o' := by
  rcases h with ⟨rfl, rfl, h⟩ | ⟨rfl, rfl, h⟩ <;> rcases h' with ⟨rfl, rfl, k⟩ | ⟨rfl, rfl, k⟩ <;> first | exact ⟨rfl, rfl⟩ | contradiction
theorem LeaveP.q {l : List Mb} {m : Mb} {base : Nat} {e : Ending} {w' : World} (h : LeaveP l m base e w') : ∃ v r out, e = .returned (.tuple #[v, .int .i64 r]) ∧ LQ l m r out ∧ EO EM 2 52 w' base v out := by
  rcases h with ⟨rfl, h⟩ | ⟨v, rfl, h, h2⟩
  · exact ⟨_, _, [], rfl, .inl ⟨rfl, rfl, h⟩, EO.nil _ _⟩
  · exact ⟨v, _, _, rfl, .inr ⟨rfl, rfl, h⟩, h2⟩
theorem own_cellK {w : World} {base : Nat} {T : TypeId} {k g n c : Nat} {xs : List Value} (h : w.ownsRow base T k (.slice (some ⟨g, 0, none⟩) n c) n xs) {j : Nat} (hj : j < n * k) : ∃ u, w.cell? ⟨g, j, none⟩ = some u := by
  rcases h.2 with ⟨e, _⟩ | ⟨g', cap', cur, e, hb, hg, hnc, hm, hcu, ht⟩
  · cases e
  · cases e
    have : n * k ≤ c * k := Nat.mul_le_mul_right _ hnc
    rw [cell_of_row w g j _ _ _ hg]
    exact ⟨cur[j]'(by omega), Array.getElem?_eq_getElem _⟩
theorem own_blockK {w : World} {base : Nat} {T : TypeId} {k n : Nat} {v : Value} {xs : List Value} (h : w.ownsRow base T k v n xs) (h0 : 0 < n) : ∃ g c, v = .slice (some ⟨g, 0, none⟩) n c ∧ base ≤ g ∧ g < w.heap.size := by
  rcases h.2 with ⟨_, e⟩ | ⟨g', cap', cur, e, hb, hg, _⟩
  · omega
  · exact ⟨g', cap', e, hb, (Array.getElem?_eq_some_iff.1 hg).1⟩

set_option maxRecDepth 100000 in
set_option maxHeartbeats 8000000 in
theorem RolesMembers_any (A : Option Addr) (n c : Nat) (l : List Mb) (m : Mb) (role : Str) (w : World) (h : ER EM 2 w A n l) (hn : n ≤ 4398046511103) (hf : Fit l) (hm2 : m.2.length ≤ maxLen) (hro : role.length ≤ maxLen) :
    Calls Try.prog 6 #[.slice A n c, .agg #[.string ⟨m.1.toArray⟩, .string ⟨m.2.toArray⟩], .string ⟨role.toArray⟩] w fun e w' => e = .returned (.bool true) ∧ Below w.heap.size w w' := by
  obtain ⟨cl, hcl⟩ := clos_exists l role
  have HCL := Lib.hid hcl
  have hcn := clos_len hcl
  rw [h.1] at hcn
  have HA := Lib.hid (gr_alloc (gr_refl w) (.cells #[.string ⟨m.1.toArray⟩, .string ⟨m.2.toArray⟩] 52))
  have HC := Lib.hid (heap_alloc_new w (.cells #[.string ⟨m.1.toArray⟩, .string ⟨m.2.toArray⟩] 52))
  have HS := Lib.hid (h.below HA.out)
  have HL := Lib.hid h.1
  have HF := Lib.hid hf
  have HM2 := Lib.hid hm2
  have HRO := Lib.hid hro
  clear h hf hm2 hro hcl
  go_enter Try.func6, Try.ntmps6
  go_upto_region 1 with fail
  generalize w.alloc (.cells #[.string ⟨m.1.toArray⟩, .string ⟨m.2.toArray⟩] 52) = w1 at *
  have c0 : w1.cell? ⟨w.heap.size, 0, none⟩ = some (.string ⟨m.1.toArray⟩) := by rw [cell_of_row w1 _ 0 _ _ _ HC.out]; rfl
  have c1 : w1.cell? ⟨w.heap.size, 1, none⟩ = some (.string ⟨m.2.toArray⟩) := by rw [cell_of_row w1 _ 1 _ _ _ HC.out]; rfl
  have C0 := Lib.hid c0
  have C1 := Lib.hid c1
  clear c0 c1
  go_wp2_with fail
  refine (CopyMembers_any A n c l w1 HS.out (by omega)).mono ?_
  rintro e w2 ⟨v2, rfl, ho2, hb2⟩
  obtain ⟨A2, c2, rfl, hr2, _, _⟩ := ho2.form
  rw [HL.out] at hr2 ⊢
  have HI2 := Lib.hid hr2
  have HS2 := Lib.hid (HS.out.below hb2)
  have HB2 := Lib.hid (HA.out.trans (hb2.mono HA.out.size))
  have d0 := keep_of_below hb2 C0.out
  have d1 := keep_of_below hb2 C1.out
  have D0 := Lib.hid d0
  have D1 := Lib.hid d1
  clear ho2 hr2 hb2
  go_wp2_with fail
  refine (Join_any A2 n c2 l m w2 HI2.out hn HF.out HM2.out).mono ?_
  rintro e w3 ⟨hj, hb3⟩
  obtain ⟨v3, r1, out1, rfl, hq3, ho3⟩ := hj.q
  have HQ3 := Lib.hid hq3
  have HO3 := Lib.hid ho3
  have HLT3 := Lib.hid (World.ownsRow.lt ho3)
  have HB3 := Lib.hid hb3
  have HS3 := Lib.hid (HS2.out.below hb3)
  have e0 := keep_of_below hb3 D0.out
  have e1 := keep_of_below hb3 D1.out
  have E0 := Lib.hid e0
  have E1 := Lib.hid e1
  clear hj hq3 ho3 hb3 d0 d1
  go_wp2_with fail
  refine (refJoin_any A n c l m w3 HS3.out hn).mono ?_
  rintro e w4 ⟨hj, hb4⟩
  obtain ⟨v4, r1', out1', rfl, hq4, ho4⟩ := hj.q
  obtain ⟨rfl, rfl⟩ := hq4.unique HQ3.out
  have HO4 := Lib.hid ho4
  have HW34 : Hid (w3.heap.size ≤ w4.heap.size) := Lib.hid hb4.size
  have HO3 := Lib.hid (HO3.out.below hb4)
  have HB4 := Lib.hid (HB3.out.trans (hb4.mono HB3.out.size))
  have HI4 := Lib.hid (HI2.out.below HB4.out)
  have f0 := keep_of_below hb4 E0.out
  have f1 := keep_of_below hb4 E1.out
  have F0 := Lib.hid f0
  have F1 := Lib.hid f1
  have HS4 := Lib.hid (HS3.out.below hb4)
  clear hj hq4 ho4 hb4 e0 e1
  go_wp2_with fail
  refine (Leave_any A2 n c2 l m w4 HI4.out hn).mono ?_
  rintro e w5 ⟨hj, hb5⟩
  obtain ⟨v5, r3, out3, rfl, hq5, ho5⟩ := hj.q
  have HQ5 := Lib.hid hq5
  have HO5 := Lib.hid ho5
  have HO3 := Lib.hid (HO3.out.below hb5)
  have HO4 := Lib.hid (HO4.out.below hb5)
  have H45 := Lib.hid hb5
  have HB5 := Lib.hid (HB4.out.trans (hb5.mono HB4.out.size))
  have HS5 := Lib.hid (HS4.out.below hb5)
  have g0 := keep_of_below hb5 F0.out
  have g1 := keep_of_below hb5 F1.out
  clear hj hq5 ho5 hb5 f0 f1
  go_wp2_with fail
  refine (refLeave_any A n c l m w5 HS5.out hn).mono ?_
  rintro e w6 ⟨hj, hb6⟩
  obtain ⟨v6, r3', out3', rfl, hq6, ho6⟩ := hj.q
  obtain ⟨rfl, rfl⟩ := hq6.unique HQ5.out
  have HB6 := Lib.hid (HB5.out.trans (hb6.mono HB5.out.size))
  have H46 := Lib.hid (H45.out.trans (hb6.mono H45.out.size))
  obtain ⟨A3, c3, rfl, hr3, _, _⟩ := (HO3.out.below hb6).form
  obtain ⟨A4, c4, rfl, hr4, _, _⟩ := (HO4.out.below hb6).form
  obtain ⟨A5, c5, rfl, hr5, _, _⟩ := (HO5.out.below hb6).form
  obtain ⟨A6, c6, rfl, hr6, _, _⟩ := ho6.form
  have HL3 : Hid (out1'.length ≤ n + 1) := Lib.hid (by
    rcases HQ3.out with ⟨_, e, _⟩ | ⟨_, e, _⟩ | ⟨_, e, _⟩
    · rw [e]; simp
    · rw [e]; simp
    · rw [e, List.length_append, HL.out]; simp)
  have HL5 : Hid (out3'.length ≤ n + 1) := Lib.hid (by
    rcases HQ5.out with ⟨_, e, _⟩ | ⟨_, e, _⟩
    · rw [e]; simp
    · rw [e]
      have := List.length_filter_le (fun x : Mb => !(x.1 == m.1 && x.2 == m.2)) l
      rw [HL.out] at this
      omega)
  have O3 := Lib.hid (HO3.out.below hb6)
  have O5 := Lib.hid (HO5.out.below hb6)
  have R3 := Lib.hid hr3
  have R4 := Lib.hid hr4
  have R5 := Lib.hid hr5
  have R6 := Lib.hid hr6
  have I6 := Lib.hid (HI2.out.below HB6.out)
  have S6 := Lib.hid (HS5.out.below hb6)
  have te1 : (r1' == r1') = true := beq_self_eq_true _
  have te3 : (r3' == r3') = true := beq_self_eq_true _
  clear hj hq6 ho6 hb6 hr3 hr4 hr5 hr6 g0 g1 HO3 HO4 HO5
  go_wp2_with fail
  refine (SameMembers_any A3 A4 out1'.length c3 c4 out1' w6 R3.out R4.out (by have := HL3.out; omega)).mono ?_
  rintro e w7 ⟨rfl, hb7⟩
  have B7 := Lib.hid hb7
  clear hb7
  go_wp2_with fail
  refine (SameMembers_any A5 A6 out3'.length c5 c6 out3' w7 (R5.out.below B7.out) (R6.out.below B7.out) (by have := HL5.out; omega)).mono ?_
  rintro e w8 ⟨rfl, hb8⟩
  have B8 := Lib.hid (B7.out.trans (hb8.mono B7.out.size))
  clear hb8
  go_wp2_with fail
  refine (Closure_at HCL.out A2 n c2 w8 (I6.out.below B8.out) hn HF.out HRO.out).mono ?_
  rintro e w9 ⟨v9, rfl, ho9, hb9⟩
  obtain ⟨A9, c9, rfl, hr9, _, _⟩ := ho9.form
  have B9 := Lib.hid (B8.out.trans (hb9.mono B8.out.size))
  have R9 := Lib.hid hr9
  clear ho9 hb9 hr9
  go_wp2_with fail
  refine (refClosure_at HCL.out A n c w9 (S6.out.below B9.out) hn).mono ?_
  rintro e w10 ⟨v10, rfl, ho10, hb10⟩
  obtain ⟨A10, c10, rfl, hr10, _, _⟩ := ho10.form
  have B10 := Lib.hid (B9.out.trans (hb10.mono B9.out.size))
  have R10 := Lib.hid hr10
  have R9' := Lib.hid (R9.out.below hb10)
  clear ho10 hb10 hr10 R9
  go_wp2_with fail
  refine (SameTexts_any A9 A10 cl.length c9 c10 cl w10 R9'.out R10.out (by omega)).mono ?_
  rintro e w11 ⟨rfl, hb11⟩
  have B11 := Lib.hid (B10.out.trans (hb11.mono B10.out.size))
  have O3b : Hid (w11.ownsRow w2.heap.size 52 2 (.slice A3 out1'.length c3) out1'.length (out1'.flatMap EM)) := Lib.hid (O3.out.below B11.out)
  have O5b : Hid (w11.ownsRow w4.heap.size 52 2 (.slice A5 out3'.length c5) out3'.length (out3'.flatMap EM)) := Lib.hid (O5.out.below B11.out)
  have B2L := Lib.hid (HB6.out.trans (B11.out.mono HB6.out.size))
  have Z3 : Hid (w2.heap.size ≤ w4.heap.size ∧ w4.heap.size ≤ w11.heap.size) := Lib.hid ⟨HB4.out.size, Nat.le_trans H46.out.size B11.out.size⟩
  clear hb11 R3 R4 R5 R6 te1 te3
  go_wp2_with fail
  go_loopw [16] (fun i wr => ∃ (j : Nat) (xs : List Value), j ≤ out1'.length ∧ i = .int .i64 (j : Int) ∧ wr.ownsRow w2.heap.size 52 2 (.slice A3 out1'.length c3) out1'.length xs ∧ Off (fun k => w2.heap.size ≤ k ∧ k < w4.heap.size) w11 wr) (fun i _ => out1'.length - (intOf i).toNat)
  case atStart => exact ⟨0, _, Nat.zero_le _, rfl, O3b.out, Off.refl _ _⟩
  case round =>
    clear O3b
    obtain ⟨j, xs, hj, rfl, how, hof⟩ := hrel
    have HOW := Lib.hid how
    have HOF := Lib.hid hof
    by_cases hlt : j < out1'.length
    · have t1 : decide ((j : Int) < (out1'.length : Int)) = true := decide_eq_true (by omega)
      have t2 : decide (j < out1'.length) = true := decide_eq_true hlt
      have i0' : (0 : Int) ≤ (j : Int) := Int.natCast_nonneg _
      have i1' : (j : Int) < (out1'.length : Int) := by omega
      obtain ⟨g, cc, e, hbg, _⟩ := own_blockK how (by omega)
      cases e
      have hg4 := Nat.lt_of_lt_of_le (HLT3.out g rfl).2 HW34.out
      obtain ⟨u, y0⟩ := own_cellK how (j := j * 2) (by omega)
      have f0 := own_frozen how (j * 2)
      have HN := Lib.hid (own_setK how (j * 2) (.string ⟨#[115, 112, 111, 105, 108, 116]⟩))
      have HOF2 := Lib.hid (hof.setCell (g := g) (j := j * 2) (.string ⟨#[115, 112, 111, 105, 108, 116]⟩) ⟨hbg, hg4⟩)
      have hLb := HL3.out
      clear how hof
      go_wp2_with fail
      go_roundw
      case rel => exact ⟨j + 1, _, by omega, by go_num, HN.out, HOF2.out⟩
      case measure => simp [intOf]; omega
    · have hje : j = out1'.length := by omega
      have t1 : decide ((j : Int) < (out1'.length : Int)) = false := decide_eq_false (by omega)
      have t2 : decide (j < out1'.length) = false := decide_eq_false (by omega)
      clear how hof hlt
      have O5c : Hid (wr.ownsRow w4.heap.size 52 2 (.slice A5 out3'.length c5) out3'.length (out3'.flatMap EM)) := Lib.hid (ownsRow_off O5b.out HOF.out (fun k hk hS => by have := (World.ownsRow.lt O5b.out k hk).1; omega))
      have BX := Lib.hid (HOF.out.below (fun k hk => hk.1) (Nat.le_trans Z3.out.1 Z3.out.2))
      have ZW : Hid (w4.heap.size ≤ wr.heap.size) := Lib.hid (Nat.le_trans Z3.out.2 HOF.out.size)
      clear HOW HOF O5b hje hj
      generalize hw12 : wr = w12 at *
      clear hw12
      go_wp2_with fail
      go_loopw [17] (fun i wr => ∃ (j : Nat) (xs : List Value), j ≤ out3'.length ∧ i = .int .i64 (j : Int) ∧ wr.ownsRow w4.heap.size 52 2 (.slice A5 out3'.length c5) out3'.length xs ∧ Off (fun k => w4.heap.size ≤ k) w12 wr) (fun i _ => out3'.length - (intOf i).toNat)
      case atStart => exact ⟨0, _, Nat.zero_le _, rfl, O5c.out, Off.refl _ _⟩
      case round =>
        clear O5c
        obtain ⟨j, xs, hj, rfl, how, hof⟩ := hrel
        have HOW := Lib.hid how
        have HOF := Lib.hid hof
        by_cases hlt : j < out3'.length
        · have t1 : decide ((j : Int) < (out3'.length : Int)) = true := decide_eq_true (by omega)
          have t2 : decide (j < out3'.length) = true := decide_eq_true hlt
          have i0' : (0 : Int) ≤ (j : Int) := Int.natCast_nonneg _
          have i1' : (j : Int) < (out3'.length : Int) := by omega
          obtain ⟨g, cc, e, hbg, _⟩ := own_blockK how (by omega)
          cases e
          have hg4 := hbg
          obtain ⟨u, y0⟩ := own_cellK how (j := j * 2) (by omega)
          have f0 := own_frozen how (j * 2)
          have HN := Lib.hid (own_setK how (j * 2) (.string ⟨#[115, 112, 111, 105, 108, 116]⟩))
          have HOF2 := Lib.hid (hof.setCell (g := g) (j := j * 2) (.string ⟨#[115, 112, 111, 105, 108, 116]⟩) hbg)
          have hLb := HL5.out
          clear how hof
          go_wp2_with fail
          go_roundw
          case rel => exact ⟨j + 1, _, by omega, by go_num, HN.out, HOF2.out⟩
          case measure => simp [intOf]; omega
        · have hje : j = out3'.length := by omega
          have t1 : decide ((j : Int) < (out3'.length : Int)) = false := decide_eq_false (by omega)
          have t2 : decide (j < out3'.length) = false := decide_eq_false (by omega)
          clear how hof hlt
          have BY := Lib.hid (B2L.out.trans (BX.out.trans (HOF.out.below (fun k hk => Nat.le_trans Z3.out.1 hk) (Nat.le_trans Z3.out.1 ZW.out))))
          clear HOW HOF hje hj
          go_wp2_with fail
          refine (SameMembers_any A2 A n c2 c l wr (HI2.out.below BY.out) (HS2.out.below BY.out) (by omega)).mono ?_
          rintro e w20 ⟨rfl, hb20⟩
          have B20 := Lib.hid (BY.out.trans (hb20.mono BY.out.size))
          clear hb20
          go_wp2_with fail
          refine (awake21_any w20).mono ?_
          rintro e w21 ⟨rfl, hb21⟩
          have B21 := Lib.hid (HB2.out.trans ((B20.out.trans (hb21.mono B20.out.size)).mono HB2.out.size))
          clear hb21
          go_wp2_with fail
          go_ret
          exact ⟨rfl, B21.out⟩

end Go.Proofs.Ytfgkadkmgciamaa
