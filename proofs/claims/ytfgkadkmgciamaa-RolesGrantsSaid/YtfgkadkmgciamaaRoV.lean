/-
  The document's optional, Has, May, alike.
-/
import Derived.Test.YtfgkadkmgciamaaRoR
namespace Go.Proofs.Ytfgkadkmgciamaa
open Go Go.RowKit

theorem any_take {α : Type} {l : List α} {k : Nat} {x : α} (p : α → Bool) (h : l[k]? = some x) : (l.take (k + 1)).any p = ((l.take k).any p || p x) := by
  rw [take_snoc h, List.any_append]; simp

set_option maxRecDepth 100000 in
set_option maxHeartbeats 1000000 in
theorem refOptional_any (A : Option Addr) (n c : Nat) (l : List Gr) (role tb : Str) (pv : Int) (w : World) (h : ER EG 5 w A n l) (hn : n ≤ 9223372036854775807) :
    Calls Try.prog 47 #[.slice A n c, .string ⟨role.toArray⟩, .string ⟨tb.toArray⟩, .int .u8 pv] w fun e w' => e = .returned (.bool (mayGiveL l role tb pv)) ∧ w = w' := by
  have HS := Lib.hid h
  have HL := Lib.hid h.1
  have HR : Hid (mayGiveL l role tb pv = l.any fun g => g.tb == tb && g.pv == pv && g.op && g.gt == role) := Lib.hid rfl
  generalize mayGiveL l role tb pv = r at *
  clear h
  go_enter Try.func47, Try.ntmps47
  go_wp2_with fail
  go_loopw [9] (fun i wr => ∃ (k : Nat), k ≤ n ∧ i = .int .i64 (k : Int) ∧ wr = w ∧ Hid (((l.take k).any fun g => g.tb == tb && g.pv == pv && g.op && g.gt == role) = false)) (fun i _ => n - (intOf i).toNat)
  case atStart => exact ⟨0, Nat.zero_le _, rfl, rfl, Lib.hid (by simp)⟩
  case round =>
    obtain ⟨k, hk, rfl, rfl, HK⟩ := hrel
    by_cases hlt : k < n
    · have t1 : decide ((k : Int) < (n : Int)) = true := decide_eq_true (by omega)
      have t2 : decide (k < n) = true := decide_eq_true hlt
      have i0 : (0 : Int) ≤ (k : Int) := Int.natCast_nonneg _
      have i1 : (k : Int) < (n : Int) := by omega
      obtain ⟨g, o, x, rfl, hx, q0, q1, q2, q3, q4⟩ := HS.out.atGr hlt
      have HX := Lib.hid (any_take (fun g => g.tb == tb && g.pv == pv && g.op && g.gt == role) hx)
      have HXM := Lib.hid (List.mem_of_getElem? hx)
      obtain ⟨s0, hs0⟩ : ∃ r, r = (x.tb == tb) := ⟨_, rfl⟩
      obtain ⟨s1, hs1⟩ : ∃ r, r = (x.pv == pv) := ⟨_, rfl⟩
      obtain ⟨s2, hs2⟩ : ∃ r, r = (x.gt == role) := ⟨_, rfl⟩
      obtain ⟨s3, hs3⟩ : ∃ r, r = x.op := ⟨_, rfl⟩
      have e0 : (x.tb == tb) = s0 := hs0.symm
      have e1 : (x.pv == pv) = s1 := hs1.symm
      have e2 : (x.gt == role) = s2 := hs2.symm
      rw [← hs3] at q4
      have HP : Hid ((x.tb == tb && x.pv == pv && x.op && x.gt == role) = (s0 && s1 && s3 && s2)) := Lib.hid (by rw [hs0, hs1, hs2, hs3])
      clear hs0 hs1 hs2 hs3 hx
      cases s0
      · go_wp2_with fail
        go_roundw
        case rel => exact ⟨k + 1, by omega, by go_num, by trivial, Lib.hid (by rw [HX.out, HK.out]; show (x.tb == tb && x.pv == pv && x.op && x.gt == role) = false; rw [HP.out]; simp)⟩
        case measure => simp [intOf]; omega
      · cases s1
        · have tp : ¬ x.pv = pv := fun h => by rw [h] at e1; simp at e1
          go_wp2_with fail
          go_roundw
          case rel => exact ⟨k + 1, by omega, by go_num, by trivial, Lib.hid (by rw [HX.out, HK.out]; show (x.tb == tb && x.pv == pv && x.op && x.gt == role) = false; rw [HP.out]; simp)⟩
          case measure => simp [intOf]; omega
        · have tp : x.pv = pv := beq_iff_eq.1 e1
          cases s2
          · go_wp2_with fail
            go_roundw
            case rel => exact ⟨k + 1, by omega, by go_num, by trivial, Lib.hid (by rw [HX.out, HK.out]; show (x.tb == tb && x.pv == pv && x.op && x.gt == role) = false; rw [HP.out]; simp)⟩
            case measure => simp [intOf]; omega
          · cases s3
            · go_wp2_with fail
              go_roundw
              case rel => exact ⟨k + 1, by omega, by go_num, by trivial, Lib.hid (by rw [HX.out, HK.out]; show (x.tb == tb && x.pv == pv && x.op && x.gt == role) = false; rw [HP.out]; simp)⟩
              case measure => simp [intOf]; omega
            · go_wp2_with fail
              go_ret
              refine ⟨?_, rfl⟩
              have e9 : (l.any fun g => g.tb == tb && g.pv == pv && g.op && g.gt == role) = true := List.any_eq_true.2 ⟨x, HXM.out, HP.out⟩
              rw [HR.out, e9]
              rfl
    · obtain rfl : k = n := by omega
      have t1 : decide ((k : Int) < (k : Int)) = false := decide_eq_false (by omega)
      go_wp2_with fail
      go_ret
      refine ⟨?_, rfl⟩
      have := HK.out
      rw [List.take_of_length_le (by have := HL.out; omega)] at this
      rw [HR.out, this]
      rfl

set_option maxRecDepth 100000 in
set_option maxHeartbeats 1000000 in
theorem refHas_any (A C : Option Addr) (n c m d : Nat) (l : List Gr) (cl : List Str) (ow tb : Str) (pv : Int) (w : World) (h : ER EG 5 w A n l) (hc : ER ES 1 w C m cl) (hn : n ≤ 9223372036854775807) (hm : m ≤ 9223372036854775807) :
    Calls Try.prog 21 #[.slice A n c, .slice C m d, .string ⟨ow.toArray⟩, .string ⟨tb.toArray⟩, .int .u8 pv] w fun e w' => e = .returned (.bool (hasL l cl ow tb pv)) ∧ w = w' := by
  have HS := Lib.hid h
  have HL := Lib.hid h.1
  have HIN := Lib.hid (fun s => In_any C m d cl s w (SL_of_ER hc) hm)
  have HR : Hid (hasL l cl ow tb pv = (cl.contains ow || l.any fun g => g.tb == tb && g.pv == pv && cl.contains g.gt)) := Lib.hid rfl
  generalize hasL l cl ow tb pv = r at *
  obtain ⟨b0, hb0⟩ : ∃ r, r = cl.contains ow := ⟨_, rfl⟩
  have HI0 := Lib.hid (HIN.out ow)
  rw [← hb0] at HR HI0
  clear h hc hb0
  go_enter Try.func21, Try.ntmps21
  go_wp2_with fail
  refine HI0.out.mono ?_
  rintro e w2 ⟨rfl, rfl⟩
  cases b0
  · go_wp2_with fail
    go_loopw [11] (fun i wr => ∃ (k : Nat), k ≤ n ∧ i = .int .i64 (k : Int) ∧ wr = w ∧ Hid (((l.take k).any fun g => g.tb == tb && g.pv == pv && cl.contains g.gt) = false)) (fun i _ => n - (intOf i).toNat)
    case atStart => exact ⟨0, Nat.zero_le _, rfl, rfl, Lib.hid (by simp)⟩
    case round =>
      obtain ⟨k, hk, rfl, rfl, HK⟩ := hrel
      by_cases hlt : k < n
      · have t1 : decide ((k : Int) < (n : Int)) = true := decide_eq_true (by omega)
        have t2 : decide (k < n) = true := decide_eq_true hlt
        have i0 : (0 : Int) ≤ (k : Int) := Int.natCast_nonneg _
        have i1 : (k : Int) < (n : Int) := by omega
        obtain ⟨g, o, x, rfl, hx, q0, q1, q2, q3, q4⟩ := HS.out.atGr hlt
        have HX := Lib.hid (any_take (fun g => g.tb == tb && g.pv == pv && cl.contains g.gt) hx)
        have HXM := Lib.hid (List.mem_of_getElem? hx)
        have HI1 := Lib.hid (HIN.out x.gt)
        obtain ⟨s0, hs0⟩ : ∃ r, r = (x.tb == tb) := ⟨_, rfl⟩
        obtain ⟨s1, hs1⟩ : ∃ r, r = (x.pv == pv) := ⟨_, rfl⟩
        obtain ⟨s2, hs2⟩ : ∃ r, r = cl.contains x.gt := ⟨_, rfl⟩
        have e0 : (x.tb == tb) = s0 := hs0.symm
        have e1 : (x.pv == pv) = s1 := hs1.symm
        rw [← hs2] at HI1
        have HP : Hid ((x.tb == tb && x.pv == pv && cl.contains x.gt) = (s0 && s1 && s2)) := Lib.hid (by rw [hs0, hs1, hs2])
        clear hs0 hs1 hs2 hx
        cases s0
        · go_wp2_with fail
          go_roundw
          case rel => exact ⟨k + 1, by omega, by go_num, by trivial, Lib.hid (by rw [HX.out, HK.out]; show (x.tb == tb && x.pv == pv && cl.contains x.gt) = false; rw [HP.out]; simp)⟩
          case measure => simp [intOf]; omega
        · cases s1
          · have tp : ¬ x.pv = pv := fun h => by rw [h] at e1; simp at e1
            go_wp2_with fail
            go_roundw
            case rel => exact ⟨k + 1, by omega, by go_num, by trivial, Lib.hid (by rw [HX.out, HK.out]; show (x.tb == tb && x.pv == pv && cl.contains x.gt) = false; rw [HP.out]; simp)⟩
            case measure => simp [intOf]; omega
          · have tp : x.pv = pv := beq_iff_eq.1 e1
            go_wp2_with fail
            refine HI1.out.mono ?_
            rintro e w3 ⟨rfl, rfl⟩
            cases s2
            · go_wp2_with fail
              go_roundw
              case rel => exact ⟨k + 1, by omega, by go_num, by trivial, Lib.hid (by rw [HX.out, HK.out]; show (x.tb == tb && x.pv == pv && cl.contains x.gt) = false; rw [HP.out]; simp)⟩
              case measure => simp [intOf]; omega
            · go_wp2_with fail
              go_ret
              refine ⟨?_, rfl⟩
              have e9 : (l.any fun g => g.tb == tb && g.pv == pv && cl.contains g.gt) = true := List.any_eq_true.2 ⟨x, HXM.out, HP.out⟩
              rw [HR.out, e9]
              rfl
      · obtain rfl : k = n := by omega
        have t1 : decide ((k : Int) < (k : Int)) = false := decide_eq_false (by omega)
        go_wp2_with fail
        go_ret
        refine ⟨?_, rfl⟩
        have := HK.out
        rw [List.take_of_length_le (by have := HL.out; omega)] at this
        rw [HR.out, this]
        rfl
  · go_wp2_with fail
    go_ret
    exact ⟨by rw [HR.out]; rfl, rfl⟩

theorem find_take {α : Type} {l : List α} {k : Nat} {x : α} {p : α → Bool} (h : l[k]? = some x) (h0 : (l.take k).any p = false) (hp : p x = true) : l.find? p = some x := by
  induction l generalizing k with
  | nil => simp at h
  | cons y l ih =>
    cases k with
    | zero => simp at h; subst h; simp [hp]
    | succ k =>
      simp only [List.take_succ_cons, List.any_cons, Bool.or_eq_false_iff] at h0
      rw [List.find?_cons, h0.1]
      exact ih h h0.2
theorem find_no {α : Type} {l : List α} {p : α → Bool} (h0 : l.any p = false) : l.find? p = none := by
  rw [List.find?_eq_none]
  intro x hx hp
  rw [List.any_eq_true.2 ⟨x, hx, hp⟩] at h0
  cases h0

set_option maxRecDepth 100000 in
set_option maxHeartbeats 1000000 in
theorem refMay_any (A C : Option Addr) (n c m d : Nat) (l : List Gr) (cl : List Str) (ow tb : Str) (pv : Int) (w : World) (h : ER EG 5 w A n l) (hc : ER ES 1 w C m cl) (hn : n ≤ 9223372036854775807) (hm : m ≤ 9223372036854775807) :
    Calls Try.prog 19 #[.slice A n c, .slice C m d, .string ⟨ow.toArray⟩, .string ⟨tb.toArray⟩, .int .u8 pv] w fun e w' => e = .returned (.tuple #[.string ⟨(mayL l cl ow tb pv).1.toArray⟩, .bool (mayL l cl ow tb pv).2]) ∧ w = w' := by
  have HC := Lib.hid hc
  have HCL := Lib.hid hc.1
  have HO := Lib.hid (fun r => refOptional_any A n c l r tb pv w h hn)
  have HI0 := Lib.hid (In_any C m d cl ow w (SL_of_ER hc) hm)
  obtain ⟨b0, hb0⟩ : ∃ r, r = cl.contains ow := ⟨_, rfl⟩
  rw [← hb0] at HI0
  have HR : Hid (mayL l cl ow tb pv = if b0 then (ow, true) else match cl.find? (fun r => mayGiveL l r tb pv) with
    | some r => (r, true)
    | none => ([], false)) := Lib.hid (by rw [hb0]; rfl)
  generalize mayL l cl ow tb pv = res at *
  clear h hc hb0
  go_enter Try.func19, Try.ntmps19
  go_wp2_with fail
  refine HI0.out.mono ?_
  rintro e w2 ⟨rfl, rfl⟩
  cases b0
  · go_wp2_with fail
    go_loopw [12] (fun i wr => ∃ (k : Nat), k ≤ m ∧ i = .int .i64 (k : Int) ∧ wr = w ∧ Hid (((cl.take k).any fun r => mayGiveL l r tb pv) = false)) (fun i _ => m - (intOf i).toNat)
    case atStart => exact ⟨0, Nat.zero_le _, rfl, rfl, Lib.hid (by simp)⟩
    case round =>
      obtain ⟨k, hk, rfl, rfl, HK⟩ := hrel
      by_cases hlt : k < m
      · have t1 : decide ((k : Int) < (m : Int)) = true := decide_eq_true (by omega)
        have t2 : decide (k < m) = true := decide_eq_true hlt
        have i0 : (0 : Int) ≤ (k : Int) := Int.natCast_nonneg _
        have i1 : (k : Int) < (m : Int) := by omega
        obtain ⟨g, o, x, rfl, hx, q0⟩ := HC.out.atStr hlt
        have HXX := Lib.hid hx
        have HX := Lib.hid (any_take (fun r => mayGiveL l r tb pv) hx)
        have HI1 := Lib.hid (HO.out x)
        obtain ⟨s0, hs0⟩ : ∃ r, r = mayGiveL l x tb pv := ⟨_, rfl⟩
        rw [← hs0] at HI1
        have HP := Lib.hid hs0
        clear hs0 hx
        go_wp2_with fail
        refine HI1.out.mono ?_
        rintro e w3 ⟨rfl, rfl⟩
        cases s0
        · go_wp2_with fail
          go_roundw
          case rel => exact ⟨k + 1, by omega, by go_num, by trivial, Lib.hid (by rw [HX.out, HK.out, ← HP.out]; rfl)⟩
          case measure => simp [intOf]; omega
        · go_wp2_with fail
          go_ret2
          refine ⟨?_, rfl⟩
          rw [HR.out, find_take HXX.out HK.out HP.out.symm]
          rfl
      · obtain rfl : k = m := by omega
        have t1 : decide ((k : Int) < (k : Int)) = false := decide_eq_false (by omega)
        go_wp2_with fail
        go_ret2
        refine ⟨?_, rfl⟩
        have := HK.out
        rw [List.take_of_length_le (by have := HCL.out; omega)] at this
        rw [HR.out, find_no this]
        rfl
  · go_wp2_with fail
    go_ret2
    exact ⟨by rw [HR.out]; rfl, rfl⟩

set_option maxRecDepth 100000 in
set_option maxHeartbeats 1000000 in
theorem refAlike_any (a b : Gr) (w : World) : Calls Try.prog 48 #[.agg #[.string ⟨a.tb.toArray⟩, .int .u8 a.pv, .string ⟨a.gt.toArray⟩, .string ⟨a.gb.toArray⟩, .bool a.op], .agg #[.string ⟨b.tb.toArray⟩, .int .u8 b.pv, .string ⟨b.gt.toArray⟩, .string ⟨b.gb.toArray⟩, .bool b.op]] w fun e w' => e = .returned (.bool (alikeB a b)) ∧ Below w.heap.size w w' := by
  have HA := Lib.hid (gr_alloc (gr_refl w) (.cells #[.string ⟨a.tb.toArray⟩, .int .u8 a.pv, .string ⟨a.gt.toArray⟩, .string ⟨a.gb.toArray⟩, .bool a.op] 30))
  have HCA := Lib.hid (heap_alloc_new w (.cells #[.string ⟨a.tb.toArray⟩, .int .u8 a.pv, .string ⟨a.gt.toArray⟩, .string ⟨a.gb.toArray⟩, .bool a.op] 30))
  have HSA : Hid ((w.alloc (.cells #[.string ⟨a.tb.toArray⟩, .int .u8 a.pv, .string ⟨a.gt.toArray⟩, .string ⟨a.gb.toArray⟩, .bool a.op] 30)).heap.size = w.heap.size + 1) := Lib.hid (World.size_alloc _ _)
  obtain ⟨s0, hs0⟩ : ∃ r, r = (a.tb == b.tb) := ⟨_, rfl⟩
  obtain ⟨s1, hs1⟩ : ∃ r, r = (a.pv == b.pv) := ⟨_, rfl⟩
  obtain ⟨s2, hs2⟩ : ∃ r, r = (a.gt == b.gt) := ⟨_, rfl⟩
  obtain ⟨s3, hs3⟩ : ∃ r, r = (a.gb == b.gb) := ⟨_, rfl⟩
  have e0 : (a.tb == b.tb) = s0 := hs0.symm
  have e1 : (a.pv == b.pv) = s1 := hs1.symm
  have e2 : (a.gt == b.gt) = s2 := hs2.symm
  have e3 : (a.gb == b.gb) = s3 := hs3.symm
  have HP : Hid (alikeB a b = (s0 && s1 && s2 && s3)) := Lib.hid (by unfold alikeB; rw [hs0, hs1, hs2, hs3])
  clear hs0 hs1 hs2 hs3
  go_enter Try.func48, Try.ntmps48
  go_upto_region 1 with fail
  generalize w.alloc (.cells #[.string ⟨a.tb.toArray⟩, .int .u8 a.pv, .string ⟨a.gt.toArray⟩, .string ⟨a.gb.toArray⟩, .bool a.op] 30) = w1 at *
  have HB := Lib.hid (gr_alloc (gr_refl w1) (.cells #[.string ⟨b.tb.toArray⟩, .int .u8 b.pv, .string ⟨b.gt.toArray⟩, .string ⟨b.gb.toArray⟩, .bool b.op] 30))
  have HCB := Lib.hid (heap_alloc_new w1 (.cells #[.string ⟨b.tb.toArray⟩, .int .u8 b.pv, .string ⟨b.gt.toArray⟩, .string ⟨b.gb.toArray⟩, .bool b.op] 30))
  have hs1 := HSA.out
  generalize w1.alloc (.cells #[.string ⟨b.tb.toArray⟩, .int .u8 b.pv, .string ⟨b.gt.toArray⟩, .string ⟨b.gb.toArray⟩, .bool b.op] 30) = w2 at *
  rw [hs1] at *
  have HBB : Hid (Below w.heap.size w w2) := Lib.hid (HA.out.trans (HB.out.mono (by omega)))
  obtain ⟨a0, a1, a2, a3, a4⟩ := cells5 ((HB.out.block w.heap.size (by rw [hs1]; omega)).trans HCA.out)
  obtain ⟨b0, b1, b2, b3, b4⟩ := cells5 HCB.out
  clear HA HB HCA HCB HSA hs1
  cases s0
  · go_wp2_with fail
    go_ret
    exact ⟨by rw [HP.out]; rfl, HBB.out⟩
  · cases s1
    · have tp : ¬ a.pv = b.pv := fun h => by rw [h] at e1; simp at e1
      go_wp2_with fail
      go_ret
      exact ⟨by rw [HP.out]; rfl, HBB.out⟩
    · have tp : a.pv = b.pv := beq_iff_eq.1 e1
      cases s2
      · go_wp2_with fail
        go_ret
        exact ⟨by rw [HP.out]; rfl, HBB.out⟩
      · cases s3
        · go_wp2_with fail
          go_ret
          exact ⟨by rw [HP.out]; rfl, HBB.out⟩
        · go_wp2_with fail
          go_ret
          exact ⟨by rw [HP.out]; rfl, HBB.out⟩

end Go.Proofs.Ytfgkadkmgciamaa
