/-
  Contract: snapshot's New, where it makes a table.
-/
import Derived.Test.YtjopobkcijkpmaaSnH
namespace Go.Proofs.Ytjopobkcijkpmaa
open Go.RowKit

/-- The dead ones. -/
def deadW (l : List Int) (k : Int) : Option (Int × Int) := if k ∈ l then some (4, 0) else none
def newT (n : Int) (l : List Int) : TabS := ⟨n, n, 0, deadW l, [], l⟩

/-- The dead ones are rising, above a and below n. -/
def Rise (a n : Int) (l : List Int) : Prop := ∀ k, k < l.length → (if k = 0 then a else l.getD (k - 1) 0) < l.getD k 0 ∧ l.getD k 0 < n

theorem deadW_snoc {l : List Int} {k : Nat} (h : k < l.length) : deadW (l.take (k + 1)) = upd (deadW (l.take k)) (l.getD k 0) (4, 0) := by
  funext j
  have e : l.getD k 0 = l[k] := by simp [List.getD, List.getElem?_eq_getElem h]
  simp only [deadW, upd, List.take_succ_eq_append_getElem h, List.mem_append, List.mem_singleton, e]
  by_cases hj : j = l[k]
  · rw [if_pos (.inr hj), if_pos hj]
  · by_cases hm : j ∈ l.take k
    · rw [if_pos (.inl hm), if_neg hj, if_pos hm]
    · rw [if_neg (fun h => h.elim hm hj), if_neg hj, if_neg hm]

/-- A table that is being made. -/
def TN (w : World) (g b : Nat) (n : Int) (dv : Value) : Prop := w.heap[g]? = some (.cells #[.pointer none, .int .i64 n, .int .i64 0, .int .i64 0, .map (some b), .slice none 0 0, dv] 106 (0, 0))
section
variable {w w' : World} {g b : Nat} {n : Int} {dv : Value}
theorem TN.lt (h : TN w g b n dv) : g < w.heap.size := (Array.getElem?_eq_some_iff.1 h).1
theorem TN.c0 (h : TN w g b n dv) : w.cell? ⟨g, 0, none⟩ = some (.pointer none) := by rw [cell_of_row w g 0 _ _ _ h]; rfl
theorem TN.c4 (h : TN w g b n dv) : w.cell? ⟨g, 4, none⟩ = some (.map (some b)) := by rw [cell_of_row w g 4 _ _ _ h]; rfl
theorem TN.c6 (h : TN w g b n dv) : w.cell? ⟨g, 6, none⟩ = some dv := by rw [cell_of_row w g 6 _ _ _ h]; rfl
theorem TN.frozen (h : TN w g b n dv) (j : Nat) : w.frozen? ⟨g, j, none⟩ = false := by unfold TN at h; simp [World.frozen?, h]
theorem TN.s6 (h : TN w g b n dv) (v : Value) : TN (w.setCell ⟨g, 6, none⟩ v) g b n v := by unfold TN at h ⊢; simp only [World.setCell, Array.getElem?_modify, if_pos, h]; rfl
theorem TN.tb (h : TN w g b n dv) : TB (w.setCell ⟨g, 0, none⟩ (.pointer (some ⟨g, 0, none⟩))) g b n 0 0 (.slice none 0 0) dv := by unfold TN at h; unfold TB; simp only [World.setCell, Array.getElem?_modify, if_pos, h]; rfl
theorem TN.off {S : Nat → Prop} (h : TN w g b n dv) (ho : Off S w w') (hg : ¬ S g) : TN w' g b n dv := (ho.block g h.lt hg).trans h
end

set_option maxRecDepth 100000 in
set_option maxHeartbeats 2000000 in
theorem NewT_any (n : Int) (A : Option Addr) (m c : Nat) (l : List Int) (w : World) (ha : IR w A m l) (h1 : 1 ≤ n) (h2 : n ≤ 4611686018427387904) (hm : m ≤ 64) (hr : Rise 0 n l) :
    Calls Try.prog 30 #[.int .i64 n, .slice A m c] w fun e w' => ∃ g F, e = .returned (.tuple #[.pointer (some ⟨g, 0, none⟩), .int .i64 0]) ∧ IsT w' w.heap.size g F (newT n l) ∧ Below w.heap.size w w' := by
  have t1 : decide (n < 1) = false := by simp; omega
  have t2 : decide ((4611686018427387904 : Int) < n) = false := by simp; omega
  have t3 : decide ((64 : Int) < (m : Int)) = false := by simp; omega
  have hmm := @run_makeMap Try.prog
  have HL := Lib.hid ha.len
  have HR := Lib.hid hr
  obtain ⟨i0, hi0, hz0, hz1, hz2⟩ := info_parts info_int
  clear hr
  go_enter Try.func30, Try.ntmps30
  go_wp2_with fail
  have hb0 : Below w.heap.size w ((w.alloc (.map #[] 0)).alloc (.cells #[.pointer none, .int .i64 n, .int .i64 0, .int .i64 0, .map (some w.heap.size), .slice none 0 0, .slice none 0 0] 106)) := gr_alloc (gr_alloc (gr_refl w) _) _
  have hn0 : TN ((w.alloc (.map #[] 0)).alloc (.cells #[.pointer none, .int .i64 n, .int .i64 0, .int .i64 0, .map (some w.heap.size), .slice none 0 0, .slice none 0 0] 106)) (w.heap.size + 1) w.heap.size n (.slice none 0 0) := by
    have := heap_alloc_new (w.alloc (.map #[] 0)) (.cells #[.pointer none, .int .i64 n, .int .i64 0, .int .i64 0, .map (some w.heap.size), .slice none 0 0, .slice none 0 0] 106)
    rw [World.size_alloc] at this
    exact this
  have hm0 : MI ((w.alloc (.map #[] 0)).alloc (.cells #[.pointer none, .int .i64 n, .int .i64 0, .int .i64 0, .map (some w.heap.size), .slice none 0 0, .slice none 0 0] 106)) w.heap.size (deadW []) := (MI.made w).below (gr_alloc (gr_refl _) _)
  generalize ((w.alloc (.map #[] 0)).alloc (.cells #[.pointer none, .int .i64 n, .int .i64 0, .int .i64 0, .map (some w.heap.size), .slice none 0 0, .slice none 0 0] 106)) = W0 at *
  clear hmm
  go_loopw [7, 27] (fun a i wr => ∃ (k : Nat) (av : Int) (dv : Value), k ≤ m ∧ i = .int .i64 k ∧ a = .int .i64 av ∧ Hid (av = if k = 0 then 0 else l.getD (k - 1) 0) ∧ TN wr (w.heap.size + 1) w.heap.size n dv ∧ MI wr w.heap.size (deadW (l.take k)) ∧ wr.ownsRow w.heap.size 3 1 dv k ((l.take k).map (Value.int .i64)) ∧ Below w.heap.size w wr) (fun _ i _ => m - (intOf i).toNat)
  case atStart => exact ⟨0, 0, _, by omega, rfl, rfl, Lib.hid rfl, hn0, hm0, ⟨rfl, .inl ⟨rfl, rfl⟩⟩, hb0⟩
  case round =>
    clear hn0 hm0 hb0
    obtain ⟨k, av, dv, hk, rfl, rfl, HAV, hTN, hMI, hown, hb⟩ := hrel
    obtain ⟨Ad, cd, rfl, _, _⟩ := own_form hown
    by_cases hlt : k < m
    · have q1 : decide ((k : Int) < (m : Int)) = true := by simp; omega
      have q1' : decide (k < m) = true := by simp; omega
      obtain ⟨ga, oa, rfl, hca⟩ := (ha.below hb).at_ (k := k) hlt
      have hkl : k < l.length := by rw [HL.out]; exact hlt
      obtain ⟨r1, r2⟩ := HR.out k hkl
      rw [← HAV.out] at r1
      have hav : 0 ≤ av := by
        rw [HAV.out]
        by_cases e : k = 0
        · rw [if_pos e]; omega
        · rw [if_neg e]
          have hx : ∀ j, j < l.length → 0 < l.getD j 0 := by
            intro j
            induction j with
            | zero => intro hj; have := (HR.out 0 hj).1; rw [if_pos rfl] at this; exact this
            | succ j ih => intro hj; have := (HR.out (j + 1) hj).1; rw [if_neg (by omega), Nat.add_sub_cancel] at this; have := ih (by omega); omega
          have := hx (k - 1) (by omega)
          omega
      have HSN := Lib.hid (deadW_snoc hkl)
      have HTK : Hid ((l.take (k + 1)).map (Value.int .i64) = (l.take k).map (Value.int .i64) ++ [.int .i64 (l.getD k 0)]) := Lib.hid (by
        rw [List.take_succ_eq_append_getElem hkl, List.map_append]
        simp [List.getD, List.getElem?_eq_getElem hkl])
      have HAV' : Hid (l.getD k 0 = if k + 1 = 0 then 0 else l.getD (k + 1 - 1) 0) := Lib.hid (by rw [if_neg (by omega), Nat.add_sub_cancel])
      generalize l.getD k 0 = x at *
      have q2 : decide (x ≤ av) = false := by simp; omega
      have q3 : decide (n ≤ x) = false := by simp; omega
      obtain ⟨w2, hrun, hm2, hg2⟩ := hMI.put (k := x) (by omega) (by omega) (4, 0)
      have hrun' : (Instr.mapUpdate 104 (.map (some w.heap.size)) (.int .i64 x) (.agg #[.int .u8 4, .int .i64 0])).run Try.prog wr = .ok () w2 := hrun
      have o2 : Off (· = w.heap.size) wr w2 := Off.of_grown hg2 (fun k e => by injection e with e; exact e.symm)
      have hTN2 := hTN.off o2 (by omega)
      have bo := row_nm hown hMI
      have HOP : Hid (w2.ownsRow w.heap.size 3 1 (.slice Ad k cd) k ((l.take k).map (Value.int .i64))) := Lib.hid (ownsRow_off hown o2 (fun k e e' => bo (by rw [e, e'])))
      have hb2 : Below w.heap.size w w2 := hb.trans (o2.below (fun k e => by omega) hb.size)
      have c4 := hTN.c4
      have c6 := hTN2.c6
      have hs2 := hb2.size
      have HRD : Hid (Rd (w2.alloc (.cells #[.int .i64 x] 3)) 1 (some ⟨w2.heap.size, 0, none⟩) 1 [.int .i64 x]) := Lib.hid (Rd.new w2 _ #[_] 1 1 rfl)
      have HFIN : Hid (∀ (v4 : Value) (w4 : World), w4.ownsRow w.heap.size 3 1 v4 (k + 1) ((l.take k).map (Value.int .i64) ++ [.int .i64 x]) → (w2.alloc (.cells #[.int .i64 x] 3)).grownBy w4 (Value.slice Ad k cd).ownBlock →
          TN w4 (w.heap.size + 1) w.heap.size n (.slice Ad k cd) ∧ TN (w4.setCell ⟨w.heap.size + 1, 6, none⟩ v4) (w.heap.size + 1) w.heap.size n v4 ∧ MI (w4.setCell ⟨w.heap.size + 1, 6, none⟩ v4) w.heap.size (deadW (l.take (k + 1))) ∧
          (w4.setCell ⟨w.heap.size + 1, 6, none⟩ v4).ownsRow w.heap.size 3 1 v4 (k + 1) ((l.take (k + 1)).map (Value.int .i64)) ∧ Below w.heap.size w (w4.setCell ⟨w.heap.size + 1, 6, none⟩ v4)) := Lib.hid (fun v4 w4 k1 k2 => by
        have oa : Off (fun _ => False) w2 (w2.alloc (.cells #[.int .i64 x] 3)) := Off.of_below (gr_alloc (gr_refl w2) _)
        have o4 : Off (fun b => (Value.slice Ad k cd).ownBlock = some b) (w2.alloc (.cells #[.int .i64 x] 3)) w4 := Off.of_grown k2 (fun b e => e)
        have opA := ownsRow_off HOP.out oa (fun _ _ h => h)
        have tA := hTN2.off oa (fun h => h)
        have mA := hm2.off oa (fun h => h)
        have t4 := tA.off o4 (row_ne opA tA (by decide))
        have m4 := mA.off o4 (row_nm opA mA)
        have o5 : Off (· = w.heap.size + 1) w4 (w4.setCell ⟨w.heap.size + 1, 6, none⟩ v4) := (Off.refl _ w4).setCell _ rfl
        refine ⟨t4, t4.s6 v4, ?_, ?_, ?_⟩
        · rw [HSN.out]; exact m4.off o5 (by omega)
        · rw [HTK.out]; exact ownsRow_off k1 o5 (fun b e e' => row_ne k1 t4 (by decide) (by rw [e, e']))
        · refine Below.setCell ?_ (p := ⟨w.heap.size + 1, 6, none⟩) (by dsimp only; omega) _
          exact (gr_alloc hb2 _).grown k2 (by rw [World.size_alloc]; omega) (fun b e => (opA.lt b e).1))
      have hi0' : (0 : Int) ≤ (k : Int) := Int.natCast_nonneg _
      have hi1' : (k : Int) < (m : Int) := by omega
      have hmx : k + 1 ≤ maxLen := by simp only [maxLen]; omega
      clear hrun hm2 hg2 o2 hTN2 bo hMI hTN hown HSN HTK r1 r2 hkl hav
      go_wp2_with (at_builtin; refine wpList_append_Rd _ rfl (.tmp 50) (.tmp 52) _ rfl w.heap.size 3 i0 _ 1 8 Try.underlying22 hi0 hz0 hz1 hz2 rfl (.slice Ad k cd) k _ rfl (HOP.out.alloc _) (some ⟨w2.heap.size, 0, none⟩) 1 1 [.int .i64 x] rfl HRD.out (by simp [Value.oneCell']) (by omega) hmx (by rw [World.size_alloc]; omega) ?_; intro v4 w4 hown4 hg4 _ _; obtain ⟨f1, f2, f3, f4, f5⟩ := HFIN.out v4 w4 hown4 hg4; obtain ⟨Av, cv, rfl, _, _⟩ := own_form hown4; have x6 := f1.c6; have u6 := f1.frozen 6; clear f1 hown4 hg4)
      go_roundw
      case rel => exact ⟨k + 1, x, _, by omega, by go_num, rfl, HAV', f2, f3, f4, f5⟩
      case measure => simp [intOf]; omega
    · have q1 : decide ((k : Int) < (m : Int)) = false := by simp; omega
      have q1' : decide (k < m) = false := by simp; omega
      have hlk : l.take k = l := List.take_of_length_le (by rw [HL.out]; omega)
      rw [hlk] at hMI hown
      have c0 := hTN.c0
      have z0 := hTN.frozen 0
      have tb1 := hTN.tb
      have HST := Lib.hid (aStore_any ⟨w.heap.size + 1, 2, none⟩ n (.int .i64 0) _ tb1.c2 (tb1.frozen 2))
      have o5 : Off (· = w.heap.size + 1) wr ((wr.setCell ⟨w.heap.size + 1, 0, none⟩ (.pointer (some ⟨w.heap.size + 1, 0, none⟩))).setCell ⟨w.heap.size + 1, 2, none⟩ (.int .i64 n)) := ((Off.refl (fun x => x = w.heap.size + 1) wr).setCell _ rfl).setCell _ rfl
      have hkk : k = l.length := by rw [HL.out]; omega
      have HT : Hid (IsT ((wr.setCell ⟨w.heap.size + 1, 0, none⟩ (.pointer (some ⟨w.heap.size + 1, 0, none⟩))).setCell ⟨w.heap.size + 1, 2, none⟩ (.int .i64 n)) w.heap.size (w.heap.size + 1) (tfoot (w.heap.size + 1) w.heap.size (.slice none 0 0) (.slice Ad k cd)) (newT n l)) := Lib.hid (by
        refine ⟨w.heap.size, .slice none 0 0, .slice Ad k cd, ⟨tb1.s2 n, hMI.off o5 (by omega), ⟨rfl, .inl ⟨rfl, rfl⟩⟩, ?_, h1, h2, h1, h2, by simp [newT], ?_, fun x hx => by simp [newT] at hx, by omega, Nat.le_refl _, .inl rfl⟩, fun k => Iff.rfl⟩
        · show World.ownsRow _ _ _ _ _ l.length _
          rw [← hkk]
          exact ownsRow_off hown o5 (fun b e e' => row_ne hown hTN (by decide) (by rw [e, e']))
        · show l.length ≤ 64
          omega)
      have HB : Hid (Below w.heap.size w ((wr.setCell ⟨w.heap.size + 1, 0, none⟩ (.pointer (some ⟨w.heap.size + 1, 0, none⟩))).setCell ⟨w.heap.size + 1, 2, none⟩ (.int .i64 n))) := Lib.hid (hb.trans (o5.below (fun k e => by omega) hb.size))
      clear hTN hMI hown tb1 o5 hkk hlk
      go_wp2_with fail
      refine HST.out.mono ?_
      rintro e w' ⟨⟨x, rfl⟩, rfl⟩
      go_wp2_with fail
      go_ret2
      exact ⟨_, _, rfl, HT.out, HB.out⟩

end Go.Proofs.Ytjopobkcijkpmaa
