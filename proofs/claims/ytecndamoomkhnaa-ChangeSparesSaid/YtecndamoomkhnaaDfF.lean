/-
  chanceryref08.Apply.
-/
import Derived.Test.YtecndamoomkhnaaDfE
namespace Go.Proofs.Ytecndamoomkhnaa
open Go.RowKit

section
variable {w : World} {base g n cap : Nat} {l : List UInt8}
theorem OB.cur (h : OB w base (.slice (some ⟨g, 0, none⟩) n cap) l) (hn : l.length = n) : ∃ cur : Array Value, w.heap[g]? = some (.cells cur 5 (0, 0)) ∧ base ≤ g ∧ n ≤ cap ∧ cap ≤ maxLen ∧ cur.size = cap ∧ cur.toList.take n = l.map bv := by
  rcases h.2 with ⟨e, _⟩ | ⟨g', cap', cur, e, hb, hg, hnc, hm, hcu, ht⟩
  · cases e
  · injection e with e1 e2 e3
    injection e1 with e1
    injection e1 with e1
    subst e1 e3
    exact ⟨cur, hg, hb, by omega, hm, by simpa using hcu, by rw [← ht, hn]; simp⟩
theorem OB.cell (h : OB w base (.slice (some ⟨g, 0, none⟩) n cap) l) (hn : l.length = n) {j : Nat} (hj : j < n) : w.cell? ⟨g, j, none⟩ = some (.int .u8 ((l.getD j 0).toNat : Int)) := by
  obtain ⟨cur, hg, _, _, _, hz, ht⟩ := h.cur hn
  rw [cell_of_row w g j _ _ _ hg]
  have : cur.toList[j]? = (l.map bv)[j]? := by rw [← ht, List.getElem?_take, if_pos hj]
  rw [Array.getElem?_toList] at this
  rw [this, List.getElem?_map, List.getElem?_eq_getElem (by omega)]
  simp [bv, List.getD, List.getElem?_eq_getElem (show j < l.length by omega)]
theorem OB.frozen (h : OB w base (.slice (some ⟨g, 0, none⟩) n cap) l) (hn : l.length = n) (j : Nat) : w.frozen? ⟨g, j, none⟩ = false := by
  obtain ⟨cur, hg, _, _, _, hz, ht⟩ := h.cur hn
  simp [World.frozen?, hg]
theorem OB.setCell (h : OB w base (.slice (some ⟨g, 0, none⟩) n cap) l) (hn : l.length = n) (j : Nat) (x : UInt8) (_hj : j < n) : OB (w.setCell ⟨g, j, none⟩ (bv x)) base (.slice (some ⟨g, 0, none⟩) n cap) (l.set j x) := by
  obtain ⟨cur, hg, hb, hnc, hm, hz, ht⟩ := h.cur hn
  refine ⟨by simp, .inr ⟨g, cap, cur.setIfInBounds j (bv x), ?_, hb, ?_, ?_, hm, ?_, ?_⟩⟩
  · rw [List.length_set, hn]
  · simp only [World.setCell, Array.getElem?_modify, if_pos, hg]
    simp
  · rw [List.length_set]; omega
  · simp [hz]
  · rw [List.length_set, hn, Nat.mul_one, Array.toList_setIfInBounds, List.take_set, ht, List.map_set]
theorem OB.setInt (h : OB w base (.slice (some ⟨g, 0, none⟩) n cap) l) (hn : l.length = n) (j : Nat) (x : UInt8) (hj : j < n) (v : Int) (hv : v = (x.toNat : Int)) : OB (w.setCell ⟨g, j, none⟩ (.int .u8 v)) base (.slice (some ⟨g, 0, none⟩) n cap) (l.set j x) := by
  subst hv
  exact h.setCell hn j x hj
theorem OB.ge (h : OB w base (.slice (some ⟨g, 0, none⟩) n cap) l) (hn : l.length = n) : base ≤ g := by
  obtain ⟨cur, hg, hb, _⟩ := h.cur hn
  exact hb
end

theorem splice_set (m pb : List UInt8) (po j : Nat) (hj : j < pb.length) (h : po + pb.length ≤ m.length) : (splice m po (pb.take j)).set (po + j) (pb.getD j 0) = splice m po (pb.take (j + 1)) := by
  have hl1 : (pb.take j).length = j := by rw [List.length_take]; omega
  have hl2 : (pb.take (j + 1)).length = j + 1 := by rw [List.length_take]; omega
  apply List.ext_getElem?
  intro i
  rw [List.getElem?_set, splice_get _ _ _ _ (by omega), splice_get _ _ _ _ (by omega), hl1, hl2, length_splice _ _ _ (by omega)]
  by_cases hi : po + j = i
  · subst hi
    rw [if_pos rfl, if_pos (by omega), if_neg (by omega), if_pos (by omega), List.getElem?_take, if_pos (by omega)]
    have : po + j - po = j := by omega
    rw [this, List.getElem?_eq_getElem hj]
    simp [List.getD, List.getElem?_eq_getElem hj]
  · rw [if_neg hi]
    by_cases h1 : i < po
    · rw [if_pos h1, if_pos h1]
    · rw [if_neg h1, if_neg h1]
      by_cases h2 : i < po + j
      · rw [if_pos h2, if_pos (by omega), List.getElem?_take, List.getElem?_take, if_pos (by omega), if_pos (by omega)]
      · rw [if_neg h2, if_neg (by omega)]

theorem splice_nil (m : List UInt8) (po : Nat) : splice m po (([] : List UInt8)) = m := by simp [splice]

set_option maxRecDepth 100000 in
set_option maxHeartbeats 2000000 in
theorem refApply_any (A B : Option Addr) (c n d : Nat) (l : List UInt8) (ps : List Pc) (w : World) (ha : BR w A 4080 l) (hp : PR w B n ps) (hn : n ≤ 9223372036854775807) (hpb : ∀ p ∈ ps, p.1 ≤ 9223372036854775807) :
    Calls Try.prog 36 #[.slice A 4080 c, .slice B n d] w (ApplyPost w (applyL l ps)) := by
  obtain ⟨i0, hi0, hz0, hz1, hz2⟩ := info_parts info_u8
  go_enter Try.func36, Try.ntmps36
  have hll := ha.len
  have HPB := Lib.hid hpb
  have HPN := Lib.hid hp.len
  have HLL := Lib.hid hll
  clear hpb hll
  go_wp2_with (at_builtin; refine wpList_append_Rd _ rfl _ _ _ rfl w.heap.size 5 i0 _ 1 1 Try.underlying22 hi0 hz0 hz1 hz2 rfl (.slice none 0 0) 0 [] rfl ⟨rfl, .inl ⟨rfl, rfl⟩⟩ A 4080 c _ rfl ha (one_bv l) (by omega) (by simp only [maxLen]; omega) (Nat.le_refl _) ?_; intro v1 w1 hown1 hg1 _ _)
  have hb1 : Below w.heap.size w w1 := (Below.refl _ _).grown hg1 (Nat.le_refl _) (by simp [Value.ownBlock])
  have ho : OB w1 w.heap.size v1 l := OB.of_own hown1 (by simp)
  obtain ⟨g, cap, rfl, hc1, hc2, hg⟩ := ob_some ho HLL.out (by omega)
  clear hown1 hg1
  go_wp2_with fail
  go_loopw [7] (fun i wr => ∃ (k : Nat) (m : List UInt8), k ≤ n ∧ i = .int .i64 k ∧ Hid (applyL l (ps.take k) = some m) ∧ OB wr w.heap.size (.slice (some ⟨g, 0, none⟩) 4080 cap) m ∧ Below w.heap.size w wr) (fun i _ => n - (intOf i).toNat)
  case atStart => exact ⟨0, l, Nat.zero_le _, rfl, Lib.hid rfl, ho, hb1⟩
  case round =>
    obtain ⟨k, m, hk, rfl, HM, hom, hb⟩ := hrel
    by_cases hlt : k < n
    · have hps := hp.below hb
      obtain ⟨gp, op, Bp, cp, rfl, q1, q2, q3, q4, q5⟩ := hps.at_ (i := k) hlt
      have hmem : ps.getD k (0, []) ∈ ps := by
        have : k < ps.length := by rw [HPN.out]; exact hlt
        rw [← pc_getD this]
        exact List.getElem_mem _
      have hub := HPB.out _ hmem
      have HAT := Lib.hid (applyL_take_succ (by rw [HPN.out]; exact hlt) HM.out)
      clear hmem
      have HML := Lib.hid (applyL_len HLL.out HM.out)
      obtain ⟨gp', op', Bp', cp', e', w1', w2', w3', _, _⟩ := hp.at_ (i := k) hlt
      cases e'
      obtain ⟨⟨pa, pb⟩, HP⟩ : ∃ p, p = ps.getD k (0, []) := ⟨_, rfl⟩
      rw [← HP] at q1 q2 q3 q4 HAT hub w1' w2' w3'
      clear HP
      dsimp only at q1 q2 q3 q4 hub w1' w2' w3'
      obtain ⟨pn, hpn⟩ : ∃ pn, pn = pb.length := ⟨_, rfl⟩
      rw [← hpn] at q2 q3 q4 w2' w3'
      have HPL := Lib.hid hpn
      clear hpn hps
      unfold maxLen at q5
      by_cases h1 : pa < 0
      · have t1 : decide (pa < 0) = true := by simpa using h1
        clear w1' w2'
        go_wp2_with fail
        go_ret2
        refine ⟨hb, ?_⟩
        rw [applyL_none (k := k + 1) (by rw [HAT.out, if_neg (fun h => by have := h.1; dsimp only at this; omega)])]
        exact rfl
      · have t1 : decide (pa < 0) = false := by simpa using h1
        by_cases h2 : pn = 0
        · subst h2
          clear w1' w2'
          go_wp2_with fail
          go_ret2
          refine ⟨hb, ?_⟩
          rw [applyL_none (k := k + 1) (by rw [HAT.out, if_neg (fun h => by have := h.2.1; have := HPL.out; dsimp only at *; omega)])]
          exact rfl
        · have t2 : ((pn : Int) == 0) = false := beq_eq_false_iff_ne.2 (by omega)
          have h1' : 0 ≤ pa := by omega
          by_cases h3 : 4080 < (pn : Int)
          · have t3 : decide (4080 < (pn : Int)) = true := by simpa using h3
            clear w1' w2'
            go_wp2_with fail
            go_ret2
            refine ⟨hb, ?_⟩
            rw [applyL_none (k := k + 1) (by rw [HAT.out, if_neg (fun h => by have := h.2.2; have := HPL.out; dsimp only at *; omega)])]
            exact rfl
          · have t3 : decide (4080 < (pn : Int)) = false := by simpa using h3
            by_cases h4 : 4080 - (pn : Int) < pa
            · have t4 : decide (4080 - (pn : Int) < pa) = true := by simpa using h4
              clear w1' w2'
              go_wp2_with fail
              go_ret2
              refine ⟨hb, ?_⟩
              rw [applyL_none (k := k + 1) (by rw [HAT.out, if_neg (fun h => by have := h.2.2; have := HPL.out; dsimp only at *; omega)])]
              exact rfl
            · have t4 : decide (4080 - (pn : Int) < pa) = false := by simpa using h4
              obtain ⟨po, rfl⟩ := Int.eq_ofNat_of_zero_le h1'
              have HA := Lib.hid (show applyL l (ps.take (k + 1)) = some (splice m po pb) by rw [HAT.out, if_pos ⟨by dsimp only; omega, by have := HPL.out; dsimp only; omega, by have := HPL.out; dsimp only; omega⟩]; rfl)
              have W1 := Lib.hid w1'
              have W2 := Lib.hid w2'
              clear w1' w2' HAT
              go_wp2_with fail
              obtain ⟨wo, hwo⟩ : ∃ wo : World, wo = wr := ⟨_, rfl⟩
              subst hwo
              clear q1 q2 q3
              go_loopw [9] (fun i wr => ∃ (j : Nat), j ≤ pn ∧ i = .int .i64 j ∧ OB wr w.heap.size (.slice (some ⟨g, 0, none⟩) 4080 cap) (splice m po (pb.take j)) ∧ Below w.heap.size w wr) (fun i _ => pn - (intOf i).toNat)
              case atStart => exact ⟨0, Nat.zero_le _, rfl, by rw [List.take_zero, splice_nil]; exact hom, hb⟩
              case round =>
                obtain ⟨j, hj, rfl, hoj, hbj⟩ := hrel
                by_cases hjl : j < pn
                · have q1 := keep_of_below hbj W1.out
                  have q2 := keep_of_below hbj W2.out
                  obtain ⟨gb, ob, rfl, q3⟩ := (w3'.below hbj).at_ (k := j) hjl
                  have hsl : (splice m po (pb.take j)).length = 4080 := by rw [length_splice _ _ _ (by rw [List.length_take, HML.out]; omega)]; exact HML.out
                  have c1 := hoj.cell hsl (j := po + j) (by omega)
                  have z1 := hoj.frozen hsl (po + j)
                  have HSET := Lib.hid (hoj.setInt hsl (po + j) (pb.getD j 0) (by omega) _ rfl)
                  have HSP := Lib.hid (splice_set m pb po j (by rw [← HPL.out]; exact hjl) (by rw [← HPL.out, HML.out]; omega))
                  generalize ((pb.getD j 0).toNat : Int) = x at *
                  generalize ((((splice m po (pb.take j)).getD (po + j) 0).toNat : Nat) : Int) = y at *
                  have hwr : IntKind.i64.wrap ((po : Int) + (j : Int)) = ((po + j : Nat) : Int) := by rw [IntKind.wrap_i64]; omega
                  clear hsl hoj
                  go_wp2_with fail
                  go_region
                  all_goals
                    go_wp2_with fail
                    go_roundw
                    case rel => exact ⟨j + 1, by omega, by go_num, by rw [← HSP.out]; exact HSET.out, (hbj.setCell (p := ⟨g, po + j, none⟩) hg _).drew⟩
                    case measure => simp [intOf]; omega
                · obtain rfl : j = pn := by omega
                  rw [List.take_of_length_le (Nat.le_of_eq HPL.out.symm)] at hoj
                  go_wp2_with fail
                  go_roundw
                  case rel => exact ⟨k + 1, _, by omega, by go_num, HA, hoj, hbj⟩
                  case measure => simp [intOf]; omega
    · obtain rfl : k = n := by omega
      go_wp2_with fail
      go_ret2
      refine ⟨hb, ?_⟩
      rw [← List.take_of_length_le (Nat.le_of_eq HPN.out), HM.out]
      exact ⟨_, rfl, hom⟩

end Go.Proofs.Ytecndamoomkhnaa
