/-
  change.Apply, change.Size: pieces laid upon a page.
-/
import Derived.Test.YthpjjoahffagcaaDfC
namespace Go.Proofs.Ythpjjoahffagcaa
open Go.RowKit

theorem splice_get {α : Type} (L : List α) (off : Nat) (cs : List α) (j : Nat) (h : off + cs.length ≤ L.length) : (splice L off cs)[j]? = if j < off then L[j]? else if j < off + cs.length then cs[j - off]? else L[j]? := by
  unfold splice
  have hf : (List.take off L).length = off := by rw [List.length_take]; omega
  split
  · rw [List.getElem?_append_left (by omega), List.getElem?_take, if_pos (by omega)]
  · rw [List.getElem?_append_right (by omega), hf]
    split
    · rw [List.getElem?_append_left (by omega)]
    · rw [List.getElem?_append_right (by omega), List.getElem?_drop]
      congr 1
      omega

/-- copy into a row of the call's own. -/
theorem run_copy_O (w : World) (ty : TypeId) (base g n cap off dl dc : Nat) (l s : List UInt8) (A : Option Addr) (m c k : Nat) (h : OB w base (.slice (some ⟨g, 0, none⟩) n cap) l) (hn : l.length = n) (hs : BR w A m s) (hk : Nat.min m dl = k) (h0 : 0 < k) (hfit : off + k ≤ n) :
    ∃ w', (Builtin.copy_ #[26, 26] ty #[.slice (some ⟨g, off, none⟩) dl dc, .slice A m c]).run Try.prog w = .ok (goInt k) w' ∧ OB w' base (.slice (some ⟨g, 0, none⟩) n cap) (splice l off (s.take k)) ∧ w.grownBy w' (some g) := by
  obtain ⟨i0, hi0, hz0, hz1, hz2⟩ := info_parts info_u8
  have hsl := hs.len
  have hkm : k ≤ m := by rw [← hk]; exact Nat.min_le_left _ _
  have hcs : (s.take k).length = k := by rw [List.length_take]; omega
  obtain ⟨ad, rfl, hc⟩ := hs.2 (by omega)
  rcases h.2 with ⟨e, _⟩ | ⟨g', cap', cur, e, hb, hg, hnc, hm, hcu, ht⟩
  · cases e
  · injection e with e1 e2 e3
    injection e1 with e1
    injection e1 with e1
    subst e1 e3
    have hcz : cur.size = cap := by simpa using hcu
    have := run_copy_row (P := Try.prog) w 26 26 ty 5 g off dl dc ad m c cur 5 ((s.take k).map bv) Try.underlying26 (by simp [hi0, hz1]) hg (by rw [List.length_map, hcs, hk])
      (fun j u hu => hc j u (by
        rw [List.map_take, List.getElem?_take] at hu
        split at hu
        · exact hu
        · cases hu)) (by simp only [List.length_map, hcs]; omega) (one_bv _)
    rw [List.length_map, hcs] at this
    refine ⟨_, this, ⟨?_, .inr ⟨g, cap, _, ?_, hb, setRow_heap w g cur _ _ _ hg, ?_, hm, ?_, ?_⟩⟩, ⟨rfl, rfl, rfl, by simp, fun j _ hj => setRow_other w g j _ (fun e => hj (by rw [e]))⟩⟩
    · simp
    · rw [length_splice _ _ _ (by rw [hcs]; omega), hn]
    · rw [length_splice _ _ _ (by rw [hcs]; omega)]; omega
    · simp only [List.size_toArray, List.length_append, List.length_take, List.length_drop, Array.length_toList, List.length_map, hsl]
      omega
    · have hl : (splice l off (s.take k)).length = n := by rw [length_splice _ _ _ (by rw [hcs]; omega), hn]
      have htl : List.take n cur.toList = l.map bv := by rw [← ht, hn]; simp
      rw [hl]
      simp only [Nat.mul_one]
      apply List.ext_getElem?
      intro j
      have hcl : cur.toList.length = cap := by rw [Array.length_toList]; exact hcz
      by_cases hj : j < n
      · have hcj : cur.toList[j]? = (l.map bv)[j]? := by rw [← htl, List.getElem?_take, if_pos hj]
        have hmid : ((s.take k).map bv).length = k := by rw [List.length_map]; exact hcs
        have e1 : cur.toList.take off ++ (s.take k).map bv ++ cur.toList.drop (off + k) = splice cur.toList off ((s.take k).map bv) := by unfold splice; rw [List.append_assoc, hmid]
        have g1 := splice_get cur.toList off ((s.take k).map bv) j (by omega)
        have g2 := splice_get l off (s.take k) j (by omega)
        rw [hmid, hcj] at g1
        rw [hcs] at g2
        rw [List.getElem?_take, if_pos hj, e1, g1, List.getElem?_map (f := bv) (l := splice l off (s.take k)), g2, List.getElem?_map, List.getElem?_map]
        split
        · rfl
        · split <;> rfl
      · rw [List.getElem?_eq_none (by rw [List.length_take]; omega), List.getElem?_eq_none (by rw [List.length_map, hl]; omega)]

/-- May a piece be laid upon a page? -/
def pcOk (p : Pc) : Prop := 0 ≤ p.1 ∧ 0 < p.2.length ∧ (p.2.length : Int) + p.1 ≤ 4080
instance (p : Pc) : Decidable (pcOk p) := by unfold pcOk; infer_instance

/-- The page with the pieces' bytes at their places. -/
def applyL : List UInt8 → List Pc → Option (List UInt8)
  | l, [] => some l
  | l, p :: ps => if pcOk p then applyL (splice l p.1.toNat p.2) ps else none

theorem applyL_append (l : List UInt8) (ps qs : List Pc) : applyL l (ps ++ qs) = (applyL l ps).bind fun m => applyL m qs := by
  induction ps generalizing l with
  | nil => rfl
  | cons p ps ih =>
    simp only [List.cons_append, applyL]
    split
    · exact ih _
    · rfl
theorem applyL_take_succ {l m : List UInt8} {ps : List Pc} {k : Nat} (hk : k < ps.length) (h : applyL l (ps.take k) = some m) :
    applyL l (ps.take (k + 1)) = if pcOk (ps.getD k (0, [])) then some (splice m (ps.getD k (0, [])).1.toNat (ps.getD k (0, [])).2) else none := by
  have e : ps[k] = ps.getD k (0, []) := by simp [List.getD, List.getElem?_eq_getElem hk]
  rw [List.take_succ_eq_append_getElem hk, applyL_append, h, e]
  rfl
theorem applyL_none {l : List UInt8} {ps : List Pc} {k : Nat} (h : applyL l (ps.take k) = none) : applyL l ps = none := by
  rw [← List.take_append_drop k ps, applyL_append, h]; rfl
theorem applyL_len {l m : List UInt8} {ps : List Pc} (hl : l.length = 4080) (h : applyL l ps = some m) : m.length = 4080 := by
  induction ps generalizing l with
  | nil => cases h; exact hl
  | cons p ps ih =>
    unfold applyL at h
    split at h
    · rename_i hp
      obtain ⟨h1, h2, h3⟩ := hp
      exact ih (by rw [length_splice _ _ _ (by omega)]; exact hl) h
    · cases h

theorem CK.of_bytes {w w' : World} {g : Nat} {base cap n : Nat} {l : List UInt8} (ho : OB w base (.slice (some ⟨g, 0, none⟩) n cap) l) (hg : w.grownBy w' (some g)) {k : Nat} {c : Array Value} {t : TypeId} {f : Nat × Nat} (ht : t ≠ 5) (h : w.heap[k]? = some (.cells c t f)) : w'.heap[k]? = some (.cells c t f) := by
  rcases ho.2 with ⟨e, _⟩ | ⟨g', cap', cur, e, hb, hgb, _⟩
  · cases e
  · injection e with e1
    injection e1 with e1
    injection e1 with e1
    subst e1
    rw [hg.block k (Array.getElem?_eq_some_iff.1 h).1 (fun e => by cases e; rw [hgb] at h; cases h; exact ht rfl), h]

/-- What change.Apply answers. -/
def ApplyPost (w : World) (r : Option (List UInt8)) (e : Ending) (w' : World) : Prop :=
  Below w.heap.size w w' ∧ match r with
    | some m => ∃ v, e = .returned (.tuple #[v, .int .i64 0]) ∧ OB w' w.heap.size v m
    | none => e = .returned (.tuple #[.slice none 0 0, .int .i64 2])

theorem ob_some {w : World} {base n : Nat} {v : Value} {l : List UInt8} (h : OB w base v l) (hn : l.length = n) (h0 : 0 < n) : ∃ g cap, v = .slice (some ⟨g, 0, none⟩) n cap ∧ n ≤ cap ∧ cap ≤ maxLen ∧ base ≤ g := by
  subst hn
  rcases h.2 with ⟨_, e⟩ | ⟨g', cap', cur, e, hb, hgb, h1, h2, _⟩
  · omega
  · exact ⟨g', cap', e, h1, h2, hb⟩

set_option maxRecDepth 100000 in
set_option maxHeartbeats 2000000 in
theorem Apply_any (A B : Option Addr) (c n d : Nat) (l : List UInt8) (ps : List Pc) (w : World) (ha : BR w A 4080 l) (hp : PR w B n ps) (hn : n ≤ 9223372036854775807) (hpb : ∀ p ∈ ps, p.1 ≤ 9223372036854775807) :
    Calls Try.prog 12 #[.slice A 4080 c, .slice B n d] w (ApplyPost w (applyL l ps)) := by
  obtain ⟨i0, hi0, hz0, hz1, hz2⟩ := info_parts info_u8
  go_enter Try.func12, Try.ntmps12
  go_wp2_with fail
  refine (Clone_any A 4080 c l w ha (by omega)).mono ?_
  rintro e w1 ⟨v, rfl, ho, hb1⟩
  have hll := ha.len
  obtain ⟨g, cap, rfl, hc1, hc2, hg⟩ := ob_some ho hll (by omega)
  have hpn := hp.len
  have HPB := Lib.hid hpb
  have HPN := Lib.hid hpn
  have HLL := Lib.hid hll
  clear hpb hpn hll
  go_wp2_with fail
  go_loopw [16] (fun i wr => ∃ (k : Nat) (m : List UInt8), k ≤ n ∧ i = .int .i64 k ∧ Hid (applyL l (ps.take k) = some m) ∧ OB wr w.heap.size (.slice (some ⟨g, 0, none⟩) 4080 cap) m ∧ Below w.heap.size w wr) (fun i _ => n - (intOf i).toNat)
  case atStart => exact ⟨0, l, Nat.zero_le _, rfl, Lib.hid rfl, ho, hb1⟩
  case round =>
    obtain ⟨k, m, hk, rfl, HM, hom, hb⟩ := hrel
    by_cases hlt : k < n
    · have hps := hp.below hb
      obtain ⟨gp, op, Bp, cp, rfl, q1, q2, q3, q4, q5⟩ := hps.at_ (i := k) hlt
      have hmem : ps.getD k (0, []) ∈ ps := by
        have : k < ps.length := by rw [HPN.out]; exact hlt
        rw [List.getD, List.getElem?_eq_getElem this]
        exact List.getElem_mem _
      have hub := HPB.out _ hmem
      have HAT := Lib.hid (applyL_take_succ (by rw [HPN.out]; exact hlt) HM.out)
      clear hmem
      have hml := applyL_len HLL.out HM.out
      have HML := Lib.hid hml
      clear hml
      obtain ⟨⟨pa, pb⟩, HP⟩ : ∃ p, p = ps.getD k (0, []) := ⟨_, rfl⟩
      rw [← HP] at q1 q2 q3 q4 HAT hub
      clear HP
      dsimp only at q1 q2 q3 q4 hub
      obtain ⟨pn, hpn⟩ : ∃ pn, pn = pb.length := ⟨_, rfl⟩
      rw [← hpn] at q2 q3 q4
      have HPL := Lib.hid hpn
      clear hpn
      unfold maxLen at q5
      by_cases h1 : pa < 0
      · have t1 : decide (pa < 0) = true := by simpa using h1
        go_wp2_with fail
        go_ret2
        refine ⟨gr_alloc hb _, ?_⟩
        rw [applyL_none (k := k + 1) (by rw [HAT.out, if_neg (fun h => by have := h.1; dsimp only at this; omega)])]
        exact rfl
      · have t1 : decide (pa < 0) = false := by simpa using h1
        by_cases h2 : pn = 0
        · subst h2
          go_wp2_with fail
          go_ret2
          refine ⟨gr_alloc hb _, ?_⟩
          rw [applyL_none (k := k + 1) (by rw [HAT.out, if_neg (fun h => by have := h.2.1; have := HPL.out; dsimp only at *; omega)])]
          exact rfl
        · have t2 : ((pn : Int) == 0) = false := beq_eq_false_iff_ne.2 (by omega)
          have h1' : 0 ≤ pa := by omega
          by_cases h3 : 4080 - pa < (pn : Int)
          · have t3 : decide (4080 - pa < (pn : Int)) = true := by simpa using h3
            go_wp2_with fail
            go_ret2
            refine ⟨gr_alloc hb _, ?_⟩
            rw [applyL_none (k := k + 1) (by rw [HAT.out, if_neg (fun h => by have := h.2.2; have := HPL.out; dsimp only at *; omega)])]
            exact rfl
          · have t3 : decide (4080 - pa < (pn : Int)) = false := by simpa using h3
            obtain ⟨po, rfl⟩ := Int.eq_ofNat_of_zero_le h1'
            have hcut := fun W => run_cut_l (P := Try.prog) W 26 5 i0 Try.underlying26 hi0 1 hz1 (some ⟨g, 0, none⟩) 4080 cap (po : Int) po rfl (by omega)
            have hca : cutA (some ⟨g, 0, none⟩) cap po 1 = some ⟨g, po, none⟩ := by
              unfold cutA
              rw [if_neg (by omega)]
              simp [add_plain]
            rw [hca] at hcut
            clear hca
            have hX : OB ((wr.alloc (.cells #[.int .i64 (po : Int), .slice Bp pn cp] 29)).drew) w.heap.size (.slice (some ⟨g, 0, none⟩) 4080 cap) m := hom.below (gr_drewN (gr_alloc (gr_refl wr) _) 1)
            have qX : BR ((wr.alloc (.cells #[.int .i64 (po : Int), .slice Bp pn cp] 29)).drew) Bp pn pb := q3.below (gr_drewN (gr_alloc (gr_refl wr) _) 1)
            have hbX : Below w.heap.size w ((wr.alloc (.cells #[.int .i64 (po : Int), .slice Bp pn cp] 29)).drew) := gr_drewN (gr_alloc hb _) 1
            obtain ⟨w4, hcp, ho4, hg4⟩ := run_copy_O _ 3 w.heap.size g 4080 cap po (4080 - po) (cap - po) m pb Bp pn cp pn hX HML.out qX (Nat.min_eq_left (by omega)) (by omega) (by omega)
            have hb4 := hbX.grown hg4 hbX.size (fun j e => by cases e; exact hg)
            rw [List.take_of_length_le (Nat.le_of_eq HPL.out.symm)] at ho4
            have HA := Lib.hid (show applyL l (ps.take (k + 1)) = some (splice m po pb) by rw [HAT.out, if_pos ⟨by dsimp only; omega, by have := HPL.out; dsimp only; omega, by have := HPL.out; dsimp only; omega⟩]; rfl)
            clear hX qX hbX hom HAT HM hg4
            go_upto_region 9 with (fail)
            go_region
            go_wp2_with fail
            go_roundw
            case rel => exact ⟨k + 1, _, by omega, by go_num, HA, ho4, hb4⟩
            case measure => simp [intOf]; omega
    · obtain rfl : k = n := by omega
      go_wp2_with fail
      go_ret2
      refine ⟨hb, ?_⟩
      rw [← List.take_of_length_le (Nat.le_of_eq HPN.out), HM.out]
      exact ⟨_, rfl, hom⟩

set_option maxHeartbeats 400000 in
theorem Apply_bad (A : Option Addr) (c m : Nat) (v : Value) (w : World) (h : m ≠ 4080) (_hm : m ≤ 9223372036854775807) :
    Calls Try.prog 12 #[.slice A m c, v] w fun r w' => r = .returned (.tuple #[.slice none 0 0, .int .i64 2]) ∧ w = w' := by
  have hn : ((m : Int) != 4080) = true := by rw [bne_iff_ne]; omega
  clear h
  go_enter Try.func12, Try.ntmps12
  go_wp2_with fail
  go_ret2
  exact ⟨rfl, rfl⟩

/-- How many bytes pieces have. -/
def lenI : List Pc → Int
  | [] => 0
  | p :: ps => p.2.length + lenI ps

theorem lenI_append (ps qs : List Pc) : lenI (ps ++ qs) = lenI ps + lenI qs := by
  induction ps with
  | nil => simp [lenI]
  | cons p ps ih => simp only [List.cons_append, lenI, ih]; omega
theorem lenI_snoc {ps : List Pc} {k : Nat} (hk : k < ps.length) : lenI (ps.take (k + 1)) = lenI (ps.take k) + ((ps.getD k (0, [])).2.length : Int) := by
  have e : ps[k] = ps.getD k (0, []) := by simp [List.getD, List.getElem?_eq_getElem hk]
  rw [List.take_succ_eq_append_getElem hk, lenI_append, e]
  simp [lenI]

/-- How many bytes pieces count, as an int. -/
def sizeL (ps : List Pc) : Int := wrap64 (4 * ps.length + lenI ps)

theorem w64_eq {a b : Int} (h : ∃ z : Int, a = b + 18446744073709551616 * z) : wrap64 a = wrap64 b := by
  obtain ⟨z, rfl⟩ := h
  simp only [wrap64]
  omega
theorem w64_mod (a : Int) : ∃ z : Int, wrap64 a = a + 18446744073709551616 * z := by
  refine ⟨-((a + 9223372036854775808) / 18446744073709551616), ?_⟩
  simp only [wrap64]
  omega
theorem sz_step (k x p : Int) : wrap64 (wrap64 (4 * k + x) + wrap64 (4 + p)) = wrap64 (4 * (k + 1) + (x + p)) := by
  obtain ⟨y, hy⟩ := w64_mod (4 * k + x)
  obtain ⟨z, hz⟩ := w64_mod (4 + p)
  exact w64_eq ⟨y + z, by rw [hy, hz]; omega⟩
theorem sz_step2 (a p : Int) : wrap64 (wrap64 a + p) = wrap64 (a + p) := by
  obtain ⟨y, hy⟩ := w64_mod a
  exact w64_eq ⟨y, by rw [hy]; omega⟩

set_option maxRecDepth 100000 in
set_option maxHeartbeats 1000000 in
theorem Size_any (B : Option Addr) (n d : Nat) (ps : List Pc) (w : World) (hp : PR w B n ps) (hn : n ≤ 9223372036854775807) :
    Calls Try.prog 11 #[.slice B n d] w fun r w' => r = .returned (.int .i64 (sizeL ps)) ∧ Below w.heap.size w w' := by
  have HPN := Lib.hid hp.len
  go_enter Try.func11, Try.ntmps11
  go_wp2_with fail
  go_loopw [3, 8] (fun s i wr => ∃ (k : Nat) (sz : Int), k ≤ n ∧ i = .int .i64 k ∧ s = .int .i64 sz ∧ Hid (sz = wrap64 (4 * (k : Int) + lenI (ps.take k))) ∧ Below w.heap.size w wr) (fun _ i _ => n - (intOf i).toNat)
  case atStart => exact ⟨0, 0, Nat.zero_le _, rfl, rfl, Lib.hid (by simp [lenI, wrap64]), gr_refl w⟩
  case round =>
    obtain ⟨k, sz, hk, rfl, rfl, HZ, hb⟩ := hrel
    by_cases hlt : k < n
    · have hps := hp.below hb
      obtain ⟨gp, op, Bp, cp, rfl, q1, q2, q3, q4, q5⟩ := hps.at_ (i := k) hlt
      have HS := Lib.hid (lenI_snoc (ps := ps) (k := k) (by rw [HPN.out]; exact hlt))
      generalize (ps.getD k (0, [])).2.length = pn at *
      generalize (ps.getD k (0, [])).1 = pa at *
      go_wp2_with fail
      go_roundw
      case rel => exact ⟨k + 1, _, by omega, by go_num, rfl, Lib.hid (by rw [HZ.out, HS.out, sz_step, Int.natCast_add]; rfl), gr_alloc hb _⟩
      case measure => simp [intOf]; omega
    · obtain rfl : k = n := by omega
      go_wp2_with fail
      go_ret
      refine ⟨ret_i ?_, hb⟩
      rw [HZ.out, List.take_of_length_le (Nat.le_of_eq HPN.out)]
      unfold sizeL
      rw [HPN.out]

end Go.Proofs.Ythpjjoahffagcaa
