/-
  DiskSynced's torn write: the rows while they are appended to, beside the row as it was.
-/
import Derived.Test.YtjopobkcijkpmaaDsD
import Derived.Test.YtjopobkcijkpmaaReg
namespace Go.Proofs.Ytjopobkcijkpmaa
open Go.RowKit

/-- The rows while the torn contents are appended to one. -/
def tornM (may : Nat → List (List UInt8)) (bi cu : Nat) (L : List UInt8) (j b : Nat) : List (List UInt8) :=
  if b = bi then may bi ++ ((may bi).take j).map (fun x => L.take cu ++ x.drop cu) else may b
theorem tornM_0 (may : Nat → List (List UInt8)) (bi cu : Nat) (L : List UInt8) : tornM may bi cu L 0 = may := by
  funext b
  unfold tornM
  by_cases e : b = bi
  · subst e
    simp
  · rw [if_neg e]
theorem tornM_step (may : Nat → List (List UInt8)) (bi cu : Nat) (L : List UInt8) (j : Nat) (hj : j < (may bi).length) : (fun b => if b = bi then tornM may bi cu L j bi ++ [L.take cu ++ ((may bi).getD j []).drop cu] else tornM may bi cu L j b) = tornM may bi cu L (j + 1) := by
  funext b
  unfold tornM
  by_cases e : b = bi
  · rw [if_pos e, if_pos e, if_pos rfl, List.append_assoc]
    congr 1
    rw [List.take_succ_eq_append_getElem hj, List.map_append]
    congr 1
    simp [List.getD, List.getElem?_eq_getElem hj]
  · rw [if_neg e, if_neg e, if_neg e]
theorem tornM_len (may : Nat → List (List UInt8)) (bi cu : Nat) (L : List UInt8) (j : Nat) (hj : j ≤ (may bi).length) : (tornM may bi cu L j bi).length = (may bi).length + j := by
  unfold tornM
  rw [if_pos rfl, List.length_append, List.length_map, List.length_take, Nat.min_eq_left hj]
theorem tornM_last (torn : Int) (may : Nat → List (List UInt8)) (bi cu n : Nat) (L : List UInt8) (h : (n : Int) = torn) : (fun b => if b = bi then tornM may bi cu L (may bi).length bi ++ [L] else tornM may bi cu L (may bi).length b) = mayW torn cu n may bi L := by
  funext b
  unfold tornM mayW
  by_cases e : b = bi
  · rw [if_pos e, if_pos e, if_pos rfl, if_pos h, List.take_length]
  · rw [if_neg e, if_neg e, if_neg e]
theorem plain_last (torn : Int) (may : Nat → List (List UInt8)) (bi cu n : Nat) (L : List UInt8) (h : (n : Int) ≠ torn) : (fun b => if b = bi then may bi ++ [L] else may b) = mayW torn cu n may bi L := by
  funext b
  unfold mayW
  by_cases e : b = bi
  · subst e
    rw [if_pos rfl, if_pos rfl, if_neg h, List.append_nil]
  · rw [if_neg e, if_neg e]

/-- The row as it was, beside the row that is appended to. -/
def WA (w0 w : World) (vn vw : Value) (ls : List (List UInt8)) : Prop :=
  ∃ us, OR w w0.heap.size 33 vw ls.length us ∧ UL w us ls ∧ ((∃ ad n c, vw = .slice (some ad) ls.length c ∧ vn = .slice (some ad) n c) ∨ ∀ k, vn.ownBlock = some k → vw.ownBlock = some k → False)

structure TW (w0 w : World) (g : Nat) (D : DiskS) (cb : Nat) (K : Option Addr) (nk ck : Nat) (torn cut : Int) (mb : Nat) (vs : Nat → Value) (may : Nat → List (List UInt8)) (bi cu : Nat) (L : List UInt8) (vw vL : Value) (j : Nat) : Prop where
  sy : SY w0 w g D cb K nk ck torn cut mb vs (tornM may bi cu L j)
  wa : WA w0 w (vs bi) vw (may bi)
  ul : UL w [vL] [L]

theorem OR.same {w : World} {base n m c : Nat} {e : TypeId} {ad : Addr} {xs ys : List Value} (h : OR w base e (.slice (some ad) n c) n xs) (k : OR w base e (.slice (some ad) m c) m ys) (hn : n ≤ m) : xs = ys.take n := by
  rcases h.2 with ⟨e0, _⟩ | ⟨g, off, cp, cur, e0, h2, h3, h4, h5, h6, h7⟩
  · cases e0
  · cases e0
    rcases k.2 with ⟨e0, _⟩ | ⟨g', off', cp', cur', e0, k2, k3, k4, k5, k6, k7⟩
    · cases e0
    · cases e0
      rw [h3] at k3
      injection k3 with k3
      injection k3 with k3
      subst k3
      rw [← h7, ← k7, List.take_take, Nat.min_eq_left hn]

section
variable {w0 w w4 w5 : World} {g : Nat} {D : DiskS} {cb : Nat} {K : Option Addr} {nk ck : Nat} {torn cut : Int} {mb : Nat} {vs : Nat → Value} {may : Nat → List (List UInt8)} {bi cu : Nat} {L : List UInt8} {vw vL : Value} {j : Nat}
theorem TW.step (h : TW w0 w g D cb K nk ck torn cut mb vs may bi cu L vw vL j) (hj : j < (may bi).length) (hb : bi < 4) {ad : Addr} {n c : Nat} {us : List Value} (hv : vs bi = .slice (some ad) n c) (r1 : OR w w0.heap.size 33 (vs bi) n us) (r2 : UL w us (tornM may bi cu L j bi)) (hB : Below w.heap.size w w4) {x : Value} (hl : (L.take cu ++ ((may bi).getD j []).drop cu).length = 4096) (hx : OB w4 0 x (L.take cu ++ ((may bi).getD j []).drop cu)) {v' : Value}
    (ho : OR w5 w0.heap.size 33 v' (n + 1) (us ++ [x])) (hg : w4.grownBy w5 (some ad.block)) (hv' : v' = .slice (some ad) (n + 1) c ∨ (v'.ownBlock = some w4.heap.size ∧ Below w4.heap.size w4 w5)) :
    MB w5 mb vs ∧ (∀ q o c' u, vw = .slice (some ⟨q, o, none⟩) (may bi).length c' → w.cell? ⟨q, o + j, none⟩ = some u → w5.cell? ⟨q, o + j, none⟩ = some u) ∧ CB w5 cb K nk ck torn cut ∧ TW w0 (w5.setCell ⟨mb, bi, none⟩ v') g D cb K nk ck torn cut mb (fun i => if i = bi then v' else vs i) may bi cu L vw vL (j + 1) := by
  have hgb : w4.grownBy w5 (vs bi).ownBlock := by rw [hv]; exact hg
  have hblk : (vs bi).ownBlock = some ad.block := by rw [hv]; rfl
  obtain ⟨cur, hcur⟩ := r1.blk hblk
  have o45 : Off (fun k => k = ad.block) w4 w5 := Off.of_grown hg (fun k e => by injection e with e; exact e.symm)
  have hcur4 : w4.heap[ad.block]? = some (.cells cur 33 (0, 0)) := (hB.block _ (r1.lt _ hblk).2).trans hcur
  have t4 : ∀ k cs fr, k = ad.block → w4.heap[k]? = some (.cells cs 5 fr) → False := fun k cs fr e hc => by
    subst e
    exact cells_ne hcur4 hc (by decide)
  have hnl : n = (tornM may bi cu L j bi).length := by
    have := r2.1
    rw [r1.1] at this
    exact this
  have hvb : v'.ownBlock = (vs bi).ownBlock ∨ v'.ownBlock = some w4.heap.size := by
    rcases hv' with e | ⟨e, _⟩
    · left
      rw [e, hv]
      rfl
    · exact .inr e
  have sy4 := h.sy.below hB
  obtain ⟨p1, p2⟩ := sy4.push hb hgb (ls' := tornM may bi cu L j bi ++ [L.take cu ++ ((may bi).getD j []).drop cu]) (us' := us ++ [x]) (by rw [List.length_append, ← hnl]; exact ho) ((r2.below hB).app (UL.one hl hx)) hvb
  rw [tornM_step may bi cu L j hj] at p2
  -- the row as it was
  have hmb4 := sy4.ms.vr
  obtain ⟨us0, q1, q2, q3⟩ := h.wa
  have q2' := (q2.below hB).off o45 t4
  have wa5 : OR w5 w0.heap.size 33 vw (may bi).length us0 ∧ ((∃ ad n c, vw = .slice (some ad) (may bi).length c ∧ v' = .slice (some ad) n c) ∨ ∀ k, v'.ownBlock = some k → vw.ownBlock = some k → False) := by
    rcases q3 with ⟨ad', n', c', e1, e2⟩ | q3
    · rw [hv] at e2
      injection e2 with e2 e3 e4
      injection e2 with e2
      subst e2 e4 e3
      rcases hv' with e | ⟨e, hB5⟩
      · have hle : (may bi).length ≤ n := by
          rw [hnl, tornM_len may bi cu L j (by omega)]
          omega
        have hs : us0 = us.take (may bi).length := by
          rw [e1] at q1
          rw [hv] at r1
          exact q1.same r1 hle
        have hus : us ++ [x] = us0 ++ (us.drop (may bi).length ++ [x]) := by rw [hs, ← List.append_assoc, List.take_append_drop]
        rw [hus, e] at ho
        refine ⟨?_, .inl ⟨ad, n + 1, c, e1, e⟩⟩
        rw [e1]
        have hf := r1.form
        obtain ⟨A, c2, e5, h1, h2⟩ := hf
        rw [hv] at e5
        injection e5 with _ _ e5
        subst e5
        exact ho.pre (cap := c) q1.1 (by omega) (Nat.le_refl _)
      · refine ⟨(q1.below hB).below hB5, .inr fun k e5 e6 => ?_⟩
        rw [e] at e5
        injection e5 with e5
        have := (q1.lt k e6).2
        have := hB.size
        omega
    · refine ⟨(q1.below hB).off o45 (fun k e5 e6 => q3 k (by rw [hblk, e6]) e5), .inr fun k e5 e6 => ?_⟩
      rcases hvb with e | e
      · exact q3 k (e ▸ e5) e6
      · rw [e] at e5
        injection e5 with e5
        have := (q1.lt k e6).2
        have := hB.size
        omega
  have o6 : Off (fun k => k = mb) w5 (w5.setCell ⟨mb, bi, none⟩ v') := (Off.refl (fun k => k = mb) w5).setCell _ rfl
  have t6 : ∀ k cs fr, k = mb → w5.heap[k]? = some (.cells cs 5 fr) → False := fun k cs fr e hc => by
    subst e
    exact cells_ne p1 hc (by decide)
  refine ⟨p1, fun q o c' u e1 e2 => ?_, (sy4.cx.off (Off.of_grown hgb (fun _ e => e)) (sy4.ne_cr hb)), p2, ?_, ((h.ul.below hB).off o45 t4).off o6 t6⟩
  · have hlt : j < us0.length := by rw [q1.1]; exact hj
    have a1 := wa5.1.cells e1 j us0[j] (List.getElem?_eq_getElem hlt)
    have a2 := q1.cells e1 j us0[j] (List.getElem?_eq_getElem hlt)
    rw [a2] at e2
    rw [a1, ← e2]
  · refine ⟨us0, wa5.1.off o6 (fun k e e2 => ?_), q2'.off o6 t6, ?_⟩
    · subst e2
      obtain ⟨cc, hc⟩ := wa5.1.blk e
      exact cells_ne p1 hc (by decide)
    · simpa using wa5.2
end

theorem BR.cutEnd {w : World} {A : Option Addr} {n : Nat} {l : List UInt8} (h : BR w A n l) {k c : Nat} (hk : k ≤ n) (hc : n ≤ c) : BR w (cutA A c k 1) (n - k) (l.drop k) := by
  have h1 := h.cut (k := k) (j := n) (c := c) hk (Nat.le_refl _) hc
  rwa [List.take_of_length_le (by rw [List.length_drop, h.len]; exact Nat.le_refl _)] at h1
theorem below_drew {w w2 : World} (h : Below w.drew.heap.size w.drew w2) : Below w.heap.size w w2 := ⟨h.os, h.tape, h.output, h.size, h.block⟩

theorem LR.blk {w : World} {A : Option Addr} {n : Nat} {l : List Bool} (h : LR w A n l) {ad : Addr} (e : A = some ad) (h0 : 0 < n) : ad.block < w.heap.size := by
  obtain ⟨g, o, e2, hc⟩ := h.at_ (k := 0) h0
  rw [e] at e2
  injection e2 with e2
  subst e2
  exact World.block_lt_of_cell? w _ hc

/-- Has it been met among the first j? -/
def fnd (l : List (List UInt8)) (y : List UInt8) (j : Nat) : Bool := (l.take j).any (fun x => y == x)
theorem fnd_step (l : List (List UInt8)) (y : List UInt8) (j : Nat) (h : j < l.length) : fnd l y (j + 1) = (fnd l y j || (y == l.getD j [])) := by
  unfold fnd
  rw [List.take_succ_eq_append_getElem h, List.any_append]
  simp [List.getD, List.getElem?_eq_getElem h]
theorem fnd_all (l : List (List UInt8)) (y : List UInt8) (h : y ∈ l) : fnd l y l.length = true := by
  unfold fnd
  rw [List.take_length, List.any_eq_true]
  exact ⟨y, h, by simp⟩

/-- The last content of a round. -/
theorem SY.last {w0 w : World} {g : Nat} {D : DiskS} {cb : Nat} {K : Option Addr} {nk ck : Nat} {torn cut : Int} {mb : Nat} {vs : Nat → Value} {may : Nat → List (List UInt8)} (sy : SY w0 w g D cb K nk ck torn cut mb vs may) {b : Nat} (hb : b < 4) {u : Value} {L : List UInt8} (ul : UL w [u] [L]) {A : Option Addr} {n c : Nat} {us : List Value} (hv : vs b = .slice A n c) (r2 : UL w us (may b)) (hn : n = (may b).length)
    (v4 : Value) (w4 : World) (ho : OR w4 w0.heap.size 33 v4 (n + 1) (us ++ [u])) (hg : (w.alloc (.cells #[u] 33)).grownBy w4 (Value.slice A n c).ownBlock) (hv4 : v4.ownBlock = (Value.slice A n c).ownBlock ∨ v4.ownBlock = some (w.alloc (.cells #[u] 33)).heap.size) :
    MB w4 mb vs ∧ SY w0 (w4.setCell ⟨mb, b, none⟩ v4) g D cb K nk ck torn cut mb (fun j => if j = b then v4 else vs j) (fun j => if j = b then may b ++ [L] else may j) := by
  rw [← hv] at hg hv4
  have hB := gr_alloc (gr_refl w) (.cells #[u] 33)
  exact (sy.below hB).push hb hg (by rw [List.length_append, ← hn]; exact ho) ((r2.app ul).below hB) hv4
theorem mayW_len {torn : Int} {cu n bi k : Nat} {may : Nat → List (List UInt8)} {L : List UInt8} (h : ∀ b, b < 4 → (may b).length + 1 ≤ 2 ^ (k + 1)) (hb : bi < 4) : ∀ b, b < 4 → (mayW torn cu n may bi L b).length + 1 ≤ 2 ^ (k + 1 + 1) := by
  intro b hb4
  have h1 := h b hb4
  have h2 := h bi hb
  have h3 : 2 ^ (k + 1 + 1) = 2 * 2 ^ (k + 1) := by rw [Nat.pow_succ]; omega
  rw [h3]
  unfold mayW
  split
  · rename_i e
    subst e
    rw [List.length_append, List.length_append]
    split
    · rw [List.length_map]
      simp
      omega
    · simp
      omega
  · omega

end Go.Proofs.Ytjopobkcijkpmaa
