/-
  Words for the chapter's fixed examples: changes, records as values; literals.
-/
import Derived.Test.YthpjjoahffagcaaRdN
import Derived.Test.YthpjjoahffagcaaRdL
import Derived.Test.YthpjjoahffagcaaRgC
namespace Go.Proofs.Ythpjjoahffagcaa
open Go.RowKit

def zR (n : Nat) : List UInt8 := List.replicate n 0
theorem zR_len (n : Nat) : (zR n).length = n := List.length_replicate
/-- A slice of changes. -/
def CN (w : World) (v : Value) (n : Nat) (cs : List Ch) : Prop := ∃ A c, v = .slice A n c ∧ CR w A n cs ∧ n ≤ c ∧ c ≤ maxLen
theorem CN.below {w w' : World} {v : Value} {n : Nat} {cs : List Ch} (h : CN w v n cs) (hb : Below w.heap.size w w') : CN w' v n cs := by
  obtain ⟨A, c, e, h1, h2⟩ := h
  exact ⟨A, c, e, h1.below hb, h2⟩
theorem CN.vc {w : World} {v : Value} {n : Nat} {cs : List Ch} (h : CN w v n cs) : VC w v cs := by
  obtain ⟨A, c, e, h1, h2, h3⟩ := h
  have := h1.len
  subst this
  exact ⟨A, c, e, h1, h2, h3⟩
theorem CN.nil (w : World) : CN w (.slice none 0 0) 0 [] := ⟨_, _, rfl, CR.none_ _ _, Nat.le_refl _, by simp [maxLen]⟩
theorem PN.nil (w : World) : PN w (.slice none 0 0) 0 [] := ⟨_, _, rfl, PR.none_ _ _, Nat.le_refl _, by simp [maxLen]⟩
/-- A change as a value. -/
def CV (w : World) (v : Value) (a : Int) (n : Nat) (l : List UInt8) (m : Nat) (ps : List Pc) : Prop := ∃ u1 u2, v = .agg #[.int .i64 a, u1, u2] ∧ VN w u1 n l ∧ PN w u2 m ps
theorem CV.below {w w' : World} {v : Value} {a : Int} {n : Nat} {l : List UInt8} {m : Nat} {ps : List Pc} (h : CV w v a n l m ps) (hb : Below w.heap.size w w') : CV w' v a n l m ps := by
  obtain ⟨u1, u2, e, h1, h2⟩ := h
  exact ⟨u1, u2, e, h1.below hb, h2.below hb⟩
/-- A record as a value. -/
def RV (w : World) (v : Value) (k tx : Int) (n : Nat) (cs : List Ch) : Prop := ∃ u, v = .agg #[.int .u8 k, .int .i64 tx, u] ∧ CN w u n cs
theorem RV.below {w w' : World} {v : Value} {k tx : Int} {n : Nat} {cs : List Ch} (h : RV w v k tx n cs) (hb : Below w.heap.size w w') : RV w' v k tx n cs := by
  obtain ⟨u, e, h1⟩ := h
  exact ⟨u, e, h1.below hb⟩
def MP.cn (n : Nat) (cs : List Ch) : MP := ⟨fun v w => CN w v n cs, fun _ _ _ hb h => h.below hb⟩
def MP.cv (a : Int) (n : Nat) (l : List UInt8) (m : Nat) (ps : List Pc) : MP := ⟨fun v w => CV w v a n l m ps, fun _ _ _ hb h => h.below hb⟩
def MP.rv (k tx : Int) (n : Nat) (cs : List Ch) : MP := ⟨fun v w => RV w v k tx n cs, fun _ _ _ hb h => h.below hb⟩
/-- A literal of changes. -/
theorem CN.lit (w : World) (us : List (Int × Value × Value)) (cs : List Ch) (a : Array Value) (n : Nat) (hn : cs.length = n) (hu : us.length = n) (hs : n ≤ maxLen) (h : a.toList = chs us) (hv : ∀ (i : Nat) (p : Ch) (q : Int × Value × Value), cs[i]? = some p → us[i]? = some q → q.1 = p.1 ∧ VB w q.2.1 p.2.1 ∧ VP w q.2.2 p.2.2) :
    CN (w.alloc (.cells a 56)) (.slice (some ⟨w.heap.size, 0, none⟩) n n) n cs := by
  refine ⟨_, _, rfl, ⟨us, ?_, by rw [hu, hn], fun i p q hp hq => ?_⟩, Nat.le_refl _, hs⟩
  · rw [← h]
    refine Rd.new w _ a n 3 ?_
    rw [← Array.length_toList, h, chs_length, hu]
  · obtain ⟨h1, h2, h3⟩ := hv i p q hp hq
    exact ⟨h1, h2.below (gr_alloc (gr_refl w) _), h3.below (gr_alloc (gr_refl w) _)⟩
theorem CN.lit1 (w : World) {a : Int} {n m : Nat} {l : List UInt8} {ps : List Pc} {u1 u2 : Value} (h1 : VN w u1 n l) (h2 : PN w u2 m ps) : CN (w.alloc (.cells #[.int .i64 a, u1, u2] 56)) (.slice (some ⟨w.heap.size, 0, none⟩) 1 1) 1 [(a, l, ps)] :=
  ⟨_, _, rfl, CR.lit1 w h1.vb h2.vp, Nat.le_refl _, by simp [maxLen]⟩
theorem CN.lit2 (w : World) {a b : Int} {n m n' m' : Nat} {l l' : List UInt8} {ps ps' : List Pc} {u1 u2 v1 v2 : Value} (h1 : VN w u1 n l) (h2 : PN w u2 m ps) (g1 : VN w v1 n' l') (g2 : PN w v2 m' ps') : CN (w.alloc (.cells #[.int .i64 a, u1, u2, .int .i64 b, v1, v2] 56)) (.slice (some ⟨w.heap.size, 0, none⟩) 2 2) 2 [(a, l, ps), (b, l', ps')] := by
  refine CN.lit w [(a, u1, u2), (b, v1, v2)] _ _ 2 rfl rfl (by simp [maxLen]) rfl (fun i p q hp hq => ?_)
  obtain rfl | rfl | h0 : i = 0 ∨ i = 1 ∨ 2 ≤ i := by omega
  · simp at hp hq
    subst hp hq
    exact ⟨rfl, h1.vb, h2.vp⟩
  · simp at hp hq
    subst hp hq
    exact ⟨rfl, g1.vb, g2.vp⟩
  · rw [List.getElem?_eq_none (by simpa using h0)] at hp
    cases hp
/-- Many changes of noughts. -/
def zeroC : Array Value := madeCells #[.int .i64 0, .slice none 0 0, .slice none 0 0] 51
set_option maxRecDepth 100000 in
theorem zeroC_toList : zeroC.toList = chs (List.replicate 17 (0, .slice none 0 0, .slice none 0 0)) := by
  have e : (List.range 51).map (fun x => (#[Value.int .i64 0, .slice none 0 0, .slice none 0 0] : Array Value)[x % 3]!) = chs (List.replicate 17 (0, .slice none 0 0, .slice none 0 0)) := rfl
  rw [← e]
  unfold zeroC madeCells
  rw [Array.toList_map, Array.toList_range]
  rfl
theorem CN.zero (w : World) : CN (w.alloc (.cells zeroC 56)) (.slice (some ⟨w.heap.size, 0, none⟩) 17 17) 17 (List.replicate 17 ch0) := by
  refine CN.lit w (List.replicate 17 (0, .slice none 0 0, .slice none 0 0)) _ zeroC 17 (by simp) (by simp) (by simp [maxLen]) zeroC_toList (fun i p q hp hq => ?_)
  have hi : i < 17 := by
    rcases Nat.lt_or_ge i 17 with h | h
    · exact h
    · rw [List.getElem?_eq_none (by simpa using h)] at hp
      cases hp
  rw [List.getElem?_replicate_of_lt hi] at hp hq
  cases hp
  cases hq
  exact ⟨rfl, (VN.nil w).vb, (PN.nil w).vp⟩
theorem run_mk_changes (u : World) : (Instr.makeSlice 36 (.int .i64 17) (.int .i64 17)).run Try.prog u = .ok (.slice (some ⟨u.heap.size, 0, none⟩) 17 17) (u.alloc (.cells zeroC 56)) := by
  obtain ⟨i0, hi0, hz0, hz1, hz2⟩ := info_parts info_change
  have h := run_make (P := Try.prog) u 36 56 i0 _ Try.underlying36 hi0 hz0 .i64 .i64 17 17 (by omega) (by omega) (by rw [hz2]; omega) (by omega)
  rw [hz1] at h
  exact h
/-- A literal of records. -/
theorem RW.lit (w : World) (us : List (Int × Int × Value)) (rs : List Rec) (a : Array Value) (n : Nat) (hn : rs.length = n) (hu : us.length = n) (h : a.toList = rcs us) (hv : ∀ (i : Nat) (p : Rec) (q : Int × Int × Value), rs[i]? = some p → us[i]? = some q → q.1 = (p.kind : Int) ∧ q.2.1 = p.tx ∧ VC w q.2.2 p.cs) :
    RW (w.alloc (.cells a 38)) (some ⟨w.heap.size, 0, none⟩) n rs := by
  refine ⟨us, ?_, by rw [hu, hn], fun i p q hp hq => ⟨(hv i p q hp hq).1, (hv i p q hp hq).2.1, (hv i p q hp hq).2.2.below (gr_alloc (gr_refl w) _)⟩⟩
  rw [← h]
  refine Rd.new w _ a n 3 ?_
  rw [← Array.length_toList, h, rcs_length, hu]

theorem rd_blk {w : World} {g : Nat} {cs : Array Value} {t : TypeId} {fr : Nat × Nat} (h : w.heap[g]? = some (.cells cs t fr)) (n size : Nat) (hs : cs.size = n * size) : Rd w size (some ⟨g, 0, none⟩) n cs.toList := by
  refine ⟨by simpa using hs, fun _ => ⟨_, rfl, fun j u hu => ?_⟩⟩
  rw [add_plain, cell_of_row _ _ _ cs t fr h]
  simpa using hu

set_option maxRecDepth 100000 in
theorem atom_exact (w : World) : Calls Try.prog 33 #[] w fun e w' => e = .returned (.agg #[.int .u8 1, .int .i64 1, .slice (some ⟨w.heap.size + 1 + 1 + 1, 0, none⟩) 1 1]) ∧
    BB w' (w.heap.size + 1) [7] ∧ w'.heap[w.heap.size + 1 + 1]? = some (.cells #[.int .i64 3, .slice (some ⟨w.heap.size + 1, 0, none⟩) 1 1] 29 (0, 0)) ∧
    w'.heap[w.heap.size + 1 + 1 + 1]? = some (.cells #[.int .i64 2, .slice none 0 0, .slice (some ⟨w.heap.size + 1 + 1, 0, none⟩) 1 1] 56 (0, 0)) ∧ Below w.heap.size w w' := by
  go_enter Try.func33, Try.ntmps33
  go_wp2
  have h := B3.new w (.int .u8 1) (.int .i64 1) (.slice (some ⟨w.heap.size + 1 + 1 + 1, 0, none⟩) 1 1) (t := 38) (by decide)
  have hb := gr_alloc (gr_refl w) (.cells #[.int .u8 1, .int .i64 1, .slice (some ⟨w.heap.size + 1 + 1 + 1, 0, none⟩) 1 1] 38)
  have hs : (w.alloc (.cells #[.int .u8 1, .int .i64 1, .slice (some ⟨w.heap.size + 1 + 1 + 1, 0, none⟩) 1 1] 38)).heap.size = w.heap.size + 1 := World.size_alloc _ _
  generalize w.alloc (.cells #[.int .u8 1, .int .i64 1, .slice (some ⟨w.heap.size + 1 + 1 + 1, 0, none⟩) 1 1] 38) = w1 at *
  have hb1 := gr_alloc (gr_refl w1) (.cells #[.int .u8 7] 5)
  have v1 : (w1.alloc (.cells #[.int .u8 7] 5)).heap[w1.heap.size]? = _ := heap_alloc_new w1 _
  have hs1 : (w1.alloc (.cells #[.int .u8 7] 5)).heap.size = w.heap.size + 1 + 1 := by rw [World.size_alloc, hs]
  rw [hs] at v1
  generalize w1.alloc (.cells #[.int .u8 7] 5) = w2 at *
  have hb2 := gr_alloc (gr_refl w2) (.cells #[.int .i64 3, .slice (some ⟨w.heap.size + 1, 0, none⟩) 1 1] 29)
  have v2 : (w2.alloc (.cells #[.int .i64 3, .slice (some ⟨w.heap.size + 1, 0, none⟩) 1 1] 29)).heap[w2.heap.size]? = _ := heap_alloc_new w2 _
  have hs2 : (w2.alloc (.cells #[.int .i64 3, .slice (some ⟨w.heap.size + 1, 0, none⟩) 1 1] 29)).heap.size = w.heap.size + 1 + 1 + 1 := by rw [World.size_alloc, hs1]
  rw [hs1] at v2
  generalize w2.alloc (.cells #[.int .i64 3, .slice (some ⟨w.heap.size + 1, 0, none⟩) 1 1] 29) = w3 at *
  have hb3 := gr_alloc (gr_refl w3) (.cells #[.int .i64 2, .slice none 0 0, .slice (some ⟨w.heap.size + 1 + 1, 0, none⟩) 1 1] 56)
  have v3 : (w3.alloc (.cells #[.int .i64 2, .slice none 0 0, .slice (some ⟨w.heap.size + 1 + 1, 0, none⟩) 1 1] 56)).heap[w3.heap.size]? = _ := heap_alloc_new w3 _
  rw [hs2] at v3
  generalize w3.alloc (.cells #[.int .i64 2, .slice none 0 0, .slice (some ⟨w.heap.size + 1 + 1, 0, none⟩) 1 1] 56) = w4 at *
  have h4 := ((h.nb (NB.below hb1)).nb (NB.below hb2)).nb (NB.below hb3)
  have z0 := h4.c0
  have z1 := h4.c1
  have z2 := h4.c2
  have y1 := ((gr_trans hb2 hb3).block _ (Array.getElem?_eq_some_iff.1 v1).1).trans v1
  have y2 := (hb3.block _ (Array.getElem?_eq_some_iff.1 v2).1).trans v2
  exact bodyPost_ret (v := .agg #[.int .u8 1, .int .i64 1, .slice (some ⟨w.heap.size + 1 + 1 + 1, 0, none⟩) 1 1]) (by simp [results, Try.results33, go_sem, z0, z1, z2]) rfl ⟨rfl, y1, y2, v3, gr_trans (gr_trans (gr_trans hb hb1) hb2) hb3⟩
set_option maxRecDepth 100000 in
theorem atomBytes_exact (w : World) : Calls Try.prog 34 #[] w fun e w' => e = .returned (.slice (some ⟨w.heap.size, 0, none⟩) 27 27) ∧ BB w' w.heap.size atomL ∧ Below w.heap.size w w' := by
  go_enter Try.func34, Try.ntmps34
  go_wp2
  go_ret
  exact ⟨rfl, heap_alloc_new w _, gr_alloc (gr_refl w) _⟩

end Go.Proofs.Ythpjjoahffagcaa
