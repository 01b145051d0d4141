/-
  The chapter's records and their bytes; awake.
-/
import Derived.Test.YthpjjoahffagcaaRdJ
namespace Go.Proofs.Ythpjjoahffagcaa
open Go.RowKit

def atomR : Rec := ⟨1, 1, [(2, [], [(3, [7])])]⟩
def commitR : Rec := ⟨2, 5, []⟩
def atomL : List UInt8 := [23, 0, 0, 0, 1, 1, 0, 0, 0, 0, 0, 0, 0, 1, 0, 2, 0, 0, 0, 0, 1, 0, 3, 0, 1, 0, 7]
def commitL : List UInt8 := [11, 0, 0, 0, 2, 5, 0, 0, 0, 0, 0, 0, 0, 0, 0]
theorem atom_right : atomR.right = true := by decide +kernel
theorem commit_right : commitR.right = true := by decide +kernel
theorem atom_enc : encR atomR = atomL := by decide +kernel
theorem commit_enc : encR commitR = commitL := by decide +kernel

set_option maxRecDepth 100000 in
theorem commit_any (w : World) : Calls Try.prog 32 #[] w fun e w' => e = .returned (.agg #[.int .u8 2, .int .i64 5, .slice none 0 0]) ∧ Below w.heap.size w w' := by
  go_enter Try.func32, Try.ntmps32
  go_wp2
  have h := B3.new w (.int .u8 2) (.int .i64 5) (.slice none 0 0) (t := 38) (by decide)
  have hb := gr_alloc (gr_refl w) (.cells #[.int .u8 2, .int .i64 5, .slice none 0 0] 38)
  generalize w.alloc (.cells #[.int .u8 2, .int .i64 5, .slice none 0 0] 38) = w1 at *
  have z0 := h.c0
  have z1 := h.c1
  have z2 := h.c2
  exact bodyPost_ret (v := .agg #[.int .u8 2, .int .i64 5, .slice none 0 0]) (by simp [results, Try.results32, go_sem, z0, z1, z2]) rfl ⟨rfl, hb⟩
/-- A literal of one change. -/
theorem CR.lit1 (w : World) {a : Int} {u1 u2 : Value} {l : List UInt8} {ps : List Pc} (h1 : VB w u1 l) (h2 : VP w u2 ps) : CR (w.alloc (.cells #[.int .i64 a, u1, u2] 56)) (some ⟨w.heap.size, 0, none⟩) 1 [(a, l, ps)] := by
  refine ⟨[(a, u1, u2)], Rd.new w _ #[.int .i64 a, u1, u2] 1 3 rfl, rfl, fun i p q hp hq => ?_⟩
  obtain rfl | h0 : i = 0 ∨ 1 ≤ i := by omega
  · simp at hp hq
    subst hp hq
    exact ⟨rfl, h1.below (gr_alloc (gr_refl w) _), h2.below (gr_alloc (gr_refl w) _)⟩
  · rw [List.getElem?_eq_none (by simpa using h0)] at hp
    cases hp
theorem PN.vp {w : World} {v : Value} {n : Nat} {ps : List Pc} (h : PN w v n ps) : VP w v ps := by
  obtain ⟨A, c, e, h1, h2, h3⟩ := h
  have := h1.len
  subst this
  exact ⟨A, c, e, h1, h2, h3⟩
set_option maxRecDepth 100000 in
theorem atom_any (w : World) : Calls Try.prog 33 #[] w fun e w' => ∃ A, e = .returned (.agg #[.int .u8 1, .int .i64 1, .slice A 1 1]) ∧ CR w' A 1 [(2, [], [(3, [7])])] ∧ Below w.heap.size w w' := by
  go_enter Try.func33, Try.ntmps33
  go_wp2
  have h := B3.new w (.int .u8 1) (.int .i64 1) (.slice (some ⟨w.heap.size + 1 + 1 + 1, 0, none⟩) 1 1) (t := 38) (by decide)
  have hb := gr_alloc (gr_refl w) (.cells #[.int .u8 1, .int .i64 1, .slice (some ⟨w.heap.size + 1 + 1 + 1, 0, none⟩) 1 1] 38)
  have hs : (w.alloc (.cells #[.int .u8 1, .int .i64 1, .slice (some ⟨w.heap.size + 1 + 1 + 1, 0, none⟩) 1 1] 38)).heap.size = w.heap.size + 1 := World.size_alloc _ _
  generalize w.alloc (.cells #[.int .u8 1, .int .i64 1, .slice (some ⟨w.heap.size + 1 + 1 + 1, 0, none⟩) 1 1] 38) = w1 at *
  have hb1 := gr_alloc (gr_refl w1) (.cells #[.int .u8 7] 5)
  have v1 := VN.lit w1 [7] #[.int .u8 7] 1 rfl (by simp [maxLen]) rfl
  have hs1 : (w1.alloc (.cells #[.int .u8 7] 5)).heap.size = w.heap.size + 1 + 1 := by rw [World.size_alloc, hs]
  rw [hs] at v1
  generalize w1.alloc (.cells #[.int .u8 7] 5) = w2 at *
  have v2 := PN.lit1 w2 (a := 3) v1
  have hb2 := gr_alloc (gr_refl w2) (.cells #[.int .i64 3, .slice (some ⟨w.heap.size + 1, 0, none⟩) 1 1] 29)
  have hs2 : (w2.alloc (.cells #[.int .i64 3, .slice (some ⟨w.heap.size + 1, 0, none⟩) 1 1] 29)).heap.size = w.heap.size + 1 + 1 + 1 := by rw [World.size_alloc, hs1]
  rw [hs1] at v2
  generalize w2.alloc (.cells #[.int .i64 3, .slice (some ⟨w.heap.size + 1, 0, none⟩) 1 1] 29) = w3 at *
  have v3 := CR.lit1 w3 (a := 2) (VN.nil w3).vb v2.vp
  have hb3 := gr_alloc (gr_refl w3) (.cells #[.int .i64 2, .slice none 0 0, .slice (some ⟨w.heap.size + 1 + 1, 0, none⟩) 1 1] 56)
  rw [hs2] at v3
  generalize w3.alloc (.cells #[.int .i64 2, .slice none 0 0, .slice (some ⟨w.heap.size + 1 + 1, 0, none⟩) 1 1] 56) = w4 at *
  have h4 := ((h.nb (NB.below hb1)).nb (NB.below hb2)).nb (NB.below hb3)
  have z0 := h4.c0
  have z1 := h4.c1
  have z2 := h4.c2
  exact bodyPost_ret (v := .agg #[.int .u8 1, .int .i64 1, .slice (some ⟨w.heap.size + 1 + 1 + 1, 0, none⟩) 1 1]) (by simp [results, Try.results33, go_sem, z0, z1, z2]) rfl ⟨_, rfl, v3, gr_trans (gr_trans (gr_trans hb hb1) hb2) hb3⟩
theorem bytes_lit (w : World) (l : List UInt8) (cs : Array Value) (n : Nat) (hn : l.length = n) (hs : n ≤ maxLen) (h : cs.toList = l.map bv) (hc : cs.size = n) : OB (w.alloc (.cells cs 5)) w.heap.size (.slice (some ⟨w.heap.size, 0, none⟩) n n) l := by
  subst hn
  refine ⟨by simp, .inr ⟨_, l.length, cs, rfl, Nat.le_refl _, heap_alloc_new w _, Nat.le_refl _, hs, by omega, ?_⟩⟩
  rw [h, Nat.mul_one, List.take_of_length_le (by rw [List.length_map]; exact Nat.le_refl _)]
set_option maxRecDepth 100000 in
theorem atomBytes_any (w : World) : Calls Try.prog 34 #[] w fun e w' => e = .returned (.slice (some ⟨w.heap.size, 0, none⟩) 27 27) ∧ OB w' w.heap.size (.slice (some ⟨w.heap.size, 0, none⟩) 27 27) atomL ∧ Below w.heap.size w w' := by
  go_enter Try.func34, Try.ntmps34
  go_wp2
  go_ret
  exact ⟨rfl, bytes_lit w atomL _ 27 rfl (by simp [maxLen]) rfl rfl, gr_alloc (gr_refl w) _⟩
set_option maxRecDepth 100000 in
theorem commitBytes_any (w : World) : Calls Try.prog 35 #[] w fun e w' => e = .returned (.slice (some ⟨w.heap.size, 0, none⟩) 15 15) ∧ OB w' w.heap.size (.slice (some ⟨w.heap.size, 0, none⟩) 15 15) commitL ∧ Below w.heap.size w w' := by
  go_enter Try.func35, Try.ntmps35
  go_wp2
  go_ret
  exact ⟨rfl, bytes_lit w commitL _ 15 rfl (by simp [maxLen]) rfl rfl, gr_alloc (gr_refl w) _⟩

end Go.Proofs.Ythpjjoahffagcaa
