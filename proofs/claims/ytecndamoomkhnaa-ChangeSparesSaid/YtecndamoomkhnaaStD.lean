/-
  append(out, make([]byte, k)...) onto bytes of the call's own; contracts: chanceryref04.Seal, Open, Of.
-/
import Derived.Test.YtecndamoomkhnaaStC
import Derived.Test.YtecndamoomkhnaaRefB
import Derived.Lib.AppendZerosOnto
namespace Go.Proofs.Ytecndamoomkhnaa
open Go.RowKit

theorem zeroCells_u8 (k : Nat) : (Builtin.zeroCells (Value.cells (.int .u8 0)) k).toList = (List.replicate k (0 : UInt8)).map bv := by
  have h : Builtin.zeroCells (Value.cells (.int .u8 0)) k = zeroB k := by
    unfold Builtin.zeroCells zeroB madeCells
    simp [Value.cells]
  rw [h, zeroB_toList]

theorem run_append_zeros (w : World) (base : Nat) (ty : TypeId) (A : Option Addr) (c N : Nat) (l : List UInt8) (k : Nat) (x : Int) (hx : x = k) (hN : l.length = N) (hown : OB w base (.slice A N c) l) (hne : 0 < l.length) (hb : base ≤ w.heap.size) (hbig : l.length + k ≤ 140737488355328) :
    ∃ v' w', (Builtin.append_ #[22, 3] ty #[.slice A N c, .int .i64 x]).run Try.prog w = .ok v' w' ∧ OB w' base v' (l ++ List.replicate k 0) ∧ w.grownBy w' (Value.slice A N c).ownBlock := by
  subst hN
  obtain ⟨i0, hi0, hz0, hz1, hz2⟩ := info_parts info_u8
  subst hx
  have hw : IntKind.i64.wrap (k : Int) = k := by rw [IntKind.wrap_i64]; omega
  have hneg : ¬ ((k : Int) < 0) := by omega
  have h48i : ¬ (281474976710656 < (k : Int)) := by omega
  rcases hown.2 with ⟨e, h0⟩ | ⟨g, cap, cur, e, hbg, hg, hnc, hcm, hcs, htake⟩
  · omega
  · cases e
    simp only [Nat.mul_one] at hcs htake
    by_cases hroom : l.length + k ≤ c
    · rcases Nat.eq_zero_or_pos k with h0 | h0
      · subst h0
        refine ⟨_, w, ?_, by simpa using hown, World.grownBy.refl w _⟩
        have hw0 : IntKind.i64.wrap 0 = 0 := by decide
        simp [Builtin.append_, run_underlying Try.underlying22, run_underlying Try.underlying3, sizeOf, typeInfo, hi0, hz2, asInt, asIntOf, hw0, hnc, storeCells]
      · have hst := run_storeCells_at Try.prog g l.length 5 ((List.replicate k (0 : UInt8)).map bv) 0 cur w hg (by simp; omega) (one_bv _)
        simp only [Nat.add_zero] at hst
        have hzc := zeroCells_u8 k
        have hns : ¬ (k = 0) := by omega
        simp only [List.map_replicate, List.length_replicate] at hst hzc
        refine ⟨.slice (some ⟨g, 0, none⟩) (l.length + k) c, w.setRow g (cur.toList.take l.length ++ (List.replicate k (0 : UInt8)).map bv ++ cur.toList.drop (l.length + ((List.replicate k (0 : UInt8)).map bv).length)).toArray, ?_, OB.of_own (n := l.length + k) (xs := l.map bv ++ (List.replicate k (0 : UInt8)).map bv) ⟨by simp, .inr ⟨g, c, _, rfl, hbg, setRow_heap w g cur _ _ _ hg, hroom, hcm, ?_, ?_⟩⟩ (by simp), ⟨rfl, rfl, rfl, by simp, fun j _ hj => setRow_other w g j _ (fun e => hj (by simp [Value.ownBlock, e]))⟩⟩
        · simp [Builtin.append_, run_underlying Try.underlying22, run_underlying Try.underlying3, sizeOf, typeInfo, zeroValue, hi0, hz0, hz1, hz2, asInt, asIntOf, hw, hroom, hneg, h48i, hns, hzc, hst, add_plain]
        · simp; omega
        · rw [Nat.mul_one]
          have h1 : (cur.toList.take l.length ++ (List.replicate k (0 : UInt8)).map bv).length = l.length + k := by simp; omega
          rw [← htake]
          exact List.take_left' h1
    · have holds : ∀ j u, (l.map bv)[j]? = some u → w.cell? ((⟨g, 0, none⟩ : Addr).add j) = some u := hown.cells (g := g) rfl
      have hfirst : (Builtin.firstCells i0.size l.length (.slice (some ⟨g, 0, none⟩) l.length c)).run Try.prog w.drew = .ok (l.map bv).toArray w.drew :=
        run_firstCells_some (P := Try.prog) w.drew i0.size l.length ⟨g, 0, none⟩ l.length c (l.map bv) (by simp [hz1]) holds
      have hq := nextslicecap_quarter (need := l.length + k) (old := c) (by omega)
      have hr := Lib.run_append_grow_zeros (P := Try.prog) w 22 3 ty 5 i0 (.int .u8 0) .i64 .i64 Try.underlying22 Try.underlying3 hi0 hz0 (some ⟨g, 0, none⟩) l.length c (l.map bv) hfirst k (by omega) (by omega) (by omega) (by omega) (by rw [hz2]; omega) (by rw [hz2]; omega)
      have hge := grownCap_ge w (l.length + k) c 5
      have hcm2 : grownCap w (l.length + k) c 5 ≤ maxLen := grownCap_le_maxLen w _ _ _ (by simp only [maxLen]; omega)
      refine ⟨_, _, hr, OB.of_own (n := l.length + k) (xs := l.map bv ++ (List.replicate k (0 : UInt8)).map bv) ⟨by simp, .inr ⟨w.heap.size, _, _, rfl, hb, heap_alloc_new w.drew _, hge, hcm2, ?_, ?_⟩⟩ (by simp), ⟨rfl, rfl, rfl, by simp, fun j hj _ => Below.heap_alloc w.drew _ j hj⟩⟩
      · simp only [Array.size_append, List.size_toArray, List.length_map, size_zeroCells, Value.cells]
        simp
        omega
      · simp only [Array.toList_append, zeroCells_u8, Nat.mul_one]
        have h1 : (l.map bv ++ (List.replicate k (0 : UInt8)).map bv).length = l.length + k := by simp
        exact List.take_left' h1

set_option maxHeartbeats 400000 in
theorem refSeal_long (A : Option Addr) (n c v : Nat) (w : World) (hn : 4080 < n) (hn2 : n ≤ 9223372036854775807) :
    Calls Try.prog 42 #[.slice A n c, .int .u64 v] w fun e w' => e = .returned (.tuple #[.slice none 0 0, .int .i64 3]) ∧ w = w' := by
  go_enter Try.func42, Try.ntmps42
  go_wp2
  go_ret2
  exact ⟨rfl, rfl⟩

set_option maxHeartbeats 400000 in
set_option maxRecDepth 100000 in
theorem refSeal_fits (A : Option Addr) (n c v : Nat) (l : List UInt8) (w : World) (ha : BR w A n l) (hn : n ≤ 4080) (hv : v < 18446744073709551616) :
    Calls Try.prog 42 #[.slice A n c, .int .u64 v] w fun e w' => ∃ r, e = .returned (.tuple #[r, .int .i64 0]) ∧ OB w' w.heap.size r (leB v 8 ++ (l ++ List.replicate (4080 - n) 0) ++ leB v 8) ∧ Below w.heap.size w w' := by
  obtain ⟨i0, hi0, hz0, hz1, hz2⟩ := info_parts info_u8
  have hn' : decide ((4080 : Int) < (n : Int)) = false := by simp; omega
  have HV := Lib.hid hv
  have HL := Lib.hid ha.len
  clear hv
  go_enter Try.func42, Try.ntmps42
  go_wp2_with fail
  refine (refAdd_any none 0 0 [] w v 8 (BR.none_ _ _) (by omega) (by omega) HV.out).mono ?_
  rintro e w1 ⟨v1, rfl, ho1, hb1⟩
  rw [List.nil_append] at ho1
  have ha1 := ha.below hb1
  have hlb : (leB v 8).length ≤ 8 := by rw [leB_length]; omega
  go_wp2_with (first
    | (at_builtin; refine wpList_append_Rd _ rfl (.tmp 12) (.tmp 13) _ rfl w.heap.size 5 i0 _ 1 1 Try.underlying22 hi0 hz0 hz1 hz2 rfl v1 (leB v 8).length _ rfl ho1 A n c _ rfl ha1 (one_bv l) (by omega) (by simp only [maxLen]; omega) hb1.size ?_; intro v2 w2 hown2 hg2 _ _; have hb2 := gr_own hb1 ho1 hg2; obtain ⟨A2, c2, rfl, hc2, hm2⟩ := own_form hown2; clear ho1)
    | (at_builtin; obtain ⟨v3, w3, hr3, ho3, hg3⟩ := run_append_zeros w2 w.heap.size 22 A2 c2 ((leB v 8).length + n) (leB v 8 ++ l) (4080 - n) (4080 - (n : Int)) (by omega) (by rw [List.length_append, HL.out]) (OB.of_own hown2 (by simp)) (by rw [List.length_append, leB_length]; omega) hb2.size (by rw [List.length_append, leB_length, HL.out]; omega); refine Lib.wpList_append_run _ rfl (.tmp 15) (.tmp 18) _ _ rfl _ _ rfl rfl _ _ hr3 ?_; clear hr3; have hb3 := gr_own hb2 hown2 hg3; obtain ⟨A3, c3, rfl, r3, hc3, hm3⟩ := ho3.formN (n := 4088) (by simp only [List.length_append, leB_length, HL.out, List.length_replicate]; omega)))
  refine (refAdd_any A3 4088 c3 _ w3 v 8 r3 (by omega) (by omega) HV.out).mono ?_
  rintro e w4 ⟨v4, rfl, ho4, hb4⟩
  go_wp2
  go_ret2
  refine ⟨v4, rfl, ?_, gr_trans hb3 hb4⟩
  have := OB.lower ho4 hb3.size
  simpa only [List.append_assoc] using this

end Go.Proofs.Ytecndamoomkhnaa
