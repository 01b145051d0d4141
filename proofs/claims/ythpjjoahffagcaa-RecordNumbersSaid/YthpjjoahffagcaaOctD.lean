/-
  Contract: octets.add.
-/
import Derived.Test.YthpjjoahffagcaaOctC
namespace Go.Proofs.Ythpjjoahffagcaa
open Go.RowKit

/-- The lowest s bytes of v, the lowest first. -/
def leB (v : Nat) : Nat → List UInt8
  | 0 => []
  | s + 1 => UInt8.ofNat v :: leB (v / 256) s

theorem leB_length (v s : Nat) : (leB v s).length = s := by
  induction s generalizing v with
  | zero => rfl
  | succ s ih => simp [leB, ih]

theorem leB_snoc (v s : Nat) : leB v (s + 1) = leB v s ++ [UInt8.ofNat (v / 256 ^ s)] := by
  induction s generalizing v with
  | zero => simp [leB]
  | succ s ih =>
    rw [leB, ih, leB, List.cons_append]
    congr 3
    rw [Nat.div_div_eq_div_mul, Nat.pow_succ, Nat.mul_comm]

theorem leN_leB (v s : Nat) : leN (leB v s) = v % 256 ^ s := by
  induction s generalizing v with
  | zero => simp [leB, leN, Nat.mod_one]
  | succ s ih =>
    have h : (UInt8.ofNat v).toNat = v % 256 := by simp
    rw [leB, leN, ih, h, Nat.pow_succ, Nat.mul_comm (256 ^ s) 256, Nat.mod_mul]

theorem byte_of (v k : Nat) : Value.int .u8 ((v : Int) / 2 ^ k % 256) = bv (UInt8.ofNat (v / 2 ^ k)) := by
  unfold bv
  congr 1

set_option maxHeartbeats 400000 in
theorem add_any (A : Option Addr) (n c : Nat) (l : List UInt8) (w : World) (v s : Nat) (ha : BR w A n l) (hn : n ≤ 211106232532984) (hs : s ≤ 8) (hv : v < 18446744073709551616) :
    Calls Try.prog 62 #[.slice A n c, .int .u64 v, .int .i64 s] w fun e w' => ∃ r, e = .returned r ∧ OB w' w.heap.size r (l ++ leB v s) ∧ Below w.heap.size w w' := by
  obtain ⟨i0, hi0, hz0, hz1, hz2⟩ := info_parts info_u8
  have hmk : ∀ u : World, (Instr.makeSlice 26 (.int .i64 0) (.int .i64 ((n : Int) + (s : Int)))).run Try.prog u =
      .ok (.slice (some ⟨u.heap.size, 0, none⟩) 0 (n + s)) (u.alloc (.cells (madeCells #[.int .u8 0] (n + s)) 5)) := fun u => by
    have h := run_make (P := Try.prog) u 26 5 i0 (.int .u8 0) Try.underlying26 hi0 hz0 .i64 .i64 0 ((n : Int) + (s : Int)) (by omega) (by omega) (by rw [hz2]; omega) (by omega)
    have e : ((n : Int) + (s : Int)).toNat = n + s := by omega
    rw [e] at h
    simpa [hz1, Value.cells] using h
  go_enter Try.func62, Try.ntmps62
  go_wp2_with (at_builtin; refine wpList_append_Rd _ rfl (.tmp 14) (.tmp 15) _ rfl w.heap.size 5 i0 _ 1 1 Try.underlying26 hi0 hz0 hz1 hz2 rfl (.slice (some ⟨w.heap.size, 0, none⟩) 0 (n + s)) 0 [] rfl (World.ownsRow_made w _ (n + s) (Nat.le_refl _) (by simp only [maxLen]; omega) (by rw [size_madeCells, Nat.mul_one])) A n c _ rfl (BR.alloc ha _) (one_bv l) (by omega) (by simp only [maxLen]; omega) (by simp) ?_; intro v1 w1 hown1 hg1 _ _)
  have hl := ha.len
  have ho1 : OB w1 w.heap.size v1 (l ++ leB v 0) := by
    unfold OB
    simp only [leB, List.append_nil]
    rw [hl]
    simpa using hown1
  have hb1 : Below w.heap.size w w1 := ((Below.refl _ _).alloc (Nat.le_refl _) _).grown hg1 (by simp) (by simp [Value.ownBlock])
  have HL := Lib.hid hl
  have HV := Lib.hid hv
  clear hl hown1 hg1 hmk hv
  go_loopw [7, 8, 18] (fun r _ i wr => ∃ j : Nat, j ≤ s ∧ i = .int .i64 j ∧ OB wr w.heap.size r (l ++ leB v j) ∧ Below w.heap.size w wr) (fun _ _ i _ => s - (intOf i).toNat)
  case atStart => exact ⟨0, Nat.zero_le _, rfl, ho1, hb1⟩
  case round =>
    obtain ⟨j, hj, rfl, ho, hb⟩ := hrel
    clear ho1 hb1
    by_cases hlt : j < s
    · have hlen : (l ++ leB v j).length = n + j := by rw [List.length_append, leB_length, HL.out]
      have HLEN := Lib.hid hlen
      have hlen2 : (l ++ leB v j).length ≤ n + j := by omega
      clear hlen
      go_wp2_with (at_builtin; refine wpList_append_Rd _ rfl (.tmp 21) (.tmp 27) _ rfl w.heap.size 5 i0 _ 1 1 Try.underlying26 hi0 hz0 hz1 hz2 rfl u7 (l ++ leB v j).length _ rfl (World.ownsRow.alloc ho _) _ 1 1 _ rfl (Rd.new wr _ #[_] 1 1 rfl) (by simp [Value.oneCell']) (by omega) (by simp only [maxLen]; omega) (by have := hb.size; simp; omega) ?_; intro v2 w2 hown2 hg2 _ hat2)
      have hb2 : Below w.heap.size w w2 := (hb.alloc hb.size _).grown hg2 (by have := hb.size; simp; omega) (fun k hk => (ho.lt k hk).1)
      have ho2 : OB w2 w.heap.size v2 (l ++ leB v (j + 1)) := by
        refine OB.of_own hown2 ?_
        rw [leB_snoc, ← List.append_assoc, byte_of, pow256]
        simp
      clear hown2 hg2 hat2 hlen2
      go_wp2
      go_roundw
      case rel => exact ⟨j + 1, by omega, by go_num, ho2, hb2⟩
      case measure => simp [intOf]; omega
    · go_wp2
      go_ret
      have : j = s := by omega
      subst this
      exact ⟨_, rfl, ho, hb⟩

end Go.Proofs.Ythpjjoahffagcaa
