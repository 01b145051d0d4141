/-
  Contracts of chancerylow, for seats without the octets' laws: SameBytes, CopyBytes, Pick, LentBytes, KeptBytes, Made.
-/
import Derived.Test.YtjopobkcijkpmaaMem
namespace Go.Proofs.Ytjopobkcijkpmaa
open Go.RowKit

theorem run_str {P : Program} {w : World} {A : Option Addr} {n : Nat} {l : List UInt8} (h : BR w A n l) {src dst e : TypeId}
    (hs : P.underlying src = some (.slice e)) (he : P.underlying e = some (.int .u8)) (hd : P.underlying dst = some .string) (c : Nat) :
    (convert src dst (.slice A n c)).run P w = .ok (.string ⟨l.toArray⟩) w := by
  rw [run_convert_bytes_string w src dst e _ n c hs he hd]
  rcases A with _ | ad
  · have h0 : n = 0 := by
      rcases Nat.eq_zero_or_pos n with h0 | h0
      · exact h0
      · obtain ⟨ad, e, _⟩ := h.2 h0
        cases e
    subst h0
    have : l = [] := List.eq_nil_of_length_eq_zero h.len
    subst this
    simp [Conv.bytesToString]
    rfl
  · rw [run_bytesToString w _ n c _ (h.load P rfl), foldl_push_bytes, ofNat_toNat_bytes]
    exact congrArg (fun x => Result.ok (Value.string x) w) (congrArg ByteArray.mk (Array.empty_append))

set_option maxHeartbeats 400000 in
theorem SameBytes_any (A B : Option Addr) (n m c d : Nat) (a b : List UInt8) (w : World) (ha : BR w A n a) (hb : BR w B m b) :
    Calls Try.prog 26 #[.slice A n c, .slice B m d] w fun e w' => e = .returned (.bool (a == b)) ∧ w = w' := by
  have h1 := run_str ha Try.underlying33 Try.underlying5 Try.underlying9 c
  have h2 := run_str hb Try.underlying33 Try.underlying5 Try.underlying9 d
  go_enter Try.func26, Try.ntmps26
  go_wp2
  go_ret
  exact ⟨rfl, rfl⟩

set_option maxHeartbeats 400000 in
theorem CopyBytes_any (A : Option Addr) (n c : Nat) (l : List UInt8) (w : World) (ha : BR w A n l) (hn : n ≤ 211106232532992) :
    Calls Try.prog 21 #[.slice A n c] w fun e w' => ∃ v, e = .returned v ∧ OB w' w.heap.size v l ∧ Below w.heap.size w w' := by
  obtain ⟨i0, hi0, hz0, hz1, hz2⟩ := info_parts info_u8
  go_enter Try.func21, Try.ntmps21
  go_wp2_with (at_builtin; refine wpList_append_Rd _ rfl _ _ _ rfl w.heap.size 5 i0 _ 1 1 Try.underlying33 hi0 hz0 hz1 hz2 rfl (.slice none 0 0) 0 [] rfl ⟨rfl, .inl ⟨rfl, rfl⟩⟩ A n c _ rfl ha (one_bv l) (by omega) (by simp only [maxLen]; omega) (Nat.le_refl _) ?_; intro v1 w1 hown1 hg1 _ _)
  go_ret
  have hl := ha.len
  refine ⟨v1, rfl, ?_, (Below.refl _ _).grown hg1 (Nat.le_refl _) (by simp [Value.ownBlock])⟩
  unfold OB
  rw [hl]
  simpa using hown1

theorem sameB_own (x y : Value) (l : List UInt8) (w : World) {b1 b2 : Nat} (h1 : OB w b1 x l) (h2 : OB w b2 y l) :
    Calls Try.prog 26 #[x, y] w fun e w' => e = .returned (.bool true) ∧ w = w' := by
  obtain ⟨A, c, rfl, r1, _, _⟩ := h1.form
  obtain ⟨B, d, rfl, r2, _, _⟩ := h2.form
  refine (SameBytes_any A B _ _ c d l l w r1 r2).mono ?_
  rintro e w' ⟨rfl, rfl⟩
  exact ⟨by simp, rfl⟩

theorem ret_i {k : IntKind} {a b : Int} (h : a = b) : Ending.returned (.int k a) = .returned (.int k b) := by rw [h]

theorem tmod_pos (x n : Int) (hn : 0 < n) : -n < x.tmod n ∧ x.tmod n < n ∧ (x.tmod n < 0 → x % n = x.tmod n + n) ∧ (0 ≤ x.tmod n → x % n = x.tmod n) := by
  have h1 := Int.lt_tmod_of_pos x hn
  have h2 := Int.tmod_lt_of_pos x hn
  have h3 : x % n = (x.tmod n) % n := by
    conv => lhs; rw [← Int.tmod_add_mul_tdiv x n]
    rw [Int.add_mul_emod_self_left]
  refine ⟨h1, h2, fun h => ?_, fun h => ?_⟩
  · rw [h3, ← Int.add_emod_right, Int.emod_eq_of_lt (by omega) (by omega)]
  · rw [h3, Int.emod_eq_of_lt h h2]

set_option maxHeartbeats 400000 in
theorem Pick_any (x n : Int) (w : World) (hn : 0 < n) (hn2 : n ≤ 9223372036854775807) :
    Calls Try.prog 15 #[.int .i64 x, .int .i64 n] w fun e w' => e = .returned (.int .i64 (x % n)) ∧ w = w' := by
  go_enter Try.func15, Try.ntmps15
  obtain ⟨t1, t2, t3, t4⟩ := tmod_pos x n hn
  have T3 := Lib.hid t3
  have T4 := Lib.hid t4
  clear t3 t4
  go_wp2
  · have h : x.tmod n < 0 := by assumption
    go_ret
    exact ⟨ret_i (by first | rw [IntWalk.wrap64_in _ (by omega), T3.out h] | rw [T3.out h]), rfl⟩
  · have h : 0 ≤ x.tmod n := by assumption
    go_ret
    exact ⟨ret_i (T4.out h).symm, rfl⟩

/-- What LentBytes hands out: the bytes l, and three marks in the room behind them. -/
def Lent (w : World) (base : Nat) (A : Option Addr) (c : Nat) (l : List UInt8) : Prop :=
  w.ownsRow base 5 1 (.slice A (l.length + 3) c) (l.length + 3) ((l ++ [77, 78, 79]).map bv)

theorem Lent.BR {w : World} {base : Nat} {A : Option Addr} {c : Nat} {l : List UInt8} (h : Lent w base A c l) : Proofs.Ytjopobkcijkpmaa.BR w A l.length l ∧ l.length + 3 ≤ c ∧ c ≤ maxLen := by
  have h' : OB w base (.slice A (l.length + 3) c) (l ++ [77, 78, 79]) := OB.of_own h rfl
  obtain ⟨A', c', e, hr, hc, hm⟩ := h'.form
  injection e with e1 e2 e3
  subst e1 e3
  have := hr.pre (j := l.length) (by simp)
  rw [List.take_left] at this
  exact ⟨this, by simpa using hc, hm⟩

theorem Lent.below {w w' : World} {base : Nat} {A : Option Addr} {c : Nat} {l : List UInt8} (h : Lent w base A c l) (hb : Below w.heap.size w w') : Lent w' base A c l :=
  World.ownsRow.kept h (row := none) ⟨hb.os, hb.tape, hb.output, hb.size, fun k hk _ => hb.block k hk⟩ (by cases (Value.slice A (l.length + 3) c).ownBlock <;> simp)

set_option maxHeartbeats 400000 in
theorem LentBytes_any (A : Option Addr) (n c : Nat) (l : List UInt8) (w : World) (ha : BR w A n l) (hn : n ≤ 211106232532992) :
    Calls Try.prog 78 #[.slice A n c] w fun e w' => ∃ A' c', e = .returned (.slice A' n c') ∧ Lent w' w.heap.size A' c' l ∧ Below w.heap.size w w' := by
  obtain ⟨i0, hi0, hz0, hz1, hz2⟩ := info_parts info_u8
  have hcp := CopyBytes_any A n c l w ha hn
  have HC := Lib.hid hcp
  have hl2 : l.length ≤ n := by rw [ha.len]; omega
  have HL := Lib.hid ha.len
  clear hcp
  have hcut := fun W A2 m2 c2 (h : n ≤ c2) => run_cut_h (P := Try.prog) W 33 5 i0 Try.underlying33 hi0 1 hz1 A2 m2 c2 (n : Int) n rfl h
  go_enter Try.func78, Try.ntmps78
  go_wp2_with fail
  refine HC.out.mono ?_
  rintro e w1 ⟨v1, rfl, ho1, hb1⟩
  go_wp2_with (at_builtin; refine wpList_append_Rd _ rfl _ _ _ rfl w.heap.size 5 i0 _ 1 1 Try.underlying33 hi0 hz0 hz1 hz2 rfl v1 l.length _ rfl (World.ownsRow.alloc ho1 _) _ 3 3 _ rfl (Rd.new w1 _ #[_, _, _] 3 1 rfl) (by simp [Value.oneCell']) (by omega) (by simp only [maxLen]; omega) (by have := hb1.size; simp; omega) ?_; intro v2 w2 hown2 hg2 _ _; obtain ⟨A2, c2, rfl, hc2, hm2⟩ := own_form hown2; have hc3 : n ≤ c2 := by (have := HL.out; omega))
  go_ret
  refine ⟨A2, c2, rfl, ?_, (hb1.alloc hb1.size _).grown hg2 (by have := hb1.size; simp; omega) (fun k hk => (World.ownsRow.lt ho1 k hk).1)⟩
  unfold Lent
  simpa [bv] using hown2

theorem Lent.marks {w : World} {base : Nat} {A : Option Addr} {c : Nat} {l : List UInt8} (h : Lent w base A c l) :
    ∃ g o, A = some ⟨g, o, none⟩ ∧ w.cell? ⟨g, o + l.length, none⟩ = some (.int .u8 77) ∧ w.cell? ⟨g, o + (l.length + 1), none⟩ = some (.int .u8 78) ∧ w.cell? ⟨g, o + (l.length + 2), none⟩ = some (.int .u8 79) := by
  have h' : OB w base (.slice A (l.length + 3) c) (l ++ [77, 78, 79]) := OB.of_own h rfl
  obtain ⟨A', c', e, hr, hc, hm⟩ := h'.form
  injection e with e1 e2 e3
  subst e1
  obtain ⟨g, o, rfl, h0⟩ := hr.at_ (k := l.length) (by simp)
  obtain ⟨g1, o1, e1, h1⟩ := hr.at_ (k := l.length + 1) (by simp)
  obtain ⟨g2, o2, e2, h2⟩ := hr.at_ (k := l.length + 2) (by simp)
  cases e1
  cases e2
  exact ⟨g, o, rfl, by simpa using h0, by simpa using h1, by simpa using h2⟩

set_option maxHeartbeats 400000 in
theorem KeptBytes_any (A B : Option Addr) (n c d base : Nat) (l : List UInt8) (w : World) (hk : Lent w base A c l) (hb : BR w B n l) (hn : n ≤ 211106232532992) :
    Calls Try.prog 81 #[.slice A n c, .slice B n d] w fun e w' => e = .returned (.bool true) ∧ w = w' := by
  obtain ⟨i0, hi0, hz0, hz1, hz2⟩ := info_parts info_u8
  obtain ⟨hr, hc3, hm⟩ := hk.BR
  obtain ⟨g, o, rfl, h0, h1, h2⟩ := hk.marks
  have hl := hb.len
  rw [hl] at hr hc3 h0 h1 h2
  have hcut := fun W => run_cut_h (P := Try.prog) W 33 5 i0 Try.underlying33 hi0 1 hz1 (some ⟨g, o, none⟩) n c ((n : Int) + 3) (n + 3) rfl hc3
  have hS := SameBytes_any (some ⟨g, o, none⟩) B n n c d l l w hr hb
  simp only [beq_self_eq_true] at hS
  have HS := Lib.hid hS
  clear hl hS
  go_enter Try.func81, Try.ntmps81
  go_wp2_with fail
  refine HS.out.mono ?_
  rintro e w1 ⟨rfl, rfl⟩
  go_wp2
  go_ret
  exact ⟨rfl, rfl⟩

/-- The number out of which byte i is made. -/
def madeX (seed : Int) : Nat → Int
  | 0 => IntKind.u64.wrap (IntKind.u64.wrap (IntKind.u64.wrap seed * 2862933555777941757) + 3037000493)
  | i + 1 => if i % 64 = 0 then IntKind.u64.wrap (IntKind.u64.wrap (madeX seed i * 2862933555777941757) + 3037000493) else madeX seed i

/-- Bytes that are made of a number. -/
def madeL (seed : Int) (n : Nat) : List UInt8 := (List.range n).map fun i => UInt8.ofNat (madeX seed (i + 1) / 1099511627776 % 256).toNat

theorem madeL_len (seed : Int) (n : Nat) : (madeL seed n).length = n := by simp [madeL]

theorem madeX_turn {seed : Int} {j : Nat} {q : Int} (hq : q = madeX seed j) (h : ((j : Int) % 64 == 0) = true) : IntKind.u64.wrap (IntKind.u64.wrap (q * 2862933555777941757) + 3037000493) = madeX seed (j + 1) := by
  have hm : j % 64 = 0 := by simp at h; omega
  rw [hq]
  conv => rhs; unfold madeX
  rw [if_pos hm]
theorem madeX_stay {seed : Int} {j : Nat} {q : Int} (hq : q = madeX seed j) (h : ((j : Int) % 64 == 0) = false) : q = madeX seed (j + 1) := by
  have hm : ¬ j % 64 = 0 := by simp at h; omega
  conv => rhs; unfold madeX
  rw [if_neg hm, hq]
theorem madeL_step {seed : Int} {l : List UInt8} {j : Nat} (hj : j < l.length) (h : l.take j = madeL seed j) {q : Int} (hq : q = madeX seed (j + 1)) : (l.set j (UInt8.ofNat (q / 1099511627776 % 256).toNat)).take (j + 1) = madeL seed (j + 1) := by
  rw [List.take_succ_eq_append_getElem (by rw [List.length_set]; exact hj), List.take_set, List.set_eq_of_length_le (by rw [List.length_take]; omega), h, hq]
  unfold madeL
  rw [List.range_succ, List.map_append]
  simp

set_option maxHeartbeats 400000 in
theorem Made_any (seed : Int) (n : Nat) (w : World) (hn : n ≤ 140737488355328) :
    Calls Try.prog 28 #[.int .i64 seed, .int .i64 n] w fun e w' => e = .returned (.slice (some ⟨w.heap.size, 0, none⟩) n n) ∧ BB w' w.heap.size (madeL seed n) ∧ Below w.heap.size w w' := by
  have mk := run_mk_bytes n (by omega) n rfl
  go_enter Try.func28, Try.ntmps28
  go_wp2
  go_loopw [6, 7] (fun x i wr => ∃ (j : Nat) (q : Int) (l : List UInt8), j ≤ n ∧ i = .int .i64 j ∧ x = .int .u64 q ∧ Hid (q = madeX seed j) ∧ Hid (l.length = n) ∧ Hid (l.take j = madeL seed j) ∧ BB wr w.heap.size l ∧ Below w.heap.size w wr) (fun _ i _ => n - (intOf i).toNat)
  case atStart =>
    exact ⟨0, _, List.replicate n 0, by omega, rfl, rfl, Lib.hid rfl, Lib.hid (by simp), Lib.hid rfl, BB.zero w n, gr_alloc (gr_refl _) _⟩
  case round =>
    obtain ⟨j, q, l, hj, rfl, rfl, HQ, hl, HT, hB, hb⟩ := hrel
    by_cases hlt : j < n
    · have hc := hB.cell (j := j) (by rw [hl.out]; exact hlt)
      have hf := hB.frozen j
      by_cases hm : ((j : Int) % 64 == 0) = true
      · go_wp2
        go_roundw
        case rel =>
          refine ⟨j + 1, _, _, by omega, by go_num, rfl, ?_, ?_, ?_, hB.setInt j _ ?_ ?_, hb.setCell (Nat.le_refl _) _⟩
          · exact Lib.hid (madeX_turn HQ.out hm)
          · exact Lib.hid (by rw [List.length_set]; exact hl.out)
          · exact Lib.hid (madeL_step (by rw [hl.out]; exact hlt) HT.out (madeX_turn HQ.out hm))
          · exact Int.emod_nonneg _ (by decide)
          · exact Int.emod_lt_of_pos _ (by decide)
        case measure => simp [intOf]; omega
      · have hm' : ((j : Int) % 64 == 0) = false := by simpa using hm
        clear hm
        go_wp2
        go_roundw
        case rel =>
          refine ⟨j + 1, _, _, by omega, by go_num, rfl, ?_, ?_, ?_, hB.setInt j _ ?_ ?_, hb.setCell (Nat.le_refl _) _⟩
          · exact Lib.hid (madeX_stay HQ.out hm')
          · exact Lib.hid (by rw [List.length_set]; exact hl.out)
          · exact Lib.hid (madeL_step (by rw [hl.out]; exact hlt) HT.out (madeX_stay HQ.out hm'))
          · exact Int.emod_nonneg _ (by decide)
          · exact Int.emod_lt_of_pos _ (by decide)
        case measure => simp [intOf]; omega
    · go_wp2
      go_ret
      obtain rfl : j = n := by omega
      refine ⟨rfl, ?_, hb⟩
      have := HT.out
      rw [List.take_of_length_le (Nat.le_of_eq hl.out)] at this
      rw [← this]
      exact hB

end Go.Proofs.Ytjopobkcijkpmaa
