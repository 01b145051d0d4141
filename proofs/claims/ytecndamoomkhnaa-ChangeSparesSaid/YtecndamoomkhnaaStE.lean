/-
  Contracts: chanceryref04.Open, chanceryref04.Of; chancerylaw04.awake.
-/
import Derived.Test.YtecndamoomkhnaaStD
namespace Go.Proofs.Ytecndamoomkhnaa
open Go.RowKit

theorem leN_inj : ∀ (a b : List UInt8), a.length = b.length → leN a = leN b → a = b
  | [], [], _, _ => rfl
  | [], _ :: _, h, _ => by simp at h
  | _ :: _, [], h, _ => by simp at h
  | x :: a, y :: b, h, e => by
    simp only [leN] at e
    have hx := x.toNat_lt
    have hy := y.toNat_lt
    have h1 : x.toNat = y.toNat := by omega
    have h2 : leN a = leN b := by omega
    rw [UInt8.toNat_inj.1 h1, leN_inj a b (by simpa using h) h2]

theorem leN_bne (a b : List UInt8) (h : a.length = b.length) : (((leN a : Nat) : Int) != ((leN b : Nat) : Int)) = !(a == b) := by
  rw [Bool.eq_iff_iff]
  simp only [bne_iff_ne, Bool.not_eq_true', beq_eq_false_iff_ne]
  constructor
  · intro hne e; exact hne (by rw [e])
  · intro hne e; exact hne (leN_inj a b h (by omega))

set_option maxHeartbeats 400000 in
theorem refOpen_short (A : Option Addr) (n c : Nat) (w : World) (hn : n ≠ 4096) (_hn2 : n ≤ 9223372036854775807) :
    Calls Try.prog 43 #[.slice A n c] w fun e w' => e = .returned (.tuple #[.slice none 0 0, .int .u64 0, .int .i64 2]) ∧ w = w' := by
  have h1 : ((n : Int) != 4096) = true := by rw [bne_iff_ne]; omega
  clear hn
  go_enter Try.func43, Try.ntmps43
  go_wp2
  go_ret3
  exact ⟨rfl, rfl⟩

set_option maxHeartbeats 400000 in
set_option maxRecDepth 100000 in
theorem refOpen_any (A : Option Addr) (c : Nat) (l : List UInt8) (w : World) (ha : BR w A 4096 l) (hc : 4096 ≤ c) :
    Calls Try.prog 43 #[.slice A 4096 c] w fun e w' => ∃ r, e = .returned (.tuple #[r, .int .u64 ((openS l : Nat) : Int), .int .i64 (openE l)]) ∧ OB w' w.heap.size r (openP l) ∧ Below w.heap.size w w' := by
  obtain ⟨i0, hi0, hz0, hz1, hz2⟩ := info_parts info_u8
  have hl := ha.len
  have n1 : numAt l 0 8 = some (leN (l.take 8)) := by unfold numAt; rw [if_neg (by omega)]; rfl
  have n2 : numAt l 4088 8 = some (leN (l.drop 4088)) := by
    unfold numAt
    rw [if_neg (by omega)]
    congr 2
    exact List.take_of_length_le (by rw [List.length_drop]; omega)
  have hbn := leN_bne (l.take 8) (l.drop 4088) (by rw [List.length_take, List.length_drop]; omega)
  have c1 := refNumber_any A 4096 c l w 0 8 ha (by omega) (by omega) (by omega) (by omega)
  have c2 := refNumber_any A 4096 c l w 4088 8 ha (by omega) (by omega) (by omega) (by omega)
  rw [n1] at c1
  rw [n2] at c2
  simp only [Option.getD_some, Option.isSome_some] at c1 c2
  have hcut := fun W => run_cut_lh (P := Try.prog) W 22 5 i0 Try.underlying22 hi0 1 hz1 A 4096 c 8 4088 8 4088 rfl rfl (by omega) (by omega)
  have hpay := ha.cut (k := 8) (j := 4088) (c := c) (by omega) (by omega) hc
  have HP : Hid (openP l = if (l.take 8 == l.drop 4088) then (l.drop 8).take 4080 else []) := rfl
  have HE : Hid (openE l = if (l.take 8 == l.drop 4088) then 0 else 140) := rfl
  have HS : Hid (openS l = if (l.take 8 == l.drop 4088) then leN (l.take 8) else 0) := rfl
  generalize (l.take 8 == l.drop 4088) = sl at *
  generalize leN (l.take 8) = x at *
  generalize leN (l.drop 4088) = y at *
  generalize cutA A c 8 1 = A8 at *
  have C1 := Lib.hid c1
  have C2 := Lib.hid c2
  clear c1 c2 n1 n2 hl
  cases sl with
  | false =>
    simp only [Bool.not_false] at hbn
    go_enter Try.func43, Try.ntmps43
    go_wp2_with fail
    refine C1.out.mono ?_
    rintro e w' ⟨rfl, rfl⟩
    go_wp2_with fail
    refine C2.out.mono ?_
    rintro e w' ⟨rfl, rfl⟩
    go_wp2
    go_ret3
    refine ⟨_, by rw [HS.out, HE.out]; rfl, ?_, gr_refl _⟩
    rw [HP.out]
    exact OB.nil _ _
  | true =>
    simp only [Bool.not_true] at hbn
    go_enter Try.func43, Try.ntmps43
    go_wp2_with fail
    refine C1.out.mono ?_
    rintro e w' ⟨rfl, rfl⟩
    go_wp2_with fail
    refine C2.out.mono ?_
    rintro e w' ⟨rfl, rfl⟩
    go_wp2_with (at_builtin; refine wpList_append_Rd _ rfl (.tmp 26) (.tmp 28) _ rfl w.heap.size 5 i0 _ 1 1 Try.underlying22 hi0 hz0 hz1 hz2 rfl (.slice none 0 0) 0 [] rfl ⟨rfl, .inl ⟨rfl, rfl⟩⟩ A8 4080 _ _ rfl hpay (one_bv _) (by omega) (by simp only [maxLen]; omega) (Nat.le_refl _) ?_; intro v1 w1 hown1 hg1 _ _)
    go_ret3
    refine ⟨v1, by rw [HS.out, HE.out]; rfl, ?_, (Below.refl _ _).grown hg1 (Nat.le_refl _) (by simp [Value.ownBlock])⟩
    rw [HP.out]
    exact OB.of_own hown1 (by simp)

set_option maxHeartbeats 400000 in
theorem refOf_any (a b : Int) (w : World) :
    Calls Try.prog 44 #[.int .i64 a, .int .i64 b] w fun e w' => e = .returned (.int .u64 (a % 4294967296 * 4294967296 + b % 4294967296)) ∧ w = w' := by
  go_enter Try.func44, Try.ntmps44
  go_wp2
  go_ret
  refine ⟨ret_i ?_, rfl⟩
  simp only [IntKind.wrap_u64]
  rw [Int.tmod_eq_emod_of_nonneg (Int.emod_nonneg a (by decide)), Int.tmod_eq_emod_of_nonneg (Int.emod_nonneg b (by decide))]
  omega

theorem open_seal (a p : List UInt8) (ha : a.length = 8) (hp : p.length = 4080) : openP (a ++ p ++ a) = p ∧ openS (a ++ p ++ a) = leN a ∧ openE (a ++ p ++ a) = 0 := by
  have h1 : (a ++ p ++ a).take 8 = a := by rw [List.append_assoc]; exact List.take_left' ha
  have h2 : (a ++ p ++ a).drop 4088 = a := List.drop_left' (by rw [List.length_append, ha, hp])
  have h3 : ((a ++ p ++ a).drop 8).take 4080 = p := by rw [List.append_assoc, List.drop_left' ha]; exact List.take_left' hp
  have hs : sealed (a ++ p ++ a) = true := by unfold sealed; rw [h1, h2]; simp
  unfold openP openS openE
  rw [hs, h1, h3]
  exact ⟨rfl, rfl, rfl⟩

theorem seal_at0 (a p q : List UInt8) (i : Nat) (h : i < a.length) : (a ++ p ++ q).getD i 0 = a.getD i 0 := by
  rw [List.append_assoc]
  simp [List.getD, List.getElem?_append_left h]
theorem seal_at1 (a p q : List UInt8) (i j : Nat) (hj : j = a.length + i) (h : i < p.length) : (a ++ p ++ q).getD j 0 = p.getD i 0 := by
  subst hj
  rw [List.append_assoc]
  simp [List.getD, List.getElem?_append_right, List.getElem?_append_left h]
theorem seal_at2 (a p q : List UInt8) (i j : Nat) (hj : j = a.length + p.length + i) : (a ++ p ++ q).getD j 0 = q.getD i 0 := by
  subst hj
  have : (a ++ p).length ≤ a.length + p.length + i := by rw [List.length_append]; omega
  simp only [List.getD]
  rw [List.getElem?_append_right this, List.length_append]
  congr 2
  omega

set_option maxHeartbeats 1000000 in
set_option maxRecDepth 100000 in
theorem awake04_any (w : World) : Calls Try.prog 27 #[] w fun e w' => e = .returned (.bool true) ∧ Below w.heap.size w w' := by
  obtain ⟨P0, hP0⟩ : ∃ P0 : List UInt8, ([1, 2] : List UInt8) ++ List.replicate (4080 - 2) 0 = P0 := ⟨_, rfl⟩
  have hPl : P0.length = 4080 := by rw [← hP0]; simp only [List.length_append, List.length_replicate]; rfl
  have hP1 : P0.getD 0 0 = 1 := by rw [← hP0]; rfl
  have hP2 : P0.getD 1 0 = 2 := by rw [← hP0]; rfl
  have hA : (leB 3 8).length = 8 := leB_length _ _
  obtain ⟨o1, o2, o3⟩ := open_seal (leB 3 8) P0 hA hPl
  have a0 := seal_at0 (leB 3 8) P0 (leB 3 8) 0 (by omega)
  have a8 := seal_at1 (leB 3 8) P0 (leB 3 8) 0 8 (by omega) (by omega)
  have a9 := seal_at2 (leB 3 8) P0 (leB 3 8) 0 4088 (by omega)
  have hL : (leB 3 8 ++ P0 ++ leB 3 8).length = 4096 := by simp only [List.length_append, hA, hPl]
  have e3 : (leB 3 8).getD 0 0 = 3 := by decide
  have e4 : leN (leB 3 8) = 3 := by decide
  rw [e3] at a0 a9
  rw [hP1] at a8
  rw [e4] at o2
  generalize hLL : leB 3 8 ++ P0 ++ leB 3 8 = L at *
  have HLL := Lib.hid hLL
  have HP0 := Lib.hid hP0
  have HO1 := Lib.hid o1
  have HO2 := Lib.hid o2
  have HO3 := Lib.hid o3
  have HP2 := Lib.hid hP2
  have HA0 := Lib.hid a0
  have HA8 := Lib.hid a8
  have HA9 := Lib.hid a9
  have HL := Lib.hid hL
  have HPL := Lib.hid hPl
  clear hLL hP0 o1 o2 o3 hP2 hP1 a0 a8 a9 hL hPl e3 e4 hA
  go_enter Try.func27, Try.ntmps27
  go_wp2_with fail
  refine (Seal_fits _ 2 2 3 [1, 2] _ (BR.litAt _ _ [1, 2] #[_, _] _ _ rfl rfl rfl) (by omega) (by omega)).mono ?_
  rintro e w1 ⟨v1, rfl, ho1, hb1⟩
  rw [HP0.out, HLL.out] at ho1
  obtain ⟨A1, c1, rfl, r1, hc1, hm1⟩ := ho1.formN (n := 4096) HL.out
  have hb2 := gr_trans (gr_alloc (gr_refl w) _) hb1
  clear ho1 hb1
  go_wp2_with fail
  refine (Open_any A1 c1 L _ r1 hc1).mono ?_
  rw [HO1.out, HO2.out, HO3.out]
  rintro e w2 ⟨v2, rfl, ho2, hb3⟩
  obtain ⟨A2, c2, rfl, r2, hc2, hm2⟩ := ho2.formN (n := 4080) HPL.out
  have r1' := r1.below hb3
  have hb4 := gr_trans hb2 hb3
  clear ho2 hb2 hb3 r1
  obtain ⟨g, o, rfl, k0⟩ := r1'.at_ (k := 0) (by omega)
  obtain ⟨g', o', e', k8⟩ := r1'.at_ (k := 8) (by omega)
  cases e'
  obtain ⟨g', o', e', k9⟩ := r1'.at_ (k := 4088) (by omega)
  cases e'
  obtain ⟨g2, o2, rfl, k1⟩ := r2.at_ (k := 1) (by omega)
  rw [HA0.out, Nat.add_zero] at k0
  rw [HA8.out] at k8
  rw [HA9.out] at k9
  rw [HP2.out] at k1
  go_wp2_with fail
  refine (Of_any 1 2 _).mono ?_
  rintro e w3 ⟨rfl, rfl⟩
  go_wp2
  go_ret
  exact ⟨rfl, hb4⟩

end Go.Proofs.Ytecndamoomkhnaa
