/-
  chanceryref08.Diff.
-/
import Derived.Test.YtecndamoomkhnaaDfF
namespace Go.Proofs.Ytecndamoomkhnaa
open Go.RowKit

/-- What the places below i have made. -/
def dfo (a b : List UInt8) (i : Nat) : List Pc × Nat × Nat := (unlTo a b i).foldl (dstep b) ([], 0, 0)
/-- .. with the piece that is being made. -/
def dfoP (a b : List UInt8) (i : Nat) : List Pc := dput b (dfo a b i).1 (dfo a b i).2.1 (dfo a b i).2.2
/-- From i on no place is near the piece that is being made. -/
def dfoG (a b : List UInt8) (i : Nat) : Prop := (dfo a b i).2.2 ≤ i ∧ ((dfo a b i).2.2 = 0 ∨ ∀ x, i ≤ x → x ≤ (dfo a b i).2.2 + 7 → x < 4080 → a.getD x 0 = b.getD x 0)

theorem dfo_eq {a b : List UInt8} {i : Nat} (h : a.getD i 0 = b.getD i 0) : dfo a b (i + 1) = dfo a b i := by unfold dfo; rw [unlTo_succ_eq h]
theorem dfo_ne {a b : List UInt8} {i : Nat} (h : a.getD i 0 ≠ b.getD i 0) : dfo a b (i + 1) = dstep b (dfo a b i) i := by unfold dfo; rw [unlTo_succ_ne h, List.foldl_append]; rfl
theorem dfo_gap {a b : List UInt8} {i k : Nat} (hk : i ≤ k) (h : ∀ x, i ≤ x → x < k → a.getD x 0 = b.getD x 0) : dfo a b k = dfo a b i := by
  induction k with
  | zero => obtain rfl : i = 0 := by omega
            rfl
  | succ k ih =>
    rcases Nat.lt_or_ge i (k + 1) with h1 | h1
    · rw [dfo_eq (h k (by omega) (by omega)), ih (by omega) (fun x h2 h3 => h x h2 (by omega))]
    · obtain rfl : i = k + 1 := by omega
      rfl
theorem diffL_dfo (a b : List UInt8) : diffL a b = dfoP a b 4080 := by
  unfold diffL dfoP dst dfo
  rw [List.take_length]
theorem dfo_len (a b : List UInt8) (i : Nat) : (dfo a b i).1.length + (if (dfo a b i).2.2 = 0 then 0 else 1) ≤ i := by
  induction i with
  | zero => simp [dfo, unlTo]
  | succ i ih =>
    by_cases h : a.getD i 0 = b.getD i 0
    · rw [dfo_eq h]; omega
    · rw [dfo_ne h]
      unfold dstep
      have hd : (dput b (dfo a b i).1 (dfo a b i).2.1 (dfo a b i).2.2).length = (dfo a b i).1.length + (if (dfo a b i).2.2 = 0 then 0 else 1) := by
        unfold dput
        split <;> simp
      split
      · dsimp only
        rw [hd, show (if i + 1 = 0 then 0 else 1) = 1 from if_neg (by omega)]
        omega
      · rename_i hn
        dsimp only
        rw [if_neg (by omega)]
        rw [if_neg (by omega)] at ih
        omega
theorem dfoP_len (a b : List UInt8) (i : Nat) : (dfoP a b i).length ≤ i := by
  have := dfo_len a b i
  unfold dfoP dput
  split <;> simp_all <;> omega
theorem dfoG_eq {a b : List UInt8} {i : Nat} (h : a.getD i 0 = b.getD i 0) (hg : dfoG a b i) : dfoG a b (i + 1) := by
  unfold dfoG at *
  rw [dfo_eq h]
  exact ⟨by omega, hg.2.imp id fun h2 x h3 h4 h5 => h2 x (by omega) h4 h5⟩
theorem dfo_first {a b : List UInt8} {i : Nat} (hi : i < 4080) (h : a.getD i 0 ≠ b.getD i 0) (hg : dfoG a b i) : dfo a b (i + 1) = (dfoP a b i, i, i + 1) := by
  rw [dfo_ne h]
  unfold dstep
  rw [if_pos]
  · rfl
  · rcases hg.2 with h0 | h0
    · exact .inl h0
    · refine .inr ?_
      rcases Nat.lt_or_ge ((dfo a b i).2.2 + 7) i with h1 | h1
      · omega
      · exact absurd (h0 i (Nat.le_refl _) h1 hi) h
theorem dfo_more {a b : List UInt8} {k i la : Nat} {P : List Pc} (hk : dfo a b k = (P, i, la + 1)) (hla : la < k) (h8 : k ≤ la + 8) (h : a.getD k 0 ≠ b.getD k 0) : dfo a b (k + 1) = (P, i, k + 1) := by
  rw [dfo_ne h, hk]
  unfold dstep
  rw [if_neg (by dsimp only; omega)]
theorem dfo_shut {a b : List UInt8} {k i la : Nat} {P : List Pc} (hk : dfo a b k = (P, i, la + 1)) (hla : la < k) (hend : k = 4080 ∨ la + 8 < k) (h : ∀ x, la < x → x < k → a.getD x 0 = b.getD x 0) :
    dfoP a b (la + 1) = dput b P i (la + 1) ∧ dfoG a b (la + 1) := by
  have e : dfo a b (la + 1) = (P, i, la + 1) := by rw [← hk]; exact (dfo_gap (by omega) (fun x h1 h2 => h x (by omega) h2)).symm
  unfold dfoP dfoG
  rw [e]
  exact ⟨rfl, Nat.le_refl _, .inr fun x h1 h2 h3 => h x (by omega) (by dsimp only at h2; omega)⟩

theorem beq_u8 (x y : UInt8) : (((x.toNat : Int) == (y.toNat : Int))) = (x == y) := toNat_ne_int x y

set_option maxRecDepth 100000 in
set_option maxHeartbeats 1000000 in
theorem refDiff_any (A B : Option Addr) (ca cb : Nat) (a b : List UInt8) (w : World) (ha : BR w A 4080 a) (hb : BR w B 4080 b) (hcb : 4080 ≤ cb) :
    Calls Try.prog 35 #[.slice A 4080 ca, .slice B 4080 cb] w fun r w' => ∃ v, r = .returned (.tuple #[v, .int .i64 0]) ∧ OP w' w.heap.size v (diffL a b) ∧ Below w.heap.size w w' := by
  obtain ⟨i0, hi0, hz0, hz1, hz2⟩ := info_parts info_u8
  obtain ⟨i1, hi1, hy0, hy1, hy2⟩ := info_parts info_piece
  obtain ⟨g, o, rfl, -⟩ := ha.at_ (k := 0) (by omega)
  obtain ⟨g', o', rfl, -⟩ := hb.at_ (k := 0) (by omega)
  go_enter Try.func35, Try.ntmps35
  go_wp2_with fail
  go_loopw [6, 7] (fun v p wr => ∃ i : Nat, i ≤ 4080 ∧ p = .int .i64 i ∧ OP wr w.heap.size v (dfoP a b i) ∧ Hid (dfoG a b i) ∧ Below w.heap.size w wr) (fun _ p _ => 4080 - (intOf p).toNat)
  case atStart => exact ⟨0, Nat.zero_le _, rfl, OP.nil _ _, Lib.hid ⟨Nat.le_refl _, .inl rfl⟩, gr_refl w⟩
  case round =>
    obtain ⟨i, hi, rfl, hop, HG, hB⟩ := hrel
    by_cases hlt : i < 4080
    · obtain ⟨g1, o1, e1, c1⟩ := (ha.below hB).at_ (k := i) hlt
      cases e1
      obtain ⟨g2, o2, e2, c2⟩ := (hb.below hB).at_ (k := i) hlt
      cases e2
      by_cases hd : a.getD i 0 = b.getD i 0
      · have HS := Lib.hid (dfoG_eq hd HG.out)
        have HE := Lib.hid (show dfoP a b (i + 1) = dfoP a b i by unfold dfoP; rw [dfo_eq hd])
        have ht : (((a.getD i 0).toNat : Int) == ((b.getD i 0).toNat : Int)) = true := by rw [beq_u8]; simpa using hd
        clear hd
        generalize ((a.getD i 0).toNat : Int) = xa at *
        generalize ((b.getD i 0).toNat : Int) = xb at *
        go_wp2_with fail
        go_quiet (fail)
        go_wp2_with fail
        go_roundw
        case rel => exact ⟨i + 1, by omega, by go_num, by rw [HE.out]; exact hop.below (gr_drewN (gr_refl wr) nq), HS, gr_drewN hB nq⟩
        case measure => simp [intOf]; omega
      · have HF := Lib.hid (dfo_first hlt hd HG.out)
        have HPL := Lib.hid (dfoP_len a b i)
        have ht : (((a.getD i 0).toNat : Int) == ((b.getD i 0).toNat : Int)) = false := by rw [beq_u8]; simpa using hd
        clear hd
        generalize ((a.getD i 0).toNat : Int) = xa at *
        generalize ((b.getD i 0).toNat : Int) = xb at *
        go_wp2_with fail
        go_quiet (fail)
        clear ht c1 c2
        go_wp2_with fail
        have hB' : Below w.heap.size w (wr.drewN nq) := gr_drewN hB nq
        have hop' := hop.below (gr_drewN (gr_refl wr) nq)
        generalize wr.drewN nq = wo at *
        clear hB hop
        go_loopw [8, 9] (fun x y wr => ∃ (la k : Nat), i ≤ la ∧ la < k ∧ k ≤ 4080 ∧ k ≤ la + 9 ∧ x = .int .i64 la ∧ y = .int .i64 k ∧ Hid (dfo a b k = (dfoP a b i, i, la + 1)) ∧ Hid (∀ x, la < x → x < k → a.getD x 0 = b.getD x 0) ∧ ∃ q, Hid (wr = wo.drewN q)) (fun _ y _ => 4080 - (intOf y).toNat)
        case atStart => exact ⟨i, i + 1, Nat.le_refl _, by omega, by omega, by omega, rfl, by go_num, HF, Lib.hid (fun x h1 h2 => by omega), 0, Lib.hid rfl⟩
        case round =>
          obtain ⟨la, k, h1, h2, h3, h4, rfl, rfl, HK, HL, q, HW⟩ := hrel
          have hB : Below w.heap.size w wr := by rw [HW.out]; exact gr_drewN hB' q
          have HH := Lib.hid (And.intro h1 (And.intro h2 (And.intro h3 h4)))
          by_cases hc : k < 4080 ∧ k ≤ la + 8
          · obtain ⟨hc1, hc2⟩ := hc
            have t1 : decide ((k : Int) < 4080) = true := by simp; omega
            have t2 : decide ((k : Int) ≤ (la : Int) + 8) = true := by simp; omega
            have HC := Lib.hid (And.intro hc1 hc2)
            obtain ⟨g1, o1, e1, c1⟩ := (ha.below hB).at_ (k := k) hc1
            cases e1
            obtain ⟨g2, o2, e2, c2⟩ := (hb.below hB).at_ (k := k) hc1
            cases e2
            by_cases hd : a.getD k 0 = b.getD k 0
            · have ht : (((a.getD k 0).toNat : Int) != ((b.getD k 0).toNat : Int)) = false := by unfold bne; rw [beq_u8]; simpa using hd
              have HK' := Lib.hid (show dfo a b (k + 1) = _ from (dfo_eq hd).trans HK.out)
              have HL' := Lib.hid (show ∀ x, la < x → x < k + 1 → a.getD x 0 = b.getD x 0 from fun x h5 h6 => if h7 : x = k then h7 ▸ hd else HL.out x h5 (by omega))
              clear hd hc2 h1 h2 h3 h4
              generalize ((a.getD k 0).toNat : Int) = xa at *
              generalize ((b.getD k 0).toNat : Int) = xb at *
              have hla : la ≤ 4080 := by have := HH.out; omega
              go_wp2_with fail
              go_quiet (fail)
              go_wp2_with fail
              go_roundw
              case rel => have h1 := HH.out; have h2 := HC.out; exact ⟨la, k + 1, h1.1, by omega, by omega, by omega, rfl, by go_num, HK', HL', q + nq, Lib.hid (by rw [HW.out, World.drewN_drewN])⟩
              case measure => simp [intOf]; omega
            · have ht : (((a.getD k 0).toNat : Int) != ((b.getD k 0).toNat : Int)) = true := by unfold bne; rw [beq_u8]; simpa using hd
              have HK' := Lib.hid (dfo_more HK.out h2 hc2 hd)
              clear hd hc2 h1 h2 h3 h4
              generalize ((a.getD k 0).toNat : Int) = xa at *
              generalize ((b.getD k 0).toNat : Int) = xb at *
              have hla : la ≤ 4080 := by have := HH.out; omega
              go_wp2_with fail
              go_quiet (fail)
              go_wp2_with fail
              go_roundw
              case rel => have h1 := HH.out; exact ⟨k, k + 1, by omega, by omega, by omega, by omega, rfl, by go_num, HK', Lib.hid (fun x h5 h6 => by omega), q + nq, Lib.hid (by rw [HW.out, World.drewN_drewN])⟩
              case measure => simp [intOf]; omega
          · have HSH := Lib.hid (dfo_shut HK.out h2 (by omega) HL.out)
            have hop := hop'.below (w' := wr) (by rw [HW.out]; exact gr_drewN (gr_refl wo) q)
            obtain ⟨us, hrow, hul, huv, hdis⟩ := hop
            generalize hPl : (dfoP a b i).length = pl at *
            have HPL' := Lib.hid hPl
            have hpl : pl ≤ 4080 := by have := HPL.out; omega
            obtain ⟨Av, cv, rfl, _, _⟩ := own_form hrow
            have HROW := Lib.hid hrow
            have HSN := Lib.hid (fun w3 w4 B3 u v4 o ho3 hb3 hB3 hown4 hg4 => OP.snoc (w3 := w3) (w4 := w4) (B3 := B3) (u := u) (v4 := v4) (o := o) (a := (i : Int)) (l := (b.drop i).take (la + 1 - i)) hrow hPl (hul.trans hPl.symm) huv hdis hb3 ho3 hB3 (Nat.le_trans hB.size hB3) hown4 hg4)
            clear hPl hul huv hdis hrow hop'
            have hla : la < 4080 := by omega
            have hila : i < la + 1 := by omega
            have hcut := fun W => run_cut_lh (P := Try.prog) W 22 5 i0 Try.underlying22 hi0 1 hz1 (some ⟨g', o', none⟩) 4080 cb (i : Int) ((la : Int) + 1) i (la + 1) rfl (by omega) (by omega) (by omega)
            have hcb' := (hb.below hB).cut (k := i) (j := la + 1) (c := cb) (by omega) (by omega) hcb
            generalize cutA (some ⟨g', o', none⟩) cb i 1 = Bc at *
            have hbl : ((b.drop i).take (la + 1 - i)).length = la + 1 - i := hcb'.len
            have HBL := Lib.hid hbl
            have HCB := Lib.hid hcb'
            have HONB := Lib.hid (one_bv ((b.drop i).take (la + 1 - i)))
            clear hbl hcb'
            have hone : ∀ (u : Value), u.oneCell' = true → ∀ u' ∈ [Value.int .i64 (i : Int), u], u'.oneCell' = true := by
              intro u hu u' hu'
              simp only [List.mem_cons, List.not_mem_nil, or_false] at hu'
              rcases hu' with rfl | rfl
              · rfl
              · exact hu
            have HONE := Lib.hid hone
            have hmx : pl + 1 ≤ maxLen := by simp only [maxLen]; omega
            have HDP := Lib.hid (show dfoP a b (la + 1) = dfoP a b i ++ [((i : Int), (b.drop i).take (la + 1 - i))] by rw [HSH.out.1]; unfold dput; rw [if_neg (by omega)])
            have HG' := Lib.hid HSH.out.2
            clear hone HSH HK HL HF HG HW HPL HPL'
            have hfin : ∀ (v1 : Value) (w1 : World), w1.ownsRow wr.heap.size 5 1 v1 (0 + (la + 1 - i)) ([] ++ ((b.drop i).take (la + 1 - i)).map bv) → wr.grownBy w1 (Value.slice none 0 0).ownBlock →
                ∃ A3 c3, v1 = .slice A3 (la + 1 - i) c3 ∧ OB w1 wr.heap.size v1 ((b.drop i).take (la + 1 - i)) ∧ Below wr.heap.size wr w1 ∧ w1.ownsRow w.heap.size 40 2 (.slice Av pl cv) pl (pcs us) := by
              intro v1 w1 hown1 hg1
              have hb1 : Below wr.heap.size wr w1 := (Below.refl _ _).grown hg1 (Nat.le_refl _) (by simp [Value.ownBlock])
              have ho : OB w1 wr.heap.size v1 ((b.drop i).take (la + 1 - i)) := OB.of_own hown1 (by simp)
              obtain ⟨A3, c3, h1, _⟩ := ho.formN HBL.out
              exact ⟨A3, c3, h1, ho, hb1, CK.own (CK.of_below hb1) HROW.out⟩
            have HFIN := Lib.hid hfin
            clear hfin
            have hk2 : k = 4080 ∨ (k < 4080 ∧ la + 8 < k) := by omega
            have HH2 := Lib.hid (And.intro h1 h2)
            clear hc h1 h2 h3 h4
            rcases hk2 with hk2 | ⟨hk2, hk3⟩
            · have t1 : decide ((k : Int) < 4080) = false := by simp; omega
              clear hk2
              go_wp2_with (first
                | (at_builtin; refine wpList_append_Rd _ rfl (.tmp 57) (.tmp 62) _ rfl wr.heap.size 5 i0 _ 1 1 Try.underlying22 hi0 hz0 hz1 hz2 rfl (.slice none 0 0) 0 [] rfl ⟨rfl, .inl ⟨rfl, rfl⟩⟩ Bc (la + 1 - i) (cb - i) _ rfl HCB.out HONB.out (by omega) (by simp only [maxLen]; omega) (Nat.le_refl _) ?_; intro v1 w1 hown1 hg1 _ _; obtain ⟨A3, c3, rfl, ho3, hb3, hr3⟩ := HFIN.out v1 w1 hown1 hg1; have HR3 := Lib.hid hr3; have hb4 := gr_trans hB hb3; clear hr3 hown1 hg1)
                | (at_builtin; refine wpList_append_Rd _ rfl (.tmp 55) (.tmp 65) _ rfl w.heap.size 40 i1 _ 2 32 Try.underlying31 hi1 hy0 hy1 hy2 rfl (.slice Av pl cv) pl (pcs us) rfl (HR3.out.alloc _) (some ⟨w1.heap.size, 0, none⟩) 1 1 [.int .i64 (i : Int), .slice A3 (la + 1 - i) c3] rfl (rd_two _ _ _ _) (HONE.out _ rfl) (by omega) hmx (gr_alloc hb4 _).size ?_; intro v4 w4 hown4 hg4 _ _; have hb5 : Below w.heap.size w w4 := gr_own (gr_alloc hb4 _) (HR3.out.alloc _) hg4))
              go_roundw
              case rel => exact ⟨la + 1, by omega, by go_num, by rw [HDP.out]; exact HSN.out w1 w4 _ _ v4 _ ho3 hb3 (Nat.le_refl _) hown4 hg4, HG', hb5⟩
              case measure => simp [intOf]; omega
            · have t1 : decide ((k : Int) < 4080) = true := by simp; omega
              have t2 : decide ((k : Int) ≤ (la : Int) + 8) = false := by simp; omega
              clear hk2 hk3
              go_wp2_with (first
                | (at_builtin; refine wpList_append_Rd _ rfl (.tmp 57) (.tmp 62) _ rfl wr.heap.size 5 i0 _ 1 1 Try.underlying22 hi0 hz0 hz1 hz2 rfl (.slice none 0 0) 0 [] rfl ⟨rfl, .inl ⟨rfl, rfl⟩⟩ Bc (la + 1 - i) (cb - i) _ rfl HCB.out HONB.out (by omega) (by simp only [maxLen]; omega) (Nat.le_refl _) ?_; intro v1 w1 hown1 hg1 _ _; obtain ⟨A3, c3, rfl, ho3, hb3, hr3⟩ := HFIN.out v1 w1 hown1 hg1; have HR3 := Lib.hid hr3; have hb4 := gr_trans hB hb3; clear hr3 hown1 hg1)
                | (at_builtin; refine wpList_append_Rd _ rfl (.tmp 55) (.tmp 65) _ rfl w.heap.size 40 i1 _ 2 32 Try.underlying31 hi1 hy0 hy1 hy2 rfl (.slice Av pl cv) pl (pcs us) rfl (HR3.out.alloc _) (some ⟨w1.heap.size, 0, none⟩) 1 1 [.int .i64 (i : Int), .slice A3 (la + 1 - i) c3] rfl (rd_two _ _ _ _) (HONE.out _ rfl) (by omega) hmx (gr_alloc hb4 _).size ?_; intro v4 w4 hown4 hg4 _ _; have hb5 : Below w.heap.size w w4 := gr_own (gr_alloc hb4 _) (HR3.out.alloc _) hg4))
              go_roundw
              case rel => exact ⟨la + 1, by omega, by go_num, by rw [HDP.out]; exact HSN.out w1 w4 _ _ v4 _ ho3 hb3 (Nat.le_refl _) hown4 hg4, HG', hb5⟩
              case measure => simp [intOf]; omega
    · obtain rfl : i = 4080 := by omega
      go_wp2_with fail
      go_ret2
      rw [← diffL_dfo] at hop
      exact ⟨_, rfl, hop, hB⟩

set_option maxHeartbeats 400000 in
theorem refDiff_bad (A B : Option Addr) (na nb ca cb : Nat) (w : World) (h : na ≠ 4080 ∨ nb ≠ 4080) (ha : na ≤ 9223372036854775807) (_hb : nb ≤ 9223372036854775807) :
    Calls Try.prog 35 #[.slice A na ca, .slice B nb cb] w fun r w' => r = .returned (.tuple #[.slice none 0 0, .int .i64 2]) ∧ w = w' := by
  by_cases h1 : na = 4080
  · subst h1
    have hn : ((nb : Int) != 4080) = true := by rw [bne_iff_ne]; omega
    clear h
    go_enter Try.func35, Try.ntmps35
    go_wp2_with fail
    go_ret2
    exact ⟨rfl, rfl⟩
  · have hn : ((na : Int) != 4080) = true := by rw [bne_iff_ne]; omega
    clear h
    go_enter Try.func35, Try.ntmps35
    go_wp2_with fail
    go_ret2
    exact ⟨rfl, rfl⟩

set_option maxHeartbeats 400000 in
theorem refApply_bad (A : Option Addr) (c m : Nat) (v : Value) (w : World) (h : m ≠ 4080) (_hm : m ≤ 9223372036854775807) :
    Calls Try.prog 36 #[.slice A m c, v] w fun r w' => r = .returned (.tuple #[.slice none 0 0, .int .i64 2]) ∧ w = w' := by
  have hn : ((m : Int) != 4080) = true := by rw [bne_iff_ne]; omega
  clear h
  go_enter Try.func36, Try.ntmps36
  go_wp2_with fail
  go_ret2
  exact ⟨rfl, rfl⟩

end Go.Proofs.Ytecndamoomkhnaa
