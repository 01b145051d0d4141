/-
  The reference of chapter 03: Read.
-/
import Derived.Test.YtjopobkcijkpmaaDpB
namespace Go.Proofs.Ytjopobkcijkpmaa
open Go.RowKit

theorem lastL_take (bs : List (List UInt8)) (ps : List (Nat × List UInt8)) (b k : Nat) (hk : k < ps.length) : lastL bs (ps.take (k + 1)) b = if (ps.getD k (0, [])).1 = b then (ps.getD k (0, [])).2 else lastL bs (ps.take k) b := by
  unfold lastL
  rw [List.take_succ_eq_append_getElem hk, List.foldl_append]
  simp [List.getD, List.getElem?_eq_getElem hk]

set_option maxRecDepth 100000 in
set_option maxHeartbeats 2000000 in
theorem refRead03_any (G : Nat → Prop) (v : Value) (D : DiskS) (b : Int) (w : World) (h : RK G w v D) :
    Calls Try.prog 84 #[v, .int .i64 b] w fun e w' => ∃ u, e = .returned (.tuple #[u, .int .i64 (readE D b)]) ∧ (readE D b = 0 → VG G w u (readL D b)) ∧ (readE D b ≠ 0 → u = .slice none 0 0) ∧ Below w.heap.size w w' := by
  obtain ⟨bA, bc, wA, wc, bus, wus, rfl, k1, k2, k3, k4, hd⟩ := h
  unfold maxLen at k2 k4
  have hb := gr_alloc (gr_refl w) (.cells #[.slice bA D.blocks.length bc, .slice wA D.pending.length wc, .bool D.down, .int .i64 D.power, .int .i64 D.fault, .int .i64 D.wi] 66)
  have hx := B6.new w (.slice bA D.blocks.length bc) (.slice wA D.pending.length wc) (.bool D.down) (.int .i64 D.power) (.int .i64 D.fault) (.int .i64 D.wi)
  have IS := Lib.hid (fun W => refIs_any bA wA D.blocks.length bc D.pending.length wc D.down D.power D.fault D.wi b W)
  have HB := Lib.hid hb
  have HX := Lib.hid hx
  have HA := Lib.hid (ask_is D b)
  clear hb hx
  by_cases hin : 0 ≤ b ∧ b < (D.blocks.length : Int)
  · obtain ⟨i, rfl⟩ := Int.eq_ofNat_of_zero_le hin.1
    have hil : i < D.blocks.length := by omega
    obtain ⟨g, o, u, rfl, hc, hv⟩ := hd.bat hil
    have HE : Hid (askE D (i : Int) = 0) := Lib.hid (by rw [HA.out, if_pos (decide_eq_true hin)])
    rw [decide_eq_true hin] at IS
    have HC := Lib.hid hc
    have HV0 : Hid (VG G w u (lastL D.blocks (D.pending.take 0) i)) := Lib.hid (by unfold lastL; simpa using hv)
    have i0 : (0 : Int) ≤ (i : Int) := Int.natCast_nonneg _
    have i1 : (i : Int) < (D.blocks.length : Int) := hin.2
    have HWA : Hid (∀ k, k < D.pending.length → ∃ g' o' u', wA = some ⟨g', o', none⟩ ∧ w.cell? ⟨g', o' + k * 2, none⟩ = some (.int .i64 (((D.pending.getD k (0, [])).1 : Nat) : Int)) ∧ w.cell? ⟨g', o' + k * 2 + 1, none⟩ = some u' ∧ VG G w u' (D.pending.getD k (0, [])).2 ∧ (D.pending.getD k (0, [])).1 < D.blocks.length) := Lib.hid (fun k hk => hd.wat hk)
    have HLT : Hid (∀ k, k < D.pending.length → lastL D.blocks (D.pending.take (k + 1)) i = if (D.pending.getD k (0, [])).1 = i then (D.pending.getD k (0, [])).2 else lastL D.blocks (D.pending.take k) i) := Lib.hid (fun k hk => lastL_take _ _ i k hk)
    have HRE : Hid (readE D (i : Int) = if D.down = true then 6 else 0) := Lib.hid (by unfold readE; rw [if_neg (by rw [HE.out]; simp)])
    have HRL : Hid (D.down = false → readL D (i : Int) = lastL D.blocks (D.pending.take D.pending.length) i) := Lib.hid (fun h => by
      unfold readL
      rw [if_neg (by rw [HRE.out, h]; simp), List.take_length, Int.toNat_natCast])
    obtain ⟨_, Au, cu, e0, _, _, _, _⟩ := hv
    subst e0
    clear hin hd hc HA
    generalize hdn : D.down = dn at *
    clear hdn
    generalize D.blocks.length = bn at *
    generalize hwn : D.pending.length = wn at *
    clear hwn
    cases dn
    · go_enter Try.func84, Try.ntmps84
      go_wp2_with fail
      generalize w.alloc (.cells #[.slice (some ⟨g, o, none⟩) bn bc, .slice wA wn wc, .bool false, .int .i64 D.power, .int .i64 D.fault, .int .i64 D.wi] 66) = w0 at *
      refine (IS.out w0).mono ?_
      rintro e w1 ⟨rfl, hb1⟩
      have HX1 := Lib.hid (HX.out.below hb1)
      have y0 := HX1.out.c0
      have y2 := HX1.out.c2
      have hc1 := keep_of_below hb1 (keep_of_below HB.out HC.out)
      have HW := Lib.hid (gr_trans HB.out hb1)
      clear hb1
      go_wp2_with fail
      have y1 := HX1.out.c1
      go_loop [6, 7] (fun x c => ∃ (k : Nat), k ≤ wn ∧ c = .int .i64 (k : Int) ∧ Hid (VG G w x (lastL D.blocks (D.pending.take k) i))) (fun _ c => wn - (intOf c).toNat)
      case atStart => exact ⟨0, Nat.zero_le _, rfl, HV0⟩
      case round =>
        clear HV0
        obtain ⟨k, hk, rfl, HV⟩ := hrel
        by_cases hlt : k < wn
        · have t1 : decide ((k : Int) < (wn : Int)) = true := decide_eq_true (by omega)
          have t1' : decide (k < wn) = true := decide_eq_true hlt
          have j0 : (0 : Int) ≤ (k : Int) := Int.natCast_nonneg _
          have j1 : (k : Int) < (wn : Int) := by omega
          obtain ⟨g', o', u', rfl, z1, z2, z3, z4⟩ := HWA.out k hlt
          have HL1 := HLT.out k hlt
          generalize D.pending.getD k (0, []) = p at *
          obtain ⟨p1, p2⟩ := p
          dsimp only at z1 z2 z3 z4 HL1
          have HLH := Lib.hid HL1
          have HZ3 := Lib.hid z3
          have q1 := keep_of_below HW.out z1
          have q2 := keep_of_below HW.out z2
          clear z1 z2 z3 HL1
          by_cases hp : p1 = i
          · have t2 : ((p1 : Int) == (i : Int)) = true := by rw [hp]; simp
            have t2' : (p1 == i) = true := by rw [hp]; simp
            have HV2 : Hid (VG G w u' (lastL D.blocks (D.pending.take (k + 1)) i)) := Lib.hid (by rw [HLH.out, if_pos hp]; exact HZ3.out)
            clear hp
            go_wp2_with fail
            go_round
            case rel => exact ⟨k + 1, by omega, by go_num, HV2⟩
            case measure => simp [intOf]; omega
          · have t2 : ((p1 : Int) == (i : Int)) = false := beq_eq_false_iff_ne.2 (by omega)
            have t2' : (p1 == i) = false := beq_eq_false_iff_ne.2 hp
            have HV2 : Hid (VG G w _ (lastL D.blocks (D.pending.take (k + 1)) i)) := Lib.hid (by rw [HLH.out, if_neg hp]; exact HV.out)
            clear hp
            go_wp2_with fail
            go_round
            case rel => exact ⟨k + 1, by omega, by go_num, HV2⟩
            case measure => simp [intOf]; omega
        · obtain rfl : k = wn := by omega
          have t1 : decide ((k : Int) < (k : Int)) = false := decide_eq_false (by omega)
          go_wp2_with fail
          go_ret2
          rw [HRE.out]
          exact ⟨u6, rfl, (fun _ => by rw [HRL.out (by trivial)]; exact HV.out), (fun h => absurd rfl h), HW.out⟩
    · go_enter Try.func84, Try.ntmps84
      go_wp2_with fail
      generalize w.alloc (.cells #[.slice (some ⟨g, o, none⟩) bn bc, .slice wA wn wc, .bool true, .int .i64 D.power, .int .i64 D.fault, .int .i64 D.wi] 66) = w0 at *
      refine (IS.out w0).mono ?_
      rintro e w1 ⟨rfl, hb1⟩
      have y2 := (HX.out.below hb1).c2
      go_wp2_with fail
      go_ret2
      rw [HRE.out]
      exact ⟨_, rfl, fun h => absurd h (by decide), fun _ => rfl, gr_trans HB.out hb1⟩
  · have HE : Hid (readE D b = 2) := Lib.hid (by
      have h2 : askE D b = 2 := by rw [HA.out, if_neg (by rw [decide_eq_false hin]; simp)]
      unfold readE
      rw [if_pos (by rw [h2]; decide), h2])
    rw [decide_eq_false hin] at IS
    clear hin hd HA
    generalize D.blocks.length = bn at *
    generalize D.pending.length = wn at *
    go_enter Try.func84, Try.ntmps84
    go_wp2_with fail
    generalize w.alloc (.cells #[.slice bA bn bc, .slice wA wn wc, .bool D.down, .int .i64 D.power, .int .i64 D.fault, .int .i64 D.wi] 66) = w0 at *
    refine (IS.out w0).mono ?_
    rintro e w1 ⟨rfl, hb1⟩
    go_wp2_with fail
    go_ret2
    rw [HE.out]
    exact ⟨_, rfl, fun h => absurd h (by decide), fun _ => rfl, gr_trans HB.out hb1⟩

end Go.Proofs.Ytjopobkcijkpmaa
