/-
  Contracts: snapshot's New, where it makes none; Bury.
-/
import Derived.Test.YtjopobkcijkpmaaSnP
namespace Go.Proofs.Ytjopobkcijkpmaa
open Go.RowKit

set_option maxRecDepth 100000 in
set_option maxHeartbeats 2000000 in
theorem NewT_rise (n : Int) (A : Option Addr) (m c : Nat) (l : List Int) (w : World) (ha : IR w A m l) (h1 : 1 ≤ n) (h2 : n ≤ 4611686018427387904) (hm : m ≤ 64) (hr : ¬ Rise 0 n l) :
    Calls Try.prog 30 #[.int .i64 n, .slice A m c] w fun e w' => e = .returned (.tuple #[.pointer none, .int .i64 2]) ∧ Below w.heap.size w w' := by
  have t1 : decide (n < 1) = false := by simp; omega
  have t2 : decide ((4611686018427387904 : Int) < n) = false := by simp; omega
  have t3 : decide ((64 : Int) < (m : Int)) = false := by simp; omega
  have hmm := @run_makeMap Try.prog
  have HL := Lib.hid ha.len
  have HR := Lib.hid hr
  obtain ⟨i0, hi0, hz0, hz1, hz2⟩ := info_parts info_int
  clear hr
  go_enter Try.func30, Try.ntmps30
  go_wp2_with fail
  have hb0 : Below w.heap.size w ((w.alloc (.map #[] 0)).alloc (.cells #[.pointer none, .int .i64 n, .int .i64 0, .int .i64 0, .map (some w.heap.size), .slice none 0 0, .slice none 0 0] 106)) := gr_alloc (gr_alloc (gr_refl w) _) _
  have hn0 : TN ((w.alloc (.map #[] 0)).alloc (.cells #[.pointer none, .int .i64 n, .int .i64 0, .int .i64 0, .map (some w.heap.size), .slice none 0 0, .slice none 0 0] 106)) (w.heap.size + 1) w.heap.size n (.slice none 0 0) := by
    have := heap_alloc_new (w.alloc (.map #[] 0)) (.cells #[.pointer none, .int .i64 n, .int .i64 0, .int .i64 0, .map (some w.heap.size), .slice none 0 0, .slice none 0 0] 106)
    rw [World.size_alloc] at this
    exact this
  have hm0 : MI ((w.alloc (.map #[] 0)).alloc (.cells #[.pointer none, .int .i64 n, .int .i64 0, .int .i64 0, .map (some w.heap.size), .slice none 0 0, .slice none 0 0] 106)) w.heap.size (deadW []) := (MI.made w).below (gr_alloc (gr_refl _) _)
  generalize ((w.alloc (.map #[] 0)).alloc (.cells #[.pointer none, .int .i64 n, .int .i64 0, .int .i64 0, .map (some w.heap.size), .slice none 0 0, .slice none 0 0] 106)) = W0 at *
  clear hmm
  go_loopw [7, 27] (fun a i wr => ∃ (k : Nat) (av : Int) (dv : Value), k ≤ m ∧ i = .int .i64 k ∧ a = .int .i64 av ∧ 0 ≤ av ∧ Hid (av = if k = 0 then 0 else l.getD (k - 1) 0) ∧ Hid (∀ j, j < k → (if j = 0 then 0 else l.getD (j - 1) 0) < l.getD j 0 ∧ l.getD j 0 < n) ∧ TN wr (w.heap.size + 1) w.heap.size n dv ∧ MI wr w.heap.size (deadW (l.take k)) ∧ wr.ownsRow w.heap.size 3 1 dv k ((l.take k).map (Value.int .i64)) ∧ Below w.heap.size w wr) (fun _ i _ => m - (intOf i).toNat)
  case atStart => exact ⟨0, 0, _, by omega, rfl, rfl, Int.le_refl _, Lib.hid rfl, Lib.hid (fun j hj => by omega), hn0, hm0, ⟨rfl, .inl ⟨rfl, rfl⟩⟩, hb0⟩
  case round =>
    clear hn0 hm0 hb0
    obtain ⟨k, av, dv, hk, rfl, rfl, hav, HAV, HALL, hTN, hMI, hown, hb⟩ := hrel
    obtain ⟨Ad, cd, rfl, _, _⟩ := own_form hown
    by_cases hlt : k < m
    · have q1 : decide ((k : Int) < (m : Int)) = true := by simp; omega
      have q1' : decide (k < m) = true := by simp; omega
      obtain ⟨ga, oa, rfl, hca⟩ := (ha.below hb).at_ (k := k) hlt
      have hkl : k < l.length := by rw [HL.out]; exact hlt
      by_cases hok : av < l.getD k 0 ∧ l.getD k 0 < n
      case neg =>
        generalize l.getD k 0 = x at *
        have q23 : decide (x ≤ av) = true ∨ (decide (x ≤ av) = false ∧ decide (n ≤ x) = true) := by
          by_cases h : x ≤ av
          · exact .inl (by simpa using h)
          · exact .inr ⟨by simpa using h, by simp; omega⟩
        clear hTN hMI hown hok
        rcases q23 with q2 | ⟨q2, q3⟩
        all_goals
          go_wp2_with fail
          go_ret2
          exact ⟨rfl, hb⟩
      obtain ⟨r1, r2⟩ := hok
      have HALL' : Hid (∀ j, j < k + 1 → (if j = 0 then 0 else l.getD (j - 1) 0) < l.getD j 0 ∧ l.getD j 0 < n) := Lib.hid (fun j hj => by
        rcases Nat.lt_or_ge j k with h | h
        · exact HALL.out j h
        · obtain rfl : j = k := by omega
          rw [← HAV.out]
          exact ⟨r1, r2⟩)
      have HSN := Lib.hid (deadW_snoc hkl)
      have HTK : Hid ((l.take (k + 1)).map (Value.int .i64) = (l.take k).map (Value.int .i64) ++ [.int .i64 (l.getD k 0)]) := Lib.hid (by
        rw [List.take_succ_eq_append_getElem hkl, List.map_append]
        simp [List.getD, List.getElem?_eq_getElem hkl])
      have HAV' : Hid (l.getD k 0 = if k + 1 = 0 then 0 else l.getD (k + 1 - 1) 0) := Lib.hid (by rw [if_neg (by omega), Nat.add_sub_cancel])
      generalize l.getD k 0 = x at *
      have hx0 : 0 ≤ x := by omega
      have q2 : decide (x ≤ av) = false := by simp; omega
      have q3 : decide (n ≤ x) = false := by simp; omega
      obtain ⟨w2, hrun, hm2, hg2⟩ := hMI.put (k := x) (by omega) (by omega) (4, 0)
      have hrun' : (Instr.mapUpdate 104 (.map (some w.heap.size)) (.int .i64 x) (.agg #[.int .u8 4, .int .i64 0])).run Try.prog wr = .ok () w2 := hrun
      have o2 : Off (· = w.heap.size) wr w2 := Off.of_grown hg2 (fun k e => by injection e with e; exact e.symm)
      have hTN2 := hTN.off o2 (by omega)
      have bo := row_nm hown hMI
      have HOP : Hid (w2.ownsRow w.heap.size 3 1 (.slice Ad k cd) k ((l.take k).map (Value.int .i64))) := Lib.hid (ownsRow_off hown o2 (fun k e e' => bo (by rw [e, e'])))
      have hb2 : Below w.heap.size w w2 := hb.trans (o2.below (fun k e => by omega) hb.size)
      have c4 := hTN.c4
      have c6 := hTN2.c6
      have hs2 := hb2.size
      have HRD : Hid (Rd (w2.alloc (.cells #[.int .i64 x] 3)) 1 (some ⟨w2.heap.size, 0, none⟩) 1 [.int .i64 x]) := Lib.hid (Rd.new w2 _ #[_] 1 1 rfl)
      have HFIN : Hid (∀ (v4 : Value) (w4 : World), w4.ownsRow w.heap.size 3 1 v4 (k + 1) ((l.take k).map (Value.int .i64) ++ [.int .i64 x]) → (w2.alloc (.cells #[.int .i64 x] 3)).grownBy w4 (Value.slice Ad k cd).ownBlock →
          TN w4 (w.heap.size + 1) w.heap.size n (.slice Ad k cd) ∧ TN (w4.setCell ⟨w.heap.size + 1, 6, none⟩ v4) (w.heap.size + 1) w.heap.size n v4 ∧ MI (w4.setCell ⟨w.heap.size + 1, 6, none⟩ v4) w.heap.size (deadW (l.take (k + 1))) ∧
          (w4.setCell ⟨w.heap.size + 1, 6, none⟩ v4).ownsRow w.heap.size 3 1 v4 (k + 1) ((l.take (k + 1)).map (Value.int .i64)) ∧ Below w.heap.size w (w4.setCell ⟨w.heap.size + 1, 6, none⟩ v4)) := Lib.hid (fun v4 w4 k1 k2 => by
        have oa : Off (fun _ => False) w2 (w2.alloc (.cells #[.int .i64 x] 3)) := Off.of_below (gr_alloc (gr_refl w2) _)
        have o4 : Off (fun b => (Value.slice Ad k cd).ownBlock = some b) (w2.alloc (.cells #[.int .i64 x] 3)) w4 := Off.of_grown k2 (fun b e => e)
        have opA := ownsRow_off HOP.out oa (fun _ _ h => h)
        have tA := hTN2.off oa (fun h => h)
        have mA := hm2.off oa (fun h => h)
        have t4 := tA.off o4 (row_ne opA tA (by decide))
        have m4 := mA.off o4 (row_nm opA mA)
        have o5 : Off (· = w.heap.size + 1) w4 (w4.setCell ⟨w.heap.size + 1, 6, none⟩ v4) := (Off.refl _ w4).setCell _ rfl
        refine ⟨t4, t4.s6 v4, ?_, ?_, ?_⟩
        · rw [HSN.out]; exact m4.off o5 (by omega)
        · rw [HTK.out]; exact ownsRow_off k1 o5 (fun b e e' => row_ne k1 t4 (by decide) (by rw [e, e']))
        · refine Below.setCell ?_ (p := ⟨w.heap.size + 1, 6, none⟩) (by dsimp only; omega) _
          exact (gr_alloc hb2 _).grown k2 (by rw [World.size_alloc]; omega) (fun b e => (opA.lt b e).1))
      have hi0' : (0 : Int) ≤ (k : Int) := Int.natCast_nonneg _
      have hi1' : (k : Int) < (m : Int) := by omega
      have hmx : k + 1 ≤ maxLen := by simp only [maxLen]; omega
      clear hrun hm2 hg2 o2 hTN2 bo hMI hTN hown HSN HTK r1 r2 hkl
      go_wp2_with (at_builtin; refine wpList_append_Rd _ rfl (.tmp 50) (.tmp 52) _ rfl w.heap.size 3 i0 _ 1 8 Try.underlying22 hi0 hz0 hz1 hz2 rfl (.slice Ad k cd) k _ rfl (HOP.out.alloc _) (some ⟨w2.heap.size, 0, none⟩) 1 1 [.int .i64 x] rfl HRD.out (by simp [Value.oneCell']) (by omega) hmx (by rw [World.size_alloc]; omega) ?_; intro v4 w4 hown4 hg4 _ _; obtain ⟨f1, f2, f3, f4, f5⟩ := HFIN.out v4 w4 hown4 hg4; obtain ⟨Av, cv, rfl, _, _⟩ := own_form hown4; have x6 := f1.c6; have u6 := f1.frozen 6; clear f1 hown4 hg4)
      go_roundw
      case rel => exact ⟨k + 1, x, _, by omega, by go_num, rfl, hx0, HAV', HALL', f2, f3, f4, f5⟩
      case measure => simp [intOf]; omega
    · exfalso
      refine HR.out (fun j hj => HALL.out j ?_)
      rw [HL.out] at hj
      omega

theorem NewT_bad (n : Int) (A : Option Addr) (m c : Nat) (l : List Int) (w : World) (ha : IR w A m l) (hbad : n < 1 ∨ 4611686018427387904 < n ∨ 64 < m ∨ ¬ Rise 0 n l) :
    Calls Try.prog 30 #[.int .i64 n, .slice A m c] w fun e w' => e = .returned (.tuple #[.pointer none, .int .i64 2]) ∧ Below w.heap.size w w' := by
  by_cases h1 : n < 1
  · have t1 : decide (n < 1) = true := by simp; omega
    go_enter Try.func30, Try.ntmps30
    go_wp2_with fail
    go_ret2
    exact ⟨rfl, gr_refl w⟩
  · have t1 : decide (n < 1) = false := by simp; omega
    by_cases h2 : 4611686018427387904 < n
    · have t2 : decide ((4611686018427387904 : Int) < n) = true := by simp; omega
      go_enter Try.func30, Try.ntmps30
      go_wp2_with fail
      go_ret2
      exact ⟨rfl, gr_refl w⟩
    · have t2 : decide ((4611686018427387904 : Int) < n) = false := by simp; omega
      by_cases h3 : 64 < m
      · have t3 : decide ((64 : Int) < (m : Int)) = true := by simp; omega
        have t4 : decide (64 < m) = true := by simp; omega
        go_enter Try.func30, Try.ntmps30
        go_wp2_with fail
        go_ret2
        exact ⟨rfl, gr_refl w⟩
      · exact NewT_rise n A m c l w ha (by omega) (by omega) (by omega) (by
          rcases hbad with h | h | h | h
          · exact absurd h h1
          · exact absurd h h2
          · exact absurd h h3
          · exact h)

/-- Buried ones. -/
def burW (f : Int → Option (Int × Int)) (l : List Int) : Int → Option (Int × Int) := l.foldl (fun f n => upd f n (5, 0)) f
def burT (T : TabS) : TabS := { T with who := burW T.who T.dead, dead := [] }
theorem burW_snoc (f : Int → Option (Int × Int)) {l : List Int} {k : Nat} (h : k < l.length) : burW f (l.take (k + 1)) = upd (burW f (l.take k)) (l.getD k 0) (5, 0) := by
  unfold burW
  rw [List.take_succ_eq_append_getElem h, List.foldl_append]
  simp [List.getD, List.getElem?_eq_getElem h]

set_option maxRecDepth 100000 in
set_option maxHeartbeats 2000000 in
theorem Bury_any (w : World) (base g : Nat) (F : Nat → Prop) (T : TabS) (h : IsT w base g F T) (hr : ∀ x ∈ T.dead, -9223372036854775808 ≤ x ∧ x ≤ 9223372036854775807) :
    Calls Try.prog 51 #[.pointer (some ⟨g, 0, none⟩)] w fun e w' => ∃ v, e = .returned v ∧ w'.ownsRow base 3 1 v T.dead.length (T.dead.map (Value.int .i64)) ∧ Off F w w' ∧ ∃ F', IsT w' base g F' (burT T) ∧ (∀ k, F' k → F k) ∧ ∀ k, v.ownBlock = some k → ¬ F' k := by
  obtain ⟨b, ov, dv, hd, hF⟩ := h
  have HM := Lib.hid (tmade_yes g w hd.tb.c0)
  have c6 := hd.tb.c6
  have z6 := hd.tb.frozen 6
  have hgb := hd.ne_gb
  have o5 : Off (· = g) w (w.setCell ⟨g, 6, none⟩ (.slice none 0 0)) := (Off.refl _ w).setCell _ rfl
  have HTB := Lib.hid (hd.tb.s6 (.slice none 0 0))
  have HMI := Lib.hid (hd.mp.off o5 (Ne.symm hgb))
  have HOP := Lib.hid (ownsRow_off hd.op o5 (fun k e e' => row_ne hd.op hd.tb (by decide) (by rw [e, e'])))
  have HDE := Lib.hid (ownsRow_off hd.de o5 (fun k e e' => row_ne hd.de hd.tb (by decide) (by rw [e, e'])))
  have HO5 := Lib.hid (o5.mono (T := fun j => j = g ∨ j = b) (fun k _ e => .inl e))
  have HR := Lib.hid hr
  have hd2 := hd.d2
  have HFIN : Hid (∀ (w' : World), TB w' g b T.first T.next T.last ov (.slice none 0 0) → MI w' b (burW T.who T.dead) → w'.ownsRow base 3 1 ov T.opn.length (T.opn.map (Value.int .i64)) → Off (fun j => j = g ∨ j = b) w w' →
      Off F w w' ∧ ∃ F', IsT w' base g F' (burT T) ∧ (∀ k, F' k → F k) ∧ ∀ k, dv.ownBlock = some k → ¬ F' k) := Lib.hid (fun w' k1 k2 k3 k4 => by
    refine ⟨k4.mono (fun k _ e => (hF k).2 (e.elim .inl (fun e => .inr (.inl e)))), tfoot g b ov (.slice none 0 0), ⟨b, ov, .slice none 0 0, ⟨k1, k2, k3, World.ownsRow_nil _ _ _ _, hd.f1, hd.f2, hd.n1, hd.n2, hd.o2, by simp [burT], hd.oi, hd.gb, hd.bb, ?_⟩, fun k => Iff.rfl⟩, fun k hk => ?_, fun k e hk => ?_⟩
    · cases ho : ov.ownBlock with
      | none => exact .inl rfl
      | some k => exact .inr (by simp [Value.ownBlock])
    · refine (hF k).2 ?_
      rcases hk with hk | hk | hk | hk
      · exact .inl hk
      · exact .inr (.inl hk)
      · exact .inr (.inr (.inl hk))
      · simp [Value.ownBlock] at hk
    · rcases hk with hk | hk | hk | hk
      · exact row_ne hd.de hd.tb (by decide) (by rw [e, hk])
      · exact row_nm hd.de hd.mp (by rw [e, hk])
      · rcases hd.ap with h0 | h0
        · rw [h0] at hk; cases hk
        · exact h0 (by rw [e, hk])
      · simp [Value.ownBlock] at hk)
  obtain ⟨Ad, cd, rfl, _, _⟩ := own_form hd.de
  have HL : Hid (T.dead.length = T.dead.length) := Lib.hid rfl
  clear hd hF o5 hr
  generalize hnd : T.dead.length = nd at *
  have HND := Lib.hid hnd
  generalize T.first = fi at *
  generalize T.next = ne at *
  generalize T.last = la at *
  clear hnd HL
  go_enter Try.func51, Try.ntmps51
  go_wp2_with fail
  refine HM.out.mono ?_
  rintro e w' ⟨rfl, rfl⟩
  go_wp2_with fail
  generalize w.setCell ⟨g, 6, none⟩ (.slice none 0 0) = W0 at *
  go_loopw [5, 18] (fun _ i wr => ∃ k : Nat, k ≤ nd ∧ i = .int .i64 k ∧ TB wr g b fi ne la ov (.slice none 0 0) ∧ MI wr b (burW T.who (T.dead.take k)) ∧ Hid (wr.ownsRow base 3 1 ov T.opn.length (T.opn.map (Value.int .i64))) ∧ wr.ownsRow base 3 1 (.slice Ad nd cd) nd (T.dead.map (Value.int .i64)) ∧ Off (fun j => j = g ∨ j = b) w wr) (fun _ i _ => nd - (intOf i).toNat)
  case atStart => exact ⟨0, by omega, rfl, HTB.out, HMI.out, HOP, HDE.out, HO5.out⟩
  case round =>
    clear HTB HMI HOP HDE HO5 c6 z6
    obtain ⟨k, hk, rfl, tb, mi, HOP, de, ho⟩ := hrel
    by_cases hlt : k < nd
    · have t1 : decide ((k : Int) < (nd : Int)) = true := by simp; omega
      have t2 : decide (k < nd) = true := by simp; omega
      have i0 : (0 : Int) ≤ (k : Int) := Int.natCast_nonneg _
      have i1 : (k : Int) < (nd : Int) := by omega
      have hkl : k < T.dead.length := by rw [HND.out]; exact hlt
      obtain ⟨q, c', e1, hc⟩ := own_int de hkl
      cases e1
      have hx := HR.out _ (getD_mem hkl)
      have HSN := Lib.hid (burW_snoc T.who hkl)
      generalize T.dead.getD k 0 = x at *
      have c4 := tb.c4
      obtain ⟨w2, hrun, hm2, hg2⟩ := mi.put (k := x) hx.1 hx.2 (5, 0)
      have hrun' : (Instr.mapUpdate 104 (.map (some b)) (.int .i64 x) (.agg #[.int .u8 5, .int .i64 0])).run Try.prog wr = .ok () w2 := hrun
      have o2 : Off (· = b) wr w2 := Off.of_grown hg2 (fun k e => by injection e with e; exact e.symm)
      have HTB2 := Lib.hid (tb.off o2 hgb)
      have HOP2 := Lib.hid (ownsRow_off HOP.out o2 (fun k e e' => row_nm HOP.out mi (by rw [e, e'])))
      have HDE2 := Lib.hid (ownsRow_off de o2 (fun k e e' => row_nm de mi (by rw [e, e'])))
      have HO2 := Lib.hid (ho.trans (o2.mono (T := fun j => j = g ∨ j = b) (fun k _ e => .inr e)))
      have HMI2 : Hid (MI w2 b (burW T.who (T.dead.take (k + 1)))) := Lib.hid (by rw [HSN.out]; exact hm2)
      clear hrun hm2 hg2 o2 tb mi HOP de ho HSN
      go_wp2_with fail
      go_roundw
      case rel => exact ⟨k + 1, by omega, by go_num, HTB2.out, HMI2.out, HOP2, HDE2.out, HO2.out⟩
      case measure => simp [intOf]; omega
    · have t1 : decide ((k : Int) < (nd : Int)) = false := by simp; omega
      have t2 : decide (k < nd) = false := by simp; omega
      have htk : T.dead.take k = T.dead := List.take_of_length_le (by rw [HND.out]; omega)
      rw [htk] at mi
      have hp := HFIN.out wr tb mi HOP.out ho
      clear htk tb mi HOP ho
      go_wp2_with fail
      go_ret
      exact ⟨_, rfl, de, hp⟩

section
variable {w0 w w' : World} {base g : Nat} {T : TabS} {F Q : Nat → Prop}
theorem Bury_ts (h : TSt w0 w g T) (hr : ∀ x ∈ T.dead, -9223372036854775808 ≤ x ∧ x ≤ 9223372036854775807) : Calls Try.prog 51 #[.pointer (some ⟨g, 0, none⟩)] w fun e w' => ∃ v, e = .returned v ∧ w'.ownsRow w0.heap.size 3 1 v T.dead.length (T.dead.map (Value.int .i64)) ∧ TSt w0 w' g (burT T) := by
  obtain ⟨k1, F, k2⟩ := h
  refine (Bury_any w _ g F T k2 hr).mono ?_
  rintro e w' ⟨v, rfl, k3, k4, F', k5, k6, _⟩
  exact ⟨v, rfl, k3, k1.trans (k4.below (fun k hk => (k2.foot_lt k hk).1) k1.size), F', k5⟩
end

end Go.Proofs.Ytjopobkcijkpmaa
