/-
  Contracts: slices.IndexFunc and slices.DeleteFunc over ints, at the function that asks for one number.
-/
import Derived.Test.YtjopobkcijkpmaaSnC
import Derived.Lib.SliceRun
namespace Go.Proofs.Ytjopobkcijkpmaa
open Go.RowKit

/-- What the call's own row holds first. -/
theorem own_pre {w : World} {base q n c k : Nat} {e : TypeId} {xs : List Value} (h : w.ownsRow base e 1 (.slice (some ⟨q, 0, none⟩) n c) n xs) (hk : k ≤ n) : w.ownsRow base e 1 (.slice (some ⟨q, 0, none⟩) k c) k (xs.take k) := by
  have hl := h.1
  rcases h.2 with ⟨e', _⟩ | ⟨q', cap, cur, e', hb, hg, hn, hm, hz, ht⟩
  · cases e'
  · injection e' with e1 e2 e3
    injection e1 with e1
    injection e1 with e1
    subst e1 e3
    refine ⟨by rw [List.length_take]; omega, .inr ⟨q, c, cur, rfl, hb, hg, by omega, hm, hz, ?_⟩⟩
    rw [← ht, List.take_take]
    congr 1
    omega

theorem setCells_own {base q n c : Nat} {e : TypeId} (z : Value) : ∀ (m o : Nat) (w : World) (xs : List Value), w.ownsRow base e 1 (.slice (some ⟨q, 0, none⟩) n c) n xs →
    ∃ ys, (w.setCells q o (List.replicate m z)).ownsRow base e 1 (.slice (some ⟨q, 0, none⟩) n c) n ys ∧ ys.take o = xs.take o ∧ w.grownBy (w.setCells q o (List.replicate m z)) (some q)
  | 0, o, w, xs, h => ⟨xs, h, rfl, World.grownBy.refl w _⟩
  | m + 1, o, w, xs, h => by
    obtain ⟨h1, h2⟩ := h.stored o z
    obtain ⟨ys, g1, g2, g3⟩ := setCells_own z m (o + 1) _ _ h1
    refine ⟨ys, g1, ?_, ⟨g3.os.trans h2.os, g3.tape.trans h2.tape, g3.output.trans h2.output, Nat.le_trans h2.size g3.size, fun k hk hne => (g3.block k (Nat.lt_of_lt_of_le hk h2.size) hne).trans (h2.block k hk hne)⟩⟩
    have := congrArg (List.take o) g2
    rw [List.take_take, List.take_take, Nat.min_eq_left (by omega)] at this
    rw [this, List.take_set_of_le (Nat.le_refl _)]

set_option maxHeartbeats 400000 in
theorem del1_any (n tx : Int) (bx : Nat) (w : World) (hc : w.cell? ⟨bx, 0, none⟩ = some (.int .i64 tx)) :
    Calls Try.prog 100 #[.int .i64 n, .pointer (some ⟨bx, 0, none⟩)] w fun e w' => e = .returned (.bool (n == tx)) ∧ w = w' := by
  go_enter Try.func100, Try.ntmps100
  go_wp2_with fail
  go_ret
  exact ⟨rfl, rfl⟩

/-- Where a number stands first. -/
def IdxP (l : List Int) (tx r : Int) : Prop := (r = -1 ∧ ∀ x ∈ l, x ≠ tx) ∨ ∃ k : Nat, r = k ∧ k < l.length ∧ l.getD k 0 = tx ∧ ∀ j, j < k → l.getD j 0 ≠ tx
def IdxQ (l : List Int) (tx : Int) (w : World) (e : Ending) (w' : World) : Prop := ∃ r, e = .returned (.int .i64 r) ∧ IdxP l tx r ∧ w = w'

set_option maxRecDepth 100000 in
set_option maxHeartbeats 1000000 in
theorem IndexFunc_any (A : Option Addr) (n c bx : Nat) (l : List Int) (tx : Int) (w : World) (ha : IR w A n l) (hn : n ≤ 1000000) (hc : w.cell? ⟨bx, 0, none⟩ = some (.int .i64 tx)) :
    Calls Try.prog 109 #[.slice A n c, .func (.func 100) #[] #[.pointer (some ⟨bx, 0, none⟩)]] w (IdxQ l tx w) := by
  have HD := Lib.hid (fun x => del1_any x tx bx w hc)
  have HL := Lib.hid ha.len
  go_enter Try.func109, Try.ntmps109
  go_wp2_with fail
  go_loopw [8] (fun i wr => ∃ k : Nat, k ≤ n ∧ i = .int .i64 k ∧ Hid (∀ j, j < k → l.getD j 0 ≠ tx) ∧ w = wr) (fun i _ => n - (intOf i).toNat)
  case atStart => exact ⟨0, by omega, rfl, Lib.hid (fun j hj => by omega), rfl⟩
  case round =>
    obtain ⟨k, hk, rfl, HN, rfl⟩ := hrel
    by_cases hlt : k < n
    · have t1 : decide ((k : Int) < (n : Int)) = true := by simp; omega
      have t1' : decide (k < n) = true := by simp; omega
      obtain ⟨g, o, rfl, hcc⟩ := ha.at_ (k := k) hlt
      have hi0' : (0 : Int) ≤ (k : Int) := Int.natCast_nonneg _
      have hi1' : (k : Int) < (n : Int) := by omega
      by_cases hx : l.getD k 0 = tx
      · have q1 : (l.getD k 0 == tx) = true := by simp only [hx, beq_self_eq_true]
        have HX : Hid (IdxP l tx (k : Int)) := Lib.hid (.inr ⟨k, rfl, by rw [HL.out]; exact hlt, hx, HN.out⟩)
        clear hx hc HN
        generalize l.getD k 0 = x at *
        go_wp2_with fail
        refine (HD.out x).mono ?_
        rw [q1]
        rintro e w' ⟨rfl, rfl⟩
        go_wp2_with fail
        go_ret
        exact ⟨_, rfl, HX.out, rfl⟩
      · have q1 : (l.getD k 0 == tx) = false := beq_eq_false_iff_ne.2 hx
        have HX : Hid (∀ j, j < k + 1 → l.getD j 0 ≠ tx) := Lib.hid (fun j hj => by
          by_cases e : j = k
          · rw [e]; exact hx
          · exact HN.out j (by omega))
        clear hx HN
        generalize l.getD k 0 = x at *
        go_wp2_with fail
        refine (HD.out x).mono ?_
        rw [q1]
        rintro e w' ⟨rfl, rfl⟩
        go_wp2_with fail
        go_roundw
        case rel => exact ⟨k + 1, by omega, by go_num, HX, by first | rfl | trivial⟩
        case measure => simp [intOf]; omega
    · have t1 : decide ((k : Int) < (n : Int)) = false := by simp; omega
      have t1' : decide (k < n) = false := by simp; omega
      have HX : Hid (IdxP l tx (-1)) := Lib.hid (.inl ⟨rfl, fun x hx => by
        obtain ⟨j, hj, rfl⟩ := List.getElem_of_mem hx
        have := HN.out j (by have := HL.out; omega)
        simpa [List.getD, List.getElem?_eq_getElem hj] using this⟩)
      clear HN hc
      go_wp2_with fail
      go_ret
      exact ⟨_, rfl, HX.out, rfl⟩

/-- All but one number. -/
def butL (l : List Int) (tx : Int) : List Int := l.filter (fun x => !(x == tx))

theorem but_none {l : List Int} {tx : Int} (h : ∀ x ∈ l, x ≠ tx) : butL l tx = l := by
  unfold butL
  rw [List.filter_eq_self]
  intro x hx
  simpa using h x hx
theorem but_snoc {l : List Int} {tx : Int} {j : Nat} (h : j < l.length) : butL (l.take (j + 1)) tx = butL (l.take j) tx ++ if l.getD j 0 = tx then [] else [l.getD j 0] := by
  unfold butL
  rw [List.take_succ_eq_append_getElem h, List.filter_append]
  congr 1
  have e : l.getD j 0 = l[j] := by simp [List.getD, List.getElem?_eq_getElem h]
  rw [e]
  by_cases hx : l[j] = tx
  · simp [hx]
  · simp [hx]

/-- DeleteFunc: what it leaves. -/
def DelQ (base : Nat) (l : List Int) (tx : Int) (v0 : Value) (w : World) (e : Ending) (w' : World) : Prop :=
  ∃ v, e = .returned v ∧ w'.ownsRow base 3 1 v (butL l tx).length ((butL l tx).map (Value.int .i64)) ∧ w.grownBy w' v0.ownBlock ∧ v.ownBlock = v0.ownBlock

set_option maxRecDepth 100000 in
set_option maxHeartbeats 2000000 in
theorem DeleteFunc_any (A : Option Addr) (n c bx base : Nat) (l : List Int) (tx : Int) (w : World) (ho : w.ownsRow base 3 1 (.slice A n c) n (l.map (Value.int .i64))) (hn : n ≤ 1000000) (hc : w.cell? ⟨bx, 0, none⟩ = some (.int .i64 tx)) (hbx : (Value.slice A n c).ownBlock ≠ some bx) :
    Calls Try.prog 99 #[.slice A n c, .func (.func 100) #[] #[.pointer (some ⟨bx, 0, none⟩)]] w (DelQ base l tx (.slice A n c) w) := by
  have ha : IR w A n l := own_rd ho
  have HI := Lib.hid (IndexFunc_any A n c bx l tx w ha hn hc)
  have HL := Lib.hid ha.len
  go_enter Try.func99, Try.ntmps99
  go_wp2_with fail
  refine HI.out.mono ?_
  rintro e w' ⟨r, rfl, hr, rfl⟩
  rcases hr with ⟨rfl, hno⟩ | ⟨k, rfl, hkl, hk, hkn⟩
  · have HQ : Hid (DelQ base l tx (.slice A n c) w (.returned (.slice A n c)) w) := Lib.hid ⟨_, rfl, by rw [but_none hno, HL.out]; exact ho, World.grownBy.refl w _, rfl⟩
    clear hno
    go_wp2_with fail
    go_ret
    exact HQ.out
  · have hkn' : k < n := by rw [← HL.out]; exact hkl
    obtain ⟨q, _, rfl⟩ : ∃ q : Nat, True ∧ A = some ⟨q, 0, none⟩ := by
      rcases ho.2 with ⟨_, e⟩ | ⟨q, cap, cur, e, _⟩
      · omega
      · injection e with e
        exact ⟨q, trivial, e⟩
    have hcap : n ≤ c := by
      obtain ⟨_, _, e, h1, _⟩ := own_form ho
      injection e with _ _ e
      omega
    have hbq : bx ≠ q := fun e => hbx (by rw [e]; rfl)
    have q1 : ((k : Int) == -1) = false := beq_eq_false_iff_ne.2 (by omega)
    have H0 : Hid (l.take k = butL (l.take (k + 1)) tx) := Lib.hid (by
      rw [but_snoc hkl, if_pos hk, List.append_nil]
      refine (but_none (fun x hx => ?_)).symm
      obtain ⟨j, hj, rfl⟩ := List.getElem_of_mem hx
      rw [List.length_take] at hj
      have := hkn j (by omega)
      simpa [List.getD, List.getElem?_eq_getElem (show j < l.length by omega)] using this)
    have HO := Lib.hid ho
    have HC := Lib.hid hc
    clear hk hkn hc ha HI ho
    go_wp2_with fail
    go_loopw [5, 6] (fun i j wr => ∃ (i' j' : Nat) (xs : List Int), i' < j' ∧ j' ≤ n ∧ i = .int .i64 i' ∧ j = .int .i64 j' ∧ Hid (xs.length = n) ∧ Hid (xs.take i' = butL (l.take j') tx) ∧ Hid (∀ m, j' ≤ m → xs.getD m 0 = l.getD m 0) ∧
      wr.ownsRow base 3 1 (.slice (some ⟨q, 0, none⟩) n c) n (xs.map (Value.int .i64)) ∧ Hid (w.grownBy wr (some q))) (fun _ j _ => n - (intOf j).toNat)
    case atStart => exact ⟨k, k + 1, l, by omega, by omega, rfl, by go_num, HL, H0, Lib.hid (fun _ _ => rfl), HO.out, Lib.hid (World.grownBy.refl w _)⟩
    case round =>
      obtain ⟨i, j, xs, hij, hjn, rfl, rfl, HXL, HXT, HXD, hown, HG⟩ := hrel
      have hcb : wr.cell? ⟨bx, 0, none⟩ = some (.int .i64 tx) := by
        rw [← HC.out]
        exact World.cell?_of_block (HG.out.block bx (World.block_lt_of_cell? w _ HC.out) (fun e => hbq (by injection e)))
      have HD := Lib.hid (fun x => del1_any x tx bx wr hcb)
      by_cases hlt : j < n
      · have t1 : decide ((j : Int) < (n : Int)) = true := by simp; omega
        have t1' : decide (j < n) = true := by simp; omega
        have hcj : wr.cell? ⟨q, j, none⟩ = some (.int .i64 (l.getD j 0)) := by
          rw [hown.cellAt j (by omega), ← HXD.out j (Nat.le_refl _)]
          simp [List.getD, List.getElem?_eq_getElem (show j < xs.length by rw [HXL.out]; exact hlt)]
        have hci : wr.cell? ⟨q, i, none⟩ = some (.int .i64 (xs.getD i 0)) := by
          rw [hown.cellAt i (by omega)]
          simp [List.getD, List.getElem?_eq_getElem (show i < xs.length by rw [HXL.out]; omega)]
        have hzi := hown.frozenAt i
        have hst := hown.stored i (.int .i64 (l.getD j 0))
        have HSN := Lib.hid (but_snoc (tx := tx) (show j < l.length by rw [HL.out]; exact hlt))
        have HX' : Hid (∀ m, j + 1 ≤ m → (xs.set i (l.getD j 0)).getD m 0 = l.getD m 0) := Lib.hid (fun m hm => by
          rw [← HXD.out m (by omega)]
          simp only [List.getD, List.getElem?_set]
          rw [if_neg (by omega)])
        have HX'' : Hid (∀ m, j + 1 ≤ m → xs.getD m 0 = l.getD m 0) := Lib.hid (fun m hm => HXD.out m (by omega))
        have HTK : Hid ((xs.set i (l.getD j 0)).take (i + 1) = xs.take i ++ [l.getD j 0]) := Lib.hid (by
          rw [List.take_succ_eq_append_getElem (by rw [List.length_set, HXL.out]; omega), List.take_set_of_le (Nat.le_refl _), List.getElem_set_self])
        have HGS : Hid (w.grownBy (wr.setCell ⟨q, i, none⟩ (.int .i64 (l.getD j 0))) (some q)) := Lib.hid ⟨hst.2.os.trans HG.out.os, hst.2.tape.trans HG.out.tape, hst.2.output.trans HG.out.output, Nat.le_trans HG.out.size hst.2.size, fun b hb hne => (hst.2.block b (Nat.lt_of_lt_of_le hb HG.out.size) hne).trans (HG.out.block b hb hne)⟩
        have HS1 := Lib.hid hst.1
        rw [← List.map_set] at HS1
        have hi0' : (0 : Int) ≤ (j : Int) := Int.natCast_nonneg _
        have hi1' : (j : Int) < (n : Int) := by omega
        have hi2' : (0 : Int) ≤ (i : Int) := Int.natCast_nonneg _
        have hi3' : (i : Int) < (n : Int) := by omega
        clear hst HXD hcb
        by_cases hx : l.getD j 0 = tx
        · have qx : (l.getD j 0 == tx) = true := beq_iff_eq.2 hx
          have HT : Hid (xs.take i = butL (l.take (j + 1)) tx) := Lib.hid (by rw [HSN.out, if_pos hx, List.append_nil]; exact HXT.out)
          clear hx HSN HX' HTK HGS HS1 HXT hci hzi
          generalize l.getD j 0 = x at *
          go_wp2_with fail
          refine (HD.out x).mono ?_
          rw [qx]
          rintro e w' ⟨rfl, rfl⟩
          go_wp2_with fail
          go_roundw
          case rel => exact ⟨i, j + 1, xs, by omega, by omega, rfl, by go_num, HXL, HT, HX'', hown, HG⟩
          case measure => simp [intOf]; omega
        · have qx : (l.getD j 0 == tx) = false := beq_eq_false_iff_ne.2 hx
          have HT : Hid ((xs.set i (l.getD j 0)).take (i + 1) = butL (l.take (j + 1)) tx) := Lib.hid (by rw [HSN.out, if_neg hx, HTK.out, HXT.out])
          have HXL' : Hid ((xs.set i (l.getD j 0)).length = n) := Lib.hid (by rw [List.length_set]; exact HXL.out)
          clear hx HSN HTK HXT HX''
          generalize l.getD j 0 = x at *
          generalize xs.getD i 0 = y at *
          go_wp2_with fail
          refine (HD.out x).mono ?_
          rw [qx]
          rintro e w' ⟨rfl, rfl⟩
          go_wp2_with fail
          go_roundw
          case rel => exact ⟨i + 1, j + 1, _, by omega, by omega, by go_num, by go_num, HXL', HT, HX', HS1.out, HGS⟩
          case measure => simp [intOf]; omega
      · have t1 : decide ((j : Int) < (n : Int)) = false := by simp; omega
        have t1' : decide (j < n) = false := by simp; omega
        obtain ⟨i0, hi0, hz0, hz1, hz2⟩ := info_parts info_int
        have hcut1 := fun W => run_cut_l (P := Try.prog) W 22 3 i0 Try.underlying22 hi0 1 hz1 (some ⟨q, 0, none⟩) n c (i : Int) i rfl (by omega)
        have hcut2 := fun W => run_cut_h (P := Try.prog) W 22 3 i0 Try.underlying22 hi0 1 hz1 (some ⟨q, 0, none⟩) n c (i : Int) i rfl (by omega)
        have hca : cutA (some ⟨q, 0, none⟩) c i 1 = some ⟨q, i, none⟩ := by
          unfold cutA
          rw [if_neg (by omega)]
          simp [add_plain]
        rw [hca] at hcut1
        have hclr := fun ty => Lib.run_clear_slice (P := Try.prog) wr 22 3 ty (.int .i64 0) Try.underlying22 (fun _ => by kernel_rfl) rfl rfl q i (n - i) (c - i) (by omega) (fun m hm => by
          rw [hown.cellAt (i + m) (by omega), List.getElem?_eq_getElem (by rw [List.length_map, HXL.out]; omega)]
          rfl) (fun m _ => hown.frozenAt (i + m))
        obtain ⟨ys, g1, g2, g3⟩ := setCells_own (.int .i64 0) (n - i) i wr _ hown
        have HQ : Hid (DelQ base l tx (.slice (some ⟨q, 0, none⟩) n c) w (.returned (.slice (some ⟨q, 0, none⟩) i c)) (wr.setCells q i (List.replicate (n - i) (.int .i64 0)))) := Lib.hid (by
          have hT := HXT.out
          have hlj : l.take j = l := List.take_of_length_le (by rw [HL.out]; omega)
          rw [hlj] at hT
          have hlen : (butL l tx).length = i := by rw [← hT, List.length_take, HXL.out]; omega
          have hpre := own_pre g1 (k := i) (by omega)
          rw [g2, ← List.map_take, hT] at hpre
          refine ⟨_, rfl, by rw [hlen]; exact hpre, ⟨g3.os.trans HG.out.os, g3.tape.trans HG.out.tape, g3.output.trans HG.out.output, Nat.le_trans HG.out.size g3.size, fun b hb hne => (g3.block b (Nat.lt_of_lt_of_le hb HG.out.size) hne).trans (HG.out.block b hb hne)⟩, rfl⟩)
        clear hown g1 g2 g3 HG HXT HXD hcb hca
        generalize wr.setCells q i (List.replicate (n - i) (.int .i64 0)) = w9 at *
        go_wp2_with fail
        go_ret
        exact HQ.out

end Go.Proofs.Ytjopobkcijkpmaa
