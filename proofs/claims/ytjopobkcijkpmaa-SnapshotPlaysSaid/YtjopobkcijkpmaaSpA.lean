/-
  Contracts: CopyInts, SameInts of long lists; the two tables in memory.
-/
import Derived.Test.YtjopobkcijkpmaaSnZ
namespace Go.Proofs.Ytjopobkcijkpmaa
open Go.RowKit

set_option maxHeartbeats 1000000 in
theorem SameIntsL_any (A B : Option Addr) (n m c d : Nat) (a b : List Int) (w : World) (ha : IR w A n a) (hb : IR w B m b) (hn : n ≤ 140737488355328) (hm : m ≤ 140737488355328) :
    Calls Try.prog 48 #[.slice A n c, .slice B m d] w fun e w' => e = .returned (.bool (a == b)) ∧ Below w.heap.size w w' := by
  have la := ha.len
  have lb := hb.len
  by_cases hnm : n = m
  · subst hnm
    have t0 : ((n : Int) != (n : Int)) = false := by simp
    have HEQ : Hid (∀ k : Nat, k < n → a.getD k 0 ≠ b.getD k 0 → (a == b) = false) := Lib.hid (fun k _ he => by
      rw [beq_eq_false_iff_ne]
      rintro rfl
      exact he rfl)
    have HEND : Hid ((∀ k : Nat, k < n → a.getD k 0 = b.getD k 0) → (a == b) = true) := Lib.hid (fun he => by
      rw [beq_iff_eq]
      refine List.ext_getElem (by omega) (fun i h1 h2 => ?_)
      have := he i (by omega)
      simpa [List.getD, List.getElem?_eq_getElem h1, List.getElem?_eq_getElem h2] using this)
    generalize (a == b) = r at *
    clear la lb
    go_enter Try.func48, Try.ntmps48
    go_wp2_with fail
    go_loopw [5] (fun i wr => ∃ k : Nat, k ≤ n ∧ i = .int .i64 k ∧ Hid (∀ j : Nat, j < k → a.getD j 0 = b.getD j 0) ∧ Below w.heap.size w wr) (fun i _ => n - (intOf i).toNat)
    case atStart => exact ⟨0, by omega, rfl, Lib.hid (fun j hj => by omega), gr_refl w⟩
    case round =>
      obtain ⟨k, hk, rfl, HK, hw⟩ := hrel
      by_cases hlt : k < n
      · have t1 : decide ((k : Int) < (n : Int)) = true := by simp; omega
        have t2 : decide (k < n) = true := by simp; omega
        have i0 : (0 : Int) ≤ (k : Int) := Int.natCast_nonneg _
        have i1 : (k : Int) < (n : Int) := by omega
        obtain ⟨g1, o1, rfl, h1⟩ := ha.at_ hlt
        obtain ⟨g2, o2, rfl, h2⟩ := hb.at_ hlt
        have c1 := keep_of_below hw h1
        have c2 := keep_of_below hw h2
        by_cases he : a.getD k 0 = b.getD k 0
        · have HK' : Hid (∀ j : Nat, j < k + 1 → a.getD j 0 = b.getD j 0) := Lib.hid (fun j hj => by
            rcases Nat.lt_or_ge j k with h | h
            · exact HK.out j h
            · rw [show j = k by omega]; exact he)
          rw [← he] at c2
          clear h1 h2 he
          generalize a.getD k 0 = x at c1 c2
          have t3 : (x != x) = false := by simp
          go_wp2_with fail
          go_quiet (fail)
          go_wp2_with fail
          go_roundw
          case rel => exact ⟨k + 1, by omega, by go_num, HK', gr_drewN hw _⟩
          case measure => simp [intOf]; omega
        · obtain rfl := HEQ.out k hlt he
          clear h1 h2
          have t3 : (a.getD k 0 != b.getD k 0) = true := by simpa using he
          clear he HEQ HEND HK
          generalize a.getD k 0 = x at *
          generalize b.getD k 0 = y at *
          go_wp2_with fail
          go_quiet (fail)
          go_wp2_with fail
          go_ret
          exact ⟨rfl, gr_drewN hw _⟩
      · have t1 : decide ((k : Int) < (n : Int)) = false := by simp; omega
        have t2 : decide (k < n) = false := by simp; omega
        obtain rfl := HEND.out (fun j hj => HK.out j (by omega))
        go_wp2_with fail
        go_ret
        exact ⟨rfl, hw⟩
  · have t0 : ((n : Int) != (m : Int)) = true := by simp; omega
    have hr : (a == b) = false := by
      rw [beq_eq_false_iff_ne]
      rintro rfl
      omega
    rw [hr]
    clear hr
    go_enter Try.func48, Try.ntmps48
    go_wp2_with fail
    go_ret
    exact ⟨rfl, gr_refl w⟩

set_option maxHeartbeats 400000 in
theorem CopyInts_any (A : Option Addr) (n c : Nat) (l : List Int) (w : World) (ha : IR w A n l) (hn : n ≤ 17592186043904) :
    Calls Try.prog 52 #[.slice A n c] w fun e w' => ∃ B m, e = .returned (.slice B n m) ∧ w'.ownsRow w.heap.size 3 1 (.slice B n m) n (l.map (Value.int .i64)) ∧ Below w.heap.size w w' := by
  obtain ⟨i0, hi0, hz0, hz1, hz2⟩ := info_parts info_int
  go_enter Try.func52, Try.ntmps52
  go_wp2_with (at_builtin; refine wpList_append_Rd _ rfl _ _ _ rfl w.heap.size 3 i0 _ 1 8 Try.underlying22 hi0 hz0 hz1 hz2 rfl (.slice none 0 0) 0 [] rfl ⟨rfl, .inl ⟨rfl, rfl⟩⟩ A n c _ rfl ha (one_ints l) (by omega) (by simp only [maxLen]; omega) (Nat.le_refl _) ?_; intro v1 w1 hown1 hg1 _ _)
  go_ret
  rw [Nat.zero_add, List.nil_append] at hown1
  obtain ⟨B, m, rfl, _, _⟩ := own_form hown1
  exact ⟨B, m, rfl, hown1, (Below.refl _ _).grown hg1 (Nat.le_refl _) (by simp [Value.ownBlock])⟩

/-- A block that the document's list lies in. -/
def blk (A : Option Addr) (k : Nat) : Prop := ∃ ad, A = some ad ∧ ad.block = k
/-- The two tables in memory, the document's in a variable, beside blocks of X. -/
def PI (w wr : World) (g bx : Nat) (X : Nat → Prop) (T : TabS) (A : Option Addr) (n c : Nat) (R : RefS) : Prop :=
  TSQ w wr g T (fun k => k = bx ∨ blk A k ∨ X k) ∧ BX wr bx A n c R.first R.next R.last ∧ R3 wr A n R.ones ∧ w.heap.size ≤ bx ∧ ∀ ad, A = some ad → ad.block ≠ bx
section
variable {w wr w' : World} {g bx : Nat} {X Y : Nat → Prop} {T T' : TabS} {A A' : Option Addr} {n c n' c' : Nat} {R R' : RefS}
theorem PI.below (h : PI w wr g bx X T A n c R) (hb : Below wr.heap.size wr w') : PI w w' g bx X T A n c R := ⟨h.1.below hb, h.2.1.below hb, h.2.2.1.below hb, h.2.2.2⟩
theorem PI.more (h : PI w wr g bx X T A n c R) (hb : Below wr.heap.size wr w') (hY : ∀ k, Y k → X k ∨ (wr.heap.size ≤ k ∧ k < w'.heap.size)) : PI w w' g bx Y T A n c R :=
  ⟨h.1.more hb (fun k hk => by
    rcases hk with hk | hk | hk
    · exact .inl (.inl hk)
    · exact .inl (.inr (.inl hk))
    · exact (hY k hk).imp (fun h => .inr (.inr h)) id), h.2.1.below hb, h.2.2.1.below hb, h.2.2.2⟩
theorem PI.called (h : PI w wr g bx X T A n c R) (hs : TSQ w w' g T' (fun k => k = bx ∨ blk A k ∨ X k)) (ho : Off (fun k => ¬ (k = bx ∨ blk A k ∨ X k)) wr w') : PI w w' g bx X T' A n c R :=
  ⟨hs, h.2.1.off ho (fun h => h (.inl rfl)), ⟨h.2.2.1.1.off ho (fun ad e _ h => h (.inr (.inl ⟨ad, e, rfl⟩))), h.2.2.1.2⟩, h.2.2.2⟩
/-- A cell of X. -/
theorem PI.cellX (ho : Off (fun k => ¬ (k = bx ∨ blk A k ∨ X k)) wr w') {p : Addr} {u : Value} (hp : X p.block) (hc : wr.cell? p = some u) : w'.cell? p = some u := by
  rw [← hc]
  exact World.cell?_of_block (ho.block _ (World.block_lt_of_cell? wr _ hc) (fun h => h (.inr (.inr hp))))
/-- The document's table has answered, and is stored. -/
theorem PI.put (h : PI w wr g bx X T A n c R) (hn : RN wr w' A A' n' R'.ones) {w2 : World} (hb : Below w'.heap.size w' w2) :
    PI w ((((w2.setCell ⟨bx, 0, none⟩ (.slice A' n' c')).setCell ⟨bx, 1, none⟩ (.int .i64 R'.first)).setCell ⟨bx, 2, none⟩ (.int .i64 R'.next)).setCell ⟨bx, 3, none⟩ (.int .i64 R'.last)) g bx X T A' n' c' R' := by
  obtain ⟨r1, r2, r3⟩ := hn
  have hb2 := gr_trans r2 hb
  have h2 := h.below hb2
  have of : Off (fun k => k = bx) w2 ((((w2.setCell ⟨bx, 0, none⟩ (.slice A' n' c')).setCell ⟨bx, 1, none⟩ (.int .i64 R'.first)).setCell ⟨bx, 2, none⟩ (.int .i64 R'.next)).setCell ⟨bx, 3, none⟩ (.int .i64 R'.last)) := ((((Off.refl (fun k => k = bx) w2).setCell _ rfl).setCell _ rfl).setCell _ rfl).setCell _ rfl
  have hs2 := hb.size
  have hlt := h.2.1.lt
  have hbl : ∀ ad, A' = some ad → ad.block ≠ bx := by
    intro ad e
    rcases r3 with r3 | r3
    · exact h.2.2.2.2 ad (r3 ▸ e)
    · have := r3 ad e
      omega
  have h3 : TSQ w w2 g T (fun k => k = bx ∨ blk A' k ∨ X k) := h.1.more hb2 (fun k hk => by
    rcases hk with hk | ⟨ad, e, rfl⟩ | hk
    · exact .inl (.inl hk)
    · rcases r3 with r3 | r3
      · exact .inl (.inr (.inl ⟨ad, r3 ▸ e, rfl⟩))
      · have := r3 ad e
        exact .inr ⟨this.1, by omega⟩
    · exact .inl (.inr (.inr hk)))
  exact ⟨h3.turned of (fun k e => .inl e) (fun k e => by have := h.2.2.2.1; omega) (fun k hk => .inl hk), h2.2.1.put A' n' c' R'.first R'.next R'.last, ⟨(r1.below hb).1.off of (fun ad e _ e2 => hbl ad e e2), r1.2⟩, h.2.2.2.1, hbl⟩
end

end Go.Proofs.Ytjopobkcijkpmaa
