/-
  chancerylaw08.pages: two pages out of one and some changes of it.
-/
import Derived.Test.YtecndamoomkhnaaPlainD
import Derived.Test.YtecndamoomkhnaaDfH
namespace Go.Proofs.Ytecndamoomkhnaa
open Go.RowKit

/-- Two pages, each in a block of its own. -/
structure Pages (w : World) (base : Nat) (g h cap : Nat) (a b : List UInt8) : Prop where
  oa : OB w base (.slice (some ⟨g, 0, none⟩) 4080 4080) a
  ob : OB w base (.slice (some ⟨h, 0, none⟩) 4080 cap) b
  la : a.length = 4080
  lb : b.length = 4080
  ne : g ≠ h
  cap1 : 4080 ≤ cap
  cap2 : cap ≤ maxLen

theorem Pages.below {w w' : World} {base g h cap : Nat} {a b : List UInt8} (p : Pages w base g h cap a b) (hb : Below w.heap.size w w') : Pages w' base g h cap a b :=
  ⟨p.oa.below hb, p.ob.below hb, p.la, p.lb, p.ne, p.cap1, p.cap2⟩

theorem OB.other {w : World} {base g n cap : Nat} {l : List UInt8} (h : OB w base (.slice (some ⟨g, 0, none⟩) n cap) l) {k j : Nat} (v : Value) (hk : g ≠ k) : OB (w.setCell ⟨k, j, none⟩ v) base (.slice (some ⟨g, 0, none⟩) n cap) l :=
  World.ownsRow.kept h (row := some k) ⟨rfl, rfl, rfl, (KeepsWalks.setCell w _ v).size, fun i _ hi => Below.heap_setCell _ _ _ i (fun e => hi (by rw [e]))⟩ (.inr (by simp [Value.ownBlock]; exact hk))

set_option maxRecDepth 100000 in
set_option maxHeartbeats 1000000 in
theorem pages_any (seed : Int) (A : Option Addr) (n c : Nat) (ts : List Int) (w : World) (ht : IR w A n ts) (_hn : n ≤ 9223372036854775807) :
    Calls Try.prog 21 #[.int .i64 seed, .slice A n c] w fun e w' => ∃ g h cap a b, e = .returned (.tuple #[.slice (some ⟨g, 0, none⟩) 4080 4080, .slice (some ⟨h, 0, none⟩) 4080 cap]) ∧ Pages w' w.heap.size g h cap a b ∧ Below w.heap.size w w' := by
  go_enter Try.func21, Try.ntmps21
  go_wp2_with fail
  refine (Made_any seed 4080 w (by omega)).mono ?_
  rintro e w1 ⟨a, rfl, hal, hB1, hb1⟩
  go_wp2_with fail
  have hr := hB1.readsAll
  rw [hal] at hr
  refine (CopyBytes_any _ 4080 4080 a w1 hr (by omega)).mono ?_
  rintro e w2 ⟨v2, rfl, ho2, hb2⟩
  obtain ⟨h, cap, rfl, hc1, hc2, hg⟩ := ob_some ho2 hal (by omega)
  have hoa := (hB1.kept hb2).own (base := w.heap.size) (Nat.le_refl _) (by rw [hal]; simp [maxLen])
  rw [hal] at hoa
  have hP : Pages w2 w.heap.size w.heap.size h cap a a := ⟨hoa, ho2.lower hb1.size, hal, hal, by have := hB1.lt; omega, hc1, hc2⟩
  have hb := gr_trans hb1 hb2
  clear hoa ho2 hr hB1 hb1 hb2 hal hg
  have hHp := hP.ob.ge hP.lb
  go_wp2_with fail
  go_loopw [8, 9] (fun i _x wr => ∃ (k : Nat) (b : List UInt8), k ≤ n ∧ k ≤ 200 ∧ i = .int .i64 k ∧ Pages wr w.heap.size w.heap.size h cap a b ∧ Below w.heap.size w wr) (fun i _ _ => n - (intOf i).toNat)
  case atStart => exact ⟨0, a, Nat.zero_le _, Nat.zero_le _, rfl, hP, hb⟩
  case round =>
    obtain ⟨k, b, hk, hk2, rfl, hP, hb⟩ := hrel
    have HP := Lib.hid hP
    clear hP
    by_cases hlt : k < n
    · have t1 : decide ((k : Int) < (n : Int)) = true := by simp; omega
      have t1' : decide (k < n) = true := by simp; omega
      by_cases h2 : k < 200
      · have t2 : decide ((k : Int) < 200) = true := by simp; omega
        obtain ⟨g, o, rfl, c1⟩ := (ht.below hb).at_ (k := k) hlt
        generalize ts.getD k 0 = z at *
        go_wp2_with fail
        refine (Pick_any z 1000003 _ (by omega) (by omega)).mono ?_
        rintro e w' ⟨rfl, rfl⟩
        have p1 := Int.emod_nonneg z (show (1000003 : Int) ≠ 0 by decide)
        have p2 := Int.emod_lt_of_pos z (show (0 : Int) < 1000003 by decide)
        generalize z % 1000003 = x at *
        obtain ⟨x, rfl⟩ := Int.eq_ofNat_of_zero_le p1
        have p3 : x / 4080 < 256 := by omega
        have p4 : x % 4080 < 4080 := Nat.mod_lt _ (by omega)
        have q1 := HP.out.ob.cell HP.out.lb (j := x % 4080) p4
        have q2 := HP.out.ob.frozen HP.out.lb (x % 4080)
        have HP' := Lib.hid (show Pages (wr.setCell ⟨h, x % 4080, none⟩ (.int .u8 ((x : Int) / 4080))) w.heap.size w.heap.size h cap a (b.set (x % 4080) (UInt8.ofNat (x / 4080))) from
          ⟨HP.out.oa.other _ HP.out.ne, HP.out.ob.setInt HP.out.lb _ _ p4 _ (by rw [UInt8.toNat_ofNat']; omega), HP.out.la, by rw [List.length_set]; exact HP.out.lb, HP.out.ne, HP.out.cap1, HP.out.cap2⟩)
        go_wp2_with fail
        go_roundw
        case rel => exact ⟨k + 1, _, by omega, by omega, by go_num, HP'.out, hb.setCell (p := ⟨h, x % 4080, none⟩) hHp _⟩
        case measure => simp [intOf]; omega
      · have t2 : decide ((k : Int) < 200) = false := by simp; omega
        go_wp2_with fail
        go_ret2
        exact ⟨_, _, _, _, _, rfl, HP.out, hb⟩
    · have t1 : decide ((k : Int) < (n : Int)) = false := by simp; omega
      have t1' : decide (k < n) = false := by simp; omega
      go_wp2_with fail
      go_ret2
      exact ⟨_, _, _, _, _, rfl, HP.out, hb⟩

end Go.Proofs.Ytecndamoomkhnaa
