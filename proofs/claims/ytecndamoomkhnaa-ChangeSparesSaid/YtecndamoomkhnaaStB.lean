/-
  Contracts: stamp.Open.
-/
import Derived.Test.YtecndamoomkhnaaStA
namespace Go.Proofs.Ytecndamoomkhnaa
open Go.RowKit

set_option maxHeartbeats 400000 in
theorem Open_short (A : Option Addr) (n c : Nat) (w : World) (hn : n ≠ 4096) (_hn2 : n ≤ 9223372036854775807) :
    Calls Try.prog 30 #[.slice A n c] w fun e w' => e = .returned (.tuple #[.slice none 0 0, .int .u64 0, .int .i64 2]) ∧ w = w' := by
  have h1 : ((n : Int) != 4096) = true := by rw [bne_iff_ne]; omega
  clear hn
  go_enter Try.func30, Try.ntmps30
  go_wp2
  go_ret3
  exact ⟨rfl, rfl⟩

/-- Is the block whole? -/
def sealed (l : List UInt8) : Bool := (l.take 8) == (l.drop 4088)
/-- What Open tells of a block of 4096 bytes. -/
def openP (l : List UInt8) : List UInt8 := if sealed l then (l.drop 8).take 4080 else []
def openS (l : List UInt8) : Nat := if sealed l then leN (l.take 8) else 0
def openE (l : List UInt8) : Int := if sealed l then 0 else 140

theorem map_toNat_inj {a b : List UInt8} : ((a.map fun x => ((x.toNat : Nat) : Int)) == (b.map fun x => ((x.toNat : Nat) : Int))) = (a == b) := by
  rw [Bool.eq_iff_iff]
  simp only [beq_iff_eq]
  constructor
  · intro h
    have := congrArg (List.map (fun n : Int => UInt8.ofNat n.toNat)) h
    rwa [ofNat_toNat_bytes, ofNat_toNat_bytes] at this
  · rintro rfl; rfl

set_option maxHeartbeats 1000000 in
set_option maxRecDepth 100000 in
theorem Open_any (A : Option Addr) (c : Nat) (l : List UInt8) (w : World) (ha : BR w A 4096 l) (hc : 4096 ≤ c) :
    Calls Try.prog 30 #[.slice A 4096 c] w fun e w' => ∃ r, e = .returned (.tuple #[r, .int .u64 ((openS l : Nat) : Int), .int .i64 (openE l)]) ∧ OB w' w.heap.size r (openP l) ∧ Below w.heap.size w w' := by
  obtain ⟨g, o, rfl, hcell⟩ := Rd.plain ha (by omega) (by omega)
  have hl := ha.len
  obtain ⟨i0, hi0, hz0, hz1, hz2⟩ := info_parts info_u8
  have hx := ha.cut (k := 0) (j := 8) (c := c) (by omega) (by omega) hc
  have hy := ha.cut (k := 4088) (j := 4096) (c := c) (by omega) (by omega) hc
  have e1 : cutA (some ⟨g, o, none⟩) c 0 1 = some ⟨g, o, none⟩ := by unfold cutA; rw [if_neg (by omega)]; rfl
  have e2 : cutA (some ⟨g, o, none⟩) c 4088 1 = some ⟨g, o + 4088, none⟩ := by unfold cutA; rw [if_neg (by omega)]; rfl
  rw [e1, List.drop_zero] at hx
  rw [e2, List.take_of_length_le (by rw [List.length_drop]; omega)] at hy
  have hsel : sealed l = (l.take 8 == l.drop 4088) := rfl
  have h8 : openS l = if sealed l then leN (l.take 8) else 0 := rfl
  obtain ⟨x0, x1, x2, x3, x4, x5, x6, x7, hX⟩ := list8 (l.take 8) (by rw [List.length_take]; omega)
  obtain ⟨y0, y1, y2, y3, y4, y5, y6, y7, hY⟩ := list8 (l.drop 4088) (by rw [List.length_drop]; omega)
  rw [hX] at hx hsel h8
  rw [hY] at hy hsel
  obtain ⟨k0, k1, k2, k3, k4, k5, k6, k7⟩ := BR.cells8 hx
  obtain ⟨m0, m1, m2, m3, m4, m5, m6, m7⟩ := BR.cells8 hy
  have heq := fun W => run_eqArr (P := Try.prog) W 9998 91 5 i0 .u8 8 Try.underlying91 Try.underlying5 hi0 hz1 ([x0, x1, x2, x3, x4, x5, x6, x7].map fun x => ((x.toNat : Nat) : Int)) ([y0, y1, y2, y3, y4, y5, y6, y7].map fun x => ((x.toNat : Nat) : Int)) rfl rfl
  simp only [map_toNat_inj, ← hsel] at heq
  simp only [List.map_cons, List.map_nil] at heq
  have hgl : g < w.heap.size := World.block_lt_of_cell? w _ k0
  have hAt := fun W A2 n2 c2 (h : 8 ≤ n2) => run_arrayAt (P := Try.prog) W 91 5 8 A2 n2 c2 Try.underlying91 h
  have hcut := fun W => run_cut_lh (P := Try.prog) W 22 5 i0 Try.underlying22 hi0 1 hz1 (some ⟨g, o, none⟩) 4096 c 8 4088 8 4088 rfl rfl (by omega) (by omega)
  have e3 : cutA (some ⟨g, o, none⟩) c 8 1 = some ⟨g, o + 8, none⟩ := by unfold cutA; rw [if_neg (by omega)]; rfl
  have hpay := ha.cut (k := 8) (j := 4088) (c := c) (by omega) (by omega) hc
  rw [e3] at hcut hpay
  have H8 := Lib.hid h8
  have HP : Hid (openP l = if sealed l then (l.drop 8).take 4080 else []) := rfl
  have HE : Hid (openE l = if sealed l then 0 else 140) := rfl
  have HSL := Lib.hid hsel
  clear hcell hl e1 e2 e3 hX hY hsel h8
  generalize sealed l = sl at *
  go_enter Try.func30, Try.ntmps30
  go_upto_region 3 with fail
  go_cut [5, 6] (fun s5 s6 wx => ∃ g5 g6 : Nat, s5 = .pointer (some ⟨g5, 0, none⟩) ∧ s6 = .pointer (some ⟨g6, 0, none⟩) ∧ BR wx (some ⟨g5, 0, none⟩) 8 [x0, x1, x2, x3, x4, x5, x6, x7] ∧ BR wx (some ⟨g6, 0, none⟩) 8 [y0, y1, y2, y3, y4, y5, y6, y7] ∧ Below w.heap.size w wx)
  case first =>
    go_region
    all_goals (go_wp2_with fail; go_meet)
    · exact ⟨_, _, rfl, rfl, BR.drew (BR.alloc (BR.litAt w _ [x0, x1, x2, x3, x4, x5, x6, x7] _ _ _ rfl rfl rfl) _), BR.drew (BR.litAt _ _ [y0, y1, y2, y3, y4, y5, y6, y7] _ _ _ (by simp) rfl rfl), Below.drew (gr_alloc (gr_alloc (gr_refl _) _) _)⟩
    · exact ⟨_, _, rfl, rfl, BR.drew (BR.litAt _ _ [x0, x1, x2, x3, x4, x5, x6, x7] _ _ _ (by simp) rfl rfl), BR.drew (BR.alloc (BR.litAt w _ [y0, y1, y2, y3, y4, y5, y6, y7] _ _ _ rfl rfl rfl) _), Below.drew (gr_alloc (gr_alloc (gr_refl _) _) _)⟩
  case rest =>
    obtain ⟨g5, g6, rfl, rfl, r5, r6, hbx⟩ := hcut
    clear k0 k1 k2 k3 k4 k5 k6 k7 m0 m1 m2 m3 m4 m5 m6 m7
    obtain ⟨k0, k1, k2, k3, k4, k5, k6, k7⟩ := BR.cells8 r5
    obtain ⟨m0, m1, m2, m3, m4, m5, m6, m7⟩ := BR.cells8 r6
    rw [Nat.zero_add] at k1 k2 k3 k4 k5 k6 k7 m1 m2 m3 m4 m5 m6 m7
    cases sl with
    | false =>
      go_wp2_with fail
      go_ret3
      refine ⟨_, by rw [H8.out, HE.out]; rfl, ?_, hbx⟩
      rw [HP.out]
      exact OB.nil _ _
    | true =>
      go_wp2_with fail
      refine (U64_any (some ⟨g5, 0, none⟩) 8 8 [x0, x1, x2, x3, x4, x5, x6, x7] _ 0 r5 (by omega) (by omega) (by omega)).mono ?_
      have e5 : numAt [x0, x1, x2, x3, x4, x5, x6, x7] 0 8 = some (leN [x0, x1, x2, x3, x4, x5, x6, x7]) := by
        unfold numAt
        rw [if_neg (by simp)]
        rfl
      rw [e5]
      clear e5
      simp only [Option.getD_some, Option.isSome_some]
      generalize hq : leN [x0, x1, x2, x3, x4, x5, x6, x7] = q
      have HQ := Lib.hid hq
      clear hq
      rintro e w' ⟨rfl, rfl⟩
      go_wp2_with fail
      refine (Clone_any _ 4080 _ _ _ (hpay.below hbx) (by omega)).mono ?_
      rintro e w2 ⟨r, rfl, ho, hb2⟩
      go_wp2
      go_ret3
      refine ⟨r, by rw [H8.out, HE.out, HQ.out]; rfl, ?_, gr_trans hbx hb2⟩
      rw [HP.out]
      exact OB.lower ho hbx.size

end Go.Proofs.Ytecndamoomkhnaa
