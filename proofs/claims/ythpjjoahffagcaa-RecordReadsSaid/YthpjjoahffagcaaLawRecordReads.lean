/-
  The walk of RecordReads.
-/
import Derived.Test.YthpjjoahffagcaaRhD
import Derived.Test.YthpjjoahffagcaaRdQ
namespace Go.Proofs.Ythpjjoahffagcaa
open Go.RowKit

theorem decR_small (b : List UInt8) : (decR b).cs.length ≤ 16 ∧ ∀ c ∈ (decR b).cs, c.2.2.length ≤ 9223372036854775807 := by
  by_cases h : decE b = 0
  · obtain ⟨_, _, _, g4, g5⟩ := right_good (dec_own h).1
    refine ⟨g4, fun c hc => ?_⟩
    have := g5 c hc
    unfold chG at this
    omega
  · have e : decR b = rec0 := by
      unfold decE at h
      unfold decR
      split
      · rfl
      · rename_i hs
        rw [if_neg hs] at h
        split
        · rename_i hf
          rw [if_pos hf] at h
          exact absurd rfl h
        · rfl
    rw [e]
    exact ⟨by decide, fun c hc => by cases hc⟩
theorem allF_right : ∀ (f : Nat) (acc : List Rec) (b : List UInt8), (∀ r ∈ acc, r.right = true) → (∀ r ∈ (allF f acc b).1, r.right = true) ∧ (allF f acc b).1.length ≤ acc.length + f
  | 0, acc, b, h => ⟨h, Nat.le_refl _⟩
  | f + 1, acc, b, h => by
    by_cases h1 : b = []
    · rw [show allF (f + 1) acc b = (acc, 0) from if_pos h1]
      exact ⟨h, by simp⟩
    · by_cases h2 : decE b = 0
      · rw [show allF (f + 1) acc b = allF f (acc ++ [decR b]) (b.drop (decN b)) from (if_neg h1).trans (if_neg (fun h => h h2))]
        obtain ⟨a1, a2⟩ := allF_right f (acc ++ [decR b]) (b.drop (decN b)) (fun r hr => by
          rcases List.mem_append.1 hr with hr | hr
          · exact h r hr
          · rw [List.mem_singleton.1 hr]
            exact (dec_own h2).1)
        refine ⟨a1, ?_⟩
        rw [List.length_append, List.length_singleton] at a2
        omega
      · rw [show allF (f + 1) acc b = ([], decE b) from (if_neg h1).trans (if_pos h2)]
        exact ⟨fun r hr => (by cases hr), by simp⟩

set_option maxRecDepth 100000 in
set_option maxHeartbeats 4000000 in
theorem RecordReads_any (A : Option Addr) (n c : Nat) (b : List UInt8) (w : World) (hb : BR w A n b) (hnc : n ≤ c) (hc : c ≤ 140737488351232) :
    Calls Try.prog 4 #[.slice A n c] w fun e w' => e = .returned (.bool true) ∧ Below w.heap.size w w' := by
  have hl := hb.len
  by_cases h8 : 80000 < n
  · have t1 : decide (80000 < (n : Int)) = true := decide_eq_true (by omega)
    have t1' : decide (80000 < n) = true := decide_eq_true h8
    have HA := Lib.hid (awake05_any w)
    clear hb hl
    go_enter Try.func4, Try.ntmps4
    go_wp2_with fail
    refine HA.out.mono ?_
    rintro e w1 ⟨rfl, hb1⟩
    go_wp2
    go_ret
    exact ⟨rfl, hb1⟩
  have t1 : decide (80000 < (n : Int)) = false := decide_eq_false (by omega)
  have t1' : decide (80000 < n) = false := decide_eq_false h8
  have HL := Lib.hid hl
  have HB := Lib.hid hb
  have LE := Lib.hid (LentBytes_any A n c b w hb (by omega))
  obtain ⟨ds1, ds2⟩ := decR_small b
  obtain ⟨as1, as2⟩ := allF_right b.length [] b (fun r h => by cases h)
  have DS := Lib.hid (And.intro ds1 ds2)
  have AS : Hid (∀ r ∈ allR b, r.cs.length ≤ 9223372036854775807 ∧ ∀ c ∈ r.cs, c.2.2.length ≤ 9223372036854775807) := Lib.hid (fun r hr => by
    obtain ⟨_, _, _, g4, g5⟩ := right_good (as1 r hr)
    refine ⟨by omega, fun c hc => ?_⟩
    have := g5 c hc
    unfold chG at this
    omega)
  have AN : Hid ((allR b).length ≤ 80000) := Lib.hid (by have : (allR b).length ≤ 0 + b.length := as2; omega)
  clear hb hl ds1 ds2 as1 as2
  go_enter Try.func4, Try.ntmps4
  go_wp2_with fail
  refine LE.out.mono ?_
  rintro e w1 ⟨A1, c1, rfl, hlt, hb1⟩
  obtain ⟨br1, hn1, hm1⟩ := hlt.BR
  rw [HL.out] at br1 hn1
  have HLT := Lib.hid hlt
  have HB1 := Lib.hid hb1
  have D1 := Lib.hid (Decode_any A1 n c1 b w1 br1 (by omega) (by omega) (by simp only [maxLen] at hm1; omega))
  have BR1 := Lib.hid br1
  have HM1 := Lib.hid (And.intro hn1 hm1)
  clear hlt hb1 br1 hn1 hm1 LE t1 t1'
  go_wp2_with fail
  refine D1.out.mono ?_
  generalize hdn : decN b = dn at *
  have HDN := Lib.hid hdn
  clear hdn
  generalize hde : decE b = de at *
  generalize hdr : decR b = dr at *
  have HDR := Lib.hid hdr
  have HDE := Lib.hid hde
  obtain ⟨kd, tx, cs⟩ := dr
  dsimp only at *
  clear hde hdr
  rintro e w2 ⟨v2, rfl, oc2, hb2⟩
  obtain ⟨A2, c2, rfl, cr2, _, _⟩ := oc2.cr
  have hbx := gr_alloc (gr_refl w2) (.cells #[.int .u8 (kd : Int), .int .i64 tx, .slice A2 cs.length c2] 38)
  have HX := Lib.hid (B3.new w2 (.int .u8 (kd : Int)) (.int .i64 tx) (.slice A2 cs.length c2) (t := 38) (by decide))
  have HC := Lib.hid (cr2.below hbx)
  have HB2 := Lib.hid (gr_trans hb2 hbx)
  clear D1 hbx cr2 oc2 hb2
  go_upto_region 5 with fail
  generalize w2.alloc (.cells #[.int .u8 (kd : Int), .int .i64 tx, .slice A2 cs.length c2] 38) = w3 at *
  generalize w2.heap.size = g2 at *
  have D2 := refDecode_any A n c b w3 (HB.out.below (gr_trans HB1.out HB2.out)) (by omega) hnc (by simp only [maxLen]; omega)
  rw [HDR.out, HDE.out, HDN.out] at D2
  dsimp only at D2
  have HD2 := Lib.hid D2
  have HB3 := Lib.hid (gr_trans HB1.out HB2.out)
  have HLT3 : Hid (Lent w3 w.heap.size A1 c1 b) := Lib.hid (own_keep HLT.out HB2.out)
  have HBI := Lib.hid (BR1.out.below HB2.out)
  clear D2 HLT BR1 HB1 HB2
  go_wp2_with fail
  refine HD2.out.mono ?_
  rintro e w4 ⟨v4, rfl, oc4, hb4⟩
  obtain ⟨A4, c4, rfl, cr4, _, _⟩ := oc4.cr
  have hbx := gr_alloc (gr_refl w4) (.cells #[.int .u8 (kd : Int), .int .i64 tx, .slice A4 cs.length c4] 38)
  have HY := Lib.hid (B3.new w4 (.int .u8 (kd : Int)) (.int .i64 tx) (.slice A4 cs.length c4) (t := 38) (by decide))
  have HC4 := Lib.hid (cr4.below hbx)
  have hb5 := gr_trans hb4 hbx
  have HX5 := Lib.hid (HX.out.nb (NB.below hb5))
  have HC5 := Lib.hid (HC.out.below hb5)
  have HLT5 : Hid (Lent _ w.heap.size A1 c1 b) := Lib.hid (own_keep HLT3.out hb5)
  have HBI5 := Lib.hid (HBI.out.below hb5)
  have HB5 := Lib.hid (gr_trans HB3.out hb5)
  clear HD2 hbx cr4 oc4 hb4 hb5 HX HC HLT3 HBI HB3
  go_upto_region 6 with fail
  generalize w4.alloc (.cells #[.int .u8 (kd : Int), .int .i64 tx, .slice A4 cs.length c4] 38) = w5 at *
  generalize w4.heap.size = g4 at *
  have M1 := Lib.hid (All_any A1 n c1 b w5 HBI5.out (by omega) (by have := HM1.out.1; omega) (by have := HM1.out.2; simp only [maxLen] at this; omega))
  have M2 : Hid (∀ W, Below w.heap.size w W → Calls Try.prog 19 #[.slice A n c] W fun e w' => ∃ v, e = .returned (.tuple #[v, .int .i64 (allE b : Int)]) ∧ ORW w' W.heap.size v (allR b) ∧ Below W.heap.size W w') := Lib.hid (fun W h => refAll_any A n c b W (HB.out.below h) (by omega) hnc (by simp only [maxLen]; omega))
  generalize allR b = ar at *
  generalize allE b = ae at *
  go_wp2_with fail
  refine M1.out.mono ?_
  rintro e w6 ⟨v6, rfl, or6, hb6⟩
  obtain ⟨A6, c6, rfl, rw6, _, _⟩ := or6.rw
  have HR6 := Lib.hid rw6
  have HY6 := Lib.hid (HY.out.nb (NB.below hb6))
  have HX6 := Lib.hid (HX5.out.nb (NB.below hb6))
  have HC46 := Lib.hid (HC4.out.below hb6)
  have HC56 := Lib.hid (HC5.out.below hb6)
  have HLT6 : Hid (Lent w6 w.heap.size A1 c1 b) := Lib.hid (own_keep HLT5.out hb6)
  have HB6 := Lib.hid (gr_trans HB5.out hb6)
  clear or6 rw6 hb6 HY HX5 HC4 HC5 HLT5 HBI5 HB5 M1
  go_wp2_with fail
  refine (M2.out w6 HB6.out).mono ?_
  rintro e w7 ⟨v7, rfl, or7, hb7⟩
  obtain ⟨A7, c7, rfl, rw7, _, _⟩ := or7.rw
  have HB7 := Lib.hid (gr_trans HB6.out hb7)
  have SR := Lib.hid (SameRecord_any (kd : Int) (kd : Int) tx tx A2 A4 cs.length cs.length c2 c4 cs cs w7 (HC56.out.below hb7) (HC46.out.below hb7) (by have := DS.out.1; omega) (by have := DS.out.1; omega) DS.out.2 DS.out.2)
  rw [show decide ((kd : Int) = (kd : Int) ∧ tx = tx ∧ cs = cs) = true from decide_eq_true ⟨rfl, rfl, rfl⟩] at SR
  have SRS : Hid (∀ W, Below w7.heap.size w7 W → Calls Try.prog 21 #[.slice A6 ar.length c6, .slice A7 ar.length c7] W fun e w' => e = .returned (.bool true) ∧ Below W.heap.size W w') := Lib.hid (fun W h => SameRecords_eq A6 A7 ar.length c6 c7 ar W ((HR6.out.below hb7).below h) (rw7.below h) (by have := AN.out; omega) AS.out)
  have KB : Hid (∀ W, Below w7.heap.size w7 W → Calls Try.prog 22 #[.slice A1 n c1, .slice A n c] W fun e w' => e = .returned (.bool true) ∧ W = w') := Lib.hid (fun W h => KeptBytes_any A1 A n c1 c w.heap.size b W (own_keep (own_keep HLT6.out hb7) h) ((HB.out.below HB7.out).below h) (by omega))
  have y0 := (HX6.out.nb (NB.below hb7)).c0
  have y1 := (HX6.out.nb (NB.below hb7)).c1
  have y2 := (HX6.out.nb (NB.below hb7)).c2
  have z0 := (HY6.out.nb (NB.below hb7)).c0
  have z1 := (HY6.out.nb (NB.below hb7)).c1
  have z2 := (HY6.out.nb (NB.below hb7)).c2
  clear or7 hb7 rw7 M2
  go_wp2_with fail
  refine SR.out.mono ?_
  rintro e w8 ⟨rfl, hb8⟩
  clear y0 y1 y2 z0 z1 z2
  go_wp2_with fail
  refine (SRS.out w8 hb8).mono ?_
  rintro e w9 ⟨rfl, hb9⟩
  go_wp2_with fail
  refine (KB.out w9 (gr_trans hb8 hb9)).mono ?_
  rintro e wa ⟨rfl, rfl⟩
  go_wp2_with fail
  refine (awake05_any _).mono ?_
  rintro e wb ⟨rfl, hbb⟩
  go_wp2
  go_ret
  exact ⟨rfl, gr_trans (gr_trans (gr_trans HB7.out hb8) hb9) hbb⟩

end Go.Proofs.Ythpjjoahffagcaa
