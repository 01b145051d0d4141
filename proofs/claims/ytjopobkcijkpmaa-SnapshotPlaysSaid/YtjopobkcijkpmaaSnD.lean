/-
  Contracts: snapshot's Conflict, ToAll.
-/
import Derived.Test.YtjopobkcijkpmaaSnC
namespace Go.Proofs.Ytjopobkcijkpmaa
open Go.RowKit

/-- What a write upon what another one has written is answered. -/
def confE (T : TabS) (tx wr : Int) : Int :=
  if askT T tx ≠ 0 then askT T tx else if (ofT T wr).1 = 2 ∧ wr ≠ tx then 7 else if (ofT T wr).1 = 3 ∧ shB (ofT T tx).2 (ofT T wr) = false then 8 else 0

set_option maxRecDepth 100000 in
set_option maxHeartbeats 2000000 in
theorem Conflict_any (w : World) (base g : Nat) (F : Nat → Prop) (T : TabS) (tx wr : Int) (h : IsT w base g F T) (h1 : -9223372036854775808 ≤ tx) (h2 : tx ≤ 9223372036854775807) (h3 : -9223372036854775808 ≤ wr) (h4 : wr ≤ 9223372036854775807) :
    Calls Try.prog 36 #[.pointer (some ⟨g, 0, none⟩), .int .i64 tx, .int .i64 wr] w fun e w' => e = .returned (.int .i64 (confE T tx wr)) ∧ Below w.heap.size w w' := by
  have HA := Lib.hid (tasked_any w base g F T tx h h1 h2)
  have HT := Lib.hid (fun W (hW : Below w.heap.size w W) => of_any W base g F T tx (h.below hW) h1 h2)
  have HW := Lib.hid (fun W (hW : Below w.heap.size w W) => of_any W base g F T wr (h.below hW) h3 h4)
  have HE : Hid (confE T tx wr = if askT T tx ≠ 0 then askT T tx else if (ofT T wr).1 = 2 ∧ wr ≠ tx then 7 else if (ofT T wr).1 = 3 ∧ shB (ofT T tx).2 (ofT T wr) = false then 8 else 0) := Lib.hid rfl
  clear h
  unfold mkV at HT HW
  generalize confE T tx wr = r at *
  generalize askT T tx = at' at *
  generalize ofT T tx = qt at *
  generalize ofT T wr = qw at *
  obtain ⟨t1, t2⟩ := qt
  obtain ⟨w1, w2⟩ := qw
  dsimp only at HT HW HE
  by_cases hat : at' = 0
  · have q0 : (at' != 0) = false := by simp [hat]
    have hr := HE.out
    rw [if_neg (by simp [hat])] at hr
    subst hat
    clear HE
    by_cases ho : w1 = 2 ∧ wr ≠ tx
    · rw [if_pos ho] at hr
      subst hr
      have q1 : (w1 == 2) = true := by simp [ho.1]
      have q2 : (wr != tx) = true := by simp [ho.2]
      clear ho
      go_enter Try.func36, Try.ntmps36
      go_wp2_with fail
      refine HA.out.mono ?_
      rintro e w5 ⟨rfl, hb⟩
      go_wp2_with fail
      refine (HW.out w5 hb).mono ?_
      rintro e w6 ⟨rfl, hb6⟩
      go_wp2_with fail
      go_ret
      exact ⟨rfl, gr_alloc (gr_trans hb hb6) _⟩
    · rw [if_neg ho] at hr
      have q12 : (w1 == 2) = false ∨ ((w1 == 2) = true ∧ (wr != tx) = false) := by
        by_cases h : w1 = 2
        · exact .inr ⟨by simp [h], by simpa using fun e => ho ⟨h, e⟩⟩
        · exact .inl (by simp [h])
      by_cases hc : w1 = 3
      · have q3 : (w1 == 3) = true := by simp [hc]
        have q1 : (w1 == 2) = false := by simp [hc]
        have hrr : r = if shB t2 (w1, w2) = false then 8 else 0 := by
          rw [hr]
          by_cases hs : shB t2 (w1, w2) = false
          · rw [if_pos ⟨hc, hs⟩, if_pos hs]
          · rw [if_neg (fun e => hs e.2), if_neg hs]
        have HR := Lib.hid hrr
        clear hc q12 ho hr hrr
        go_enter Try.func36, Try.ntmps36
        go_wp2_with fail
        refine HA.out.mono ?_
        rintro e w5 ⟨rfl, hb⟩
        go_wp2_with fail
        refine (HW.out w5 hb).mono ?_
        rintro e w6 ⟨rfl, hb6⟩
        go_wp2_with fail
        have hb66 := gr_trans hb hb6
        have hb7 := gr_alloc hb66 (.cells #[.int .u8 w1, .int .i64 w2] 119)
        have HN : Hid (∀ W : World, Below (w6.alloc (.cells #[.int .u8 w1, .int .i64 w2] 119)).heap.size (w6.alloc (.cells #[.int .u8 w1, .int .i64 w2] 119)) W → W.cell? ⟨w6.heap.size, 0, none⟩ = some (.int .u8 w1) ∧ W.cell? ⟨w6.heap.size, 1, none⟩ = some (.int .i64 w2)) := Lib.hid (fun W hW => by
          have hn := (hW.block w6.heap.size (by simp)).trans (heap_alloc_new w6 (.cells #[.int .u8 w1, .int .i64 w2] 119))
          exact ⟨by rw [cell_of_row _ _ 0 _ _ _ hn]; rfl, by rw [cell_of_row _ _ 1 _ _ _ hn]; rfl⟩)
        generalize w6.alloc (.cells #[.int .u8 w1, .int .i64 w2] 119) = w7 at *
        obtain ⟨y0, y1⟩ := HN.out w7 (gr_refl w7)
        have hsh : ∃ bb, bb = shB t2 (w1, w2) := ⟨_, rfl⟩
        obtain ⟨bb, hbb⟩ := hsh
        have HSH := Lib.hid (fun W => shown_any (some ⟨g, 0, none⟩) t1 t2 w1 w2 W)
        rw [← hbb] at HSH HR
        have HT7 := Lib.hid (HT.out w7.drew ⟨hb7.os, hb7.tape, hb7.output, hb7.size, hb7.block⟩)
        clear hbb hb hb6 hb66 HA HW HT
        cases bb with
        | true =>
          have hr := HR.out
          rw [if_neg (by simp)] at hr
          subst hr
          go_region_with (first
            | ((with_reducible refine HT7.out.mono ?_); rintro e w8 ⟨rfl, hb8⟩; obtain ⟨z0, z1⟩ := HN.out w8 ⟨hb8.os, hb8.tape, hb8.output, hb8.size, hb8.block⟩)
            | ((with_reducible refine (HSH.out _).mono ?_); rintro e w9 ⟨rfl, hb9⟩))
          all_goals
            go_wp2_with fail
            go_ret
            exact ⟨rfl, gr_trans (gr_trans hb7 ⟨hb8.os, hb8.tape, hb8.output, hb8.size, hb8.block⟩) hb9⟩
        | false =>
          have hr := HR.out
          rw [if_pos rfl] at hr
          subst hr
          go_region_with (first
            | ((with_reducible refine HT7.out.mono ?_); rintro e w8 ⟨rfl, hb8⟩; obtain ⟨z0, z1⟩ := HN.out w8 ⟨hb8.os, hb8.tape, hb8.output, hb8.size, hb8.block⟩)
            | ((with_reducible refine (HSH.out _).mono ?_); rintro e w9 ⟨rfl, hb9⟩))
          all_goals
            go_wp2_with fail
            go_ret
            exact ⟨rfl, gr_trans (gr_trans hb7 ⟨hb8.os, hb8.tape, hb8.output, hb8.size, hb8.block⟩) hb9⟩
      · have q3 : (w1 == 3) = false := by simp [hc]
        rw [if_neg (fun e => hc e.1)] at hr
        subst hr
        clear hc ho
        rcases q12 with q1 | ⟨q1, q2⟩
        all_goals
          go_enter Try.func36, Try.ntmps36
          go_wp2_with fail
          refine HA.out.mono ?_
          rintro e w5 ⟨rfl, hb⟩
          go_wp2_with fail
          refine (HW.out w5 hb).mono ?_
          rintro e w6 ⟨rfl, hb6⟩
          go_wp2_with fail
          go_quiet (fail)
          go_wp2_with fail
          go_ret
          exact ⟨rfl, gr_drewN (gr_alloc (gr_trans hb hb6) _) _⟩
  · have q0 : (at' != 0) = true := by simp [hat]
    have hr := HE.out
    rw [if_pos hat] at hr
    subst hr
    clear HE hat
    go_enter Try.func36, Try.ntmps36
    go_wp2_with fail
    refine HA.out.mono ?_
    rintro e w5 ⟨rfl, hb⟩
    go_wp2_with fail
    go_ret
    exact ⟨rfl, hb⟩

end Go.Proofs.Ytjopobkcijkpmaa
