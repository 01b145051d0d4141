/-
  The reference's Closure.
-/
import Derived.Test.YtfgkadkmgciamaaRoI
namespace Go.Proofs.Ytfgkadkmgciamaa
open Go Go.RowKit

theorem CI.more {l : List Mb} {role : Str} {out : List Str} (h : CI l role out 0) {m : Mb} (hx : m.1 ∈ out) (hm : m ∈ l) (hn : m.2 ∉ out) : CI l role (out ++ [m.2]) 0 := by
  refine ⟨List.nodup_append.2 ⟨h.nd, by simp, fun a ha b hb => by rw [List.mem_singleton.1 hb]; rintro rfl; exact hn ha⟩, List.mem_append.2 (.inl h.h0), fun y hy => ?_, fun y hy => ?_, fun m' _ hy => by simp at hy, Nat.zero_le _⟩
  · rcases List.mem_append.1 hy with hy | hy
    · exact h.rc y hy
    · rw [List.mem_singleton.1 hy]
      exact .step (h.rc _ hx) hm
  · rcases List.mem_append.1 hy with hy | hy
    · exact h.sub y hy
    · rw [List.mem_singleton.1 hy]
      exact .inr ⟨m, hm, rfl⟩
theorem CI.closS {l : List Mb} {role : Str} {out s : List Str} (h : CI l role out 0) (hc : ∀ m ∈ l, m.1 ∈ out → m.2 ∈ out) (hp : s.Perm out) (hs : s.Pairwise (fun p q => p ≤ q)) : Clos l role s := by
  refine ⟨Rise.of_sorted hs (hp.nodup_iff.2 h.nd), fun x => ?_⟩
  rw [hp.mem_iff]
  exact ⟨h.rc x, fun hr => hr.sub (S := fun z => z ∈ out) h.h0 hc⟩

theorem EO.cellS {w : World} {base g n c : Nat} {l : List Str} (h : EO ES 1 9 w base (.slice (some ⟨g, 0, none⟩) n c) l) {i : Nat} {x : Str} (hx : l[i]? = some x) : w.cell? ⟨g, i, none⟩ = some (.string ⟨x.toArray⟩) := by
  obtain ⟨A, c', e, her, _⟩ := h.form
  injection e with e1 e2 e3
  subst e1
  obtain ⟨g', o, y, e4, hy, hc⟩ := her.atStr (List.getElem?_eq_some_iff.1 hx).1
  injection e4 with e4
  injection e4 with e4 e5
  subst e4 e5
  rw [hx] at hy
  injection hy with hy
  subst hy
  simpa using hc

set_option maxRecDepth 100000 in
set_option maxHeartbeats 4000000 in
theorem refClosure_any (A : Option Addr) (n c : Nat) (l : List Mb) (role : Str) (w : World) (h : ER EM 2 w A n l) (hn : n ≤ 4398046511103) :
    Calls Try.prog 30 #[.slice A n c, .string ⟨role.toArray⟩] w fun e w' => ∃ (v : Value) (ss : List Str), e = .returned v ∧ Clos l role ss ∧ EO ES 1 9 w' w.heap.size v ss ∧ ss.length ≤ n + 1 ∧ Below w.heap.size w w' := by
  obtain ⟨i0, z, hi0, hz0, hzs, hz1, hz2⟩ := info_Str'
  have HS := Lib.hid h
  have HL := Lib.hid h.1
  clear h
  go_enter Try.func30, Try.ntmps30
  go_wp2_with fail
  have HE0 : Hid (EO ES 1 9 (w.alloc (.cells #[.string ⟨role.toArray⟩] 9)) w.heap.size (.slice (some ⟨w.heap.size, 0, none⟩) 1 1) [role] ∧ Below w.heap.size w (w.alloc (.cells #[.string ⟨role.toArray⟩] 9))) := Lib.hid ⟨own_new1 w _ _ _ (Nat.le_refl _), gr_alloc (gr_refl w) _⟩
  generalize w.alloc (.cells #[.string ⟨role.toArray⟩] 9) = w2 at *
  generalize Value.slice (some ⟨w.heap.size, 0, none⟩) 1 1 = v2 at *
  go_loopg [5, 6, 7] (l.length + 3) (fun k v g _ wr => ∃ out, CI l role out 0 ∧ EO ES 1 9 wr w.heap.size v out ∧ Below w.heap.size w wr ∧ ((g = .bool true ∧ k + out.length = l.length + 4) ∨ (g = .bool false ∧ Hid (∀ m ∈ l, m.1 ∈ out → m.2 ∈ out))))
  case atStart => exact ⟨[role], CI.start l role, HE0.out.1, HE0.out.2, .inl ⟨rfl, rfl⟩⟩
  case round =>
    clear HE0
    obtain ⟨out, hci, heo, hb, hg⟩ := hrel
    have HCI := Lib.hid hci
    have HEO := Lib.hid heo
    have HB := Lib.hid hb
    have hlen := hci.len
    clear hci heo hb
    rcases hg with ⟨rfl, hk⟩ | ⟨rfl, HCL⟩
    · go_wp2_with fail
      go_loopw [5, 6, 7] (fun v gr i wr => ∃ (o2 : List Str) (j : Nat), j ≤ n ∧ i = .int .i64 (j : Int) ∧ CI l role o2 0 ∧ EO ES 1 9 wr w.heap.size v o2 ∧ Below w.heap.size w wr ∧ ((gr = .bool false ∧ Hid (o2.length = out.length) ∧ Hid (∀ m ∈ l.take j, m.1 ∈ o2 → m.2 ∈ o2)) ∨ (gr = .bool true ∧ out.length < o2.length))) (fun _ _ i _ => n - (intOf i).toNat)
      case atStart => exact ⟨out, 0, Nat.zero_le _, rfl, HCI.out, HEO.out, HB.out, .inl ⟨rfl, Lib.hid rfl, Lib.hid (fun m hm => by simp at hm)⟩⟩
      case round =>
        obtain ⟨o2, j, hj, rfl, hci, heo, hb, hgr⟩ := hrel
        clear HCI HEO HB
        have HCI := Lib.hid hci
        have hl2 := hci.len
        rw [HL.out] at hl2
        obtain ⟨A5, c5, rfl, he5, hc5, hm5⟩ := heo.form
        have HEO := Lib.hid heo
        have HB := Lib.hid hb
        have HSL := Lib.hid (SL_of_ER he5)
        obtain ⟨L, hLL⟩ : ∃ L, L = o2.length := ⟨_, rfl⟩
        rw [← hLL] at hl2 HEO HSL hgr
        have HLL := Lib.hid hLL
        by_cases hlt : j < n
        · have t1 : decide ((j : Int) < (n : Int)) = true := decide_eq_true (by omega)
          have t2 : decide (j < n) = true := decide_eq_true hlt
          have i0' : (0 : Int) ≤ (j : Int) := Int.natCast_nonneg _
          have i1' : (j : Int) < (n : Int) := by omega
          obtain ⟨g, o, m, rfl, hm, q0, q1⟩ := (HS.out.below hb).atMb hlt
          have HM := Lib.hid hm
          have HTK := Lib.hid (take_snoc hm)
          rw [← hLL]
          clear hm hci heo hb he5 hLL
          obtain ⟨r1, hr1⟩ : ∃ r, r = o2.contains m.1 := ⟨_, rfl⟩
          obtain ⟨r2, hr2⟩ : ∃ r, r = o2.contains m.2 := ⟨_, rfl⟩
          have HR1 := Lib.hid hr1
          have HR2 := Lib.hid hr2
          have HI1 := Lib.hid (In_any A5 L c5 o2 m.1 wr HSL.out (by omega))
          have HI2 := Lib.hid (In_any A5 L c5 o2 m.2 wr HSL.out (by omega))
          rw [← hr1] at HI1
          rw [← hr2] at HI2
          clear hr1 hr2
          go_wp2_with fail
          refine HI1.out.mono ?_
          rintro e w3 ⟨rfl, rfl⟩
          cases r1
          · go_wp2_with fail
            go_roundw
            case rel => exact ⟨o2, j + 1, by omega, by go_num, HCI.out, HEO.out, HB.out, by
              rcases hgr with ⟨rfl, e1, e2⟩ | ⟨rfl, e1⟩
              · refine .inl ⟨rfl, Lib.hid (HLL.out ▸ e1.out), Lib.hid (fun m' hm' h1 => ?_)⟩
                rw [HTK.out] at hm'
                rcases List.mem_append.1 hm' with hm' | hm'
                · exact e2.out m' hm' h1
                · rw [List.mem_singleton.1 hm'] at h1
                  have := HR1.out
                  rw [List.contains_iff_mem.2 h1] at this
                  cases this
              · exact .inr ⟨rfl, HLL.out ▸ e1⟩⟩
            case measure => simp [intOf]; omega
          · have q0 := q0
            go_wp2_with fail
            refine HI2.out.mono ?_
            rintro e w3 ⟨rfl, rfl⟩
            have HM1 : Hid (m.1 ∈ o2) := Lib.hid (List.contains_iff_mem.1 HR1.out.symm)
            cases r2
            · have HB2 := Lib.hid (gr_alloc HB.out (.cells #[.string ⟨m.2.toArray⟩] 9))
              have HOW : Hid (wr.ownsRow w.heap.size 9 1 (.slice A5 L c5) L (o2.flatMap ES)) := Lib.hid (by have := HEO.out; unfold EO at this; rw [← HLL.out] at this; exact this)
              have hmx : L + 1 ≤ maxLen := by simp only [maxLen]; omega
              go_wp2_with (at_builtin; refine wpList_append_Rd _ rfl (.tmp 36) (.tmp 42) _ rfl w.heap.size 9 i0 _ 1 16 Try.underlying40 hi0 hz0 hz1 hz2 hzs (.slice A5 L c5) L _ rfl (ownsRow_off (S := fun _ => False) HOW.out (Off.of_below (gr_alloc (gr_refl wr) _)) (fun _ _ h => h)) (some ⟨wr.heap.size, 0, none⟩) 1 1 (ES m.2) rfl (rd_new1 _ _ _ _ rfl) (ES_one m.2) (by omega) hmx HB2.out.size ?_; intro v4 w4 hown4 hg4 _ _; have hb4 : Below w.heap.size w w4 := HB2.out.grown hg4 HB2.out.size (fun j hj => (HOW.out.lt j hj).1))
              have HR := Lib.hid (EO.snoc hown4 HLL.out.symm)
              have HB4 := Lib.hid hb4
              clear hown4 hg4 hb4 q0 q1
              go_wp2_with fail
              go_roundw
              case rel => exact ⟨o2 ++ [m.2], j + 1, by omega, by go_num, HCI.out.more HM1.out (List.mem_of_getElem? HM.out) (fun h1 => by have := HR2.out; rw [List.contains_iff_mem.2 h1] at this; cases this), HR.out, HB4.out, .inr ⟨rfl, by
                have e0 := HLL.out
                rw [List.length_append]
                rcases hgr with ⟨_, e1, _⟩ | ⟨_, e1⟩
                · have := e1.out; simp; omega
                · simp; omega⟩⟩
              case measure => simp [intOf]; omega
            · go_wp2_with fail
              go_roundw
              case rel => exact ⟨o2, j + 1, by omega, by go_num, HCI.out, HEO.out, HB.out, by
                rcases hgr with ⟨rfl, e1, e2⟩ | ⟨rfl, e1⟩
                · refine .inl ⟨rfl, Lib.hid (HLL.out ▸ e1.out), Lib.hid (fun m' hm' h1 => ?_)⟩
                  rw [HTK.out] at hm'
                  rcases List.mem_append.1 hm' with hm' | hm'
                  · exact e2.out m' hm' h1
                  · rw [List.mem_singleton.1 hm']
                    exact List.contains_iff_mem.1 HR2.out.symm
                · exact .inr ⟨rfl, HLL.out ▸ e1⟩⟩
              case measure => simp [intOf]; omega
        · obtain rfl : j = n := by omega
          have t1 : decide ((j : Int) < (j : Int)) = false := decide_eq_false (by omega)
          rw [← hLL]
          clear hci heo hb he5 hLL
          rcases hgr with ⟨rfl, e1, e2⟩ | ⟨rfl, e1⟩
          · go_wp2_with fail
            go_roundg 0
            case measure => omega
            case rel => exact ⟨o2, HCI.out, HEO.out, HB.out, .inr ⟨rfl, Lib.hid (fun m hm h1 => e2.out m (by rw [List.take_of_length_le (by rw [HL.out]; omega)]; exact hm) h1)⟩⟩
          · have hl3 := HCI.out.len
            go_wp2_with fail
            go_roundg (l.length + 4 - L)
            case measure => omega
            case rel => exact ⟨o2, HCI.out, HEO.out, HB.out, .inl ⟨rfl, by have := HLL.out; omega⟩⟩
    · have h0 : 0 < out.length := List.length_pos_of_mem HCI.out.h0
      rw [HL.out] at hlen
      obtain ⟨g5, c5, rfl, hg5, hlt5, hc5, hm5⟩ := HEO.out.block h0
      obtain ⟨L, hLL⟩ : ∃ L, L = out.length := ⟨_, rfl⟩
      rw [← hLL] at h0 hlen HEO hc5
      rw [← hLL]
      have HLL := Lib.hid hLL
      clear hLL
      go_wp2_with fail
      go_loopw [8, 9] (fun i _ wr => ∃ (s : List Str) (q : Nat), 1 ≤ q ∧ q ≤ L ∧ i = .int .i64 (q : Int) ∧ EO ES 1 9 wr w.heap.size (.slice (some ⟨g5, 0, none⟩) L c5) s ∧ s.Perm out ∧ Below w.heap.size w wr ∧ Hid ((s.take q).Pairwise (fun p q => p ≤ q))) (fun i _ _ => L - (intOf i).toNat)
      case atStart => exact ⟨out, 1, Nat.le_refl _, h0, rfl, HEO.out, List.Perm.refl _, HB.out, Lib.hid (by
        cases out with
        | nil => simp
        | cons a r => simp)⟩
      case round =>
        clear HEO HB
        obtain ⟨s, q, hq1, hq2, rfl, heo, hp, hb, HSO⟩ := hrel
        have HP := Lib.hid hp
        have hsl : s.length = L := by rw [hp.length_eq, HLL.out]
        have HEO := Lib.hid heo
        have HB := Lib.hid hb
        clear hp heo hb
        by_cases hlt : q < L
        · have t1 : decide ((q : Int) < (L : Int)) = true := decide_eq_true (by omega)
          have t2 : decide (q < L) = true := decide_eq_true hlt
          have HIN := Lib.hid (Ins.start (by omega) HSO.out)
          have HSL := Lib.hid hsl
          clear hsl
          go_wp2_with fail
          go_loopw [9] (fun kk wr => ∃ (s : List Str) (k : Nat), k ≤ q ∧ kk = .int .i64 (k : Int) ∧ EO ES 1 9 wr w.heap.size (.slice (some ⟨g5, 0, none⟩) L c5) s ∧ s.Perm out ∧ Below w.heap.size w wr ∧ Hid (Ins s q k)) (fun kk _ => (intOf kk).toNat)
          case atStart => exact ⟨s, q, Nat.le_refl _, rfl, HEO.out, HP.out, HB.out, HIN⟩
          case round =>
            clear HEO HP HB HIN HSL HSO
            obtain ⟨s, k, hk, rfl, heo, hp, hb, HIN⟩ := hrel
            have HEO := Lib.hid heo
            have HP := Lib.hid hp
            have HB := Lib.hid hb
            have HSL : Hid (s.length = L) := Lib.hid (by rw [hp.length_eq, HLL.out])
            clear hp heo hb
            cases k with
            | zero =>
              have HS0 := Lib.hid HIN.out.stop0
              have z0 : ((0 : Nat) : Int) = 0 := rfl
              rw [z0]
              go_wp2_with (go_quiet (fail))
              have hd := gr_drewN (gr_refl wr) nq
              have HB2 := Lib.hid (HB.out.trans (hd.mono HB.out.size))
              have HE2 := Lib.hid (HEO.out.below hd)
              clear hd
              go_roundw
              case rel => exact ⟨s, q + 1, by omega, by omega, by go_num, HE2.out, HP.out, HB2.out, HS0⟩
              case measure => simp [intOf]; omega
            | succ k =>
              obtain ⟨y, x, hy, hx, hstep, hstop⟩ := HIN.out.step
              have HST := Lib.hid hstep
              have HSP := Lib.hid hstop
              have y0 := HEO.out.cellS hy
              have y1 := HEO.out.cellS hx
              have HY := Lib.hid hy
              have HX := Lib.hid hx
              have t3 : decide (0 < (k : Int) + 1) = true := decide_eq_true (by omega)
              have hk1 : (((k + 1 : Nat) : Int) - 1) = (k : Int) := by omega
              have i0' : (0 : Int) ≤ (k : Int) := Int.natCast_nonneg _
              have i1' : (k : Int) < (L : Int) := by omega
              have i2' : ((k + 1 : Nat) : Int) < (L : Int) := by omega
              have i3' : (0 : Int) ≤ (k : Int) + 1 := by omega
              have i4' : (k : Int) + 1 < (L : Int) := by omega
              clear hstep hstop hy hx
              by_cases hlt3 : x < y
              · have t4 : Op.bytesLess x y = true := by rw [bytesLess_lt]; exact decide_eq_true hlt3
                have HLT3 := Lib.hid hlt3
                clear hlt3
                go_upto_region 17 with (go_quiet (fail))
                have hd := gr_drewN (gr_refl wr) nq
                have HB3 := Lib.hid (HB.out.trans (hd.mono HB.out.size))
                have HE3 := Lib.hid (HEO.out.below hd)
                clear hd y0 y1 t4
                generalize wr.drewN nq = w3 at *
                refine wp_region_lastL (by kernel_rfl) (by simp) (by kernel_rfl) (by kernel_rfl) ?_
                simp only [List.dropLast, List.length_cons, List.length_nil]
                have hd := bel_drew (w := w3) (gr_refl _)
                have HB4 := Lib.hid (HB3.out.trans (hd.mono HB3.out.size))
                have HE4 := Lib.hid (HE3.out.below hd)
                clear hd
                generalize World.drew w3 = w4 at *
                have y0 := HE4.out.cellS HY.out
                have y1 := HE4.out.cellS HX.out
                have f0 := own_frozen HE4.out (k + 1)
                have HE5 := Lib.hid (HE4.out.setS HSL.out (k + 1) y)
                have HC5 : Hid ((w4.setCell ⟨g5, k + 1, none⟩ (.string ⟨y.toArray⟩)).cell? ⟨g5, k, none⟩ = some (.string ⟨y.toArray⟩)) := Lib.hid (HE5.out.cellS (by rw [List.getElem?_set_ne (by omega)]; exact HY.out))
                have HB5 : Hid (Below w.heap.size w (w4.setCell ⟨g5, k + 1, none⟩ (.string ⟨y.toArray⟩))) := Lib.hid (HB4.out.trans (((Off.refl (· = g5) w4).setCell (g := g5) (j := k + 1) (.string ⟨y.toArray⟩) rfl).below (fun j hj => by rw [hj]; exact hg5) HB4.out.size))
                refine wpAny_of_held (S := fun W => W.cell? ⟨g5, k, none⟩ = some (.string ⟨y.toArray⟩)) _ _ _ _ ?_
                have hHeld : w4.cell? ⟨g5, k, none⟩ = some (.string ⟨y.toArray⟩) := y0
                refine wpAnyH_take (i := 0) (v := .slice (some ⟨g5, 0, none⟩) L c5) rfl (by kernel_rfl) (by kernel_rfl) (by kernel_rfl) (fun _ _ _ h => h) (Or.inl ⟨by rfl, ?_⟩) hHeld ?_
                · intro W hS
                  (try dsimp only at hS)
                  go_simp
                  all_goals (first | done | decide | rfl | (rw [IntKind.wrap_i64]; omega))
                try simp only [Act.put, List.getElem_toArray, List.getElem_cons_zero, List.setIfInBounds_toArray, List.set_cons_zero, List.set_cons_succ]
                refine wpAnyH_take (i := 1) (v := .int .i64 (((k + 1 : Nat)) : Int)) rfl (by kernel_rfl) (by kernel_rfl) (by kernel_rfl) (fun _ _ _ h => h) (Or.inl ⟨by rfl, ?_⟩) hHeld ?_
                · intro W hS
                  (try dsimp only at hS)
                  go_simp
                  all_goals (first | done | decide | rfl | (rw [IntKind.wrap_i64]; omega))
                try simp only [Act.put, List.getElem_toArray, List.getElem_cons_succ, List.getElem_cons_zero, List.setIfInBounds_toArray, List.set_cons_zero, List.set_cons_succ]
                refine wpAnyH_take (i := 2) (v := .slice (some ⟨g5, 0, none⟩) L c5) rfl (by kernel_rfl) (by kernel_rfl) (by kernel_rfl) (fun _ _ _ h => h) (Or.inl ⟨by rfl, ?_⟩) hHeld ?_
                · intro W hS
                  (try dsimp only at hS)
                  go_simp
                  all_goals (first | done | decide | rfl | (rw [IntKind.wrap_i64]; omega))
                try simp only [Act.put, List.getElem_toArray, List.getElem_cons_succ, List.getElem_cons_zero, List.setIfInBounds_toArray, List.set_cons_zero, List.set_cons_succ]
                refine wpAnyH_take (i := 3) (v := .int .i64 (((k + 1 : Nat)) : Int)) rfl (by kernel_rfl) (by kernel_rfl) (by kernel_rfl) (fun _ _ _ h => h) (Or.inl ⟨by rfl, ?_⟩) hHeld ?_
                · intro W hS
                  (try dsimp only at hS)
                  go_simp
                  all_goals (first | done | decide | rfl | (rw [IntKind.wrap_i64]; omega))
                try simp only [Act.put, List.getElem_toArray, List.getElem_cons_succ, List.getElem_cons_zero, List.setIfInBounds_toArray, List.set_cons_zero, List.set_cons_succ]
                refine wpAnyH_take (i := 4) (v := .int .i64 (k : Int)) rfl (by kernel_rfl) (by kernel_rfl) (by kernel_rfl) (fun _ _ _ h => h) (Or.inl ⟨by rfl, ?_⟩) hHeld ?_
                · intro W hS
                  (try dsimp only at hS)
                  go_simp
                  all_goals (first | done | decide | rfl | (rw [IntKind.wrap_i64]; omega))
                try simp only [Act.put, List.getElem_toArray, List.getElem_cons_succ, List.getElem_cons_zero, List.setIfInBounds_toArray, List.set_cons_zero, List.set_cons_succ]
                refine wpAnyH_take (i := 5) (v := .slice (some ⟨g5, 0, none⟩) L c5) rfl (by kernel_rfl) (by kernel_rfl) (by kernel_rfl) (fun _ _ _ h => h) (Or.inl ⟨by rfl, ?_⟩) hHeld ?_
                · intro W hS
                  (try dsimp only at hS)
                  go_simp
                  all_goals (first | done | decide | rfl | (rw [IntKind.wrap_i64]; omega))
                try simp only [Act.put, List.getElem_toArray, List.getElem_cons_succ, List.getElem_cons_zero, List.setIfInBounds_toArray, List.set_cons_zero, List.set_cons_succ]
                refine wpAnyH_take (i := 6) (v := .int .i64 (((k + 1 : Nat)) : Int)) rfl (by kernel_rfl) (by kernel_rfl) (by kernel_rfl) (fun _ _ _ h => h) (Or.inl ⟨by rfl, ?_⟩) hHeld ?_
                · intro W hS
                  (try dsimp only at hS)
                  go_simp
                  all_goals (first | done | decide | rfl | (rw [IntKind.wrap_i64]; omega))
                try simp only [Act.put, List.getElem_toArray, List.getElem_cons_succ, List.getElem_cons_zero, List.setIfInBounds_toArray, List.set_cons_zero, List.set_cons_succ]
                refine wpAnyH_take (i := 7) (v := .int .i64 (k : Int)) rfl (by kernel_rfl) (by kernel_rfl) (by kernel_rfl) (fun _ _ _ h => h) (Or.inl ⟨by rfl, ?_⟩) hHeld ?_
                · intro W hS
                  (try dsimp only at hS)
                  go_simp
                  all_goals (first | done | decide | rfl | (rw [IntKind.wrap_i64]; omega))
                try simp only [Act.put, List.getElem_toArray, List.getElem_cons_succ, List.getElem_cons_zero, List.setIfInBounds_toArray, List.set_cons_zero, List.set_cons_succ]
                refine wpAnyH_take (i := 8) (v := .pointer (some ⟨g5, k, none⟩)) rfl (by kernel_rfl) (by kernel_rfl) (by kernel_rfl) (fun _ _ _ h => h) (Or.inl ⟨by rfl, ?_⟩) hHeld ?_
                · intro W hS
                  (try dsimp only at hS)
                  go_simp
                  all_goals (first | done | decide | rfl | (rw [IntKind.wrap_i64]; omega))
                try simp only [Act.put, List.getElem_toArray, List.getElem_cons_succ, List.getElem_cons_zero, List.setIfInBounds_toArray, List.set_cons_zero, List.set_cons_succ]
                refine wpAnyH_take (i := 9) (v := .string ⟨y.toArray⟩) rfl (by kernel_rfl) (by kernel_rfl) (by kernel_rfl) (fun _ _ _ h => h) (Or.inl ⟨by rfl, ?_⟩) hHeld ?_
                · intro W hS
                  (try dsimp only at hS)
                  go_simp
                  all_goals (first | done | decide | rfl | (rw [IntKind.wrap_i64]; omega))
                try simp only [Act.put, List.getElem_toArray, List.getElem_cons_succ, List.getElem_cons_zero, List.setIfInBounds_toArray, List.set_cons_zero, List.set_cons_succ]
                refine wpAnyH_take (i := 10) (v := .slice (some ⟨g5, 0, none⟩) L c5) rfl (by kernel_rfl) (by kernel_rfl) (by kernel_rfl) (fun _ _ _ h => h) (Or.inl ⟨by rfl, ?_⟩) hHeld ?_
                · intro W hS
                  (try dsimp only at hS)
                  go_simp
                  all_goals (first | done | decide | rfl | (rw [IntKind.wrap_i64]; omega))
                try simp only [Act.put, List.getElem_toArray, List.getElem_cons_succ, List.getElem_cons_zero, List.setIfInBounds_toArray, List.set_cons_zero, List.set_cons_succ]
                refine wpAnyH_take (i := 11) (v := .int .i64 (((k + 1 : Nat)) : Int)) rfl (by kernel_rfl) (by kernel_rfl) (by kernel_rfl) (fun _ _ _ h => h) (Or.inl ⟨by rfl, ?_⟩) hHeld ?_
                · intro W hS
                  (try dsimp only at hS)
                  go_simp
                  all_goals (first | done | decide | rfl | (rw [IntKind.wrap_i64]; omega))
                try simp only [Act.put, List.getElem_toArray, List.getElem_cons_succ, List.getElem_cons_zero, List.setIfInBounds_toArray, List.set_cons_zero, List.set_cons_succ]
                refine wpAnyH_take (i := 12) (v := .pointer (some ⟨g5, k + 1, none⟩)) rfl (by kernel_rfl) (by kernel_rfl) (by kernel_rfl) (fun _ _ _ h => h) (Or.inl ⟨by rfl, ?_⟩) hHeld ?_
                · intro W hS
                  (try dsimp only at hS)
                  go_simp
                  all_goals (first | done | decide | rfl | (rw [IntKind.wrap_i64]; omega))
                try simp only [Act.put, List.getElem_toArray, List.getElem_cons_succ, List.getElem_cons_zero, List.setIfInBounds_toArray, List.set_cons_zero, List.set_cons_succ]
                refine wpAnyH_ready (rs := [13]) (by kernel_rfl) (by simp) ?_
                refine AllReadyH.cons rfl (fun KK hK => ?_) AllReadyH.nil
                try simp only [List.getElem_toArray, List.getElem_cons_succ, List.getElem_cons_zero]
                go_simp
                refine hK.out _ _ ?_ (fun hHeld2 => ?_)
                · exact hHeld
                clear hK KK hHeld
                have hHeld := hHeld2
                clear hHeld2
                try simp only [Act.put, List.setIfInBounds_toArray, List.set_cons_zero, List.set_cons_succ]
                refine wpAnyH_take (i := 14) (v := .pointer (some ⟨g5, k + 1, none⟩)) rfl (by kernel_rfl) (by kernel_rfl) (by kernel_rfl) (fun _ _ _ h => h) (Or.inl ⟨by rfl, ?_⟩) hHeld ?_
                · intro W hS
                  (try dsimp only at hS)
                  go_simp
                  all_goals (first | done | decide | rfl | (rw [IntKind.wrap_i64]; omega))
                try simp only [Act.put, List.getElem_toArray, List.getElem_cons_succ, List.getElem_cons_zero, List.setIfInBounds_toArray, List.set_cons_zero, List.set_cons_succ]
                refine wpAnyH_ready (rs := [15]) (by kernel_rfl) (by simp) ?_
                refine AllReadyH.cons rfl (fun KK hK => ?_) AllReadyH.nil
                try simp only [List.getElem_toArray, List.getElem_cons_succ, List.getElem_cons_zero]
                go_simp
                generalize w4.setCell ⟨g5, k + 1, none⟩ (.string ⟨y.toArray⟩) = w5 at *
                refine hK.out _ _ ?_ (fun hHeld2 => ?_)
                · exact HC5.out
                clear hK KK hHeld
                have hHeld := hHeld2
                clear hHeld2
                try simp only [Act.put, List.setIfInBounds_toArray, List.set_cons_zero, List.set_cons_succ]
                refine wpAnyH_take (i := 16) (v := .pointer (some ⟨g5, k, none⟩)) rfl (by kernel_rfl) (by kernel_rfl) (by kernel_rfl) (fun _ _ _ h => h) (Or.inl ⟨by rfl, ?_⟩) hHeld ?_
                · intro W hS
                  (try dsimp only at hS)
                  go_simp
                  all_goals (first | done | decide | rfl | (rw [IntKind.wrap_i64]; omega))
                try simp only [Act.put, List.getElem_toArray, List.getElem_cons_succ, List.getElem_cons_zero, List.setIfInBounds_toArray, List.set_cons_zero, List.set_cons_succ]
                refine wpAnyH_done (by kernel_rfl) ?_ _
                clear hHeld
                have y2 := HC5.out
                have f2 := own_frozen HE5.out k
                have HE6 := Lib.hid (HE5.out.setS (by rw [List.length_set]; exact HSL.out) k x)
                have HB6 : Hid (Below w.heap.size w (w5.setCell ⟨g5, k, none⟩ (.string ⟨x.toArray⟩))) := Lib.hid (HB5.out.trans (((Off.refl (· = g5) w5).setCell (g := g5) (j := k) (.string ⟨x.toArray⟩) rfl).below (fun j hj => by rw [hj]; exact hg5) HB5.out.size))
                clear y0 y1 f0 HC5 HE5 HB5 HE4 HB4
                refine lastQ_step (o := _) rfl (fun KK hK => ?_)
                try simp only [List.getElem_toArray, List.getElem_cons_succ, List.getElem_cons_zero]
                go_simp
                generalize w5.setCell ⟨g5, k, none⟩ (.string ⟨x.toArray⟩) = w6 at *
                refine hK _ _ ?_
                clear hK KK y2 f2
                have HPI := Lib.hid (HST.out HLT3.out)
                go_wp2_with fail
                go_roundw
                case rel => exact ⟨(s.set (k + 1) y).set k x, k, by omega, by go_num, HE6.out, HPI.out.2.trans HP.out, HB6.out, Lib.hid HPI.out.1⟩
                case measure => simp [intOf]
              · have t4 : Op.bytesLess x y = false := by rw [bytesLess_lt]; exact decide_eq_false hlt3
                have HS0 := Lib.hid (HSP.out hlt3)
                clear hlt3
                go_wp2_with (go_quiet (fail))
                have hd := gr_drewN (gr_refl wr) nq
                have HB2 := Lib.hid (HB.out.trans (hd.mono HB.out.size))
                have HE2 := Lib.hid (HEO.out.below hd)
                clear hd
                go_roundw
                case rel => exact ⟨s, q + 1, by omega, by omega, by go_num, HE2.out, HP.out, HB2.out, HS0⟩
                case measure => simp [intOf]; omega
        · obtain rfl : q = L := by omega
          have t1 : decide ((q : Int) < (q : Int)) = false := decide_eq_false (by omega)
          have t2 : decide (q < q) = false := decide_eq_false (by omega)
          have HF : Hid (Clos l role s) := Lib.hid (HCI.out.closS HCL.out HP.out (by have := HSO.out; rwa [List.take_of_length_le (by omega)] at this))
          have HSL := Lib.hid hsl
          clear hsl
          go_wp2_with fail
          go_ret
          exact ⟨_, s, rfl, HF.out, HEO.out, by rw [HSL.out]; exact hlen, HB.out⟩

end Go.Proofs.Ytfgkadkmgciamaa
