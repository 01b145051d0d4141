/-
  roles.Closure.
-/
import Derived.Test.YtfgkadkmgciamaaRoG
import Derived.Test.YtfgkadkmgciamaaRgm
namespace Go.Proofs.Ytfgkadkmgciamaa
open Go Go.RowKit Go.Maps Go.WideMaps

theorem cell_of_block {w w' : World} {g o : Nat} (h : w'.heap[g]? = w.heap[g]?) : w'.cell? ⟨g, o, none⟩ = w.cell? ⟨g, o, none⟩ := by
  unfold World.cell?
  simp only [h]
theorem OR.cutA {w : World} {base : Nat} {e : TypeId} {g o n c k : Nat} {xs : List Value} (h : OR w base e (.slice (some ⟨g, o, none⟩) n c) n xs) (hk : k ≤ n) : OR w base e (.slice (Go.Proofs.Ytfgkadkmgciamaa.cutA (some ⟨g, o, none⟩) c k 1) (n - k) (c - k)) (n - k) (xs.drop k) := by
  by_cases hc : c = k
  · rcases h.2 with ⟨e1, _⟩ | ⟨g', off, cap, cur, e1, h2, h3, h4, h5, h6, h7⟩
    · cases e1
    · cases e1
      unfold Go.Proofs.Ytfgkadkmgciamaa.cutA
      rw [if_pos hc]
      have hn : n - k = 0 := by omega
      refine ⟨by rw [List.length_drop, h.1], .inr ⟨g, o, c - k, cur, rfl, h2, h3, by omega, by omega, by omega, ?_⟩⟩
      rw [hn, List.take_zero]
      exact (List.drop_eq_nil_of_le (by rw [h.1]; omega)).symm
  · have e : Go.Proofs.Ytfgkadkmgciamaa.cutA (some ⟨g, o, none⟩) c k 1 = some ⟨g, o + k, none⟩ := by
      unfold Go.Proofs.Ytfgkadkmgciamaa.cutA
      rw [if_neg hc, Nat.mul_one]
      simp [Addr.add_lit]
    rw [e]
    exact h.cut hk
/-- Strings that the form reads. -/
def Fit (l : List Mb) : Prop := ∀ m ∈ l, m.1.length ≤ maxLen ∧ m.2.length ≤ maxLen
theorem CI.fit {l : List Mb} {role : Str} {order : List Str} {p : Nat} (h : CI l role order p) (hf : Fit l) (hr : role.length ≤ maxLen) : ∀ x ∈ order, x.length ≤ maxLen := fun x hx => by
  rcases h.sub x hx with rfl | ⟨m, hm, rfl⟩
  · exact hr
  · exact (hf m hm).2

/-- What stands in memory ahead of a round. -/
def CW (l : List Mb) (role : Str) (base b : Nat) (w wr : World) (v : Value) (order : List Str) (p : Nat) : Prop :=
  CI l role order p ∧ MS wr b order ∧ OR wr base 9 v (order.length - p) ((order.drop p).map encStr) ∧ Below w.heap.size w wr ∧ (∀ k, v.ownBlock = some k → k ≠ b) ∧ base = w.heap.size ∧ w.heap.size ≤ b

theorem own_new1 (w : World) (T : TypeId) (x : Value) (base : Nat) (h : base ≤ w.heap.size) : (w.alloc (.cells #[x] T)).ownsRow base T 1 (.slice (some ⟨w.heap.size, 0, none⟩) 1 1) 1 [x] :=
  ⟨rfl, .inr ⟨w.heap.size, 1, #[x], rfl, h, heap_alloc_new w _, Nat.le_refl _, by simp [maxLen], rfl, rfl⟩⟩

set_option maxRecDepth 100000 in
set_option maxHeartbeats 4000000 in
theorem Closure_any (A : Option Addr) (n c : Nat) (l : List Mb) (role : Str) (w : World) (h : ER EM 2 w A n l) (hn : n ≤ 4398046511103) (hf : Fit l) (hr : role.length ≤ maxLen) :
    Calls Try.prog 29 #[.slice A n c, .string ⟨role.toArray⟩] w fun e w' => ∃ (v : Value) (ss : List Str), e = .returned v ∧ Clos l role ss ∧ EO ES 1 9 w' w.heap.size v ss ∧ ss.length ≤ n + 1 ∧ Below w.heap.size w w' := by
  obtain ⟨i0, z, hi0, hz0, hzs, hz1, hz2⟩ := info_Str'
  have HS := Lib.hid h
  have HL := Lib.hid h.1
  have HF := Lib.hid hf
  have HR := Lib.hid hr
  have hmm := @run_makeMap Try.prog
  have M0 := MS.made w
  obtain ⟨w1, hput, M1, hg1⟩ := M0.put role hr rfl (by simp [maxLen]) 0 (by decide)
  have hb1 : Below w.heap.size w w1 := (gr_alloc (gr_refl w) _).grown hg1 (gr_alloc (gr_refl w) _).size (fun j hj => by cases hj; exact Nat.le_refl _)
  have HM1 := Lib.hid M1
  have HB1 := Lib.hid hb1
  have hcut := fun (W : World) (A : Option Addr) (n c : Nat) (h : 1 ≤ n) => run_cut_l (P := Try.prog) W 40 9 i0 Try.underlying40 hi0 1 hz1 A n c 1 1 rfl h
  have HCUT := Lib.hid hcut
  clear h hf hr M0 M1 hg1 hb1 hcut
  go_enter Try.func29, Try.ntmps29
  go_wp2_with fail
  have HCW0 : Hid (CW l role w.heap.size w.heap.size w (w1.alloc (.cells #[.string ⟨role.toArray⟩] 9)) (.slice (some ⟨w1.heap.size, 0, none⟩) 1 1) [role] 0) := Lib.hid (by
    have hs := HM1.out.lt
    exact ⟨CI.start l role, HM1.out.below (gr_alloc (gr_refl _) _), OR.of_own (own_new1 w1 _ _ _ HB1.out.size), gr_alloc HB1.out _, fun k hk => by simp [Value.ownBlock] at hk; omega, rfl, Nat.le_refl _⟩)
  generalize w1.alloc (.cells #[.string ⟨role.toArray⟩] 9) = w2 at *
  generalize Value.slice (some ⟨w1.heap.size, 0, none⟩) 1 1 = v2 at *
  clear HM1 HB1 hput
  go_loopg [6, 8, 9, 10] (l.length + 2) (fun k v _ _ _ wr => ∃ order p, k + p = l.length + 2 ∧ CW l role w.heap.size w.heap.size w wr v order p)
  case atStart => exact ⟨[role], 0, rfl, HCW0.out⟩
  case round =>
    clear HCW0
    obtain ⟨order, p, hkp, hcw⟩ := hrel
    have HC := Lib.hid hcw
    have hle := hcw.1.le
    have hlen := hcw.1.len
    obtain ⟨A6, c6, rfl, hc6, hm6⟩ := hcw.2.2.1.form
    clear hcw
    by_cases hlt : p < order.length
    · have t1 : decide (0 < ((order.length - p : Nat) : Int)) = true := decide_eq_true (by omega)
      have t2 : decide (0 < order.length - p) = true := decide_eq_true (by omega)
      obtain ⟨x, hx⟩ : ∃ x, order[p]? = some x := ⟨_, List.getElem?_eq_getElem hlt⟩
      have HX := Lib.hid hx
      clear hx
      go_wp2_with fail
      have HC0 : Hid (CW l role w.heap.size w.heap.size w wr (.slice A6 (order.length - p) c6) order p) := HC
      go_loopw [6, 8, 9, 10, 23] (fun v _ _ _ i wr => ∃ (order : List Str) (j : Nat), j ≤ n ∧ i = .int .i64 (j : Int) ∧ CW l role w.heap.size w.heap.size w wr v order p ∧ order[p]? = some x ∧ Hid (∀ m ∈ l.take j, m.1 = x → m.2 ∈ order)) (fun _ _ _ _ i _ => n - (intOf i).toNat)
      case atStart => exact ⟨order, 0, Nat.zero_le _, rfl, HC0.out, HX.out, Lib.hid (fun m hm => by simp at hm)⟩
      case round =>
        clear HC0 HC HX hle hlen hlt t1 t2 hc6 hm6
        obtain ⟨order, j, hj, rfl, ⟨hci, hms, hor, hbw, hne, _, _⟩, hx, HALL⟩ := hrel
        have HCI := Lib.hid hci
        have hle := hci.le
        have hlen := hci.len
        rw [HL.out] at hlen
        have hpo : p < order.length := (List.getElem?_eq_some_iff.1 hx).1
        obtain ⟨g6, o6, c6, u, rfl, hu, hcell⟩ := hor.at_ (k := 0) (by omega)
        obtain rfl : u = encStr x := by
          rw [List.getElem?_map, List.getElem?_drop, Nat.add_zero, hx] at hu
          injection hu with hu
          exact hu.symm
        have hcell : wr.cell? ⟨g6, o6, none⟩ = some (.string ⟨x.toArray⟩) := hcell
        have HX := Lib.hid hx
        have HNE : Hid (g6 ≠ w.heap.size) := Lib.hid (hne g6 rfl)
        by_cases hlt : j < n
        · have t1 : decide ((j : Int) < (n : Int)) = true := decide_eq_true (by omega)
          have t2 : decide (j < n) = true := decide_eq_true hlt
          have t3 : decide (0 < ((order.length - p : Nat) : Int)) = true := decide_eq_true (by omega)
          have t4 : decide (0 < order.length - p) = true := decide_eq_true (by omega)
          have i0' : (0 : Int) ≤ (j : Int) := Int.natCast_nonneg _
          have i1' : (j : Int) < (n : Int) := by omega
          obtain ⟨g, o, m, rfl, hm, q0, q1⟩ := (HS.out.below hbw).atMb hlt
          have HM := Lib.hid hm
          have hba := gr_alloc (gr_refl wr) (.cells #[.string ⟨m.1.toArray⟩, .string ⟨m.2.toArray⟩] 52)
          have hca : (wr.alloc (.cells #[.string ⟨m.1.toArray⟩, .string ⟨m.2.toArray⟩] 52)).heap[wr.heap.size]? = some (.cells #[.string ⟨m.1.toArray⟩, .string ⟨m.2.toArray⟩] 52 (0, 0)) := heap_alloc_new wr _
          have HMS := Lib.hid (hms.below hba)
          have HOR := Lib.hid (hor.below hba)
          have HBW := Lib.hid (gr_trans hbw hba)
          have HLT : Hid (w.heap.size < wr.heap.size) := Lib.hid hms.lt
          have hy6 := keep_of_below hba hcell
          clear hm hms hor hbw hba hcell hci hx hu hne
          go_upto_region 8 with fail
          generalize wr.alloc (.cells #[.string ⟨m.1.toArray⟩, .string ⟨m.2.toArray⟩] 52) = w3 at *
          have c0 : w3.cell? ⟨wr.heap.size, 0, none⟩ = some (.string ⟨m.1.toArray⟩) := by rw [cell_of_row w3 _ 0 _ _ _ hca]; rfl
          have c1 : w3.cell? ⟨wr.heap.size, 1, none⟩ = some (.string ⟨m.2.toArray⟩) := by rw [cell_of_row w3 _ 1 _ _ _ hca]; rfl
          have hneq := fun W => run_neqS 9 m.1 x W
          clear hca q0 q1
          by_cases e : m.1 = x
          · have te : (m.1 == x) = true := beq_iff_eq.2 e
            have HE := Lib.hid e
            clear e
            go_upto_region 9 with (go_quiet (fail))
            have hdr := gr_drewN (gr_refl w3) nq
            have c1 := keep_of_below hdr c1
            have HMS4 := Lib.hid (HMS.out.below hdr)
            have HOR4 := Lib.hid (HOR.out.below hdr)
            have HBW4 := Lib.hid (HBW.out.trans (hdr.mono HBW.out.size))
            clear hdr c0 hy6 HMS HOR HBW hneq te
            generalize w3.drewN nq = w4 at *
            have hml : m.2.length ≤ maxLen := (HF.out m (List.mem_of_getElem? HM.out)).2
            obtain ⟨cv, hlk⟩ := HMS4.out.look m.2 hml
            obtain ⟨r, hr⟩ : ∃ r, r = order.contains m.2 := ⟨_, rfl⟩
            rw [← hr] at hlk
            have HRR := Lib.hid hr
            have HML := Lib.hid hml
            clear hr hml
            cases r
            · go_upto_region 11 with fail
              clear hlk
              have hlenq := fun ty => HMS4.out.len ty
              have hol : (Lit.int .i64 (order.length : Int)).wf = true := WalkArith.wf_i64 ⟨by omega, by omega⟩
              obtain ⟨w5, hput, hms5, hg5⟩ := HMS4.out.put m.2 HML.out HRR.out.symm (by simp only [maxLen]; omega) (order.length : Int) hol
              have c5 : w5.cell? ⟨wr.heap.size, 1, none⟩ = some (.string ⟨m.2.toArray⟩) := by
                rw [← c1]
                exact cell_of_block (hg5.block _ (World.block_lt_of_cell? _ _ c1) (fun e => by have e2 := Option.some.inj e; have e3 := HLT.out; omega))
              have HOR5 := Lib.hid (HOR4.out.off (S := (· = w.heap.size)) (Off.of_grown hg5 (fun k hk => by cases hk; rfl)) (fun k hk he => by simp [Value.ownBlock] at hk; exact HNE.out (hk.trans he)))
              have HBW5 := Lib.hid (HBW4.out.grown hg5 HBW4.out.size (fun j hj => by cases hj; exact Nat.le_refl _))
              have HMS5 := Lib.hid hms5
              have C5 := Lib.hid c5
              clear hms5 hg5 hol HOR4 HMS4 c5
              go_upto_region 12 with fail
              clear hput hlenq c1
              have c5 := C5.out
              have hmx : order.length - p + 1 ≤ maxLen := by simp only [maxLen]; omega
              go_wp2_with (at_builtin; refine wpList_append_OR _ rfl (.tmp 47) (.tmp 50) _ rfl w.heap.size 9 i0 _ 16 Try.underlying40 hi0 hz0 hz1 hz2 hzs (.slice (some ⟨g6, o6, none⟩) (order.length - p) c6) (order.length - p) _ rfl (HOR5.out.alloc _) ⟨w5.heap.size, 0, none⟩ 1 1 [.string ⟨m.2.toArray⟩] rfl rfl (World.news_of_block (heap_alloc_new w5 _)) (by simp [Value.oneCell']) (by omega) hmx (by omega) (gr_alloc HBW5.out _).size ?_; intro v6 w6 ho6 hg6 hv6)
              have HFIN : Hid (CW l role w.heap.size w.heap.size w w6 v6 (order ++ [m.2]) p) := Lib.hid (by
                have hb5 := gr_alloc (gr_refl w5) (.cells #[.string ⟨m.2.toArray⟩] 9)
                have hm5 := HMS5.out.below hb5
                refine ⟨HCI.out.push (by rw [HX.out, HE.out]) (List.mem_of_getElem? HM.out) (fun hc => by have := HRR.out; rw [List.contains_iff_mem.2 hc] at this; cases this), hm5.keep (hg6.block _ hm5.lt (fun e => HNE.out (Option.some.inj e).symm)), ?_, (gr_alloc HBW5.out _).grown hg6 (gr_alloc HBW5.out _).size (fun k hk => by cases hk; exact (HOR5.out.lt g6 rfl).1), fun k hk => ?_, rfl, Nat.le_refl _⟩
                · have e1 : (order ++ [m.2]).length - p = order.length - p + 1 := by rw [List.length_append]; simp; omega
                  rw [e1, List.drop_append_of_le_length hle, List.map_append]
                  exact ho6
                · rcases hv6 with h6 | h6
                  · rw [h6] at hk
                    simp [Value.ownBlock] at hk
                    exact hk ▸ HNE.out
                  · rw [h6] at hk
                    have e2 := Option.some.inj hk
                    have e3 := HMS5.out.lt
                    simp at e2
                    omega)
              clear ho6 hg6 hv6 c5 HMS5 HOR5 HBW5
              go_roundw
              case rel => exact ⟨order ++ [m.2], j + 1, by omega, by go_num, HFIN.out, by rw [List.getElem?_append_left hpo]; exact HX.out, Lib.hid (fun m' hm' he => by
                rw [take_snoc HM.out] at hm'
                rcases List.mem_append.1 hm' with hm' | hm'
                · exact List.mem_append.2 (.inl (HALL.out m' hm' he))
                · rw [List.mem_singleton.1 hm']
                  exact List.mem_append.2 (.inr (List.mem_singleton.2 rfl)))⟩
              case measure => simp [intOf]; omega
            · go_wp2_with fail
              go_roundw
              case rel => exact ⟨order, j + 1, by omega, by go_num, ⟨HCI.out, HMS4.out, HOR4.out, HBW4.out, fun k hk => by simp [Value.ownBlock] at hk; exact hk ▸ HNE.out, rfl, Nat.le_refl _⟩, HX.out, Lib.hid (fun m' hm' he => by
                rw [take_snoc HM.out] at hm'
                rcases List.mem_append.1 hm' with hm' | hm'
                · exact HALL.out m' hm' he
                · rw [List.mem_singleton.1 hm']
                  exact List.contains_iff_mem.1 HRR.out.symm)⟩
              case measure => simp [intOf]; omega
          · have te : (m.1 == x) = false := beq_eq_false_iff_ne.2 e
            have HE := Lib.hid e
            clear e
            go_wp2_with (go_quiet (fail))
            have HB2 := Lib.hid (HBW.out.trans (gr_drewN (gr_refl w3) nq |>.mono HBW.out.size))
            go_roundw
            case rel => exact ⟨order, j + 1, by omega, by go_num, ⟨HCI.out, HMS.out.below (gr_drewN (gr_refl w3) nq), HOR.out.below (gr_drewN (gr_refl w3) nq), HB2.out, fun k hk => by simp [Value.ownBlock] at hk; exact hk ▸ HNE.out, rfl, Nat.le_refl _⟩, HX.out, Lib.hid (fun m' hm' he => by
              rw [take_snoc HM.out] at hm'
              rcases List.mem_append.1 hm' with hm' | hm'
              · exact HALL.out m' hm' he
              · rw [List.mem_singleton.1 hm'] at he
                exact absurd he HE.out)⟩
            case measure => simp [intOf]; omega
        · obtain rfl : j = n := by omega
          have t1 : decide ((j : Int) < (j : Int)) = false := decide_eq_false (by omega)
          have hcu := fun W => HCUT.out W (some ⟨g6, o6, none⟩) (order.length - p) c6 (by omega)
          have HFIN : Hid (CW l role w.heap.size w.heap.size w wr (.slice (cutA (some ⟨g6, o6, none⟩) c6 1 1) (order.length - p - 1) (c6 - 1)) order (p + 1)) := Lib.hid (by
            refine ⟨HCI.out.next HX.out (fun m hm he => HALL.out m (by rw [List.take_of_length_le (by rw [HL.out]; omega)]; exact hm) he), hms, ?_, hbw, fun k hk => ?_, rfl, Nat.le_refl _⟩
            · have := hor.cutA (k := 1) (by omega)
              rw [← List.map_drop, List.drop_drop] at this
              exact this
            · have : k = g6 := by
                unfold cutA at hk
                split at hk <;> simp [Value.ownBlock, Addr.add_lit] at hk <;> exact hk.symm
              rw [this]
              exact HNE.out)
          clear hci hms hor hbw hne hx hu hcell
          go_wp2_with fail
          generalize cutA (some ⟨g6, o6, none⟩) c6 1 1 = A7 at *
          have hl2 := HCI.out.len
          go_roundg (gk - 1)
          case measure => omega
          case rel => exact ⟨order, p + 1, by omega, HFIN.out⟩
    · obtain rfl : p = order.length := by omega
      have t1 : decide (0 < ((order.length - order.length : Nat) : Int)) = false := decide_eq_false (by omega)
      have t2 : decide (0 < order.length - order.length) = false := decide_eq_false (by omega)
      have hle2 := hlen
      rw [HL.out] at hle2
      go_wp2_with fail
      refine (Keys_any _ _).mono ?_
      rintro e w7 ⟨rfl, rfl⟩
      go_wp2_with fail
      refine (SortedKeys_any w.heap.size order wr HC.out.2.1 (by omega)).mono ?_
      rintro e w8 ⟨v, ss, rfl, hp, ho, hb⟩
      have hbw := HC.out.2.2.2.1
      have HF2 : Hid (Clos l role (ss.mergeSort fun x y => decide (x ≤ y)) ∧ EO ES 1 9 w8 w.heap.size v (ss.mergeSort fun x y => decide (x ≤ y)) ∧ (ss.mergeSort fun x y => decide (x ≤ y)).length ≤ n + 1 ∧ Below w.heap.size w w8) := Lib.hid ⟨HC.out.1.clos hp, ho.lower hbw.size, by rw [List.length_mergeSort, hp.length_eq]; exact hle2, hbw.trans (hb.mono hbw.size)⟩
      clear hp ho hb hbw HC
      generalize ss.mergeSort (fun x y => decide (x ≤ y)) = s2 at *
      go_wp2_with fail
      go_ret
      exact ⟨v, s2, rfl, HF2.out⟩

end Go.Proofs.Ytfgkadkmgciamaa
