/-
  roles.givers.
-/
import Derived.Test.YtfgkadkmgciamaaRoN
namespace Go.Proofs.Ytfgkadkmgciamaa
open Go Go.RowKit Go.Maps Go.WideMaps

/-- Grants whose strings the form reads. -/
def FitG (l : List Gr) : Prop := ∀ g ∈ l, g.gt.length ≤ maxLen ∧ g.gb.length ≤ maxLen
/-- Some who hold. -/
structure GI (l : List Gr) (ow tb : Str) (pv : Int) (ks : List Str) : Prop where
  h0 : ow ∈ ks
  rc : ∀ x ∈ ks, Held l ow tb pv x
  sub : ∀ x ∈ ks, x = ow ∨ ∃ g ∈ l, g.gt = x
theorem GI.start (l : List Gr) (ow tb : Str) (pv : Int) : GI l ow tb pv [ow] :=
  ⟨by simp, fun x hx => by rw [List.mem_singleton.1 hx]; exact .own, fun x hx => .inl (List.mem_singleton.1 hx)⟩
theorem GI.len {l : List Gr} {ow tb : Str} {pv : Int} {ks : List Str} (h : GI l ow tb pv ks) (hn : ks.Nodup) : ks.length ≤ l.length + 1 := by
  have := nodup_le ks (ow :: l.map (·.gt)) hn fun x hx => by
    rcases h.sub x hx with rfl | ⟨g, hg, rfl⟩
    · exact List.mem_cons_self ..
    · exact List.mem_cons_of_mem _ (List.mem_map.2 ⟨g, hg, rfl⟩)
  simpa using this
theorem GI.more {l : List Gr} {ow tb : Str} {pv : Int} {ks : List Str} (h : GI l ow tb pv ks) {g : Gr} (hg : g ∈ l) (h1 : g.tb = tb) (h2 : g.pv = pv) (h3 : g.op = true) (h4 : g.gb ∈ ks) : GI l ow tb pv (ks ++ [g.gt]) := by
  refine ⟨List.mem_append.2 (.inl h.h0), fun x hx => ?_, fun x hx => ?_⟩
  · rcases List.mem_append.1 hx with hx | hx
    · exact h.rc x hx
    · rw [List.mem_singleton.1 hx]
      exact .step (h.rc _ h4) hg h1 h2 h3
  · rcases List.mem_append.1 hx with hx | hx
    · exact h.sub x hx
    · rw [List.mem_singleton.1 hx]
      exact .inr ⟨g, hg, rfl⟩
/-- What is met of the first j is closed. -/
def ClG (l : List Gr) (tb : Str) (pv : Int) (ks : List Str) : Prop := ∀ g ∈ l, g.tb = tb → g.pv = pv → g.op = true → g.gb ∈ ks → g.gt ∈ ks
theorem GI.all {l : List Gr} {ow tb : Str} {pv : Int} {ks : List Str} (h : GI l ow tb pv ks) (hc : ClG l tb pv ks) (x : Str) : x ∈ ks ↔ Held l ow tb pv x :=
  ⟨h.rc x, fun hh => hh.sub (S := fun y => y ∈ ks) h.h0 hc⟩
theorem ClG.snoc {l : List Gr} {tb : Str} {pv : Int} {ks : List Str} {j : Nat} {x : Gr} (h : ClG (l.take j) tb pv ks) (hx : l[j]? = some x) (hn : x.tb = tb → x.pv = pv → x.op = true → x.gb ∈ ks → x.gt ∈ ks) : ClG (l.take (j + 1)) tb pv ks := by
  intro g hg
  rw [take_snoc hx] at hg
  rcases List.mem_append.1 hg with hg | hg
  · exact h g hg
  · rw [List.mem_singleton.1 hg]
    exact hn

set_option maxRecDepth 100000 in
set_option maxHeartbeats 4000000 in
theorem givers_any (A : Option Addr) (n c : Nat) (l : List Gr) (ow tb : Str) (pv : Int) (w : World) (h : ER EG 5 w A n l) (hn : n ≤ 2199023255552) (hf : FitG l) (hr : ow.length ≤ maxLen) :
    Calls Try.prog 34 #[.slice A n c, .string ⟨ow.toArray⟩, .string ⟨tb.toArray⟩, .int .u8 pv] w fun e w' => ∃ (b : Nat) (ks : List Str), e = .returned (.map (some b)) ∧ MS w' b ks ∧ w.heap.size ≤ b ∧ (∀ x, x ∈ ks ↔ Held l ow tb pv x) ∧ Below w.heap.size w w' := by
  have HS := Lib.hid h
  have HL := Lib.hid h.1
  have HF := Lib.hid hf
  have hmm := @run_makeMap Try.prog
  have M0 := MS.made w
  obtain ⟨w1, hput, M1, hg1⟩ := M0.put ow hr rfl (by simp [maxLen]) 0 (by decide)
  have hb1 : Below w.heap.size w w1 := (gr_alloc (gr_refl w) _).grown hg1 (gr_alloc (gr_refl w) _).size (fun j hj => by cases hj; exact Nat.le_refl _)
  have HM1 := Lib.hid M1
  have HB1 := Lib.hid hb1
  clear h hf hr M0 M1 hg1 hb1
  go_enter Try.func34, Try.ntmps34
  go_wp2_with fail
  clear hput
  go_loopg [10, 12, 13, 14, 15, 16] (l.length + 3) (fun k g _ _ _ _ _ wr => ∃ ks, GI l ow tb pv ks ∧ MS wr w.heap.size ks ∧ Below w.heap.size w wr ∧ ((g = .bool true ∧ k + ks.length = l.length + 4) ∨ (g = .bool false ∧ Hid (ClG l tb pv ks))))
  case atStart => exact ⟨[ow], GI.start l ow tb pv, HM1.out, HB1.out, .inl ⟨rfl, rfl⟩⟩
  case round =>
    clear HM1 HB1
    obtain ⟨ks, hgi, hms, hb, hg⟩ := hrel
    have HGI := Lib.hid hgi
    have HMS := Lib.hid hms
    have HB := Lib.hid hb
    have hlen := hgi.len (by obtain ⟨_, _, _, _, h4, _⟩ := hms; exact h4)
    clear hgi hms hb
    rcases hg with ⟨rfl, hk⟩ | ⟨rfl, HCL⟩
    · go_wp2_with fail
      go_loopw [10, 12, 13, 14, 15, 16, 23] (fun gr _ _ _ _ _ i wr => ∃ (k2 : List Str) (j : Nat), j ≤ n ∧ i = .int .i64 (j : Int) ∧ GI l ow tb pv k2 ∧ MS wr w.heap.size k2 ∧ Below w.heap.size w wr ∧ ((gr = .bool false ∧ Hid (k2.length = ks.length) ∧ Hid (ClG (l.take j) tb pv k2)) ∨ (gr = .bool true ∧ ks.length < k2.length))) (fun _ _ _ _ _ _ i _ => n - (intOf i).toNat)
      case atStart => exact ⟨ks, 0, Nat.zero_le _, rfl, HGI.out, HMS.out, HB.out, .inl ⟨rfl, Lib.hid rfl, Lib.hid (fun g hg => by simp at hg)⟩⟩
      case round =>
        obtain ⟨k2, j, hj, rfl, hgi, hms, hb, hgr⟩ := hrel
        clear HGI HMS HB
        have HGI := Lib.hid hgi
        have hl2 := hgi.len (by obtain ⟨_, _, _, _, h4, _⟩ := hms; exact h4)
        have HB := Lib.hid hb
        by_cases hlt : j < n
        · have t1 : decide ((j : Int) < (n : Int)) = true := decide_eq_true (by omega)
          have t2 : decide (j < n) = true := decide_eq_true hlt
          have i0' : (0 : Int) ≤ (j : Int) := Int.natCast_nonneg _
          have i1' : (j : Int) < (n : Int) := by omega
          obtain ⟨g, o, x, rfl, hx, q0, q1, q2, q3, q4⟩ := (HS.out.below hb).atGr hlt
          have HX := Lib.hid hx
          have HXM := Lib.hid (List.mem_of_getElem? hx)
          have hba := gr_alloc (gr_refl wr) (.cells #[.string ⟨x.tb.toArray⟩, .int .u8 x.pv, .string ⟨x.gt.toArray⟩, .string ⟨x.gb.toArray⟩, .bool x.op] 30)
          have hca : (wr.alloc (.cells #[.string ⟨x.tb.toArray⟩, .int .u8 x.pv, .string ⟨x.gt.toArray⟩, .string ⟨x.gb.toArray⟩, .bool x.op] 30)).heap[wr.heap.size]? = some (.cells #[.string ⟨x.tb.toArray⟩, .int .u8 x.pv, .string ⟨x.gt.toArray⟩, .string ⟨x.gb.toArray⟩, .bool x.op] 30 (0, 0)) := heap_alloc_new wr _
          have HMS3 := Lib.hid (hms.below hba)
          have HB3 := Lib.hid (gr_trans hb hba)
          have HLT : Hid (w.heap.size < wr.heap.size) := Lib.hid hms.lt
          rw [HL.out] at hl2
          clear hx hgi hms hb hba
          go_upto_region 8 with fail
          generalize wr.alloc (.cells #[.string ⟨x.tb.toArray⟩, .int .u8 x.pv, .string ⟨x.gt.toArray⟩, .string ⟨x.gb.toArray⟩, .bool x.op] 30) = w3 at *
          clear q0 q1 q2 q3 q4
          have HCA := Lib.hid hca
          obtain ⟨c0, c1, c2, c3, c4⟩ := cells5 hca
          clear hca
          obtain ⟨r0, hr0⟩ : ∃ r, r = (x.tb == tb) := ⟨_, rfl⟩
          obtain ⟨r1, hr1⟩ : ∃ r, r = (x.pv == pv) := ⟨_, rfl⟩
          obtain ⟨r2, hr2⟩ : ∃ r, r = x.op := ⟨_, rfl⟩
          rw [← hr2] at c4
          have t4 : (x.tb == tb) = r0 := hr0.symm
          have t5 : (x.pv == pv) = r1 := hr1.symm
          have HR0 := Lib.hid hr0
          have HR1 := Lib.hid hr1
          have HR2 := Lib.hid hr2
          clear hr0 hr1 hr2
          have HSKIP : Hid ((¬ (x.tb = tb ∧ x.pv = pv ∧ x.op = true ∧ x.gb ∈ k2 ∧ x.gt ∉ k2)) → ∀ gr : Value, ((gr = .bool false ∧ Hid (k2.length = ks.length) ∧ Hid (ClG (l.take j) tb pv k2)) ∨ (gr = .bool true ∧ ks.length < k2.length)) → ((gr = .bool false ∧ Hid (k2.length = ks.length) ∧ Hid (ClG (l.take (j + 1)) tb pv k2)) ∨ (gr = .bool true ∧ ks.length < k2.length))) := Lib.hid (fun hno gr hh => by
            rcases hh with ⟨e1, e2, e3⟩ | hh
            · exact .inl ⟨e1, e2, Lib.hid (e3.out.snoc HX.out (fun a1 a2 a3 a4 => Classical.byContradiction fun a5 => hno ⟨a1, a2, a3, a4, a5⟩))⟩
            · exact .inr hh)
          cases r0
          · go_wp2_with fail
            go_roundw
            case rel => exact ⟨k2, j + 1, by omega, by go_num, HGI.out, HMS3.out, HB3.out, HSKIP.out (fun hh => by have := HR0.out; rw [hh.1] at this; simp at this) _ hgr⟩
            case measure => simp [intOf]; omega
          · cases r1
            · have tp : ¬ x.pv = pv := fun h => by rw [h] at t5; simp at t5
              go_wp2_with fail
              go_roundw
              case rel => exact ⟨k2, j + 1, by omega, by go_num, HGI.out, HMS3.out, HB3.out, HSKIP.out (fun hh => by have := HR1.out; rw [hh.2.1] at this; simp at this) _ hgr⟩
              case measure => simp [intOf]; omega
            · have tp : x.pv = pv := beq_iff_eq.1 t5
              cases r2
              · go_wp2_with fail
                go_roundw
                case rel => exact ⟨k2, j + 1, by omega, by go_num, HGI.out, HMS3.out, HB3.out, HSKIP.out (fun hh => by have := HR2.out; rw [hh.2.2.1] at this; cases this) _ hgr⟩
                case measure => simp [intOf]; omega
              · obtain ⟨cv1, hlk1⟩ := HMS3.out.look x.gb (HF.out x HXM.out).2
                obtain ⟨cv2, hlk2⟩ := HMS3.out.look x.gt (HF.out x HXM.out).1
                obtain ⟨s1, hs1⟩ : ∃ s, s = k2.contains x.gb := ⟨_, rfl⟩
                obtain ⟨s2, hs2⟩ : ∃ s, s = k2.contains x.gt := ⟨_, rfl⟩
                rw [← hs1] at hlk1
                rw [← hs2] at hlk2
                have HS1 := Lib.hid hs1
                have HS2 := Lib.hid hs2
                clear hs1 hs2
                cases s1
                · go_wp2_with fail
                  go_roundw
                  case rel => exact ⟨k2, j + 1, by omega, by go_num, HGI.out, HMS3.out, HB3.out, HSKIP.out (fun hh => by have := HS1.out; rw [List.contains_iff_mem.2 hh.2.2.2.1] at this; cases this) _ hgr⟩
                  case measure => simp [intOf]; omega
                · cases s2
                  · go_upto_region 12 with fail
                    clear hlk1 hlk2
                    have hlenq := fun ty => HMS3.out.len ty
                    have hol : (Lit.int .i64 (k2.length : Int)).wf = true := WalkArith.wf_i64 ⟨by omega, by omega⟩
                    obtain ⟨w5, hput, hms5, hg5⟩ := HMS3.out.put x.gt (HF.out x HXM.out).1 HS2.out.symm (by simp only [maxLen]; omega) (k2.length : Int) hol
                    have HMS5 := Lib.hid hms5
                    have HB5 := Lib.hid (HB3.out.grown hg5 HB3.out.size (fun j hj => by cases hj; exact Nat.le_refl _))
                    have HG5 : Hid (GI l ow tb pv (k2 ++ [x.gt])) := Lib.hid (HGI.out.more HXM.out (beq_iff_eq.1 HR0.out.symm) (beq_iff_eq.1 HR1.out.symm) HR2.out.symm (List.contains_iff_mem.1 HS1.out.symm))
                    clear hms5 hg5 hol
                    go_wp2_with fail
                    go_roundw
                    case rel => exact ⟨k2 ++ [x.gt], j + 1, by omega, by go_num, HG5.out, HMS5.out, HB5.out, .inr ⟨rfl, by
                      rw [List.length_append]
                      rcases hgr with ⟨_, e1, _⟩ | ⟨_, e1⟩
                      · have := e1.out; simp; omega
                      · simp; omega⟩⟩
                    case measure => simp [intOf]; omega
                  · go_wp2_with fail
                    go_roundw
                    case rel => exact ⟨k2, j + 1, by omega, by go_num, HGI.out, HMS3.out, HB3.out, HSKIP.out (fun hh => hh.2.2.2.2 (List.contains_iff_mem.1 HS2.out.symm)) _ hgr⟩
                    case measure => simp [intOf]; omega
        · obtain rfl : j = n := by omega
          have t1 : decide ((j : Int) < (j : Int)) = false := decide_eq_false (by omega)
          have HMS := Lib.hid hms
          clear hgi hms hb
          rcases hgr with ⟨rfl, e1, e2⟩ | ⟨rfl, e1⟩
          · go_wp2_with fail
            go_roundg 0
            case measure => omega
            case rel => exact ⟨k2, HGI.out, HMS.out, HB.out, .inr ⟨rfl, Lib.hid (by have := e2.out; rwa [List.take_of_length_le (by rw [HL.out]; omega)] at this)⟩⟩
          · go_wp2_with fail
            go_roundg (l.length + 4 - k2.length)
            case measure => omega
            case rel => exact ⟨k2, HGI.out, HMS.out, HB.out, .inl ⟨rfl, by omega⟩⟩
    · have HALL := Lib.hid (fun x => HGI.out.all HCL.out x)
      go_wp2_with fail
      go_ret
      exact ⟨w.heap.size, ks, rfl, HMS.out, Nat.le_refl _, HALL.out, HB.out⟩

end Go.Proofs.Ytfgkadkmgciamaa
