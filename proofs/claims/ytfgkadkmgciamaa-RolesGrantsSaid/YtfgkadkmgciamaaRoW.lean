/-
  The document's holding and Sound.
-/
import Derived.Test.YtfgkadkmgciamaaRoV
namespace Go.Proofs.Ytfgkadkmgciamaa
open Go Go.RowKit

def EB (b : Bool) : List Value := [.bool b]
theorem EB_len (b : Bool) : (EB b).length = 1 := rfl
def zeroO (n : Nat) : Array Value := madeCells #[.bool false] n
theorem zeroO_toList (n : Nat) : (zeroO n).toList = (List.replicate n false).flatMap EB := by
  unfold zeroO
  rw [toList_madeCells_one]
  induction n with
  | zero => rfl
  | succ n ih => rw [List.replicate_succ, List.replicate_succ, List.flatMap_cons, ← ih]; rfl
theorem info_bool : (Try.prog.info? 4).map (fun i => (i.zero, i.size, i.bytes)) = some (some (.bool false), 1, 1) := by kernel_rfl
theorem run_mk_bools (n : Nat) (hn : n ≤ 281474976710656) (x : Int) (hx : x = n) (u : World) :
    (Instr.makeSlice 59 (.int .i64 x) (.int .i64 x)).run Try.prog u = .ok (.slice (some ⟨u.heap.size, 0, none⟩) n n) (u.alloc (.cells (zeroO n) 4)) := by
  obtain ⟨i0, hi0, hz0, hz1, hz2⟩ := info_parts info_bool
  subst hx
  have h := run_make (P := Try.prog) u 59 4 i0 (.bool false) Try.underlying59 hi0 hz0 .i64 .i64 (n : Int) (n : Int) (by omega) (by omega) (by rw [hz2]; omega) (by omega)
  simpa [hz1, Value.cells, zeroO] using h
theorem mk_own (w : World) (n : Nat) (hn : n ≤ maxLen) : EO EB 1 4 (w.alloc (.cells (zeroO n) 4)) w.heap.size (.slice (some ⟨w.heap.size, 0, none⟩) n n) (List.replicate n false) := by
  unfold EO
  rw [List.length_replicate]
  have hl : ((List.replicate n false).flatMap EB).length = n := by rw [← zeroO_toList, zeroO, toList_madeCells_one]; simp
  refine ⟨by rw [hl]; omega, .inr ⟨w.heap.size, n, zeroO n, rfl, Nat.le_refl _, heap_alloc_new w _, Nat.le_refl _, hn, ?_, ?_⟩⟩
  · have := congrArg List.length (zeroO_toList n); rw [hl] at this; simpa using this
  · rw [zeroO_toList, List.take_of_length_le (by rw [hl]; omega)]
theorem flatEB (l : List Bool) : l.flatMap EB = l.map Value.bool := by
  induction l with
  | nil => rfl
  | cons x l ih => rw [List.flatMap_cons, ih]; rfl
theorem EO.setB {w : World} {base g cap n : Nat} {l : List Bool} (h : EO EB 1 4 w base (.slice (some ⟨g, 0, none⟩) n cap) l) (hn : l.length = n) (j : Nat) (b : Bool) : EO EB 1 4 (w.setCell ⟨g, j, none⟩ (.bool b)) base (.slice (some ⟨g, 0, none⟩) n cap) (l.set j b) := by
  unfold EO at h ⊢
  rw [flatEB] at h ⊢
  rw [List.length_set, List.map_set, hn]
  rw [hn] at h
  exact own_set h j _
theorem EO.cellB {w : World} {base g n c : Nat} {l : List Bool} (h : EO EB 1 4 w base (.slice (some ⟨g, 0, none⟩) n c) l) {i : Nat} {x : Bool} (hx : l[i]? = some x) : w.cell? ⟨g, i, none⟩ = some (.bool x) := by
  obtain ⟨A, c', e, her, _⟩ := h.form
  injection e with e1 e2 e3
  subst e1
  obtain ⟨g', o, y, e4, hy, hc⟩ := her.get EB_len (by decide) (List.getElem?_eq_some_iff.1 hx).1
  injection e4 with e4
  injection e4 with e4 e5
  subst e4 e5
  rw [hx] at hy
  injection hy with hy
  subst hy
  simpa using hc 0 _ rfl

/-- What holding tells, by definition. -/
def HoldsOf (l : List Gr) (ow tb : Str) (pv : Int) (x : Gr) : Prop := x.tb = tb ∧ x.pv = pv ∧ Held l ow tb pv x.gb
noncomputable def holdB (l : List Gr) (ow tb : Str) (pv : Int) : List Bool := l.map fun x => @decide (HoldsOf l ow tb pv x) (Classical.propDecidable _)
theorem holdB_len (l : List Gr) (ow tb : Str) (pv : Int) : (holdB l ow tb pv).length = l.length := by unfold holdB; simp
theorem holdB_at {l : List Gr} {ow tb : Str} {pv : Int} {i : Nat} {x : Gr} (h : l[i]? = some x) : ∃ b, (holdB l ow tb pv)[i]? = some b ∧ (b = true ↔ HoldsOf l ow tb pv x) :=
  ⟨_, by unfold holdB; rw [List.getElem?_map, h]; rfl, by simp⟩
theorem holdB_of {l : List Gr} {ow tb : Str} {pv : Int} {bs : List Bool} (hl : bs.length = l.length) (h : ∀ (i : Nat) (x : Gr), l[i]? = some x → (bs[i]? = some true ↔ HoldsOf l ow tb pv x)) : bs = holdB l ow tb pv := by
  refine List.ext_getElem? fun i => ?_
  by_cases hi : i < l.length
  · obtain ⟨b, h1, h2⟩ := holdB_at (ow := ow) (tb := tb) (pv := pv) (List.getElem?_eq_getElem hi)
    have h3 := h i _ (List.getElem?_eq_getElem hi)
    rw [h1]
    have hb : i < bs.length := by omega
    rw [List.getElem?_eq_getElem hb] at h3 ⊢
    rw [← h2] at h3
    cases b <;> cases hq : bs[i] <;> simp_all
  · rw [List.getElem?_eq_none (by omega), List.getElem?_eq_none (by rw [holdB_len]; omega)]
structure HI (l : List Gr) (ow tb : Str) (pv : Int) (bs : List Bool) : Prop where
  len : bs.length = l.length
  yes : ∀ (i : Nat) (x : Gr), l[i]? = some x → bs[i]? = some true → HoldsOf l ow tb pv x
theorem HI.start (l : List Gr) (ow tb : Str) (pv : Int) : HI l ow tb pv (List.replicate l.length false) :=
  ⟨by simp, fun i x _ h => by rw [List.getElem?_replicate] at h; split at h <;> simp_all⟩
def ClH (l : List Gr) (ow tb : Str) (pv : Int) (bs : List Bool) (j : Nat) : Prop := ∀ (i : Nat) (x : Gr), i < j → l[i]? = some x → x.tb = tb → x.pv = pv → bs[i]? = some false → x.gb ≠ ow ∧ ∀ (k : Nat) (y : Gr), l[k]? = some y → bs[k]? = some true → y.op = true → y.gt ≠ x.gb
theorem HI.fin {l : List Gr} {ow tb : Str} {pv : Int} {bs : List Bool} (h : HI l ow tb pv bs) (hc : ClH l ow tb pv bs l.length) : bs = holdB l ow tb pv := by
  refine holdB_of h.len fun i x hx => ⟨h.yes i x hx, fun ⟨h1, h2, h3⟩ => ?_⟩
  have key : ∀ (i : Nat) (x : Gr), l[i]? = some x → x.tb = tb → x.pv = pv → (x.gb = ow ∨ ∃ (k : Nat) (y : Gr), l[k]? = some y ∧ bs[k]? = some true ∧ y.op = true ∧ y.gt = x.gb) → bs[i]? = some true := by
    intro i x hx h1 h2 h3
    have hi : i < l.length := (List.getElem?_eq_some_iff.1 hx).1
    have hb : i < bs.length := by rw [h.len]; exact hi
    cases hq : bs[i] with
    | true => rw [List.getElem?_eq_getElem hb, hq]
    | false =>
      obtain ⟨c1, c2⟩ := hc i x hi hx h1 h2 (by rw [List.getElem?_eq_getElem hb, hq])
      rcases h3 with h3 | ⟨k, y, k1, k2, k3, k4⟩
      · exact absurd h3 c1
      · exact absurd k4 (c2 k y k1 k2 k3)
  refine key i x hx h1 h2 (h3.sub (S := fun z => z = ow ∨ ∃ (k : Nat) (y : Gr), l[k]? = some y ∧ bs[k]? = some true ∧ y.op = true ∧ y.gt = z) (.inl rfl) fun g hg a1 a2 a3 a4 => ?_)
  obtain ⟨k, hk⟩ := List.getElem?_of_mem hg
  exact .inr ⟨k, g, hk, key k g hk a1 a2 a4, a3, rfl⟩
theorem trs_set : ∀ {bs : List Bool} {j : Nat}, bs[j]? = some false → (bs.set j true).count true = bs.count true + 1
  | [], j, h => by simp at h
  | b :: bs, 0, h => by simp at h; subst h; simp
  | b :: bs, j + 1, h => by
    have := trs_set (bs := bs) (j := j) (by simpa using h)
    rw [List.set_cons_succ, List.count_cons, List.count_cons, this]
    omega
theorem set_same {bs : List Bool} {j : Nat} {b : Bool} (h : bs[j]? = some b) : bs.set j b = bs := by
  refine List.ext_getElem? fun i => ?_
  rw [List.getElem?_set]
  split
  · rename_i e; subst e; rw [if_pos (List.getElem?_eq_some_iff.1 h).1, h]
  · rfl
theorem HI.set {l : List Gr} {ow tb : Str} {pv : Int} {bs : List Bool} (h : HI l ow tb pv bs) {j : Nat} {x : Gr} (hx : l[j]? = some x) (hh : HoldsOf l ow tb pv x) : HI l ow tb pv (bs.set j true) :=
  ⟨by rw [List.length_set]; exact h.len, fun i y hy hb => by
    by_cases e : j = i
    · subst e; rw [hx] at hy; injection hy with hy; subst hy; exact hh
    · rw [List.getElem?_set_ne e] at hb; exact h.yes i y hy hb⟩
/-- Does one of the first m that hold give on to z? -/
def okK (l : List Gr) (bs : List Bool) (z : Str) (m : Nat) : Bool := (List.range m).any fun k => bs[k]? == some true && (match l[k]? with
  | some y => y.op && y.gt == z
  | none => false)
theorem okK_succ {l : List Gr} {bs : List Bool} {z : Str} {m : Nat} {y : Gr} {b : Bool} (hy : l[m]? = some y) (hb : bs[m]? = some b) : okK l bs z (m + 1) = (okK l bs z m || (b && (y.op && y.gt == z))) := by
  unfold okK
  rw [List.range_succ, List.any_append, List.any_cons, List.any_nil, hy, hb]
  cases b <;> simp
theorem okK_iff {l : List Gr} {bs : List Bool} {z : Str} (_hl : bs.length = l.length) : okK l bs z l.length = true ↔ ∃ (k : Nat) (y : Gr), l[k]? = some y ∧ bs[k]? = some true ∧ y.op = true ∧ y.gt = z := by
  unfold okK
  rw [List.any_eq_true]
  constructor
  · rintro ⟨k, hk, h⟩
    have hk := List.mem_range.1 hk
    rw [List.getElem?_eq_getElem hk, Bool.and_eq_true] at h
    exact ⟨k, l[k], List.getElem?_eq_getElem hk, by simpa using h.1, by have := h.2; simp at this; exact this.1, by have := h.2; simp at this; exact this.2⟩
  · rintro ⟨k, y, h1, h2, h3, h4⟩
    refine ⟨k, List.mem_range.2 (List.getElem?_eq_some_iff.1 h1).1, ?_⟩
    simp [h1, h2, h3, h4]

set_option maxRecDepth 100000 in
set_option maxHeartbeats 4000000 in
theorem refHolding_any (A : Option Addr) (n c : Nat) (l : List Gr) (ow tb : Str) (pv : Int) (w : World) (h : ER EG 5 w A n l) (hn : n ≤ 2199023255552) :
    Calls Try.prog 35 #[.slice A n c, .string ⟨ow.toArray⟩, .string ⟨tb.toArray⟩, .int .u8 pv] w fun e w' => e = .returned (.slice (some ⟨w.heap.size, 0, none⟩) n n) ∧ EO EB 1 4 w' w.heap.size (.slice (some ⟨w.heap.size, 0, none⟩) n n) (holdB l ow tb pv) ∧ Below w.heap.size w w' := by
  have HS := Lib.hid h
  have HL := Lib.hid h.1
  have hmk := run_mk_bools n (by omega) n rfl
  have HM := Lib.hid (mk_own w n (by simp only [maxLen]; omega))
  have HA := Lib.hid (gr_alloc (gr_refl w) (.cells (zeroO n) 4))
  clear h
  go_enter Try.func35, Try.ntmps35
  go_wp2_with fail
  clear hmk
  generalize w.alloc (.cells (zeroO n) 4) = w1 at *
  go_loopg [10, 11, 12, 13] (l.length + 1) (fun k g _ _ _ wr => ∃ bs, HI l ow tb pv bs ∧ EO EB 1 4 wr w.heap.size (.slice (some ⟨w.heap.size, 0, none⟩) n n) bs ∧ Below w.heap.size w wr ∧ ((g = .bool true ∧ k + bs.count true = l.length + 1) ∨ (g = .bool false ∧ Hid (ClH l ow tb pv bs l.length))))
  case atStart => exact ⟨List.replicate n false, by rw [← HL.out]; exact HI.start l ow tb pv, HM.out, HA.out, .inl ⟨rfl, by rw [List.count_replicate]; rfl⟩⟩
  case round =>
    clear HM HA
    obtain ⟨bs, hhi, heo, hb, hg⟩ := hrel
    have HHI := Lib.hid hhi
    have HEO := Lib.hid heo
    have HB := Lib.hid hb
    have hcb : bs.count true ≤ l.length := by rw [← hhi.len]; exact List.count_le_length
    clear hhi heo hb
    rcases hg with ⟨rfl, hk⟩ | ⟨rfl, HCL⟩
    · go_wp2_with fail
      go_loopw [10, 11, 12, 13] (fun gr i _ _ wr => ∃ (b2 : List Bool) (j : Nat), j ≤ n ∧ i = .int .i64 (j : Int) ∧ HI l ow tb pv b2 ∧ EO EB 1 4 wr w.heap.size (.slice (some ⟨w.heap.size, 0, none⟩) n n) b2 ∧ Below w.heap.size w wr ∧ ((gr = .bool false ∧ Hid (b2 = bs) ∧ Hid (ClH l ow tb pv b2 j)) ∨ (gr = .bool true ∧ bs.count true < b2.count true))) (fun _ i _ _ _ => n - (intOf i).toNat)
      case atStart => exact ⟨bs, 0, Nat.zero_le _, rfl, HHI.out, HEO.out, HB.out, .inl ⟨rfl, Lib.hid rfl, Lib.hid (fun i x h => absurd h (Nat.not_lt_zero i))⟩⟩
      case round =>
        obtain ⟨b2, j, hj, rfl, hhi, heo, hb, hgr⟩ := hrel
        clear HHI HEO HB
        have HHI := Lib.hid hhi
        have HEO := Lib.hid heo
        have HB := Lib.hid hb
        have hcl : b2.count true ≤ n := Nat.le_trans (List.count_le_length) (by rw [hhi.len, HL.out]; exact Nat.le_refl _)
        by_cases hlt : j < n
        · have t1 : decide ((j : Int) < (n : Int)) = true := decide_eq_true (by omega)
          have t2 : decide (j < n) = true := decide_eq_true hlt
          have i0' : (0 : Int) ≤ (j : Int) := Int.natCast_nonneg _
          have i1' : (j : Int) < (n : Int) := by omega
          obtain ⟨g, o, x, rfl, hx, q0, q1, q2, q3, q4⟩ := (HS.out.below hb).atGr hlt
          have HX := Lib.hid hx
          obtain ⟨b, hbj⟩ : ∃ b, b2[j]? = some b := ⟨b2[j]'(by rw [hhi.len, HL.out]; exact hlt), List.getElem?_eq_getElem _⟩
          have HBJ := Lib.hid hbj
          have p0 := heo.cellB hbj
          obtain ⟨s0, hs0⟩ : ∃ r, r = (x.tb == tb) := ⟨_, rfl⟩
          obtain ⟨s1, hs1⟩ : ∃ r, r = (x.pv == pv) := ⟨_, rfl⟩
          obtain ⟨s4, hs4⟩ : ∃ r, r = (x.gb == ow) := ⟨_, rfl⟩
          have e0 : (x.tb == tb) = s0 := hs0.symm
          have e1 : (x.pv == pv) = s1 := hs1.symm
          have e4 : (x.gb == ow) = s4 := hs4.symm
          have H0 := Lib.hid hs0
          have H1 := Lib.hid hs1
          have H4 := Lib.hid hs4
          clear hs0 hs1 hs4 hx hhi heo hb hbj
          have HSKIP : Hid ((¬ (x.tb = tb ∧ x.pv = pv ∧ b = false)) → ∀ gr : Value, ((gr = .bool false ∧ Hid (b2 = bs) ∧ Hid (ClH l ow tb pv b2 j)) ∨ (gr = .bool true ∧ bs.count true < b2.count true)) → ((gr = .bool false ∧ Hid (b2 = bs) ∧ Hid (ClH l ow tb pv b2 (j + 1))) ∨ (gr = .bool true ∧ bs.count true < b2.count true))) := Lib.hid (fun hno gr hh => by
            rcases hh with ⟨a1, a2, a3⟩ | hh
            · refine .inl ⟨a1, a2, Lib.hid fun i y hi hy y1 y2 y3 => ?_⟩
              by_cases e : i = j
              · subst e
                have hy' := hy
                rw [HX.out] at hy'
                injection hy' with hy'
                subst hy'
                rw [HBJ.out] at y3
                injection y3 with y3
                exact absurd ⟨y1, y2, y3⟩ hno
              · exact a3.out i y (by omega) hy y1 y2 y3
            · exact .inr hh)
          cases b
          · cases s0
            · go_wp2_with fail
              go_roundw
              case rel => exact ⟨b2, j + 1, by omega, by go_num, HHI.out, HEO.out, HB.out, HSKIP.out (fun hh => by have := H0.out; rw [hh.1] at this; simp at this) _ hgr⟩
              case measure => simp [intOf]; omega
            · cases s1
              · have tp : ¬ x.pv = pv := fun h => by rw [h] at e1; simp at e1
                go_wp2_with fail
                go_roundw
                case rel => exact ⟨b2, j + 1, by omega, by go_num, HHI.out, HEO.out, HB.out, HSKIP.out (fun hh => by have := H1.out; rw [hh.2.1] at this; simp at this) _ hgr⟩
                case measure => simp [intOf]; omega
              · have tp : x.pv = pv := beq_iff_eq.1 e1
                go_wp2_with fail
                generalize wr = wo at *
                go_loopw [12, 13] (fun v i wr => ∃ (m : Nat), m ≤ n ∧ i = .int .i64 (m : Int) ∧ v = .bool (s4 || okK l b2 x.gb m) ∧ Below wo.heap.size wo wr) (fun _ i _ => n - (intOf i).toNat)
                case atStart => exact ⟨0, Nat.zero_le _, rfl, by simp [okK], gr_refl wo⟩
                case round =>
                  obtain ⟨m, hm, rfl, rfl, hbz⟩ := hrel
                  have HBZ := Lib.hid hbz
                  by_cases hlm : m < n
                  · have t3 : decide ((m : Int) < (n : Int)) = true := decide_eq_true (by omega)
                    have t4 : decide (m < n) = true := decide_eq_true hlm
                    have i2' : (0 : Int) ≤ (m : Int) := Int.natCast_nonneg _
                    have i3' : (m : Int) < (n : Int) := by omega
                    obtain ⟨g', o', y, hAe, hy, z0, z1, z2, z3, z4⟩ := ((HS.out.below HB.out).below hbz).atGr hlm
                    cases hAe
                    have q3' := keep_of_below hbz q3
                    obtain ⟨d, hd⟩ : ∃ d, b2[m]? = some d := ⟨b2[m]'(by rw [HHI.out.len, HL.out]; exact hlm), List.getElem?_eq_getElem _⟩
                    have p1 := (HEO.out.below hbz).cellB hd
                    have HK := Lib.hid (okK_succ (z := x.gb) hy hd)
                    obtain ⟨u0, hu0⟩ : ∃ r, r = (y.gt == x.gb) := ⟨_, rfl⟩
                    obtain ⟨u1, hu1⟩ : ∃ r, r = y.op := ⟨_, rfl⟩
                    obtain ⟨r, hr⟩ : ∃ r, r = (s4 || okK l b2 x.gb m) := ⟨_, rfl⟩
                    rw [← hu1] at z4
                    have e5 : (y.gt == x.gb) = u0 := hu0.symm
                    have HR : Hid ((s4 || okK l b2 x.gb (m + 1)) = (r || (d && (u1 && u0)))) := Lib.hid (by rw [HK.out, ← hu0, ← hu1, hr, Bool.or_assoc])
                    rw [← hr]
                    clear hu0 hu1 hr hy hd hbz p0 q0 q1 q2 q3 q4
                    cases r
                    · cases d
                      · go_wp2_with (go_quiet (fail))
                        have HBY := Lib.hid (HBZ.out.trans ((gr_drewN (gr_refl wr) nq).mono HBZ.out.size))
                        go_roundw
                        case rel => exact ⟨m + 1, by omega, by go_num, by rw [HR.out]; rfl, HBY.out⟩
                        case measure => simp [intOf]; omega
                      · cases u1
                        · go_wp2_with (go_quiet (fail))
                          have HBY := Lib.hid (HBZ.out.trans ((gr_drewN (gr_refl wr) nq).mono HBZ.out.size))
                          go_roundw
                          case rel => exact ⟨m + 1, by omega, by go_num, by rw [HR.out]; rfl, HBY.out⟩
                          case measure => simp [intOf]; omega
                        · cases u0
                          · go_wp2_with (go_quiet (fail))
                            have HBY := Lib.hid (HBZ.out.trans ((gr_drewN (gr_refl wr) nq).mono HBZ.out.size))
                            go_roundw
                            case rel => exact ⟨m + 1, by omega, by go_num, by rw [HR.out]; rfl, HBY.out⟩
                            case measure => simp [intOf]; omega
                          · go_wp2_with (go_quiet (fail))
                            have HBY := Lib.hid (HBZ.out.trans ((gr_drewN (gr_refl wr) nq).mono HBZ.out.size))
                            go_roundw
                            case rel => exact ⟨m + 1, by omega, by go_num, by rw [HR.out]; rfl, HBY.out⟩
                            case measure => simp [intOf]; omega
                    · go_wp2_with (go_quiet (fail))
                      have HBY := Lib.hid (HBZ.out.trans ((gr_drewN (gr_refl wr) nq).mono HBZ.out.size))
                      go_roundw
                      case rel => exact ⟨m + 1, by omega, by go_num, by rw [HR.out]; rfl, HBY.out⟩
                      case measure => simp [intOf]; omega
                  · obtain rfl : m = n := by omega
                    have t3 : decide ((m : Int) < (m : Int)) = false := decide_eq_false (by omega)
                    have HEZ := Lib.hid (HEO.out.below hbz)
                    have HBQ := Lib.hid (HB.out.trans (hbz.mono HB.out.size))
                    have f0 := own_frozen HEZ.out j
                    have p9 := HEZ.out.cellB HBJ.out
                    obtain ⟨r, hr⟩ : ∃ r, r = (s4 || okK l b2 x.gb m) := ⟨_, rfl⟩
                    have HR := Lib.hid hr
                    rw [← hr]
                    clear hr hbz p0 q0 q1 q2 q3 q4
                    have HSET := Lib.hid (HEZ.out.setB (by rw [HHI.out.len, HL.out]) j r)
                    have HOF : Hid (Below w.heap.size w (wr.setCell ⟨w.heap.size, j, none⟩ (.bool r))) := Lib.hid (HBQ.out.trans (((Off.refl (· = w.heap.size) wr).setCell (g := w.heap.size) (j := j) (.bool r) rfl).below (fun k hk => by rw [hk]; exact Nat.le_refl _) HBQ.out.size))
                    go_upto_region 15 with fail
                    clear f0 p9
                    generalize wr.setCell ⟨w.heap.size, j, none⟩ (.bool r) = wy at *
                    have HTB : Hid (x.tb = tb ∧ x.pv = pv) := Lib.hid ⟨beq_iff_eq.1 H0.out.symm, beq_iff_eq.1 H1.out.symm⟩
                    cases r
                    · have HE2 : Hid (EO EB 1 4 wy w.heap.size (.slice (some ⟨w.heap.size, 0, none⟩) m m) b2) := Lib.hid (by have := HSET.out; rwa [set_same HBJ.out] at this)
                      have HNO : Hid (x.gb ≠ ow ∧ ∀ (k : Nat) (y : Gr), l[k]? = some y → b2[k]? = some true → y.op = true → y.gt ≠ x.gb) := Lib.hid (by
                        have h9 := HR.out
                        cases hs : s4
                        · rw [hs] at h9 H4
                          refine ⟨fun e => by have := H4.out; rw [e] at this; simp at this, fun k y k1 k2 k3 k4 => ?_⟩
                          have : okK l b2 x.gb l.length = true := (okK_iff HHI.out.len).2 ⟨k, y, k1, k2, k3, k4⟩
                          rw [HL.out] at this
                          rw [this] at h9
                          cases h9
                        · rw [hs] at h9
                          cases h9)
                      have HSK2 : Hid (∀ gr : Value, ((gr = .bool false ∧ Hid (b2 = bs) ∧ Hid (ClH l ow tb pv b2 j)) ∨ (gr = .bool true ∧ bs.count true < b2.count true)) → ((gr = .bool false ∧ Hid (b2 = bs) ∧ Hid (ClH l ow tb pv b2 (j + 1))) ∨ (gr = .bool true ∧ bs.count true < b2.count true))) := Lib.hid (fun gr hh => by
                        rcases hh with ⟨a1, a2, a3⟩ | hh
                        · refine .inl ⟨a1, a2, Lib.hid fun i y hi hy y1 y2 y3 => ?_⟩
                          by_cases e : i = j
                          · subst e
                            have hy' := hy
                            rw [HX.out] at hy'
                            injection hy' with hy'
                            subst hy'
                            exact HNO.out
                          · exact a3.out i y (by omega) hy y1 y2 y3
                        · exact .inr hh)
                      have HGR := Lib.hid (HSK2.out _ hgr)
                      rcases hgr with ⟨rfl, _, _⟩ | ⟨rfl, _⟩
                      all_goals
                        go_wp2_with fail
                        go_roundw
                        case rel => exact ⟨b2, j + 1, by omega, by go_num, HHI.out, HE2.out, HOF.out, HGR.out⟩
                        case measure => simp [intOf]; omega
                    · have HHO : Hid (HoldsOf l ow tb pv x) := Lib.hid (by
                        refine ⟨HTB.out.1, HTB.out.2, ?_⟩
                        have h9 := HR.out
                        cases hs : s4
                        · rw [hs, Bool.false_or] at h9
                          obtain ⟨k, y, k1, k2, k3, k4⟩ := (okK_iff (z := x.gb) HHI.out.len).1 (by rw [HL.out]; exact h9.symm)
                          obtain ⟨y1, y2, y3⟩ := HHI.out.yes k y k1 k2
                          rw [← k4]
                          exact .step y3 (List.mem_of_getElem? k1) y1 y2 k3
                        · have := H4.out
                          rw [hs] at this
                          rw [beq_iff_eq.1 this.symm]
                          exact .own)
                      have HH2 := Lib.hid (HHI.out.set HX.out HHO.out)
                      have hgt : bs.count true < (b2.set j true).count true := by
                        rw [trs_set HBJ.out]
                        rcases hgr with ⟨_, a2, _⟩ | ⟨_, a2⟩
                        · rw [a2.out]; omega
                        · omega
                      rcases hgr with ⟨rfl, _, _⟩ | ⟨rfl, _⟩
                      all_goals
                        go_wp2_with fail
                        go_roundw
                        case rel => exact ⟨b2.set j true, j + 1, by omega, by go_num, HH2.out, HSET.out, HOF.out, .inr ⟨rfl, hgt⟩⟩
                        case measure => simp [intOf]; omega
          · go_wp2_with fail
            go_roundw
            case rel => exact ⟨b2, j + 1, by omega, by go_num, HHI.out, HEO.out, HB.out, HSKIP.out (fun hh => by cases hh.2.2) _ hgr⟩
            case measure => simp [intOf]; omega
        · obtain rfl : j = n := by omega
          have t1 : decide ((j : Int) < (j : Int)) = false := decide_eq_false (by omega)
          clear hhi heo hb
          rcases hgr with ⟨rfl, e1, e2⟩ | ⟨rfl, e1⟩
          · go_wp2_with fail
            go_roundg 0
            case measure => omega
            case rel => exact ⟨b2, HHI.out, HEO.out, HB.out, .inr ⟨rfl, Lib.hid (by have := e2.out; rwa [← HL.out] at this)⟩⟩
          · have hll := HL.out
            go_wp2_with fail
            go_roundg (l.length + 1 - b2.count true)
            case measure => omega
            case rel => exact ⟨b2, HHI.out, HEO.out, HB.out, .inl ⟨rfl, by omega⟩⟩
    · have HFIN := Lib.hid (HHI.out.fin HCL.out)
      rw [HFIN.out] at HEO
      go_wp2_with fail
      go_ret
      exact ⟨rfl, HEO.out, HB.out⟩

end Go.Proofs.Ytfgkadkmgciamaa
