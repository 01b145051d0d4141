/-
  A table of snapshot in memory. Contracts: made, of, Next, asked, IsOpen, shown, Visible, Conflict, Open.
-/
import Derived.Test.YtjopobkcijkpmaaSnA
import Derived.Test.YtjopobkcijkpmaaDkG
import Derived.Deep.RegionHeld3
namespace Go.Proofs.Ytjopobkcijkpmaa
open Go.RowKit

/-- A table as the document has it. -/
structure TabS where
  first : Int
  next : Int
  last : Int
  who : Int → Option (Int × Int)
  opn : List Int
  dead : List Int

/-- A table's own block. -/
def TB (w : World) (g b : Nat) (fi ne la : Int) (ov dv : Value) : Prop :=
  w.heap[g]? = some (.cells #[.pointer (some ⟨g, 0, none⟩), .int .i64 fi, .int .i64 ne, .int .i64 la, .map (some b), ov, dv] 106 (0, 0))

section
variable {w w' : World} {g b : Nat} {fi ne la : Int} {ov dv : Value}
theorem TB.lt (h : TB w g b fi ne la ov dv) : g < w.heap.size := (Array.getElem?_eq_some_iff.1 h).1
theorem TB.off {S : Nat → Prop} (h : TB w g b fi ne la ov dv) (ho : Off S w w') (hg : ¬ S g) : TB w' g b fi ne la ov dv := (ho.block g h.lt hg).trans h
theorem TB.frozen (h : TB w g b fi ne la ov dv) (j : Nat) : w.frozen? ⟨g, j, none⟩ = false := by unfold TB at h; simp [World.frozen?, h]
theorem TB.c0 (h : TB w g b fi ne la ov dv) : w.cell? ⟨g, 0, none⟩ = some (.pointer (some ⟨g, 0, none⟩)) := by rw [cell_of_row w g 0 _ _ _ h]; rfl
theorem TB.c1 (h : TB w g b fi ne la ov dv) : w.cell? ⟨g, 1, none⟩ = some (.int .i64 fi) := by rw [cell_of_row w g 1 _ _ _ h]; rfl
theorem TB.c2 (h : TB w g b fi ne la ov dv) : w.cell? ⟨g, 2, none⟩ = some (.int .i64 ne) := by rw [cell_of_row w g 2 _ _ _ h]; rfl
theorem TB.c3 (h : TB w g b fi ne la ov dv) : w.cell? ⟨g, 3, none⟩ = some (.int .i64 la) := by rw [cell_of_row w g 3 _ _ _ h]; rfl
theorem TB.c4 (h : TB w g b fi ne la ov dv) : w.cell? ⟨g, 4, none⟩ = some (.map (some b)) := by rw [cell_of_row w g 4 _ _ _ h]; rfl
theorem TB.c5 (h : TB w g b fi ne la ov dv) : w.cell? ⟨g, 5, none⟩ = some ov := by rw [cell_of_row w g 5 _ _ _ h]; rfl
theorem TB.c6 (h : TB w g b fi ne la ov dv) : w.cell? ⟨g, 6, none⟩ = some dv := by rw [cell_of_row w g 6 _ _ _ h]; rfl
theorem TB.s2 (h : TB w g b fi ne la ov dv) (n : Int) : TB (w.setCell ⟨g, 2, none⟩ (.int .i64 n)) g b fi n la ov dv := by unfold TB at h ⊢; simp only [World.setCell, Array.getElem?_modify, if_pos, h]; rfl
theorem TB.s3 (h : TB w g b fi ne la ov dv) (n : Int) : TB (w.setCell ⟨g, 3, none⟩ (.int .i64 n)) g b fi ne n ov dv := by unfold TB at h ⊢; simp only [World.setCell, Array.getElem?_modify, if_pos, h]; rfl
theorem TB.s5 (h : TB w g b fi ne la ov dv) (v : Value) : TB (w.setCell ⟨g, 5, none⟩ v) g b fi ne la v dv := by unfold TB at h ⊢; simp only [World.setCell, Array.getElem?_modify, if_pos, h]; rfl
theorem TB.s6 (h : TB w g b fi ne la ov dv) (v : Value) : TB (w.setCell ⟨g, 6, none⟩ v) g b fi ne la ov v := by unfold TB at h ⊢; simp only [World.setCell, Array.getElem?_modify, if_pos, h]; rfl
end

/-- A table in memory. -/
structure TK (w : World) (base g b : Nat) (ov dv : Value) (T : TabS) : Prop where
  tb : TB w g b T.first T.next T.last ov dv
  mp : MI w b T.who
  op : w.ownsRow base 3 1 ov T.opn.length (T.opn.map (Value.int .i64))
  de : w.ownsRow base 3 1 dv T.dead.length (T.dead.map (Value.int .i64))
  f1 : 1 ≤ T.first
  f2 : T.first ≤ 4611686018427387904
  n1 : 1 ≤ T.next
  n2 : T.next ≤ 4611686018427387904
  o2 : T.opn.length ≤ 16
  d2 : T.dead.length ≤ 64
  oi : ∀ x ∈ T.opn, 1 ≤ x ∧ x < T.next
  gb : base ≤ g
  bb : base ≤ b
  ap : ov.ownBlock = none ∨ ov.ownBlock ≠ dv.ownBlock

def tfoot (g b : Nat) (ov dv : Value) (k : Nat) : Prop := k = g ∨ k = b ∨ ov.ownBlock = some k ∨ dv.ownBlock = some k

/-- .. F: the blocks that it turns. -/
def IsT (w : World) (base g : Nat) (F : Nat → Prop) (T : TabS) : Prop := ∃ b ov dv, TK w base g b ov dv T ∧ ∀ k, F k ↔ tfoot g b ov dv k

/-- What an operation of a table leaves behind. -/
def TPost (w : World) (base g : Nat) (F : Nat → Prop) (T : TabS) (w' : World) : Prop := Off F w w' ∧ ∃ F', IsT w' base g F' T ∧ ∀ k, F' k → F k ∨ w.heap.size ≤ k

section
variable {w w' : World} {base g b : Nat} {ov dv : Value} {T : TabS} {F : Nat → Prop}
theorem TK.off {S : Nat → Prop} (h : TK w base g b ov dv T) (ho : Off S w w') (hS : ∀ k, tfoot g b ov dv k → ¬ S k) : TK w' base g b ov dv T :=
  ⟨h.tb.off ho (hS g (.inl rfl)), h.mp.off ho (hS b (.inr (.inl rfl))), ownsRow_off h.op ho (fun k e => hS k (.inr (.inr (.inl e)))), ownsRow_off h.de ho (fun k e => hS k (.inr (.inr (.inr e)))), h.f1, h.f2, h.n1, h.n2, h.o2, h.d2, h.oi, h.gb, h.bb, h.ap⟩
theorem TK.below (h : TK w base g b ov dv T) (hb : Below w.heap.size w w') : TK w' base g b ov dv T := h.off (S := fun _ => False) (Off.of_below hb) (fun _ _ h => h)
theorem IsT.off {S : Nat → Prop} (h : IsT w base g F T) (ho : Off S w w') (hS : ∀ k, F k → ¬ S k) : IsT w' base g F T := by
  obtain ⟨b, ov, dv, hd, hF⟩ := h
  exact ⟨b, ov, dv, hd.off ho (fun k hk => hS k ((hF k).2 hk)), hF⟩
theorem IsT.below (h : IsT w base g F T) (hb : Below w.heap.size w w') : IsT w' base g F T := by
  obtain ⟨b, ov, dv, hd, hF⟩ := h
  exact ⟨b, ov, dv, hd.below hb, hF⟩
theorem TK.foot_lt (h : TK w base g b ov dv T) : ∀ k, tfoot g b ov dv k → base ≤ k ∧ k < w.heap.size := by
  intro k hk
  rcases hk with rfl | rfl | hk | hk
  · exact ⟨h.gb, h.tb.lt⟩
  · exact ⟨h.bb, h.mp.lt⟩
  · exact h.op.lt k hk
  · exact h.de.lt k hk
theorem IsT.foot_lt (h : IsT w base g F T) : ∀ k, F k → base ≤ k ∧ k < w.heap.size := by
  obtain ⟨b, ov, dv, hd, hF⟩ := h
  exact fun k hk => hd.foot_lt k ((hF k).1 hk)
theorem TPost.same (h : IsT w base g F T) : TPost w base g F T w := ⟨Off.refl _ _, F, h, fun _k h => .inl h⟩
theorem TPost.grown (h : IsT w base g F T) (hb : Below w.heap.size w w') : TPost w base g F T w' := ⟨Off.of_below hb, F, h.below hb, fun _k h => .inl h⟩
theorem TK.ne_gb (h : TK w base g b ov dv T) : g ≠ b := by
  rintro rfl
  exact h.mp.notCells h.tb
theorem row_ne {v : Value} {n k : Nat} {xs : List Value} {cs : Array Value} {t : TypeId} {fr : Nat × Nat} (h : w.ownsRow base 3 1 v n xs) (hk : w.heap[k]? = some (.cells cs t fr)) (ht : t ≠ 3) : v.ownBlock ≠ some k := by
  rcases h.2 with ⟨rfl, _⟩ | ⟨q, cap, cur, rfl, _, hq, _⟩
  · simp [Value.ownBlock]
  · intro e
    simp [Value.ownBlock] at e
    subst e
    exact cells_ne hk hq ht
theorem row_nm {v : Value} {n k : Nat} {xs : List Value} {f : Int → Option (Int × Int)} (h : w.ownsRow base 3 1 v n xs) (hk : MI w k f) : v.ownBlock ≠ some k := by
  rcases h.2 with ⟨rfl, _⟩ | ⟨q, cap, cur, rfl, _, hq, _⟩
  · simp [Value.ownBlock]
  · intro e
    simp [Value.ownBlock] at e
    subst e
    exact hk.notCells hq
end

theorem info_table : (Try.prog.info? 106).map (fun i => (i.size, i.bytes)) = some (7, 88) := by kernel_rfl
theorem teql_self (W : World) (a : Addr) : (binOp .eql 48 (.pointer (some a)) (.pointer (some a))).run Try.prog W = .ok (.bool true) W := by
  obtain ⟨j, hj⟩ : ∃ j, Try.prog.info? 106 = some j := by
    have := info_table
    cases h : Try.prog.info? 106 with
    | none => rw [h] at this; cases this
    | some j => exact ⟨j, rfl⟩
  exact run_eql_ptr_same W a Try.underlying48 hj
theorem teql_nil (W : World) (a : Addr) : (binOp .eql 48 (.pointer none) (.pointer (some a))).run Try.prog W = .ok (.bool false) W := by
  have h : ∀ d : Nat, (Op.equalIn (d + 1) 48 (.pointer none) (.pointer (some a))).run Try.prog W = .ok false W := fun d => by
    simp [Op.equalIn, run_underlying Try.underlying48]
  simp only [binOp]
  simp [Op.equal, Op.maxDepth, h 9999]

set_option maxHeartbeats 400000 in
theorem tmade_yes (g : Nat) (w : World) (h0 : w.cell? ⟨g, 0, none⟩ = some (.pointer (some ⟨g, 0, none⟩))) :
    Calls Try.prog 68 #[.pointer (some ⟨g, 0, none⟩)] w fun e w' => e = .returned (.bool true) ∧ w = w' := by
  have hq := fun W => teql_self W ⟨g, 0, none⟩
  go_enter Try.func68, Try.ntmps68
  go_wp2_with fail
  go_ret
  exact ⟨rfl, rfl⟩
set_option maxHeartbeats 400000 in
theorem tmade_nil (w : World) :
    Calls Try.prog 68 #[.pointer none] w fun e w' => e = .returned (.bool false) ∧ w = w' := by
  go_enter Try.func68, Try.ntmps68
  go_wp2_with fail
  go_ret
  exact ⟨rfl, rfl⟩
set_option maxHeartbeats 400000 in
theorem tmade_no (g : Nat) (w : World) (h0 : w.cell? ⟨g, 0, none⟩ = some (.pointer none)) :
    Calls Try.prog 68 #[.pointer (some ⟨g, 0, none⟩)] w fun e w' => e = .returned (.bool false) ∧ w = w' := by
  have hq := fun W => teql_nil W ⟨g, 0, none⟩
  go_enter Try.func68, Try.ntmps68
  go_wp2_with fail
  go_ret
  exact ⟨rfl, rfl⟩

/-- What a number is. -/
def ofT (T : TabS) (n : Int) : Int × Int :=
  match T.who n with
  | some q => q
  | none => if 1 ≤ n ∧ n < T.first then (1, 0) else (0, 0)

set_option maxHeartbeats 1000000 in
theorem of_any (w : World) (base g : Nat) (F : Nat → Prop) (T : TabS) (n : Int) (h : IsT w base g F T) (h1 : -9223372036854775808 ≤ n) (h2 : n ≤ 9223372036854775807) :
    Calls Try.prog 74 #[.pointer (some ⟨g, 0, none⟩), .int .i64 n] w fun e w' => e = .returned (mkV (ofT T n)) ∧ Below w.heap.size w w' := by
  obtain ⟨b, ov, dv, hd, hF⟩ := h
  have hb1 := gr_alloc (gr_refl w) (.cells #[.int .u8 0, .int .i64 0] 119)
  have hd1 := hd.below hb1
  have c4 := hd1.tb.c4
  have hl := hd1.mp.look true h1 h2
  rw [if_pos rfl] at hl
  have HQ : Hid (ofT T n = match T.who n with | some q => q | none => if 1 ≤ n ∧ n < T.first then (1, 0) else (0, 0)) := Lib.hid rfl
  generalize ofT T n = r at *
  have hfl := hd.tb.lt
  cases hw : T.who n with
  | some q =>
    rw [hw] at hl
    rw [hw] at HQ
    obtain ⟨q1, q2⟩ := q
    have hr := HQ.out
    dsimp only at hr
    subst hr
    unfold mkV
    simp only [Option.getD_some, Option.isSome_some, mkV] at hl
    clear hw HQ hd hd1 hF
    go_enter Try.func74, Try.ntmps74
    go_wp2_with fail
    exact bodyPost_ret (v := .agg #[.int .u8 q1, .int .i64 q2]) (by simp [results, Try.results74, go_sem]) rfl ⟨rfl, gr_alloc (gr_alloc (gr_refl w) _) _⟩
  | none =>
    rw [hw] at hl
    rw [hw] at HQ
    simp only [Option.getD_none, Option.isSome_none, mkV] at hl
    have c1 := (hd1.below (gr_alloc (gr_refl _) (.cells #[.int .u8 0, .int .i64 0] 119))).tb.c1
    have hr := HQ.out
    dsimp only at hr
    clear hw HQ hd hd1 hF
    by_cases hn : 1 ≤ n
    · have t1 : decide (1 ≤ n) = true := by simpa using hn
      by_cases hn2 : n < T.first
      · have t2 : decide (n < T.first) = true := by simpa using hn2
        rw [if_pos ⟨hn, hn2⟩] at hr
        subst hr
        unfold mkV
        go_enter Try.func74, Try.ntmps74
        go_wp2_with fail
        exact bodyPost_ret (v := .agg #[.int .u8 1, .int .i64 0]) (by simp [results, Try.results74, go_sem]) rfl ⟨rfl, gr_alloc (gr_alloc (gr_refl w) _) _⟩
      · have t2 : decide (n < T.first) = false := by simpa using hn2
        rw [if_neg (fun e => hn2 e.2)] at hr
        subst hr
        unfold mkV
        go_enter Try.func74, Try.ntmps74
        go_wp2_with fail
        exact bodyPost_ret (v := .agg #[.int .u8 0, .int .i64 0]) (by simp [results, Try.results74, go_sem]) rfl ⟨rfl, gr_alloc (gr_alloc (gr_refl w) _) _⟩
    · have t1 : decide (1 ≤ n) = false := by simpa using hn
      rw [if_neg (fun e => hn e.1)] at hr
      subst hr
      unfold mkV
      go_enter Try.func74, Try.ntmps74
      go_wp2_with fail
      exact bodyPost_ret (v := .agg #[.int .u8 0, .int .i64 0]) (by simp [results, Try.results74, go_sem]) rfl ⟨rfl, gr_alloc (gr_alloc (gr_refl w) _) _⟩

end Go.Proofs.Ytjopobkcijkpmaa
