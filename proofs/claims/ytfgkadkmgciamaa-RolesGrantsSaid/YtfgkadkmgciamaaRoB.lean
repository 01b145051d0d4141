/-
  Rows of strings, of members, of grants: read, owned, copied, compared.
-/
import Derived.Test.YtfgkadkmgciamaaRoA
import Derived.Laws.StructEq
namespace Go.Proofs.Ytfgkadkmgciamaa
open Go Go.RowKit

/-- A slice in memory, its elements k cells each. -/
def ER {α : Type} (enc : α → List Value) (k : Nat) (w : World) (A : Option Addr) (n : Nat) (l : List α) : Prop := l.length = n ∧ Rd w k A n (l.flatMap enc)
theorem flat_at {α : Type} {enc : α → List Value} {k : Nat} (hk : ∀ x, (enc x).length = k) : ∀ (l : List α) (i j : Nat) (x : α), l[i]? = some x → j < k → (l.flatMap enc)[i * k + j]? = (enc x)[j]?
  | [], _, _, _, h, _ => by simp at h
  | y :: l, 0, j, x, h, hj => by
    obtain rfl : y = x := by simpa using h
    rw [List.flatMap_cons, Nat.zero_mul, Nat.zero_add, List.getElem?_append_left (by rw [hk]; exact hj)]
  | y :: l, i + 1, j, x, h, hj => by
    rw [List.flatMap_cons, List.getElem?_append_right (by rw [hk, Nat.succ_mul]; omega), hk]
    have e : (i + 1) * k + j - k = i * k + j := by rw [Nat.succ_mul]; omega
    rw [e]
    exact flat_at hk l i j x (by simpa using h) hj
section
variable {α : Type} {enc : α → List Value} {k : Nat} {w w' : World} {A : Option Addr} {n : Nat} {l : List α}
theorem ER.below (h : ER enc k w A n l) (hb : Below w.heap.size w w') : ER enc k w' A n l := ⟨h.1, Rd.below h.2 hb⟩
theorem ER.none_ (w : World) (A : Option Addr) : ER enc k w A 0 [] := ⟨rfl, by simp, fun h => absurd h (by omega)⟩
theorem ER.get (h : ER enc k w A n l) (hk : ∀ x, (enc x).length = k) (h0 : 0 < k) {i : Nat} (hi : i < n) : ∃ g o x, A = some ⟨g, o, none⟩ ∧ l[i]? = some x ∧ ∀ j v, (enc x)[j]? = some v → w.cell? ⟨g, o + (i * k + j), none⟩ = some v := by
  obtain ⟨g, o, e, hc⟩ := Rd.plain h.2 (by omega) h0
  have hl : i < l.length := by rw [h.1]; exact hi
  refine ⟨g, o, l[i], e, List.getElem?_eq_getElem hl, fun j v hj => hc _ _ ?_⟩
  have hjk : j < k := by rw [← hk l[i]]; exact (List.getElem?_eq_some_iff.1 hj).1
  rw [flat_at hk l i j _ (List.getElem?_eq_getElem hl) hjk]
  exact hj
end
theorem take_snoc {α : Type} {l : List α} {k : Nat} {x : α} (h : l[k]? = some x) : l.take (k + 1) = l.take k ++ [x] := by
  rw [List.take_add_one, h]
  rfl
/-- A row of the call's own. -/
def EO {α : Type} (enc : α → List Value) (k : Nat) (T : TypeId) (w : World) (base : Nat) (v : Value) (l : List α) : Prop := w.ownsRow base T k v l.length (l.flatMap enc)
section
variable {α : Type} {enc : α → List Value} {k : Nat} {T : TypeId} {w w' : World} {base : Nat} {v : Value} {l : List α}
theorem EO.nil (w : World) (base : Nat) : EO enc k T w base (.slice none 0 0) [] := ⟨by simp, .inl ⟨rfl, rfl⟩⟩
theorem EO.form (h : EO enc k T w base v l) : ∃ A c, v = .slice A l.length c ∧ ER enc k w A l.length l ∧ l.length ≤ c ∧ c ≤ maxLen := by
  obtain ⟨A, c, rfl, h1, h2⟩ := own_form h
  exact ⟨A, c, rfl, ⟨rfl, Rd.of_own h⟩, h1, h2⟩
theorem EO.below (h : EO enc k T w base v l) (hb : Below w.heap.size w w') : EO enc k T w' base v l := ownsRow_off (S := fun _ => False) h (Off.of_below hb) (fun _ _ h => h)
theorem EO.lower {b : Nat} (h : EO enc k T w base v l) (hb : b ≤ base) : EO enc k T w b v l := own_lower h hb
theorem EO.snoc {x : α} {v' : Value} {n : Nat} (h : w.ownsRow base T k v' (n + 1) (l.flatMap enc ++ enc x)) (hn : l.length = n) : EO enc k T w base v' (l ++ [x]) := by
  unfold EO
  rw [List.length_append, hn, List.flatMap_append]
  simpa using h
end
theorem rd_new1 (w : World) (T : TypeId) (k : Nat) (xs : List Value) (hk : xs.length = k) : Rd (w.alloc (.cells xs.toArray T)) k (some ⟨w.heap.size, 0, none⟩) 1 xs := by
  have := Rd.new w T xs.toArray 1 k (by simp [hk])
  simpa using this

def ES (s : Str) : List Value := [.string ⟨s.toArray⟩]
def EM (m : Mb) : List Value := [.string ⟨m.1.toArray⟩, .string ⟨m.2.toArray⟩]
def EG (g : Gr) : List Value := [.string ⟨g.tb.toArray⟩, .int .u8 g.pv, .string ⟨g.gt.toArray⟩, .string ⟨g.gb.toArray⟩, .bool g.op]
theorem ES_len (s : Str) : (ES s).length = 1 := rfl
theorem EM_len (m : Mb) : (EM m).length = 2 := rfl
theorem EG_len (g : Gr) : (EG g).length = 5 := rfl
theorem ES_one (x : Str) : ∀ u ∈ ES x, u.oneCell' = true := by
  intro u hu
  simp only [ES, List.mem_cons, List.not_mem_nil, or_false] at hu
  rcases hu with rfl
  rfl
theorem ER.atStr {w : World} {A : Option Addr} {n : Nat} {l : List Str} (h : ER ES 1 w A n l) {i : Nat} (hi : i < n) : ∃ g o x, A = some ⟨g, o, none⟩ ∧ l[i]? = some x ∧ w.cell? ⟨g, o + i, none⟩ = some (.string ⟨x.toArray⟩) := by
  obtain ⟨g, o, x, e, h1, hc⟩ := h.get ES_len (by decide) hi
  exact ⟨g, o, x, e, h1, by simpa using hc 0 _ rfl⟩
theorem EM_one (x : Mb) : ∀ u ∈ EM x, u.oneCell' = true := by
  intro u hu
  simp only [EM, List.mem_cons, List.not_mem_nil, or_false] at hu
  rcases hu with rfl | rfl <;> rfl

theorem ER.atMb {w : World} {A : Option Addr} {n : Nat} {l : List Mb} (h : ER EM 2 w A n l) {i : Nat} (hi : i < n) : ∃ g o x, A = some ⟨g, o, none⟩ ∧ l[i]? = some x ∧ w.cell? ⟨g, o + i * 2, none⟩ = some (.string ⟨x.1.toArray⟩) ∧ w.cell? ⟨g, o + i * 2 + 1, none⟩ = some (.string ⟨x.2.toArray⟩) := by
  obtain ⟨g, o, x, e, h1, hc⟩ := h.get EM_len (by decide) hi
  exact ⟨g, o, x, e, h1, by simpa using hc 0 _ rfl, by simpa [Nat.add_assoc] using hc 1 _ rfl⟩
theorem EG_one (x : Gr) : ∀ u ∈ EG x, u.oneCell' = true := by
  intro u hu
  simp only [EG, List.mem_cons, List.not_mem_nil, or_false] at hu
  rcases hu with rfl | rfl | rfl | rfl | rfl <;> rfl

theorem ER.atGr {w : World} {A : Option Addr} {n : Nat} {l : List Gr} (h : ER EG 5 w A n l) {i : Nat} (hi : i < n) : ∃ g o x, A = some ⟨g, o, none⟩ ∧ l[i]? = some x ∧ w.cell? ⟨g, o + i * 5, none⟩ = some (.string ⟨x.tb.toArray⟩) ∧ w.cell? ⟨g, o + i * 5 + 1, none⟩ = some (.int .u8 x.pv) ∧ w.cell? ⟨g, o + i * 5 + 2, none⟩ = some (.string ⟨x.gt.toArray⟩) ∧ w.cell? ⟨g, o + i * 5 + 3, none⟩ = some (.string ⟨x.gb.toArray⟩) ∧ w.cell? ⟨g, o + i * 5 + 4, none⟩ = some (.bool x.op) := by
  obtain ⟨g, o, x, e, h1, hc⟩ := h.get EG_len (by decide) hi
  exact ⟨g, o, x, e, h1, by simpa using hc 0 _ rfl, by simpa [Nat.add_assoc] using hc 1 _ rfl, by simpa [Nat.add_assoc] using hc 2 _ rfl, by simpa [Nat.add_assoc] using hc 3 _ rfl, by simpa [Nat.add_assoc] using hc 4 _ rfl⟩
theorem info_Str' : ∃ i z, Try.prog.info? 9 = some i ∧ i.zero = some z ∧ z.cells.size = 1 ∧ i.size = 1 ∧ i.bytes = 16 := by
  have h : (match Try.prog.info? 9 with | some i => (match i.zero with | some z => z.cells.size == 1 | none => false) && i.size == 1 && i.bytes == 16 | none => false) = true := by kernel_rfl
  cases hi : Try.prog.info? 9 with
  | none => rw [hi] at h; cases h
  | some i =>
    rw [hi] at h
    cases hz : i.zero with
    | none => simp [hz] at h
    | some z => simp [hz] at h; exact ⟨i, z, rfl, hz, h.1.1, h.1.2, h.2⟩
theorem info_Mb' : ∃ i z, Try.prog.info? 52 = some i ∧ i.zero = some z ∧ z.cells.size = 2 ∧ i.size = 2 ∧ i.bytes = 32 := by
  have h : (match Try.prog.info? 52 with | some i => (match i.zero with | some z => z.cells.size == 2 | none => false) && i.size == 2 && i.bytes == 32 | none => false) = true := by kernel_rfl
  cases hi : Try.prog.info? 52 with
  | none => rw [hi] at h; cases h
  | some i =>
    rw [hi] at h
    cases hz : i.zero with
    | none => simp [hz] at h
    | some z => simp [hz] at h; exact ⟨i, z, rfl, hz, h.1.1, h.1.2, h.2⟩
theorem info_Gr' : ∃ i z, Try.prog.info? 30 = some i ∧ i.zero = some z ∧ z.cells.size = 5 ∧ i.size = 5 ∧ i.bytes = 64 := by
  have h : (match Try.prog.info? 30 with | some i => (match i.zero with | some z => z.cells.size == 5 | none => false) && i.size == 5 && i.bytes == 64 | none => false) = true := by kernel_rfl
  cases hi : Try.prog.info? 30 with
  | none => rw [hi] at h; cases h
  | some i =>
    rw [hi] at h
    cases hz : i.zero with
    | none => simp [hz] at h
    | some z => simp [hz] at h; exact ⟨i, z, rfl, hz, h.1.1, h.1.2, h.2⟩

set_option maxRecDepth 100000 in
set_option maxHeartbeats 1000000 in
theorem CopyTexts_any (A : Option Addr) (n c : Nat) (l : List Str) (w : World) (h : ER ES 1 w A n l) (hn : n ≤ 12000000000000) :
    Calls Try.prog 15 #[.slice A n c] w fun e w' => ∃ v, e = .returned v ∧ EO ES 1 9 w' w.heap.size v l ∧ Below w.heap.size w w' := by
  obtain ⟨i0, z, hi0, hz0, hzs, hz1, hz2⟩ := info_Str'
  have HS := Lib.hid h
  have HL := Lib.hid h.1
  clear h
  go_enter Try.func15, Try.ntmps15
  go_wp2_with fail
  go_loopw [3, 4] (fun v i wr => ∃ (k : Nat), k ≤ n ∧ i = .int .i64 (k : Int) ∧ EO ES 1 9 wr w.heap.size v (l.take k) ∧ Below w.heap.size w wr) (fun _ i _ => n - (intOf i).toNat)
  case atStart => exact ⟨0, Nat.zero_le _, rfl, by simpa using EO.nil _ _, gr_refl w⟩
  case round =>
    obtain ⟨k, hk, rfl, ho, hb⟩ := hrel
    have HO := Lib.hid ho
    have HB := Lib.hid hb
    have hkl : (l.take k).length = k := by rw [List.length_take, HL.out]; omega
    obtain ⟨Av, cv, rfl, _, _, _⟩ := ho.form
    have HKL := Lib.hid hkl
    rw [hkl] at ho HO ⊢
    by_cases hlt : k < n
    · have t1 : decide ((k : Int) < (n : Int)) = true := decide_eq_true (by omega)
      have t2 : decide (k < n) = true := decide_eq_true hlt
      have i0' : (0 : Int) ≤ (k : Int) := Int.natCast_nonneg _
      have i1' : (k : Int) < (n : Int) := by omega
      obtain ⟨g, o, x, rfl, hx, q0⟩ := (HS.out.below hb).atStr hlt
      have HT := Lib.hid (take_snoc hx)
      have hmx : k + 1 ≤ maxLen := by simp only [maxLen]; omega
      have HOW : Hid (wr.ownsRow w.heap.size 9 1 (.slice Av k cv) k ((l.take k).flatMap ES)) := Lib.hid (by have := HO.out; unfold EO at this; rw [HKL.out] at this; exact this)
      clear hx ho hb hkl
      go_wp2_with (at_builtin; refine wpList_append_Rd _ rfl (.tmp 11) (.tmp 16) _ rfl w.heap.size 9 i0 _ 1 16 Try.underlying40 hi0 hz0 hz1 hz2 hzs (.slice Av k cv) k _ rfl (ownsRow_off (S := fun _ => False) HOW.out (Off.of_below (gr_alloc (gr_refl wr) _)) (fun _ _ h => h)) (some ⟨wr.heap.size, 0, none⟩) 1 1 (ES x) rfl (rd_new1 _ _ _ _ rfl) (ES_one x) (by omega) hmx (gr_alloc HB.out _).size ?_; intro v4 w4 hown4 hg4 _ _; have hb4 : Below w.heap.size w w4 := (gr_alloc HB.out _).grown hg4 (gr_alloc HB.out _).size (fun j hj => (HOW.out.lt j hj).1))
      have R1 := EO.snoc hown4 HKL.out
      rw [← HT.out] at R1
      have HR := Lib.hid R1
      have HB4 := Lib.hid hb4
      clear R1 hown4 hg4 hb4 q0
      go_wp2_with fail
      go_roundw
      case rel => exact ⟨k + 1, by omega, by go_num, HR.out, HB4.out⟩
      case measure => simp [intOf]; omega
    · obtain rfl : k = n := by omega
      have t1 : decide ((k : Int) < (k : Int)) = false := decide_eq_false (by omega)
      have HF : Hid (EO ES 1 9 wr w.heap.size (.slice Av k cv) l) := Lib.hid (by have := HO.out; rwa [List.take_of_length_le (by rw [HL.out]; omega)] at this)
      clear ho hb hkl
      go_wp2_with fail
      go_ret
      exact ⟨_, rfl, HF.out, HB.out⟩

set_option maxRecDepth 100000 in
set_option maxHeartbeats 1000000 in
theorem CopyMembers_any (A : Option Addr) (n c : Nat) (l : List Mb) (w : World) (h : ER EM 2 w A n l) (hn : n ≤ 6000000000000) :
    Calls Try.prog 23 #[.slice A n c] w fun e w' => ∃ v, e = .returned v ∧ EO EM 2 52 w' w.heap.size v l ∧ Below w.heap.size w w' := by
  obtain ⟨i0, z, hi0, hz0, hzs, hz1, hz2⟩ := info_Mb'
  have HS := Lib.hid h
  have HL := Lib.hid h.1
  clear h
  go_enter Try.func23, Try.ntmps23
  go_wp2_with fail
  go_loopw [3, 4] (fun v i wr => ∃ (k : Nat), k ≤ n ∧ i = .int .i64 (k : Int) ∧ EO EM 2 52 wr w.heap.size v (l.take k) ∧ Below w.heap.size w wr) (fun _ i _ => n - (intOf i).toNat)
  case atStart => exact ⟨0, Nat.zero_le _, rfl, by simpa using EO.nil _ _, gr_refl w⟩
  case round =>
    obtain ⟨k, hk, rfl, ho, hb⟩ := hrel
    have HO := Lib.hid ho
    have HB := Lib.hid hb
    have hkl : (l.take k).length = k := by rw [List.length_take, HL.out]; omega
    obtain ⟨Av, cv, rfl, _, _, _⟩ := ho.form
    have HKL := Lib.hid hkl
    rw [hkl] at ho HO ⊢
    by_cases hlt : k < n
    · have t1 : decide ((k : Int) < (n : Int)) = true := decide_eq_true (by omega)
      have t2 : decide (k < n) = true := decide_eq_true hlt
      have i0' : (0 : Int) ≤ (k : Int) := Int.natCast_nonneg _
      have i1' : (k : Int) < (n : Int) := by omega
      obtain ⟨g, o, x, rfl, hx, q0, q1⟩ := (HS.out.below hb).atMb hlt
      have HT := Lib.hid (take_snoc hx)
      have hmx : k + 1 ≤ maxLen := by simp only [maxLen]; omega
      have HOW : Hid (wr.ownsRow w.heap.size 52 2 (.slice Av k cv) k ((l.take k).flatMap EM)) := Lib.hid (by have := HO.out; unfold EO at this; rw [HKL.out] at this; exact this)
      clear hx ho hb hkl
      go_wp2_with (at_builtin; refine wpList_append_Rd _ rfl (.tmp 11) (.tmp 16) _ rfl w.heap.size 52 i0 _ 2 32 Try.underlying50 hi0 hz0 hz1 hz2 hzs (.slice Av k cv) k _ rfl (ownsRow_off (S := fun _ => False) HOW.out (Off.of_below (gr_alloc (gr_refl wr) _)) (fun _ _ h => h)) (some ⟨wr.heap.size, 0, none⟩) 1 1 (EM x) rfl (rd_new1 _ _ _ _ rfl) (EM_one x) (by omega) hmx (gr_alloc HB.out _).size ?_; intro v4 w4 hown4 hg4 _ _; have hb4 : Below w.heap.size w w4 := (gr_alloc HB.out _).grown hg4 (gr_alloc HB.out _).size (fun j hj => (HOW.out.lt j hj).1))
      have R1 := EO.snoc hown4 HKL.out
      rw [← HT.out] at R1
      have HR := Lib.hid R1
      have HB4 := Lib.hid hb4
      clear R1 hown4 hg4 hb4 q0 q1
      go_wp2_with fail
      go_roundw
      case rel => exact ⟨k + 1, by omega, by go_num, HR.out, HB4.out⟩
      case measure => simp [intOf]; omega
    · obtain rfl : k = n := by omega
      have t1 : decide ((k : Int) < (k : Int)) = false := decide_eq_false (by omega)
      have HF : Hid (EO EM 2 52 wr w.heap.size (.slice Av k cv) l) := Lib.hid (by have := HO.out; rwa [List.take_of_length_le (by rw [HL.out]; omega)] at this)
      clear ho hb hkl
      go_wp2_with fail
      go_ret
      exact ⟨_, rfl, HF.out, HB.out⟩

set_option maxRecDepth 100000 in
set_option maxHeartbeats 1000000 in
theorem CopyGrants_any (A : Option Addr) (n c : Nat) (l : List Gr) (w : World) (h : ER EG 5 w A n l) (hn : n ≤ 3000000000000) :
    Calls Try.prog 9 #[.slice A n c] w fun e w' => ∃ v, e = .returned v ∧ EO EG 5 30 w' w.heap.size v l ∧ Below w.heap.size w w' := by
  obtain ⟨i0, z, hi0, hz0, hzs, hz1, hz2⟩ := info_Gr'
  have HS := Lib.hid h
  have HL := Lib.hid h.1
  clear h
  go_enter Try.func9, Try.ntmps9
  go_wp2_with fail
  go_loopw [3, 4] (fun v i wr => ∃ (k : Nat), k ≤ n ∧ i = .int .i64 (k : Int) ∧ EO EG 5 30 wr w.heap.size v (l.take k) ∧ Below w.heap.size w wr) (fun _ i _ => n - (intOf i).toNat)
  case atStart => exact ⟨0, Nat.zero_le _, rfl, by simpa using EO.nil _ _, gr_refl w⟩
  case round =>
    obtain ⟨k, hk, rfl, ho, hb⟩ := hrel
    have HO := Lib.hid ho
    have HB := Lib.hid hb
    have hkl : (l.take k).length = k := by rw [List.length_take, HL.out]; omega
    obtain ⟨Av, cv, rfl, _, _, _⟩ := ho.form
    have HKL := Lib.hid hkl
    rw [hkl] at ho HO ⊢
    by_cases hlt : k < n
    · have t1 : decide ((k : Int) < (n : Int)) = true := decide_eq_true (by omega)
      have t2 : decide (k < n) = true := decide_eq_true hlt
      have i0' : (0 : Int) ≤ (k : Int) := Int.natCast_nonneg _
      have i1' : (k : Int) < (n : Int) := by omega
      obtain ⟨g, o, x, rfl, hx, q0, q1, q2, q3, q4⟩ := (HS.out.below hb).atGr hlt
      have HT := Lib.hid (take_snoc hx)
      have hmx : k + 1 ≤ maxLen := by simp only [maxLen]; omega
      have HOW : Hid (wr.ownsRow w.heap.size 30 5 (.slice Av k cv) k ((l.take k).flatMap EG)) := Lib.hid (by have := HO.out; unfold EO at this; rw [HKL.out] at this; exact this)
      clear hx ho hb hkl
      go_wp2_with (at_builtin; refine wpList_append_Rd _ rfl (.tmp 11) (.tmp 16) _ rfl w.heap.size 30 i0 _ 5 64 Try.underlying22 hi0 hz0 hz1 hz2 hzs (.slice Av k cv) k _ rfl (ownsRow_off (S := fun _ => False) HOW.out (Off.of_below (gr_alloc (gr_refl wr) _)) (fun _ _ h => h)) (some ⟨wr.heap.size, 0, none⟩) 1 1 (EG x) rfl (rd_new1 _ _ _ _ rfl) (EG_one x) (by omega) hmx (gr_alloc HB.out _).size ?_; intro v4 w4 hown4 hg4 _ _; have hb4 : Below w.heap.size w w4 := (gr_alloc HB.out _).grown hg4 (gr_alloc HB.out _).size (fun j hj => (HOW.out.lt j hj).1))
      have R1 := EO.snoc hown4 HKL.out
      rw [← HT.out] at R1
      have HR := Lib.hid R1
      have HB4 := Lib.hid hb4
      clear R1 hown4 hg4 hb4 q0 q1 q2 q3 q4
      go_wp2_with fail
      go_roundw
      case rel => exact ⟨k + 1, by omega, by go_num, HR.out, HB4.out⟩
      case measure => simp [intOf]; omega
    · obtain rfl : k = n := by omega
      have t1 : decide ((k : Int) < (k : Int)) = false := decide_eq_false (by omega)
      have HF : Hid (EO EG 5 30 wr w.heap.size (.slice Av k cv) l) := Lib.hid (by have := HO.out; rwa [List.take_of_length_le (by rw [HL.out]; omega)] at this)
      clear ho hb hkl
      go_wp2_with fail
      go_ret
      exact ⟨_, rfl, HF.out, HB.out⟩

end Go.Proofs.Ytfgkadkmgciamaa
