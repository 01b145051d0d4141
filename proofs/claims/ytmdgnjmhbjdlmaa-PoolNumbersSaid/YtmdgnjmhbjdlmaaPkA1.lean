/-
  Texts of this claim, joined: Base, OctA, OctB, OctC, OctD, OctE, OctF, OctG, Mem, Low, Off, DkA, DkB, DkC. No statement of the program is proved here.
-/
import Derived.Test.YtmdgnjmhbjdlmaaRows
import Derived.WalkKit
import Derived.WalkSpells
import Derived.WalkLawsBesides
import Derived.Lib.Hide
import Derived.Lib.Bytealg
import Derived.Deep.QuietTactic
import Derived.BigQuiet
import Derived.Deep.AppendLies
import Derived.Deep.Draws
import Derived.Maps.AppendAt
import Derived.StillTailTactics
import Derived.Deep.RegionHeld3
import Derived.Deep.DeepCutAuto
import Derived.Deep.LoopGhost
import Derived.Laws.CopyOwn
import Derived.Laws.Cover3
import Derived.RangeFuncBox
import Derived.Laws.LoneSync
import Derived.Laws.Pointers
import Derived.LaidEqlPtr
/-! Base -/
namespace Go.Proofs.Ytmdgnjmhbjdlmaa
open Go.RowKit

section
variable {a w w' : World}
theorem gr_trans (h : Below a.heap.size a w) (k : Below w.heap.size w w') : Below a.heap.size a w' := h.trans (k.mono h.size)
theorem gr_alloc (h : Below a.heap.size a w) (o : Obj) : Below a.heap.size a (w.alloc o) := h.alloc h.size o
theorem gr_drewN (h : Below a.heap.size a w) (n : Nat) : Below a.heap.size a (w.drewN n) := ⟨h.os, h.tape, h.output, h.size, h.block⟩
theorem gr_refl (a : World) : Below a.heap.size a a := Below.refl _ _
theorem gr_own {e : TypeId} {size n : Nat} {v : Value} {xs : List Value} (h : Below a.heap.size a w) (ho : w.ownsRow a.heap.size e size v n xs) (hg : w.grownBy w' v.ownBlock) : Below a.heap.size a w' :=
  h.grown hg h.size (fun k hk => (ho.lt k hk).1)
end

def bv (x : UInt8) : Value := .int .u8 (x.toNat : Int)

theorem block_of_add (a : Addr) (n : Nat) : (a.add n).block = a.block := by unfold Addr.add; split <;> rfl
theorem add_of_add (a : Addr) (i j : Nat) : (a.add i).add j = a.add (i + j) := by
  unfold Addr.add
  by_cases hi : i = 0 <;> by_cases hj : j = 0 <;> simp [hi, hj, Nat.add_assoc]

/-- The slice value '.slice A n c' holds the cells xs ('size' cells an element). -/
def Rd (w : World) (size : Nat) (A : Option Addr) (n : Nat) (xs : List Value) : Prop :=
  xs.length = n * size ∧ (0 < n → ∃ ad, A = some ad ∧ ∀ j u, xs[j]? = some u → w.cell? (ad.add j) = some u)

/-- The slice value '.slice A n c' holds the bytes l. -/
def BR (w : World) (A : Option Addr) (n : Nat) (l : List UInt8) : Prop := Rd w 1 A n (l.map bv)

section
variable {w w' : World} {size n : Nat} {A : Option Addr} {xs : List Value} {l : List UInt8}
theorem Rd.keep (h : Rd w size A n xs) (hk : ∀ (p : Addr) u, w.cell? p = some u → w'.cell? p = some u) : Rd w' size A n xs :=
  ⟨h.1, fun hn => by
    obtain ⟨ad, e, hc⟩ := h.2 hn
    exact ⟨ad, e, fun j u hu => hk _ _ (hc j u hu)⟩⟩
theorem keep_of_below {u : Value} {p : Addr} (hb : Below w.heap.size w w') (h : w.cell? p = some u) : w'.cell? p = some u :=
  (hb.cell (World.block_lt_of_cell? w p h)).trans h
theorem Rd.below (h : Rd w size A n xs) (hb : Below w.heap.size w w') : Rd w' size A n xs := h.keep fun _ _ hp => keep_of_below hb hp
theorem Rd.drewN (h : Rd w size A n xs) (k : Nat) : Rd (w.drewN k) size A n xs := h
theorem Rd.alloc (h : Rd w size A n xs) (o : Obj) : Rd (w.alloc o) size A n xs := h.below ((Below.refl _ _).alloc (Nat.le_refl _) _)
theorem BR.below (h : BR w A n l) (hb : Below w.heap.size w w') : BR w' A n l := Rd.below h hb
theorem BR.alloc (h : BR w A n l) (o : Obj) : BR (w.alloc o) A n l := Rd.alloc h o
theorem BR.drewN (h : BR w A n l) (k : Nat) : BR (w.drewN k) A n l := h
theorem BR.drew (h : BR w A n l) : BR w.drew A n l := h
theorem BR.len (h : BR w A n l) : l.length = n := by have := h.1; simpa using this
theorem BR.none_ (w : World) (A : Option Addr) : BR w A 0 [] := ⟨rfl, fun h => absurd h (by omega)⟩
theorem Rd.plain (h : Rd w size A n xs) (hn : 0 < n) (hs : 0 < size) : ∃ g o, A = some ⟨g, o, none⟩ ∧ ∀ j u, xs[j]? = some u → w.cell? ⟨g, o + j, none⟩ = some u := by
  obtain ⟨⟨g, o, spot⟩, rfl, hc⟩ := h.2 hn
  have hl : 0 < xs.length := by rw [h.1]; exact Nat.mul_pos hn hs
  have hspot : spot = none := by simpa [Addr.add] using World.cell?_spot (hc 0 _ (List.getElem?_eq_getElem hl))
  subst hspot
  exact ⟨g, o, rfl, fun j u hu => by rw [← Go.WideShapes.add_plain]; exact hc j u hu⟩
theorem BR.at_ (h : BR w A n l) {k : Nat} (hk : k < n) : ∃ g o, A = some ⟨g, o, none⟩ ∧ w.cell? ⟨g, o + k, none⟩ = some (.int .u8 ((l.getD k 0).toNat : Int)) := by
  obtain ⟨g, o, e, hc⟩ := Rd.plain h (by omega) (by omega)
  have hl : k < l.length := by rw [h.len]; exact hk
  refine ⟨g, o, e, hc k _ ?_⟩
  simp [List.getElem?_eq_getElem hl, bv, List.getD]
theorem BR.load (h : BR w A n l) (P : Program) {ad : Addr} (e : A = some ad) :
    (loadCells ad n).run P w = .ok ((l.map fun x => ((x.toNat : Nat) : Int)).map (Value.int .u8)).toArray w := by
  subst e
  have := run_loadCells_list (P := P) w ad (l.map bv) (fun j v hj => by
    have hl : j < l.length := by
      rcases Nat.lt_or_ge j l.length with h | h
      · exact h
      · simp [List.getElem?_eq_none h] at hj
    obtain ⟨ad', e, hc⟩ := h.2 (by have := h.len; omega)
    injection e with e
    subst e
    exact hc j v hj)
  simp only [List.length_map] at this
  rw [h.len] at this
  rw [this]
  simp [bv]
end

theorem ofNat_toNat_bytes (l : List UInt8) : (l.map fun x => ((x.toNat : Nat) : Int)).map (fun n => UInt8.ofNat n.toNat) = l := by
  rw [List.map_map]
  conv => rhs; rw [← List.map_id l]
  exact List.map_congr_left fun x _ => by simp

theorem run_loadBytes {P : Program} (w : World) : ∀ (l : List UInt8) (ad : Addr) (acc : ByteArray), (∀ j, j < l.length → w.cell? (ad.add j) = some (.int .u8 ((l.getD j 0).toNat : Int))) →
    (Extern.Bytes.loadBytes ad l.length acc).run P w = .ok ⟨acc.data ++ l.toArray⟩ w := by
  intro l
  induction l with
  | nil => intro ad acc _; simp [Extern.Bytes.loadBytes]
  | cons x l ih =>
    intro ad acc h
    have h0 : w.cell? ad = some (.int .u8 (x.toNat : Int)) := by
      have := h 0 (by simp)
      simpa [Addr.add] using this
    have hs : ∀ j, j < l.length → w.cell? ((ad.add 1).add j) = some (.int .u8 ((l.getD j 0).toNat : Int)) := by
      intro j hj
      rw [add_of_add, Nat.add_comm 1 j]
      have := h (j + 1) (by simpa using hj)
      simpa using this
    simp only [List.length_cons, Extern.Bytes.loadBytes, Sem.run_bind]
    have hl : (load ad).run P w = .ok (.int .u8 (x.toNat : Int)) w := by simp [run_load, h0]
    rw [hl]
    simp only [Result.andThen]
    rw [ih _ _ hs]
    simp [ByteArray.push]


theorem nextslicecap_quarter {need old : Nat} (h : old < need) : Builtin.nextslicecap need old ≤ need + need / 4 + 256 := by
  unfold Builtin.nextslicecap
  split
  · omega
  · split
    · omega
    · rw [growBy_four]
      repeat' split
      all_goals omega

section
variable {P : Program} (w : World)

theorem run_append_of_nil (base : Nat) (t ty e : TypeId) (i : TypeInfo) (size : Nat) (ht : P.underlying t = some (.slice e)) (hi : P.info? e = some i)
    (v : Value) (n : Nat) (xs : List Value) (hown : w.ownsRow base e size v n xs) (c : Nat) : (Builtin.append_ #[t, t] ty #[v, .slice none 0 c]).run P w = .ok v w := by
  rcases hown.2 with ⟨rfl, rfl⟩ | ⟨g, cap, cur, rfl, _, _, hnc, _⟩
  · simp [Builtin.append_, run_underlying ht, sizeOf, typeInfo, hi, Builtin.lenOf, Builtin.firstCells]
  · simp [Builtin.append_, run_underlying ht, sizeOf, typeInfo, hi, Builtin.lenOf, Builtin.firstCells, hnc, storeCells]

/-- append onto a row of the call's own, whatever the source; the bound is Go's own (a quarter of growth lets 2^48 bytes stand). -/
theorem run_append_Rd (base : Nat) (t ty e : TypeId) (i : TypeInfo) (z : Value) (size bytes : Nat) (ht : P.underlying t = some (.slice e)) (hi : P.info? e = some i) (hz : i.zero = some z)
    (hsize : i.size = size) (hby : i.bytes = bytes) (hzs : z.cells.size = size)
    (v : Value) (n : Nat) (xs : List Value) (hown : w.ownsRow base e size v n xs)
    (A : Option Addr) (m c : Nat) (news : List Value) (hr : Rd w size A m news) (h1 : ∀ u ∈ news, u.oneCell' = true)
    (hbytes : (n + m + (n + m) / 4 + 256) * bytes ≤ 281474976710656) (h63 : n + m ≤ maxLen) (hbase : base ≤ w.heap.size) :
    ∃ v' w', (Builtin.append_ #[t, t] ty #[v, .slice A m c]).run P w = .ok v' w' ∧ w'.ownsRow base e size v' (n + m) (xs ++ news) ∧ w.grownBy w' v.ownBlock ∧
      (v' = .slice none 0 0 ↔ v = .slice none 0 0 ∧ m = 0) ∧ (v'.ownBlock = v.ownBlock ∨ (v'.ownBlock = some w.heap.size ∧ w.grownBy w' none)) := by
  rcases Nat.eq_zero_or_pos m with h0 | h0
  · subst h0
    have hn : news = [] := List.eq_nil_of_length_eq_zero (by simpa using hr.1)
    subst hn
    rcases A with _ | ad
    · exact ⟨v, w, run_append_of_nil w base t ty e i size ht hi v n xs hown c, by simpa using hown, World.grownBy.refl w _, by simp, .inl rfl⟩
    · refine ⟨v, w, ?_, by simpa using hown, World.grownBy.refl w _, by simp, .inl rfl⟩
      rcases hown.2 with ⟨rfl, rfl⟩ | ⟨g, cap, cur, rfl, _, _, hnc, _⟩
      · simp [Builtin.append_, run_underlying ht, sizeOf, typeInfo, hi, Builtin.lenOf, Builtin.firstCells, loadCells, loadCellsFrom]
      · simp [Builtin.append_, run_underlying ht, sizeOf, typeInfo, hi, Builtin.lenOf, Builtin.firstCells, loadCells, loadCellsFrom, hnc, storeCells]
  · obtain ⟨a, rfl, hnews⟩ := hr.2 h0
    have hl := hr.1
    subst hsize
    subst hby
    have hsmall : n + m ≤ 9223372036854775807 := by simp only [maxLen] at h63; omega
    have hlen : (xs ++ news).length = (n + m) * i.size := by rw [List.length_append, hown.1, hl, Nat.add_mul]
    have hfits : ∀ old, old < n + m → Builtin.nextslicecap (n + m) old * i.bytes ≤ 281474976710656 := fun old ho =>
      Nat.le_trans (Nat.mul_le_mul_right _ (nextslicecap_quarter ho)) hbytes
    have grown : ∀ (old : Nat), old < n + m → ∀ (row : Option Nat),
        (w.drew.alloc (.cells (xs.toArray ++ news.toArray ++ Builtin.zeroCells z.cells (grownCap w (n + m) old e - (n + m))) e)).ownsRow base e i.size
          (.slice (some ⟨w.heap.size, 0, none⟩) (n + m) (grownCap w (n + m) old e)) (n + m) (xs ++ news) ∧
        w.grownBy (w.drew.alloc (.cells (xs.toArray ++ news.toArray ++ Builtin.zeroCells z.cells (grownCap w (n + m) old e - (n + m))) e)) row := by
      intro old ho row
      have hge := grownCap_ge w (n + m) old e
      have hcm : grownCap w (n + m) old e ≤ maxLen := grownCap_le_maxLen w (n + m) old e h63
      refine ⟨⟨hlen, .inr ⟨w.heap.size, _, _, rfl, hbase, heap_alloc_new w.drew _, hge, hcm, ?_, ?_⟩⟩, ⟨rfl, rfl, rfl, by simp, fun k hk _ => Below.heap_alloc w.drew _ k hk⟩⟩
      · simp only [Array.size_append, List.size_toArray, size_zeroCells, hzs, hown.1, hl, ← Nat.add_mul]
        congr 1
        omega
      · simp only [Array.toList_append, List.append_assoc]
        rw [← List.append_assoc, ← hlen]
        exact List.take_left
    rcases hown.2 with ⟨rfl, rfl⟩ | ⟨g, cap, cur, rfl, hbg, hg, hnc, hcm, hcs, htake⟩
    · have hx : xs = [] := List.eq_nil_of_length_eq_zero (by simpa using hown.1)
      subst hx
      have hb1 : m * i.bytes ≤ 281474976710656 := Nat.le_trans (Nat.mul_le_mul_right _ (by omega)) hbytes
      have hr := run_append_nil (P := P) w t ty e i z ht hi hz a m c news hl hnews (by omega) (by omega) hb1
      have hgr := grown 0 (by omega) (Value.ownBlock (.slice none 0 0))
      have hgn := (grown 0 (by omega) none).2
      simp only [Nat.zero_add, List.nil_append, Array.empty_append] at hgr hgn ⊢
      exact ⟨_, _, hr, hgr.1, hgr.2, by simp; omega, Or.inr ⟨rfl, hgn⟩⟩
    · by_cases hroom : n + m ≤ cap
      · have hfit : n * i.size + news.length ≤ cur.size := by rw [hl, hcs, ← Nat.add_mul]; exact Nat.mul_le_mul_right _ hroom
        have hr := run_append_room (P := P) w t ty e i ht hi g n cap cur hg a m c news hl hnews h1 hroom hfit
        refine ⟨_, _, hr, ⟨hlen, .inr ⟨g, cap, _, rfl, hbg, setRow_heap w g cur _ e _ hg, hroom, hcm, ?_, ?_⟩⟩, ⟨rfl, rfl, rfl, by simp, fun k _ hk => setRow_other w g k _ (fun e => hk (by simp [Value.ownBlock, e]))⟩, by simp, Or.inl rfl⟩
        · simp only [List.size_toArray, List.length_append, List.length_take, List.length_drop, Array.length_toList]
          omega
        · rw [htake, ← hlen]
          exact List.take_left
      · have holds : ∀ j u, xs[j]? = some u → w.cell? ((⟨g, 0, none⟩ : Addr).add j) = some u := hown.cells (g := g) rfl
        have hr := run_append_grow (P := P) w t ty e i z ht hi hz ⟨g, 0, none⟩ n cap xs hown.1 holds a m c news hl hnews (by omega) (by omega) (hfits cap (by omega))
        have hgr := grown cap (by omega) (Value.ownBlock (.slice (some ⟨g, 0, none⟩) n cap))
        exact ⟨_, _, hr, hgr.1, hgr.2, by simp, Or.inr ⟨rfl, (grown cap (by omega) none).2⟩⟩

theorem wp_append_Rd {o : Oper} {a : Act} {K : Act → World → Prop} {Q : Exit → Act → World → Prop} (s x : Operand) (t : TypeId)
    (ho : o.op = .call { callee := .builtin .append, args := #[s, x], argTypes := #[t, t] })
    (base : Nat) (e : TypeId) (i : TypeInfo) (z : Value) (size bytes : Nat) (ht : P.underlying t = some (.slice e)) (hi : P.info? e = some i) (hz : i.zero = some z)
    (hsize : i.size = size) (hby : i.bytes = bytes) (hzs : z.cells.size = size)
    (v : Value) (n : Nat) (xs : List Value) (hs : a.eval s = v) (hown : w.ownsRow base e size v n xs)
    (A : Option Addr) (m c : Nat) (news : List Value) (hx : a.eval x = .slice A m c) (hr : Rd w size A m news) (h1 : ∀ u ∈ news, u.oneCell' = true)
    (hbytes : (n + m + (n + m) / 4 + 256) * bytes ≤ 281474976710656) (h63 : n + m ≤ maxLen) (hbase : base ≤ w.heap.size)
    (h : ∀ v' w', w'.ownsRow base e size v' (n + m) (xs ++ news) → w.grownBy w' v.ownBlock → (v' = .slice none 0 0 ↔ v = .slice none 0 0 ∧ m = 0) → (v'.ownBlock = v.ownBlock ∨ (v'.ownBlock = some w.heap.size ∧ w.grownBy w' none)) → K (a.put o.dst v') w') : o.wp P a w K Q := by
  obtain ⟨v', w', hrun, h2, h3, h4, h5⟩ := run_append_Rd (P := P) w base t o.type e i z size bytes ht hi hz hsize hby hzs v n xs hown A m c news hr h1 hbytes h63 hbase
  unfold Oper.wp execOp
  simp only [ho, resolve, invoke, builtin, Sem.run_bind, Sem.run_pure, Result.andThen_ok, List.map_toArray, List.map_cons, List.map_nil, hs, hx, hrun]
  exact h v' w' h2 h3 h4 h5

theorem wpList_append_Rd {ops : Array Oper} {rest : List Oper} {o : Oper} {a : Act} {Q : Exit → Act → World → Prop} (hgd : o.guard = none) (s x : Operand) (t : TypeId)
    (ho : o.op = .call { callee := .builtin .append, args := #[s, x], argTypes := #[t, t] })
    (base : Nat) (e : TypeId) (i : TypeInfo) (z : Value) (size bytes : Nat) (ht : P.underlying t = some (.slice e)) (hi : P.info? e = some i) (hz : i.zero = some z)
    (hsize : i.size = size) (hby : i.bytes = bytes) (hzs : z.cells.size = size)
    (v : Value) (n : Nat) (xs : List Value) (hs : a.eval s = v) (hown : w.ownsRow base e size v n xs)
    (A : Option Addr) (m c : Nat) (news : List Value) (hx : a.eval x = .slice A m c) (hr : Rd w size A m news) (h1 : ∀ u ∈ news, u.oneCell' = true)
    (hbytes : (n + m + (n + m) / 4 + 256) * bytes ≤ 281474976710656) (h63 : n + m ≤ maxLen) (hbase : base ≤ w.heap.size)
    (h : ∀ v' w', w'.ownsRow base e size v' (n + m) (xs ++ news) → w.grownBy w' v.ownBlock → (v' = .slice none 0 0 ↔ v = .slice none 0 0 ∧ m = 0) → (v'.ownBlock = v.ownBlock ∨ (v'.ownBlock = some w.heap.size ∧ w.grownBy w' none)) → wpList P ops Q rest (a.put o.dst v') w') : wpList P ops Q (o :: rest) a w :=
  wpList_plain hgd fun _ hK => wp_append_Rd w s x t ho base e i z size bytes ht hi hz hsize hby hzs v n xs hs hown A m c news hx hr h1 hbytes h63 hbase fun v' w' h2 h3 h4 h5 => hK _ _ (h v' w' h2 h3 h4 h5)

/-- The same, of an operation behind a guard that lets it run. -/
theorem wpList_append_RdW {ops : Array Oper} {rest : List Oper} {o : Oper} {a : Act} {Q : Exit → Act → World → Prop} (hw : Region.wanted o (yielded ops a.tmps) = true) (s x : Operand) (t : TypeId)
    (ho : o.op = .call { callee := .builtin .append, args := #[s, x], argTypes := #[t, t] })
    (base : Nat) (e : TypeId) (i : TypeInfo) (z : Value) (size bytes : Nat) (ht : P.underlying t = some (.slice e)) (hi : P.info? e = some i) (hz : i.zero = some z)
    (hsize : i.size = size) (hby : i.bytes = bytes) (hzs : z.cells.size = size)
    (v : Value) (n : Nat) (xs : List Value) (hs : a.eval s = v) (hown : w.ownsRow base e size v n xs)
    (A : Option Addr) (m c : Nat) (news : List Value) (hx : a.eval x = .slice A m c) (hr : Rd w size A m news) (h1 : ∀ u ∈ news, u.oneCell' = true)
    (hbytes : (n + m + (n + m) / 4 + 256) * bytes ≤ 281474976710656) (h63 : n + m ≤ maxLen) (hbase : base ≤ w.heap.size)
    (h : ∀ v' w', w'.ownsRow base e size v' (n + m) (xs ++ news) → w.grownBy w' v.ownBlock → (v' = .slice none 0 0 ↔ v = .slice none 0 0 ∧ m = 0) → (v'.ownBlock = v.ownBlock ∨ (v'.ownBlock = some w.heap.size ∧ w.grownBy w' none)) → wpList P ops Q rest (a.put o.dst v') w') : wpList P ops Q (o :: rest) a w :=
  wpList_step fun _ hK => by
    rw [if_pos hw]
    exact wp_append_Rd w s x t ho base e i z size bytes ht hi hz hsize hby hzs v n xs hs hown A m c news hx hr h1 hbytes h63 hbase fun v' w' h2 h3 h4 h5 => hK _ _ (h v' w' h2 h3 h4 h5)

theorem step_append_Rd {ops : Array Oper} {o : Oper} {a : Act} {K : Act → World → Prop} {Q : Exit → Act → World → Prop} {E : Prop} (hgd : o.guard = none) (s x : Operand) (t : TypeId)
    (ho : o.op = .call { callee := .builtin .append, args := #[s, x], argTypes := #[t, t] })
    (base : Nat) (e : TypeId) (i : TypeInfo) (z : Value) (size bytes : Nat) (ht : P.underlying t = some (.slice e)) (hi : P.info? e = some i) (hz : i.zero = some z)
    (hsize : i.size = size) (hby : i.bytes = bytes) (hzs : z.cells.size = size)
    (v : Value) (n : Nat) (xs : List Value) (hs : a.eval s = v) (hown : w.ownsRow base e size v n xs)
    (A : Option Addr) (m c : Nat) (news : List Value) (hx : a.eval x = .slice A m c) (hr : Rd w size A m news) (h1 : ∀ u ∈ news, u.oneCell' = true)
    (hbytes : (n + m + (n + m) / 4 + 256) * bytes ≤ 281474976710656) (h63 : n + m ≤ maxLen) (hbase : base ≤ w.heap.size)
    (h : ∀ v' w', w'.ownsRow base e size v' (n + m) (xs ++ news) → w.grownBy w' v.ownBlock → (v' = .slice none 0 0 ↔ v = .slice none 0 0 ∧ m = 0) → (v'.ownBlock = v.ownBlock ∨ (v'.ownBlock = some w.heap.size ∧ w.grownBy w' none)) → K (a.put o.dst v') w') :
    if Region.wanted o (yielded ops a.tmps) = true then Oper.wp P o a w K Q else E := by
  have hw : Region.wanted o (yielded ops a.tmps) = true := by simp [Region.wanted, hgd]
  rw [if_pos hw]
  exact wp_append_Rd w s x t ho base e i z size bytes ht hi hz hsize hby hzs v n xs hs hown A m c news hx hr h1 hbytes h63 hbase h
end

/-- A row of the call's own that holds the bytes l, in a block from base on. -/
def OB (w : World) (base : Nat) (v : Value) (l : List UInt8) : Prop := w.ownsRow base 5 1 v l.length (l.map bv)

theorem one_bv (l : List UInt8) : ∀ u ∈ l.map bv, u.oneCell' = true := by
  intro u hu
  obtain ⟨x, _, rfl⟩ := List.mem_map.1 hu
  rfl

section
variable {w w' : World} {base : Nat} {v : Value} {l : List UInt8}
theorem OB.nil (w : World) (base : Nat) : OB w base (.slice none 0 0) [] := ⟨rfl, .inl ⟨rfl, rfl⟩⟩
theorem OB.form (h : OB w base v l) : ∃ A c, v = .slice A l.length c ∧ BR w A l.length l ∧ l.length ≤ c ∧ c ≤ maxLen := by
  rcases h.2 with ⟨rfl, h0⟩ | ⟨g, cap, cur, rfl, hb, hg, hn, hm, hc, ht⟩
  · have : l = [] := List.eq_nil_of_length_eq_zero h0
    subst this
    exact ⟨none, 0, rfl, BR.none_ _ _, Nat.le_refl _, Nat.zero_le _⟩
  · refine ⟨_, cap, rfl, ⟨by simp, fun _ => ⟨_, rfl, h.cells (g := g) rfl⟩⟩, hn, hm⟩
theorem OB.formN (h : OB w base v l) {n : Nat} (hn : l.length = n) : ∃ A c, v = .slice A n c ∧ BR w A n l ∧ n ≤ c ∧ c ≤ maxLen := by
  subst hn
  exact h.form
theorem OB.below (h : OB w base v l) (hb : Below w.heap.size w w') : OB w' base v l :=
  h.kept (row := none) ⟨hb.os, hb.tape, hb.output, hb.size, fun k hk _ => hb.block k hk⟩ (by cases v.ownBlock <;> simp)
theorem OB.lower {b : Nat} (h : OB w base v l) (hb : b ≤ base) : OB w b v l := by
  refine ⟨h.1, ?_⟩
  rcases h.2 with h | ⟨g, cap, cur, rfl, hg, r⟩
  · exact .inl h
  · exact .inr ⟨g, cap, cur, rfl, by omega, r⟩
end

theorem add_plain (g j : Nat) : (⟨g, 0, none⟩ : Addr).add j = ⟨g, j, none⟩ := by unfold Addr.add; split <;> simp_all

/-- A block that was just made, read as a slice. -/
theorem Rd.new (w : World) (t : TypeId) (cs : Array Value) (n size : Nat) (h : cs.size = n * size) : Rd (w.alloc (.cells cs t)) size (some ⟨w.heap.size, 0, none⟩) n cs.toList := by
  refine ⟨by simpa using h, fun _ => ⟨_, rfl, fun j u hu => ?_⟩⟩
  rw [add_plain]
  have hb : (w.alloc (.cells cs t)).heap[w.heap.size]? = some (.cells cs t (0, 0)) := heap_alloc_new w _
  rw [cell_of_row _ _ _ cs t (0, 0) hb]
  simpa using hu

/-- Bytes that were just written out. -/
theorem BR.lit (w : World) (t : TypeId) (l : List UInt8) (cs : Array Value) (h : cs.toList = l.map bv) : BR (w.alloc (.cells cs t)) (some ⟨w.heap.size, 0, none⟩) l.length l := by
  have hs : cs.size = l.length * 1 := by have := congrArg List.length h; simpa using this
  have := Rd.new w t cs l.length 1 hs
  rw [h] at this
  exact this

theorem BR.litAt (w : World) (t : TypeId) (l : List UInt8) (cs : Array Value) (g n : Nat) (hg : w.heap.size = g) (hn : l.length = n) (h : cs.toList = l.map bv) : BR (w.alloc (.cells cs t)) (some ⟨g, 0, none⟩) n l := by
  subst hg hn
  exact BR.lit w t l cs h

theorem OB.of_own {w : World} {base : Nat} {v : Value} {n : Nat} {xs : List Value} {l : List UInt8} (h : w.ownsRow base 5 1 v n xs) (e : xs = l.map bv) : OB w base v l := by
  subst e
  have : n = l.length := by have := h.1; simp at this; exact this.symm
  subst this
  exact h

theorem own_form {w : World} {base : Nat} {e : TypeId} {size : Nat} {v : Value} {n : Nat} {xs : List Value} (h : w.ownsRow base e size v n xs) : ∃ A c, v = .slice A n c ∧ n ≤ c ∧ c ≤ maxLen := by
  rcases h.2 with ⟨rfl, rfl⟩ | ⟨g, cap, cur, rfl, hb, hg, hn, hm, hc, ht⟩
  · exact ⟨none, 0, rfl, Nat.le_refl _, Nat.zero_le _⟩
  · exact ⟨_, cap, rfl, hn, hm⟩

/-- Where 's[k:..]' begins ('size' cells an element). -/
def cutA (A : Option Addr) (c k size : Nat) : Option Addr := if c = k then A else A.map (·.add (k * size))

section
variable {P : Program} (W : World) (t e : TypeId) (i : TypeInfo) (ht : P.underlying t = some (.slice e)) (hi : P.info? e = some i) (size : Nat) (hs : i.size = size) (A : Option Addr) (n c : Nat)
include ht hi hs
theorem run_cut_lh (lo hi' : Int) (l h : Nat) (el : lo = l) (eh : hi' = h) (h1 : l ≤ h) (h2 : h ≤ c) :
    (Instr.slice t (.slice A n c) (some (.int .i64 lo)) (some (.int .i64 hi')) none).run P W = .ok (.slice (cutA A c l size) (h - l) (c - l)) W := by
  subst el eh
  have ht' : P.underlying t = some (.slice (P.elem t)) := by simp [Program.elem, ht]
  have he : P.elem t = e := by simp [Program.elem, ht]
  rw [run_slice_lh W t _ _ _ ht' .i64 .i64 _ _ (by omega) (by omega) (by omega), he]
  simp [sizeOf, typeInfo, hi, hs, sliced, cutA]
theorem run_cut_h (hi' : Int) (h : Nat) (eh : hi' = h) (h2 : h ≤ c) :
    (Instr.slice t (.slice A n c) none (some (.int .i64 hi')) none).run P W = .ok (.slice A h c) W := by
  subst eh
  have ht' : P.underlying t = some (.slice (P.elem t)) := by simp [Program.elem, ht]
  have he : P.elem t = e := by simp [Program.elem, ht]
  rw [run_slice_h W t _ _ _ ht' .i64 _ (by omega) (by omega), he]
  have : A.map (·.add 0) = A := by cases A <;> simp [Addr.add]
  simp [sizeOf, typeInfo, hi, hs, sliced, this]
theorem run_cut_l (lo : Int) (l : Nat) (el : lo = l) (h1 : l ≤ n) :
    (Instr.slice t (.slice A n c) (some (.int .i64 lo)) none none).run P W = .ok (.slice (cutA A c l size) (n - l) (c - l)) W := by
  subst el
  have ht' : P.underlying t = some (.slice (P.elem t)) := by simp [Program.elem, ht]
  have he : P.elem t = e := by simp [Program.elem, ht]
  rw [run_slice_l W t _ _ _ ht' .i64 _ (by omega) (by omega), he]
  simp [sizeOf, typeInfo, hi, hs, sliced, cutA]
end

theorem Rd.cut {w : World} {size : Nat} {A : Option Addr} {n : Nat} {xs : List Value} (h : Rd w size A n xs) {k j c : Nat} (hk : k ≤ j) (hj : j ≤ n) (hc : n ≤ c) :
    Rd w size (cutA A c k size) (j - k) ((xs.drop (k * size)).take ((j - k) * size)) := by
  refine ⟨?_, fun hn => ?_⟩
  · rw [List.length_take, List.length_drop, h.1, ← Nat.sub_mul]
    exact Nat.min_eq_left (Nat.mul_le_mul_right _ (by omega))
  · obtain ⟨ad, rfl, hcell⟩ := h.2 (by omega)
    unfold cutA
    rw [if_neg (by omega)]
    refine ⟨ad.add (k * size), rfl, fun i u hu => ?_⟩
    rw [add_of_add]
    refine hcell _ u ?_
    rw [List.getElem?_take] at hu
    split at hu
    · rw [← hu, List.getElem?_drop]
    · cases hu

theorem BR.cut {w : World} {A : Option Addr} {n : Nat} {l : List UInt8} (h : BR w A n l) {k j c : Nat} (hk : k ≤ j) (hj : j ≤ n) (hc : n ≤ c) :
    BR w (cutA A c k 1) (j - k) ((l.drop k).take (j - k)) := by
  have := Rd.cut h hk hj hc
  unfold BR
  simpa [List.map_take, List.map_drop] using this

theorem BR.pre {w : World} {A : Option Addr} {n : Nat} {l : List UInt8} (h : BR w A n l) {j : Nat} (hj : j ≤ n) : BR w A j (l.take j) := by
  refine ⟨?_, fun hn => ?_⟩
  · have := h.len; simp; omega
  · obtain ⟨ad, e, hc⟩ := h.2 (by omega)
    refine ⟨ad, e, fun i u hu => hc i u ?_⟩
    rw [List.map_take, List.getElem?_take] at hu
    split at hu
    · exact hu
    · cases hu

/-- So many noughts. -/
def zeroB (n : Nat) : Array Value := madeCells #[.int .u8 0] n

theorem zeroB_toList (n : Nat) : (zeroB n).toList = (List.replicate n (0 : UInt8)).map bv := by
  unfold zeroB
  rw [toList_madeCells_one, List.map_replicate]
  rfl

theorem info_u8 : (Try.prog.info? 5).map (fun i => (i.zero, i.size, i.bytes)) = some (some (.int .u8 0), 1, 1) := by kernel_rfl

theorem run_mk_bytes (n : Nat) (hn : n ≤ 281474976710656) (x : Int) (hx : x = n) (u : World) :
    (Instr.makeSlice 26 (.int .i64 x) (.int .i64 x)).run Try.prog u = .ok (.slice (some ⟨u.heap.size, 0, none⟩) n n) (u.alloc (.cells (zeroB n) 5)) := by
  obtain ⟨i0, hi0, hz0, hz1, hz2⟩ := info_parts info_u8
  subst hx
  have h := run_make (P := Try.prog) u 26 5 i0 (.int .u8 0) Try.underlying26 hi0 hz0 .i64 .i64 (n : Int) (n : Int) (by omega) (by omega) (by rw [hz2]; omega) (by omega)
  simpa [hz1, Value.cells, zeroB] using h

theorem BR.zero (w : World) (t : TypeId) (n g : Nat) (hg : w.heap.size = g) : BR (w.alloc (.cells (zeroB n) t)) (some ⟨g, 0, none⟩) n (List.replicate n 0) :=
  BR.litAt w t (List.replicate n 0) (zeroB n) g n hg (by simp) (zeroB_toList n)

theorem OB.zero (w : World) (n : Nat) (hn : n ≤ maxLen) : OB (w.alloc (.cells (zeroB n) 5)) w.heap.size (.slice (some ⟨w.heap.size, 0, none⟩) n n) (List.replicate n 0) := by
  refine OB.of_own (n := n) (xs := (List.replicate n (0 : UInt8)).map bv) ⟨by simp, .inr ⟨w.heap.size, n, zeroB n, rfl, Nat.le_refl _, heap_alloc_new w _, Nat.le_refl _, hn, ?_, ?_⟩⟩ rfl
  · have := congrArg List.length (zeroB_toList n); simpa using this
  · rw [zeroB_toList]; simp

/-- The slice value '.slice A n c' holds the ints l. -/
def IR (w : World) (A : Option Addr) (n : Nat) (l : List Int) : Prop := Rd w 1 A n (l.map (Value.int .i64))
section
variable {w w' : World} {n : Nat} {A : Option Addr} {l : List Int}
theorem IR.below (h : IR w A n l) (hb : Below w.heap.size w w') : IR w' A n l := Rd.below h hb
theorem IR.len (h : IR w A n l) : l.length = n := by have := h.1; simpa using this
theorem IR.none_ (w : World) (A : Option Addr) : IR w A 0 [] := ⟨rfl, fun h => absurd h (by omega)⟩
theorem IR.at_ (h : IR w A n l) {k : Nat} (hk : k < n) : ∃ g o, A = some ⟨g, o, none⟩ ∧ w.cell? ⟨g, o + k, none⟩ = some (.int .i64 (l.getD k 0)) := by
  obtain ⟨g, o, e, hc⟩ := Rd.plain h (by omega) (by omega)
  have hl : k < l.length := by rw [h.len]; exact hk
  refine ⟨g, o, e, hc k _ ?_⟩
  simp [List.getElem?_eq_getElem hl, List.getD]
theorem IR.litAt (w : World) (t : TypeId) (l : List Int) (cs : Array Value) (g n : Nat) (hg : w.heap.size = g) (hn : l.length = n) (h : cs.toList = l.map (Value.int .i64)) : IR (w.alloc (.cells cs t)) (some ⟨g, 0, none⟩) n l := by
  subst hg hn
  have hs : cs.size = l.length * 1 := by have := congrArg List.length h; simpa using this
  have := Rd.new w t cs l.length 1 hs
  rw [h] at this
  exact this
end

end Go.Proofs.Ytmdgnjmhbjdlmaa

/-! OctA -/
namespace Go.Proofs.Ytmdgnjmhbjdlmaa
open Go.RowKit

theorem bytesOf_BR {P : Program} {w : World} {A : Option Addr} {n : Nat} {l : List UInt8} (c : Nat) (h : BR w A n l) :
    (Extern.Bytes.bytesOf (.slice A n c)).run P w = .ok ⟨l.toArray⟩ w := by
  have hn := h.len
  rcases A with _ | ad
  · have h0 : n = 0 := by
      rcases Nat.eq_zero_or_pos n with h0 | h0
      · exact h0
      · obtain ⟨ad, e, _⟩ := h.2 h0
        cases e
    subst h0
    have : l = [] := List.eq_nil_of_length_eq_zero hn
    subst this
    simp [Extern.Bytes.bytesOf]
    rfl
  · subst hn
    have := run_loadBytes (P := P) w l ad .empty (fun j hj => by
      obtain ⟨g, o, e, hc⟩ := h.at_ hj
      injection e with e
      subst e
      rw [Go.WideShapes.add_plain]
      exact hc)
    have e : (⟨ByteArray.empty.data ++ l.toArray⟩ : ByteArray) = ⟨l.toArray⟩ := congrArg ByteArray.mk (Array.empty_append)
    rw [e] at this
    exact this

theorem run_str {P : Program} {w : World} {A : Option Addr} {n : Nat} {l : List UInt8} (h : BR w A n l) {src dst e : TypeId}
    (hs : P.underlying src = some (.slice e)) (he : P.underlying e = some (.int .u8)) (hd : P.underlying dst = some .string) (c : Nat) :
    (convert src dst (.slice A n c)).run P w = .ok (.string ⟨l.toArray⟩) w := by
  rw [run_convert_bytes_string w src dst e _ n c hs he hd]
  rcases A with _ | ad
  · have h0 : n = 0 := by
      rcases Nat.eq_zero_or_pos n with h0 | h0
      · exact h0
      · obtain ⟨ad, e, _⟩ := h.2 h0
        cases e
    subst h0
    have : l = [] := List.eq_nil_of_length_eq_zero h.len
    subst this
    simp [Conv.bytesToString]
    rfl
  · rw [run_bytesToString w _ n c _ (h.load P rfl), foldl_push_bytes, ofNat_toNat_bytes]
    exact congrArg (fun x => Result.ok (Value.string x) w) (congrArg ByteArray.mk (Array.empty_append))

set_option maxHeartbeats 400000 in
theorem SameBytes_any (A B : Option Addr) (n m c d : Nat) (a b : List UInt8) (w : World) (ha : BR w A n a) (hb : BR w B m b) :
    Calls Try.prog 14 #[.slice A n c, .slice B m d] w fun e w' => e = .returned (.bool (a == b)) ∧ w = w' := by
  have h1 := run_str ha Try.underlying26 Try.underlying5 Try.underlying9 c
  have h2 := run_str hb Try.underlying26 Try.underlying5 Try.underlying9 d
  go_enter Try.func14, Try.ntmps14
  go_wp2
  go_ret
  exact ⟨rfl, rfl⟩

end Go.Proofs.Ytmdgnjmhbjdlmaa

/-! OctB -/
namespace Go.Proofs.Ytmdgnjmhbjdlmaa
open Go.RowKit

/-- A length that a slice of bytes may have without an append of it passing Go's own bound. -/
def lenB : Nat := 211106232532992

set_option maxHeartbeats 400000 in
theorem Clone_any (A : Option Addr) (n c : Nat) (l : List UInt8) (w : World) (ha : BR w A n l) (hn : n ≤ 211106232532992) :
    Calls Try.prog 33 #[.slice A n c] w fun e w' => ∃ v, e = .returned v ∧ OB w' w.heap.size v l ∧ Below w.heap.size w w' := by
  obtain ⟨i0, hi0, hz0, hz1, hz2⟩ := info_parts info_u8
  have q22 : ∀ (w : World) (a : Option Addr) (n c n' c' : Nat), (binOp .eql 26 (.slice a n c) (.slice none n' c')).run Try.prog w = .ok (.bool a.isNone) w := fun w a n c n' c' => Lib.run_eql_slice_nil w _ _ a n c n' c' Try.underlying26
  rcases A with _ | ad
  · have h0 : n = 0 := by
      rcases Nat.eq_zero_or_pos n with h0 | h0
      · exact h0
      · obtain ⟨ad, e, _⟩ := ha.2 h0
        cases e
    have : l = [] := List.eq_nil_of_length_eq_zero (by rw [ha.len]; exact h0)
    subst this
    go_enter Try.func33, Try.ntmps33
    go_wp2
    go_ret
    exact ⟨_, rfl, OB.nil _ _, Below.refl _ _⟩
  · go_enter Try.func33, Try.ntmps33
    go_wp2_with (at_builtin; refine wpList_append_Rd _ rfl _ _ _ rfl w.heap.size 5 i0 _ 1 1 Try.underlying26 hi0 hz0 hz1 hz2 rfl (.slice (some ⟨w.heap.size, 0, none⟩) 0 0) 0 [] rfl (World.ownsRow_made w #[] 0 (Nat.le_refl _) (Nat.zero_le _) rfl) (some ad) n c _ rfl (BR.alloc ha _) (one_bv l) (by omega) (by simp only [maxLen]; omega) (by simp) ?_; intro v1 w1 hown1 hg1 _ _)
    go_ret
    have hl := ha.len
    refine ⟨v1, rfl, ?_, ((Below.refl _ _).alloc (Nat.le_refl _) _).grown hg1 (by simp) (by simp [Value.ownBlock])⟩
    unfold OB
    rw [hl]
    simpa using hown1

/-- What so many bytes say, the lowest first. -/
def leN : List UInt8 → Nat
  | [] => 0
  | x :: l => x.toNat + 256 * leN l

theorem leN_append (l m : List UInt8) : leN (l ++ m) = leN l + 256 ^ l.length * leN m := by
  induction l with
  | nil => simp [leN]
  | cons x l ih => simp only [List.cons_append, leN, ih, List.length_cons, Nat.pow_succ, Nat.mul_add]; rw [Nat.add_assoc, Nat.mul_comm (256 ^ l.length) 256, Nat.mul_assoc]

theorem leN_lt (l : List UInt8) : leN l < 256 ^ l.length := by
  induction l with
  | nil => simp [leN]
  | cons x l ih => have := x.toNat_lt; simp only [leN, List.length_cons, Nat.pow_succ]; omega

set_option maxHeartbeats 400000 in
theorem number_none (A : Option Addr) (n c : Nat) (w : World) (at_ size : Int) (hn : n ≤ 9223372036854775807) (h0 : 0 ≤ size) (h8 : size ≤ 8) (h : at_ < 0 ∨ (n : Int) - size < at_) (hb : -9223372036854775808 ≤ at_) (hb2 : at_ ≤ 9223372036854775807) :
    Calls Try.prog 68 #[.slice A n c, .int .i64 at_, .int .i64 size] w fun e w' => e = .returned (.tuple #[.int .u64 0, .bool false]) ∧ w = w' := by
  by_cases h1 : at_ < 0
  · have h1' : decide (at_ < 0) = true := by simpa using h1
    go_enter Try.func68, Try.ntmps68
    go_wp2
    go_ret2
    exact ⟨rfl, rfl⟩
  · have h1' : decide (at_ < 0) = false := by simpa using h1
    have h2 : decide ((n : Int) - size < at_) = true := by simp; omega
    go_enter Try.func68, Try.ntmps68
    go_wp2
    go_ret2
    exact ⟨rfl, rfl⟩

end Go.Proofs.Ytmdgnjmhbjdlmaa

/-! OctC -/
namespace Go.Proofs.Ytmdgnjmhbjdlmaa
open Go.RowKit

theorem leN_snoc (l : List UInt8) (x : UInt8) : leN (l ++ [x]) = leN l + 256 ^ l.length * x.toNat := by
  rw [leN_append]; simp [leN]

theorem pow256 (j : Nat) : (256 : Nat) ^ j = 2 ^ (8 * j) := by rw [Nat.pow_mul]

/-- v | x << 8j, where v has but the bits below. -/
theorem or_shl (j a x : Nat) (hj : j < 8) (hx : x < 256) (ha : a < 256 ^ j) :
    bits .or .u64 (a : Int) (IntKind.u64.wrap (IntKind.u64.wrap (x : Int) * 2 ^ (8 * j))) = ((a + 256 ^ j * x : Nat) : Int) := by
  have hp : 2 ^ (8 * j) ≤ 2 ^ 56 := Nat.pow_le_pow_right (by decide) (by omega)
  have e1 : IntKind.u64.wrap (x : Int) = (x : Int) := by rw [IntKind.wrap_u64]; omega
  have hb : x * 2 ^ (8 * j) < 18446744073709551616 := by
    have h1 : x * 2 ^ (8 * j) ≤ 255 * 2 ^ 56 := Nat.mul_le_mul (by omega) hp
    have h2 : (255 * 2 ^ 56 : Nat) < 18446744073709551616 := by decide
    omega
  have e2 : IntKind.u64.wrap ((x : Int) * 2 ^ (8 * j)) = ((x * 2 ^ (8 * j) : Nat) : Int) := by
    rw [IntKind.wrap_u64]
    have : (x : Int) * 2 ^ (8 * j) = ((x * 2 ^ (8 * j) : Nat) : Int) := by simp
    rw [this]
    omega
  rw [pow256] at ha ⊢
  have ha' : a < 18446744073709551616 := by
    have : (2 ^ 56 : Nat) < 18446744073709551616 := by decide
    omega
  rw [e1, e2, u64_or_nat _ _ ha' hb, Nat.or_comm, nat_join (8 * j) _ _ (by simp) ha]
  congr 1
  rw [Nat.mul_comm, Nat.add_comm]

theorem take_step (l : List UInt8) (j : Nat) (h : j < l.length) : l.take (j + 1) = l.take j ++ [l.getD j 0] := by
  rw [List.take_succ_eq_append_getElem h]; simp [List.getD, List.getElem?_eq_getElem h]

set_option maxHeartbeats 400000 in
theorem number_some (A : Option Addr) (n c : Nat) (l : List UInt8) (w : World) (k s : Nat) (ha : BR w A n l) (hn : n ≤ 9223372036854775807) (h8 : s ≤ 8) (h : k + s ≤ n) :
    Calls Try.prog 68 #[.slice A n c, .int .i64 k, .int .i64 s] w fun e w' => e = .returned (.tuple #[.int .u64 (leN ((l.drop k).take s)), .bool true]) ∧ w = w' := by
  have h1' : decide ((k : Int) < 0) = false := by simp
  have h2 : decide ((n : Int) - s < k) = false := by simp; omega
  go_enter Try.func68, Try.ntmps68
  go_wp2
  go_loop [8, 9, 21] (fun v _ i => ∃ j : Nat, j ≤ s ∧ i = .int .i64 j ∧ v = .int .u64 (leN ((l.drop k).take j))) (fun _ _ i => s - (intOf i).toNat)
  case atStart => exact ⟨0, Nat.zero_le _, rfl, rfl⟩
  case round =>
    obtain ⟨j, hj, rfl, rfl⟩ := hrel
    by_cases hlt : j < s
    · obtain ⟨g, o, rfl, hc⟩ := ha.at_ (k := k + j) (by omega)
      go_wp2
      go_round
      case rel =>
        refine ⟨j + 1, by omega, by go_num, ?_⟩
        have hl := ha.len
        have hd : j < (l.drop k).length := by rw [List.length_drop]; omega
        rw [take_step _ _ hd, leN_snoc]
        have hlt := leN_lt ((l.drop k).take j)
        have hlen : ((l.drop k).take j).length = j := by rw [List.length_take]; omega
        rw [hlen] at hlt ⊢
        rw [or_shl j _ _ (by omega) (UInt8.toNat_lt _) hlt]
        simp [List.getD, List.getElem?_drop]
      case measure => simp [intOf]; omega
    · go_wp2
      go_ret2
      have : j = s := by omega
      subst this
      exact ⟨rfl, rfl⟩


/-- The number, as the document has it: none unless all bytes are there. -/
def numAt (l : List UInt8) (at_ : Int) (s : Nat) : Option Nat :=
  if at_ < 0 ∨ (l.length : Int) - s < at_ then none else some (leN ((l.drop at_.toNat).take s))

theorem number_any (A : Option Addr) (n c : Nat) (l : List UInt8) (w : World) (at_ : Int) (s : Nat) (ha : BR w A n l) (hn : n ≤ 9223372036854775807) (h8 : s ≤ 8) (hb : -9223372036854775808 ≤ at_) (hb2 : at_ ≤ 9223372036854775807) :
    Calls Try.prog 68 #[.slice A n c, .int .i64 at_, .int .i64 (s : Int)] w fun e w' =>
      e = .returned (.tuple #[.int .u64 (((numAt l at_ s).getD 0 : Nat) : Int), .bool (numAt l at_ s).isSome]) ∧ w = w' := by
  have hl := ha.len
  by_cases h : at_ < 0 ∨ (n : Int) - s < at_
  · refine (number_none A n c w at_ s hn (by omega) (by omega) h hb hb2).mono ?_
    rintro e w' ⟨rfl, rfl⟩
    have : numAt l at_ s = none := by unfold numAt; rw [hl, if_pos h]
    rw [this]
    exact ⟨rfl, rfl⟩
  · have hk : at_ = (at_.toNat : Int) := by omega
    have e : numAt l at_ s = some (leN ((l.drop at_.toNat).take s)) := by unfold numAt; rw [hl, if_neg h]
    rw [e]
    generalize at_.toNat = k at hk ⊢
    subst hk
    exact number_some A n c l w k s ha hn h8 (by omega)

theorem numAt_lt (l : List UInt8) (at_ : Int) (s : Nat) : (numAt l at_ s).getD 0 < 256 ^ s := by
  unfold numAt
  split
  · simpa using Nat.pow_pos (by decide)
  · have h := leN_lt ((l.drop at_.toNat).take s)
    have h2 : ((l.drop at_.toNat).take s).length ≤ s := by simp; omega
    exact Nat.lt_of_lt_of_le h (Nat.pow_le_pow_right (by decide) h2)

end Go.Proofs.Ytmdgnjmhbjdlmaa

/-! OctD -/
namespace Go.Proofs.Ytmdgnjmhbjdlmaa
open Go.RowKit

/-- The lowest s bytes of v, the lowest first. -/
def leB (v : Nat) : Nat → List UInt8
  | 0 => []
  | s + 1 => UInt8.ofNat v :: leB (v / 256) s

theorem leB_length (v s : Nat) : (leB v s).length = s := by
  induction s generalizing v with
  | zero => rfl
  | succ s ih => simp [leB, ih]

theorem leB_snoc (v s : Nat) : leB v (s + 1) = leB v s ++ [UInt8.ofNat (v / 256 ^ s)] := by
  induction s generalizing v with
  | zero => simp [leB]
  | succ s ih =>
    rw [leB, ih, leB, List.cons_append]
    congr 3
    rw [Nat.div_div_eq_div_mul, Nat.pow_succ, Nat.mul_comm]

theorem leN_leB (v s : Nat) : leN (leB v s) = v % 256 ^ s := by
  induction s generalizing v with
  | zero => simp [leB, leN, Nat.mod_one]
  | succ s ih =>
    have h : (UInt8.ofNat v).toNat = v % 256 := by simp
    rw [leB, leN, ih, h, Nat.pow_succ, Nat.mul_comm (256 ^ s) 256, Nat.mod_mul]

theorem byte_of (v k : Nat) : Value.int .u8 ((v : Int) / 2 ^ k % 256) = bv (UInt8.ofNat (v / 2 ^ k)) := by
  unfold bv
  congr 1

set_option maxHeartbeats 400000 in
theorem add_any (A : Option Addr) (n c : Nat) (l : List UInt8) (w : World) (v s : Nat) (ha : BR w A n l) (hn : n ≤ 211106232532984) (hs : s ≤ 8) (hv : v < 18446744073709551616) :
    Calls Try.prog 86 #[.slice A n c, .int .u64 v, .int .i64 s] w fun e w' => ∃ r, e = .returned r ∧ OB w' w.heap.size r (l ++ leB v s) ∧ Below w.heap.size w w' := by
  obtain ⟨i0, hi0, hz0, hz1, hz2⟩ := info_parts info_u8
  have hmk : ∀ u : World, (Instr.makeSlice 26 (.int .i64 0) (.int .i64 ((n : Int) + (s : Int)))).run Try.prog u =
      .ok (.slice (some ⟨u.heap.size, 0, none⟩) 0 (n + s)) (u.alloc (.cells (madeCells #[.int .u8 0] (n + s)) 5)) := fun u => by
    have h := run_make (P := Try.prog) u 26 5 i0 (.int .u8 0) Try.underlying26 hi0 hz0 .i64 .i64 0 ((n : Int) + (s : Int)) (by omega) (by omega) (by rw [hz2]; omega) (by omega)
    have e : ((n : Int) + (s : Int)).toNat = n + s := by omega
    rw [e] at h
    simpa [hz1, Value.cells] using h
  go_enter Try.func86, Try.ntmps86
  go_wp2_with (at_builtin; refine wpList_append_Rd _ rfl (.tmp 14) (.tmp 15) _ rfl w.heap.size 5 i0 _ 1 1 Try.underlying26 hi0 hz0 hz1 hz2 rfl (.slice (some ⟨w.heap.size, 0, none⟩) 0 (n + s)) 0 [] rfl (World.ownsRow_made w _ (n + s) (Nat.le_refl _) (by simp only [maxLen]; omega) (by rw [size_madeCells, Nat.mul_one])) A n c _ rfl (BR.alloc ha _) (one_bv l) (by omega) (by simp only [maxLen]; omega) (by simp) ?_; intro v1 w1 hown1 hg1 _ _)
  have hl := ha.len
  have ho1 : OB w1 w.heap.size v1 (l ++ leB v 0) := by
    unfold OB
    simp only [leB, List.append_nil]
    rw [hl]
    simpa using hown1
  have hb1 : Below w.heap.size w w1 := ((Below.refl _ _).alloc (Nat.le_refl _) _).grown hg1 (by simp) (by simp [Value.ownBlock])
  have HL := Lib.hid hl
  have HV := Lib.hid hv
  clear hl hown1 hg1 hmk hv
  go_loopw [7, 8, 18] (fun r _ i wr => ∃ j : Nat, j ≤ s ∧ i = .int .i64 j ∧ OB wr w.heap.size r (l ++ leB v j) ∧ Below w.heap.size w wr) (fun _ _ i _ => s - (intOf i).toNat)
  case atStart => exact ⟨0, Nat.zero_le _, rfl, ho1, hb1⟩
  case round =>
    obtain ⟨j, hj, rfl, ho, hb⟩ := hrel
    clear ho1 hb1
    by_cases hlt : j < s
    · have hlen : (l ++ leB v j).length = n + j := by rw [List.length_append, leB_length, HL.out]
      have HLEN := Lib.hid hlen
      have hlen2 : (l ++ leB v j).length ≤ n + j := by omega
      clear hlen
      go_wp2_with (at_builtin; refine wpList_append_Rd _ rfl (.tmp 21) (.tmp 27) _ rfl w.heap.size 5 i0 _ 1 1 Try.underlying26 hi0 hz0 hz1 hz2 rfl u7 (l ++ leB v j).length _ rfl (World.ownsRow.alloc ho _) _ 1 1 _ rfl (Rd.new wr _ #[_] 1 1 rfl) (by simp [Value.oneCell']) (by omega) (by simp only [maxLen]; omega) (by have := hb.size; simp; omega) ?_; intro v2 w2 hown2 hg2 _ hat2)
      have hb2 : Below w.heap.size w w2 := (hb.alloc hb.size _).grown hg2 (by have := hb.size; simp; omega) (fun k hk => (ho.lt k hk).1)
      have ho2 : OB w2 w.heap.size v2 (l ++ leB v (j + 1)) := by
        refine OB.of_own hown2 ?_
        rw [leB_snoc, ← List.append_assoc, byte_of, pow256]
        simp
      clear hown2 hg2 hat2 hlen2
      go_wp2
      go_roundw
      case rel => exact ⟨j + 1, by omega, by go_num, ho2, hb2⟩
      case measure => simp [intOf]; omega
    · go_wp2
      go_ret
      have : j = s := by omega
      subst this
      exact ⟨_, rfl, ho, hb⟩

end Go.Proofs.Ytmdgnjmhbjdlmaa

/-! OctE -/
namespace Go.Proofs.Ytmdgnjmhbjdlmaa
open Go.RowKit

set_option maxHeartbeats 400000 in
theorem U64_any (A : Option Addr) (n c : Nat) (l : List UInt8) (w : World) (at_ : Int) (ha : BR w A n l) (hn : n ≤ 9223372036854775807) (hb : -9223372036854775808 ≤ at_) (hb2 : at_ ≤ 9223372036854775807) :
    Calls Try.prog 54 #[.slice A n c, .int .i64 at_] w fun e w' =>
      e = .returned (.tuple #[.int .u64 (((numAt l at_ 8).getD 0 : Nat) : Int), .bool (numAt l at_ 8).isSome]) ∧ w = w' := by
  have hlt := numAt_lt l at_ 8
  have hc := number_any A n c l w at_ 8 ha hn (by omega) hb hb2
  generalize (numAt l at_ 8).isSome = o at hc ⊢
  generalize (numAt l at_ 8).getD 0 = x at hc hlt ⊢
  have hx : x ≤ 18446744073709551615 := by omega
  have HC := Lib.hid hc
  clear hc hlt
  go_enter Try.func54, Try.ntmps54
  go_wp2_with fail
  refine HC.out.mono ?_
  rintro e w' ⟨rfl, rfl⟩
  go_wp2
  go_ret2
  exact ⟨rfl, rfl⟩

set_option maxHeartbeats 400000 in
theorem Add64_any (A : Option Addr) (n c : Nat) (l : List UInt8) (w : World) (v : Nat) (ha : BR w A n l) (hn : n ≤ 211106232532984) (hv : v < 18446744073709551616) :
    Calls Try.prog 73 #[.slice A n c, .int .u64 v] w fun e w' => ∃ r, e = .returned r ∧ OB w' w.heap.size r (l ++ leB v 8) ∧ Below w.heap.size w w' := by
  have hc := add_any A n c l w v 8 ha hn (by omega) (by omega)
  have e1 : IntKind.u64.wrap (v : Int) = (v : Int) := by rw [IntKind.wrap_u64]; omega
  have HC := Lib.hid hc
  have HV := Lib.hid hv
  clear hc hv
  go_enter Try.func73, Try.ntmps73
  go_wp2_with fail
  refine HC.out.mono ?_
  rintro e w' ⟨r, rfl, ho, hb⟩
  go_wp2
  go_ret
  exact ⟨r, rfl, ho, hb⟩

end Go.Proofs.Ytmdgnjmhbjdlmaa

/-! OctF -/
namespace Go.Proofs.Ytmdgnjmhbjdlmaa
open Go.RowKit

/-- The part whose length stands at a place, and the place behind it. -/
def partAt (l : List UInt8) (at_ : Int) : Option (List UInt8 × Nat) :=
  match numAt l at_ 2 with
  | none => none
  | some k => if (l.length : Int) - (at_ + 2) < k then none else some ((l.drop (at_.toNat + 2)).take k, at_.toNat + 2 + k)

theorem numAt_some {l : List UInt8} {at_ : Int} {s x : Nat} (h : numAt l at_ s = some x) : 0 ≤ at_ ∧ at_ + s ≤ l.length ∧ x = leN ((l.drop at_.toNat).take s) ∧ x < 256 ^ s := by
  have hlt := numAt_lt l at_ s
  rw [h] at hlt
  unfold numAt at h
  split at h
  · cases h
  · injection h with h
    exact ⟨by omega, by omega, h.symm, by simpa using hlt⟩

end Go.Proofs.Ytmdgnjmhbjdlmaa

/-! OctG -/
namespace Go.Proofs.Ytmdgnjmhbjdlmaa
open Go.RowKit

/-- What LentBytes hands out: the bytes l, and three marks in the room behind them. -/
def Lent (w : World) (base : Nat) (A : Option Addr) (c : Nat) (l : List UInt8) : Prop :=
  w.ownsRow base 5 1 (.slice A (l.length + 3) c) (l.length + 3) ((l ++ [77, 78, 79]).map bv)

theorem Lent.BR {w : World} {base : Nat} {A : Option Addr} {c : Nat} {l : List UInt8} (h : Lent w base A c l) : Proofs.Ytmdgnjmhbjdlmaa.BR w A l.length l ∧ l.length + 3 ≤ c ∧ c ≤ maxLen := by
  have h' : OB w base (.slice A (l.length + 3) c) (l ++ [77, 78, 79]) := OB.of_own h rfl
  obtain ⟨A', c', e, hr, hc, hm⟩ := h'.form
  injection e with e1 e2 e3
  subst e1 e3
  have := hr.pre (j := l.length) (by simp)
  rw [List.take_left] at this
  exact ⟨this, by simpa using hc, hm⟩

theorem Lent.below {w w' : World} {base : Nat} {A : Option Addr} {c : Nat} {l : List UInt8} (h : Lent w base A c l) (hb : Below w.heap.size w w') : Lent w' base A c l :=
  World.ownsRow.kept h (row := none) ⟨hb.os, hb.tape, hb.output, hb.size, fun k hk _ => hb.block k hk⟩ (by cases (Value.slice A (l.length + 3) c).ownBlock <;> simp)

theorem Lent.marks {w : World} {base : Nat} {A : Option Addr} {c : Nat} {l : List UInt8} (h : Lent w base A c l) :
    ∃ g o, A = some ⟨g, o, none⟩ ∧ w.cell? ⟨g, o + l.length, none⟩ = some (.int .u8 77) ∧ w.cell? ⟨g, o + (l.length + 1), none⟩ = some (.int .u8 78) ∧ w.cell? ⟨g, o + (l.length + 2), none⟩ = some (.int .u8 79) := by
  have h' : OB w base (.slice A (l.length + 3) c) (l ++ [77, 78, 79]) := OB.of_own h rfl
  obtain ⟨A', c', e, hr, hc, hm⟩ := h'.form
  injection e with e1 e2 e3
  subst e1
  obtain ⟨g, o, rfl, h0⟩ := hr.at_ (k := l.length) (by simp)
  obtain ⟨g1, o1, e1, h1⟩ := hr.at_ (k := l.length + 1) (by simp)
  obtain ⟨g2, o2, e2, h2⟩ := hr.at_ (k := l.length + 2) (by simp)
  cases e1
  cases e2
  exact ⟨g, o, rfl, by simpa using h0, by simpa using h1, by simpa using h2⟩

theorem ret_i {k : IntKind} {a b : Int} (h : a = b) : Ending.returned (.int k a) = .returned (.int k b) := by rw [h]

end Go.Proofs.Ytmdgnjmhbjdlmaa

/-! Mem -/
namespace Go.Proofs.Ytmdgnjmhbjdlmaa
open Go.RowKit

/-- Block g is just the bytes l, of element type uint8, none frozen. -/
def BB (w : World) (g : Nat) (l : List UInt8) : Prop := w.heap[g]? = some (.cells (l.map bv).toArray 5 (0, 0))

/-- The world in which block g has become the bytes l. -/
def setB (w : World) (g : Nat) (l : List UInt8) : World := w.setRow g (l.map bv).toArray

section
variable {w w' : World} {g : Nat} {l m : List UInt8}
theorem BB.lt (h : BB w g l) : g < w.heap.size := (Array.getElem?_eq_some_iff.1 h).1
theorem BB.zero (w : World) (n : Nat) : BB (w.alloc (.cells (zeroB n) 5)) w.heap.size (List.replicate n 0) := by
  unfold BB
  rw [heap_alloc_new w _]
  have : zeroB n = ((List.replicate n (0 : UInt8)).map bv).toArray := by rw [← zeroB_toList]
  rw [← this]
theorem BB.set_ (h : BB w g l) (m : List UInt8) : BB (setB w g m) g m := setRow_heap w g _ _ _ _ h
theorem BB.other {k : Nat} (h : BB w g l) (hk : g ≠ k) (m : List UInt8) : BB (setB w k m) g l := (setRow_other w k g _ hk).trans h
theorem BB.alloc (h : BB w g l) (o : Obj) : BB (w.alloc o) g l := (Below.heap_alloc w o g h.lt).trans h
theorem BB.below {B : Nat} (h : BB w g l) (hb : Below B w w') (hg : g < B) : BB w' g l := (hb.block g hg).trans h
theorem BB.kept (h : BB w g l) (hb : Below w.heap.size w w') : BB w' g l := h.below hb h.lt
theorem BB.drew (h : BB w g l) : BB w.drew g l := h
theorem BB.drewN (h : BB w g l) (n : Nat) : BB (w.drewN n) g l := h
@[simp] theorem setB_size (w : World) (g : Nat) (l : List UInt8) : (setB w g l).heap.size = w.heap.size := setRow_size w g _
theorem setB_below {B : Nat} {a : World} (h : Below B a w) (hg : B ≤ g) (m : List UInt8) : Below B a (setB w g m) :=
  h.trans ⟨rfl, rfl, rfl, by simp, fun k hk => setRow_other w g k _ (by omega)⟩
theorem setB_setB (w : World) (g : Nat) (l m : List UInt8) : setB (setB w g l) g m = setB w g m := setRow_setRow w g _ _
theorem setB_drew (w : World) (g : Nat) (l : List UInt8) : setB w.drew g l = (setB w g l).drew := rfl
theorem Rd.put {size n : Nat} {A : Option Addr} {xs : List Value} (h : Rd w size A n xs) (hg : ∀ ad, A = some ad → ad.block ≠ g) (m : List UInt8) : Rd (setB w g m) size A n xs :=
  ⟨h.1, fun hn => by
    obtain ⟨ad, e, hc⟩ := h.2 hn
    refine ⟨ad, e, fun j u hu => ?_⟩
    rw [← hc j u hu]
    exact World.cell?_of_block (setRow_other w g _ _ (by rw [block_of_add]; exact hg ad e))⟩
theorem BR.put {n : Nat} {A : Option Addr} (h : BR w A n l) (hg : ∀ ad, A = some ad → ad.block ≠ g) (m : List UInt8) : BR (setB w g m) A n l := Rd.put h hg m
/-- What is read in old memory stays: the block is new. -/
theorem BR.old {w0 : World} {n : Nat} {A : Option Addr} (h : BR w0 A n l) (hb : Below w0.heap.size w0 w) (hg : w0.heap.size ≤ g) (m : List UInt8) : BR (setB w g m) A n l :=
  h.below (setB_below hb hg m)
theorem BB.reads (h : BB w g l) {off n : Nat} (hn : off + n ≤ l.length) : BR w (some ⟨g, off, none⟩) n ((l.drop off).take n) := by
  refine ⟨by simp; omega, fun _ => ⟨_, rfl, fun j u hu => ?_⟩⟩
  rw [Go.WideShapes.add_plain]
  have hc := cell_of_row w g (off + j) _ _ _ h
  rw [hc]
  have hj : j < n := by
    rcases Nat.lt_or_ge j n with h | h
    · exact h
    · rw [List.getElem?_eq_none (by simp; omega)] at hu; cases hu
  simp [List.getElem?_drop, hj] at hu
  simpa using hu
theorem BB.readsAll (h : BB w g l) : BR w (some ⟨g, 0, none⟩) l.length l := by
  have := h.reads (off := 0) (n := l.length) (by omega)
  simpa using this
theorem BB.cell (h : BB w g l) {j : Nat} (hj : j < l.length) : w.cell? ⟨g, j, none⟩ = some (.int .u8 ((l.getD j 0).toNat : Int)) := by
  rw [cell_of_row w g j _ _ _ h]
  simp [hj, bv, List.getD]
theorem BB.frozen (h : BB w g l) (j : Nat) : w.frozen? ⟨g, j, none⟩ = false := by
  unfold BB at h
  simp [World.frozen?, h]
theorem BB.own (h : BB w g l) {base : Nat} (hb : base ≤ g) (hm : l.length ≤ maxLen) : OB w base (.slice (some ⟨g, 0, none⟩) l.length l.length) l := by
  refine ⟨by simp, .inr ⟨g, l.length, _, rfl, hb, h, Nat.le_refl _, hm, by simp, ?_⟩⟩
  simp only [Nat.mul_one]
  exact List.take_of_length_le (by simp)
theorem BB.setCell (h : BB w g l) (j : Nat) (x : UInt8) : BB (w.setCell ⟨g, j, none⟩ (bv x)) g (l.set j x) := by
  unfold BB at h ⊢
  simp only [World.setCell, Array.getElem?_modify, if_pos, h]
  simp
theorem BB.setInt (h : BB w g l) (j : Nat) (v : Int) (h0 : 0 ≤ v) (h1 : v < 256) : BB (w.setCell ⟨g, j, none⟩ (.int .u8 v)) g (l.set j (UInt8.ofNat v.toNat)) := by
  have e : (.int .u8 v : Value) = bv (UInt8.ofNat v.toNat) := by
    unfold bv
    congr 1
    rw [UInt8.toNat_ofNat']
    omega
  rw [e]
  exact h.setCell j _
theorem BB.ne {t : TypeId} {cs : Array Value} {k : Nat} {fr : Nat × Nat} (h : BB w g l) (hk : w.heap[k]? = some (.cells cs t fr)) (ht : t ≠ 5) : g ≠ k := by
  rintro rfl
  unfold BB at h
  rw [h] at hk
  injection hk with hk
  injection hk with _ h2
  exact ht h2.symm
end

/-- copy into a block that is known whole. -/
theorem run_copy_B (w : World) (ty : TypeId) (g off dl dc : Nat) (l s : List UInt8) (dp A : Option Addr) (m c k : Nat) (h : BB w g l) (hs : BR w A m s) (hk : Nat.min m dl = k) (hdp : 0 < k → dp = some ⟨g, off, none⟩) (hfit : off + k ≤ l.length) :
    (Builtin.copy_ #[26, 26] ty #[.slice dp dl dc, .slice A m c]).run Try.prog w = .ok (goInt k) (setB w g (splice l off (s.take k))) := by
  obtain ⟨i0, hi0, hz0, hz1, hz2⟩ := info_parts info_u8
  have hsl := hs.len
  have hkm : k ≤ m := by rw [← hk]; exact Nat.min_le_left _ _
  have hcs : (s.take k).length = k := by rw [List.length_take]; omega
  rcases Nat.eq_zero_or_pos k with h0 | h0
  · subst h0
    have e : setB w g (splice l off (s.take 0)) = w := by
      unfold setB
      have : splice l off (s.take 0) = l := by simp [splice]
      rw [this]
      exact setRow_self w g _ _ _ h
    rw [e]
    have := run_copy_none (P := Try.prog) w 26 26 ty 5 dp A dl dc m c Try.underlying26 (by simp [hi0, hz1]) hk
    simpa using this
  · obtain rfl := hdp h0
    obtain ⟨ad, rfl, hc⟩ := hs.2 (by omega)
    have := run_copy_row (P := Try.prog) w 26 26 ty 5 g off dl dc ad m c (l.map bv).toArray 5 ((s.take k).map bv) Try.underlying26 (by simp [hi0, hz1]) h (by rw [List.length_map, hcs, hk])
      (fun j u hu => hc j u (by
        rw [List.map_take, List.getElem?_take] at hu
        split at hu
        · exact hu
        · cases hu)) (by simp only [List.length_map, hcs]; simpa using hfit) (one_bv _)
    rw [this, List.length_map, hcs]
    unfold setB splice
    rw [hcs]
    simp [List.map_take, List.map_drop]

section
variable {P : Program} (w : World)
theorem run_equalIn_int (d : Nat) (e : TypeId) (k : IntKind) (he : P.underlying e = some (.int k)) (a b : Int) : (Op.equalIn (d + 1) e (.int k a) (.int k b)).run P w = .ok (a == b) w := by
  simp [Op.equalIn, run_underlying he]

theorem run_part_int (e : TypeId) (k : IntKind) (he : P.underlying e = some (.int k)) (xs : List Int) (j : Nat) (hj : j < xs.length) : (part e (xs.map (Value.int k)).toArray j).run P w = .ok (.int k (xs.getD j 0)) w := by
  simp [part, isAgg, run_underlying he, hj, List.getD]

theorem run_eqArr_loop (d : Nat) (e : TypeId) (k : IntKind) (he : P.underlying e = some (.int k)) (xs ys : List Int) (n : Nat) (hx : xs.length = n) (hy : ys.length = n) :
    ∀ (m j : Nat), j + m = n → (forIn (List.range' j m) ((none, ()) : Option Bool × Unit) (fun i _ => do
        if !(← Op.equalIn (d + 1) e (← part e (xs.map (Value.int k)).toArray (i * 1)) (← part e (ys.map (Value.int k)).toArray (i * 1))) then pure (ForInStep.done (some false, ())) else pure (ForInStep.yield (none, ())))).run P w =
      .ok (if xs.drop j = ys.drop j then (none, ()) else (some false, ())) w
  | 0, j, h => by
    have h1 : xs.drop j = [] := List.drop_eq_nil_of_le (by omega)
    have h2 : ys.drop j = [] := List.drop_eq_nil_of_le (by omega)
    simp [h1, h2]
  | m + 1, j, h => by
    have ih := run_eqArr_loop d e k he xs ys n hx hy m (j + 1) (by omega)
    have d1 : xs.drop j = xs.getD j 0 :: xs.drop (j + 1) := by rw [List.drop_eq_getElem_cons (by omega)]; simp [List.getD, List.getElem?_eq_getElem (show j < xs.length by omega)]
    have d2 : ys.drop j = ys.getD j 0 :: ys.drop (j + 1) := by rw [List.drop_eq_getElem_cons (by omega)]; simp [List.getD, List.getElem?_eq_getElem (show j < ys.length by omega)]
    rw [List.range'_succ, List.forIn_cons]
    simp only [Nat.mul_one] at ih ⊢
    simp only [Sem.run_bind, run_part_int w e k he xs j (by omega), run_part_int w e k he ys j (by omega), Result.andThen, run_equalIn_int w d e k he]
    by_cases hq : xs.getD j 0 = ys.getD j 0
    · simp only [hq, beq_self_eq_true, Bool.not_true, Bool.false_eq_true, if_false, Sem.run_pure]
      rw [ih, d1, d2, hq]
      simp
    · simp only [beq_eq_false_iff_ne.2 hq, Bool.not_false, if_true, Sem.run_pure]
      rw [d1, d2, if_neg (by intro h; injection h with h1; exact hq h1)]

theorem run_eqArr (d : Nat) (t e : TypeId) (i : TypeInfo) (k : IntKind) (n : Nat) (ht : P.underlying t = some (.array n e)) (he : P.underlying e = some (.int k)) (hi : P.info? e = some i) (hs : i.size = 1) (xs ys : List Int) (hx : xs.length = n) (hy : ys.length = n) :
    (Op.equalIn (d + 2) t (.agg (xs.map (Value.int k)).toArray) (.agg (ys.map (Value.int k)).toArray)).run P w = .ok (xs == ys) w := by
  have h := run_eqArr_loop (P := P) w d e k he xs ys n hx hy n 0 (by omega)
  unfold Op.equalIn
  simp only [Sem.run_bind, run_underlying ht, Result.andThen, sizeOf, typeInfo, hi, program, Sem.run, Std.Legacy.Range.forIn_eq_forIn_range', Std.Legacy.Range.size]
  simp only [Nat.sub_zero, Nat.add_sub_cancel, Nat.div_one]
  simp only [Sem.run_pure, hs]
  rw [h]
  by_cases hq : xs = ys
  · simp [hq]
  · simp [hq]
end

theorem BR.cells8 {w : World} {g o : Nat} {x0 x1 x2 x3 x4 x5 x6 x7 : UInt8} (h : BR w (some ⟨g, o, none⟩) 8 [x0, x1, x2, x3, x4, x5, x6, x7]) :
    w.cell? ⟨g, o, none⟩ = some (.int .u8 (x0.toNat : Int)) ∧ w.cell? ⟨g, o + 1, none⟩ = some (.int .u8 (x1.toNat : Int)) ∧ w.cell? ⟨g, o + 2, none⟩ = some (.int .u8 (x2.toNat : Int)) ∧ w.cell? ⟨g, o + 3, none⟩ = some (.int .u8 (x3.toNat : Int)) ∧
    w.cell? ⟨g, o + 4, none⟩ = some (.int .u8 (x4.toNat : Int)) ∧ w.cell? ⟨g, o + 5, none⟩ = some (.int .u8 (x5.toNat : Int)) ∧ w.cell? ⟨g, o + 6, none⟩ = some (.int .u8 (x6.toNat : Int)) ∧ w.cell? ⟨g, o + 7, none⟩ = some (.int .u8 (x7.toNat : Int)) := by
  obtain ⟨g', o', e, hc⟩ := Rd.plain h (by omega) (by omega)
  cases e
  exact ⟨hc 0 _ rfl, hc 1 _ rfl, hc 2 _ rfl, hc 3 _ rfl, hc 4 _ rfl, hc 5 _ rfl, hc 6 _ rfl, hc 7 _ rfl⟩

theorem list8 (l : List UInt8) (h : l.length = 8) : ∃ x0 x1 x2 x3 x4 x5 x6 x7, l = [x0, x1, x2, x3, x4, x5, x6, x7] := by
  match l, h with
  | [x0, x1, x2, x3, x4, x5, x6, x7], _ => exact ⟨x0, x1, x2, x3, x4, x5, x6, x7, rfl⟩

end Go.Proofs.Ytmdgnjmhbjdlmaa

/-! Low -/
namespace Go.Proofs.Ytmdgnjmhbjdlmaa
open Go.RowKit

theorem sameB_own (x y : Value) (l : List UInt8) (w : World) {b1 b2 : Nat} (h1 : OB w b1 x l) (h2 : OB w b2 y l) :
    Calls Try.prog 14 #[x, y] w fun e w' => e = .returned (.bool true) ∧ w = w' := by
  obtain ⟨A, c, rfl, r1, _, _⟩ := h1.form
  obtain ⟨B, d, rfl, r2, _, _⟩ := h2.form
  refine (SameBytes_any A B _ _ c d l l w r1 r2).mono ?_
  rintro e w' ⟨rfl, rfl⟩
  exact ⟨by simp, rfl⟩

theorem tmod_pos (x n : Int) (hn : 0 < n) : -n < x.tmod n ∧ x.tmod n < n ∧ (x.tmod n < 0 → x % n = x.tmod n + n) ∧ (0 ≤ x.tmod n → x % n = x.tmod n) := by
  have h1 := Int.lt_tmod_of_pos x hn
  have h2 := Int.tmod_lt_of_pos x hn
  have h3 : x % n = (x.tmod n) % n := by
    conv => lhs; rw [← Int.tmod_add_mul_tdiv x n]
    rw [Int.add_mul_emod_self_left]
  refine ⟨h1, h2, fun h => ?_, fun h => ?_⟩
  · rw [h3, ← Int.add_emod_right, Int.emod_eq_of_lt (by omega) (by omega)]
  · rw [h3, Int.emod_eq_of_lt h h2]

set_option maxHeartbeats 400000 in
theorem Pick_any (x n : Int) (w : World) (hn : 0 < n) (hn2 : n ≤ 9223372036854775807) :
    Calls Try.prog 22 #[.int .i64 x, .int .i64 n] w fun e w' => e = .returned (.int .i64 (x % n)) ∧ w = w' := by
  go_enter Try.func22, Try.ntmps22
  obtain ⟨t1, t2, t3, t4⟩ := tmod_pos x n hn
  have T3 := Lib.hid t3
  have T4 := Lib.hid t4
  clear t3 t4
  go_wp2
  · have h : x.tmod n < 0 := by assumption
    go_ret
    exact ⟨ret_i (by first | rw [IntWalk.wrap64_in _ (by omega), T3.out h] | rw [T3.out h]), rfl⟩
  · have h : 0 ≤ x.tmod n := by assumption
    go_ret
    exact ⟨ret_i (T4.out h).symm, rfl⟩

/-- The number out of which byte i is made. -/
def madeX (seed : Int) : Nat → Int
  | 0 => IntKind.u64.wrap (IntKind.u64.wrap (IntKind.u64.wrap seed * 2862933555777941757) + 3037000493)
  | i + 1 => if i % 64 = 0 then IntKind.u64.wrap (IntKind.u64.wrap (madeX seed i * 2862933555777941757) + 3037000493) else madeX seed i

/-- Bytes that are made of a number. -/
def madeL (seed : Int) (n : Nat) : List UInt8 := (List.range n).map fun i => UInt8.ofNat (madeX seed (i + 1) / 1099511627776 % 256).toNat

theorem madeL_len (seed : Int) (n : Nat) : (madeL seed n).length = n := by simp [madeL]

theorem madeX_turn {seed : Int} {j : Nat} {q : Int} (hq : q = madeX seed j) (h : ((j : Int) % 64 == 0) = true) : IntKind.u64.wrap (IntKind.u64.wrap (q * 2862933555777941757) + 3037000493) = madeX seed (j + 1) := by
  have hm : j % 64 = 0 := by simp at h; omega
  rw [hq]
  conv => rhs; unfold madeX
  rw [if_pos hm]
theorem madeX_stay {seed : Int} {j : Nat} {q : Int} (hq : q = madeX seed j) (h : ((j : Int) % 64 == 0) = false) : q = madeX seed (j + 1) := by
  have hm : ¬ j % 64 = 0 := by simp at h; omega
  conv => rhs; unfold madeX
  rw [if_neg hm, hq]
theorem madeL_step {seed : Int} {l : List UInt8} {j : Nat} (hj : j < l.length) (h : l.take j = madeL seed j) {q : Int} (hq : q = madeX seed (j + 1)) : (l.set j (UInt8.ofNat (q / 1099511627776 % 256).toNat)).take (j + 1) = madeL seed (j + 1) := by
  rw [List.take_succ_eq_append_getElem (by rw [List.length_set]; exact hj), List.take_set, List.set_eq_of_length_le (by rw [List.length_take]; omega), h, hq]
  unfold madeL
  rw [List.range_succ, List.map_append]
  simp

set_option maxHeartbeats 400000 in
theorem Made_any (seed : Int) (n : Nat) (w : World) (hn : n ≤ 140737488355328) :
    Calls Try.prog 29 #[.int .i64 seed, .int .i64 n] w fun e w' => e = .returned (.slice (some ⟨w.heap.size, 0, none⟩) n n) ∧ BB w' w.heap.size (madeL seed n) ∧ Below w.heap.size w w' := by
  have mk := run_mk_bytes n (by omega) n rfl
  go_enter Try.func29, Try.ntmps29
  go_wp2
  go_loopw [6, 7] (fun x i wr => ∃ (j : Nat) (q : Int) (l : List UInt8), j ≤ n ∧ i = .int .i64 j ∧ x = .int .u64 q ∧ Hid (q = madeX seed j) ∧ Hid (l.length = n) ∧ Hid (l.take j = madeL seed j) ∧ BB wr w.heap.size l ∧ Below w.heap.size w wr) (fun _ i _ => n - (intOf i).toNat)
  case atStart =>
    exact ⟨0, _, List.replicate n 0, by omega, rfl, rfl, Lib.hid rfl, Lib.hid (by simp), Lib.hid rfl, BB.zero w n, gr_alloc (gr_refl _) _⟩
  case round =>
    obtain ⟨j, q, l, hj, rfl, rfl, HQ, hl, HT, hB, hb⟩ := hrel
    by_cases hlt : j < n
    · have hc := hB.cell (j := j) (by rw [hl.out]; exact hlt)
      have hf := hB.frozen j
      by_cases hm : ((j : Int) % 64 == 0) = true
      · go_wp2
        go_roundw
        case rel =>
          refine ⟨j + 1, _, _, by omega, by go_num, rfl, ?_, ?_, ?_, hB.setInt j _ ?_ ?_, hb.setCell (Nat.le_refl _) _⟩
          · exact Lib.hid (madeX_turn HQ.out hm)
          · exact Lib.hid (by rw [List.length_set]; exact hl.out)
          · exact Lib.hid (madeL_step (by rw [hl.out]; exact hlt) HT.out (madeX_turn HQ.out hm))
          · exact Int.emod_nonneg _ (by decide)
          · exact Int.emod_lt_of_pos _ (by decide)
        case measure => simp [intOf]; omega
      · have hm' : ((j : Int) % 64 == 0) = false := by simpa using hm
        clear hm
        go_wp2
        go_roundw
        case rel =>
          refine ⟨j + 1, _, _, by omega, by go_num, rfl, ?_, ?_, ?_, hB.setInt j _ ?_ ?_, hb.setCell (Nat.le_refl _) _⟩
          · exact Lib.hid (madeX_stay HQ.out hm')
          · exact Lib.hid (by rw [List.length_set]; exact hl.out)
          · exact Lib.hid (madeL_step (by rw [hl.out]; exact hlt) HT.out (madeX_stay HQ.out hm'))
          · exact Int.emod_nonneg _ (by decide)
          · exact Int.emod_lt_of_pos _ (by decide)
        case measure => simp [intOf]; omega
    · go_wp2
      go_ret
      obtain rfl : j = n := by omega
      refine ⟨rfl, ?_, hb⟩
      have := HT.out
      rw [List.take_of_length_le (Nat.le_of_eq hl.out)] at this
      rw [← this]
      exact hB

end Go.Proofs.Ytmdgnjmhbjdlmaa

/-! Off -/
namespace Go.Proofs.Ytmdgnjmhbjdlmaa
open Go.RowKit

/-- Of the blocks that there were only those of S may have turned. -/
structure Off (S : Nat → Prop) (w w' : World) : Prop where
  os : w'.os = w.os
  tape : w'.tape = w.tape
  output : w'.output = w.output
  size : w.heap.size ≤ w'.heap.size
  block : ∀ k, k < w.heap.size → ¬ S k → w'.heap[k]? = w.heap[k]?

section
variable {S T : Nat → Prop} {w w' w'' : World}
theorem Off.refl (S : Nat → Prop) (w : World) : Off S w w := ⟨rfl, rfl, rfl, Nat.le_refl _, fun _ _ _ => rfl⟩
theorem Off.trans (h : Off S w w') (k : Off S w' w'') : Off S w w'' :=
  ⟨k.os.trans h.os, k.tape.trans h.tape, k.output.trans h.output, Nat.le_trans h.size k.size, fun j hj hS => (k.block j (Nat.lt_of_lt_of_le hj h.size) hS).trans (h.block j hj hS)⟩
theorem Off.mono (h : Off S w w') (hS : ∀ k, k < w.heap.size → S k → T k) : Off T w w' := ⟨h.os, h.tape, h.output, h.size, fun k hk hT => h.block k hk (fun hs => hT (hS k hk hs))⟩
theorem Off.of_below (hb : Below w.heap.size w w') : Off S w w' := ⟨hb.os, hb.tape, hb.output, hb.size, fun k hk _ => hb.block k hk⟩
theorem Off.below {B : Nat} (h : Off S w w') (hS : ∀ k, S k → B ≤ k) (hB : B ≤ w.heap.size) : Below B w w' := ⟨h.os, h.tape, h.output, h.size, fun k hk => h.block k (Nat.lt_of_lt_of_le hk hB) (fun hs => by have := hS k hs; omega)⟩
theorem Off.of_grown {row : Option Nat} (hg : w.grownBy w' row) (hS : ∀ k, row = some k → S k) : Off S w w' := ⟨hg.os, hg.tape, hg.output, hg.size, fun k hk hs => hg.block k hk (fun e => hs (hS k e.symm))⟩
theorem Off.setCell (h : Off S w w') {g j : Nat} (v : Value) (hg : S g) : Off S w (w'.setCell ⟨g, j, none⟩ v) :=
  h.trans (Off.of_grown (row := some g) ⟨rfl, rfl, rfl, (KeepsWalks.setCell w' _ v).size, fun k _ hk => Below.heap_setCell _ _ _ k (fun e => hk (by rw [e]))⟩ (fun k e => by cases e; exact hg))
theorem Off.alloc (h : Off S w w') (o : Obj) : Off S w (w'.alloc o) := h.trans (Off.of_below (gr_alloc (gr_refl w') o))
theorem Off.drewN (h : Off S w w') (n : Nat) : Off S w (w'.drewN n) := ⟨h.os, h.tape, h.output, h.size, h.block⟩
theorem Off.drew (h : Off S w w') : Off S w w'.drew := ⟨h.os, h.tape, h.output, h.size, h.block⟩
end

theorem Rd.off {S : Nat → Prop} {w w' : World} {size n : Nat} {A : Option Addr} {xs : List Value} (h : Rd w size A n xs) (ho : Off S w w') (hS : ∀ ad, A = some ad → 0 < n → ¬ S ad.block) : Rd w' size A n xs := by
  refine ⟨h.1, fun h0 => ?_⟩
  obtain ⟨ad, e, hc⟩ := h.2 h0
  refine ⟨ad, e, fun j u hu => ?_⟩
  have h1 := hc j u hu
  have hlt : (ad.add j).block < w.heap.size := World.block_lt_of_cell? w _ h1
  rw [World.cell?_of_block (ho.block _ hlt (by rw [block_of_add]; exact hS ad e h0))]
  exact h1
theorem BR.off {S : Nat → Prop} {w w' : World} {n : Nat} {A : Option Addr} {l : List UInt8} (h : BR w A n l) (ho : Off S w w') (hS : ∀ ad, A = some ad → 0 < n → ¬ S ad.block) : BR w' A n l := Rd.off h ho hS

theorem cells_ne {w : World} {k : Nat} {c c' : Array Value} {t t' : TypeId} {f f' : Nat × Nat} (h : w.heap[k]? = some (.cells c t f)) (h' : w.heap[k]? = some (.cells c' t' f')) (ht : t ≠ t') : False := by
  rw [h] at h'
  injection h' with h1
  injection h1 with _ h2
  exact ht h2

section
variable {w w' : World} {base : Nat}
theorem ownsRow_off {S : Nat → Prop} {e : TypeId} {size n : Nat} {v : Value} {xs : List Value} (h : w.ownsRow base e size v n xs) (ho : Off S w w') (hS : ∀ k, v.ownBlock = some k → ¬ S k) : w'.ownsRow base e size v n xs := by
  refine ⟨h.1, ?_⟩
  rcases h.2 with h0 | ⟨q, cap, cur, rfl, hb, hg, r⟩
  · exact .inl h0
  · exact .inr ⟨q, cap, cur, rfl, hb, (ho.block q (Array.getElem?_eq_some_iff.1 hg).1 (hS q rfl)).trans hg, r⟩
theorem OB.off {S : Nat → Prop} {v : Value} {l : List UInt8} (h : OB w base v l) (ho : Off S w w') (hS : ∀ k, v.ownBlock = some k → ¬ S k) : OB w' base v l := ownsRow_off h ho hS
theorem own_blk {e : TypeId} {size n : Nat} {v : Value} {xs : List Value} (h : w.ownsRow base e size v n xs) {k : Nat} (hk : v.ownBlock = some k) : ∃ cur, w.heap[k]? = some (.cells cur e (0, 0)) := by
  rcases h.2 with ⟨e0, _⟩ | ⟨g, cap, cur, e0, _, hg, _⟩
  · rw [e0] at hk
    simp [Value.ownBlock] at hk
  · rw [e0] at hk
    simp [Value.ownBlock] at hk
    subst hk
    exact ⟨cur, hg⟩
end

section
variable {S : Nat → Prop} {w w' w'' : World}
theorem Off.setNew (h : Off S w w') {g : Nat} (hg : w.heap.size ≤ g) (j : Nat) (v : Value) : Off S w (w'.setCell ⟨g, j, none⟩ v) :=
  have h2 : Off (fun k => S k ∨ k = g) w (w'.setCell ⟨g, j, none⟩ v) := (h.mono (fun _ _ h => .inl h)).setCell v (.inr rfl)
  h2.mono (fun k hk hs => hs.resolve_right (fun e => by omega))
theorem Off.grownNew (h : Off S w w') {row : Option Nat} (hg : w'.grownBy w'' row) (hr : ∀ k, row = some k → w.heap.size ≤ k) : Off S w w'' :=
  have h2 : Off (fun k => S k ∨ row = some k) w w'' := (h.mono (fun _ _ h => .inl h)).trans (Off.of_grown hg (fun k e => .inr e))
  h2.mono (fun k hk hs => hs.resolve_right (fun e => by have := hr k e; omega))
end
theorem own_lower {w : World} {base b : Nat} {e : TypeId} {size n : Nat} {v : Value} {xs : List Value} (h : w.ownsRow base e size v n xs) (hb : b ≤ base) : w.ownsRow b e size v n xs := by
  refine ⟨h.1, ?_⟩
  rcases h.2 with h | ⟨g, cap, cur, rfl, hg, r⟩
  · exact .inl h
  · exact .inr ⟨g, cap, cur, rfl, by omega, r⟩
theorem Rd.of_own {w : World} {base : Nat} {e : TypeId} {size n c : Nat} {A : Option Addr} {xs : List Value} (h : w.ownsRow base e size (.slice A n c) n xs) : Rd w size A n xs := by
  rcases h.2 with ⟨e0, h0⟩ | ⟨g, cap, cur, e0, r⟩
  · subst h0
    exact ⟨h.1, fun h => absurd h (Nat.lt_irrefl _)⟩
  · cases e0
    exact ⟨h.1, fun _ => ⟨_, rfl, fun j u hu => h.cells (g := g) rfl j u hu⟩⟩

end Go.Proofs.Ytmdgnjmhbjdlmaa

/-! DkA -/
namespace Go.Proofs.Ytmdgnjmhbjdlmaa
open Go.RowKit

/-- A disk's own block. -/
def DB (w : World) (g : Nat) (dv pv : Value) (dn : Bool) (po fa wi : Int) : Prop :=
  w.heap[g]? = some (.cells #[.pointer (some ⟨g, 0, none⟩), dv, pv, .bool dn, .int .i64 po, .int .i64 fa, .int .i64 wi] 85 (0, 0))

section
variable {w w' : World} {g : Nat} {dv pv : Value} {dn : Bool} {po fa wi : Int}
theorem DB.lt (h : DB w g dv pv dn po fa wi) : g < w.heap.size := (Array.getElem?_eq_some_iff.1 h).1
theorem DB.off {S : Nat → Prop} (h : DB w g dv pv dn po fa wi) (ho : Off S w w') (hg : ¬ S g) : DB w' g dv pv dn po fa wi := (ho.block g h.lt hg).trans h
theorem DB.below (h : DB w g dv pv dn po fa wi) (hb : Below w.heap.size w w') : DB w' g dv pv dn po fa wi := (hb.block g h.lt).trans h
theorem DB.frozen (h : DB w g dv pv dn po fa wi) (j : Nat) : w.frozen? ⟨g, j, none⟩ = false := by unfold DB at h; simp [World.frozen?, h]
theorem DB.c0 (h : DB w g dv pv dn po fa wi) : w.cell? ⟨g, 0, none⟩ = some (.pointer (some ⟨g, 0, none⟩)) := by rw [cell_of_row w g 0 _ _ _ h]; rfl
theorem DB.c1 (h : DB w g dv pv dn po fa wi) : w.cell? ⟨g, 1, none⟩ = some dv := by rw [cell_of_row w g 1 _ _ _ h]; rfl
theorem DB.c2 (h : DB w g dv pv dn po fa wi) : w.cell? ⟨g, 2, none⟩ = some pv := by rw [cell_of_row w g 2 _ _ _ h]; rfl
theorem DB.c3 (h : DB w g dv pv dn po fa wi) : w.cell? ⟨g, 3, none⟩ = some (.bool dn) := by rw [cell_of_row w g 3 _ _ _ h]; rfl
theorem DB.c4 (h : DB w g dv pv dn po fa wi) : w.cell? ⟨g, 4, none⟩ = some (.int .i64 po) := by rw [cell_of_row w g 4 _ _ _ h]; rfl
theorem DB.c5 (h : DB w g dv pv dn po fa wi) : w.cell? ⟨g, 5, none⟩ = some (.int .i64 fa) := by rw [cell_of_row w g 5 _ _ _ h]; rfl
theorem DB.c6 (h : DB w g dv pv dn po fa wi) : w.cell? ⟨g, 6, none⟩ = some (.int .i64 wi) := by rw [cell_of_row w g 6 _ _ _ h]; rfl
theorem DB.s2 (h : DB w g dv pv dn po fa wi) (v : Value) : DB (w.setCell ⟨g, 2, none⟩ v) g dv v dn po fa wi := by unfold DB at h ⊢; simp only [World.setCell, Array.getElem?_modify, if_pos, h]; rfl
theorem DB.s3 (h : DB w g dv pv dn po fa wi) (b : Bool) : DB (w.setCell ⟨g, 3, none⟩ (.bool b)) g dv pv b po fa wi := by unfold DB at h ⊢; simp only [World.setCell, Array.getElem?_modify, if_pos, h]; rfl
theorem DB.s4 (h : DB w g dv pv dn po fa wi) (n : Int) : DB (w.setCell ⟨g, 4, none⟩ (.int .i64 n)) g dv pv dn n fa wi := by unfold DB at h ⊢; simp only [World.setCell, Array.getElem?_modify, if_pos, h]; rfl
theorem DB.s5 (h : DB w g dv pv dn po fa wi) (n : Int) : DB (w.setCell ⟨g, 5, none⟩ (.int .i64 n)) g dv pv dn po n wi := by unfold DB at h ⊢; simp only [World.setCell, Array.getElem?_modify, if_pos, h]; rfl
theorem DB.s6 (h : DB w g dv pv dn po fa wi) (n : Int) : DB (w.setCell ⟨g, 6, none⟩ (.int .i64 n)) g dv pv dn po fa n := by unfold DB at h ⊢; simp only [World.setCell, Array.getElem?_modify, if_pos, h]; rfl
end

set_option maxHeartbeats 400000 in
theorem aStore_any (a : Addr) (v : Int) (u : Value) (w : World) (hc : w.cell? a = some u) (hz : w.frozen? a = false) :
    Calls Try.prog 45 #[.pointer (some a), .int .i64 v] w fun e w' => (∃ x, e = .returned x) ∧ w.setCell a (.int .i64 v) = w' := by
  obtain ⟨g, o, rfl⟩ : ∃ g o, a = ⟨g, o, none⟩ := by
    obtain ⟨g, o, sp⟩ := a
    have := World.cell?_spot hc
    dsimp only at this
    subst this
    exact ⟨g, o, rfl⟩
  have hs := run_call_store (P := Try.prog) Try.func60 (by kernel_rfl) (by kernel_rfl) (by kernel_rfl) (by kernel_rfl) (k := .i64) (y := v) hc hz
  go_enter Try.func45, Try.ntmps45
  go_wp2_with fail
  go_end0
  exact ⟨⟨_, rfl⟩, rfl⟩

set_option maxHeartbeats 400000 in
theorem aLoad_any (a : Addr) (v : Int) (w : World) (hc : w.cell? a = some (.int .i64 v)) :
    Calls Try.prog 51 #[.pointer (some a)] w fun e w' => e = .returned (.int .i64 v) ∧ w = w' := by
  obtain ⟨g, o, rfl⟩ : ∃ g o, a = ⟨g, o, none⟩ := by
    obtain ⟨g, o, sp⟩ := a
    have := World.cell?_spot hc
    dsimp only at this
    subst this
    exact ⟨g, o, rfl⟩
  have hs := run_call_load (P := Try.prog) Try.func66 (by kernel_rfl) (by kernel_rfl) (by kernel_rfl) .i64 (by kernel_rfl) hc
  go_enter Try.func51, Try.ntmps51
  go_wp2_with fail
  go_ret
  exact ⟨rfl, rfl⟩

theorem info_disk : (Try.prog.info? 85).map (fun i => (i.size, i.bytes)) = some (7, 88) := by kernel_rfl
theorem eql_self (W : World) (a : Addr) : (binOp .eql 22 (.pointer (some a)) (.pointer (some a))).run Try.prog W = .ok (.bool true) W := by
  obtain ⟨j, hj⟩ : ∃ j, Try.prog.info? 85 = some j := by
    have := info_disk
    cases h : Try.prog.info? 85 with
    | none => rw [h] at this; cases this
    | some j => exact ⟨j, rfl⟩
  exact run_eql_ptr_same W a Try.underlying22 hj
theorem eql_nil (W : World) (a : Addr) : (binOp .eql 22 (.pointer none) (.pointer (some a))).run Try.prog W = .ok (.bool false) W := by
  have h : ∀ d : Nat, (Op.equalIn (d + 1) 22 (.pointer none) (.pointer (some a))).run Try.prog W = .ok false W := fun d => by
    simp [Op.equalIn, run_underlying Try.underlying22]
  simp only [binOp]
  simp [Op.equal, Op.maxDepth, h 9999]

set_option maxHeartbeats 400000 in
theorem made_yes (g : Nat) (w : World) (h0 : w.cell? ⟨g, 0, none⟩ = some (.pointer (some ⟨g, 0, none⟩))) :
    Calls Try.prog 53 #[.pointer (some ⟨g, 0, none⟩)] w fun e w' => e = .returned (.bool true) ∧ w = w' := by
  have hq := fun W => eql_self W ⟨g, 0, none⟩
  go_enter Try.func53, Try.ntmps53
  go_wp2_with fail
  go_ret
  exact ⟨rfl, rfl⟩

set_option maxHeartbeats 400000 in
theorem made_nil (w : World) :
    Calls Try.prog 53 #[.pointer none] w fun e w' => e = .returned (.bool false) ∧ w = w' := by
  go_enter Try.func53, Try.ntmps53
  go_wp2_with fail
  go_ret
  exact ⟨rfl, rfl⟩

set_option maxHeartbeats 400000 in
theorem made_no (g : Nat) (w : World) (h0 : w.cell? ⟨g, 0, none⟩ = some (.pointer none)) :
    Calls Try.prog 53 #[.pointer (some ⟨g, 0, none⟩)] w fun e w' => e = .returned (.bool false) ∧ w = w' := by
  have hq := fun W => eql_nil W ⟨g, 0, none⟩
  go_enter Try.func53, Try.ntmps53
  go_wp2_with fail
  go_ret
  exact ⟨rfl, rfl⟩

set_option maxHeartbeats 400000 in
theorem disarm_any (g : Nat) (dv pv : Value) (dn : Bool) (po fa wi : Int) (w : World) (h : DB w g dv pv dn po fa wi) :
    Calls Try.prog 59 #[.pointer (some ⟨g, 0, none⟩)] w fun e w' => (∃ x, e = .returned x) ∧ DB w' g dv pv dn (-1) (-1) 0 ∧ Off (· = g) w w' := by
  go_enter Try.func59, Try.ntmps59
  go_wp2_with fail
  refine (aStore_any ⟨g, 4, none⟩ (-1) _ w h.c4 (h.frozen 4)).mono ?_
  rintro e w1 ⟨⟨x, rfl⟩, rfl⟩
  have h1 := h.s4 (-1)
  have o1 : Off (· = g) w (w.setCell ⟨g, 4, none⟩ (.int .i64 (-1))) := (Off.refl _ w).setCell _ rfl
  generalize w.setCell ⟨g, 4, none⟩ (.int .i64 (-1)) = w1 at *
  go_wp2_with fail
  refine (aStore_any ⟨g, 5, none⟩ (-1) _ w1 h1.c5 (h1.frozen 5)).mono ?_
  rintro e w2 ⟨⟨y, rfl⟩, rfl⟩
  have h2 := h1.s5 (-1)
  have o2 : Off (· = g) w (w1.setCell ⟨g, 5, none⟩ (.int .i64 (-1))) := o1.setCell _ rfl
  generalize w1.setCell ⟨g, 5, none⟩ (.int .i64 (-1)) = w2 at *
  have c6 := h2.c6
  have z6 := h2.frozen 6
  have H3 := Lib.hid (h2.s6 0)
  have o3 : Off (· = g) w (w2.setCell ⟨g, 6, none⟩ (.int .i64 0)) := o2.setCell _ rfl
  go_wp2_with fail
  go_end0
  exact ⟨⟨_, rfl⟩, H3.out, o3⟩

/-- What is left of what is armed, and whether it stops this one. -/
def stL (n : Int) : Int := if n = -1 then -1 else n - 1
def stB (n : Int) : Bool := n == 0

set_option maxHeartbeats 400000 in
theorem stops_any (g j : Nat) (n : Int) (w : World) (hc : w.cell? ⟨g, j, none⟩ = some (.int .i64 n)) (hz : w.frozen? ⟨g, j, none⟩ = false) (h1 : -1 ≤ n) (h2 : n ≤ 9223372036854775807) :
    Calls Try.prog 67 #[.pointer (some ⟨g, j, none⟩)] w fun e w' => e = .returned (.bool (stB n)) ∧ ((n = -1 ∧ w = w') ∨ (n ≠ -1 ∧ w.setCell ⟨g, j, none⟩ (.int .i64 (stL n)) = w')) := by
  by_cases hn : n = -1
  · subst hn
    go_enter Try.func67, Try.ntmps67
    go_wp2_with fail
    refine (aLoad_any _ _ w hc).mono ?_
    rintro e w' ⟨rfl, rfl⟩
    go_wp2_with fail
    go_ret
    exact ⟨rfl, .inl (by simp)⟩
  · have t1 : (n == -1) = false := beq_eq_false_iff_ne.2 hn
    have hst : stL n = n - 1 := if_neg hn
    have HST := Lib.hid hst
    clear hst
    go_enter Try.func67, Try.ntmps67
    go_wp2_with fail
    refine (aLoad_any _ _ w hc).mono ?_
    rintro e w' ⟨rfl, rfl⟩
    go_wp2_with fail
    refine (aStore_any _ _ _ w hc hz).mono ?_
    rintro e w' ⟨⟨x, rfl⟩, rfl⟩
    go_wp2_with fail
    go_ret
    exact ⟨rfl, .inr ⟨hn, by rw [HST.out]⟩⟩

/-- An operation: what it is answered, whether the disk is down behind it, what is left of what was armed. -/
def opE (dn : Bool) (po fa wi : Int) : Int := if dn then 6 else if stB po then 6 else if stB fa then wi else 0
def opD (dn : Bool) (po : Int) : Bool := dn || stB po
def opL (dn : Bool) (n : Int) : Int := if dn then n else stL n

set_option maxRecDepth 100000 in
set_option maxHeartbeats 1000000 in
theorem operation_any (g : Nat) (dv pv : Value) (dn : Bool) (po fa wi : Int) (w : World) (h : DB w g dv pv dn po fa wi) (h1 : -1 ≤ po) (h2 : po ≤ 9223372036854775807) (h3 : -1 ≤ fa) (h4 : fa ≤ 9223372036854775807) :
    Calls Try.prog 52 #[.pointer (some ⟨g, 0, none⟩)] w fun e w' => e = .returned (.int .i64 (opE dn po fa wi)) ∧ DB w' g dv pv (opD dn po) (opL dn po) (opL dn fa) wi ∧ Off (· = g) w w' := by
  cases dn with
  | true =>
    have c3 := h.c3
    go_enter Try.func52, Try.ntmps52
    go_wp2_with fail
    go_ret
    exact ⟨rfl, h, Off.refl _ _⟩
  | false =>
    have c3 := h.c3
    have hS1 : ∀ w1 : World, DB w1 g dv pv false po fa wi → Calls Try.prog 67 #[.pointer (some ⟨g, 4, none⟩)] w1 fun e w2 => e = .returned (.bool (stB po)) ∧ DB w2 g dv pv false (stL po) fa wi ∧ Off (· = g) w1 w2 := by
      intro w1 hw1
      refine (stops_any g 4 po w1 hw1.c4 (hw1.frozen 4) h1 h2).mono ?_
      rintro e w2 ⟨rfl, ⟨rfl, rfl⟩ | ⟨hn, rfl⟩⟩
      · exact ⟨rfl, hw1, Off.refl _ _⟩
      · exact ⟨rfl, hw1.s4 _, (Off.refl _ w1).setCell _ rfl⟩
    have hS2 : ∀ w1 : World, DB w1 g dv pv false (stL po) fa wi → Calls Try.prog 67 #[.pointer (some ⟨g, 5, none⟩)] w1 fun e w2 => e = .returned (.bool (stB fa)) ∧ DB w2 g dv pv false (stL po) (stL fa) wi ∧ Off (· = g) w1 w2 := by
      intro w1 hw1
      refine (stops_any g 5 fa w1 hw1.c5 (hw1.frozen 5) h3 h4).mono ?_
      rintro e w2 ⟨rfl, ⟨rfl, rfl⟩ | ⟨hn, rfl⟩⟩
      · exact ⟨rfl, hw1, Off.refl _ _⟩
      · exact ⟨rfl, hw1.s5 _, (Off.refl _ w1).setCell _ rfl⟩
    have HS1 := Lib.hid hS1
    have HS2 := Lib.hid hS2
    have hd : DB w.drew g dv pv false po fa wi := h
    have HE : Hid (opE false po fa wi = if stB po then 6 else if stB fa then wi else 0) := Lib.hid rfl
    have HD : Hid (opD false po = stB po) := Lib.hid rfl
    have HL1 : Hid (opL false po = stL po) := Lib.hid rfl
    have HL2 : Hid (opL false fa = stL fa) := Lib.hid rfl
    clear hS1 hS2
    generalize opE false po fa wi = oe at *
    generalize opD false po = od at *
    generalize opL false po = o1 at *
    generalize opL false fa = o2 at *
    generalize hb1 : stB po = b1 at *
    generalize hb2 : stB fa = b2 at *
    clear hb1 hb2
    go_enter Try.func52, Try.ntmps52
    go_wp2_with fail
    go_region_with (first | ((with_reducible refine (HS1.out _ (by exact hd)).mono ?_); rintro e w1 ⟨rfl, hd1, ho1⟩) | ((with_reducible refine (HS2.out _ (by exact hd1)).mono ?_); rintro e w2 ⟨rfl, hd2, ho2⟩))
    have ho12 := (show Off (· = g) w w1 from ⟨ho1.os, ho1.tape, ho1.output, ho1.size, ho1.block⟩).trans ho2
    have e3 := hd2.c3
    have z3 := hd2.frozen 3
    have e6 := hd2.c6
    have HX := Lib.hid (hd2.s3 true)
    have ho3 : Off (· = g) w (w2.setCell ⟨g, 3, none⟩ (.bool true)) := ho12.setCell _ rfl
    cases b1 with
    | true =>
      go_wp2_with fail
      go_ret
      exact ⟨ret_i (by rw [HE.out]; rfl), by rw [HD.out, HL1.out, HL2.out]; exact HX.out, ho3⟩
    | false =>
      cases b2 with
      | true =>
        go_wp2_with fail
        go_ret
        exact ⟨ret_i (by rw [HE.out]; rfl), by rw [HD.out, HL1.out, HL2.out]; exact hd2, ho12⟩
      | false =>
        go_wp2_with fail
        go_ret
        exact ⟨ret_i (by rw [HE.out]; rfl), by rw [HD.out, HL1.out, HL2.out]; exact hd2, ho12⟩

end Go.Proofs.Ytmdgnjmhbjdlmaa

/-! DkB -/
namespace Go.Proofs.Ytmdgnjmhbjdlmaa
open Go.RowKit

/-- A disk as the document has it: what its blocks hold, the unsynced writes, whether the power is gone, what is armed. -/
structure DiskS where
  blocks : List (List UInt8)
  pending : List (Nat × List UInt8)
  down : Bool
  power : Int
  fault : Int
  wi : Int

/-- A block of noughts. -/
def zer : List UInt8 := List.replicate 4096 (0 : UInt8)
theorem zer_len : zer.length = 4096 := by unfold zer; rw [List.length_replicate]
theorem splice_zer (m : List UInt8) (h : m.length = 4096) : splice zer 0 m = m := by
  unfold splice
  rw [h, List.take_zero, List.drop_eq_nil_of_le (by rw [zer_len]; omega), List.nil_append, List.append_nil]
theorem splice_zer_nil : splice zer 0 [] = zer := by
  unfold splice
  rw [List.take_zero, List.length_nil, List.drop_zero, List.nil_append, List.nil_append]

/-- The value u is a block's bytes l (nil: noughts), kept in a block of memory of which 'ok' holds. -/
def BV (ok : Nat → Prop) (w : World) (u : Value) (l : List UInt8) : Prop :=
  l.length = 4096 ∧ ((u = .slice none 0 0 ∧ l = zer) ∨ ∃ g, u = .slice (some ⟨g, 0, none⟩) 4096 4096 ∧ BB w g l ∧ ok g)

section
variable {ok ok' : Nat → Prop} {w w' : World} {u : Value} {l : List UInt8}
theorem BV.off {S : Nat → Prop} (h : BV ok w u l) (ho : Off S w w') (hS : ∀ k m, S k → BB w k m → False) : BV ok w' u l := by
  obtain ⟨hl, h | ⟨g, e, hB, hg⟩⟩ := h
  · exact ⟨hl, .inl h⟩
  · exact ⟨hl, .inr ⟨g, e, (ho.block g hB.lt (fun hs => hS g l hs hB)).trans hB, hg⟩⟩
theorem BV.below (h : BV ok w u l) (hb : Below w.heap.size w w') : BV ok w' u l := h.off (S := fun _ => False) (Off.of_below hb) (fun _ _ h => h.elim)
theorem BV.mono (h : BV ok w u l) (hk : ∀ k, k < w.heap.size → ok k → ok' k) : BV ok' w u l := by
  obtain ⟨hl, h | ⟨g, e, hB, hg⟩⟩ := h
  · exact ⟨hl, .inl h⟩
  · exact ⟨hl, .inr ⟨g, e, hB, hk g hB.lt hg⟩⟩
theorem BV.one (h : BV ok w u l) : u.oneCell' = true := by
  obtain ⟨hl, ⟨rfl, _⟩ | ⟨g, rfl, _⟩⟩ := h <;> rfl
/-- Such a value read: noughts are told as nothing. -/
theorem BV.read (h : BV ok w u l) : ∃ A n c m, u = .slice A n c ∧ BR w A n m ∧ n ≤ 4096 ∧ splice (zer) 0 m = l := by
  obtain ⟨hl, ⟨rfl, rfl⟩ | ⟨g, rfl, hB, _⟩⟩ := h
  · exact ⟨none, 0, 0, [], rfl, BR.none_ _ _, by omega, splice_zer_nil⟩
  · have hr := hB.readsAll
    rw [hl] at hr
    exact ⟨_, _, _, l, rfl, hr, Nat.le_refl _, splice_zer l hl⟩
end

/-- .. and it is not nil. -/
def BW (ok : Nat → Prop) (w : World) (u : Value) (l : List UInt8) : Prop := l.length = 4096 ∧ ∃ g, u = .slice (some ⟨g, 0, none⟩) 4096 4096 ∧ BB w g l ∧ ok g
section
variable {ok ok' : Nat → Prop} {w w' : World} {u : Value} {l : List UInt8}
theorem BW.bv (h : BW ok w u l) : BV ok w u l := ⟨h.1, .inr h.2⟩
theorem BW.off {S : Nat → Prop} (h : BW ok w u l) (ho : Off S w w') (hS : ∀ k m, S k → BB w k m → False) : BW ok w' u l := by
  obtain ⟨hl, g, e, hB, hg⟩ := h
  exact ⟨hl, g, e, (ho.block g hB.lt (fun hs => hS g l hs hB)).trans hB, hg⟩
theorem BW.below (h : BW ok w u l) (hb : Below w.heap.size w w') : BW ok w' u l := h.off (S := fun _ => False) (Off.of_below hb) (fun _ _ h => h.elim)
theorem BW.mono (h : BW ok w u l) (hk : ∀ k, k < w.heap.size → ok k → ok' k) : BW ok' w u l := by
  obtain ⟨hl, g, e, hB, hg⟩ := h
  exact ⟨hl, g, e, hB, hk g hB.lt hg⟩
end

set_option maxHeartbeats 400000 in
theorem whole_any (A : Option Addr) (n c : Nat) (m : List UInt8) (w : World) (ha : BR w A n m) (hn : n ≤ 4096) :
    Calls Try.prog 50 #[.slice A n c] w fun e w' => e = .returned (.slice (some ⟨w.heap.size, 0, none⟩) 4096 4096) ∧ BB w' w.heap.size (splice (zer) 0 m) ∧ Below w.heap.size w w' := by
  have mk := run_mk_bytes 4096 (by omega) 4096 rfl
  have hB : BB (w.alloc (.cells (zeroB 4096) 5)) w.heap.size zer := BB.zero w 4096
  have hb1 := gr_alloc (gr_refl w) (.cells (zeroB 4096) 5)
  have hcp := run_copy_B (w.alloc (.cells (zeroB 4096) 5)) 3 w.heap.size 0 4096 4096 _ m (some ⟨w.heap.size, 0, none⟩) A n c n hB (ha.below hb1) (Nat.min_eq_left hn) (fun _ => rfl) (by rw [zer_len]; omega)
  rw [List.take_of_length_le (Nat.le_of_eq ha.len)] at hcp
  have hB2 := hB.set_ (splice (zer) 0 m)
  have hb2 : Below w.heap.size w (setB (w.alloc (.cells (zeroB 4096) 5)) w.heap.size (splice (zer) 0 m)) := setB_below hb1 (Nat.le_refl _) _
  generalize splice (zer) 0 m = L at *
  clear hB
  go_enter Try.func50, Try.ntmps50
  go_wp2_with fail
  go_ret
  exact ⟨rfl, hB2, hb2⟩

/-- A row of writes has the cells of pieces: a number and a slice each. -/
def wrs : List (Int × Value) → List Value
  | [] => []
  | p :: ps => .int .i64 p.1 :: p.2 :: wrs ps

theorem wrs_length (ps : List (Int × Value)) : (wrs ps).length = ps.length * 2 := by
  induction ps with
  | nil => rfl
  | cons p ps ih => simp only [wrs, List.length_cons, ih]; omega
theorem wrs_append (ps qs : List (Int × Value)) : wrs (ps ++ qs) = wrs ps ++ wrs qs := by
  induction ps with
  | nil => rfl
  | cons p ps ih => simp only [wrs, List.cons_append, ih]
theorem wrs_at : ∀ (ps : List (Int × Value)) (i : Nat) (p : Int × Value), ps[i]? = some p → (wrs ps)[i * 2]? = some (.int .i64 p.1) ∧ (wrs ps)[i * 2 + 1]? = some p.2
  | [], i, p, h => by simp at h
  | q :: ps, 0, p, h => by
    simp at h
    subst h
    exact ⟨rfl, rfl⟩
  | q :: ps, i + 1, p, h => by
    have ih := wrs_at ps i p (by simpa using h)
    have e1 : (i + 1) * 2 = i * 2 + 2 := by omega
    have e2 : (i + 1) * 2 + 1 = i * 2 + 1 + 2 := by omega
    rw [e2, e1]
    simpa [wrs] using ih
theorem one_wrs (ps : List (Int × Value)) (h : ∀ p ∈ ps, p.2.oneCell' = true) : ∀ u ∈ wrs ps, u.oneCell' = true := by
  induction ps with
  | nil => intro u hu; cases hu
  | cons p ps ih =>
    intro u hu
    simp only [wrs, List.mem_cons] at hu
    rcases hu with rfl | rfl | hu
    · rfl
    · exact h p (List.mem_cons_self ..)
    · exact ih (fun q hq => h q (List.mem_cons_of_mem _ hq)) u hu

/-- A disk in memory, with all that it keeps there. -/
structure DK (w : World) (ok : Nat → Prop) (base g dr dc : Nat) (pv : Value) (dvs : List Value) (pvs : List (Int × Value)) (D : DiskS) : Prop where
  db : DB w g (.slice (some ⟨dr, 0, none⟩) D.blocks.length dc) pv D.down D.power D.fault D.wi
  dur : w.ownsRow base 26 1 (.slice (some ⟨dr, 0, none⟩) D.blocks.length dc) D.blocks.length dvs
  pen : w.ownsRow base 90 2 pv D.pending.length (wrs pvs)
  pl : pvs.length = D.pending.length
  dv : ∀ (i : Nat) (u : Value) (l : List UInt8), dvs[i]? = some u → D.blocks[i]? = some l → BV ok w u l
  pw : ∀ (i : Nat) (q : Int × Value) (p : Nat × List UInt8), pvs[i]? = some q → D.pending[i]? = some p → q.1 = (p.1 : Int) ∧ p.1 < D.blocks.length ∧ BW ok w q.2 p.2
  n1 : 1 ≤ D.blocks.length
  n2 : D.blocks.length ≤ 4096
  p1 : -1 ≤ D.power
  p2 : D.power ≤ 9223372036854775807
  f1 : -1 ≤ D.fault
  f2 : D.fault ≤ 9223372036854775807
  gb : base ≤ g

/-- The blocks of memory that a disk turns. -/
def foot (g dr : Nat) (pv : Value) (k : Nat) : Prop := k = g ∨ k = dr ∨ pv.ownBlock = some k

section
variable {w w' : World} {ok ok' : Nat → Prop} {base g dr dc : Nat} {pv : Value} {dvs : List Value} {pvs : List (Int × Value)} {D : DiskS}
theorem DK.dl (h : DK w ok base g dr dc pv dvs pvs D) : dvs.length = D.blocks.length := by have := h.dur.1; simpa using this
/-- What turns only elsewhere, and none of its bytes, leaves the disk as it was. -/
theorem DK.off {S : Nat → Prop} (h : DK w ok base g dr dc pv dvs pvs D) (ho : Off S w w') (hS : ∀ k, foot g dr pv k → ¬ S k) (hB : ∀ k m, S k → BB w k m → False) : DK w' ok base g dr dc pv dvs pvs D :=
  ⟨h.db.off ho (hS g (.inl rfl)), ownsRow_off h.dur ho (fun k e => hS k (by cases e; exact .inr (.inl rfl))), ownsRow_off h.pen ho (fun k e => hS k (.inr (.inr e))), h.pl,
   fun i u l h1 h2 => (h.dv i u l h1 h2).off ho hB, fun i q p h1 h2 => ⟨(h.pw i q p h1 h2).1, (h.pw i q p h1 h2).2.1, (h.pw i q p h1 h2).2.2.off ho hB⟩, h.n1, h.n2, h.p1, h.p2, h.f1, h.f2, h.gb⟩
theorem DK.below (h : DK w ok base g dr dc pv dvs pvs D) (hb : Below w.heap.size w w') : DK w' ok base g dr dc pv dvs pvs D := h.off (S := fun _ => False) (Off.of_below hb) (fun _ _ h => h) (fun _ _ h => h.elim)
theorem DK.mono (h : DK w ok base g dr dc pv dvs pvs D) (hk : ∀ k, k < w.heap.size → ok k → ok' k) : DK w ok' base g dr dc pv dvs pvs D :=
  ⟨h.db, h.dur, h.pen, h.pl, fun i u l h1 h2 => (h.dv i u l h1 h2).mono hk, fun i q p h1 h2 => ⟨(h.pw i q p h1 h2).1, (h.pw i q p h1 h2).2.1, (h.pw i q p h1 h2).2.2.mono hk⟩, h.n1, h.n2, h.p1, h.p2, h.f1, h.f2, h.gb⟩
/-- None of the blocks that it turns is one of bytes. -/
theorem DK.foot_bytes (h : DK w ok base g dr dc pv dvs pvs D) : ∀ k m, foot g dr pv k → BB w k m → False := by
  intro k m hk hB
  rcases hk with rfl | rfl | hk
  · exact hB.ne h.db (by decide) rfl
  · rcases h.dur.2 with ⟨e, _⟩ | ⟨q, cap, cur, e, _, hq, _⟩
    · cases e
    · cases e; exact hB.ne hq (by decide) rfl
  · rcases h.pen.2 with ⟨rfl, _⟩ | ⟨q, cap, cur, rfl, _, hq, _⟩
    · simp [Value.ownBlock] at hk
    · simp [Value.ownBlock] at hk; subst hk; exact hB.ne hq (by decide) rfl
theorem DK.foot_lt (h : DK w ok base g dr dc pv dvs pvs D) : ∀ k, foot g dr pv k → base ≤ k ∧ k < w.heap.size := by
  intro k hk
  rcases hk with rfl | rfl | hk
  · exact ⟨h.gb, h.db.lt⟩
  · exact h.dur.lt k rfl
  · exact h.pen.lt k hk
theorem DK.ne_gd (h : DK w ok base g dr dc pv dvs pvs D) : g ≠ dr := by
  rintro rfl
  rcases h.dur.2 with ⟨e, _⟩ | ⟨q, cap, cur, e, _, hq, _⟩
  · cases e
  · cases e; exact cells_ne hq h.db (by decide)
theorem DK.ne_gp (h : DK w ok base g dr dc pv dvs pvs D) : pv.ownBlock ≠ some g := by
  intro e
  rcases h.pen.2 with ⟨rfl, _⟩ | ⟨q, cap, cur, rfl, _, hq, _⟩
  · simp [Value.ownBlock] at e
  · simp [Value.ownBlock] at e; subst e; exact cells_ne hq h.db (by decide)
theorem DK.ne_dp (h : DK w ok base g dr dc pv dvs pvs D) : pv.ownBlock ≠ some dr := by
  intro e
  rcases h.pen.2 with ⟨rfl, _⟩ | ⟨q, cap, cur, rfl, _, hq, _⟩
  · simp [Value.ownBlock] at e
  · simp [Value.ownBlock] at e
    subst e
    rcases h.dur.2 with ⟨e, _⟩ | ⟨q', cap', cur', e, _, hq', _⟩
    · cases e
    · cases e; exact cells_ne hq hq' (by decide)
end

end Go.Proofs.Ytmdgnjmhbjdlmaa

/-! DkC -/
namespace Go.Proofs.Ytmdgnjmhbjdlmaa
open Go.RowKit

/-- A disk in memory; F: the blocks that it turns. -/
def IsD (w : World) (ok : Nat → Prop) (base g : Nat) (F : Nat → Prop) (D : DiskS) : Prop :=
  ∃ dr dc pv dvs pvs, DK w ok base g dr dc pv dvs pvs D ∧ ∀ k, F k ↔ foot g dr pv k

/-- What an operation of a disk leaves behind. -/
def DPost (w : World) (ok : Nat → Prop) (base g : Nat) (F : Nat → Prop) (D : DiskS) (w' : World) : Prop :=
  Off F w w' ∧ ∃ F', IsD w' (fun k => ok k ∨ w.heap.size ≤ k) base g F' D ∧ ∀ k, F' k → F k ∨ w.heap.size ≤ k

theorem DPost.same {w : World} {ok : Nat → Prop} {base g : Nat} {F : Nat → Prop} {D : DiskS} (h : IsD w ok base g F D) : DPost w ok base g F D w := by
  refine ⟨Off.refl _ _, F, ?_, fun k h => .inl h⟩
  obtain ⟨dr, dc, pv, dvs, pvs, hd, hF⟩ := h
  exact ⟨dr, dc, pv, dvs, pvs, hd.mono (fun k _ h => .inl h), hF⟩

section
variable {w w' : World} {ok ok' : Nat → Prop} {base g : Nat} {F : Nat → Prop} {D : DiskS}
theorem IsD.off {S : Nat → Prop} (h : IsD w ok base g F D) (ho : Off S w w') (hS : ∀ k, F k → ¬ S k) (hB : ∀ k m, S k → BB w k m → False) : IsD w' ok base g F D := by
  obtain ⟨dr, dc, pv, dvs, pvs, hd, hF⟩ := h
  exact ⟨dr, dc, pv, dvs, pvs, hd.off ho (fun k hk => hS k ((hF k).2 hk)) hB, hF⟩
theorem IsD.below (h : IsD w ok base g F D) (hb : Below w.heap.size w w') : IsD w' ok base g F D := by
  obtain ⟨dr, dc, pv, dvs, pvs, hd, hF⟩ := h
  exact ⟨dr, dc, pv, dvs, pvs, hd.below hb, hF⟩
theorem IsD.mono (h : IsD w ok base g F D) (hk : ∀ k, k < w.heap.size → ok k → ok' k) : IsD w ok' base g F D := by
  obtain ⟨dr, dc, pv, dvs, pvs, hd, hF⟩ := h
  exact ⟨dr, dc, pv, dvs, pvs, hd.mono hk, hF⟩
theorem IsD.foot_bytes (h : IsD w ok base g F D) : ∀ k m, F k → BB w k m → False := by
  obtain ⟨dr, dc, pv, dvs, pvs, hd, hF⟩ := h
  exact fun k m hk => hd.foot_bytes k m ((hF k).1 hk)
theorem IsD.foot_lt (h : IsD w ok base g F D) : ∀ k, F k → base ≤ k ∧ k < w.heap.size := by
  obtain ⟨dr, dc, pv, dvs, pvs, hd, hF⟩ := h
  exact fun k hk => hd.foot_lt k ((hF k).1 hk)
theorem IsD.own (h : IsD w ok base g F D) : F g := by
  obtain ⟨dr, dc, pv, dvs, pvs, hd, hF⟩ := h
  exact (hF g).2 (.inl rfl)
theorem IsD.c0 (h : IsD w ok base g F D) : w.cell? ⟨g, 0, none⟩ = some (.pointer (some ⟨g, 0, none⟩)) := by
  obtain ⟨dr, dc, pv, dvs, pvs, hd, hF⟩ := h
  exact hd.db.c0
end

/-- What stands against a call that names block b. -/
def askE (D : DiskS) (b : Int) : Int := if b < 0 ∨ (D.blocks.length : Int) ≤ b then 2 else 0

set_option maxHeartbeats 400000 in
theorem asked_any (w : World) (ok : Nat → Prop) (base g : Nat) (F : Nat → Prop) (D : DiskS) (b : Int) (h : IsD w ok base g F D) :
    Calls Try.prog 48 #[.pointer (some ⟨g, 0, none⟩), .int .i64 b] w fun e w' => e = .returned (.int .i64 (askE D b)) ∧ w = w' := by
  obtain ⟨dr, dc, pv, dvs, pvs, hd, hF⟩ := h
  have HM := Lib.hid (made_yes g w hd.db.c0)
  have c1 := hd.db.c1
  have n2 := hd.n2
  have HE : Hid (askE D b = if b < 0 ∨ (D.blocks.length : Int) ≤ b then 2 else 0) := Lib.hid rfl
  clear hd hF
  generalize askE D b = r at *
  generalize D.blocks.length = n at *
  by_cases h1 : b < 0
  · have t1 : decide (b < 0) = true := by simpa using h1
    go_enter Try.func48, Try.ntmps48
    go_wp2_with fail
    refine HM.out.mono ?_
    rintro e w' ⟨rfl, rfl⟩
    go_wp2_with fail
    go_ret
    exact ⟨ret_i (by rw [HE.out, if_pos (.inl h1)]), rfl⟩
  · have t1 : decide (b < 0) = false := by simpa using h1
    by_cases h2 : (n : Int) ≤ b
    · have t2 : decide ((n : Int) ≤ b) = true := by simpa using h2
      go_enter Try.func48, Try.ntmps48
      go_wp2_with fail
      refine HM.out.mono ?_
      rintro e w' ⟨rfl, rfl⟩
      go_wp2_with fail
      go_ret
      exact ⟨ret_i (by rw [HE.out, if_pos (.inr h2)]), rfl⟩
    · have t2 : decide ((n : Int) ≤ b) = false := by simpa using h2
      go_enter Try.func48, Try.ntmps48
      go_wp2_with fail
      refine HM.out.mono ?_
      rintro e w' ⟨rfl, rfl⟩
      go_wp2_with fail
      go_ret
      exact ⟨ret_i (by rw [HE.out, if_neg (by omega)]), rfl⟩

set_option maxHeartbeats 400000 in
theorem Blocks_any (w : World) (ok : Nat → Prop) (base g : Nat) (F : Nat → Prop) (D : DiskS) (h : IsD w ok base g F D) :
    Calls Try.prog 44 #[.pointer (some ⟨g, 0, none⟩)] w fun e w' => e = .returned (.int .i64 (D.blocks.length : Int)) ∧ w = w' := by
  obtain ⟨dr, dc, pv, dvs, pvs, hd, hF⟩ := h
  have HM := Lib.hid (made_yes g w hd.db.c0)
  have c1 := hd.db.c1
  have n2 := hd.n2
  clear hd hF
  generalize D.blocks.length = n at *
  go_enter Try.func44, Try.ntmps44
  go_wp2_with fail
  refine HM.out.mono ?_
  rintro e w' ⟨rfl, rfl⟩
  go_wp2_with fail
  go_ret
  exact ⟨rfl, rfl⟩

set_option maxHeartbeats 400000 in
theorem Pending_any (w : World) (ok : Nat → Prop) (base g : Nat) (F : Nat → Prop) (D : DiskS) (h : IsD w ok base g F D) :
    Calls Try.prog 30 #[.pointer (some ⟨g, 0, none⟩)] w fun e w' => e = .returned (.int .i64 (D.pending.length : Int)) ∧ w = w' := by
  obtain ⟨dr, dc, pv, dvs, pvs, hd, hF⟩ := h
  have HM := Lib.hid (made_yes g w hd.db.c0)
  have c2 := hd.db.c2
  obtain ⟨A, c, rfl, _, _⟩ := own_form hd.pen
  clear hd hF
  generalize D.pending.length = n at *
  go_enter Try.func30, Try.ntmps30
  go_wp2_with fail
  refine HM.out.mono ?_
  rintro e w' ⟨rfl, rfl⟩
  go_wp2_with fail
  go_ret
  exact ⟨rfl, rfl⟩

/-- The disk's own cells alone have turned. -/
theorem DK.turn {w w' : World} {ok : Nat → Prop} {base g dr dc : Nat} {pv : Value} {dvs : List Value} {pvs : List (Int × Value)} {D D' : DiskS} (h : DK w ok base g dr dc pv dvs pvs D) (ho : Off (· = g) w w')
    (hdb : DB w' g (.slice (some ⟨dr, 0, none⟩) D.blocks.length dc) pv D'.down D'.power D'.fault D'.wi) (hb : D'.blocks = D.blocks) (hp : D'.pending = D.pending) (p1 : -1 ≤ D'.power) (p2 : D'.power ≤ 9223372036854775807) (f1 : -1 ≤ D'.fault) (f2 : D'.fault ≤ 9223372036854775807) :
    DK w' ok base g dr dc pv dvs pvs D' := by
  have hB : ∀ k m, k = g → BB w k m → False := fun k m e => h.foot_bytes k m (.inl e)
  refine ⟨by rw [hb]; exact hdb, ?_, ?_, by rw [hp]; exact h.pl, ?_, ?_, by rw [hb]; exact h.n1, by rw [hb]; exact h.n2, p1, p2, f1, f2, h.gb⟩
  · rw [hb]; exact ownsRow_off h.dur ho (fun k e => by cases e; exact Ne.symm h.ne_gd)
  · rw [hp]; exact ownsRow_off h.pen ho (fun k e e' => h.ne_gp (by rw [e, e']))
  · rw [hb]; exact fun i u l h1 h2 => (h.dv i u l h1 h2).off ho hB
  · rw [hb, hp]; exact fun i q p h1 h2 => ⟨(h.pw i q p h1 h2).1, (h.pw i q p h1 h2).2.1, (h.pw i q p h1 h2).2.2.off ho hB⟩

theorem DPost.turn {w w' : World} {ok : Nat → Prop} {base g dr dc : Nat} {F : Nat → Prop} {pv : Value} {dvs : List Value} {pvs : List (Int × Value)} {D D' : DiskS} (h : DK w ok base g dr dc pv dvs pvs D) (hF : ∀ k, F k ↔ foot g dr pv k) (ho : Off (· = g) w w')
    (hdb : DB w' g (.slice (some ⟨dr, 0, none⟩) D.blocks.length dc) pv D'.down D'.power D'.fault D'.wi) (hb : D'.blocks = D.blocks) (hp : D'.pending = D.pending) (p1 : -1 ≤ D'.power) (p2 : D'.power ≤ 9223372036854775807) (f1 : -1 ≤ D'.fault) (f2 : D'.fault ≤ 9223372036854775807) :
    DPost w ok base g F D' w' :=
  ⟨ho.mono (fun k _ e => (hF k).2 (.inl e)), F, ⟨dr, dc, pv, dvs, pvs, (h.turn ho hdb hb hp p1 p2 f1 f2).mono (fun _k _ h => .inl h), hF⟩, fun _k h => .inl h⟩

/-- Arm, Fail: what they answer, and the disk then. -/
def armE (n : Int) : Int := if n < 0 then 2 else 0
def armD (D : DiskS) (n : Int) : DiskS := if n < 0 then D else { D with power := n }
def failE (n e : Int) : Int := if n < 0 ∨ (e ≠ 4 ∧ e ≠ 5) then 2 else 0
def failD (D : DiskS) (n e : Int) : DiskS := if n < 0 ∨ (e ≠ 4 ∧ e ≠ 5) then D else { D with fault := n, wi := e }

/-- What Durable tells: nothing, if b is none of the blocks. -/
def durL (D : DiskS) (b : Int) : List UInt8 := if askE D b = 0 then D.blocks.getD b.toNat [] else []

theorem DK.at_ {w : World} {ok : Nat → Prop} {base g dr dc : Nat} {pv : Value} {dvs : List Value} {pvs : List (Int × Value)} {D : DiskS} (h : DK w ok base g dr dc pv dvs pvs D) {i : Nat} (hi : i < D.blocks.length) :
    ∃ u, w.cell? ⟨dr, i, none⟩ = some u ∧ dvs[i]? = some u ∧ BV ok w u (D.blocks.getD i []) := by
  have hl := h.dl
  have hd : dvs[i]? = some (dvs[i]'(by omega)) := List.getElem?_eq_getElem (by omega)
  refine ⟨dvs[i]'(by omega), ?_, hd, h.dv i _ _ hd (by simp [List.getD, List.getElem?_eq_getElem hi])⟩
  have := h.dur.cells (g := dr) rfl i _ hd
  rwa [add_plain] at this

set_option maxHeartbeats 400000 in
theorem Durable_any (w : World) (ok : Nat → Prop) (base g : Nat) (F : Nat → Prop) (D : DiskS) (b : Int) (h : IsD w ok base g F D) :
    Calls Try.prog 31 #[.pointer (some ⟨g, 0, none⟩), .int .i64 b] w fun e w' => ∃ v, e = .returned (.tuple #[v, .int .i64 (askE D b)]) ∧ OB w' w.heap.size v (durL D b) ∧ Below w.heap.size w w' := by
  have HA := Lib.hid (asked_any w ok base g F D b h)
  obtain ⟨dr, dc, pv, dvs, pvs, hd, hF⟩ := h
  have hL : durL D b = if askE D b = 0 then D.blocks.getD b.toNat [] else [] := rfl
  have h02 : askE D b = 0 ∨ askE D b = 2 := by unfold askE; split <;> simp
  rcases h02 with h0 | h0
  · rw [if_pos h0] at hL
    have hb : 0 ≤ b ∧ b < (D.blocks.length : Int) := by
      unfold askE at h0
      split at h0
      · cases h0
      · omega
    obtain ⟨i, rfl⟩ := Int.eq_ofNat_of_zero_le hb.1
    have hi : i < D.blocks.length := by omega
    rw [Int.toNat_natCast] at hL
    obtain ⟨u, cu, _, hbv⟩ := hd.at_ hi
    have c1 := hd.db.c1
    obtain ⟨A, n, c, m, rfl, hr, hn, hsp⟩ := hbv.read
    have hlen := hbv.1
    rw [← hL] at hsp hlen
    have n2 := hd.n2
    rw [h0] at HA ⊢
    have HSP := Lib.hid hsp
    have HLEN := Lib.hid hlen
    clear hL hsp hlen hbv hd hF h0 hb
    generalize durL D (i : Int) = l at *
    generalize D.blocks.length = nb at *
    go_enter Try.func31, Try.ntmps31
    go_wp2_with fail
    refine HA.out.mono ?_
    rintro e w' ⟨rfl, rfl⟩
    go_wp2_with fail
    refine (whole_any A n c m w hr hn).mono ?_
    rintro e w2 ⟨rfl, hB2, hb2⟩
    go_wp2_with fail
    go_ret2
    refine ⟨_, rfl, ?_, hb2⟩
    rw [HSP.out] at hB2
    have := hB2.own (base := w.heap.size) (Nat.le_refl _) (by rw [HLEN.out]; simp [maxLen])
    rwa [HLEN.out] at this
  · rw [if_neg (by omega)] at hL
    rw [h0] at HA ⊢
    rw [hL]
    clear hd hF h0 hL
    go_enter Try.func31, Try.ntmps31
    go_wp2_with fail
    refine HA.out.mono ?_
    rintro e w' ⟨rfl, rfl⟩
    go_wp2_with fail
    go_ret2
    exact ⟨_, rfl, OB.nil _ _, gr_refl _⟩

end Go.Proofs.Ytmdgnjmhbjdlmaa
