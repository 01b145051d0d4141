/-
  Texts of this claim, joined: Base, OctA, OctB, OctC, OctD, OctE, OctF, OctG, Mem, Low, Off, DkA, DkB, DkC, DkD, DkE, DkF, DkG, Rs, DkH. No statement of the program is proved here.
-/
import Derived.Test.YtnkeclpgpiogoaaGreatRows
import Derived.WalkKit
import Derived.WalkSpells
import Derived.WalkLawsBesides
import Derived.Lib.Hide
import Derived.Lib.Bytealg
import Derived.Deep.QuietTactic
import Derived.BigQuiet
import Derived.Deep.AppendLies
import Derived.Deep.Draws
import Derived.Maps.AppendAt
import Derived.StillTailTactics
import Derived.Deep.RegionHeld3
import Derived.Deep.DeepCutAuto
import Derived.Deep.LoopGhost
import Derived.Laws.CopyOwn
import Derived.Laws.Cover3
import Derived.RangeFuncBox
import Derived.Laws.LoneSync
import Derived.Laws.Pointers
import Derived.LaidEqlPtr
import Derived.RangeFuncNested
import Derived.RangeFuncBound
import Derived.RangeFuncCalls
import Derived.RangeFuncLeaves
import Derived.OwnWalkIn
import Derived.TacticsInMore
import Derived.LoopNIn
import Derived.LoopIn
import Derived.Sort.QuietIn
import Derived.RegionIn
import Derived.BigRegionIn
import Derived.Stop.RegionWithIn
/-! Base -/
namespace Go.Proofs.YtnkeclpgpiogoaaGreat
open Go.RowKit
section
variable {a w w' : World}
set_option maxRecDepth 100000 in
theorem gr_trans (h : Below a.heap.size a w) (k : Below w.heap.size w w') : Below a.heap.size a w' := h.trans (k.mono h.size)
set_option maxRecDepth 100000 in
theorem gr_alloc (h : Below a.heap.size a w) (o : Obj) : Below a.heap.size a (w.alloc o) := h.alloc h.size o
set_option maxRecDepth 100000 in
theorem gr_drewN (h : Below a.heap.size a w) (n : Nat) : Below a.heap.size a (w.drewN n) := ⟨h.os, h.tape, h.output, h.size, h.block⟩
set_option maxRecDepth 100000 in
theorem gr_refl (a : World) : Below a.heap.size a a := Below.refl _ _
set_option maxRecDepth 100000 in
theorem gr_own {e : TypeId} {size n : Nat} {v : Value} {xs : List Value} (h : Below a.heap.size a w) (ho : w.ownsRow a.heap.size e size v n xs) (hg : w.grownBy w' v.ownBlock) : Below a.heap.size a w' :=
 h.grown hg h.size (fun k hk => (ho.lt k hk).1)
end
def bv (x : UInt8) : Value := .int .u8 (x.toNat : Int)
set_option maxRecDepth 100000 in
theorem block_of_add (a : Addr) (n : Nat) : (a.add n).block = a.block := by unfold Addr.add; split <;> rfl
set_option maxRecDepth 100000 in
theorem add_of_add (a : Addr) (i j : Nat) : (a.add i).add j = a.add (i + j) := by
 unfold Addr.add
 by_cases hi : i = 0 <;> by_cases hj : j = 0 <;> simp [hi, hj, Nat.add_assoc]
def Rd (w : World) (size : Nat) (A : Option Addr) (n : Nat) (xs : List Value) : Prop :=
 xs.length = n * size ∧ (0 < n → ∃ ad, A = some ad ∧ ∀ j u, xs[j]? = some u → w.cell? (ad.add j) = some u)
def BR (w : World) (A : Option Addr) (n : Nat) (l : List UInt8) : Prop := Rd w 1 A n (l.map bv)
section
variable {w w' : World} {size n : Nat} {A : Option Addr} {xs : List Value} {l : List UInt8}
set_option maxRecDepth 100000 in
theorem Rd.keep (h : Rd w size A n xs) (hk : ∀ (p : Addr) u, w.cell? p = some u → w'.cell? p = some u) : Rd w' size A n xs :=
 ⟨h.1, fun hn => by
  obtain ⟨ad, e, hc⟩ := h.2 hn
  exact ⟨ad, e, fun j u hu => hk _ _ (hc j u hu)⟩⟩
set_option maxRecDepth 100000 in
theorem keep_of_below {u : Value} {p : Addr} (hb : Below w.heap.size w w') (h : w.cell? p = some u) : w'.cell? p = some u :=
 (hb.cell (World.block_lt_of_cell? w p h)).trans h
set_option maxRecDepth 100000 in
theorem Rd.below (h : Rd w size A n xs) (hb : Below w.heap.size w w') : Rd w' size A n xs := h.keep fun _ _ hp => keep_of_below hb hp
set_option maxRecDepth 100000 in
theorem Rd.alloc (h : Rd w size A n xs) (o : Obj) : Rd (w.alloc o) size A n xs := h.below ((Below.refl _ _).alloc (Nat.le_refl _) _)
set_option maxRecDepth 100000 in
theorem BR.below (h : BR w A n l) (hb : Below w.heap.size w w') : BR w' A n l := Rd.below h hb
set_option maxRecDepth 100000 in
theorem BR.alloc (h : BR w A n l) (o : Obj) : BR (w.alloc o) A n l := Rd.alloc h o
set_option maxRecDepth 100000 in
theorem BR.drew (h : BR w A n l) : BR w.drew A n l := h
set_option maxRecDepth 100000 in
theorem BR.len (h : BR w A n l) : l.length = n := by have := h.1; simpa using this
set_option maxRecDepth 100000 in
theorem BR.none_ (w : World) (A : Option Addr) : BR w A 0 [] := ⟨rfl, fun h => absurd h (by omega)⟩
set_option maxRecDepth 100000 in
theorem Rd.plain (h : Rd w size A n xs) (hn : 0 < n) (hs : 0 < size) : ∃ g o, A = some ⟨g, o, none⟩ ∧ ∀ j u, xs[j]? = some u → w.cell? ⟨g, o + j, none⟩ = some u := by
 obtain ⟨⟨g, o, spot⟩, rfl, hc⟩ := h.2 hn
 have hl : 0 < xs.length := by rw [h.1]; exact Nat.mul_pos hn hs
 have hspot : spot = none := by simpa [Addr.add] using World.cell?_spot (hc 0 _ (List.getElem?_eq_getElem hl))
 subst hspot
 exact ⟨g, o, rfl, fun j u hu => by rw [← Go.WideShapes.add_plain]; exact hc j u hu⟩
set_option maxRecDepth 100000 in
theorem BR.at_ (h : BR w A n l) {k : Nat} (hk : k < n) : ∃ g o, A = some ⟨g, o, none⟩ ∧ w.cell? ⟨g, o + k, none⟩ = some (.int .u8 ((l.getD k 0).toNat : Int)) := by
 obtain ⟨g, o, e, hc⟩ := Rd.plain h (by omega) (by omega)
 have hl : k < l.length := by rw [h.len]; exact hk
 refine ⟨g, o, e, hc k _ ?_⟩
 simp [List.getElem?_eq_getElem hl, bv, List.getD]
set_option maxRecDepth 100000 in
theorem BR.load (h : BR w A n l) (P : Program) {ad : Addr} (e : A = some ad) :
  (loadCells ad n).run P w = .ok ((l.map fun x => ((x.toNat : Nat) : Int)).map (Value.int .u8)).toArray w := by
 subst e
 have := run_loadCells_list (P := P) w ad (l.map bv) (fun j v hj => by
  have hl : j < l.length := by
   rcases Nat.lt_or_ge j l.length with h | h
   ·exact h
   ·simp [List.getElem?_eq_none h] at hj
  obtain ⟨ad', e, hc⟩ := h.2 (by have := h.len; omega)
  injection e with e
  subst e
  exact hc j v hj)
 simp only [List.length_map] at this
 rw [h.len] at this
 rw [this]
 simp [bv]
end
set_option maxRecDepth 100000 in
theorem ofNat_toNat_bytes (l : List UInt8) : (l.map fun x => ((x.toNat : Nat) : Int)).map (fun n => UInt8.ofNat n.toNat) = l := by
 rw [List.map_map]
 conv => rhs; rw [← List.map_id l]
 exact List.map_congr_left fun x _ => by simp
set_option maxRecDepth 100000 in
theorem nextslicecap_quarter {need old : Nat} (h : old < need) : Builtin.nextslicecap need old ≤ need + need / 4 + 256 := by
 unfold Builtin.nextslicecap
 split
 ·omega
 ·split
  ·omega
  ·rw [growBy_four]
   repeat' split
   all_goals omega
section
variable {P : Program} (w : World)
set_option maxRecDepth 100000 in
theorem run_append_of_nil (base : Nat) (t ty e : TypeId) (i : TypeInfo) (size : Nat) (ht : P.underlying t = some (.slice e)) (hi : P.info? e = some i)
  (v : Value) (n : Nat) (xs : List Value) (hown : w.ownsRow base e size v n xs) (c : Nat) : (Builtin.append_ #[t, t] ty #[v, .slice none 0 c]).run P w = .ok v w := by
 rcases hown.2 with ⟨rfl, rfl⟩ | ⟨g, cap, cur, rfl, _, _, hnc, _⟩
 ·simp [Builtin.append_, run_underlying ht, sizeOf, typeInfo, hi, Builtin.lenOf, Builtin.firstCells]
 ·simp [Builtin.append_, run_underlying ht, sizeOf, typeInfo, hi, Builtin.lenOf, Builtin.firstCells, hnc, storeCells]
set_option maxRecDepth 100000 in
theorem run_append_Rd (base : Nat) (t ty e : TypeId) (i : TypeInfo) (z : Value) (size bytes : Nat) (ht : P.underlying t = some (.slice e)) (hi : P.info? e = some i) (hz : i.zero = some z)
  (hsize : i.size = size) (hby : i.bytes = bytes) (hzs : z.cells.size = size)
  (v : Value) (n : Nat) (xs : List Value) (hown : w.ownsRow base e size v n xs)
  (A : Option Addr) (m c : Nat) (news : List Value) (hr : Rd w size A m news) (h1 : ∀ u ∈ news, u.oneCell' = true)
  (hbytes : (n + m + (n + m) / 4 + 256) * bytes ≤ 281474976710656) (h63 : n + m ≤ maxLen) (hbase : base ≤ w.heap.size) :
  ∃ v' w', (Builtin.append_ #[t, t] ty #[v, .slice A m c]).run P w = .ok v' w' ∧ w'.ownsRow base e size v' (n + m) (xs ++ news) ∧ w.grownBy w' v.ownBlock ∧
   (v' = .slice none 0 0 ↔ v = .slice none 0 0 ∧ m = 0) ∧ (v'.ownBlock = v.ownBlock ∨ (v'.ownBlock = some w.heap.size ∧ w.grownBy w' none)) := by
 rcases Nat.eq_zero_or_pos m with h0 | h0
 ·subst h0
  have hn : news = [] := List.eq_nil_of_length_eq_zero (by simpa using hr.1)
  subst hn
  rcases A with _ | ad
  ·exact ⟨v, w, run_append_of_nil w base t ty e i size ht hi v n xs hown c, by simpa using hown, World.grownBy.refl w _, by simp, .inl rfl⟩
  ·refine ⟨v, w, ?_, by simpa using hown, World.grownBy.refl w _, by simp, .inl rfl⟩
   rcases hown.2 with ⟨rfl, rfl⟩ | ⟨g, cap, cur, rfl, _, _, hnc, _⟩
   ·simp [Builtin.append_, run_underlying ht, sizeOf, typeInfo, hi, Builtin.lenOf, Builtin.firstCells, loadCells, loadCellsFrom]
   ·simp [Builtin.append_, run_underlying ht, sizeOf, typeInfo, hi, Builtin.lenOf, Builtin.firstCells, loadCells, loadCellsFrom, hnc, storeCells]
 ·obtain ⟨a, rfl, hnews⟩ := hr.2 h0
  have hl := hr.1
  subst hsize
  subst hby
  have hsmall : n + m ≤ 9223372036854775807 := by simp only [maxLen] at h63; omega
  have hlen : (xs ++ news).length = (n + m) * i.size := by rw [List.length_append, hown.1, hl, Nat.add_mul]
  have hfits : ∀ old, old < n + m → Builtin.nextslicecap (n + m) old * i.bytes ≤ 281474976710656 := fun old ho =>
   Nat.le_trans (Nat.mul_le_mul_right _ (nextslicecap_quarter ho)) hbytes
  have grown : ∀ (old : Nat), old < n + m → ∀ (row : Option Nat),
    (w.drew.alloc (.cells (xs.toArray ++ news.toArray ++ Builtin.zeroCells z.cells (grownCap w (n + m) old e - (n + m))) e)).ownsRow base e i.size
     (.slice (some ⟨w.heap.size, 0, none⟩) (n + m) (grownCap w (n + m) old e)) (n + m) (xs ++ news) ∧
    w.grownBy (w.drew.alloc (.cells (xs.toArray ++ news.toArray ++ Builtin.zeroCells z.cells (grownCap w (n + m) old e - (n + m))) e)) row := by
   intro old ho row
   have hge := grownCap_ge w (n + m) old e
   have hcm : grownCap w (n + m) old e ≤ maxLen := grownCap_le_maxLen w (n + m) old e h63
   refine ⟨⟨hlen, .inr ⟨w.heap.size, _, _, rfl, hbase, heap_alloc_new w.drew _, hge, hcm, ?_, ?_⟩⟩, ⟨rfl, rfl, rfl, by simp, fun k hk _ => Below.heap_alloc w.drew _ k hk⟩⟩
   ·simp only [Array.size_append, List.size_toArray, size_zeroCells, hzs, hown.1, hl, ← Nat.add_mul]
    congr 1
    omega
   ·simp only [Array.toList_append, List.append_assoc]
    rw [← List.append_assoc, ← hlen]
    exact List.take_left
  rcases hown.2 with ⟨rfl, rfl⟩ | ⟨g, cap, cur, rfl, hbg, hg, hnc, hcm, hcs, htake⟩
  ·have hx : xs = [] := List.eq_nil_of_length_eq_zero (by simpa using hown.1)
   subst hx
   have hb1 : m * i.bytes ≤ 281474976710656 := Nat.le_trans (Nat.mul_le_mul_right _ (by omega)) hbytes
   have hr := run_append_nil (P := P) w t ty e i z ht hi hz a m c news hl hnews (by omega) (by omega) hb1
   have hgr := grown 0 (by omega) (Value.ownBlock (.slice none 0 0))
   have hgn := (grown 0 (by omega) none).2
   simp only [Nat.zero_add, List.nil_append, Array.empty_append] at hgr hgn ⊢
   exact ⟨_, _, hr, hgr.1, hgr.2, by simp; omega, Or.inr ⟨rfl, hgn⟩⟩
  ·by_cases hroom : n + m ≤ cap
   ·have hfit : n * i.size + news.length ≤ cur.size := by rw [hl, hcs, ← Nat.add_mul]; exact Nat.mul_le_mul_right _ hroom
    have hr := run_append_room (P := P) w t ty e i ht hi g n cap cur hg a m c news hl hnews h1 hroom hfit
    refine ⟨_, _, hr, ⟨hlen, .inr ⟨g, cap, _, rfl, hbg, setRow_heap w g cur _ e _ hg, hroom, hcm, ?_, ?_⟩⟩, ⟨rfl, rfl, rfl, by simp, fun k _ hk => setRow_other w g k _ (fun e => hk (by simp [Value.ownBlock, e]))⟩, by simp, Or.inl rfl⟩
    ·simp only [List.size_toArray, List.length_append, List.length_take, List.length_drop, Array.length_toList]
     omega
    ·rw [htake, ← hlen]
     exact List.take_left
   ·have holds : ∀ j u, xs[j]? = some u → w.cell? ((⟨g, 0, none⟩ : Addr).add j) = some u := hown.cells (g := g) rfl
    have hr := run_append_grow (P := P) w t ty e i z ht hi hz ⟨g, 0, none⟩ n cap xs hown.1 holds a m c news hl hnews (by omega) (by omega) (hfits cap (by omega))
    have hgr := grown cap (by omega) (Value.ownBlock (.slice (some ⟨g, 0, none⟩) n cap))
    exact ⟨_, _, hr, hgr.1, hgr.2, by simp, Or.inr ⟨rfl, (grown cap (by omega) none).2⟩⟩
set_option maxRecDepth 100000 in
theorem wp_append_Rd {o : Oper} {a : Act} {K : Act → World → Prop} {Q : Exit → Act → World → Prop} (s x : Operand) (t : TypeId)
  (ho : o.op = .call { callee := .builtin .append, args := #[s, x], argTypes := #[t, t] })
  (base : Nat) (e : TypeId) (i : TypeInfo) (z : Value) (size bytes : Nat) (ht : P.underlying t = some (.slice e)) (hi : P.info? e = some i) (hz : i.zero = some z)
  (hsize : i.size = size) (hby : i.bytes = bytes) (hzs : z.cells.size = size)
  (v : Value) (n : Nat) (xs : List Value) (hs : a.eval s = v) (hown : w.ownsRow base e size v n xs)
  (A : Option Addr) (m c : Nat) (news : List Value) (hx : a.eval x = .slice A m c) (hr : Rd w size A m news) (h1 : ∀ u ∈ news, u.oneCell' = true)
  (hbytes : (n + m + (n + m) / 4 + 256) * bytes ≤ 281474976710656) (h63 : n + m ≤ maxLen) (hbase : base ≤ w.heap.size)
  (h : ∀ v' w', w'.ownsRow base e size v' (n + m) (xs ++ news) → w.grownBy w' v.ownBlock → (v' = .slice none 0 0 ↔ v = .slice none 0 0 ∧ m = 0) → (v'.ownBlock = v.ownBlock ∨ (v'.ownBlock = some w.heap.size ∧ w.grownBy w' none)) → K (a.put o.dst v') w') : o.wp P a w K Q := by
 obtain ⟨v', w', hrun, h2, h3, h4, h5⟩ := run_append_Rd (P := P) w base t o.type e i z size bytes ht hi hz hsize hby hzs v n xs hown A m c news hr h1 hbytes h63 hbase
 unfold Oper.wp execOp
 simp only [ho, resolve, invoke, builtin, Sem.run_bind, Sem.run_pure, Result.andThen_ok, List.map_toArray, List.map_cons, List.map_nil, hs, hx, hrun]
 exact h v' w' h2 h3 h4 h5
set_option maxRecDepth 100000 in
theorem wpList_append_Rd {ops : Array Oper} {rest : List Oper} {o : Oper} {a : Act} {Q : Exit → Act → World → Prop} (hgd : o.guard = none) (s x : Operand) (t : TypeId)
  (ho : o.op = .call { callee := .builtin .append, args := #[s, x], argTypes := #[t, t] })
  (base : Nat) (e : TypeId) (i : TypeInfo) (z : Value) (size bytes : Nat) (ht : P.underlying t = some (.slice e)) (hi : P.info? e = some i) (hz : i.zero = some z)
  (hsize : i.size = size) (hby : i.bytes = bytes) (hzs : z.cells.size = size)
  (v : Value) (n : Nat) (xs : List Value) (hs : a.eval s = v) (hown : w.ownsRow base e size v n xs)
  (A : Option Addr) (m c : Nat) (news : List Value) (hx : a.eval x = .slice A m c) (hr : Rd w size A m news) (h1 : ∀ u ∈ news, u.oneCell' = true)
  (hbytes : (n + m + (n + m) / 4 + 256) * bytes ≤ 281474976710656) (h63 : n + m ≤ maxLen) (hbase : base ≤ w.heap.size)
  (h : ∀ v' w', w'.ownsRow base e size v' (n + m) (xs ++ news) → w.grownBy w' v.ownBlock → (v' = .slice none 0 0 ↔ v = .slice none 0 0 ∧ m = 0) → (v'.ownBlock = v.ownBlock ∨ (v'.ownBlock = some w.heap.size ∧ w.grownBy w' none)) → wpList P ops Q rest (a.put o.dst v') w') : wpList P ops Q (o :: rest) a w :=
 wpList_plain hgd fun _ hK => wp_append_Rd w s x t ho base e i z size bytes ht hi hz hsize hby hzs v n xs hs hown A m c news hx hr h1 hbytes h63 hbase fun v' w' h2 h3 h4 h5 => hK _ _ (h v' w' h2 h3 h4 h5)
set_option maxRecDepth 100000 in
theorem step_append_Rd {ops : Array Oper} {o : Oper} {a : Act} {K : Act → World → Prop} {Q : Exit → Act → World → Prop} {E : Prop} (hgd : o.guard = none) (s x : Operand) (t : TypeId)
  (ho : o.op = .call { callee := .builtin .append, args := #[s, x], argTypes := #[t, t] })
  (base : Nat) (e : TypeId) (i : TypeInfo) (z : Value) (size bytes : Nat) (ht : P.underlying t = some (.slice e)) (hi : P.info? e = some i) (hz : i.zero = some z)
  (hsize : i.size = size) (hby : i.bytes = bytes) (hzs : z.cells.size = size)
  (v : Value) (n : Nat) (xs : List Value) (hs : a.eval s = v) (hown : w.ownsRow base e size v n xs)
  (A : Option Addr) (m c : Nat) (news : List Value) (hx : a.eval x = .slice A m c) (hr : Rd w size A m news) (h1 : ∀ u ∈ news, u.oneCell' = true)
  (hbytes : (n + m + (n + m) / 4 + 256) * bytes ≤ 281474976710656) (h63 : n + m ≤ maxLen) (hbase : base ≤ w.heap.size)
  (h : ∀ v' w', w'.ownsRow base e size v' (n + m) (xs ++ news) → w.grownBy w' v.ownBlock → (v' = .slice none 0 0 ↔ v = .slice none 0 0 ∧ m = 0) → (v'.ownBlock = v.ownBlock ∨ (v'.ownBlock = some w.heap.size ∧ w.grownBy w' none)) → K (a.put o.dst v') w') :
  if Region.wanted o (yielded ops a.tmps) = true then Oper.wp P o a w K Q else E := by
 have hw : Region.wanted o (yielded ops a.tmps) = true := by simp [Region.wanted, hgd]
 rw [if_pos hw]
 exact wp_append_Rd w s x t ho base e i z size bytes ht hi hz hsize hby hzs v n xs hs hown A m c news hx hr h1 hbytes h63 hbase h
end
def OB (w : World) (base : Nat) (v : Value) (l : List UInt8) : Prop := w.ownsRow base 5 1 v l.length (l.map bv)
set_option maxRecDepth 100000 in
theorem one_bv (l : List UInt8) : ∀ u ∈ l.map bv, u.oneCell' = true := by
 intro u hu
 obtain ⟨x, _, rfl⟩ := List.mem_map.1 hu
 rfl
section
variable {w w' : World} {base : Nat} {v : Value} {l : List UInt8}
set_option maxRecDepth 100000 in
theorem OB.nil (w : World) (base : Nat) : OB w base (.slice none 0 0) [] := ⟨rfl, .inl ⟨rfl, rfl⟩⟩
set_option maxRecDepth 100000 in
theorem OB.form (h : OB w base v l) : ∃ A c, v = .slice A l.length c ∧ BR w A l.length l ∧ l.length ≤ c ∧ c ≤ maxLen := by
 rcases h.2 with ⟨rfl, h0⟩ | ⟨g, cap, cur, rfl, hb, hg, hn, hm, hc, ht⟩
 ·have : l = [] := List.eq_nil_of_length_eq_zero h0
  subst this
  exact ⟨none, 0, rfl, BR.none_ _ _, Nat.le_refl _, Nat.zero_le _⟩
 ·refine ⟨_, cap, rfl, ⟨by simp, fun _ => ⟨_, rfl, h.cells (g := g) rfl⟩⟩, hn, hm⟩
set_option maxRecDepth 100000 in
theorem OB.formN (h : OB w base v l) {n : Nat} (hn : l.length = n) : ∃ A c, v = .slice A n c ∧ BR w A n l ∧ n ≤ c ∧ c ≤ maxLen := by
 subst hn
 exact h.form
set_option maxRecDepth 100000 in
theorem OB.below (h : OB w base v l) (hb : Below w.heap.size w w') : OB w' base v l :=
 h.kept (row := none) ⟨hb.os, hb.tape, hb.output, hb.size, fun k hk _ => hb.block k hk⟩ (by cases v.ownBlock <;> simp)
set_option maxRecDepth 100000 in
theorem OB.lower {b : Nat} (h : OB w base v l) (hb : b ≤ base) : OB w b v l := by
 refine ⟨h.1, ?_⟩
 rcases h.2 with h | ⟨g, cap, cur, rfl, hg, r⟩
 ·exact .inl h
 ·exact .inr ⟨g, cap, cur, rfl, by omega, r⟩
end
set_option maxRecDepth 100000 in
theorem add_plain (g j : Nat) : (⟨g, 0, none⟩ : Addr).add j = ⟨g, j, none⟩ := by unfold Addr.add; split <;> simp_all
set_option maxRecDepth 100000 in
theorem Rd.new (w : World) (t : TypeId) (cs : Array Value) (n size : Nat) (h : cs.size = n * size) : Rd (w.alloc (.cells cs t)) size (some ⟨w.heap.size, 0, none⟩) n cs.toList := by
 refine ⟨by simpa using h, fun _ => ⟨_, rfl, fun j u hu => ?_⟩⟩
 rw [add_plain]
 have hb : (w.alloc (.cells cs t)).heap[w.heap.size]? = some (.cells cs t (0, 0)) := heap_alloc_new w _
 rw [cell_of_row _ _ _ cs t (0, 0) hb]
 simpa using hu
set_option maxRecDepth 100000 in
theorem BR.lit (w : World) (t : TypeId) (l : List UInt8) (cs : Array Value) (h : cs.toList = l.map bv) : BR (w.alloc (.cells cs t)) (some ⟨w.heap.size, 0, none⟩) l.length l := by
 have hs : cs.size = l.length * 1 := by have := congrArg List.length h; simpa using this
 have := Rd.new w t cs l.length 1 hs
 rw [h] at this
 exact this
set_option maxRecDepth 100000 in
theorem BR.litAt (w : World) (t : TypeId) (l : List UInt8) (cs : Array Value) (g n : Nat) (hg : w.heap.size = g) (hn : l.length = n) (h : cs.toList = l.map bv) : BR (w.alloc (.cells cs t)) (some ⟨g, 0, none⟩) n l := by
 subst hg hn
 exact BR.lit w t l cs h
set_option maxRecDepth 100000 in
theorem OB.of_own {w : World} {base : Nat} {v : Value} {n : Nat} {xs : List Value} {l : List UInt8} (h : w.ownsRow base 5 1 v n xs) (e : xs = l.map bv) : OB w base v l := by
 subst e
 have : n = l.length := by have := h.1; simp at this; exact this.symm
 subst this
 exact h
set_option maxRecDepth 100000 in
theorem own_form {w : World} {base : Nat} {e : TypeId} {size : Nat} {v : Value} {n : Nat} {xs : List Value} (h : w.ownsRow base e size v n xs) : ∃ A c, v = .slice A n c ∧ n ≤ c ∧ c ≤ maxLen := by
 rcases h.2 with ⟨rfl, rfl⟩ | ⟨g, cap, cur, rfl, hb, hg, hn, hm, hc, ht⟩
 ·exact ⟨none, 0, rfl, Nat.le_refl _, Nat.zero_le _⟩
 ·exact ⟨_, cap, rfl, hn, hm⟩
def cutA (A : Option Addr) (c k size : Nat) : Option Addr := if c = k then A else A.map (·.add (k * size))
section
variable {P : Program} (W : World) (t e : TypeId) (i : TypeInfo) (ht : P.underlying t = some (.slice e)) (hi : P.info? e = some i) (size : Nat) (hs : i.size = size) (A : Option Addr) (n c : Nat)
include ht hi hs
set_option maxRecDepth 100000 in
theorem run_cut_lh (lo hi' : Int) (l h : Nat) (el : lo = l) (eh : hi' = h) (h1 : l ≤ h) (h2 : h ≤ c) :
  (Instr.slice t (.slice A n c) (some (.int .i64 lo)) (some (.int .i64 hi')) none).run P W = .ok (.slice (cutA A c l size) (h - l) (c - l)) W := by
 subst el eh
 have ht' : P.underlying t = some (.slice (P.elem t)) := by simp [Program.elem, ht]
 have he : P.elem t = e := by simp [Program.elem, ht]
 rw [run_slice_lh W t _ _ _ ht' .i64 .i64 _ _ (by omega) (by omega) (by omega), he]
 simp [sizeOf, typeInfo, hi, hs, sliced, cutA]
set_option maxRecDepth 100000 in
theorem run_cut_h (hi' : Int) (h : Nat) (eh : hi' = h) (h2 : h ≤ c) :
  (Instr.slice t (.slice A n c) none (some (.int .i64 hi')) none).run P W = .ok (.slice A h c) W := by
 subst eh
 have ht' : P.underlying t = some (.slice (P.elem t)) := by simp [Program.elem, ht]
 have he : P.elem t = e := by simp [Program.elem, ht]
 rw [run_slice_h W t _ _ _ ht' .i64 _ (by omega) (by omega), he]
 have : A.map (·.add 0) = A := by cases A <;> simp [Addr.add]
 simp [sizeOf, typeInfo, hi, hs, sliced, this]
set_option maxRecDepth 100000 in
theorem run_cut_l (lo : Int) (l : Nat) (el : lo = l) (h1 : l ≤ n) :
  (Instr.slice t (.slice A n c) (some (.int .i64 lo)) none none).run P W = .ok (.slice (cutA A c l size) (n - l) (c - l)) W := by
 subst el
 have ht' : P.underlying t = some (.slice (P.elem t)) := by simp [Program.elem, ht]
 have he : P.elem t = e := by simp [Program.elem, ht]
 rw [run_slice_l W t _ _ _ ht' .i64 _ (by omega) (by omega), he]
 simp [sizeOf, typeInfo, hi, hs, sliced, cutA]
end
set_option maxRecDepth 100000 in
theorem Rd.cut {w : World} {size : Nat} {A : Option Addr} {n : Nat} {xs : List Value} (h : Rd w size A n xs) {k j c : Nat} (hk : k ≤ j) (hj : j ≤ n) (hc : n ≤ c) :
  Rd w size (cutA A c k size) (j - k) ((xs.drop (k * size)).take ((j - k) * size)) := by
 refine ⟨?_, fun hn => ?_⟩
 ·rw [List.length_take, List.length_drop, h.1, ← Nat.sub_mul]
  exact Nat.min_eq_left (Nat.mul_le_mul_right _ (by omega))
 ·obtain ⟨ad, rfl, hcell⟩ := h.2 (by omega)
  unfold cutA
  rw [if_neg (by omega)]
  refine ⟨ad.add (k * size), rfl, fun i u hu => ?_⟩
  rw [add_of_add]
  refine hcell _ u ?_
  rw [List.getElem?_take] at hu
  split at hu
  ·rw [← hu, List.getElem?_drop]
  ·cases hu
set_option maxRecDepth 100000 in
theorem BR.cut {w : World} {A : Option Addr} {n : Nat} {l : List UInt8} (h : BR w A n l) {k j c : Nat} (hk : k ≤ j) (hj : j ≤ n) (hc : n ≤ c) :
  BR w (cutA A c k 1) (j - k) ((l.drop k).take (j - k)) := by
 have := Rd.cut h hk hj hc
 unfold BR
 simpa [List.map_take, List.map_drop] using this
set_option maxRecDepth 100000 in
theorem BR.pre {w : World} {A : Option Addr} {n : Nat} {l : List UInt8} (h : BR w A n l) {j : Nat} (hj : j ≤ n) : BR w A j (l.take j) := by
 refine ⟨?_, fun hn => ?_⟩
 ·have := h.len; simp; omega
 ·obtain ⟨ad, e, hc⟩ := h.2 (by omega)
  refine ⟨ad, e, fun i u hu => hc i u ?_⟩
  rw [List.map_take, List.getElem?_take] at hu
  split at hu
  ·exact hu
  ·cases hu
def zeroB (n : Nat) : Array Value := madeCells #[.int .u8 0] n
set_option maxRecDepth 100000 in
theorem zeroB_toList (n : Nat) : (zeroB n).toList = (List.replicate n (0 : UInt8)).map bv := by
 unfold zeroB
 rw [toList_madeCells_one, List.map_replicate]
 rfl
set_option maxRecDepth 100000 in
theorem info_u8 : (Tryz.prog.info? 5).map (fun i => (i.zero, i.size, i.bytes)) = some (some (.int .u8 0), 1, 1) := by kernel_rfl
set_option maxRecDepth 100000 in
theorem run_mk_bytes (n : Nat) (hn : n ≤ 281474976710656) (x : Int) (hx : x = n) (u : World) :
  (Instr.makeSlice 35 (.int .i64 x) (.int .i64 x)).run Tryz.prog u = .ok (.slice (some ⟨u.heap.size, 0, none⟩) n n) (u.alloc (.cells (zeroB n) 5)) := by
 obtain ⟨i0, hi0, hz0, hz1, hz2⟩ := info_parts info_u8
 subst hx
 have h := run_make (P := Tryz.prog) u 35 5 i0 (.int .u8 0) Tryz.underlying35 hi0 hz0 .i64 .i64 (n : Int) (n : Int) (by omega) (by omega) (by rw [hz2]; omega) (by omega)
 simpa [hz1, Value.cells, zeroB] using h
def IR (w : World) (A : Option Addr) (n : Nat) (l : List Int) : Prop := Rd w 1 A n (l.map (Value.int .i64))
section
variable {w w' : World} {n : Nat} {A : Option Addr} {l : List Int}
set_option maxRecDepth 100000 in
theorem IR.below (h : IR w A n l) (hb : Below w.heap.size w w') : IR w' A n l := Rd.below h hb
set_option maxRecDepth 100000 in
theorem IR.len (h : IR w A n l) : l.length = n := by have := h.1; simpa using this
set_option maxRecDepth 100000 in
theorem IR.none_ (w : World) (A : Option Addr) : IR w A 0 [] := ⟨rfl, fun h => absurd h (by omega)⟩
set_option maxRecDepth 100000 in
theorem IR.at_ (h : IR w A n l) {k : Nat} (hk : k < n) : ∃ g o, A = some ⟨g, o, none⟩ ∧ w.cell? ⟨g, o + k, none⟩ = some (.int .i64 (l.getD k 0)) := by
 obtain ⟨g, o, e, hc⟩ := Rd.plain h (by omega) (by omega)
 have hl : k < l.length := by rw [h.len]; exact hk
 refine ⟨g, o, e, hc k _ ?_⟩
 simp [List.getElem?_eq_getElem hl, List.getD]
set_option maxRecDepth 100000 in
theorem IR.litAt (w : World) (t : TypeId) (l : List Int) (cs : Array Value) (g n : Nat) (hg : w.heap.size = g) (hn : l.length = n) (h : cs.toList = l.map (Value.int .i64)) : IR (w.alloc (.cells cs t)) (some ⟨g, 0, none⟩) n l := by
 subst hg hn
 have hs : cs.size = l.length * 1 := by have := congrArg List.length h; simpa using this
 have := Rd.new w t cs l.length 1 hs
 rw [h] at this
 exact this
end
end Go.Proofs.YtnkeclpgpiogoaaGreat

/-! OctA -/
namespace Go.Proofs.YtnkeclpgpiogoaaGreat
open Go.RowKit
set_option maxRecDepth 100000 in
theorem run_str {P : Program} {w : World} {A : Option Addr} {n : Nat} {l : List UInt8} (h : BR w A n l) {src dst e : TypeId}
  (hs : P.underlying src = some (.slice e)) (he : P.underlying e = some (.int .u8)) (hd : P.underlying dst = some .string) (c : Nat) :
  (convert src dst (.slice A n c)).run P w = .ok (.string ⟨l.toArray⟩) w := by
 rw [run_convert_bytes_string w src dst e _ n c hs he hd]
 rcases A with _ | ad
 ·have h0 : n = 0 := by
   rcases Nat.eq_zero_or_pos n with h0 | h0
   ·exact h0
   ·obtain ⟨ad, e, _⟩ := h.2 h0
    cases e
  subst h0
  have : l = [] := List.eq_nil_of_length_eq_zero h.len
  subst this
  simp [Conv.bytesToString]
  rfl
 ·rw [run_bytesToString w _ n c _ (h.load P rfl), foldl_push_bytes, ofNat_toNat_bytes]
  exact congrArg (fun x => Result.ok (Value.string x) w) (congrArg ByteArray.mk (Array.empty_append))
end Go.Proofs.YtnkeclpgpiogoaaGreat

/-! OctB -/
namespace Go.Proofs.YtnkeclpgpiogoaaGreat
open Go.RowKit
set_option maxRecDepth 100000 in
set_option maxHeartbeats 400000 in
theorem CopyBytes_any (A : Option Addr) (n c : Nat) (l : List UInt8) (w : World) (ha : BR w A n l) (hn : n ≤ 211106232532992) :
  Calls Tryz.prog 80 #[.slice A n c] w fun e w' => ∃ v, e = .returned v ∧ OB w' w.heap.size v l ∧ Below w.heap.size w w' := by
 obtain ⟨i0, hi0, hz0, hz1, hz2⟩ := info_parts info_u8
 go_enter Tryz.func80, Tryz.ntmps80
 go_wp2_with (at_builtin; refine wpList_append_Rd _ rfl _ _ _ rfl w.heap.size 5 i0 _ 1 1 Tryz.underlying35 hi0 hz0 hz1 hz2 rfl (.slice none 0 0) 0 [] rfl ⟨rfl, .inl ⟨rfl, rfl⟩⟩ A n c _ rfl ha (one_bv l) (by omega) (by simp only [maxLen]; omega) (Nat.le_refl _) ?_; intro v1 w1 hown1 hg1 _ _)
 go_ret
 have hl := ha.len
 refine ⟨v1, rfl, ?_, (Below.refl _ _).grown hg1 (Nat.le_refl _) (by simp [Value.ownBlock])⟩
 unfold OB
 rw [hl]
 simpa using hown1
set_option maxRecDepth 100000 in
set_option maxHeartbeats 400000 in
theorem Clone_any (A : Option Addr) (n c : Nat) (l : List UInt8) (w : World) (ha : BR w A n l) (hn : n ≤ 211106232532992) :
  Calls Tryz.prog 70 #[.slice A n c] w fun e w' => ∃ v, e = .returned v ∧ OB w' w.heap.size v l ∧ Below w.heap.size w w' := by
 obtain ⟨i0, hi0, hz0, hz1, hz2⟩ := info_parts info_u8
 have q22 : ∀ (w : World) (a : Option Addr) (n c n' c' : Nat), (binOp .eql 35 (.slice a n c) (.slice none n' c')).run Tryz.prog w = .ok (.bool a.isNone) w := fun w a n c n' c' => Lib.run_eql_slice_nil w _ _ a n c n' c' Tryz.underlying35
 rcases A with _ | ad
 ·have h0 : n = 0 := by
   rcases Nat.eq_zero_or_pos n with h0 | h0
   ·exact h0
   ·obtain ⟨ad, e, _⟩ := ha.2 h0
    cases e
  have : l = [] := List.eq_nil_of_length_eq_zero (by rw [ha.len]; exact h0)
  subst this
  go_enter Tryz.func70, Tryz.ntmps70
  go_wp2
  go_ret
  exact ⟨_, rfl, OB.nil _ _, Below.refl _ _⟩
 ·go_enter Tryz.func70, Tryz.ntmps70
  go_wp2_with (at_builtin; refine wpList_append_Rd _ rfl _ _ _ rfl w.heap.size 5 i0 _ 1 1 Tryz.underlying35 hi0 hz0 hz1 hz2 rfl (.slice (some ⟨w.heap.size, 0, none⟩) 0 0) 0 [] rfl (World.ownsRow_made w #[] 0 (Nat.le_refl _) (Nat.zero_le _) rfl) (some ad) n c _ rfl (BR.alloc ha _) (one_bv l) (by omega) (by simp only [maxLen]; omega) (by simp) ?_; intro v1 w1 hown1 hg1 _ _)
  go_ret
  have hl := ha.len
  refine ⟨v1, rfl, ?_, ((Below.refl _ _).alloc (Nat.le_refl _) _).grown hg1 (by simp) (by simp [Value.ownBlock])⟩
  unfold OB
  rw [hl]
  simpa using hown1
def leN : List UInt8 → Nat
 | [] => 0
 | x :: l => x.toNat + 256 * leN l
set_option maxRecDepth 100000 in
theorem leN_append (l m : List UInt8) : leN (l ++ m) = leN l + 256 ^ l.length * leN m := by
 induction l with
 | nil => simp [leN]
 | cons x l ih => simp only [List.cons_append, leN, ih, List.length_cons, Nat.pow_succ, Nat.mul_add]; rw [Nat.add_assoc, Nat.mul_comm (256 ^ l.length) 256, Nat.mul_assoc]
set_option maxRecDepth 100000 in
theorem leN_lt (l : List UInt8) : leN l < 256 ^ l.length := by
 induction l with
 | nil => simp [leN]
 | cons x l ih => have := x.toNat_lt; simp only [leN, List.length_cons, Nat.pow_succ]; omega
set_option maxRecDepth 100000 in
set_option maxHeartbeats 400000 in
theorem number_none (A : Option Addr) (n c : Nat) (w : World) (at_ size : Int) (hn : n ≤ 9223372036854775807) (h0 : 0 ≤ size) (h8 : size ≤ 8) (h : at_ < 0 ∨ (n : Int) - size < at_) (hb : -9223372036854775808 ≤ at_) (hb2 : at_ ≤ 9223372036854775807) :
  Calls Tryz.prog 136 #[.slice A n c, .int .i64 at_, .int .i64 size] w fun e w' => e = .returned (.tuple #[.int .u64 0, .bool false]) ∧ w = w' := by
 by_cases h1 : at_ < 0
 ·have h1' : decide (at_ < 0) = true := by simpa using h1
  go_enter Tryz.func136, Tryz.ntmps136
  go_wp2
  go_ret2
  exact ⟨rfl, rfl⟩
 ·have h1' : decide (at_ < 0) = false := by simpa using h1
  have h2 : decide ((n : Int) - size < at_) = true := by simp; omega
  go_enter Tryz.func136, Tryz.ntmps136
  go_wp2
  go_ret2
  exact ⟨rfl, rfl⟩
end Go.Proofs.YtnkeclpgpiogoaaGreat

/-! OctC -/
namespace Go.Proofs.YtnkeclpgpiogoaaGreat
open Go.RowKit
set_option maxRecDepth 100000 in
theorem leN_snoc (l : List UInt8) (x : UInt8) : leN (l ++ [x]) = leN l + 256 ^ l.length * x.toNat := by
 rw [leN_append]; simp [leN]
set_option maxRecDepth 100000 in
theorem pow256 (j : Nat) : (256 : Nat) ^ j = 2 ^ (8 * j) := by rw [Nat.pow_mul]
set_option maxRecDepth 100000 in
theorem or_shl (j a x : Nat) (hj : j < 8) (hx : x < 256) (ha : a < 256 ^ j) :
  bits .or .u64 (a : Int) (IntKind.u64.wrap (IntKind.u64.wrap (x : Int) * 2 ^ (8 * j))) = ((a + 256 ^ j * x : Nat) : Int) := by
 have hp : 2 ^ (8 * j) ≤ 2 ^ 56 := Nat.pow_le_pow_right (by decide) (by omega)
 have e1 : IntKind.u64.wrap (x : Int) = (x : Int) := by rw [IntKind.wrap_u64]; omega
 have hb : x * 2 ^ (8 * j) < 18446744073709551616 := by
  have h1 : x * 2 ^ (8 * j) ≤ 255 * 2 ^ 56 := Nat.mul_le_mul (by omega) hp
  have h2 : (255 * 2 ^ 56 : Nat) < 18446744073709551616 := by decide
  omega
 have e2 : IntKind.u64.wrap ((x : Int) * 2 ^ (8 * j)) = ((x * 2 ^ (8 * j) : Nat) : Int) := by
  rw [IntKind.wrap_u64]
  have : (x : Int) * 2 ^ (8 * j) = ((x * 2 ^ (8 * j) : Nat) : Int) := by simp
  rw [this]
  omega
 rw [pow256] at ha ⊢
 have ha' : a < 18446744073709551616 := by
  have : (2 ^ 56 : Nat) < 18446744073709551616 := by decide
  omega
 rw [e1, e2, u64_or_nat _ _ ha' hb, Nat.or_comm, nat_join (8 * j) _ _ (by simp) ha]
 congr 1
 rw [Nat.mul_comm, Nat.add_comm]
set_option maxRecDepth 100000 in
theorem take_step (l : List UInt8) (j : Nat) (h : j < l.length) : l.take (j + 1) = l.take j ++ [l.getD j 0] := by
 rw [List.take_succ_eq_append_getElem h]; simp [List.getD, List.getElem?_eq_getElem h]
set_option maxRecDepth 100000 in
set_option maxHeartbeats 400000 in
theorem number_some (A : Option Addr) (n c : Nat) (l : List UInt8) (w : World) (k s : Nat) (ha : BR w A n l) (hn : n ≤ 9223372036854775807) (h8 : s ≤ 8) (h : k + s ≤ n) :
  Calls Tryz.prog 136 #[.slice A n c, .int .i64 k, .int .i64 s] w fun e w' => e = .returned (.tuple #[.int .u64 (leN ((l.drop k).take s)), .bool true]) ∧ w = w' := by
 have h1' : decide ((k : Int) < 0) = false := by simp
 have h2 : decide ((n : Int) - s < k) = false := by simp; omega
 go_enter Tryz.func136, Tryz.ntmps136
 go_wp2
 go_loop [8, 9, 21] (fun v _ i => ∃ j : Nat, j ≤ s ∧ i = .int .i64 j ∧ v = .int .u64 (leN ((l.drop k).take j))) (fun _ _ i => s - (intOf i).toNat)
 case atStart => exact ⟨0, Nat.zero_le _, rfl, rfl⟩
 case round =>
  obtain ⟨j, hj, rfl, rfl⟩ := hrel
  by_cases hlt : j < s
  ·obtain ⟨g, o, rfl, hc⟩ := ha.at_ (k := k + j) (by omega)
   go_wp2
   go_round
   case rel =>
    refine ⟨j + 1, by omega, by go_num, ?_⟩
    have hl := ha.len
    have hd : j < (l.drop k).length := by rw [List.length_drop]; omega
    rw [take_step _ _ hd, leN_snoc]
    have hlt := leN_lt ((l.drop k).take j)
    have hlen : ((l.drop k).take j).length = j := by rw [List.length_take]; omega
    rw [hlen] at hlt ⊢
    rw [or_shl j _ _ (by omega) (UInt8.toNat_lt _) hlt]
    simp [List.getD, List.getElem?_drop]
   case measure => simp [intOf]; omega
  ·go_wp2
   go_ret2
   have : j = s := by omega
   subst this
   exact ⟨rfl, rfl⟩
def numAt (l : List UInt8) (at_ : Int) (s : Nat) : Option Nat :=
 if at_ < 0 ∨ (l.length : Int) - s < at_ then none else some (leN ((l.drop at_.toNat).take s))
set_option maxRecDepth 100000 in
theorem number_any (A : Option Addr) (n c : Nat) (l : List UInt8) (w : World) (at_ : Int) (s : Nat) (ha : BR w A n l) (hn : n ≤ 9223372036854775807) (h8 : s ≤ 8) (hb : -9223372036854775808 ≤ at_) (hb2 : at_ ≤ 9223372036854775807) :
  Calls Tryz.prog 136 #[.slice A n c, .int .i64 at_, .int .i64 (s : Int)] w fun e w' =>
   e = .returned (.tuple #[.int .u64 (((numAt l at_ s).getD 0 : Nat) : Int), .bool (numAt l at_ s).isSome]) ∧ w = w' := by
 have hl := ha.len
 by_cases h : at_ < 0 ∨ (n : Int) - s < at_
 ·refine (number_none A n c w at_ s hn (by omega) (by omega) h hb hb2).mono ?_
  rintro e w' ⟨rfl, rfl⟩
  have : numAt l at_ s = none := by unfold numAt; rw [hl, if_pos h]
  rw [this]
  exact ⟨rfl, rfl⟩
 ·have hk : at_ = (at_.toNat : Int) := by omega
  have e : numAt l at_ s = some (leN ((l.drop at_.toNat).take s)) := by unfold numAt; rw [hl, if_neg h]
  rw [e]
  generalize at_.toNat = k at hk ⊢
  subst hk
  exact number_some A n c l w k s ha hn h8 (by omega)
set_option maxRecDepth 100000 in
theorem numAt_lt (l : List UInt8) (at_ : Int) (s : Nat) : (numAt l at_ s).getD 0 < 256 ^ s := by
 unfold numAt
 split
 ·simpa using Nat.pow_pos (by decide)
 ·have h := leN_lt ((l.drop at_.toNat).take s)
  have h2 : ((l.drop at_.toNat).take s).length ≤ s := by simp; omega
  exact Nat.lt_of_lt_of_le h (Nat.pow_le_pow_right (by decide) h2)
end Go.Proofs.YtnkeclpgpiogoaaGreat

/-! OctD -/
namespace Go.Proofs.YtnkeclpgpiogoaaGreat
open Go.RowKit
def leB (v : Nat) : Nat → List UInt8
 | 0 => []
 | s + 1 => UInt8.ofNat v :: leB (v / 256) s
set_option maxRecDepth 100000 in
theorem leB_length (v s : Nat) : (leB v s).length = s := by
 induction s generalizing v with
 | zero => rfl
 | succ s ih => simp [leB, ih]
set_option maxRecDepth 100000 in
theorem leB_snoc (v s : Nat) : leB v (s + 1) = leB v s ++ [UInt8.ofNat (v / 256 ^ s)] := by
 induction s generalizing v with
 | zero => simp [leB]
 | succ s ih =>
  rw [leB, ih, leB, List.cons_append]
  congr 3
  rw [Nat.div_div_eq_div_mul, Nat.pow_succ, Nat.mul_comm]
set_option maxRecDepth 100000 in
theorem leN_leB (v s : Nat) : leN (leB v s) = v % 256 ^ s := by
 induction s generalizing v with
 | zero => simp [leB, leN, Nat.mod_one]
 | succ s ih =>
  have h : (UInt8.ofNat v).toNat = v % 256 := by simp
  rw [leB, leN, ih, h, Nat.pow_succ, Nat.mul_comm (256 ^ s) 256, Nat.mod_mul]
set_option maxRecDepth 100000 in
theorem byte_of (v k : Nat) : Value.int .u8 ((v : Int) / 2 ^ k % 256) = bv (UInt8.ofNat (v / 2 ^ k)) := by
 unfold bv
 congr 1
set_option maxRecDepth 100000 in
set_option maxHeartbeats 400000 in
theorem add_any (A : Option Addr) (n c : Nat) (l : List UInt8) (w : World) (v s : Nat) (ha : BR w A n l) (hn : n ≤ 211106232532984) (hs : s ≤ 8) (hv : v < 18446744073709551616) :
  Calls Tryz.prog 142 #[.slice A n c, .int .u64 v, .int .i64 s] w fun e w' => ∃ r, e = .returned r ∧ OB w' w.heap.size r (l ++ leB v s) ∧ Below w.heap.size w w' := by
 obtain ⟨i0, hi0, hz0, hz1, hz2⟩ := info_parts info_u8
 have hmk : ∀ u : World, (Instr.makeSlice 35 (.int .i64 0) (.int .i64 ((n : Int) + (s : Int)))).run Tryz.prog u =
   .ok (.slice (some ⟨u.heap.size, 0, none⟩) 0 (n + s)) (u.alloc (.cells (madeCells #[.int .u8 0] (n + s)) 5)) := fun u => by
  have h := run_make (P := Tryz.prog) u 35 5 i0 (.int .u8 0) Tryz.underlying35 hi0 hz0 .i64 .i64 0 ((n : Int) + (s : Int)) (by omega) (by omega) (by rw [hz2]; omega) (by omega)
  have e : ((n : Int) + (s : Int)).toNat = n + s := by omega
  rw [e] at h
  simpa [hz1, Value.cells] using h
 go_enter Tryz.func142, Tryz.ntmps142
 go_wp2_with (at_builtin; refine wpList_append_Rd _ rfl (.tmp 14) (.tmp 15) _ rfl w.heap.size 5 i0 _ 1 1 Tryz.underlying35 hi0 hz0 hz1 hz2 rfl (.slice (some ⟨w.heap.size, 0, none⟩) 0 (n + s)) 0 [] rfl (World.ownsRow_made w _ (n + s) (Nat.le_refl _) (by simp only [maxLen]; omega) (by rw [size_madeCells, Nat.mul_one])) A n c _ rfl (BR.alloc ha _) (one_bv l) (by omega) (by simp only [maxLen]; omega) (by simp) ?_; intro v1 w1 hown1 hg1 _ _)
 have hl := ha.len
 have ho1 : OB w1 w.heap.size v1 (l ++ leB v 0) := by
  unfold OB
  simp only [leB, List.append_nil]
  rw [hl]
  simpa using hown1
 have hb1 : Below w.heap.size w w1 := ((Below.refl _ _).alloc (Nat.le_refl _) _).grown hg1 (by simp) (by simp [Value.ownBlock])
 have HL := Lib.hid hl
 have HV := Lib.hid hv
 clear hl hown1 hg1 hmk hv
 go_loopw [7, 8, 18] (fun r _ i wr => ∃ j : Nat, j ≤ s ∧ i = .int .i64 j ∧ OB wr w.heap.size r (l ++ leB v j) ∧ Below w.heap.size w wr) (fun _ _ i _ => s - (intOf i).toNat)
 case atStart => exact ⟨0, Nat.zero_le _, rfl, ho1, hb1⟩
 case round =>
  obtain ⟨j, hj, rfl, ho, hb⟩ := hrel
  clear ho1 hb1
  by_cases hlt : j < s
  ·have hlen : (l ++ leB v j).length = n + j := by rw [List.length_append, leB_length, HL.out]
   have HLEN := Lib.hid hlen
   have hlen2 : (l ++ leB v j).length ≤ n + j := by omega
   clear hlen
   go_wp2_with (at_builtin; refine wpList_append_Rd _ rfl (.tmp 21) (.tmp 27) _ rfl w.heap.size 5 i0 _ 1 1 Tryz.underlying35 hi0 hz0 hz1 hz2 rfl u7 (l ++ leB v j).length _ rfl (World.ownsRow.alloc ho _) _ 1 1 _ rfl (Rd.new wr _ #[_] 1 1 rfl) (by simp [Value.oneCell']) (by omega) (by simp only [maxLen]; omega) (by have := hb.size; simp; omega) ?_; intro v2 w2 hown2 hg2 _ hat2)
   have hb2 : Below w.heap.size w w2 := (hb.alloc hb.size _).grown hg2 (by have := hb.size; simp; omega) (fun k hk => (ho.lt k hk).1)
   have ho2 : OB w2 w.heap.size v2 (l ++ leB v (j + 1)) := by
    refine OB.of_own hown2 ?_
    rw [leB_snoc, ← List.append_assoc, byte_of, pow256]
    simp
   clear hown2 hg2 hat2 hlen2
   go_wp2
   go_roundw
   case rel => exact ⟨j + 1, by omega, by go_num, ho2, hb2⟩
   case measure => simp [intOf]; omega
  ·go_wp2
   go_ret
   have : j = s := by omega
   subst this
   exact ⟨_, rfl, ho, hb⟩
end Go.Proofs.YtnkeclpgpiogoaaGreat

/-! OctE -/
namespace Go.Proofs.YtnkeclpgpiogoaaGreat
open Go.RowKit
set_option maxRecDepth 100000 in
set_option maxHeartbeats 400000 in
theorem U16_any (A : Option Addr) (n c : Nat) (l : List UInt8) (w : World) (at_ : Int) (ha : BR w A n l) (hn : n ≤ 9223372036854775807) (hb : -9223372036854775808 ≤ at_) (hb2 : at_ ≤ 9223372036854775807) :
  Calls Tryz.prog 195 #[.slice A n c, .int .i64 at_] w fun e w' =>
   e = .returned (.tuple #[.int .u16 (((numAt l at_ 2).getD 0 : Nat) : Int), .bool (numAt l at_ 2).isSome]) ∧ w = w' := by
 have hlt := numAt_lt l at_ 2
 have hc := number_any A n c l w at_ 2 ha hn (by omega) hb hb2
 generalize (numAt l at_ 2).isSome = o at hc ⊢
 generalize (numAt l at_ 2).getD 0 = x at hc hlt ⊢
 have hx : x ≤ 65535 := by omega
 have HC := Lib.hid hc
 clear hc hlt
 go_enter Tryz.func195, Tryz.ntmps195
 go_wp2_with fail
 refine HC.out.mono ?_
 rintro e w' ⟨rfl, rfl⟩
 go_wp2
 go_ret2
 exact ⟨rfl, rfl⟩
set_option maxRecDepth 100000 in
set_option maxHeartbeats 400000 in
theorem U32_any (A : Option Addr) (n c : Nat) (l : List UInt8) (w : World) (at_ : Int) (ha : BR w A n l) (hn : n ≤ 9223372036854775807) (hb : -9223372036854775808 ≤ at_) (hb2 : at_ ≤ 9223372036854775807) :
  Calls Tryz.prog 119 #[.slice A n c, .int .i64 at_] w fun e w' =>
   e = .returned (.tuple #[.int .u32 (((numAt l at_ 4).getD 0 : Nat) : Int), .bool (numAt l at_ 4).isSome]) ∧ w = w' := by
 have hlt := numAt_lt l at_ 4
 have hc := number_any A n c l w at_ 4 ha hn (by omega) hb hb2
 generalize (numAt l at_ 4).isSome = o at hc ⊢
 generalize (numAt l at_ 4).getD 0 = x at hc hlt ⊢
 have hx : x ≤ 4294967295 := by omega
 have HC := Lib.hid hc
 clear hc hlt
 go_enter Tryz.func119, Tryz.ntmps119
 go_wp2_with fail
 refine HC.out.mono ?_
 rintro e w' ⟨rfl, rfl⟩
 go_wp2
 go_ret2
 exact ⟨rfl, rfl⟩
set_option maxRecDepth 100000 in
set_option maxHeartbeats 400000 in
theorem U64_any (A : Option Addr) (n c : Nat) (l : List UInt8) (w : World) (at_ : Int) (ha : BR w A n l) (hn : n ≤ 9223372036854775807) (hb : -9223372036854775808 ≤ at_) (hb2 : at_ ≤ 9223372036854775807) :
  Calls Tryz.prog 112 #[.slice A n c, .int .i64 at_] w fun e w' =>
   e = .returned (.tuple #[.int .u64 (((numAt l at_ 8).getD 0 : Nat) : Int), .bool (numAt l at_ 8).isSome]) ∧ w = w' := by
 have hlt := numAt_lt l at_ 8
 have hc := number_any A n c l w at_ 8 ha hn (by omega) hb hb2
 generalize (numAt l at_ 8).isSome = o at hc ⊢
 generalize (numAt l at_ 8).getD 0 = x at hc hlt ⊢
 have hx : x ≤ 18446744073709551615 := by omega
 have HC := Lib.hid hc
 clear hc hlt
 go_enter Tryz.func112, Tryz.ntmps112
 go_wp2_with fail
 refine HC.out.mono ?_
 rintro e w' ⟨rfl, rfl⟩
 go_wp2
 go_ret2
 exact ⟨rfl, rfl⟩
set_option maxRecDepth 100000 in
set_option maxHeartbeats 400000 in
theorem Add16_any (A : Option Addr) (n c : Nat) (l : List UInt8) (w : World) (v : Nat) (ha : BR w A n l) (hn : n ≤ 211106232532984) (hv : v < 65536) :
  Calls Tryz.prog 133 #[.slice A n c, .int .u16 v] w fun e w' => ∃ r, e = .returned r ∧ OB w' w.heap.size r (l ++ leB v 2) ∧ Below w.heap.size w w' := by
 have hc := add_any A n c l w v 2 ha hn (by omega) (by omega)
 have e1 : IntKind.u64.wrap (v : Int) = (v : Int) := by rw [IntKind.wrap_u64]; omega
 have HC := Lib.hid hc
 have HV := Lib.hid hv
 clear hc hv
 go_enter Tryz.func133, Tryz.ntmps133
 go_wp2_with fail
 refine HC.out.mono ?_
 rintro e w' ⟨r, rfl, ho, hb⟩
 go_wp2
 go_ret
 exact ⟨r, rfl, ho, hb⟩
set_option maxRecDepth 100000 in
set_option maxHeartbeats 400000 in
theorem Add32_any (A : Option Addr) (n c : Nat) (l : List UInt8) (w : World) (v : Nat) (ha : BR w A n l) (hn : n ≤ 211106232532984) (hv : v < 4294967296) :
  Calls Tryz.prog 115 #[.slice A n c, .int .u32 v] w fun e w' => ∃ r, e = .returned r ∧ OB w' w.heap.size r (l ++ leB v 4) ∧ Below w.heap.size w w' := by
 have hc := add_any A n c l w v 4 ha hn (by omega) (by omega)
 have e1 : IntKind.u64.wrap (v : Int) = (v : Int) := by rw [IntKind.wrap_u64]; omega
 have HC := Lib.hid hc
 have HV := Lib.hid hv
 clear hc hv
 go_enter Tryz.func115, Tryz.ntmps115
 go_wp2_with fail
 refine HC.out.mono ?_
 rintro e w' ⟨r, rfl, ho, hb⟩
 go_wp2
 go_ret
 exact ⟨r, rfl, ho, hb⟩
set_option maxRecDepth 100000 in
set_option maxHeartbeats 400000 in
theorem Add64_any (A : Option Addr) (n c : Nat) (l : List UInt8) (w : World) (v : Nat) (ha : BR w A n l) (hn : n ≤ 211106232532984) (hv : v < 18446744073709551616) :
  Calls Tryz.prog 132 #[.slice A n c, .int .u64 v] w fun e w' => ∃ r, e = .returned r ∧ OB w' w.heap.size r (l ++ leB v 8) ∧ Below w.heap.size w w' := by
 have hc := add_any A n c l w v 8 ha hn (by omega) (by omega)
 have e1 : IntKind.u64.wrap (v : Int) = (v : Int) := by rw [IntKind.wrap_u64]; omega
 have HC := Lib.hid hc
 have HV := Lib.hid hv
 clear hc hv
 go_enter Tryz.func132, Tryz.ntmps132
 go_wp2_with fail
 refine HC.out.mono ?_
 rintro e w' ⟨r, rfl, ho, hb⟩
 go_wp2
 go_ret
 exact ⟨r, rfl, ho, hb⟩
end Go.Proofs.YtnkeclpgpiogoaaGreat

/-! OctF -/
namespace Go.Proofs.YtnkeclpgpiogoaaGreat
open Go.RowKit
def partAt (l : List UInt8) (at_ : Int) : Option (List UInt8 × Nat) :=
 match numAt l at_ 2 with
 | none => none
 | some k => if (l.length : Int) - (at_ + 2) < k then none else some ((l.drop (at_.toNat + 2)).take k, at_.toNat + 2 + k)
set_option maxRecDepth 100000 in
theorem numAt_some {l : List UInt8} {at_ : Int} {s x : Nat} (h : numAt l at_ s = some x) : 0 ≤ at_ ∧ at_ + s ≤ l.length ∧ x = leN ((l.drop at_.toNat).take s) ∧ x < 256 ^ s := by
 have hlt := numAt_lt l at_ s
 rw [h] at hlt
 unfold numAt at h
 split at h
 ·cases h
 ·injection h with h
  exact ⟨by omega, by omega, h.symm, by simpa using hlt⟩
set_option maxRecDepth 100000 in
set_option maxHeartbeats 400000 in
theorem Part_any (A : Option Addr) (n c : Nat) (l : List UInt8) (w : World) (at_ : Int) (ha : BR w A n l) (hnc : n ≤ c) (hn : n ≤ 211106232532992) (_hc : c ≤ 9223372036854775807) (hb : -9223372036854775808 ≤ at_) (hb2 : at_ ≤ 9223372036854775807) :
  Calls Tryz.prog 207 #[.slice A n c, .int .i64 at_] w fun e w' => ∃ v,
   e = .returned (.tuple #[v, .int .i64 ((((partAt l at_).map (·.2)).getD 0 : Nat) : Int), .bool (partAt l at_).isSome]) ∧ OB w' w.heap.size v (((partAt l at_).map (·.1)).getD []) ∧ Below w.heap.size w w' := by
 have hU := U16_any A n c l w at_ ha (by omega) hb hb2
 have hl := ha.len
 cases hk : numAt l at_ 2 with
 | none =>
  have hp : partAt l at_ = none := by unfold partAt; rw [hk]
  rw [hp]
  rw [hk] at hU
  have HU := Lib.hid hU
  clear hU hp hk
  go_enter Tryz.func207, Tryz.ntmps207
  go_wp2_with fail
  refine HU.out.mono ?_
  rintro e w' ⟨rfl, rfl⟩
  go_wp2
  go_ret3
  exact ⟨_, rfl, OB.nil _ _, Below.refl _ _⟩
 | some k =>
  obtain ⟨h0, h1, h2, h3⟩ := numAt_some hk
  have hk16 : k ≤ 65535 := by omega
  clear h2 h3
  rw [hk] at hU
  by_cases hs : (l.length : Int) - (at_ + 2) < k
  ·have hp : partAt l at_ = none := by unfold partAt; rw [hk]; exact if_pos hs
   rw [hp]
   have HU := Lib.hid hU
   rw [hl] at hs h1
   have HL := Lib.hid hl
   clear hU hp hk hl
   go_enter Tryz.func207, Tryz.ntmps207
   go_wp2_with fail
   refine HU.out.mono ?_
   rintro e w' ⟨rfl, rfl⟩
   go_wp2
   go_ret3
   exact ⟨_, rfl, OB.nil _ _, Below.refl _ _⟩
  ·have hp : partAt l at_ = some ((l.drop (at_.toNat + 2)).take k, at_.toNat + 2 + k) := by unfold partAt; rw [hk]; exact if_neg hs
   rw [hp]
   obtain ⟨a, rfl⟩ := Int.eq_ofNat_of_zero_le h0
   have HU := Lib.hid hU
   have hs1 : a + 2 + k ≤ n := by omega
   have hs2 : (k : Int) ≤ (n : Int) - ((a : Int) + 2) := by omega
   have HL := Lib.hid hl
   clear hU hp hk hl hs h1
   obtain ⟨i0, hi0, hz0, hz1, hz2⟩ := info_parts info_u8
   have hcut := fun W => run_cut_lh (P := Tryz.prog) W 35 5 i0 Tryz.underlying35 hi0 1 hz1 A n c ((a : Int) + 2) ((a : Int) + 2 + (k : Int)) (a + 2) (a + 2 + k) (by omega) (by omega) (by omega) (by omega)
   have ek : a + 2 + k - (a + 2) = k := by omega
   rw [ek] at hcut
   clear ek
   have hcl := Clone_any (cutA A c (a + 2) 1) k (c - (a + 2)) ((l.drop (a + 2)).take k) w (by have := ha.cut (k := a + 2) (j := a + 2 + k) (c := c) (by omega) (by omega) (by omega); rwa [show a + 2 + k - (a + 2) = k from by omega] at this) (by omega)
   have HC := Lib.hid hcl
   clear hcl
   go_enter Tryz.func207, Tryz.ntmps207
   go_wp2_with fail
   refine HU.out.mono ?_
   rintro e w' ⟨rfl, rfl⟩
   go_wp2_with fail
   refine HC.out.mono ?_
   rintro e w1 ⟨v1, rfl, ho1, hb1⟩
   go_wp2
   go_ret3
   refine ⟨v1, ?_, ?_, hb1⟩
   ·simp
   ·simpa using ho1
set_option maxRecDepth 100000 in
set_option maxHeartbeats 400000 in
theorem AddPart_fits (A B : Option Addr) (n c m d : Nat) (l p : List UInt8) (w : World) (ha : BR w A n l) (hp : BR w B m p) (hn : n ≤ 211106232467456) (hm : m ≤ 65535) :
  Calls Tryz.prog 134 #[.slice A n c, .slice B m d] w fun e w' => ∃ v, e = .returned (.tuple #[v, .int .i64 0]) ∧ OB w' w.heap.size v (l ++ leB m 2 ++ p) ∧ Below w.heap.size w w' := by
 obtain ⟨i0, hi0, hz0, hz1, hz2⟩ := info_parts info_u8
 have hadd := Add16_any A n c l w m ha (by omega) (by omega)
 have HA := Lib.hid hadd
 have hlen : (l ++ leB m 2).length ≤ n + 2 := by rw [List.length_append, leB_length, ha.len]; omega
 clear hadd
 go_enter Tryz.func134, Tryz.ntmps134
 go_wp2_with fail
 refine HA.out.mono ?_
 rintro e w1 ⟨v1, rfl, ho1, hb1⟩
 have hp1 := hp.below hb1
 go_wp2_with (at_builtin; refine wpList_append_Rd _ rfl _ _ _ rfl w.heap.size 5 i0 _ 1 1 Tryz.underlying35 hi0 hz0 hz1 hz2 rfl v1 (l ++ leB m 2).length _ rfl ho1 B m d _ rfl hp1 (one_bv p) (by omega) (by simp only [maxLen]; omega) hb1.size ?_; intro v2 w2 hown2 hg2 _ _)
 go_ret2
 refine ⟨v2, rfl, OB.of_own hown2 (by simp), hb1.grown hg2 hb1.size (fun k hk => (ho1.lt k hk).1)⟩
end Go.Proofs.YtnkeclpgpiogoaaGreat

/-! OctG -/
namespace Go.Proofs.YtnkeclpgpiogoaaGreat
open Go.RowKit
def Lent (w : World) (base : Nat) (A : Option Addr) (c : Nat) (l : List UInt8) : Prop :=
 w.ownsRow base 5 1 (.slice A (l.length + 3) c) (l.length + 3) ((l ++ [77, 78, 79]).map bv)
set_option maxRecDepth 100000 in
theorem Lent.below {w w' : World} {base : Nat} {A : Option Addr} {c : Nat} {l : List UInt8} (h : Lent w base A c l) (hb : Below w.heap.size w w') : Lent w' base A c l :=
 World.ownsRow.kept h (row := none) ⟨hb.os, hb.tape, hb.output, hb.size, fun k hk _ => hb.block k hk⟩ (by cases (Value.slice A (l.length + 3) c).ownBlock <;> simp)
set_option maxRecDepth 100000 in
theorem ret_i {k : IntKind} {a b : Int} (h : a = b) : Ending.returned (.int k a) = .returned (.int k b) := by rw [h]
end Go.Proofs.YtnkeclpgpiogoaaGreat

/-! Mem -/
namespace Go.Proofs.YtnkeclpgpiogoaaGreat
open Go.RowKit
def BB (w : World) (g : Nat) (l : List UInt8) : Prop := w.heap[g]? = some (.cells (l.map bv).toArray 5 (0, 0))
def setB (w : World) (g : Nat) (l : List UInt8) : World := w.setRow g (l.map bv).toArray
section
variable {w w' : World} {g : Nat} {l m : List UInt8}
set_option maxRecDepth 100000 in
theorem BB.lt (h : BB w g l) : g < w.heap.size := (Array.getElem?_eq_some_iff.1 h).1
set_option maxRecDepth 100000 in
theorem BB.zero (w : World) (n : Nat) : BB (w.alloc (.cells (zeroB n) 5)) w.heap.size (List.replicate n 0) := by
 unfold BB
 rw [heap_alloc_new w _]
 have : zeroB n = ((List.replicate n (0 : UInt8)).map bv).toArray := by rw [← zeroB_toList]
 rw [← this]
set_option maxRecDepth 100000 in
theorem BB.set_ (h : BB w g l) (m : List UInt8) : BB (setB w g m) g m := setRow_heap w g _ _ _ _ h
set_option maxRecDepth 100000 in
theorem BB.alloc (h : BB w g l) (o : Obj) : BB (w.alloc o) g l := (Below.heap_alloc w o g h.lt).trans h
set_option maxRecDepth 100000 in
theorem BB.below {B : Nat} (h : BB w g l) (hb : Below B w w') (hg : g < B) : BB w' g l := (hb.block g hg).trans h
set_option maxRecDepth 100000 in
theorem BB.kept (h : BB w g l) (hb : Below w.heap.size w w') : BB w' g l := h.below hb h.lt
set_option maxRecDepth 100000 in
theorem BB.drew (h : BB w g l) : BB w.drew g l := h
@[simp] theorem setB_size (w : World) (g : Nat) (l : List UInt8) : (setB w g l).heap.size = w.heap.size := setRow_size w g _
set_option maxRecDepth 100000 in
theorem setB_below {B : Nat} {a : World} (h : Below B a w) (hg : B ≤ g) (m : List UInt8) : Below B a (setB w g m) :=
 h.trans ⟨rfl, rfl, rfl, by simp, fun k hk => setRow_other w g k _ (by omega)⟩
set_option maxRecDepth 100000 in
theorem setB_setB (w : World) (g : Nat) (l m : List UInt8) : setB (setB w g l) g m = setB w g m := setRow_setRow w g _ _
set_option maxRecDepth 100000 in
theorem setB_drew (w : World) (g : Nat) (l : List UInt8) : setB w.drew g l = (setB w g l).drew := rfl
set_option maxRecDepth 100000 in
theorem Rd.put {size n : Nat} {A : Option Addr} {xs : List Value} (h : Rd w size A n xs) (hg : ∀ ad, A = some ad → ad.block ≠ g) (m : List UInt8) : Rd (setB w g m) size A n xs :=
 ⟨h.1, fun hn => by
  obtain ⟨ad, e, hc⟩ := h.2 hn
  refine ⟨ad, e, fun j u hu => ?_⟩
  rw [← hc j u hu]
  exact World.cell?_of_block (setRow_other w g _ _ (by rw [block_of_add]; exact hg ad e))⟩
set_option maxRecDepth 100000 in
theorem BR.put {n : Nat} {A : Option Addr} (h : BR w A n l) (hg : ∀ ad, A = some ad → ad.block ≠ g) (m : List UInt8) : BR (setB w g m) A n l := Rd.put h hg m
set_option maxRecDepth 100000 in
theorem BR.old {w0 : World} {n : Nat} {A : Option Addr} (h : BR w0 A n l) (hb : Below w0.heap.size w0 w) (hg : w0.heap.size ≤ g) (m : List UInt8) : BR (setB w g m) A n l :=
 h.below (setB_below hb hg m)
set_option maxRecDepth 100000 in
theorem BB.reads (h : BB w g l) {off n : Nat} (hn : off + n ≤ l.length) : BR w (some ⟨g, off, none⟩) n ((l.drop off).take n) := by
 refine ⟨by simp; omega, fun _ => ⟨_, rfl, fun j u hu => ?_⟩⟩
 rw [Go.WideShapes.add_plain]
 have hc := cell_of_row w g (off + j) _ _ _ h
 rw [hc]
 have hj : j < n := by
  rcases Nat.lt_or_ge j n with h | h
  ·exact h
  ·rw [List.getElem?_eq_none (by simp; omega)] at hu; cases hu
 simp [List.getElem?_drop, hj] at hu
 simpa using hu
set_option maxRecDepth 100000 in
theorem BB.readsAll (h : BB w g l) : BR w (some ⟨g, 0, none⟩) l.length l := by
 have := h.reads (off := 0) (n := l.length) (by omega)
 simpa using this
set_option maxRecDepth 100000 in
theorem BB.cell (h : BB w g l) {j : Nat} (hj : j < l.length) : w.cell? ⟨g, j, none⟩ = some (.int .u8 ((l.getD j 0).toNat : Int)) := by
 rw [cell_of_row w g j _ _ _ h]
 simp [hj, bv, List.getD]
set_option maxRecDepth 100000 in
theorem BB.frozen (h : BB w g l) (j : Nat) : w.frozen? ⟨g, j, none⟩ = false := by
 unfold BB at h
 simp [World.frozen?, h]
set_option maxRecDepth 100000 in
theorem BB.own (h : BB w g l) {base : Nat} (hb : base ≤ g) (hm : l.length ≤ maxLen) : OB w base (.slice (some ⟨g, 0, none⟩) l.length l.length) l := by
 refine ⟨by simp, .inr ⟨g, l.length, _, rfl, hb, h, Nat.le_refl _, hm, by simp, ?_⟩⟩
 simp only [Nat.mul_one]
 exact List.take_of_length_le (by simp)
set_option maxRecDepth 100000 in
theorem BB.setCell (h : BB w g l) (j : Nat) (x : UInt8) : BB (w.setCell ⟨g, j, none⟩ (bv x)) g (l.set j x) := by
 unfold BB at h ⊢
 simp only [World.setCell, Array.getElem?_modify, if_pos, h]
 simp
set_option maxRecDepth 100000 in
theorem BB.setInt (h : BB w g l) (j : Nat) (v : Int) (h0 : 0 ≤ v) (h1 : v < 256) : BB (w.setCell ⟨g, j, none⟩ (.int .u8 v)) g (l.set j (UInt8.ofNat v.toNat)) := by
 have e : (.int .u8 v : Value) = bv (UInt8.ofNat v.toNat) := by
  unfold bv
  congr 1
  rw [UInt8.toNat_ofNat']
  omega
 rw [e]
 exact h.setCell j _
set_option maxRecDepth 100000 in
theorem BB.ne {t : TypeId} {cs : Array Value} {k : Nat} {fr : Nat × Nat} (h : BB w g l) (hk : w.heap[k]? = some (.cells cs t fr)) (ht : t ≠ 5) : g ≠ k := by
 rintro rfl
 unfold BB at h
 rw [h] at hk
 injection hk with hk
 injection hk with _ h2
 exact ht h2.symm
end
set_option maxRecDepth 100000 in
theorem run_copy_B (w : World) (ty : TypeId) (g off dl dc : Nat) (l s : List UInt8) (dp A : Option Addr) (m c k : Nat) (h : BB w g l) (hs : BR w A m s) (hk : Nat.min m dl = k) (hdp : 0 < k → dp = some ⟨g, off, none⟩) (hfit : off + k ≤ l.length) :
  (Builtin.copy_ #[35, 35] ty #[.slice dp dl dc, .slice A m c]).run Tryz.prog w = .ok (goInt k) (setB w g (splice l off (s.take k))) := by
 obtain ⟨i0, hi0, hz0, hz1, hz2⟩ := info_parts info_u8
 have hsl := hs.len
 have hkm : k ≤ m := by rw [← hk]; exact Nat.min_le_left _ _
 have hcs : (s.take k).length = k := by rw [List.length_take]; omega
 rcases Nat.eq_zero_or_pos k with h0 | h0
 ·subst h0
  have e : setB w g (splice l off (s.take 0)) = w := by
   unfold setB
   have : splice l off (s.take 0) = l := by simp [splice]
   rw [this]
   exact setRow_self w g _ _ _ h
  rw [e]
  have := run_copy_none (P := Tryz.prog) w 35 35 ty 5 dp A dl dc m c Tryz.underlying35 (by simp [hi0, hz1]) hk
  simpa using this
 ·obtain rfl := hdp h0
  obtain ⟨ad, rfl, hc⟩ := hs.2 (by omega)
  have := run_copy_row (P := Tryz.prog) w 35 35 ty 5 g off dl dc ad m c (l.map bv).toArray 5 ((s.take k).map bv) Tryz.underlying35 (by simp [hi0, hz1]) h (by rw [List.length_map, hcs, hk])
   (fun j u hu => hc j u (by
    rw [List.map_take, List.getElem?_take] at hu
    split at hu
    ·exact hu
    ·cases hu)) (by simp only [List.length_map, hcs]; simpa using hfit) (one_bv _)
  rw [this, List.length_map, hcs]
  unfold setB splice
  rw [hcs]
  simp [List.map_take, List.map_drop]
section
variable {P : Program} (w : World)
set_option maxRecDepth 100000 in
theorem run_equalIn_int (d : Nat) (e : TypeId) (k : IntKind) (he : P.underlying e = some (.int k)) (a b : Int) : (Op.equalIn (d + 1) e (.int k a) (.int k b)).run P w = .ok (a == b) w := by
 simp [Op.equalIn, run_underlying he]
set_option maxRecDepth 100000 in
theorem run_part_int (e : TypeId) (k : IntKind) (he : P.underlying e = some (.int k)) (xs : List Int) (j : Nat) (hj : j < xs.length) : (part e (xs.map (Value.int k)).toArray j).run P w = .ok (.int k (xs.getD j 0)) w := by
 simp [part, isAgg, run_underlying he, hj, List.getD]
set_option maxRecDepth 100000 in
theorem run_eqArr_loop (d : Nat) (e : TypeId) (k : IntKind) (he : P.underlying e = some (.int k)) (xs ys : List Int) (n : Nat) (hx : xs.length = n) (hy : ys.length = n) :
  ∀ (m j : Nat), j + m = n → (forIn (List.range' j m) ((none, ()) : Option Bool × Unit) (fun i _ => do
    if !(← Op.equalIn (d + 1) e (← part e (xs.map (Value.int k)).toArray (i * 1)) (← part e (ys.map (Value.int k)).toArray (i * 1))) then pure (ForInStep.done (some false, ())) else pure (ForInStep.yield (none, ())))).run P w =
   .ok (if xs.drop j = ys.drop j then (none, ()) else (some false, ())) w
 | 0, j, h => by
  have h1 : xs.drop j = [] := List.drop_eq_nil_of_le (by omega)
  have h2 : ys.drop j = [] := List.drop_eq_nil_of_le (by omega)
  simp [h1, h2]
 | m + 1, j, h => by
  have ih := run_eqArr_loop d e k he xs ys n hx hy m (j + 1) (by omega)
  have d1 : xs.drop j = xs.getD j 0 :: xs.drop (j + 1) := by rw [List.drop_eq_getElem_cons (by omega)]; simp [List.getD, List.getElem?_eq_getElem (show j < xs.length by omega)]
  have d2 : ys.drop j = ys.getD j 0 :: ys.drop (j + 1) := by rw [List.drop_eq_getElem_cons (by omega)]; simp [List.getD, List.getElem?_eq_getElem (show j < ys.length by omega)]
  rw [List.range'_succ, List.forIn_cons]
  simp only [Nat.mul_one] at ih ⊢
  simp only [Sem.run_bind, run_part_int w e k he xs j (by omega), run_part_int w e k he ys j (by omega), Result.andThen, run_equalIn_int w d e k he]
  by_cases hq : xs.getD j 0 = ys.getD j 0
  ·simp only [hq, beq_self_eq_true, Bool.not_true, Bool.false_eq_true, if_false, Sem.run_pure]
   rw [ih, d1, d2, hq]
   simp
  ·simp only [beq_eq_false_iff_ne.2 hq, Bool.not_false, if_true, Sem.run_pure]
   rw [d1, d2, if_neg (by intro h; injection h with h1; exact hq h1)]
set_option maxRecDepth 100000 in
theorem run_eqArr (d : Nat) (t e : TypeId) (i : TypeInfo) (k : IntKind) (n : Nat) (ht : P.underlying t = some (.array n e)) (he : P.underlying e = some (.int k)) (hi : P.info? e = some i) (hs : i.size = 1) (xs ys : List Int) (hx : xs.length = n) (hy : ys.length = n) :
  (Op.equalIn (d + 2) t (.agg (xs.map (Value.int k)).toArray) (.agg (ys.map (Value.int k)).toArray)).run P w = .ok (xs == ys) w := by
 have h := run_eqArr_loop (P := P) w d e k he xs ys n hx hy n 0 (by omega)
 unfold Op.equalIn
 simp only [Sem.run_bind, run_underlying ht, Result.andThen, sizeOf, typeInfo, hi, program, Sem.run, Std.Legacy.Range.forIn_eq_forIn_range', Std.Legacy.Range.size]
 simp only [Nat.sub_zero, Nat.add_sub_cancel, Nat.div_one]
 simp only [Sem.run_pure, hs]
 rw [h]
 by_cases hq : xs = ys
 ·simp [hq]
 ·simp [hq]
end
set_option maxRecDepth 100000 in
theorem BR.cells8 {w : World} {g o : Nat} {x0 x1 x2 x3 x4 x5 x6 x7 : UInt8} (h : BR w (some ⟨g, o, none⟩) 8 [x0, x1, x2, x3, x4, x5, x6, x7]) :
  w.cell? ⟨g, o, none⟩ = some (.int .u8 (x0.toNat : Int)) ∧ w.cell? ⟨g, o + 1, none⟩ = some (.int .u8 (x1.toNat : Int)) ∧ w.cell? ⟨g, o + 2, none⟩ = some (.int .u8 (x2.toNat : Int)) ∧ w.cell? ⟨g, o + 3, none⟩ = some (.int .u8 (x3.toNat : Int)) ∧
  w.cell? ⟨g, o + 4, none⟩ = some (.int .u8 (x4.toNat : Int)) ∧ w.cell? ⟨g, o + 5, none⟩ = some (.int .u8 (x5.toNat : Int)) ∧ w.cell? ⟨g, o + 6, none⟩ = some (.int .u8 (x6.toNat : Int)) ∧ w.cell? ⟨g, o + 7, none⟩ = some (.int .u8 (x7.toNat : Int)) := by
 obtain ⟨g', o', e, hc⟩ := Rd.plain h (by omega) (by omega)
 cases e
 exact ⟨hc 0 _ rfl, hc 1 _ rfl, hc 2 _ rfl, hc 3 _ rfl, hc 4 _ rfl, hc 5 _ rfl, hc 6 _ rfl, hc 7 _ rfl⟩
set_option maxRecDepth 100000 in
theorem list8 (l : List UInt8) (h : l.length = 8) : ∃ x0 x1 x2 x3 x4 x5 x6 x7, l = [x0, x1, x2, x3, x4, x5, x6, x7] := by
 match l, h with
 | [x0, x1, x2, x3, x4, x5, x6, x7], _ => exact ⟨x0, x1, x2, x3, x4, x5, x6, x7, rfl⟩
end Go.Proofs.YtnkeclpgpiogoaaGreat

/-! Low -/
namespace Go.Proofs.YtnkeclpgpiogoaaGreat
open Go.RowKit
set_option maxRecDepth 100000 in
theorem tmod_pos (x n : Int) (hn : 0 < n) : -n < x.tmod n ∧ x.tmod n < n ∧ (x.tmod n < 0 → x % n = x.tmod n + n) ∧ (0 ≤ x.tmod n → x % n = x.tmod n) := by
 have h1 := Int.lt_tmod_of_pos x hn
 have h2 := Int.tmod_lt_of_pos x hn
 have h3 : x % n = (x.tmod n) % n := by
  conv => lhs; rw [← Int.tmod_add_mul_tdiv x n]
  rw [Int.add_mul_emod_self_left]
 refine ⟨h1, h2, fun h => ?_, fun h => ?_⟩
 ·rw [h3, ← Int.add_emod_right, Int.emod_eq_of_lt (by omega) (by omega)]
 ·rw [h3, Int.emod_eq_of_lt h h2]
set_option maxRecDepth 100000 in
set_option maxHeartbeats 400000 in
theorem Pick_any (x n : Int) (w : World) (hn : 0 < n) (hn2 : n ≤ 9223372036854775807) :
  Calls Tryz.prog 11 #[.int .i64 x, .int .i64 n] w fun e w' => e = .returned (.int .i64 (x % n)) ∧ w = w' := by
 go_enter Tryz.func11, Tryz.ntmps11
 obtain ⟨t1, t2, t3, t4⟩ := tmod_pos x n hn
 have T3 := Lib.hid t3
 have T4 := Lib.hid t4
 clear t3 t4
 go_wp2
 ·have h : x.tmod n < 0 := by assumption
  go_ret
  exact ⟨ret_i (by first | rw [IntWalk.wrap64_in _ (by omega), T3.out h] | rw [T3.out h]), rfl⟩
 ·have h : 0 ≤ x.tmod n := by assumption
  go_ret
  exact ⟨ret_i (T4.out h).symm, rfl⟩
def madeX (seed : Int) : Nat → Int
 | 0 => IntKind.u64.wrap (IntKind.u64.wrap (IntKind.u64.wrap seed * 2862933555777941757) + 3037000493)
 | i + 1 => if i % 64 = 0 then IntKind.u64.wrap (IntKind.u64.wrap (madeX seed i * 2862933555777941757) + 3037000493) else madeX seed i
def madeL (seed : Int) (n : Nat) : List UInt8 := (List.range n).map fun i => UInt8.ofNat (madeX seed (i + 1) / 1099511627776 % 256).toNat
set_option maxRecDepth 100000 in
theorem madeL_len (seed : Int) (n : Nat) : (madeL seed n).length = n := by simp [madeL]
set_option maxRecDepth 100000 in
theorem madeX_turn {seed : Int} {j : Nat} {q : Int} (hq : q = madeX seed j) (h : ((j : Int) % 64 == 0) = true) : IntKind.u64.wrap (IntKind.u64.wrap (q * 2862933555777941757) + 3037000493) = madeX seed (j + 1) := by
 have hm : j % 64 = 0 := by simp at h; omega
 rw [hq]
 conv => rhs; unfold madeX
 rw [if_pos hm]
set_option maxRecDepth 100000 in
theorem madeX_stay {seed : Int} {j : Nat} {q : Int} (hq : q = madeX seed j) (h : ((j : Int) % 64 == 0) = false) : q = madeX seed (j + 1) := by
 have hm : ¬ j % 64 = 0 := by simp at h; omega
 conv => rhs; unfold madeX
 rw [if_neg hm, hq]
set_option maxRecDepth 100000 in
theorem madeL_step {seed : Int} {l : List UInt8} {j : Nat} (hj : j < l.length) (h : l.take j = madeL seed j) {q : Int} (hq : q = madeX seed (j + 1)) : (l.set j (UInt8.ofNat (q / 1099511627776 % 256).toNat)).take (j + 1) = madeL seed (j + 1) := by
 rw [List.take_succ_eq_append_getElem (by rw [List.length_set]; exact hj), List.take_set, List.set_eq_of_length_le (by rw [List.length_take]; omega), h, hq]
 unfold madeL
 rw [List.range_succ, List.map_append]
 simp
set_option maxRecDepth 100000 in
set_option maxHeartbeats 400000 in
theorem Made_any (seed : Int) (n : Nat) (w : World) (hn : n ≤ 140737488355328) :
  Calls Tryz.prog 20 #[.int .i64 seed, .int .i64 n] w fun e w' => e = .returned (.slice (some ⟨w.heap.size, 0, none⟩) n n) ∧ BB w' w.heap.size (madeL seed n) ∧ Below w.heap.size w w' := by
 have mk := run_mk_bytes n (by omega) n rfl
 go_enter Tryz.func20, Tryz.ntmps20
 go_wp2
 go_loopw [6, 7] (fun x i wr => ∃ (j : Nat) (q : Int) (l : List UInt8), j ≤ n ∧ i = .int .i64 j ∧ x = .int .u64 q ∧ Hid (q = madeX seed j) ∧ Hid (l.length = n) ∧ Hid (l.take j = madeL seed j) ∧ BB wr w.heap.size l ∧ Below w.heap.size w wr) (fun _ i _ => n - (intOf i).toNat)
 case atStart =>
  exact ⟨0, _, List.replicate n 0, by omega, rfl, rfl, Lib.hid rfl, Lib.hid (by simp), Lib.hid rfl, BB.zero w n, gr_alloc (gr_refl _) _⟩
 case round =>
  obtain ⟨j, q, l, hj, rfl, rfl, HQ, hl, HT, hB, hb⟩ := hrel
  by_cases hlt : j < n
  ·have hc := hB.cell (j := j) (by rw [hl.out]; exact hlt)
   have hf := hB.frozen j
   by_cases hm : ((j : Int) % 64 == 0) = true
   ·go_wp2
    go_roundw
    case rel =>
     refine ⟨j + 1, _, _, by omega, by go_num, rfl, ?_, ?_, ?_, hB.setInt j _ ?_ ?_, hb.setCell (Nat.le_refl _) _⟩
     ·exact Lib.hid (madeX_turn HQ.out hm)
     ·exact Lib.hid (by rw [List.length_set]; exact hl.out)
     ·exact Lib.hid (madeL_step (by rw [hl.out]; exact hlt) HT.out (madeX_turn HQ.out hm))
     ·exact Int.emod_nonneg _ (by decide)
     ·exact Int.emod_lt_of_pos _ (by decide)
    case measure => simp [intOf]; omega
   ·have hm' : ((j : Int) % 64 == 0) = false := by simpa using hm
    clear hm
    go_wp2
    go_roundw
    case rel =>
     refine ⟨j + 1, _, _, by omega, by go_num, rfl, ?_, ?_, ?_, hB.setInt j _ ?_ ?_, hb.setCell (Nat.le_refl _) _⟩
     ·exact Lib.hid (madeX_stay HQ.out hm')
     ·exact Lib.hid (by rw [List.length_set]; exact hl.out)
     ·exact Lib.hid (madeL_step (by rw [hl.out]; exact hlt) HT.out (madeX_stay HQ.out hm'))
     ·exact Int.emod_nonneg _ (by decide)
     ·exact Int.emod_lt_of_pos _ (by decide)
    case measure => simp [intOf]; omega
  ·go_wp2
   go_ret
   obtain rfl : j = n := by omega
   refine ⟨rfl, ?_, hb⟩
   have := HT.out
   rw [List.take_of_length_le (Nat.le_of_eq hl.out)] at this
   rw [← this]
   exact hB
end Go.Proofs.YtnkeclpgpiogoaaGreat

/-! Off -/
namespace Go.Proofs.YtnkeclpgpiogoaaGreat
open Go.RowKit
structure Off (S : Nat → Prop) (w w' : World) : Prop where
 os : w'.os = w.os
 tape : w'.tape = w.tape
 output : w'.output = w.output
 size : w.heap.size ≤ w'.heap.size
 block : ∀ k, k < w.heap.size → ¬ S k → w'.heap[k]? = w.heap[k]?
section
variable {S T : Nat → Prop} {w w' w'' : World}
set_option maxRecDepth 100000 in
theorem Off.refl (S : Nat → Prop) (w : World) : Off S w w := ⟨rfl, rfl, rfl, Nat.le_refl _, fun _ _ _ => rfl⟩
set_option maxRecDepth 100000 in
theorem Off.trans (h : Off S w w') (k : Off S w' w'') : Off S w w'' :=
 ⟨k.os.trans h.os, k.tape.trans h.tape, k.output.trans h.output, Nat.le_trans h.size k.size, fun j hj hS => (k.block j (Nat.lt_of_lt_of_le hj h.size) hS).trans (h.block j hj hS)⟩
set_option maxRecDepth 100000 in
theorem Off.mono (h : Off S w w') (hS : ∀ k, k < w.heap.size → S k → T k) : Off T w w' := ⟨h.os, h.tape, h.output, h.size, fun k hk hT => h.block k hk (fun hs => hT (hS k hk hs))⟩
set_option maxRecDepth 100000 in
theorem Off.of_below (hb : Below w.heap.size w w') : Off S w w' := ⟨hb.os, hb.tape, hb.output, hb.size, fun k hk _ => hb.block k hk⟩
set_option maxRecDepth 100000 in
theorem Off.below {B : Nat} (h : Off S w w') (hS : ∀ k, S k → B ≤ k) (hB : B ≤ w.heap.size) : Below B w w' := ⟨h.os, h.tape, h.output, h.size, fun k hk => h.block k (Nat.lt_of_lt_of_le hk hB) (fun hs => by have := hS k hs; omega)⟩
set_option maxRecDepth 100000 in
theorem Off.of_grown {row : Option Nat} (hg : w.grownBy w' row) (hS : ∀ k, row = some k → S k) : Off S w w' := ⟨hg.os, hg.tape, hg.output, hg.size, fun k hk hs => hg.block k hk (fun e => hs (hS k e.symm))⟩
set_option maxRecDepth 100000 in
theorem Off.setCell (h : Off S w w') {g j : Nat} (v : Value) (hg : S g) : Off S w (w'.setCell ⟨g, j, none⟩ v) :=
 h.trans (Off.of_grown (row := some g) ⟨rfl, rfl, rfl, (KeepsWalks.setCell w' _ v).size, fun k _ hk => Below.heap_setCell _ _ _ k (fun e => hk (by rw [e]))⟩ (fun k e => by cases e; exact hg))
set_option maxRecDepth 100000 in
theorem Off.alloc (h : Off S w w') (o : Obj) : Off S w (w'.alloc o) := h.trans (Off.of_below (gr_alloc (gr_refl w') o))
set_option maxRecDepth 100000 in
theorem Off.drewN (h : Off S w w') (n : Nat) : Off S w (w'.drewN n) := ⟨h.os, h.tape, h.output, h.size, h.block⟩
set_option maxRecDepth 100000 in
theorem Off.drew (h : Off S w w') : Off S w w'.drew := ⟨h.os, h.tape, h.output, h.size, h.block⟩
end
set_option maxRecDepth 100000 in
theorem Rd.off {S : Nat → Prop} {w w' : World} {size n : Nat} {A : Option Addr} {xs : List Value} (h : Rd w size A n xs) (ho : Off S w w') (hS : ∀ ad, A = some ad → 0 < n → ¬ S ad.block) : Rd w' size A n xs := by
 refine ⟨h.1, fun h0 => ?_⟩
 obtain ⟨ad, e, hc⟩ := h.2 h0
 refine ⟨ad, e, fun j u hu => ?_⟩
 have h1 := hc j u hu
 have hlt : (ad.add j).block < w.heap.size := World.block_lt_of_cell? w _ h1
 rw [World.cell?_of_block (ho.block _ hlt (by rw [block_of_add]; exact hS ad e h0))]
 exact h1
set_option maxRecDepth 100000 in
theorem BR.off {S : Nat → Prop} {w w' : World} {n : Nat} {A : Option Addr} {l : List UInt8} (h : BR w A n l) (ho : Off S w w') (hS : ∀ ad, A = some ad → 0 < n → ¬ S ad.block) : BR w' A n l := Rd.off h ho hS
set_option maxRecDepth 100000 in
theorem cells_ne {w : World} {k : Nat} {c c' : Array Value} {t t' : TypeId} {f f' : Nat × Nat} (h : w.heap[k]? = some (.cells c t f)) (h' : w.heap[k]? = some (.cells c' t' f')) (ht : t ≠ t') : False := by
 rw [h] at h'
 injection h' with h1
 injection h1 with _ h2
 exact ht h2
section
variable {w w' : World} {base : Nat}
set_option maxRecDepth 100000 in
theorem ownsRow_off {S : Nat → Prop} {e : TypeId} {size n : Nat} {v : Value} {xs : List Value} (h : w.ownsRow base e size v n xs) (ho : Off S w w') (hS : ∀ k, v.ownBlock = some k → ¬ S k) : w'.ownsRow base e size v n xs := by
 refine ⟨h.1, ?_⟩
 rcases h.2 with h0 | ⟨q, cap, cur, rfl, hb, hg, r⟩
 ·exact .inl h0
 ·exact .inr ⟨q, cap, cur, rfl, hb, (ho.block q (Array.getElem?_eq_some_iff.1 hg).1 (hS q rfl)).trans hg, r⟩
set_option maxRecDepth 100000 in
theorem OB.off {S : Nat → Prop} {v : Value} {l : List UInt8} (h : OB w base v l) (ho : Off S w w') (hS : ∀ k, v.ownBlock = some k → ¬ S k) : OB w' base v l := ownsRow_off h ho hS
set_option maxRecDepth 100000 in
theorem own_blk {e : TypeId} {size n : Nat} {v : Value} {xs : List Value} (h : w.ownsRow base e size v n xs) {k : Nat} (hk : v.ownBlock = some k) : ∃ cur, w.heap[k]? = some (.cells cur e (0, 0)) := by
 rcases h.2 with ⟨e0, _⟩ | ⟨g, cap, cur, e0, _, hg, _⟩
 ·rw [e0] at hk
  simp [Value.ownBlock] at hk
 ·rw [e0] at hk
  simp [Value.ownBlock] at hk
  subst hk
  exact ⟨cur, hg⟩
end
section
variable {S : Nat → Prop} {w w' w'' : World}
set_option maxRecDepth 100000 in
theorem Off.setNew (h : Off S w w') {g : Nat} (hg : w.heap.size ≤ g) (j : Nat) (v : Value) : Off S w (w'.setCell ⟨g, j, none⟩ v) :=
 have h2 : Off (fun k => S k ∨ k = g) w (w'.setCell ⟨g, j, none⟩ v) := (h.mono (fun _ _ h => .inl h)).setCell v (.inr rfl)
 h2.mono (fun k hk hs => hs.resolve_right (fun e => by omega))
set_option maxRecDepth 100000 in
theorem Off.grownNew (h : Off S w w') {row : Option Nat} (hg : w'.grownBy w'' row) (hr : ∀ k, row = some k → w.heap.size ≤ k) : Off S w w'' :=
 have h2 : Off (fun k => S k ∨ row = some k) w w'' := (h.mono (fun _ _ h => .inl h)).trans (Off.of_grown hg (fun k e => .inr e))
 h2.mono (fun k hk hs => hs.resolve_right (fun e => by have := hr k e; omega))
end
set_option maxRecDepth 100000 in
theorem own_lower {w : World} {base b : Nat} {e : TypeId} {size n : Nat} {v : Value} {xs : List Value} (h : w.ownsRow base e size v n xs) (hb : b ≤ base) : w.ownsRow b e size v n xs := by
 refine ⟨h.1, ?_⟩
 rcases h.2 with h | ⟨g, cap, cur, rfl, hg, r⟩
 ·exact .inl h
 ·exact .inr ⟨g, cap, cur, rfl, by omega, r⟩
set_option maxRecDepth 100000 in
theorem Rd.of_own {w : World} {base : Nat} {e : TypeId} {size n c : Nat} {A : Option Addr} {xs : List Value} (h : w.ownsRow base e size (.slice A n c) n xs) : Rd w size A n xs := by
 rcases h.2 with ⟨e0, h0⟩ | ⟨g, cap, cur, e0, r⟩
 ·subst h0
  exact ⟨h.1, fun h => absurd h (Nat.lt_irrefl _)⟩
 ·cases e0
  exact ⟨h.1, fun _ => ⟨_, rfl, fun j u hu => h.cells (g := g) rfl j u hu⟩⟩
end Go.Proofs.YtnkeclpgpiogoaaGreat

/-! DkA -/
namespace Go.Proofs.YtnkeclpgpiogoaaGreat
open Go.RowKit
def DB (w : World) (g : Nat) (dv pv : Value) (dn : Bool) (po fa wi : Int) : Prop :=
 w.heap[g]? = some (.cells #[.pointer (some ⟨g, 0, none⟩), dv, pv, .bool dn, .int .i64 po, .int .i64 fa, .int .i64 wi] 183 (0, 0))
section
variable {w w' : World} {g : Nat} {dv pv : Value} {dn : Bool} {po fa wi : Int}
set_option maxRecDepth 100000 in
theorem DB.lt (h : DB w g dv pv dn po fa wi) : g < w.heap.size := (Array.getElem?_eq_some_iff.1 h).1
set_option maxRecDepth 100000 in
theorem DB.off {S : Nat → Prop} (h : DB w g dv pv dn po fa wi) (ho : Off S w w') (hg : ¬ S g) : DB w' g dv pv dn po fa wi := (ho.block g h.lt hg).trans h
set_option maxRecDepth 100000 in
theorem DB.below (h : DB w g dv pv dn po fa wi) (hb : Below w.heap.size w w') : DB w' g dv pv dn po fa wi := (hb.block g h.lt).trans h
set_option maxRecDepth 100000 in
theorem DB.frozen (h : DB w g dv pv dn po fa wi) (j : Nat) : w.frozen? ⟨g, j, none⟩ = false := by unfold DB at h; simp [World.frozen?, h]
set_option maxRecDepth 100000 in
theorem DB.c0 (h : DB w g dv pv dn po fa wi) : w.cell? ⟨g, 0, none⟩ = some (.pointer (some ⟨g, 0, none⟩)) := by rw [cell_of_row w g 0 _ _ _ h]; rfl
set_option maxRecDepth 100000 in
theorem DB.c1 (h : DB w g dv pv dn po fa wi) : w.cell? ⟨g, 1, none⟩ = some dv := by rw [cell_of_row w g 1 _ _ _ h]; rfl
set_option maxRecDepth 100000 in
theorem DB.c2 (h : DB w g dv pv dn po fa wi) : w.cell? ⟨g, 2, none⟩ = some pv := by rw [cell_of_row w g 2 _ _ _ h]; rfl
set_option maxRecDepth 100000 in
theorem DB.c3 (h : DB w g dv pv dn po fa wi) : w.cell? ⟨g, 3, none⟩ = some (.bool dn) := by rw [cell_of_row w g 3 _ _ _ h]; rfl
set_option maxRecDepth 100000 in
theorem DB.c4 (h : DB w g dv pv dn po fa wi) : w.cell? ⟨g, 4, none⟩ = some (.int .i64 po) := by rw [cell_of_row w g 4 _ _ _ h]; rfl
set_option maxRecDepth 100000 in
theorem DB.c5 (h : DB w g dv pv dn po fa wi) : w.cell? ⟨g, 5, none⟩ = some (.int .i64 fa) := by rw [cell_of_row w g 5 _ _ _ h]; rfl
set_option maxRecDepth 100000 in
theorem DB.c6 (h : DB w g dv pv dn po fa wi) : w.cell? ⟨g, 6, none⟩ = some (.int .i64 wi) := by rw [cell_of_row w g 6 _ _ _ h]; rfl
set_option maxRecDepth 100000 in
theorem DB.s2 (h : DB w g dv pv dn po fa wi) (v : Value) : DB (w.setCell ⟨g, 2, none⟩ v) g dv v dn po fa wi := by unfold DB at h ⊢; simp only [World.setCell, Array.getElem?_modify, if_pos, h]; rfl
set_option maxRecDepth 100000 in
theorem DB.s3 (h : DB w g dv pv dn po fa wi) (b : Bool) : DB (w.setCell ⟨g, 3, none⟩ (.bool b)) g dv pv b po fa wi := by unfold DB at h ⊢; simp only [World.setCell, Array.getElem?_modify, if_pos, h]; rfl
set_option maxRecDepth 100000 in
theorem DB.s4 (h : DB w g dv pv dn po fa wi) (n : Int) : DB (w.setCell ⟨g, 4, none⟩ (.int .i64 n)) g dv pv dn n fa wi := by unfold DB at h ⊢; simp only [World.setCell, Array.getElem?_modify, if_pos, h]; rfl
set_option maxRecDepth 100000 in
theorem DB.s5 (h : DB w g dv pv dn po fa wi) (n : Int) : DB (w.setCell ⟨g, 5, none⟩ (.int .i64 n)) g dv pv dn po n wi := by unfold DB at h ⊢; simp only [World.setCell, Array.getElem?_modify, if_pos, h]; rfl
set_option maxRecDepth 100000 in
theorem DB.s6 (h : DB w g dv pv dn po fa wi) (n : Int) : DB (w.setCell ⟨g, 6, none⟩ (.int .i64 n)) g dv pv dn po fa n := by unfold DB at h ⊢; simp only [World.setCell, Array.getElem?_modify, if_pos, h]; rfl
end
set_option maxRecDepth 100000 in
set_option maxHeartbeats 400000 in
theorem aStore_any (a : Addr) (v : Int) (u : Value) (w : World) (hc : w.cell? a = some u) (hz : w.frozen? a = false) :
  Calls Tryz.prog 100 #[.pointer (some a), .int .i64 v] w fun e w' => (∃ x, e = .returned x) ∧ w.setCell a (.int .i64 v) = w' := by
 obtain ⟨g, o, rfl⟩ : ∃ g o, a = ⟨g, o, none⟩ := by
  obtain ⟨g, o, sp⟩ := a
  have := World.cell?_spot hc
  dsimp only at this
  subst this
  exact ⟨g, o, rfl⟩
 have hs := run_call_store (P := Tryz.prog) Tryz.func126 (by kernel_rfl) (by kernel_rfl) (by kernel_rfl) (by kernel_rfl) (k := .i64) (y := v) hc hz
 go_enter Tryz.func100, Tryz.ntmps100
 go_wp2_with fail
 go_end0
 exact ⟨⟨_, rfl⟩, rfl⟩
set_option maxRecDepth 100000 in
set_option maxHeartbeats 400000 in
theorem aLoad_any (a : Addr) (v : Int) (w : World) (hc : w.cell? a = some (.int .i64 v)) :
  Calls Tryz.prog 155 #[.pointer (some a)] w fun e w' => e = .returned (.int .i64 v) ∧ w = w' := by
 obtain ⟨g, o, rfl⟩ : ∃ g o, a = ⟨g, o, none⟩ := by
  obtain ⟨g, o, sp⟩ := a
  have := World.cell?_spot hc
  dsimp only at this
  subst this
  exact ⟨g, o, rfl⟩
 have hs := run_call_load (P := Tryz.prog) Tryz.func175 (by kernel_rfl) (by kernel_rfl) (by kernel_rfl) .i64 (by kernel_rfl) hc
 go_enter Tryz.func155, Tryz.ntmps155
 go_wp2_with fail
 go_ret
 exact ⟨rfl, rfl⟩
set_option maxRecDepth 100000 in
theorem info_disk : (Tryz.prog.info? 183).map (fun i => (i.size, i.bytes)) = some (7, 88) := by kernel_rfl
set_option maxRecDepth 100000 in
theorem eql_self (W : World) (a : Addr) : (binOp .eql 49 (.pointer (some a)) (.pointer (some a))).run Tryz.prog W = .ok (.bool true) W := by
 obtain ⟨j, hj⟩ : ∃ j, Tryz.prog.info? 183 = some j := by
  have := info_disk
  cases h : Tryz.prog.info? 183 with
  | none => rw [h] at this; cases this
  | some j => exact ⟨j, rfl⟩
 exact run_eql_ptr_same W a Tryz.underlying49 hj
set_option maxRecDepth 100000 in
set_option maxHeartbeats 400000 in
theorem made_yes (g : Nat) (w : World) (h0 : w.cell? ⟨g, 0, none⟩ = some (.pointer (some ⟨g, 0, none⟩))) :
  Calls Tryz.prog 99 #[.pointer (some ⟨g, 0, none⟩)] w fun e w' => e = .returned (.bool true) ∧ w = w' := by
 have hq := fun W => eql_self W ⟨g, 0, none⟩
 go_enter Tryz.func99, Tryz.ntmps99
 go_wp2_with fail
 go_ret
 exact ⟨rfl, rfl⟩
set_option maxRecDepth 100000 in
set_option maxHeartbeats 400000 in
theorem disarm_any (g : Nat) (dv pv : Value) (dn : Bool) (po fa wi : Int) (w : World) (h : DB w g dv pv dn po fa wi) :
  Calls Tryz.prog 102 #[.pointer (some ⟨g, 0, none⟩)] w fun e w' => (∃ x, e = .returned x) ∧ DB w' g dv pv dn (-1) (-1) 0 ∧ Off (· = g) w w' := by
 go_enter Tryz.func102, Tryz.ntmps102
 go_wp2_with fail
 refine (aStore_any ⟨g, 4, none⟩ (-1) _ w h.c4 (h.frozen 4)).mono ?_
 rintro e w1 ⟨⟨x, rfl⟩, rfl⟩
 have h1 := h.s4 (-1)
 have o1 : Off (· = g) w (w.setCell ⟨g, 4, none⟩ (.int .i64 (-1))) := (Off.refl _ w).setCell _ rfl
 generalize w.setCell ⟨g, 4, none⟩ (.int .i64 (-1)) = w1 at *
 go_wp2_with fail
 refine (aStore_any ⟨g, 5, none⟩ (-1) _ w1 h1.c5 (h1.frozen 5)).mono ?_
 rintro e w2 ⟨⟨y, rfl⟩, rfl⟩
 have h2 := h1.s5 (-1)
 have o2 : Off (· = g) w (w1.setCell ⟨g, 5, none⟩ (.int .i64 (-1))) := o1.setCell _ rfl
 generalize w1.setCell ⟨g, 5, none⟩ (.int .i64 (-1)) = w2 at *
 have c6 := h2.c6
 have z6 := h2.frozen 6
 have H3 := Lib.hid (h2.s6 0)
 have o3 : Off (· = g) w (w2.setCell ⟨g, 6, none⟩ (.int .i64 0)) := o2.setCell _ rfl
 go_wp2_with fail
 go_end0
 exact ⟨⟨_, rfl⟩, H3.out, o3⟩
def stL (n : Int) : Int := if n = -1 then -1 else n - 1
def stB (n : Int) : Bool := n == 0
set_option maxRecDepth 100000 in
set_option maxHeartbeats 400000 in
theorem stops_any (g j : Nat) (n : Int) (w : World) (hc : w.cell? ⟨g, j, none⟩ = some (.int .i64 n)) (hz : w.frozen? ⟨g, j, none⟩ = false) (h1 : -1 ≤ n) (h2 : n ≤ 9223372036854775807) :
  Calls Tryz.prog 157 #[.pointer (some ⟨g, j, none⟩)] w fun e w' => e = .returned (.bool (stB n)) ∧ ((n = -1 ∧ w = w') ∨ (n ≠ -1 ∧ w.setCell ⟨g, j, none⟩ (.int .i64 (stL n)) = w')) := by
 by_cases hn : n = -1
 ·subst hn
  go_enter Tryz.func157, Tryz.ntmps157
  go_wp2_with fail
  refine (aLoad_any _ _ w hc).mono ?_
  rintro e w' ⟨rfl, rfl⟩
  go_wp2_with fail
  go_ret
  exact ⟨rfl, .inl (by simp)⟩
 ·have t1 : (n == -1) = false := beq_eq_false_iff_ne.2 hn
  have hst : stL n = n - 1 := if_neg hn
  have HST := Lib.hid hst
  clear hst
  go_enter Tryz.func157, Tryz.ntmps157
  go_wp2_with fail
  refine (aLoad_any _ _ w hc).mono ?_
  rintro e w' ⟨rfl, rfl⟩
  go_wp2_with fail
  refine (aStore_any _ _ _ w hc hz).mono ?_
  rintro e w' ⟨⟨x, rfl⟩, rfl⟩
  go_wp2_with fail
  go_ret
  exact ⟨rfl, .inr ⟨hn, by rw [HST.out]⟩⟩
def opE (dn : Bool) (po fa wi : Int) : Int := if dn then 6 else if stB po then 6 else if stB fa then wi else 0
def opD (dn : Bool) (po : Int) : Bool := dn || stB po
def opL (dn : Bool) (n : Int) : Int := if dn then n else stL n
set_option maxRecDepth 100000 in
set_option maxHeartbeats 1000000 in
theorem operation_any (g : Nat) (dv pv : Value) (dn : Bool) (po fa wi : Int) (w : World) (h : DB w g dv pv dn po fa wi) (h1 : -1 ≤ po) (h2 : po ≤ 9223372036854775807) (h3 : -1 ≤ fa) (h4 : fa ≤ 9223372036854775807) :
  Calls Tryz.prog 143 #[.pointer (some ⟨g, 0, none⟩)] w fun e w' => e = .returned (.int .i64 (opE dn po fa wi)) ∧ DB w' g dv pv (opD dn po) (opL dn po) (opL dn fa) wi ∧ Off (· = g) w w' := by
 cases dn with
 | true =>
  have c3 := h.c3
  go_enter Tryz.func143, Tryz.ntmps143
  go_wp2_with fail
  go_ret
  exact ⟨rfl, h, Off.refl _ _⟩
 | false =>
  have c3 := h.c3
  have hS1 : ∀ w1 : World, DB w1 g dv pv false po fa wi → Calls Tryz.prog 157 #[.pointer (some ⟨g, 4, none⟩)] w1 fun e w2 => e = .returned (.bool (stB po)) ∧ DB w2 g dv pv false (stL po) fa wi ∧ Off (· = g) w1 w2 := by
   intro w1 hw1
   refine (stops_any g 4 po w1 hw1.c4 (hw1.frozen 4) h1 h2).mono ?_
   rintro e w2 ⟨rfl, ⟨rfl, rfl⟩ | ⟨hn, rfl⟩⟩
   ·exact ⟨rfl, hw1, Off.refl _ _⟩
   ·exact ⟨rfl, hw1.s4 _, (Off.refl _ w1).setCell _ rfl⟩
  have hS2 : ∀ w1 : World, DB w1 g dv pv false (stL po) fa wi → Calls Tryz.prog 157 #[.pointer (some ⟨g, 5, none⟩)] w1 fun e w2 => e = .returned (.bool (stB fa)) ∧ DB w2 g dv pv false (stL po) (stL fa) wi ∧ Off (· = g) w1 w2 := by
   intro w1 hw1
   refine (stops_any g 5 fa w1 hw1.c5 (hw1.frozen 5) h3 h4).mono ?_
   rintro e w2 ⟨rfl, ⟨rfl, rfl⟩ | ⟨hn, rfl⟩⟩
   ·exact ⟨rfl, hw1, Off.refl _ _⟩
   ·exact ⟨rfl, hw1.s5 _, (Off.refl _ w1).setCell _ rfl⟩
  have HS1 := Lib.hid hS1
  have HS2 := Lib.hid hS2
  have hd : DB w.drew g dv pv false po fa wi := h
  have HE : Hid (opE false po fa wi = if stB po then 6 else if stB fa then wi else 0) := Lib.hid rfl
  have HD : Hid (opD false po = stB po) := Lib.hid rfl
  have HL1 : Hid (opL false po = stL po) := Lib.hid rfl
  have HL2 : Hid (opL false fa = stL fa) := Lib.hid rfl
  clear hS1 hS2
  generalize opE false po fa wi = oe at *
  generalize opD false po = od at *
  generalize opL false po = o1 at *
  generalize opL false fa = o2 at *
  generalize hb1 : stB po = b1 at *
  generalize hb2 : stB fa = b2 at *
  clear hb1 hb2
  go_enter Tryz.func143, Tryz.ntmps143
  go_wp2_with fail
  go_region_with (first | ((with_reducible refine (HS1.out _ (by exact hd)).mono ?_); rintro e w1 ⟨rfl, hd1, ho1⟩) | ((with_reducible refine (HS2.out _ (by exact hd1)).mono ?_); rintro e w2 ⟨rfl, hd2, ho2⟩))
  have ho12 := (show Off (· = g) w w1 from ⟨ho1.os, ho1.tape, ho1.output, ho1.size, ho1.block⟩).trans ho2
  have e3 := hd2.c3
  have z3 := hd2.frozen 3
  have e6 := hd2.c6
  have HX := Lib.hid (hd2.s3 true)
  have ho3 : Off (· = g) w (w2.setCell ⟨g, 3, none⟩ (.bool true)) := ho12.setCell _ rfl
  cases b1 with
  | true =>
   go_wp2_with fail
   go_ret
   exact ⟨ret_i (by rw [HE.out]; rfl), by rw [HD.out, HL1.out, HL2.out]; exact HX.out, ho3⟩
  | false =>
   cases b2 with
   | true =>
    go_wp2_with fail
    go_ret
    exact ⟨ret_i (by rw [HE.out]; rfl), by rw [HD.out, HL1.out, HL2.out]; exact hd2, ho12⟩
   | false =>
    go_wp2_with fail
    go_ret
    exact ⟨ret_i (by rw [HE.out]; rfl), by rw [HD.out, HL1.out, HL2.out]; exact hd2, ho12⟩
end Go.Proofs.YtnkeclpgpiogoaaGreat

/-! DkB -/
namespace Go.Proofs.YtnkeclpgpiogoaaGreat
open Go.RowKit
structure DiskS where
 blocks : List (List UInt8)
 pending : List (Nat × List UInt8)
 down : Bool
 power : Int
 fault : Int
 wi : Int
def zer : List UInt8 := List.replicate 4096 (0 : UInt8)
set_option maxRecDepth 100000 in
theorem zer_len : zer.length = 4096 := by unfold zer; rw [List.length_replicate]
set_option maxRecDepth 100000 in
theorem splice_zer (m : List UInt8) (h : m.length = 4096) : splice zer 0 m = m := by
 unfold splice
 rw [h, List.take_zero, List.drop_eq_nil_of_le (by rw [zer_len]; omega), List.nil_append, List.append_nil]
set_option maxRecDepth 100000 in
theorem splice_zer_nil : splice zer 0 [] = zer := by
 unfold splice
 rw [List.take_zero, List.length_nil, List.drop_zero, List.nil_append, List.nil_append]
def BV (ok : Nat → Prop) (w : World) (u : Value) (l : List UInt8) : Prop :=
 l.length = 4096 ∧ ((u = .slice none 0 0 ∧ l = zer) ∨ ∃ g, u = .slice (some ⟨g, 0, none⟩) 4096 4096 ∧ BB w g l ∧ ok g)
section
variable {ok ok' : Nat → Prop} {w w' : World} {u : Value} {l : List UInt8}
set_option maxRecDepth 100000 in
theorem BV.off {S : Nat → Prop} (h : BV ok w u l) (ho : Off S w w') (hS : ∀ k m, S k → BB w k m → False) : BV ok w' u l := by
 obtain ⟨hl, h | ⟨g, e, hB, hg⟩⟩ := h
 ·exact ⟨hl, .inl h⟩
 ·exact ⟨hl, .inr ⟨g, e, (ho.block g hB.lt (fun hs => hS g l hs hB)).trans hB, hg⟩⟩
set_option maxRecDepth 100000 in
theorem BV.below (h : BV ok w u l) (hb : Below w.heap.size w w') : BV ok w' u l := h.off (S := fun _ => False) (Off.of_below hb) (fun _ _ h => h.elim)
set_option maxRecDepth 100000 in
theorem BV.mono (h : BV ok w u l) (hk : ∀ k, k < w.heap.size → ok k → ok' k) : BV ok' w u l := by
 obtain ⟨hl, h | ⟨g, e, hB, hg⟩⟩ := h
 ·exact ⟨hl, .inl h⟩
 ·exact ⟨hl, .inr ⟨g, e, hB, hk g hB.lt hg⟩⟩
set_option maxRecDepth 100000 in
theorem BV.read (h : BV ok w u l) : ∃ A n c m, u = .slice A n c ∧ BR w A n m ∧ n ≤ 4096 ∧ splice (zer) 0 m = l := by
 obtain ⟨hl, ⟨rfl, rfl⟩ | ⟨g, rfl, hB, _⟩⟩ := h
 ·exact ⟨none, 0, 0, [], rfl, BR.none_ _ _, by omega, splice_zer_nil⟩
 ·have hr := hB.readsAll
  rw [hl] at hr
  exact ⟨_, _, _, l, rfl, hr, Nat.le_refl _, splice_zer l hl⟩
end
def BW (ok : Nat → Prop) (w : World) (u : Value) (l : List UInt8) : Prop := l.length = 4096 ∧ ∃ g, u = .slice (some ⟨g, 0, none⟩) 4096 4096 ∧ BB w g l ∧ ok g
section
variable {ok ok' : Nat → Prop} {w w' : World} {u : Value} {l : List UInt8}
set_option maxRecDepth 100000 in
theorem BW.bv (h : BW ok w u l) : BV ok w u l := ⟨h.1, .inr h.2⟩
set_option maxRecDepth 100000 in
theorem BW.off {S : Nat → Prop} (h : BW ok w u l) (ho : Off S w w') (hS : ∀ k m, S k → BB w k m → False) : BW ok w' u l := by
 obtain ⟨hl, g, e, hB, hg⟩ := h
 exact ⟨hl, g, e, (ho.block g hB.lt (fun hs => hS g l hs hB)).trans hB, hg⟩
set_option maxRecDepth 100000 in
theorem BW.below (h : BW ok w u l) (hb : Below w.heap.size w w') : BW ok w' u l := h.off (S := fun _ => False) (Off.of_below hb) (fun _ _ h => h.elim)
set_option maxRecDepth 100000 in
theorem BW.mono (h : BW ok w u l) (hk : ∀ k, k < w.heap.size → ok k → ok' k) : BW ok' w u l := by
 obtain ⟨hl, g, e, hB, hg⟩ := h
 exact ⟨hl, g, e, hB, hk g hB.lt hg⟩
end
set_option maxRecDepth 100000 in
set_option maxHeartbeats 400000 in
theorem whole_any (A : Option Addr) (n c : Nat) (m : List UInt8) (w : World) (ha : BR w A n m) (hn : n ≤ 4096) :
  Calls Tryz.prog 101 #[.slice A n c] w fun e w' => e = .returned (.slice (some ⟨w.heap.size, 0, none⟩) 4096 4096) ∧ BB w' w.heap.size (splice (zer) 0 m) ∧ Below w.heap.size w w' := by
 have mk := run_mk_bytes 4096 (by omega) 4096 rfl
 have hB : BB (w.alloc (.cells (zeroB 4096) 5)) w.heap.size zer := BB.zero w 4096
 have hb1 := gr_alloc (gr_refl w) (.cells (zeroB 4096) 5)
 have hcp := run_copy_B (w.alloc (.cells (zeroB 4096) 5)) 3 w.heap.size 0 4096 4096 _ m (some ⟨w.heap.size, 0, none⟩) A n c n hB (ha.below hb1) (Nat.min_eq_left hn) (fun _ => rfl) (by rw [zer_len]; omega)
 rw [List.take_of_length_le (Nat.le_of_eq ha.len)] at hcp
 have hB2 := hB.set_ (splice (zer) 0 m)
 have hb2 : Below w.heap.size w (setB (w.alloc (.cells (zeroB 4096) 5)) w.heap.size (splice (zer) 0 m)) := setB_below hb1 (Nat.le_refl _) _
 generalize splice (zer) 0 m = L at *
 clear hB
 go_enter Tryz.func101, Tryz.ntmps101
 go_wp2_with fail
 go_ret
 exact ⟨rfl, hB2, hb2⟩
def wrs : List (Int × Value) → List Value
 | [] => []
 | p :: ps => .int .i64 p.1 :: p.2 :: wrs ps
set_option maxRecDepth 100000 in
theorem wrs_append (ps qs : List (Int × Value)) : wrs (ps ++ qs) = wrs ps ++ wrs qs := by
 induction ps with
 | nil => rfl
 | cons p ps ih => simp only [wrs, List.cons_append, ih]
set_option maxRecDepth 100000 in
theorem wrs_at : ∀ (ps : List (Int × Value)) (i : Nat) (p : Int × Value), ps[i]? = some p → (wrs ps)[i * 2]? = some (.int .i64 p.1) ∧ (wrs ps)[i * 2 + 1]? = some p.2
 | [], i, p, h => by simp at h
 | q :: ps, 0, p, h => by
  simp at h
  subst h
  exact ⟨rfl, rfl⟩
 | q :: ps, i + 1, p, h => by
  have ih := wrs_at ps i p (by simpa using h)
  have e1 : (i + 1) * 2 = i * 2 + 2 := by omega
  have e2 : (i + 1) * 2 + 1 = i * 2 + 1 + 2 := by omega
  rw [e2, e1]
  simpa [wrs] using ih
structure DK (w : World) (ok : Nat → Prop) (base g dr dc : Nat) (pv : Value) (dvs : List Value) (pvs : List (Int × Value)) (D : DiskS) : Prop where
 db : DB w g (.slice (some ⟨dr, 0, none⟩) D.blocks.length dc) pv D.down D.power D.fault D.wi
 dur : w.ownsRow base 35 1 (.slice (some ⟨dr, 0, none⟩) D.blocks.length dc) D.blocks.length dvs
 pen : w.ownsRow base 186 2 pv D.pending.length (wrs pvs)
 pl : pvs.length = D.pending.length
 dv : ∀ (i : Nat) (u : Value) (l : List UInt8), dvs[i]? = some u → D.blocks[i]? = some l → BV ok w u l
 pw : ∀ (i : Nat) (q : Int × Value) (p : Nat × List UInt8), pvs[i]? = some q → D.pending[i]? = some p → q.1 = (p.1 : Int) ∧ p.1 < D.blocks.length ∧ BW ok w q.2 p.2
 n1 : 1 ≤ D.blocks.length
 n2 : D.blocks.length ≤ 4096
 p1 : -1 ≤ D.power
 p2 : D.power ≤ 9223372036854775807
 f1 : -1 ≤ D.fault
 f2 : D.fault ≤ 9223372036854775807
 gb : base ≤ g
def foot (g dr : Nat) (pv : Value) (k : Nat) : Prop := k = g ∨ k = dr ∨ pv.ownBlock = some k
section
variable {w w' : World} {ok ok' : Nat → Prop} {base g dr dc : Nat} {pv : Value} {dvs : List Value} {pvs : List (Int × Value)} {D : DiskS}
set_option maxRecDepth 100000 in
theorem DK.dl (h : DK w ok base g dr dc pv dvs pvs D) : dvs.length = D.blocks.length := by have := h.dur.1; simpa using this
set_option maxRecDepth 100000 in
theorem DK.off {S : Nat → Prop} (h : DK w ok base g dr dc pv dvs pvs D) (ho : Off S w w') (hS : ∀ k, foot g dr pv k → ¬ S k) (hB : ∀ k m, S k → BB w k m → False) : DK w' ok base g dr dc pv dvs pvs D :=
 ⟨h.db.off ho (hS g (.inl rfl)), ownsRow_off h.dur ho (fun k e => hS k (by cases e; exact .inr (.inl rfl))), ownsRow_off h.pen ho (fun k e => hS k (.inr (.inr e))), h.pl,
  fun i u l h1 h2 => (h.dv i u l h1 h2).off ho hB, fun i q p h1 h2 => ⟨(h.pw i q p h1 h2).1, (h.pw i q p h1 h2).2.1, (h.pw i q p h1 h2).2.2.off ho hB⟩, h.n1, h.n2, h.p1, h.p2, h.f1, h.f2, h.gb⟩
set_option maxRecDepth 100000 in
theorem DK.below (h : DK w ok base g dr dc pv dvs pvs D) (hb : Below w.heap.size w w') : DK w' ok base g dr dc pv dvs pvs D := h.off (S := fun _ => False) (Off.of_below hb) (fun _ _ h => h) (fun _ _ h => h.elim)
set_option maxRecDepth 100000 in
theorem DK.mono (h : DK w ok base g dr dc pv dvs pvs D) (hk : ∀ k, k < w.heap.size → ok k → ok' k) : DK w ok' base g dr dc pv dvs pvs D :=
 ⟨h.db, h.dur, h.pen, h.pl, fun i u l h1 h2 => (h.dv i u l h1 h2).mono hk, fun i q p h1 h2 => ⟨(h.pw i q p h1 h2).1, (h.pw i q p h1 h2).2.1, (h.pw i q p h1 h2).2.2.mono hk⟩, h.n1, h.n2, h.p1, h.p2, h.f1, h.f2, h.gb⟩
set_option maxRecDepth 100000 in
theorem DK.foot_bytes (h : DK w ok base g dr dc pv dvs pvs D) : ∀ k m, foot g dr pv k → BB w k m → False := by
 intro k m hk hB
 rcases hk with rfl | rfl | hk
 ·exact hB.ne h.db (by decide) rfl
 ·rcases h.dur.2 with ⟨e, _⟩ | ⟨q, cap, cur, e, _, hq, _⟩
  ·cases e
  ·cases e; exact hB.ne hq (by decide) rfl
 ·rcases h.pen.2 with ⟨rfl, _⟩ | ⟨q, cap, cur, rfl, _, hq, _⟩
  ·simp [Value.ownBlock] at hk
  ·simp [Value.ownBlock] at hk; subst hk; exact hB.ne hq (by decide) rfl
set_option maxRecDepth 100000 in
theorem DK.foot_lt (h : DK w ok base g dr dc pv dvs pvs D) : ∀ k, foot g dr pv k → base ≤ k ∧ k < w.heap.size := by
 intro k hk
 rcases hk with rfl | rfl | hk
 ·exact ⟨h.gb, h.db.lt⟩
 ·exact h.dur.lt k rfl
 ·exact h.pen.lt k hk
set_option maxRecDepth 100000 in
theorem DK.ne_gd (h : DK w ok base g dr dc pv dvs pvs D) : g ≠ dr := by
 rintro rfl
 rcases h.dur.2 with ⟨e, _⟩ | ⟨q, cap, cur, e, _, hq, _⟩
 ·cases e
 ·cases e; exact cells_ne hq h.db (by decide)
set_option maxRecDepth 100000 in
theorem DK.ne_gp (h : DK w ok base g dr dc pv dvs pvs D) : pv.ownBlock ≠ some g := by
 intro e
 rcases h.pen.2 with ⟨rfl, _⟩ | ⟨q, cap, cur, rfl, _, hq, _⟩
 ·simp [Value.ownBlock] at e
 ·simp [Value.ownBlock] at e; subst e; exact cells_ne hq h.db (by decide)
set_option maxRecDepth 100000 in
theorem DK.ne_dp (h : DK w ok base g dr dc pv dvs pvs D) : pv.ownBlock ≠ some dr := by
 intro e
 rcases h.pen.2 with ⟨rfl, _⟩ | ⟨q, cap, cur, rfl, _, hq, _⟩
 ·simp [Value.ownBlock] at e
 ·simp [Value.ownBlock] at e
  subst e
  rcases h.dur.2 with ⟨e, _⟩ | ⟨q', cap', cur', e, _, hq', _⟩
  ·cases e
  ·cases e; exact cells_ne hq hq' (by decide)
end
end Go.Proofs.YtnkeclpgpiogoaaGreat

/-! DkC -/
namespace Go.Proofs.YtnkeclpgpiogoaaGreat
open Go.RowKit
def IsD (w : World) (ok : Nat → Prop) (base g : Nat) (F : Nat → Prop) (D : DiskS) : Prop :=
 ∃ dr dc pv dvs pvs, DK w ok base g dr dc pv dvs pvs D ∧ ∀ k, F k ↔ foot g dr pv k
def DPost (w : World) (ok : Nat → Prop) (base g : Nat) (F : Nat → Prop) (D : DiskS) (w' : World) : Prop :=
 Off F w w' ∧ ∃ F', IsD w' (fun k => ok k ∨ w.heap.size ≤ k) base g F' D ∧ ∀ k, F' k → F k ∨ w.heap.size ≤ k
set_option maxRecDepth 100000 in
theorem DPost.same {w : World} {ok : Nat → Prop} {base g : Nat} {F : Nat → Prop} {D : DiskS} (h : IsD w ok base g F D) : DPost w ok base g F D w := by
 refine ⟨Off.refl _ _, F, ?_, fun k h => .inl h⟩
 obtain ⟨dr, dc, pv, dvs, pvs, hd, hF⟩ := h
 exact ⟨dr, dc, pv, dvs, pvs, hd.mono (fun k _ h => .inl h), hF⟩
section
variable {w w' : World} {ok ok' : Nat → Prop} {base g : Nat} {F : Nat → Prop} {D : DiskS}
set_option maxRecDepth 100000 in
theorem IsD.off {S : Nat → Prop} (h : IsD w ok base g F D) (ho : Off S w w') (hS : ∀ k, F k → ¬ S k) (hB : ∀ k m, S k → BB w k m → False) : IsD w' ok base g F D := by
 obtain ⟨dr, dc, pv, dvs, pvs, hd, hF⟩ := h
 exact ⟨dr, dc, pv, dvs, pvs, hd.off ho (fun k hk => hS k ((hF k).2 hk)) hB, hF⟩
set_option maxRecDepth 100000 in
theorem IsD.below (h : IsD w ok base g F D) (hb : Below w.heap.size w w') : IsD w' ok base g F D := by
 obtain ⟨dr, dc, pv, dvs, pvs, hd, hF⟩ := h
 exact ⟨dr, dc, pv, dvs, pvs, hd.below hb, hF⟩
set_option maxRecDepth 100000 in
theorem IsD.mono (h : IsD w ok base g F D) (hk : ∀ k, k < w.heap.size → ok k → ok' k) : IsD w ok' base g F D := by
 obtain ⟨dr, dc, pv, dvs, pvs, hd, hF⟩ := h
 exact ⟨dr, dc, pv, dvs, pvs, hd.mono hk, hF⟩
set_option maxRecDepth 100000 in
theorem IsD.foot_lt (h : IsD w ok base g F D) : ∀ k, F k → base ≤ k ∧ k < w.heap.size := by
 obtain ⟨dr, dc, pv, dvs, pvs, hd, hF⟩ := h
 exact fun k hk => hd.foot_lt k ((hF k).1 hk)
set_option maxRecDepth 100000 in
theorem IsD.own (h : IsD w ok base g F D) : F g := by
 obtain ⟨dr, dc, pv, dvs, pvs, hd, hF⟩ := h
 exact (hF g).2 (.inl rfl)
end
def askE (D : DiskS) (b : Int) : Int := if b < 0 ∨ (D.blocks.length : Int) ≤ b then 2 else 0
set_option maxRecDepth 100000 in
set_option maxHeartbeats 400000 in
theorem asked_any (w : World) (ok : Nat → Prop) (base g : Nat) (F : Nat → Prop) (D : DiskS) (b : Int) (h : IsD w ok base g F D) :
  Calls Tryz.prog 110 #[.pointer (some ⟨g, 0, none⟩), .int .i64 b] w fun e w' => e = .returned (.int .i64 (askE D b)) ∧ w = w' := by
 obtain ⟨dr, dc, pv, dvs, pvs, hd, hF⟩ := h
 have HM := Lib.hid (made_yes g w hd.db.c0)
 have c1 := hd.db.c1
 have n2 := hd.n2
 have HE : Hid (askE D b = if b < 0 ∨ (D.blocks.length : Int) ≤ b then 2 else 0) := Lib.hid rfl
 clear hd hF
 generalize askE D b = r at *
 generalize D.blocks.length = n at *
 by_cases h1 : b < 0
 ·have t1 : decide (b < 0) = true := by simpa using h1
  go_enter Tryz.func110, Tryz.ntmps110
  go_wp2_with fail
  refine HM.out.mono ?_
  rintro e w' ⟨rfl, rfl⟩
  go_wp2_with fail
  go_ret
  exact ⟨ret_i (by rw [HE.out, if_pos (.inl h1)]), rfl⟩
 ·have t1 : decide (b < 0) = false := by simpa using h1
  by_cases h2 : (n : Int) ≤ b
  ·have t2 : decide ((n : Int) ≤ b) = true := by simpa using h2
   go_enter Tryz.func110, Tryz.ntmps110
   go_wp2_with fail
   refine HM.out.mono ?_
   rintro e w' ⟨rfl, rfl⟩
   go_wp2_with fail
   go_ret
   exact ⟨ret_i (by rw [HE.out, if_pos (.inr h2)]), rfl⟩
  ·have t2 : decide ((n : Int) ≤ b) = false := by simpa using h2
   go_enter Tryz.func110, Tryz.ntmps110
   go_wp2_with fail
   refine HM.out.mono ?_
   rintro e w' ⟨rfl, rfl⟩
   go_wp2_with fail
   go_ret
   exact ⟨ret_i (by rw [HE.out, if_neg (by omega)]), rfl⟩
set_option maxRecDepth 100000 in
set_option maxHeartbeats 400000 in
theorem Blocks_any (w : World) (ok : Nat → Prop) (base g : Nat) (F : Nat → Prop) (D : DiskS) (h : IsD w ok base g F D) :
  Calls Tryz.prog 88 #[.pointer (some ⟨g, 0, none⟩)] w fun e w' => e = .returned (.int .i64 (D.blocks.length : Int)) ∧ w = w' := by
 obtain ⟨dr, dc, pv, dvs, pvs, hd, hF⟩ := h
 have HM := Lib.hid (made_yes g w hd.db.c0)
 have c1 := hd.db.c1
 have n2 := hd.n2
 clear hd hF
 generalize D.blocks.length = n at *
 go_enter Tryz.func88, Tryz.ntmps88
 go_wp2_with fail
 refine HM.out.mono ?_
 rintro e w' ⟨rfl, rfl⟩
 go_wp2_with fail
 go_ret
 exact ⟨rfl, rfl⟩
set_option maxRecDepth 100000 in
theorem DK.turn {w w' : World} {ok : Nat → Prop} {base g dr dc : Nat} {pv : Value} {dvs : List Value} {pvs : List (Int × Value)} {D D' : DiskS} (h : DK w ok base g dr dc pv dvs pvs D) (ho : Off (· = g) w w')
  (hdb : DB w' g (.slice (some ⟨dr, 0, none⟩) D.blocks.length dc) pv D'.down D'.power D'.fault D'.wi) (hb : D'.blocks = D.blocks) (hp : D'.pending = D.pending) (p1 : -1 ≤ D'.power) (p2 : D'.power ≤ 9223372036854775807) (f1 : -1 ≤ D'.fault) (f2 : D'.fault ≤ 9223372036854775807) :
  DK w' ok base g dr dc pv dvs pvs D' := by
 have hB : ∀ k m, k = g → BB w k m → False := fun k m e => h.foot_bytes k m (.inl e)
 refine ⟨by rw [hb]; exact hdb, ?_, ?_, by rw [hp]; exact h.pl, ?_, ?_, by rw [hb]; exact h.n1, by rw [hb]; exact h.n2, p1, p2, f1, f2, h.gb⟩
 ·rw [hb]; exact ownsRow_off h.dur ho (fun k e => by cases e; exact Ne.symm h.ne_gd)
 ·rw [hp]; exact ownsRow_off h.pen ho (fun k e e' => h.ne_gp (by rw [e, e']))
 ·rw [hb]; exact fun i u l h1 h2 => (h.dv i u l h1 h2).off ho hB
 ·rw [hb, hp]; exact fun i q p h1 h2 => ⟨(h.pw i q p h1 h2).1, (h.pw i q p h1 h2).2.1, (h.pw i q p h1 h2).2.2.off ho hB⟩
set_option maxRecDepth 100000 in
theorem DPost.turn {w w' : World} {ok : Nat → Prop} {base g dr dc : Nat} {F : Nat → Prop} {pv : Value} {dvs : List Value} {pvs : List (Int × Value)} {D D' : DiskS} (h : DK w ok base g dr dc pv dvs pvs D) (hF : ∀ k, F k ↔ foot g dr pv k) (ho : Off (· = g) w w')
  (hdb : DB w' g (.slice (some ⟨dr, 0, none⟩) D.blocks.length dc) pv D'.down D'.power D'.fault D'.wi) (hb : D'.blocks = D.blocks) (hp : D'.pending = D.pending) (p1 : -1 ≤ D'.power) (p2 : D'.power ≤ 9223372036854775807) (f1 : -1 ≤ D'.fault) (f2 : D'.fault ≤ 9223372036854775807) :
  DPost w ok base g F D' w' :=
 ⟨ho.mono (fun k _ e => (hF k).2 (.inl e)), F, ⟨dr, dc, pv, dvs, pvs, (h.turn ho hdb hb hp p1 p2 f1 f2).mono (fun _k _ h => .inl h), hF⟩, fun _k h => .inl h⟩
def armE (n : Int) : Int := if n < 0 then 2 else 0
def armD (D : DiskS) (n : Int) : DiskS := if n < 0 then D else { D with power := n }
set_option maxRecDepth 100000 in
set_option maxHeartbeats 400000 in
theorem Arm_any (w : World) (ok : Nat → Prop) (base g : Nat) (F : Nat → Prop) (D : DiskS) (n : Int) (h : IsD w ok base g F D) (hn : n ≤ 9223372036854775807) :
  Calls Tryz.prog 53 #[.pointer (some ⟨g, 0, none⟩), .int .i64 n] w fun e w' => e = .returned (.int .i64 (armE n)) ∧ DPost w ok base g F (armD D n) w' := by
 have h' := h
 obtain ⟨dr, dc, pv, dvs, pvs, hd, hF⟩ := h
 have HM := Lib.hid (made_yes g w hd.db.c0)
 by_cases h1 : n < 0
 ·have t1 : decide (n < 0) = true := by simpa using h1
  have HP := Lib.hid (DPost.same h')
  clear hd hF h'
  go_enter Tryz.func53, Tryz.ntmps53
  go_wp2_with fail
  refine HM.out.mono ?_
  rintro e w' ⟨rfl, rfl⟩
  go_wp2_with fail
  go_ret
  exact ⟨ret_i (by unfold armE; rw [if_pos h1]), by unfold armD; rw [if_pos h1]; exact HP.out⟩
 ·have t1 : decide (n < 0) = false := by simpa using h1
  have HS := Lib.hid (aStore_any ⟨g, 4, none⟩ n _ w hd.db.c4 (hd.db.frozen 4))
  have HP : Hid (DPost w ok base g F { D with power := n } (w.setCell ⟨g, 4, none⟩ (.int .i64 n))) := Lib.hid (DPost.turn hd hF ((Off.refl _ w).setCell _ rfl) (hd.db.s4 n) rfl rfl (by dsimp only; omega) hn hd.f1 hd.f2)
  clear hd hF h'
  go_enter Tryz.func53, Tryz.ntmps53
  go_wp2_with fail
  refine HM.out.mono ?_
  rintro e w' ⟨rfl, rfl⟩
  go_wp2_with fail
  refine HS.out.mono ?_
  rintro e w' ⟨⟨x, rfl⟩, rfl⟩
  go_wp2_with fail
  go_ret
  exact ⟨ret_i (by unfold armE; rw [if_neg (by omega)]), by unfold armD; rw [if_neg (by omega)]; exact HP.out⟩
set_option maxRecDepth 100000 in
theorem DK.at_ {w : World} {ok : Nat → Prop} {base g dr dc : Nat} {pv : Value} {dvs : List Value} {pvs : List (Int × Value)} {D : DiskS} (h : DK w ok base g dr dc pv dvs pvs D) {i : Nat} (hi : i < D.blocks.length) :
  ∃ u, w.cell? ⟨dr, i, none⟩ = some u ∧ dvs[i]? = some u ∧ BV ok w u (D.blocks.getD i []) := by
 have hl := h.dl
 have hd : dvs[i]? = some (dvs[i]'(by omega)) := List.getElem?_eq_getElem (by omega)
 refine ⟨dvs[i]'(by omega), ?_, hd, h.dv i _ _ hd (by simp [List.getD, List.getElem?_eq_getElem hi])⟩
 have := h.dur.cells (g := dr) rfl i _ hd
 rwa [add_plain] at this
end Go.Proofs.YtnkeclpgpiogoaaGreat

/-! DkD -/
namespace Go.Proofs.YtnkeclpgpiogoaaGreat
open Go.RowKit
set_option maxRecDepth 100000 in
set_option maxHeartbeats 400000 in
theorem begun_any (A : Option Addr) (n c : Nat) (w : World) :
  Calls Tryz.prog 103 #[.slice A n c] w fun e w' => e = .returned (.pointer (some ⟨w.heap.size, 0, none⟩)) ∧ DB w' w.heap.size (.slice A n c) (.slice none 0 0) false (-1) (-1) 0 ∧ Below w.heap.size w w' := by
 have h1 : DB (w.alloc (.cells #[.pointer (some ⟨w.heap.size, 0, none⟩), .slice A n c, .slice none 0 0, .bool false, .int .i64 0, .int .i64 0, .int .i64 0] 183)) w.heap.size (.slice A n c) (.slice none 0 0) false 0 0 0 := heap_alloc_new w _
 have hb1 := gr_alloc (gr_refl w) (.cells #[.pointer (some ⟨w.heap.size, 0, none⟩), .slice A n c, .slice none 0 0, .bool false, .int .i64 0, .int .i64 0, .int .i64 0] 183)
 have HD := Lib.hid (disarm_any w.heap.size _ _ _ _ _ _ _ h1)
 go_enter Tryz.func103, Tryz.ntmps103
 go_wp2_with fail
 refine HD.out.mono ?_
 rintro e w2 ⟨⟨x, rfl⟩, h2, ho⟩
 go_wp2_with fail
 go_ret
 exact ⟨rfl, h2, hb1.trans (ho.below (fun k e => by omega) hb1.size)⟩
def newD (n : Nat) : DiskS := ⟨List.replicate n zer, [], false, -1, -1, 0⟩
def nils (n : Nat) : Array Value := madeCells #[.slice none 0 0] n
set_option maxRecDepth 100000 in
theorem nils_toList (n : Nat) : (nils n).toList = List.replicate n (.slice none 0 0) := by unfold nils; rw [toList_madeCells_one]
set_option maxRecDepth 100000 in
theorem info_lists : (Tryz.prog.info? 35).map (fun i => (i.zero, i.size, i.bytes)) = some (some (.slice none 0 0), 1, 24) := by kernel_rfl
set_option maxRecDepth 100000 in
theorem info_write : (Tryz.prog.info? 186).map (fun i => (i.zero, i.size, i.bytes)) = some (some (.agg #[.int .i64 0, .slice none 0 0]), 2, 32) := by kernel_rfl
set_option maxRecDepth 100000 in
theorem run_mk_nils (n : Nat) (hn : n ≤ 4398046511104) (x : Int) (hx : x = n) (u : World) :
  (Instr.makeSlice 59 (.int .i64 x) (.int .i64 x)).run Tryz.prog u = .ok (.slice (some ⟨u.heap.size, 0, none⟩) n n) (u.alloc (.cells (nils n) 35)) := by
 obtain ⟨i0, hi0, hz0, hz1, hz2⟩ := info_parts info_lists
 subst hx
 have h := run_make (P := Tryz.prog) u 59 35 i0 (.slice none 0 0) Tryz.underlying59 hi0 hz0 .i64 .i64 (n : Int) (n : Int) (by omega) (by omega) (by rw [hz2]; omega) (by omega)
 simpa [hz1, Value.cells, nils] using h
set_option maxRecDepth 100000 in
set_option maxHeartbeats 400000 in
theorem New_any (n : Nat) (w : World) (h1 : 1 ≤ n) (h2 : n ≤ 4096) :
  Calls Tryz.prog 58 #[.int .i64 n] w fun e w' => ∃ g F, e = .returned (.tuple #[.pointer (some ⟨g, 0, none⟩), .int .i64 0]) ∧ IsD w' (fun _ => False) w.heap.size g F (newD n) ∧ Below w.heap.size w w' := by
 have mk := run_mk_nils n (by omega) n rfl
 have t1 : decide ((n : Int) < 1) = false := by simp; omega
 have t2 : decide (4096 < (n : Int)) = false := by simp; omega
 have HB := Lib.hid (begun_any (some ⟨w.heap.size, 0, none⟩) n n (w.alloc (.cells (nils n) 35)))
 have hrow : (w.alloc (.cells (nils n) 35)).ownsRow w.heap.size 35 1 (.slice (some ⟨w.heap.size, 0, none⟩) n n) n (List.replicate n (.slice none 0 0)) := by
  refine ⟨by simp, .inr ⟨w.heap.size, n, nils n, rfl, Nat.le_refl _, heap_alloc_new w _, Nat.le_refl _, by simp only [maxLen]; omega, ?_, ?_⟩⟩
  ·have := congrArg List.length (nils_toList n); simpa using this
  ·rw [nils_toList]; simp
 have hb1 := gr_alloc (gr_refl w) (.cells (nils n) 35)
 go_enter Tryz.func58, Tryz.ntmps58
 go_wp2_with fail
 refine HB.out.mono ?_
 rintro e w2 ⟨rfl, hdb, hb2⟩
 go_wp2_with fail
 go_ret2
 have hl : (newD n).blocks.length = n := by simp [newD]
 refine ⟨_, foot (w.heap.size + 1) w.heap.size (.slice none 0 0), rfl, ⟨w.heap.size, n, .slice none 0 0, List.replicate n (.slice none 0 0), [], ⟨?_, ?_, ⟨rfl, .inl ⟨rfl, rfl⟩⟩, rfl, ?_, ?_, ?_, ?_, ?_, ?_, ?_, ?_, ?_⟩, fun k => Iff.rfl⟩, gr_trans hb1 hb2⟩
 ·rw [hl]
  rw [World.size_alloc] at hdb
  exact hdb
 ·rw [hl]
  exact World.ownsRow.kept hrow (row := none) ⟨hb2.os, hb2.tape, hb2.output, hb2.size, fun k hk _ => hb2.block k hk⟩ (.inr (by simp [Value.ownBlock]))
 ·intro i u l hu hll
  have e1 : u = .slice none 0 0 := List.eq_of_mem_replicate (List.mem_of_getElem? hu)
  have e2 : l = zer := List.eq_of_mem_replicate (List.mem_of_getElem? (show (List.replicate n zer)[i]? = some l from hll))
  subst e1 e2
  exact ⟨zer_len, .inl ⟨rfl, rfl⟩⟩
 ·intro i q p hq; simp at hq
 ·rw [hl]; exact h1
 ·rw [hl]; exact h2
 ·exact Int.le_refl _
 ·show (-1 : Int) ≤ _; omega
 ·exact Int.le_refl _
 ·show (-1 : Int) ≤ _; omega
 ·show w.heap.size ≤ w.heap.size + 1; omega
def opS (D : DiskS) : DiskS := { D with down := opD D.down D.power, power := opL D.down D.power, fault := opL D.down D.fault }
def opC (D : DiskS) : Int := opE D.down D.power D.fault D.wi
set_option maxRecDepth 100000 in
theorem opL_ge {dn : Bool} {n : Int} (h : -1 ≤ n) : -1 ≤ opL dn n := by
 unfold opL stL
 split
 ·exact h
 ·split <;> omega
set_option maxRecDepth 100000 in
theorem opL_le {dn : Bool} {n : Int} (h : n ≤ 9223372036854775807) : opL dn n ≤ 9223372036854775807 := by
 unfold opL stL
 split
 ·exact h
 ·split <;> omega
set_option maxRecDepth 100000 in
theorem DK.oper {w w' : World} {ok : Nat → Prop} {base g dr dc : Nat} {pv : Value} {dvs : List Value} {pvs : List (Int × Value)} {D : DiskS} (h : DK w ok base g dr dc pv dvs pvs D) (ho : Off (· = g) w w')
  (hdb : DB w' g (.slice (some ⟨dr, 0, none⟩) D.blocks.length dc) pv (opD D.down D.power) (opL D.down D.power) (opL D.down D.fault) D.wi) : DK w' ok base g dr dc pv dvs pvs (opS D) :=
 h.turn ho hdb rfl rfl (opL_ge h.p1) (opL_le h.p2) (opL_ge h.f1) (opL_le h.f2)
def writeE (D : DiskS) (b : Int) (n : Nat) : Int := if askE D b ≠ 0 then askE D b else if n ≠ 4096 then 2 else opC D
def writeD (D : DiskS) (b : Int) (m : List UInt8) : DiskS := if askE D b ≠ 0 ∨ m.length ≠ 4096 then D else if opC D ≠ 0 then opS D else { opS D with pending := D.pending ++ [(b.toNat, m)] }
set_option maxRecDepth 100000 in
theorem ask02 (D : DiskS) (b : Int) : askE D b = 0 ∨ askE D b = 2 := by unfold askE; split <;> simp
set_option maxRecDepth 100000 in
theorem ask_in {D : DiskS} {b : Int} (h0 : askE D b = 0) : 0 ≤ b ∧ b < (D.blocks.length : Int) := by
 unfold askE at h0
 split at h0
 ·cases h0
 ·omega
set_option maxRecDepth 100000 in
theorem DK.pushed {w1 w2 w4 : World} {ok : Nat → Prop} {base g dr dc nb bi : Nat} {pv v4 : Value} {dvs : List Value} {pvs : List (Int × Value)} {D : DiskS} {m : List UInt8} {o : Obj} (h : DK w1 ok base g dr dc pv dvs pvs D) (hb2 : Below w1.heap.size w1 w2) (hB : BB w2 nb m) (hnb : w1.heap.size ≤ nb)
  (hml : m.length = 4096) (hbi : bi < D.blocks.length) (hown4 : w4.ownsRow base 186 2 v4 (D.pending.length + 1) (wrs pvs ++ [.int .i64 (bi : Int), .slice (some ⟨nb, 0, none⟩) 4096 4096])) (hg4 : (w2.alloc o).grownBy w4 pv.ownBlock) :
  DB w4 g (.slice (some ⟨dr, 0, none⟩) D.blocks.length dc) pv D.down D.power D.fault D.wi ∧ DK (w4.setCell ⟨g, 2, none⟩ v4) (fun k => ok k ∨ w1.heap.size ≤ k) base g dr dc v4 dvs (pvs ++ [((bi : Int), .slice (some ⟨nb, 0, none⟩) 4096 4096)]) { D with pending := D.pending ++ [(bi, m)] } ∧
  Off (foot g dr pv) w1 (w4.setCell ⟨g, 2, none⟩ v4) := by
 have hpw : pv.ownBlock = none ∨ ∃ k, pv.ownBlock = some k := by cases pv.ownBlock <;> simp
 have o4 : Off (fun k => pv.ownBlock = some k) w1 w4 := (Off.of_below (gr_trans hb2 (gr_alloc (gr_refl w2) o))).trans (Off.of_grown hg4 (fun k e => e))
 have hS4 : ∀ k q, pv.ownBlock = some k → BB w1 k q → False := fun k q e => h.foot_bytes k q (.inr (.inr e))
 have db4 : DB w4 g (.slice (some ⟨dr, 0, none⟩) D.blocks.length dc) pv D.down D.power D.fault D.wi := h.db.off o4 h.ne_gp
 have o5 : Off (foot g dr pv) w1 (w4.setCell ⟨g, 2, none⟩ v4) := (o4.mono (fun k _ e => .inr (.inr e))).setCell _ (.inl rfl)
 have og : Off (· = g) w4 (w4.setCell ⟨g, 2, none⟩ v4) := (Off.refl _ w4).setCell _ rfl
 have hv4 : v4.ownBlock ≠ some g := by
  intro e
  rcases hown4.2 with ⟨rfl, _⟩ | ⟨q, cap, cur, rfl, _, hq, _⟩
  ·simp [Value.ownBlock] at e
  ·simp [Value.ownBlock] at e; subst e; exact cells_ne hq db4 (by decide)
 have hBn : BB w4 nb m := by
  have h2 : BB (w2.alloc o) nb m := hB.alloc o
  refine (hg4.block nb h2.lt (fun e => ?_)).trans h2
  have := (h.foot_lt nb (.inr (.inr e.symm))).2
  omega
 have hB5 : ∀ {k : Nat} {q : List UInt8}, BB w4 k q → BB (w4.setCell ⟨g, 2, none⟩ v4) k q := fun {k q} hk => (og.block k hk.lt (fun e => by subst e; exact hk.ne db4 (by decide) rfl)).trans hk
 have hbv : ∀ {u : Value} {l : List UInt8}, BV ok w1 u l → BV (fun k => ok k ∨ w1.heap.size ≤ k) (w4.setCell ⟨g, 2, none⟩ v4) u l := by
  intro u l hu
  exact (hu.off o5 (fun k q hk => h.foot_bytes k q hk)).mono (fun k _ hk => .inl hk)
 refine ⟨db4, ⟨db4.s2 v4, ?_, ?_, ?_, fun i u l h1 h2 => hbv (h.dv i u l h1 h2), ?_, h.n1, h.n2, h.p1, h.p2, h.f1, h.f2, h.gb⟩, o5⟩
 ·exact ownsRow_off (ownsRow_off h.dur o4 (fun k e e' => h.ne_dp (by cases e; exact e'))) og (fun k e => by cases e; exact Ne.symm h.ne_gd)
 ·rw [wrs_append]
  show World.ownsRow _ base _ 2 v4 (D.pending ++ [(bi, m)]).length _
  rw [List.length_append]
  exact ownsRow_off hown4 og (fun k e e' => hv4 (by rw [e, e']))
 ·rw [List.length_append, h.pl]
  show _ = (D.pending ++ [(bi, m)]).length
  rw [List.length_append]; rfl
 ·intro i q p hq hp
  have hp' : (D.pending ++ [(bi, m)])[i]? = some p := hp
  rcases Nat.lt_or_ge i D.pending.length with hi | hi
  ·rw [List.getElem?_append_left hi] at hp'
   rw [List.getElem?_append_left (by rw [h.pl]; exact hi)] at hq
   obtain ⟨a1, a2, a3⟩ := h.pw i q p hq hp'
   exact ⟨a1, a2, (a3.off o5 (fun k q hk => h.foot_bytes k q hk)).mono (fun k _ hk => .inl hk)⟩
  ·rw [List.getElem?_append_right hi] at hp'
   rw [List.getElem?_append_right (by rw [h.pl]; exact hi), h.pl] at hq
   rcases Nat.eq_zero_or_pos (i - D.pending.length) with h0 | h0
   ·rw [h0] at hp' hq
    simp only [List.getElem?_cons_zero, Option.some.injEq] at hp' hq
    subst hp' hq
    exact ⟨rfl, hbi, hml, nb, rfl, hB5 hBn, .inr hnb⟩
   ·rw [List.getElem?_eq_none (by simp; omega)] at hp'
    cases hp'
set_option maxRecDepth 100000 in
set_option maxHeartbeats 2000000 in
theorem Write_any (w : World) (ok : Nat → Prop) (base g : Nat) (F : Nat → Prop) (D : DiskS) (b : Int) (A : Option Addr) (n c : Nat) (m : List UInt8) (h : IsD w ok base g F D) (hm : BR w A n m) (hA : ∀ ad, A = some ad → ¬ F ad.block) (hn : n ≤ 9223372036854775807) (hpl : D.pending.length ≤ 1000000) :
  Calls Tryz.prog 117 #[.pointer (some ⟨g, 0, none⟩), .int .i64 b, .slice A n c] w fun e w' => e = .returned (.int .i64 (writeE D b n)) ∧ DPost w ok base g F (writeD D b m) w' := by
 have HA := Lib.hid (asked_any w ok base g F D b h)
 have HML := Lib.hid hm.len
 have HSAME := Lib.hid (DPost.same h)
 rcases ask02 D b with h0 | h0
 ·rw [h0] at HA
  by_cases hn4 : n = 4096
  ·subst hn4
   obtain ⟨dr, dc, pv, dvs, pvs, hd, hF⟩ := h
   have HO := Lib.hid (operation_any g _ _ _ _ _ _ w hd.db hd.p1 hd.p2 hd.f1 hd.f2)
   have HE : Hid (writeE D b 4096 = opC D) := Lib.hid (by unfold writeE; rw [if_neg (by rw [h0]; simp), if_neg (by simp)])
   have HAsk := Lib.hid h0
   by_cases hop : opC D = 0
   ·obtain ⟨hb0, hbl⟩ := ask_in h0
    obtain ⟨bi, rfl⟩ := Int.eq_ofNat_of_zero_le hb0
    have hbi : bi < D.blocks.length := by omega
    have HD : Hid (writeD D (bi : Int) m = { opS D with pending := D.pending ++ [(bi, m)] }) := Lib.hid (by
     unfold writeD
     rw [if_neg (by rw [h0, HML.out]; simp), if_neg (by rw [hop]; simp), Int.toNat_natCast])
    have hop' : opE D.down D.power D.fault D.wi = 0 := hop
    rw [hop'] at HO
    rw [hop] at HE
    obtain ⟨i1, hi1, hy0, hy1, hy2⟩ := info_parts info_write
    have hFg : ∀ ad, A = some ad → ad.block ≠ g := fun ad e e' => hA ad e ((hF _).2 (.inl e'))
    have HFG := Lib.hid hFg
    have HFF := Lib.hid hF
    have HDK := Lib.hid hd
    have HMM := Lib.hid hm
    obtain ⟨Ap, cp, rfl, _, _⟩ := own_form hd.pen
    clear hd hF hm hA h0 hop hop' hFg hb0 hbl HSAME
    go_enter Tryz.func117, Tryz.ntmps117
    go_wp2_with fail
    refine HA.out.mono ?_
    rintro e w' ⟨rfl, rfl⟩
    go_wp2_with fail
    refine HO.out.mono ?_
    rintro e w1 ⟨rfl, hdb1, ho1⟩
    have hd1 := HDK.out.oper ho1 hdb1
    have hm1 : BR w1.drew A 4096 m := ⟨HMM.out.1, fun h => by
     obtain ⟨ad, e, hc⟩ := HMM.out.2 h
     refine ⟨ad, e, fun j u hu => ?_⟩
     have := hc j u hu
     rw [← this]
     exact World.cell?_of_block (ho1.block _ (World.block_lt_of_cell? w _ this) (by rw [block_of_add]; exact HFG.out ad e))⟩
    have HWH := Lib.hid (whole_any A 4096 c m w1.drew hm1 (Nat.le_refl _))
    have HD1 := Lib.hid hd1
    have HDB1 := Lib.hid hdb1
    have hc2 : w1.drew.cell? ⟨g, 2, none⟩ = some (.slice Ap D.pending.length cp) := hdb1.c2
    have hpb : D.blocks.length = (opS D).blocks.length := rfl
    have HPEN : Hid (∀ w2 : World, Below w1.drew.heap.size w1.drew w2 → ∀ o : Obj, (w2.alloc o).ownsRow base 186 2 (.slice Ap D.pending.length cp) D.pending.length (wrs pvs)) := Lib.hid (fun w2 hb2 o => by
     have hb2' : Below w1.heap.size w1 w2 := ⟨hb2.os, hb2.tape, hb2.output, hb2.size, hb2.block⟩
     exact ownsRow_off hd1.pen (S := fun _ => False) (Off.of_below (gr_alloc hb2' o)) (fun _ _ h => h))
    have HC2 : Hid (∀ w2 : World, Below w1.drew.heap.size w1.drew w2 → w2.cell? ⟨g, 2, none⟩ = some (.slice Ap D.pending.length cp) ∧ ∀ o : Obj, (w2.alloc o).cell? ⟨g, 2, none⟩ = some (.slice Ap D.pending.length cp)) := Lib.hid (fun w2 hb2 => ⟨keep_of_below hb2 hdb1.c2, fun o => keep_of_below (gr_alloc hb2 o) hdb1.c2⟩)
    have HPUSH : Hid (∀ (w2 w4 : World) (v4 : Value) (o : Obj), BB w2 w1.drew.heap.size (splice zer 0 m) → Below w1.drew.heap.size w1.drew w2 → w4.ownsRow base 186 2 v4 (D.pending.length + 1) (wrs pvs ++ [.int .i64 (bi : Int), .slice (some ⟨w1.drew.heap.size, 0, none⟩) 4096 4096]) →
      (w2.alloc o).grownBy w4 (Value.slice Ap D.pending.length cp).ownBlock → (v4.ownBlock = (Value.slice Ap D.pending.length cp).ownBlock ∨ (v4.ownBlock = some (w2.alloc o).heap.size ∧ (w2.alloc o).grownBy w4 none)) →
      w4.cell? ⟨g, 2, none⟩ = some (.slice Ap D.pending.length cp) ∧ w4.frozen? ⟨g, 2, none⟩ = false ∧ DPost w ok base g F { opS D with pending := D.pending ++ [(bi, m)] } (w4.setCell ⟨g, 2, none⟩ v4)) := Lib.hid (by
     intro w2 w4 v4 o hB2 hb2 hown4 hg4 hbl
     have hb2' : Below w1.heap.size w1 w2 := ⟨hb2.os, hb2.tape, hb2.output, hb2.size, hb2.block⟩
     rw [splice_zer m HML.out] at hB2
     obtain ⟨db4, hk, ho5⟩ := DK.pushed hd1 hb2' hB2 (Nat.le_refl _) HML.out hbi hown4 hg4
     refine ⟨db4.c2, db4.frozen 2, (ho1.mono (fun k _ e => (HFF.out k).2 (.inl e))).trans (ho5.mono (fun k _ e => (HFF.out k).2 e)), foot g dr v4, ⟨dr, dc, v4, dvs, _, hk.mono (fun k _ h => h.imp id (fun h => Nat.le_trans ho1.size h)), fun k => Iff.rfl⟩, fun k hk => ?_⟩
     rcases hk with rfl | rfl | hk
     ·exact .inl ((HFF.out _).2 (.inl rfl))
     ·exact .inl ((HFF.out _).2 (.inr (.inl rfl)))
     ·rcases hbl with e | ⟨e, _⟩
      ·exact .inl ((HFF.out _).2 (.inr (.inr (by rw [← e]; exact hk))))
      ·rw [e] at hk
       injection hk with hk
       rw [World.size_alloc] at hk
       have h1 := ho1.size
       have h2 := hb2'.size
       exact .inr (by omega))
    have hone : ∀ u ∈ [Value.int .i64 (bi : Int), .slice (some ⟨w1.drew.heap.size, 0, none⟩) 4096 4096], u.oneCell' = true := by
     intro u hu
     simp only [List.mem_cons, List.not_mem_nil, or_false] at hu
     rcases hu with rfl | rfl <;> rfl
    have HONE := Lib.hid hone
    have hmx : D.pending.length + 1 ≤ maxLen := by simp only [maxLen]; omega
    have HBS : Hid (∀ (w2 : World) (o : Obj), Below w1.drew.heap.size w1.drew w2 → base ≤ (w2.alloc o).heap.size) := Lib.hid (fun w2 o hb2 => by
     have h1 := hd1.gb
     have h2 := hd1.db.lt
     have h3 := hb2.size
     have h4 : w1.drew.heap.size = w1.heap.size := rfl
     rw [World.size_alloc]; omega)
    have HRD : Hid (∀ (w2 : World), Rd (w2.alloc (.cells #[.int .i64 (bi : Int), .slice (some ⟨w1.drew.heap.size, 0, none⟩) 4096 4096] 186)) 2 (some ⟨w2.heap.size, 0, none⟩) 1 [.int .i64 (bi : Int), .slice (some ⟨w1.drew.heap.size, 0, none⟩) 4096 4096]) := Lib.hid (fun w2 => Rd.new w2 _ #[_, _] 1 2 rfl)
    clear hdb1 hd1 hm1 HDK HMM hone
    generalize D.pending.length = np at *
    go_wp2_with fail
    go_region_law (first
     | (refine step_append_Rd _ rfl (.tmp 27) (.tmp 32) _ rfl base 186 i1 _ 2 32 Tryz.underlying181 hi1 hy0 hy1 hy2 rfl (.slice Ap np cp) np (wrs pvs) rfl (HPEN.out w2 hb2 _) (some ⟨w2.heap.size, 0, none⟩) 1 1 [.int .i64 (bi : Int), .slice (some ⟨w1.drew.heap.size, 0, none⟩) 4096 4096] rfl (HRD.out w2) HONE.out (by omega) hmx (HBS.out w2 _ hb2) ?_; intro v4 w4 hown4 hg4 _ hbl4; obtain ⟨k1, k2, k3⟩ := HPUSH.out w2 w4 v4 _ hB2 hb2 hown4 hg4 hbl4; obtain ⟨g4, c4, rfl⟩ := ownsRow_succ hown4)
     | (go_simp; go_at_call 101; refine HWH.out.mono ?_; rintro e w2 ⟨rfl, hB2, hb2⟩; obtain ⟨k5, k6⟩ := HC2.out w2 hb2))
    all_goals
     go_wp2_with fail
     go_ret
     exact ⟨ret_i HE.out.symm, by rw [HD.out]; exact k3⟩
   ·have HD : Hid (writeD D b m = opS D) := Lib.hid (by
     unfold writeD
     rw [if_neg (by rw [h0, HML.out]; simp), if_pos hop])
    have t1 : (opC D != 0) = true := by rw [bne_iff_ne]; exact hop
    have HO2 : Hid (Calls Tryz.prog 143 #[.pointer (some ⟨g, 0, none⟩)] w fun e w' => e = .returned (.int .i64 (opC D)) ∧ DPost w ok base g F (opS D) w') := Lib.hid (HO.out.mono (by
     rintro e w' ⟨rfl, hdb, ho⟩
     exact ⟨rfl, ho.mono (fun k _ e => (hF k).2 (.inl e)), F, ⟨dr, dc, pv, dvs, pvs, (hd.oper ho hdb).mono (fun k _ h => .inl h), hF⟩, fun k h => .inl h⟩))
    clear hd hF hm hA h0 hop HO HSAME HAsk
    generalize opC D = oc at *
    go_enter Tryz.func117, Tryz.ntmps117
    go_wp2_with fail
    refine HA.out.mono ?_
    rintro e w' ⟨rfl, rfl⟩
    go_wp2_with fail
    refine HO2.out.mono ?_
    rintro e w1 ⟨rfl, hp⟩
    go_wp2_with fail
    go_ret
    exact ⟨ret_i HE.out.symm, by rw [HD.out]; exact hp⟩
  ·have t1 : ((n : Int) != 4096) = true := by rw [bne_iff_ne]; omega
   have HE : Hid (writeE D b n = 2) := Lib.hid (by unfold writeE; rw [if_neg (by rw [h0]; simp), if_pos hn4])
   have HP : Hid (DPost w ok base g F (writeD D b m) w) := Lib.hid (by unfold writeD; rw [if_pos (.inr (by rw [HML.out]; exact hn4))]; exact HSAME.out)
   clear h h0 hn4
   go_enter Tryz.func117, Tryz.ntmps117
   go_wp2_with fail
   refine HA.out.mono ?_
   rintro e w' ⟨rfl, rfl⟩
   go_wp2_with fail
   go_ret
   exact ⟨ret_i HE.out.symm, HP.out⟩
 ·have HE : Hid (writeE D b n = 2) := Lib.hid (by unfold writeE; rw [if_pos (by rw [h0]; simp), h0])
  have HP : Hid (DPost w ok base g F (writeD D b m) w) := Lib.hid (by unfold writeD; rw [if_pos (.inl (by rw [h0]; simp))]; exact HSAME.out)
  rw [h0] at HA
  clear h h0
  go_enter Tryz.func117, Tryz.ntmps117
  go_wp2_with fail
  refine HA.out.mono ?_
  rintro e w' ⟨rfl, rfl⟩
  go_wp2_with fail
  go_ret
  exact ⟨ret_i HE.out.symm, HP.out⟩
end Go.Proofs.YtnkeclpgpiogoaaGreat

/-! DkE -/
namespace Go.Proofs.YtnkeclpgpiogoaaGreat
open Go.RowKit
def carry (bs : List (List UInt8)) (ps : List (Nat × List UInt8)) : List (List UInt8) := ps.foldl (fun bs p => bs.set p.1 p.2) bs
set_option maxRecDepth 100000 in
theorem carry_len (bs : List (List UInt8)) (ps : List (Nat × List UInt8)) : (carry bs ps).length = bs.length := by
 unfold carry
 induction ps generalizing bs with
 | nil => rfl
 | cons p ps ih => rw [List.foldl_cons, ih, List.length_set]
set_option maxRecDepth 100000 in
theorem carry_snoc (bs : List (List UInt8)) {ps : List (Nat × List UInt8)} {k : Nat} {p : Nat × List UInt8} (h : ps[k]? = some p) : carry bs (ps.take (k + 1)) = (carry bs (ps.take k)).set p.1 p.2 := by
 obtain ⟨hk, e⟩ := List.getElem?_eq_some_iff.1 h
 unfold carry
 rw [List.take_succ_eq_append_getElem hk, List.foldl_append, e]
 rfl
section
variable {w w' : World} {ok : Nat → Prop} {base g dr dc : Nat} {pv : Value} {dvs : List Value} {pvs : List (Int × Value)} {D : DiskS}
set_option maxRecDepth 100000 in
theorem DK.lay (h : DK w ok base g dr dc pv dvs pvs D) {i : Nat} {u : Value} {l : List UInt8} (hi : i < D.blocks.length) (hu : BV ok w u l) :
  DK (w.setCell ⟨dr, i, none⟩ u) ok base g dr dc pv (dvs.set i u) pvs { D with blocks := D.blocks.set i l } := by
 have od : Off (· = dr) w (w.setCell ⟨dr, i, none⟩ u) := (Off.refl _ w).setCell _ rfl
 have hB : ∀ k m, k = dr → BB w k m → False := fun k m e => h.foot_bytes k m (.inr (.inl e))
 have hl : ({ D with blocks := D.blocks.set i l } : DiskS).blocks.length = D.blocks.length := by simp
 refine ⟨by rw [hl]; exact h.db.off od h.ne_gd, ?_, ownsRow_off h.pen od (fun k e e' => h.ne_dp (by rw [e, e'])), h.pl, ?_, ?_, by rw [hl]; exact h.n1, by rw [hl]; exact h.n2, h.p1, h.p2, h.f1, h.f2, h.gb⟩
 ·rw [hl]
  rcases h.dur.2 with ⟨e, _⟩ | ⟨q, cap, cur, e, hb, hq, hnc, hm, hcs, ht⟩
  ·cases e
  ·cases e
   refine ⟨by have := h.dur.1; simpa using this, .inr ⟨dr, dc, cur.setIfInBounds i u, rfl, hb, ?_, hnc, hm, by simpa using hcs, ?_⟩⟩
   ·simp only [World.setCell, Array.getElem?_modify, if_pos, hq]
    simp
   ·rw [Array.toList_setIfInBounds, List.take_set, ht]
 ·intro j v m hv hm
  have hm' : (D.blocks.set i l)[j]? = some m := hm
  rw [List.getElem?_set] at hv hm'
  by_cases e : i = j
  ·subst e
   rw [if_pos rfl] at hv hm'
   rw [if_pos (by rw [h.dl]; exact hi)] at hv
   rw [if_pos hi] at hm'
   cases hv
   cases hm'
   exact hu.off od hB
  ·rw [if_neg e] at hv hm'
   exact (h.dv j v m hv hm').off od hB
 ·intro j q p hq hp
  obtain ⟨a1, a2, a3⟩ := h.pw j q p hq hp
  exact ⟨a1, by rw [hl]; exact a2, a3.off od hB⟩
set_option maxRecDepth 100000 in
theorem DK.forget (h : DK w ok base g dr dc pv dvs pvs D) : DK (w.setCell ⟨g, 2, none⟩ (.slice none 0 0)) ok base g dr dc (.slice none 0 0) dvs [] { D with pending := [] } := by
 have og : Off (· = g) w (w.setCell ⟨g, 2, none⟩ (.slice none 0 0)) := (Off.refl _ w).setCell _ rfl
 have hB : ∀ k m, k = g → BB w k m → False := fun k m e => h.foot_bytes k m (.inl e)
 exact ⟨h.db.s2 _, ownsRow_off h.dur og (fun k e => by cases e; exact Ne.symm h.ne_gd), ⟨rfl, .inl ⟨rfl, rfl⟩⟩, rfl, fun i u l h1 h2 => (h.dv i u l h1 h2).off og hB, fun i q p hq => by simp at hq, h.n1, h.n2, h.p1, h.p2, h.f1, h.f2, h.gb⟩
set_option maxRecDepth 100000 in
theorem DK.wr_at (h : DK w ok base g dr dc pv dvs pvs D) {i : Nat} (hi : i < D.pending.length) : ∃ q c u p, pv = .slice (some ⟨q, 0, none⟩) D.pending.length c ∧ w.cell? ⟨q, i * 2, none⟩ = some (.int .i64 ((p.1 : Nat) : Int)) ∧ w.cell? ⟨q, i * 2 + 1, none⟩ = some u ∧
  D.pending[i]? = some p ∧ p.1 < D.blocks.length ∧ BW ok w u p.2 := by
 rcases h.pen.2 with ⟨_, e⟩ | ⟨q, cap, cur, rfl, _, hq, hnc, _⟩
 ·omega
 ·have hip : D.pending[i]? = some (D.pending[i]'hi) := List.getElem?_eq_getElem hi
  have hil : i < pvs.length := by rw [h.pl]; exact hi
  have hiu : pvs[i]? = some (pvs[i]'hil) := List.getElem?_eq_getElem hil
  obtain ⟨a1, a2, a3⟩ := h.pw i _ _ hiu hip
  obtain ⟨c1, c2⟩ := wrs_at pvs i _ hiu
  have hc := h.pen.cells (g := q) rfl
  have k1 := hc _ _ c1
  have k2 := hc _ _ c2
  rw [add_plain] at k1 k2
  exact ⟨q, cap, _, _, rfl, by rw [← a1]; exact k1, k2, hip, a2, a3⟩
end
set_option maxRecDepth 100000 in
theorem cell_new_at (w : World) (x y : Value) (t : TypeId) : (w.alloc (.cells #[x, y] t)).cell? ⟨w.heap.size, 0, none⟩ = some x ∧ (w.alloc (.cells #[x, y] t)).cell? ⟨w.heap.size, 1, none⟩ = some y := by
 have hw := World.alloc_heap_new w (.cells #[x, y] t)
 constructor
 ·rw [cell_of_row _ _ 0 _ _ _ hw]; rfl
 ·rw [cell_of_row _ _ 1 _ _ _ hw]; rfl
def syncD (D : DiskS) : DiskS := if opC D ≠ 0 then opS D else { opS D with blocks := carry D.blocks D.pending, pending := [] }
set_option maxRecDepth 100000 in
set_option maxHeartbeats 2000000 in
theorem Sync_any (w : World) (ok : Nat → Prop) (base g : Nat) (F : Nat → Prop) (D : DiskS) (h : IsD w ok base g F D) (hpl : D.pending.length ≤ 1000000) :
  Calls Tryz.prog 118 #[.pointer (some ⟨g, 0, none⟩)] w fun e w' => e = .returned (.int .i64 (opC D)) ∧ DPost w ok base g F (syncD D) w' := by
 obtain ⟨dr, dc, pv, dvs, pvs, hd, hF⟩ := h
 have HM := Lib.hid (made_yes g w hd.db.c0)
 have HO := Lib.hid (operation_any g _ _ _ _ _ _ w hd.db hd.p1 hd.p2 hd.f1 hd.f2)
 have HFF := Lib.hid hF
 by_cases hop : opC D = 0
 ·have HD : Hid (syncD D = { opS D with blocks := carry D.blocks D.pending, pending := [] }) := Lib.hid (by unfold syncD; rw [if_neg (by rw [hop]; simp)])
  have hop' : opE D.down D.power D.fault D.wi = 0 := hop
  rw [hop'] at HO
  have HOP := Lib.hid hop
  have HDK := Lib.hid hd
  clear hd hF hop hop'
  go_enter Tryz.func118, Tryz.ntmps118
  go_wp2_with fail
  refine HM.out.mono ?_
  rintro e w' ⟨rfl, rfl⟩
  go_wp2_with fail
  refine HO.out.mono ?_
  rintro e w1 ⟨rfl, hdb1, ho1⟩
  have HD1 := Lib.hid (HDK.out.oper ho1 hdb1)
  have c2 := hdb1.c2
  obtain ⟨Ap, cp, rfl, _, _⟩ := own_form HD1.out.pen
  have ho1' : Off F w w1 := ho1.mono (fun k _ e => (HFF.out k).2 (.inl e))
  have HN : Hid ((opS D).pending = D.pending) := Lib.hid rfl
  have HNB : Hid ((opS D).blocks = D.blocks) := Lib.hid rfl
  clear HDK hdb1
  have hnp : (opS D).pending.length ≤ 1000000 := hpl
  generalize hnpe : (opS D).pending.length = np at *
  have HNP := Lib.hid hnpe
  clear hnpe hpl
  go_wp2_with fail
  go_loopw [19] (fun i wr => ∃ (k : Nat) (dvs : List Value), k ≤ np ∧ i = .int .i64 k ∧ Hid (DK wr ok base g dr dc (.slice Ap np cp) dvs pvs { opS D with blocks := carry D.blocks (D.pending.take k) }) ∧ Off F w wr) (fun i _ => np - (intOf i).toNat)
  case atStart => exact ⟨0, dvs, Nat.zero_le _, rfl, Lib.hid HD1.out, ho1'⟩
  case round =>
   clear HD1 ho1' c2
   obtain ⟨k, dvs, hk, rfl, HDK, ho⟩ := hrel
   by_cases hlt : k < np
   ·have hlt' : k < ({ opS D with blocks := carry D.blocks (D.pending.take k) } : DiskS).pending.length := by show k < (opS D).pending.length; rw [HNP.out]; exact hlt
    obtain ⟨q, c, u, p, e, k1, k2, k3, k4, k5⟩ := HDK.out.wr_at hlt'
    have e2 : (Value.slice Ap np cp) = .slice (some ⟨q, 0, none⟩) np c := by rw [e]; congr 1
    injection e2 with e3 e4 e5
    subst e3 e5
    have k4' : p.1 < (carry D.blocks (D.pending.take k)).length := k4
    have HLAY := Lib.hid (fun o : Obj => (HDK.out.below (gr_alloc (gr_refl wr) o)).lay k4 (k5.bv.below (gr_alloc (gr_refl wr) o)))
    have HSN := Lib.hid (carry_snoc D.blocks (show D.pending[k]? = some p from k3))
    obtain ⟨A5, n5, c5, hu5⟩ : ∃ A n c, u = .slice A n c := by
     obtain ⟨A, n, c, m, e, _⟩ := k5.bv.read
     exact ⟨A, n, c, e⟩
    subst hu5
    obtain ⟨uo, co, _, _⟩ := HDK.out.at_ k4
    have zo : wr.frozen? ⟨dr, p.1, none⟩ = false := by
     rcases HDK.out.dur.2 with ⟨e, _⟩ | ⟨q', cap', cur', e, _, hq', _⟩
     ·cases e
     ·cases e; simp [World.frozen?, hq']
    have c1 := HDK.out.db.c1
    have hgl := HDK.out.db.lt
    have hdl := World.block_lt_of_cell? wr _ co
    dsimp only at hdl
    have hFd : F dr := (HFF.out dr).2 (.inr (.inl rfl))
    have hcl : ({ opS D with blocks := carry D.blocks (D.pending.take k) } : DiskS).blocks.length = (carry D.blocks (D.pending.take k)).length := rfl
    rw [hcl] at c1
    clear hcl k3 k4 k5 HDK e
    generalize (carry D.blocks (D.pending.take k)).length = nb at *
    obtain ⟨p1, p2⟩ := p
    dsimp only at k1 k4' co zo HLAY HSN
    have x1 : (wr.alloc (.cells #[.int .i64 (p1 : Int), .slice A5 n5 c5] 186)).cell? ⟨g, 1, none⟩ = some (.slice (some ⟨dr, 0, none⟩) nb dc) := keep_of_below (gr_alloc (gr_refl wr) _) c1
    have x2 : (wr.alloc (.cells #[.int .i64 (p1 : Int), .slice A5 n5 c5] 186)).cell? ⟨dr, p1, none⟩ = some uo := keep_of_below (gr_alloc (gr_refl wr) _) co
    have x3 : (wr.alloc (.cells #[.int .i64 (p1 : Int), .slice A5 n5 c5] 186)).frozen? ⟨dr, p1, none⟩ = false := ((gr_alloc (gr_refl wr) _).frozen (p := ⟨dr, p1, none⟩) hdl).trans zo
    have y1 := cell_new_at wr (.int .i64 (p1 : Int)) (.slice A5 n5 c5) 186
    have HNEW : Hid (DK ((wr.alloc (.cells #[.int .i64 (p1 : Int), .slice A5 n5 c5] 186)).setCell ⟨dr, p1, none⟩ (.slice A5 n5 c5)) ok base g dr dc (.slice (some ⟨q, 0, none⟩) np cp) (dvs.set p1 (.slice A5 n5 c5)) pvs { opS D with blocks := carry D.blocks (D.pending.take (k + 1)) }) := Lib.hid (by rw [HSN.out]; exact HLAY.out _)
    have ho' : Off F w ((wr.alloc (.cells #[.int .i64 (p1 : Int), .slice A5 n5 c5] 186)).setCell ⟨dr, p1, none⟩ (.slice A5 n5 c5)) := (ho.alloc _).setCell _ hFd
    clear HLAY HSN
    go_wp2_with fail
    generalize wr.alloc (.cells #[.int .i64 (p1 : Int), .slice A5 n5 c5] 186) = wa at *
    obtain ⟨y1, y2⟩ := y1
    go_region
    all_goals
     go_wp2_with fail
     go_roundw
     case rel => exact ⟨k + 1, _, by omega, by go_num, Lib.hid (HNEW.out.below ⟨rfl, rfl, rfl, Nat.le_refl _, fun _ _ => rfl⟩), ho'.drewN 1⟩
     case measure => simp [intOf]; omega
   ·obtain rfl : k = np := by omega
    have hz2 := HDK.out.db.frozen 2
    have c2 := HDK.out.db.c2
    have HFG := Lib.hid HDK.out.forget
    have HT : Hid (D.pending.take k = D.pending) := Lib.hid (List.take_of_length_le (by rw [← HN.out, HNP.out]; omega))
    have hFg : F g := (HFF.out g).2 (.inl rfl)
    clear HDK
    go_wp2_with fail
    go_ret
    refine ⟨ret_i HOP.out.symm, ho.setCell _ hFg, foot g dr (.slice none 0 0), ⟨dr, dc, .slice none 0 0, dvs, [], ?_, fun k => Iff.rfl⟩, fun k hk => ?_⟩
    ·have := HFG.out.mono (ok' := fun k => ok k ∨ w.heap.size ≤ k) (fun k _ h => .inl h)
     rw [HT.out] at this
     rw [HD.out]
     exact this
    ·rcases hk with rfl | rfl | hk
     ·exact .inl hFg
     ·exact .inl ((HFF.out _).2 (.inr (.inl rfl)))
     ·simp [Value.ownBlock] at hk
 ·have HD : Hid (syncD D = opS D) := Lib.hid (by unfold syncD; rw [if_pos hop])
  have t1 : (opC D != 0) = true := by rw [bne_iff_ne]; exact hop
  have HO2 : Hid (Calls Tryz.prog 143 #[.pointer (some ⟨g, 0, none⟩)] w fun e w' => e = .returned (.int .i64 (opC D)) ∧ DPost w ok base g F (opS D) w') := Lib.hid (HO.out.mono (by
   rintro e w' ⟨rfl, hdb, ho⟩
   exact ⟨rfl, ho.mono (fun k _ e => (hF k).2 (.inl e)), F, ⟨dr, dc, pv, dvs, pvs, (hd.oper ho hdb).mono (fun k _ h => .inl h), hF⟩, fun k h => .inl h⟩))
  clear hd hF HO hop HFF
  generalize opC D = oc at *
  go_enter Tryz.func118, Tryz.ntmps118
  go_wp2_with fail
  refine HM.out.mono ?_
  rintro e w' ⟨rfl, rfl⟩
  go_wp2_with fail
  refine HO2.out.mono ?_
  rintro e w1 ⟨rfl, hp⟩
  go_wp2_with fail
  go_ret
  exact ⟨rfl, by rw [HD.out]; exact hp⟩
end Go.Proofs.YtnkeclpgpiogoaaGreat

/-! DkF -/
namespace Go.Proofs.YtnkeclpgpiogoaaGreat
open Go.RowKit
def LR (w : World) (A : Option Addr) (n : Nat) (l : List Bool) : Prop := Rd w 1 A n (l.map Value.bool)
set_option maxRecDepth 100000 in
theorem LR.len {w : World} {A : Option Addr} {n : Nat} {l : List Bool} (h : LR w A n l) : l.length = n := by have := h.1; simpa using this
set_option maxRecDepth 100000 in
theorem LR.at_ {w : World} {A : Option Addr} {n : Nat} {l : List Bool} (h : LR w A n l) {k : Nat} (hk : k < n) : ∃ g o, A = some ⟨g, o, none⟩ ∧ w.cell? ⟨g, o + k, none⟩ = some (.bool (l.getD k false)) := by
 obtain ⟨g, o, e, hc⟩ := Rd.plain h (by omega) (by omega)
 have hl : k < l.length := by rw [h.len]; exact hk
 refine ⟨g, o, e, hc k _ ?_⟩
 simp [List.getElem?_eq_getElem hl, List.getD]
end Go.Proofs.YtnkeclpgpiogoaaGreat

/-! DkG -/
namespace Go.Proofs.YtnkeclpgpiogoaaGreat
open Go.RowKit
set_option maxRecDepth 100000 in
theorem own_rd {w : World} {base : Nat} {e : TypeId} {size n : Nat} {A : Option Addr} {c : Nat} {xs : List Value} (h : w.ownsRow base e size (.slice A n c) n xs) : Rd w size A n xs := by
 refine ⟨h.1, fun h0 => ?_⟩
 rcases h.2 with ⟨e, _⟩ | ⟨g, cap, cur, e, _⟩
 ·injection e with e1 e2; omega
 ·injection e with e1 e2 e3
  subst e1 e3
  exact ⟨_, rfl, h.cells (g := g) rfl⟩
set_option maxRecDepth 100000 in
theorem own_low {w : World} {b base : Nat} {e : TypeId} {size n : Nat} {v : Value} {xs : List Value} (h : w.ownsRow base e size v n xs) (hb : b ≤ base) : w.ownsRow b e size v n xs := by
 refine ⟨h.1, ?_⟩
 rcases h.2 with h | ⟨g, cap, cur, rfl, hg, r⟩
 ·exact .inl h
 ·exact .inr ⟨g, cap, cur, rfl, by omega, r⟩
end Go.Proofs.YtnkeclpgpiogoaaGreat

/-! Rs -/
namespace Go.Proofs.YtnkeclpgpiogoaaGreat
open Go.RowKit
def goesOrRet {σ : Type} (B : Nat) (Kp : World → World → Prop) (I : σ → World → Prop) (Ix : World → Prop) (s : σ) (W : World) : Exit → Act → World → Prop
 | .normal, _, W' => KeepsFrom B W W' ∧ Kp W W' ∧ I s W'
 | .ret, _, W' => KeepsFrom B W W' ∧ Ix W'
 | _, _, _ => False
set_option maxRecDepth 100000 in
theorem rangeFunc_stops {F : Fence} {n : Nat} {P : Program} {g : Operand} {ps : Array Tmp} {assign body : Code} {Q : Exit → Act → World → Prop} {a : Act} {w : World}
  (hro : F.round = none) (h1 : 1 ≤ n) {gf : Nat} {lb : Array Value} (hg : a.eval g = .func (.func gf) #[] lb) (hFg : F.fn gf) (eg : ∀ args w, (callFunc gf args).run P w = .ok (.enter gf args) w)
  {α : Type} {encs : α → Array Value} (xs : List α) {Kp : World → World → Prop}
  (hKt : ∀ {A B C : World}, Kp A B → Kp B C → Kp A C) (hput : ∀ (W : World) (l : Nat) (o o' : Obj), w.heap.size ≤ l → W.heap[l]? = some o → o.isCells = false → Kp W (W.putObj l o'))
  (hseq : ∀ (l : Nat) (J : Nat → World → Prop) (Jx : World → Prop) (W : World), Below w.heap.size w W → (∀ k W m, J k W → J k (World.drewN W m)) → (∀ W m, Jx W → Jx (World.drewN W m)) →
   (∀ k x W1, xs[k]? = some x → J k W1 → YieldAt F (n - 1 - 1) P l (encs x) W1 fun e W' => (e = .returned (.bool true) ∧ J (k + 1) W' ∧ Kp W1 W') ∨ (e = .returned (.bool false) ∧ Jx W')) →
   J 0 W → CallsIn F (n - 1) P gf (#[.func (.yield l) #[] #[]] ++ lb) W fun e W' => (∃ v, e = .returned v) ∧ (J xs.length W' ∨ Jx W'))
  (hps : ∀ x, (encs x).size = ps.size)
  (I : Nat → World → Prop) (hI : OwnFrom w.heap.size I) (Ix : World → Prop) (hIx : OwnFrom w.heap.size (fun (_ : Unit) W => Ix W)) (h0 : I 0 w) (Ax : Nat → Act → World → Prop) (hAx : ∀ a', OwnFrom w.heap.size (fun k W => Ax k a' W))
  (hassign : ∀ (l k : Nat) (x : α) (W : World) (K : Act → World → Prop), xs[k]? = some x → I k W → (∀ a' W', KeepsFrom w.heap.size W W' → Kp W W' → I k W' → Ax k a' W' → K a' W') →
   assign.wpIn (F.inRound l) (n - 1 - 1) P (Exit.then K (fun _ _ _ => False)) { tmps := (ps.zip (encs x)).foldl (fun t (p, v) => t.setIfInBounds p v) a.tmps, defers := [] } W)
  (hbody : ∀ (l k : Nat) (x : α) (a' : Act) (W : World), xs[k]? = some x → I k W → Ax k a' W → body.wpIn (F.inRound l) (n - 1 - 1) P (goesOrRet w.heap.size Kp I Ix (k + 1) W) a' W)
  (hdone : ∀ (D : Nat) (W : World), w.heap.size ≤ D → I xs.length W → W.heap[D]? = some (.deferred (some [])) → Q .normal { a with defers := { target := .collected D, args := #[] } :: a.defers } W)
  (hstop : ∀ (D : Nat) (W : World), w.heap.size ≤ D → Ix W → W.heap[D]? = some (.deferred (some [])) → Code.ret.wpIn F n P Q { a with defers := { target := .collected D, args := #[] } :: a.defers } W) :
  (Code.rangeFunc g ps assign body).wpIn F n P Q a w := by
 refine wpIn_rangeFunc ?_
 intro fn hfn
 rw [hro]
 obtain ⟨rec, hrec⟩ : ∃ rec : LoopState → Option Code → Loop, rec = fun st pe => { state := st, pending := pe, fn, tmps := a.tmps, params := ps, assign, body, defers := w.heap.size } := ⟨_, rfl⟩
 obtain ⟨W1, hW1⟩ : ∃ W1, (w.alloc (.deferred (some []))).alloc (.loop (rec .ready none)) = W1 := ⟨_, rfl⟩
 have hL1 : W1.heap[w.heap.size + 1]? = some (.loop (rec .ready none)) := by
  rw [← hW1]; have := World.alloc_heap_new (w.alloc (.deferred (some []))) (.loop (rec .ready none)); rwa [World.size_alloc] at this
 have hK1 : W1.heap[w.heap.size]? = some (.deferred (some [])) := by
  rw [← hW1]; exact (Below.heap_alloc _ _ _ (by simp)).trans (World.alloc_heap_new w _)
 have hI1 : I 0 W1 := by rw [← hW1]; exact hI.alloc _ (hI.alloc _ h0)
 have hb1 : Below w.heap.size w W1 := by
  rw [← hW1]; exact ((Below.refl _ w).alloc (Nat.le_refl _) _).alloc (by simp) _
 refine ⟨w.heap.size + 1, [{ target := .collected w.heap.size, args := #[] }], W1, { target := .fn (.func gf) lb, args := #[.func (.yield (w.heap.size + 1)) #[] #[]] }, W1, gf,
  #[.func (.yield (w.heap.size + 1)) #[] #[]] ++ lb, W1, ?_, ?_, ?_, ?_, fun _ => h1, ?_⟩
 ·rw [← hW1, hrec]; exact run_enterLoop_outer _ _ _ _ _
 ·simp only [resolve, hg]
  simp [go_sem]
 ·intro f' hf'; simp [Target.leads] at hf'; subst hf'; exact hFg
 ·simp [invoke, go_sem, eg]
 ·refine (hseq (w.heap.size + 1)
   (fun k W => I k W ∧ W.heap[w.heap.size + 1]? = some (.loop (rec .ready none)) ∧ W.heap[w.heap.size]? = some (.deferred (some [])))
   (fun W => Ix W ∧ W.heap[w.heap.size + 1]? = some (.loop (rec .done (some .ret))) ∧ W.heap[w.heap.size]? = some (.deferred (some [])))
   W1 hb1 (fun k W _ ⟨h1, h2, h3⟩ => ⟨hI k W _ none h1 ⟨rfl, rfl, rfl, Nat.le_refl _, fun _ _ _ => rfl⟩ (fun r e => by cases e), h2, h3⟩)
   (fun W _ ⟨h1, h2, h3⟩ => ⟨hIx () W _ none h1 ⟨rfl, rfl, rfl, Nat.le_refl _, fun _ _ _ => rfl⟩ (fun r e => by cases e), h2, h3⟩) ?_ ⟨hI1, hL1, hK1⟩).mono ?_
  ·rintro k x W hx ⟨hi, hl, hk⟩
   have hy := run_yield (P := P) (args := encs x) hl (by rw [hrec]; exact hps x)
   rw [hrec] at hy
   refine ⟨fn, _, assign, body, hy, roundIn_of_wpIn hfn (hassign _ k x W _ hx hi ?_)⟩
   intro a' W' hkW hkp hi' ha'
   have hl' := hkW.same _ _ (by omega) hl rfl
   have hk' := hkW.same _ _ (Nat.le_refl _) hk rfl
   have hlt : w.heap.size + 1 < W'.heap.size := (Array.getElem?_eq_some_iff.1 hl').1
   refine ⟨_, run_beginRound hl' (by rw [hrec]), ?_⟩
   have hl2 : (W'.putObj (w.heap.size + 1) (.loop { rec .ready none with state := .busy })).heap[w.heap.size + 1]? = some (.loop { rec .ready none with state := .busy }) := World.putObj_heap_same hlt
   have hk2 : (W'.putObj (w.heap.size + 1) (.loop { rec .ready none with state := .busy })).heap[w.heap.size]? = some (.deferred (some [])) := (World.putObj_heap_other (by omega)).trans hk'
   have hw2 : Kp W' (W'.putObj (w.heap.size + 1) (.loop { rec .ready none with state := .busy })) := hput _ _ _ _ (by omega) hl' rfl
   refine wpIn_mono (hbody _ k x a' _ hx (hI.putObj _ hi' (by omega) hl' rfl) ((hAx a').putObj _ ha' (by omega) hl' rfl)) ?_
   rintro e a3 W3 hp
   cases e with
   | normal =>
    obtain ⟨hk3, hkp3, hi3⟩ := hp
    have hl3 := hk3.same _ _ (by omega) hl2 rfl
    have hr := run_endRound (P := P) none hl3
    rw [hrec] at hr
    have hl4 := World.putObj_heap_same (o := .loop (rec .ready none)) (Array.getElem?_eq_some_iff.1 hl3).1
    have hk4 : (W3.putObj (w.heap.size + 1) (.loop (rec .ready none))).heap[w.heap.size]? = some (.deferred (some [])) := (World.putObj_heap_other (by omega)).trans (hk3.same _ _ (Nat.le_refl _) hk2 rfl)
    have hi4 := hI.putObj (.loop (rec .ready none)) hi3 (by omega) hl3 rfl
    have hb4 := hput W3 _ _ (.loop (rec .ready none)) (by omega) hl3 rfl
    refine ⟨_, _, hr, .inl ⟨rfl, ?_, hKt (hKt hkp (hKt hw2 hkp3)) ?_⟩⟩
    ·rw [hrec] at hl4 hk4 hi4 ⊢
     exact ⟨hi4, hl4, hk4⟩
    ·rw [hrec] at hb4
     exact hb4
   | ret =>
    obtain ⟨hk3, hi3⟩ := hp
    have hl3 := hk3.same _ _ (by omega) hl2 rfl
    have hr := run_endRound (P := P) (some .ret) hl3
    rw [hrec] at hr
    have hl4 := World.putObj_heap_same (o := .loop (rec .done (some .ret))) (Array.getElem?_eq_some_iff.1 hl3).1
    have hk4 : (W3.putObj (w.heap.size + 1) (.loop (rec .done (some .ret)))).heap[w.heap.size]? = some (.deferred (some [])) := (World.putObj_heap_other (by omega)).trans (hk3.same _ _ (Nat.le_refl _) hk2 rfl)
    have hi4 := hIx.putObj (s := ()) (.loop (rec .done (some .ret))) hi3 (by omega) hl3 rfl
    refine ⟨_, _, hr, .inr ⟨rfl, ?_⟩⟩
    rw [hrec] at hl4 hk4 hi4 ⊢
    exact ⟨hi4, hl4, hk4⟩
   | _ => exact hp.elim
  ·rintro e W2 ⟨⟨v, rfl⟩, (⟨hi, hl, hk⟩ | ⟨hi, hl, hk⟩)⟩
   ·exact ⟨none, _, by have := run_endLoop (P := P) hl (by rw [hrec]; simp); rw [hrec] at this; exact this, hdone _ _ (Nat.le_refl _) (hI.putObj _ hi (by omega) hl rfl) ((World.putObj_heap_other (by omega)).trans hk)⟩
   ·exact ⟨some .ret, _, by have := run_endLoop (P := P) hl (by rw [hrec]; simp); rw [hrec] at this; exact this, hstop _ _ (Nat.le_refl _) (hIx.putObj (s := ()) _ hi (by omega) hl rfl) ((World.putObj_heap_other (by omega)).trans hk)⟩
end Go.Proofs.YtnkeclpgpiogoaaGreat

/-! DkH -/
namespace Go.Proofs.YtnkeclpgpiogoaaGreat
open Go.RowKit
attribute [local go_sem] Oper.semAt_some
def Kp1 (n₀ Bb : Nat) (W W' : World) : Prop := Below n₀ W W' ∧ (∀ o, W.heap[Bb]? = some o → W'.heap[Bb]? = some o)
set_option maxRecDepth 100000 in
theorem Kp1.trans {n₀ Bb : Nat} {A B C : World} (h : Kp1 n₀ Bb A B) (k : Kp1 n₀ Bb B C) : Kp1 n₀ Bb A C := ⟨h.1.trans k.1, fun o e => k.2 o (h.2 o e)⟩
def backL (n : Nat) : List Nat := (List.range n).reverse
set_option maxRecDepth 100000 in
theorem backL_len (n : Nat) : (backL n).length = n := by simp [backL]
set_option maxRecDepth 100000 in
theorem backL_at {n k : Nat} (h : k < n) : (backL n)[k]? = some (n - 1 - k) := by
 unfold backL
 rw [List.getElem?_reverse (by simpa using h), List.length_range, List.getElem?_range (by omega)]
def backV (pvs : List (Int × Value)) (x : Nat) : Array Value := #[.int .i64 (x : Int), .agg #[.int .i64 (pvs.getD x (0, .slice none 0 0)).1, (pvs.getD x (0, .slice none 0 0)).2]]
set_option maxRecDepth 100000 in
theorem Backward_any (A : Option Addr) (n c : Nat) (w : World) :
  Calls Tryz.prog 111 #[.slice A n c] w fun r w' => r = .returned (.func (.func 135) #[] #[.pointer (some ⟨w.heap.size, 0, none⟩)]) ∧ w' = w.alloc (.cells #[.slice A n c] 181) := by
 go_enter Tryz.func111, Tryz.ntmps111
 go_wp2_with fail
 go_ret
 exact ⟨by simp, rfl⟩
set_option maxRecDepth 100000 in
set_option maxHeartbeats 2000000 in
theorem back1_in (n : Nat) (l Bb : Nat) (w0 : World) (A : Option Addr) (np cp : Nat) (pvs : List (Int × Value)) (hr : Rd w0 2 A np (wrs pvs)) (hp : pvs.length = np) (hnp : np ≤ 1000000) (hone : ∀ q ∈ pvs, ∃ B m d, q.2 = .slice B m d)
  (J : Nat → World → Prop) (Jx : World → Prop) (_hJd : ∀ k W m, J k W → J k (World.drewN W m)) (_hJx : ∀ W m, Jx W → Jx (World.drewN W m))
  (hY : ∀ k x W1, (backL np)[k]? = some x → J k W1 → YieldAt Fence.wide (n - 1) Tryz.prog l (backV pvs x) W1 fun e W' => (e = .returned (.bool true) ∧ J (k + 1) W' ∧ Kp1 w0.heap.size Bb W1 W') ∨ (e = .returned (.bool false) ∧ Jx W'))
  (W : World) (hW : Below w0.heap.size w0 W) (hBb : Boxed W Bb 181 (.slice A np cp)) (h0 : J 0 W) :
  CallsIn Fence.wide n Tryz.prog 135 #[.func (.yield l) #[] #[], .pointer (some ⟨Bb, 0, none⟩)] W fun e W' => (∃ v, e = .returned v) ∧ (J np W' ∨ Jx W') := by
 have HY := Lib.hid hY
 have HP := Lib.hid hp
 have HONE := Lib.hid hone
 clear hY hp hone
 refine callsIn_of_wp Tryz.func135 rfl trivial ?_ rfl
 simp only [Tryz.ntmps135, List.size_toArray, List.length_cons, List.length_nil, Nat.reduceAdd, Nat.reduceSub, Array.replicate_succ, Array.replicate_zero, List.push_toArray, List.append_toArray, List.nil_append, List.cons_append]
 have hca := hBb.cell
 gi_wp2
 gi_loopw [3] (fun p wr => ∃ k : Nat, k ≤ np ∧ p = .int .i64 ((np : Int) - 1 - (k : Int)) ∧ Below w0.heap.size w0 wr ∧ Boxed wr Bb 181 (.slice A np cp) ∧ J k wr)
  (fun p _ => ((intOf p) + 1).toNat)
 case atStart => exact ⟨0, Nat.zero_le _, by simp, hW, hBb, h0⟩
 case round =>
  obtain ⟨k, hk, rfl, hB, hba, hJ⟩ := hrel
  by_cases hlt : k < np
  ·have hca' := hba.cell
   obtain ⟨x, hx⟩ : ∃ x, x = np - 1 - k := ⟨_, rfl⟩
   have hxe : (np : Int) - 1 - (k : Int) = (x : Int) := by omega
   have hxl : x < np := by omega
   have hbk : (backL np)[k]? = some x := by rw [backL_at hlt, hx]
   have hxp : x < pvs.length := by rw [HP.out]; exact hxl
   obtain ⟨g, o, rfl, hc⟩ := Rd.plain (hr.below hB) (by omega) (by omega)
   have hiu : pvs[x]? = some (pvs.getD x (0, .slice none 0 0)) := by simp [List.getD, List.getElem?_eq_getElem hxp]
   obtain ⟨w1, w2⟩ := wrs_at pvs x _ hiu
   have c1 := hc _ _ w1
   have c2 := hc _ _ w2
   obtain ⟨fn, tmps, assign, body, hy, hR⟩ := HY.out k x wr hbk hJ
   obtain ⟨Bq, mq, dq, eq⟩ := HONE.out _ (List.mem_of_getElem? hiu)
   unfold backV at hy
   generalize pvs.getD x (0, .slice none 0 0) = pq at *
   obtain ⟨pq1, pq2⟩ := pq
   dsimp only at c1 c2 hy eq
   subst eq
   rw [hxe]
   have c2' : wr.cell? ⟨g, o + x * 2 + 1, none⟩ = some (.slice Bq mq dq) := by rw [Nat.add_assoc]; exact c2
   clear hc w1 w2 hiu c2 hca
   have HX := Lib.hid hx
   have HXE := Lib.hid hxe
   clear hx hxe
   gi_wp2
   refine ⟨fun h => (by cases h), ?_⟩
   refine hR.mono ?_
   rintro e W3 (⟨rfl, hJ3, hk3⟩ | ⟨rfl, hjx⟩)
   ·gi_wp2
    go_roundw
    case rel => exact ⟨k + 1, by omega, by have h1 := HXE.out; simp; omega, hB.trans hk3.1, hk3.2 _ hba, hJ3⟩
    case measure => have h1 := HXE.out; first | (simp [intOf]; done) | (simp [intOf]; omega)
   ·gi_wp2
    trace_state
    refine bodyPost_ret (results_none rfl _ _ _) rfl ?_
    exact ⟨⟨_, rfl⟩, .inr hjx⟩
  ·obtain rfl : k = np := by omega
   have hneg : (k : Int) - 1 - (k : Int) = -1 := by omega
   rw [hneg]
   gi_wp2
   go_end0
   exact ⟨⟨_, rfl⟩, .inl hJ⟩
end Go.Proofs.YtnkeclpgpiogoaaGreat
