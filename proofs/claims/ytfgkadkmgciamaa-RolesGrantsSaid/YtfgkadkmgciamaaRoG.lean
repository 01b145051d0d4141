/-
  What Closure goes through; slices.Sorted(maps.Keys(..)).
-/
import Derived.Test.YtfgkadkmgciamaaRoF
import Derived.Test.YtfgkadkmgciamaaOfr
import Derived.Test.YtfgkadkmgciamaaSrt
import Derived.Test.YtfgkadkmgciamaaSrk
import Derived.Shelf.SortM.Plain
import Derived.Shelf.SortM.SortNone
namespace Go.Proofs.Ytfgkadkmgciamaa
open Go Go.RowKit Go.Maps Go.WideMaps Go.Sort Go.Shelf

theorem nodup_le {α : Type} [DecidableEq α] : ∀ (a b : List α), a.Nodup → (∀ x ∈ a, x ∈ b) → a.length ≤ b.length
  | [], _, _, _ => Nat.zero_le _
  | x :: a, b, hn, hs => by
    obtain ⟨h1, h2⟩ := List.nodup_cons.1 hn
    have hx : x ∈ b := hs x (List.mem_cons_self ..)
    have := nodup_le a (b.erase x) h2 fun y hy => (List.mem_erase_of_ne (fun e => h1 (by rw [← e]; exact hy))).2 (hs y (List.mem_cons_of_mem _ hy))
    rw [List.length_erase_of_mem hx] at this
    have := List.length_pos_of_mem hx
    simp only [List.length_cons]
    omega

/-- What Closure has met, in the order in which it met it; of p of them it has looked at what they have. -/
structure CI (l : List Mb) (role : Str) (order : List Str) (p : Nat) : Prop where
  nd : order.Nodup
  h0 : role ∈ order
  rc : ∀ x ∈ order, Reach l role x
  sub : ∀ x ∈ order, x = role ∨ ∃ m ∈ l, m.2 = x
  cl : ∀ m ∈ l, m.1 ∈ order.take p → m.2 ∈ order
  le : p ≤ order.length
section
variable {l : List Mb} {role x : Str} {order : List Str} {p : Nat}
theorem CI.start (l : List Mb) (role : Str) : CI l role [role] 0 :=
  ⟨by simp, by simp, fun x hx => by rw [List.mem_singleton.1 hx]; exact .refl, fun x hx => .inl (List.mem_singleton.1 hx), fun m _ h => by simp at h, Nat.zero_le _⟩
theorem CI.len (h : CI l role order p) : order.length ≤ l.length + 1 := by
  have := nodup_le order (role :: l.map (·.2)) h.nd fun x hx => by
    rcases h.sub x hx with rfl | ⟨m, hm, rfl⟩
    · exact List.mem_cons_self ..
    · exact List.mem_cons_of_mem _ (List.mem_map.2 ⟨m, hm, rfl⟩)
  simpa using this
theorem CI.push (h : CI l role order p) {m : Mb} (hx : order[p]? = some m.1) (hm : m ∈ l) (hn : m.2 ∉ order) : CI l role (order ++ [m.2]) p := by
  have hmx := List.mem_of_getElem? hx
  have hp := (List.getElem?_eq_some_iff.1 hx).1
  refine ⟨List.nodup_append.2 ⟨h.nd, by simp, fun a ha b hb => by rw [List.mem_singleton.1 hb]; rintro rfl; exact hn ha⟩, List.mem_append.2 (.inl h.h0), fun y hy => ?_, fun y hy => ?_, fun m' hm' hy => ?_, by rw [List.length_append]; omega⟩
  · rcases List.mem_append.1 hy with hy | hy
    · exact h.rc y hy
    · rw [List.mem_singleton.1 hy]
      exact .step (h.rc _ hmx) hm
  · rcases List.mem_append.1 hy with hy | hy
    · exact h.sub y hy
    · rw [List.mem_singleton.1 hy]
      exact .inr ⟨m, hm, rfl⟩
  · rw [List.take_append_of_le_length (by omega)] at hy
    exact List.mem_append.2 (.inl (h.cl m' hm' hy))
theorem CI.next (h : CI l role order p) (hx : order[p]? = some x) (ha : ∀ m ∈ l, m.1 = x → m.2 ∈ order) : CI l role order (p + 1) := by
  have hp := (List.getElem?_eq_some_iff.1 hx).1
  refine ⟨h.nd, h.h0, h.rc, h.sub, fun m hm hy => ?_, hp⟩
  rw [List.take_add_one, hx] at hy
  rcases List.mem_append.1 hy with hy | hy
  · exact h.cl m hm hy
  · exact ha m hm (by simpa using hy)
theorem CI.all (h : CI l role order order.length) : ∀ y, y ∈ order ↔ Reach l role y := fun y => ⟨h.rc y, fun hr => hr.sub (S := fun z => z ∈ order) h.h0 fun m hm hy => h.cl m hm (by rw [List.take_length]; exact hy)⟩
theorem CI.clos (h : CI l role order order.length) {ss : List Str} (hp : ss.Perm order) : Clos l role (ss.mergeSort fun x y => decide (x ≤ y)) := by
  have tr : ∀ a b c : List UInt8, decide (a ≤ b) = true → decide (b ≤ c) = true → decide (a ≤ c) = true := fun a b c h1 h2 => by simp only [decide_eq_true_eq] at *; exact List.le_trans h1 h2
  have tot : ∀ a b : List UInt8, (decide (a ≤ b) || decide (b ≤ a)) = true := fun a b => by simp only [Bool.or_eq_true, decide_eq_true_eq]; exact List.le_total a b
  have hpm := List.mergeSort_perm ss fun x y => decide (x ≤ y)
  refine ⟨Rise.of_sorted ((List.pairwise_mergeSort tr tot ss).imp fun h => of_decide_eq_true h) ((hpm.trans hp).nodup_iff.2 h.nd), fun x => ?_⟩
  rw [(hpm.trans hp).mem_iff]
  exact h.all x
end

theorem Keys_any (mb : Option Nat) (w : World) : Calls Try.prog 53 #[.map mb] w fun e w' => e = .returned (.func (.func 61) #[] #[.pointer (some ⟨w.heap.size, 0, none⟩)]) ∧ w' = w.alloc (.cells #[.map mb] 65) :=
  (callsIn_wide (n := 5)).1 (AnyZ.keys_in Try.keysA Fence.wide 5 trivial rfl mb w)

theorem sortsA (m : Nat) : AnyZ.SortsIn Try.prog Try.sortedA_ren Fence.wide m :=
  ⟨fun blk off cap ss W hH hblk hsz => callsIn_wide.2 (Try.slices_Sort_string blk off cap ss W hH hblk hsz), fun p cap W => callsIn_wide.2 (Try.slices_Sort_string_none p cap W)⟩

set_option maxHeartbeats 1000000 in
/-- A map's keys, sorted. -/
theorem SortedKeys_any (b : Nat) (ks : List Str) (w : World) (h : MS w b ks) (hn : ks.length ≤ 4398046511104) :
    Calls Try.prog 52 #[.func (.func 61) #[] #[.pointer (some ⟨w.heap.size, 0, none⟩)]] (w.alloc (.cells #[.map (some b)] 65)) fun e w' => ∃ (v : Value) (ss : List Str), e = .returned v ∧ ss.Perm ks ∧ EO ES 1 9 w' w.heap.size v (ss.mergeSort fun x y => decide (x ≤ y)) ∧ Below w.heap.size w w' := by
  obtain ⟨D0, hown, hk, hz, hnd, hle⟩ := h
  have hbl := hown.lt
  have hmax : Maps.size D0 ≤ maxLen := by rw [hz]; simp only [maxLen]; omega
  have hbytes : Maps.size D0 * 16 ≤ 140737488355328 := by rw [hz]; omega
  have hseq : SeqGives Fence.wide 2 Try.prog 61 #[.pointer (some ⟨w.heap.size, 0, none⟩)] encStr (fun ss => ss.Perm (strKeys D0)) (Maps.size D0) (w.alloc (.cells #[.map (some b)] 65)) :=
    AnyZ.keys_gives (ρ := Try.keysA_ren) { Try.keysA with } Fence.wide _ trivial rfl (by omega) w.heap.size b _ D0 _ (by simp) (by simp) (by
      obtain ⟨es, clock, hb, Ft, hs, hD⟩ := hown
      exact ⟨es, clock, (Below.heap_alloc _ _ b hbl).trans hb, Ft, hs, hD⟩)
  have cS := AnyZ.sorted_in Try.sortedA Fence.wide 5 trivial trivial trivial trivial rfl (by omega) (sortsA _) (enters_of Try.func60 (by kernel_rfl) rfl) 61 #[.pointer (some ⟨w.heap.size, 0, none⟩)] trivial (enters_of Try.func61 (by kernel_rfl) rfl) _ _ hmax hbytes _ hseq
  refine ((callsIn_wide (n := 5)).1 cS).mono ?_
  rintro e w' ⟨v, ss, rfl, hS, hrow, hnil, hb⟩
  have hpk : (strKeys D0).Perm ks := by
    obtain ⟨es, rfl, hes⟩ := hown.keysOf
    refine ((perm_strKeys ?_ ?_ hnd ?_)).symm
    · obtain ⟨es', e2, ht⟩ := hown.tidy kStr
      cases e2
      exact ht
    · intro p hp
      obtain ⟨key, hkey⟩ := hes p hp
      obtain ⟨x, _, hx, _⟩ := Maps.keyOf_str Try.underlying9 hkey
      exact ⟨x, hx⟩
    · intro x
      rw [hk x, List.contains_iff_mem]
  refine ⟨v, ss, rfl, hS.trans hpk, ?_, ⟨hb.os, hb.tape, hb.output, Nat.le_trans (by simp) hb.size, fun k hk' => (hb.block k (by simp; omega)).trans (Below.heap_alloc _ _ k hk')⟩⟩
  unfold EO
  rw [List.length_mergeSort]
  have e : ∀ l : List Str, l.flatMap ES = l.map encStr := fun l => by
    induction l with
    | nil => rfl
    | cons x l ih => rw [List.flatMap_cons, ih]; rfl
  rw [e]
  exact own_lower hrow (by simp)

end Go.Proofs.Ytfgkadkmgciamaa
