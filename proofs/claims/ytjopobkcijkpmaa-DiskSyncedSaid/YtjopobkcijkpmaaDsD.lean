/-
  Appending to a row of one's own at any offset: where the new one lies; the step inside a region that draws.
-/
import Derived.Test.YtjopobkcijkpmaaDsC
namespace Go.Proofs.Ytjopobkcijkpmaa
open Go.RowKit

section
variable {P : Program} (w : World)
theorem run_append_ORs (base : Nat) (t ty e : TypeId) (i : TypeInfo) (z : Value) (bytes : Nat) (ht : P.underlying t = some (.slice e)) (hi : P.info? e = some i) (hz : i.zero = some z)
    (hsize : i.size = 1) (hby : i.bytes = bytes) (hzs : z.cells.size = 1)
    (ad0 : Addr) (n cap0 : Nat) (xs : List Value) (hown : OR w base e (.slice (some ad0) n cap0) n xs)
    (a : Addr) (m c : Nat) (news : List Value) (hl : news.length = m) (hnews : ∀ j u, news[j]? = some u → w.cell? (a.add j) = some u) (h1 : ∀ u ∈ news, u.oneCell' = true)
    (h63 : n + m ≤ maxLen) (hbytes : (n + m) * bytes ≤ 140737488355328) (hbase : base ≤ w.heap.size) :
    ∃ v' w', (Builtin.append_ #[t, t] ty #[.slice (some ad0) n cap0, .slice (some a) m c]).run P w = .ok v' w' ∧ OR w' base e v' (n + m) (xs ++ news) ∧ w.grownBy w' (some ad0.block) ∧ (v' = .slice (some ad0) (n + m) cap0 ∨ (v'.ownBlock = some w.heap.size ∧ Below w.heap.size w w')) := by
  rcases hown.2 with ⟨e0, _⟩ | ⟨g, off, cap, cur, e0, hbg, hg, hnc, hcm, hcs, htake⟩
  · cases e0
  · cases e0
    by_cases hroom : n + m ≤ cap0
    · have hr := run_append_room_off (P := P) w t ty e i ht hi hsize g off n cap0 cur hg a m c news hl hnews h1 hroom (by omega)
      refine ⟨_, _, hr, ⟨by rw [List.length_append, hown.1, hl], .inr ⟨g, off, cap0, _, rfl, hbg, setRow_heap w g cur _ e _ hg, hroom, hcm, ?_, ?_⟩⟩, ⟨rfl, rfl, rfl, by simp, fun k _ hk => setRow_other w g k _ (fun e => hk (by rw [e]))⟩, .inl rfl⟩
      · simp only [List.size_toArray, List.length_append, List.length_take, List.length_drop, Array.length_toList]
        omega
      · have hcl : cur.toList.length = cur.size := Array.length_toList
        have hd : (cur.toList.take (off + n)).drop off = xs := by rw [← htake, List.drop_take]; congr 1; omega
        show (List.drop off (cur.toList.take (off + n) ++ news ++ cur.toList.drop (off + n + news.length))).take (n + m) = xs ++ news
        rw [List.append_assoc, List.drop_append_of_le_length (by rw [List.length_take]; omega), hd, ← List.append_assoc, List.take_append_of_le_length (by rw [List.length_append, hown.1, hl]; omega), List.take_of_length_le (by rw [List.length_append, hown.1, hl]; omega)]
    · have holds : ∀ j u, xs[j]? = some u → w.cell? ((⟨g, off, none⟩ : Addr).add j) = some u := fun j u hu => by
        rw [Addr.add_lit]
        exact hown.cells rfl j u hu
      have hsmall : n + m ≤ 9223372036854775807 := by simp only [maxLen] at h63; omega
      subst hby
      have hr := run_append_grow (P := P) w t ty e i z ht hi hz ⟨g, off, none⟩ n cap0 xs (by rw [hown.1, hsize]; omega) holds a m c news (by rw [hl, hsize]; omega) hnews (by omega) (by omega) (growslice_fits (by omega) hbytes)
      have hge := grownCap_ge w (n + m) cap0 e
      have hcm' : grownCap w (n + m) cap0 e ≤ maxLen := grownCap_le_maxLen w (n + m) cap0 e h63
      refine ⟨_, _, hr, ⟨by rw [List.length_append, hown.1, hl], .inr ⟨w.heap.size, 0, _, _, rfl, hbase, heap_alloc_new w.drew _, hge, hcm', ?_, ?_⟩⟩, ⟨rfl, rfl, rfl, by simp, fun k hk _ => heap_alloc_old (w := w.drew) _ hk⟩, .inr ⟨rfl, ⟨rfl, rfl, rfl, by simp, fun k hk => heap_alloc_old (w := w.drew) _ hk⟩⟩⟩
      · have hxl := hown.1
        simp only [Array.size_append, List.size_toArray, size_zeroCells, hzs, hl]
        omega
      · have hxl := hown.1
        rw [List.drop_zero]
        simp only [Array.toList_append]
        rw [List.take_append_of_le_length (by simp; omega), List.take_of_length_le (by simp; omega)]

theorem wp_append_ORs {o : Oper} {a : Act} {K : Act → World → Prop} {Q : Exit → Act → World → Prop} (s x : Operand) (t : TypeId)
    (ho : o.op = .call { callee := .builtin .append, args := #[s, x], argTypes := #[t, t] })
    (base : Nat) (e : TypeId) (i : TypeInfo) (z : Value) (bytes : Nat) (ht : P.underlying t = some (.slice e)) (hi : P.info? e = some i) (hz : i.zero = some z)
    (hsize : i.size = 1) (hby : i.bytes = bytes) (hzs : z.cells.size = 1)
    (ad0 : Addr) (n cap0 : Nat) (xs : List Value) (hs : a.eval s = .slice (some ad0) n cap0) (hown : OR w base e (.slice (some ad0) n cap0) n xs)
    (ad : Addr) (m c : Nat) (news : List Value) (hx : a.eval x = .slice (some ad) m c) (hl : news.length = m) (hnews : ∀ j u, news[j]? = some u → w.cell? (ad.add j) = some u) (h1 : ∀ u ∈ news, u.oneCell' = true)
    (h63 : n + m ≤ maxLen) (hbytes : (n + m) * bytes ≤ 140737488355328) (hbase : base ≤ w.heap.size)
    (h : ∀ v' w', OR w' base e v' (n + m) (xs ++ news) → w.grownBy w' (some ad0.block) → (v' = .slice (some ad0) (n + m) cap0 ∨ (v'.ownBlock = some w.heap.size ∧ Below w.heap.size w w')) → K (a.put o.dst v') w') : Oper.wp P o a w K Q := by
  obtain ⟨v', w', hr, h2, h3, h4⟩ := run_append_ORs (P := P) w base t o.type e i z bytes ht hi hz hsize hby hzs ad0 n cap0 xs hown ad m c news hl hnews h1 h63 hbytes hbase
  unfold Oper.wp execOp
  simp only [ho, resolve, invoke, builtin, Sem.run_bind, Sem.run_pure, Result.andThen_ok, List.map_toArray, List.map_cons, List.map_nil, hs, hx, hr]
  exact h v' w' h2 h3 h4
theorem wpList_append_ORs {ops : Array Oper} {rest : List Oper} {o : Oper} {a : Act} {Q : Exit → Act → World → Prop} (hgd : o.guard = none) (s x : Operand) (t : TypeId)
    (ho : o.op = .call { callee := .builtin .append, args := #[s, x], argTypes := #[t, t] })
    (base : Nat) (e : TypeId) (i : TypeInfo) (z : Value) (bytes : Nat) (ht : P.underlying t = some (.slice e)) (hi : P.info? e = some i) (hz : i.zero = some z)
    (hsize : i.size = 1) (hby : i.bytes = bytes) (hzs : z.cells.size = 1)
    (ad0 : Addr) (n cap0 : Nat) (xs : List Value) (hs : a.eval s = .slice (some ad0) n cap0) (hown : OR w base e (.slice (some ad0) n cap0) n xs)
    (ad : Addr) (m c : Nat) (news : List Value) (hx : a.eval x = .slice (some ad) m c) (hl : news.length = m) (hnews : ∀ j u, news[j]? = some u → w.cell? (ad.add j) = some u) (h1 : ∀ u ∈ news, u.oneCell' = true)
    (h63 : n + m ≤ maxLen) (hbytes : (n + m) * bytes ≤ 140737488355328) (hbase : base ≤ w.heap.size)
    (h : ∀ v' w', OR w' base e v' (n + m) (xs ++ news) → w.grownBy w' (some ad0.block) → (v' = .slice (some ad0) (n + m) cap0 ∨ (v'.ownBlock = some w.heap.size ∧ Below w.heap.size w w')) → wpList P ops Q rest (a.put o.dst v') w') : wpList P ops Q (o :: rest) a w :=
  wpList_plain hgd fun _ hK => wp_append_ORs w s x t ho base e i z bytes ht hi hz hsize hby hzs ad0 n cap0 xs hs hown ad m c news hx hl hnews h1 h63 hbytes hbase fun v' w' h2 h3 h4 => hK _ _ (h v' w' h2 h3 h4)
theorem step_append_ORs {ops : Array Oper} {o : Oper} {a : Act} {K : Act → World → Prop} {Q : Exit → Act → World → Prop} {E : Prop} (hgd : o.guard = none) (s x : Operand) (t : TypeId)
    (ho : o.op = .call { callee := .builtin .append, args := #[s, x], argTypes := #[t, t] })
    (base : Nat) (e : TypeId) (i : TypeInfo) (z : Value) (bytes : Nat) (ht : P.underlying t = some (.slice e)) (hi : P.info? e = some i) (hz : i.zero = some z)
    (hsize : i.size = 1) (hby : i.bytes = bytes) (hzs : z.cells.size = 1)
    (ad0 : Addr) (n cap0 : Nat) (xs : List Value) (hs : a.eval s = .slice (some ad0) n cap0) (hown : OR w base e (.slice (some ad0) n cap0) n xs)
    (ad : Addr) (m c : Nat) (news : List Value) (hx : a.eval x = .slice (some ad) m c) (hl : news.length = m) (hnews : ∀ j u, news[j]? = some u → w.cell? (ad.add j) = some u) (h1 : ∀ u ∈ news, u.oneCell' = true)
    (h63 : n + m ≤ maxLen) (hbytes : (n + m) * bytes ≤ 140737488355328) (hbase : base ≤ w.heap.size)
    (h : ∀ v' w', OR w' base e v' (n + m) (xs ++ news) → w.grownBy w' (some ad0.block) → (v' = .slice (some ad0) (n + m) cap0 ∨ (v'.ownBlock = some w.heap.size ∧ Below w.heap.size w w')) → K (a.put o.dst v') w') :
    if Region.wanted o (yielded ops a.tmps) = true then Oper.wp P o a w K Q else E := by
  have hw : Region.wanted o (yielded ops a.tmps) = true := by simp [Region.wanted, hgd]
  rw [if_pos hw]
  exact wp_append_ORs w s x t ho base e i z bytes ht hi hz hsize hby hzs ad0 n cap0 xs hs hown ad m c news hx hl hnews h1 h63 hbytes hbase h
end

/-- A beginning of a row is one. -/
theorem OR.pre {w : World} {base n n' cap cap' : Nat} {e : TypeId} {ad : Addr} {xs ys : List Value} (h : OR w base e (.slice (some ad) n' cap') n' (xs ++ ys)) (hx : xs.length = n) (hn : n ≤ cap) (hc : cap ≤ cap') : OR w base e (.slice (some ad) n cap) n xs := by
  rcases h.2 with ⟨e0, _⟩ | ⟨g, off, cp, cur, e0, h2, h3, h4, h5, h6, h7⟩
  · cases e0
  · cases e0
    refine ⟨hx, .inr ⟨g, off, cap, cur, rfl, h2, h3, hn, by omega, by omega, ?_⟩⟩
    have hl := h.1
    rw [List.length_append] at hl
    have : (List.take n' (List.drop off cur.toList)).take n = xs := by rw [h7, List.take_append_of_le_length (by omega), List.take_of_length_le (by omega)]
    rw [List.take_take, Nat.min_eq_left (by omega)] at this
    exact this

end Go.Proofs.Ytjopobkcijkpmaa
