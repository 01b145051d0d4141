/-
  Plain laws of a table: what stays true through Begin, Commit, Abort.
-/
import Derived.Test.YtjopobkcijkpmaaSnK
namespace Go.Proofs.Ytjopobkcijkpmaa
open Go.RowKit

/-- A table that is as calls leave it. -/
structure WfT (T : TabS) : Prop where
  op : ∀ x ∈ T.opn, ∃ p, T.who x = some (2, p)
  lt : ∀ x ∈ T.opn, x < T.next
  nd : T.opn.Nodup
  la : 0 ≤ T.last
  cm : ∀ x p, T.who x = some (3, p) → p ≤ T.last
  nw : ∀ x, T.next ≤ x → T.who x = none
  fn : T.first ≤ T.next

theorem upd_same (f : Int → Option (Int × Int)) (x : Int) (q : Int × Int) : upd f x q x = some q := by unfold upd; simp
theorem upd_ne (f : Int → Option (Int × Int)) {x y : Int} (q : Int × Int) (h : y ≠ x) : upd f x q y = f y := by unfold upd; simp [h]

theorem WfT.new (n : Int) : WfT (newT n []) := by
  refine ⟨?_, ?_, ?_, ?_, ?_, ?_, ?_⟩ <;> simp [newT, deadW]
theorem WfT.ask {T : TabS} (h : WfT T) {x : Int} (hx : x ∈ T.opn) : askT T x = 0 := by
  obtain ⟨p, e⟩ := h.op x hx
  simp [askT, ofT, e]
theorem ask_who {T : TabS} {x : Int} (h : askT T x = 0) : ∃ p, T.who x = some (2, p) := by
  unfold askT ofT at h
  cases e : T.who x with
  | none =>
    rw [e] at h
    dsimp only at h
    by_cases hc : 1 ≤ x ∧ x < T.first
    · rw [if_pos hc] at h; simp at h
    · rw [if_neg hc] at h; simp at h
  | some q =>
    rw [e] at h
    obtain ⟨q1, q2⟩ := q
    dsimp only at h
    split at h
    · rename_i h'
      subst h'
      exact ⟨q2, rfl⟩
    · cases h
theorem WfT.beg {T : TabS} (h : WfT T) : WfT (begT T) := by
  unfold begT
  split
  · exact h
  · refine ⟨?_, ?_, ?_, h.la, ?_, ?_, ?_⟩
    · intro x hx
      dsimp only at hx ⊢
      rcases List.mem_append.1 hx with hx | hx
      · rw [upd_ne _ _ (by have := h.lt x hx; omega)]
        exact h.op x hx
      · rw [List.mem_singleton.1 hx, upd_same]
        exact ⟨_, rfl⟩
    · intro x hx
      dsimp only at hx ⊢
      rcases List.mem_append.1 hx with hx | hx
      · have := h.lt x hx; omega
      · rw [List.mem_singleton.1 hx]; omega
    · dsimp only
      refine List.nodup_append.2 ⟨h.nd, by simp, ?_⟩
      intro a ha b hb
      rw [List.mem_singleton.1 hb]
      have := h.lt a ha
      omega
    · intro x p hx
      dsimp only at hx ⊢
      by_cases e : x = T.next
      · rw [e, upd_same] at hx; cases hx
      · rw [upd_ne _ _ e] at hx
        exact h.cm x p hx
    · intro x hx
      dsimp only at hx ⊢
      rw [upd_ne _ _ (by omega)]
      exact h.nw x (by omega)
    · have := h.fn
      dsimp only
      omega
theorem but_mem' {l : List Int} {tx x : Int} (h : x ∈ l) (hn : x ≠ tx) : x ∈ butL l tx := List.mem_filter.2 ⟨h, by simp [hn]⟩
theorem but_ne {l : List Int} {tx x : Int} (h : x ∈ butL l tx) : x ≠ tx := by
  have := (List.mem_filter.1 h).2
  simpa using this
theorem but_nd {l : List Int} (tx : Int) (h : l.Nodup) : (butL l tx).Nodup := h.filter _
theorem but_lt {l : List Int} {tx : Int} (h : tx ∈ l) : (butL l tx).length < l.length := by
  unfold butL
  exact List.length_filter_lt_length_iff_exists.2 ⟨tx, h, by simp⟩
theorem WfT.ended {T : TabS} (h : WfT T) (tx : Int) (q : Int × Int) (L : Int) (hL : T.last ≤ L) (hq : ∀ p, q = (3, p) → p ≤ L) (ha : askT T tx = 0) : WfT (endT { T with last := L } tx q) := by
  unfold endT
  obtain ⟨p0, e0⟩ := ask_who ha
  have hn : tx < T.next := by
    by_cases e : tx < T.next
    · exact e
    · rw [h.nw tx (by omega)] at e0; cases e0
  refine ⟨?_, ?_, but_nd tx h.nd, ?_, ?_, ?_, h.fn⟩
  · intro x hx
    dsimp only at hx ⊢
    rw [upd_ne _ _ (but_ne hx)]
    exact h.op x (but_mem hx)
  · intro x hx
    exact h.lt x (but_mem hx)
  · have := h.la
    dsimp only
    omega
  · intro x p hx
    dsimp only at hx ⊢
    by_cases e : x = tx
    · rw [e, upd_same] at hx
      exact hq p (Option.some.inj hx)
    · rw [upd_ne _ _ e] at hx
      exact Int.le_trans (h.cm x p hx) hL
  · intro x hx
    dsimp only at hx ⊢
    rw [upd_ne _ _ (by omega)]
    exact h.nw x hx
theorem WfT.com {T : TabS} (h : WfT T) (tx : Int) : WfT (comT T tx) := by
  unfold comT
  split
  · exact h
  · rename_i hn
    exact h.ended tx _ _ (by omega) (by intro p e; cases e; omega) (by simpa using hn)
theorem WfT.abo {T : TabS} (h : WfT T) (tx : Int) : WfT (aboT T tx) := by
  unfold aboT
  split
  · exact h
  · rename_i hn
    exact h.ended tx _ T.last (by omega) (by intro p e; cases e) (by simpa using hn)

/-- .. of k calls. -/
structure WkT (k : Nat) (T : TabS) : Prop where
  wf : WfT T
  n : T.next ≤ 10 + k
  l : T.last ≤ k
theorem WkT.mono {k k' : Nat} {T : TabS} (h : WkT k T) (hk : k ≤ k') : WkT k' T := ⟨h.wf, by have := h.n; omega, by have := h.l; omega⟩
theorem beg_next (T : TabS) : (begT T).next ≤ T.next + 1 := by
  unfold begT
  split
  · omega
  · exact Int.le_refl _
theorem beg_last (T : TabS) : (begT T).last = T.last := by unfold begT; split <;> rfl
theorem com_next (T : TabS) (x : Int) : (comT T x).next = T.next := by unfold comT; split <;> rfl
theorem com_last (T : TabS) (x : Int) : (comT T x).last ≤ T.last + 1 := by
  unfold comT
  split
  · omega
  · exact Int.le_refl _
theorem abo_next (T : TabS) (x : Int) : (aboT T x).next = T.next := by unfold aboT; split <;> rfl
theorem abo_last (T : TabS) (x : Int) : (aboT T x).last = T.last := by unfold aboT; split <;> rfl
theorem WkT.beg {k : Nat} {T : TabS} (h : WkT k T) : WkT (k + 1) (begT T) := ⟨h.wf.beg, by have := h.n; have := beg_next T; omega, by have := h.l; rw [beg_last]; omega⟩
/-- (Begin and Commit together are one.) -/
theorem WkT.com {k : Nat} {T : TabS} (h : WkT (k + 1) T) (hl : T.last ≤ k) (x : Int) : WkT (k + 1) (comT T x) := ⟨h.wf.com x, by rw [com_next]; exact h.n, by have := com_last T x; omega⟩
theorem WkT.com' {k : Nat} {T : TabS} (h : WkT k T) (x : Int) : WkT (k + 1) (comT T x) := ⟨h.wf.com x, by rw [com_next]; have := h.n; omega, by have := com_last T x; have := h.l; omega⟩
theorem WkT.abo {k : Nat} {T : TabS} (h : WkT k T) (x : Int) : WkT k (aboT T x) := ⟨h.wf.abo x, by rw [abo_next]; exact h.n, by rw [abo_last]; exact h.l⟩
theorem WkT.new (p : Nat) (hp : p ≤ 9) : WkT 0 (newT (1 + p) []) := ⟨WfT.new _, by simp [newT]; omega, by simp [newT]⟩

theorem abo_opn {T : TabS} {x : Int} (h : askT T x = 0) : (aboT T x).opn = butL T.opn x := by
  unfold aboT
  rw [if_neg (by simp [h])]
  rfl

/-- Four that are open are aborted. -/
def abo4 (T : TabS) : TabS := aboT (aboT (aboT (aboT T (T.opn.getD 0 0)) (T.opn.getD 1 0)) (T.opn.getD 2 0)) (T.opn.getD 3 0)
theorem getD_mem {l : List Int} {k : Nat} (h : k < l.length) : l.getD k 0 ∈ l := by
  rw [List.getD_eq_getElem?_getD, List.getElem?_eq_getElem h]
  exact List.getElem_mem h
theorem getD_inj {l : List Int} (hn : l.Nodup) {j k : Nat} (hj : j < l.length) (hk : k < l.length) (e : j ≠ k) : l.getD j 0 ≠ l.getD k 0 := by
  rw [List.getD_eq_getElem?_getD, List.getElem?_eq_getElem hj, List.getD_eq_getElem?_getD, List.getElem?_eq_getElem hk]
  have hp := List.pairwise_iff_getElem.1 hn
  rcases Nat.lt_or_gt_of_ne e with h | h
  · exact hp j k hj hk h
  · exact fun x => hp k j hk hj h x.symm
theorem abo4_len {T : TabS} (h : WfT T) (h4 : 12 < T.opn.length) (h16 : T.opn.length ≤ 16) : (abo4 T).opn.length ≤ 12 := by
  unfold abo4
  have m0 := getD_mem (l := T.opn) (k := 0) (by omega)
  have m1 := getD_mem (l := T.opn) (k := 1) (by omega)
  have m2 := getD_mem (l := T.opn) (k := 2) (by omega)
  have m3 := getD_mem (l := T.opn) (k := 3) (by omega)
  have d01 := getD_inj h.nd (j := 1) (k := 0) (by omega) (by omega) (by omega)
  have d02 := getD_inj h.nd (j := 2) (k := 0) (by omega) (by omega) (by omega)
  have d03 := getD_inj h.nd (j := 3) (k := 0) (by omega) (by omega) (by omega)
  have d12 := getD_inj h.nd (j := 2) (k := 1) (by omega) (by omega) (by omega)
  have d13 := getD_inj h.nd (j := 3) (k := 1) (by omega) (by omega) (by omega)
  have d23 := getD_inj h.nd (j := 3) (k := 2) (by omega) (by omega) (by omega)
  generalize T.opn.getD 0 0 = x0 at *
  generalize T.opn.getD 1 0 = x1 at *
  generalize T.opn.getD 2 0 = x2 at *
  generalize T.opn.getD 3 0 = x3 at *
  have e0 := abo_opn (h.ask m0)
  have w0 := h.abo x0
  have l0 := but_lt m0
  rw [← e0] at l0
  have n1 := but_mem' m1 d01
  have n2 := but_mem' m2 d02
  have n3 := but_mem' m3 d03
  rw [← e0] at n1 n2 n3
  have e1 := abo_opn (w0.ask n1)
  have w1 := w0.abo x1
  have l1 := but_lt n1
  rw [← e1] at l1
  have p2 := but_mem' n2 d12
  have p3 := but_mem' n3 d13
  rw [← e1] at p2 p3
  have e2 := abo_opn (w1.ask p2)
  have w2 := w1.abo x2
  have l2 := but_lt p2
  rw [← e2] at l2
  have q3 := but_mem' p3 d23
  rw [← e2] at q3
  have e3 := abo_opn (w2.ask q3)
  have l3 := but_lt q3
  rw [← e3] at l3
  omega

/-- Of two that begin one behind the other, one commits; a third begins. -/
structure TwoP (T : TabS) (a b : Int) : Prop where
  b1 : begE T = 0
  b2 : begE (begT T) = 0
  v1 : visB (begT (begT T)) a b = false
  v2 : visB (begT (begT T)) b a = false
  c1 : confE (begT (begT T)) a b = 7
  c2 : confE (begT (begT T)) b a = 7
  c3 : confE (begT (begT T)) a a = 0
  k1 : askT (begT (begT T)) a = 0
  v3 : visB (comT (begT (begT T)) a) b a = false
  c4 : confE (comT (begT (begT T)) a) b a = 8
  b3 : begE (comT (begT (begT T)) a) = 0
  n3 : begN (comT (begT (begT T)) a) = T.next + 2
  v4 : visB (begT (comT (begT (begT T)) a)) (T.next + 2) a = true
  c5 : confE (begT (comT (begT (begT T)) a)) (T.next + 2) a = 0
  t1 : toAllB (begT (comT (begT (begT T)) a)) a = false
  k2 : askT (begT (comT (begT (begT T)) a)) b = 0
  c6 : confE (aboT (begT (comT (begT (begT T)) a)) b) (T.next + 2) b = 0
  v5 : visB (aboT (begT (comT (begT (begT T)) a)) b) (T.next + 2) b = false

theorem ofT_of {T : TabS} {x : Int} {q : Int × Int} (h : T.who x = some q) : ofT T x = q := by unfold ofT; rw [h]

theorem begF_no {T : TabS} (h1 : T.opn.length < 16) (h2 : T.next < 4611686018427387904) : begF T = false := by
  unfold begF
  simp
  omega
theorem beg_of {T : TabS} (h : begF T = false) : begT T = { T with next := T.next + 1, who := upd T.who T.next (2, T.last), opn := T.opn ++ [T.next] } := by
  unfold begT
  rw [if_neg (by simp [h])]

theorem twoP {T : TabS} (h12 : T.opn.length ≤ 13) (hn : T.next ≤ 1000000) {a b : Int} (hab : (a = T.next ∧ b = T.next + 1) ∨ (b = T.next ∧ a = T.next + 1)) : TwoP T a b := by
  have f1 := begF_no (T := T) (by omega) (by omega)
  have e1 := beg_of f1
  have f2 : begF (begT T) = false := by
    rw [e1]
    exact begF_no (by simp; omega) (by dsimp only; omega)
  have e2 := beg_of f2
  rw [e1] at e2
  dsimp only at e2
  have hne : b ≠ a := by omega
  have c2 : T.next + 1 + 1 = T.next + 2 := by omega
  rw [c2] at e2
  have wa : (begT (begT T)).who a = some (2, T.last) := by
    rw [e1, e2]
    dsimp only
    rcases hab with ⟨rfl, rfl⟩ | ⟨rfl, rfl⟩
    · rw [upd_ne _ _ (by omega), upd_same]
    · rw [upd_same]
  have wb : (begT (begT T)).who b = some (2, T.last) := by
    rw [e1, e2]
    dsimp only
    rcases hab with ⟨rfl, rfl⟩ | ⟨rfl, rfl⟩
    · rw [upd_same]
    · rw [upd_ne _ _ (by omega), upd_same]
  have hbo : b ∈ (begT (begT T)).opn := by
    rw [e1, e2]
    dsimp only
    rcases hab with ⟨rfl, rfl⟩ | ⟨rfl, rfl⟩ <;> simp
  have hao : a ∈ (begT (begT T)).opn := by
    rw [e1, e2]
    dsimp only
    rcases hab with ⟨rfl, rfl⟩ | ⟨rfl, rfl⟩ <;> simp
  have hl2 : (begT (begT T)).opn.length = T.opn.length + 2 := by rw [e1, e2]; simp
  have hn2 : (begT (begT T)).next = T.next + 2 := by rw [e1, e2]
  have ha2 : (begT (begT T)).last = T.last := by rw [e1, e2]
  have q1 : begE T = 0 := by unfold begE; simp [f1]
  have q2 : begE (begT T) = 0 := by unfold begE; simp [f2]
  clear e1 e2 f1 f2
  have k1 : askT (begT (begT T)) a = 0 := by simp [askT, ofT_of wa]
  have k1b : askT (begT (begT T)) b = 0 := by simp [askT, ofT_of wb]
  have e3 : comT (begT (begT T)) a = endT { (begT (begT T)) with last := (begT (begT T)).last + 1 } a (3, (begT (begT T)).last + 1) := by
    unfold comT
    rw [if_neg (by simp [k1])]
  have w3a : (comT (begT (begT T)) a).who a = some (3, T.last + 1) := by rw [e3, ← ha2]; exact upd_same _ _ _
  have w3b : (comT (begT (begT T)) a).who b = some (2, T.last) := by rw [e3]; exact (upd_ne _ _ hne).trans wb
  have o3 : (comT (begT (begT T)) a).opn = butL (begT (begT T)).opn a := by rw [e3]; rfl
  have l3 : (comT (begT (begT T)) a).opn.length < (begT (begT T)).opn.length := by rw [o3]; exact but_lt hao
  have n3 : (comT (begT (begT T)) a).next = T.next + 2 := by rw [e3]; exact hn2
  have a3 : (comT (begT (begT T)) a).last = T.last + 1 := by rw [e3, ← ha2]; rfl
  have b3 : b ∈ (comT (begT (begT T)) a).opn := by rw [o3]; exact but_mem' hbo hne
  clear e3 o3
  have f3 : begF (comT (begT (begT T)) a) = false := begF_no (by omega) (by omega)
  have e4 := beg_of f3
  rw [n3, a3] at e4
  have hca : a ≠ T.next + 2 := by omega
  have hcb : b ≠ T.next + 2 := by omega
  have w4a : (begT (comT (begT (begT T)) a)).who a = some (3, T.last + 1) := by rw [e4]; exact (upd_ne _ _ hca).trans w3a
  have w4b : (begT (comT (begT (begT T)) a)).who b = some (2, T.last) := by rw [e4]; exact (upd_ne _ _ hcb).trans w3b
  have w4c : (begT (comT (begT (begT T)) a)).who (T.next + 2) = some (2, T.last + 1) := by rw [e4]; exact upd_same _ _ _
  have b4 : b ∈ (begT (comT (begT (begT T)) a)).opn := by rw [e4]; exact List.mem_append.2 (.inl b3)
  have q3 : begE (comT (begT (begT T)) a) = 0 := by unfold begE; simp [f3]
  have m3 : begN (comT (begT (begT T)) a) = T.next + 2 := by unfold begN; simp [f3, n3]
  clear e4
  have k2 : askT (begT (comT (begT (begT T)) a)) b = 0 := by simp [askT, ofT_of w4b]
  have e5 : aboT (begT (comT (begT (begT T)) a)) b = endT (begT (comT (begT (begT T)) a)) b (5, 0) := by
    unfold aboT
    rw [if_neg (by simp [k2])]
  have w5b : (aboT (begT (comT (begT (begT T)) a)) b).who b = some (5, 0) := by rw [e5]; exact upd_same _ _ _
  have w5c : (aboT (begT (comT (begT (begT T)) a)) b).who (T.next + 2) = some (2, T.last + 1) := by rw [e5]; exact (upd_ne _ _ (Ne.symm hcb)).trans w4c
  refine ⟨q1, q2, ?_, ?_, ?_, ?_, ?_, k1, ?_, ?_, q3, m3, ?_, ?_, ?_, k2, ?_, ?_⟩
  · simp [visB, isO, k1, ofT_of wa, ofT_of wb, shB, hne]
  · simp [visB, isO, k1b, ofT_of wa, ofT_of wb, shB, Ne.symm hne]
  · simp [confE, k1, ofT_of wb, hne]
  · simp [confE, k1b, ofT_of wa, Ne.symm hne]
  · simp [confE, k1, ofT_of wa]
  · simp [visB, isO, askT, ofT_of w3a, ofT_of w3b, shB, Ne.symm hne]
    omega
  · simp [confE, askT, ofT_of w3a, ofT_of w3b, shB]
    omega
  · simp [visB, isO, askT, ofT_of w4a, ofT_of w4c, shB]
  · simp [confE, askT, ofT_of w4a, ofT_of w4c, shB]
  · rw [Bool.eq_false_iff]
    intro hT
    unfold toAllB at hT
    have h2 := (Bool.and_eq_true_iff.1 hT).2
    have h3 := List.all_eq_true.1 h2 b b4
    rw [w4b, ofT_of w4a] at h3
    simp [shB] at h3
    omega
  · simp [confE, askT, ofT_of w5b, ofT_of w5c]
  · simp [visB, isO, askT, ofT_of w5b, ofT_of w5c, shB, hcb]

end Go.Proofs.Ytjopobkcijkpmaa
