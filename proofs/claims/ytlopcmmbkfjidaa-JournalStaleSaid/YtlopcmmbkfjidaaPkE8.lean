/-
  Texts of this claim, joined: JnK, PlM, OpE. No statement of the program is proved here.
-/
import Derived.Test.YtlopcmmbkfjidaaPkE7
import Derived.Test.YtlopcmmbkfjidaaPkE6
import Derived.Test.YtlopcmmbkfjidaaPkE5
import Derived.Test.YtlopcmmbkfjidaaPkE2
import Derived.Lib.SmallJoins
import Derived.Deep.Grids
/-! JnK -/
namespace Go.Proofs.Ytlopcmmbkfjidaa
open Go Go.RowKit

def Avoid (w : World) (S : Nat → Prop) (e : TypeId) : Prop := ∀ k, S k → ∃ cs t fr, w.heap[k]? = some (.cells cs t fr) ∧ t ≠ e
theorem row_move2 {w w' : World} {S : Nat → Prop} {base size n : Nat} {e : TypeId} {v : Value} {xs : List Value} (h : w.ownsRow base e size v n xs) (hm : Off S w w') (hk : Avoid w S e) : w'.ownsRow base e size v n xs :=
  ownsRow_off h hm (fun k hv hs => by
    obtain ⟨cur, hc⟩ := own_blk h hv
    obtain ⟨cs, t, fr, h1, h2⟩ := hk k hs
    rw [hc] at h1
    injection h1 with h1
    injection h1 with _ h1 _
    exact h2 h1.symm)
theorem blk_keep {w w' : World} {S : Nat → Prop} {k : Nat} {cs : Array Value} {e : TypeId} {fr : Nat × Nat} (h : w.heap[k]? = some (.cells cs e fr)) (hm : Off S w w') (hk : Avoid w S e) : w'.heap[k]? = some (.cells cs e fr) :=
  (hm.block k (Array.getElem?_eq_some_iff.1 h).1 (fun hs => by
    obtain ⟨cs', t, fr', h1, h2⟩ := hk k hs
    rw [h] at h1
    injection h1 with h1
    injection h1 with _ h1 _
    exact h2 h1.symm)).trans h
theorem JS.avoid {w0 w : World} {gd gj : Nat} {D : DiskS} {J : JnS} {S : Nat → Prop} (h : JS w0 w gd gj D J S) {e : TypeId} (he : ¬ MutT e) : Avoid w S e := fun k hk => by
  obtain ⟨_, cs, t, fr, h1, h2⟩ := h.kind hk
  exact ⟨cs, t, fr, h1, fun x => he (x ▸ h2)⟩
theorem Mv.both {S S' R R' : Nat → Prop} {w w' : World} (h : Mv S S' w w') (hR : ∀ k, R' k → R k ∨ w.heap.size ≤ k) : Mv (fun k => S k ∨ R k) (fun k => S' k ∨ R' k) w w' :=
  ⟨h.1.mono (fun _ _ e => .inl e), fun k hk => by
    rcases hk with e | e
    · exact (h.2 k e).imp .inl id
    · exact (hR k e).imp .inr id⟩
/-- Something else is turned, that is no part of either. -/
theorem JS.other {w0 w w' : World} {gd gj : Nat} {D : DiskS} {J : JnS} {S R : Nat → Prop} (h : JS w0 w gd gj D J S) (ho : Off R w w') (hR : ∀ k, R k → w0.heap.size ≤ k ∧ ∃ cs t fr, w.heap[k]? = some (.cells cs t fr) ∧ ¬ MutT t) : JS w0 w' gd gj D J S := by
  obtain ⟨F, wv, h1, h2, h3, h4, h5, h6, h7⟩ := h.ex
  have hno : ∀ k cs t fr, w.heap[k]? = some (.cells cs t fr) → MutT t → ¬ R k := fun k cs t fr hk ht hr => by
    obtain ⟨_, cs', t', fr', q1, q2⟩ := hR k hr
    rw [hk] at q1
    injection q1 with q1
    injection q1 with _ q1 _
    exact q2 (q1 ▸ ht)
  refine ⟨h.bel.trans (ho.below (fun k hk => (hR k hk).1) h.bel.size), F, wv, h1.off ho (fun k hk => ?_) (fun k m hk hb => ?_), h2.off ho (hno _ _ _ _ h2 (.inr (.inr (.inr (.inr rfl))))), h3.off ho (fun k hk => ?_), h4, h5, h6, h7⟩
  · obtain ⟨_, cs, t, fr, q1, q2⟩ := h1.kind hk
    exact hno _ _ _ _ q1 (mut3 q2)
  · exact hno _ _ _ _ hb (.inl rfl) hk
  · obtain ⟨cur, hc⟩ := own_blk h3 hk
    exact hno _ _ _ _ hc (.inl rfl)

/-- Records in a row of one's own; their changes stand in memory that S does not turn. -/
def AllR (w0 w : World) (S : Nat → Prop) (v : Value) (rs : List Rec) : Prop :=
  ∃ us : List (Int × Int × Value), w.ownsRow w0.heap.size 25 3 v rs.length (rcs us) ∧ us.length = rs.length ∧ ∀ (i : Nat) (p : Rec) (q : Int × Int × Value), rs[i]? = some p → us[i]? = some q → q.1 = (p.kind : Int) ∧ q.2.1 = p.tx ∧ HeldI w (fun k => S k ∨ v.ownBlock = some k) q.2.2 p.cs
section
variable {w0 w w' w4 : World} {S S' : Nat → Prop} {v v4 : Value} {rs : List Rec}
theorem AllR.nil (w0 w : World) (S : Nat → Prop) : AllR w0 w S (.slice none 0 0) [] := ⟨[], ⟨rfl, .inl ⟨rfl, rfl⟩⟩, rfl, fun i p q h => by simp at h⟩
theorem AllR.step (h : AllR w0 w S v rs) (hm : Mv S S' w w') (hk : Avoid w S 25) : AllR w0 w' S' v rs := by
  obtain ⟨us, h1, h2, h3⟩ := h
  refine ⟨us, row_move2 h1 hm.1 hk, h2, fun i p q hp hq => ?_⟩
  obtain ⟨h4, h5, h6⟩ := h3 i p q hp hq
  exact ⟨h4, h5, h6.step (hm.both (fun k e => .inl e))⟩
theorem AllR.push {us : List (Int × Int × Value)} (_h1 : w.ownsRow w0.heap.size 25 3 v rs.length (rcs us)) (h2 : us.length = rs.length) (h3 : ∀ (i : Nat) (p : Rec) (q : Int × Int × Value), rs[i]? = some p → us[i]? = some q → q.1 = (p.kind : Int) ∧ q.2.1 = p.tx ∧ HeldI w (fun k => S k ∨ v.ownBlock = some k) q.2.2 p.cs) {k : Nat} {tx : Int} {u : Value} {cs : List Ch} (hu : HeldI w (fun k => S k ∨ v.ownBlock = some k) u cs) (hg : w.grownBy w4 v.ownBlock) (hbl : v4.ownBlock = v.ownBlock ∨ (v4.ownBlock = some w.heap.size ∧ w.grownBy w4 none))
    (ho : w4.ownsRow w0.heap.size 25 3 v4 (rs.length + 1) (rcs us ++ [.int .u8 (k : Int), .int .i64 tx, u])) : AllR w0 w4 S v4 (rs ++ [⟨k, tx, cs⟩]) := by
  have hm : Mv (fun k => S k ∨ v.ownBlock = some k) (fun k => S k ∨ v4.ownBlock = some k) w w4 := ⟨(Off.of_grown (S := fun k => v.ownBlock = some k) hg (fun _ e => e)).mono (fun _ _ e => .inr e), fun k hk => by
    rcases hk with e | e
    · exact .inl (.inl e)
    · rcases hbl with e2 | ⟨e2, _⟩
      · exact .inl (.inr (e2 ▸ e))
      · rw [e2] at e
        injection e with e
        exact .inr (Nat.le_of_eq e)⟩
  refine ⟨us ++ [((k : Int), tx, u)], by rw [List.length_append, rcs_append]; exact ho, by rw [List.length_append, List.length_append, h2]; rfl, fun i p q hp hq => ?_⟩
  rcases Nat.lt_or_ge i rs.length with hi | hi
  · rw [List.getElem?_append_left hi] at hp
    rw [List.getElem?_append_left (by rw [h2]; exact hi)] at hq
    obtain ⟨h4, h5, h6⟩ := h3 i p q hp hq
    exact ⟨h4, h5, h6.step hm⟩
  · rw [List.getElem?_append_right hi] at hp
    rw [List.getElem?_append_right (by rw [h2]; exact hi), h2] at hq
    obtain h0 | h0 : i - rs.length = 0 ∨ 1 ≤ i - rs.length := by omega
    · rw [h0] at hp hq
      simp at hp hq
      subst hp hq
      exact ⟨rfl, rfl, hu.step hm⟩
    · rw [List.getElem?_eq_none (by simpa using h0)] at hp
      cases hp
theorem AllR.rw {A : Option Addr} {n c : Nat} (h : AllR w0 w S (.slice A n c) rs) (hn : rs.length = n) : RW w A n rs := by
  obtain ⟨us, h1, h2, h3⟩ := h
  rw [hn] at h1
  refine ⟨us, own_rd h1, h2, fun i p q hp hq => ?_⟩
  obtain ⟨h4, h5, h6⟩ := h3 i p q hp hq
  exact ⟨h4, h5, h6.vc⟩
theorem AllR.form (h : AllR w0 w S v rs) : ∃ A c, v = .slice A rs.length c ∧ rs.length ≤ c ∧ c ≤ maxLen := by
  obtain ⟨us, h1, _⟩ := h
  exact own_form h1
end

/-- All of it: the records al, the numbers Er. -/
structure CX (w wr : World) (gd gj : Nat) (D : DiskS) (J : JnS) (S : Nat → Prop) (al : List Rec) (Er : List Nat) (va ve : Value) : Prop where
  js : JS w wr gd gj D J S
  all : AllR w wr (fun k => S k ∨ ve.ownBlock = some k) va al
  ends : wr.ownsRow w.heap.size 3 1 ve Er.length (Er.map fun (x : Nat) => Value.int .i64 (x : Int))
section
variable {w wr w' w4 : World} {gd gj : Nat} {D D' : DiskS} {J J' : JnS} {S S' : Nat → Prop} {al : List Rec} {Er : List Nat} {va ve v4 : Value}
theorem not_mut_int : ¬ MutT 3 := by unfold MutT; decide
theorem not_mut_rec : ¬ MutT 25 := by unfold MutT; decide
theorem CX.avoidR (h : CX w wr gd gj D J S al Er va ve) : Avoid wr (fun k => S k ∨ ve.ownBlock = some k) 25 := fun k hk => by
  rcases hk with e | e
  · exact h.js.avoid not_mut_rec k e
  · obtain ⟨cur, hc⟩ := own_blk h.ends e
    exact ⟨_, _, _, hc, by decide⟩
theorem CX.below (h : CX w wr gd gj D J S al Er va ve) (hb : Below wr.heap.size wr w') : CX w w' gd gj D J S al Er va ve :=
  ⟨h.js.below hb, h.all.step (Mv.of_below hb) h.avoidR, own_keep h.ends hb⟩
/-- A call of the journal or of the disk. -/
theorem CX.turn (h : CX w wr gd gj D J S al Er va ve) (hj : JS w w' gd gj D' J' S') (hm : Mv S S' wr w') : CX w w' gd gj D' J' S' al Er va ve :=
  ⟨hj, h.all.step (hm.both (fun _k e => .inl e)) h.avoidR, row_move2 h.ends hm.1 (h.js.avoid not_mut_int)⟩
theorem CX.turned (h : CX w wr gd gj D J S al Er va ve) (hm : Mv S S' wr w') {k : Nat} {cs : Array Value} {e : TypeId} {fr : Nat × Nat} (hk : wr.heap[k]? = some (.cells cs e fr)) (he : ¬ MutT e) : w'.heap[k]? = some (.cells cs e fr) := blk_keep hk hm.1 (h.js.avoid he)
/-- A number more. -/
theorem CX.pushE (h : CX w wr gd gj D J S al Er va ve) {x : Nat} (hg : wr.grownBy w4 ve.ownBlock) (hbl : v4.ownBlock = ve.ownBlock ∨ (v4.ownBlock = some wr.heap.size ∧ wr.grownBy w4 none)) (ho : w4.ownsRow w.heap.size 3 1 v4 (Er.length + 1) ((Er.map fun (x : Nat) => Value.int .i64 (x : Int)) ++ [.int .i64 (x : Int)])) :
    CX w w4 gd gj D J S al (Er ++ [x]) va v4 ∧ ∀ {k : Nat} {cs : Array Value} {e : TypeId} {fr : Nat × Nat}, wr.heap[k]? = some (.cells cs e fr) → e ≠ 3 → w4.heap[k]? = some (.cells cs e fr) := by
  have o : Off (fun k => ve.ownBlock = some k) wr w4 := Off.of_grown hg (fun _ e => e)
  have hv : ∀ e, e ≠ 3 → Avoid wr (fun k => ve.ownBlock = some k) e := fun e he k hk => by
    obtain ⟨cur, hc⟩ := own_blk h.ends hk
    exact ⟨_, _, _, hc, fun x => he x.symm⟩
  have hR : ∀ k, v4.ownBlock = some k → ve.ownBlock = some k ∨ wr.heap.size ≤ k := fun k hk => by
    rcases hbl with e | ⟨e, _⟩
    · exact .inl (e ▸ hk)
    · rw [e] at hk
      injection hk with hk
      exact .inr (Nat.le_of_eq hk)
  have hm : Mv (fun k => S k ∨ ve.ownBlock = some k) (fun k => S k ∨ v4.ownBlock = some k) wr w4 := ⟨o.mono (fun _ _ e => .inr e), fun k hk => by
    rcases hk with e | e
    · exact .inl (.inl e)
    · exact (hR k e).imp .inr id⟩
  refine ⟨⟨h.js.other o (fun k hk => ?_), h.all.step hm h.avoidR, ?_⟩, fun hk he => blk_keep hk o (hv _ he)⟩
  · obtain ⟨cur, hc⟩ := own_blk h.ends hk
    exact ⟨(h.ends.lt k hk).1, _, _, _, hc, not_mut_int⟩
  · rw [List.length_append, List.map_append]
    exact ho
/-- A record more. -/
theorem CX.pushA (h : CX w wr gd gj D J S al Er va ve) {us : List (Int × Int × Value)} (h1 : wr.ownsRow w.heap.size 25 3 va al.length (rcs us)) (h2 : us.length = al.length) (h3 : ∀ (i : Nat) (p : Rec) (q : Int × Int × Value), al[i]? = some p → us[i]? = some q → q.1 = (p.kind : Int) ∧ q.2.1 = p.tx ∧ HeldI wr (fun k => (S k ∨ ve.ownBlock = some k) ∨ va.ownBlock = some k) q.2.2 p.cs) {k : Nat} {tx : Int} {u : Value} {cs : List Ch} (hu : HeldI wr (fun k => (S k ∨ ve.ownBlock = some k) ∨ va.ownBlock = some k) u cs) (hg : wr.grownBy w4 va.ownBlock) (hbl : v4.ownBlock = va.ownBlock ∨ (v4.ownBlock = some wr.heap.size ∧ wr.grownBy w4 none))
    (ho : w4.ownsRow w.heap.size 25 3 v4 (al.length + 1) (rcs us ++ [.int .u8 (k : Int), .int .i64 tx, u])) :
    CX w w4 gd gj D J S (al ++ [⟨k, tx, cs⟩]) Er v4 ve ∧ ∀ {k : Nat} {cs : Array Value} {e : TypeId} {fr : Nat × Nat}, wr.heap[k]? = some (.cells cs e fr) → e ≠ 25 → w4.heap[k]? = some (.cells cs e fr) := by
  have o : Off (fun k => va.ownBlock = some k) wr w4 := Off.of_grown hg (fun _ e => e)
  have hv : ∀ e, e ≠ 25 → Avoid wr (fun k => va.ownBlock = some k) e := fun e he k hk => by
    obtain ⟨cur, hc⟩ := own_blk h1 hk
    exact ⟨_, _, _, hc, fun x => he x.symm⟩
  refine ⟨⟨h.js.other o (fun k hk => ?_), AllR.push h1 h2 h3 hu hg hbl ho, row_move2 h.ends o (hv _ (by decide))⟩, fun hk he => blk_keep hk o (hv _ he)⟩
  obtain ⟨cur, hc⟩ := own_blk h1 hk
  exact ⟨(h1.lt k hk).1, _, _, _, hc, not_mut_rec⟩
/-- All blocks that may be turned stand already. -/
theorem CX.lt (h : CX w wr gd gj D J S al Er va ve) : ∀ k, ((S k ∨ ve.ownBlock = some k) ∨ va.ownBlock = some k) → k < wr.heap.size := fun k hk => by
  rcases hk with (e | e) | e
  · obtain ⟨_, cs, t, fr, q, _⟩ := h.js.kind e
    exact (Array.getElem?_eq_some_iff.1 q).1
  · exact (h.ends.lt k e).2
  · obtain ⟨us, h1, _⟩ := h.all
    exact (h1.lt k e).2
end

end Go.Proofs.Ytlopcmmbkfjidaa

/-! PlM -/
namespace Go.Proofs.Ytlopcmmbkfjidaa
open Go Go.RowKit

/-- A log and what was appended, flush by flush; E: how many were appended at each flush that was tried. -/
structure CrS (D : DiskS) (J : JnS) (fs : List (List Rec)) (cur : List Rec) (E : List Nat) : Prop where
  fi : J.fi = 1
  bl : J.bl = 12
  ep : J.ep = 3
  sy : J.sy = fs.flatten.length
  la : J.la = (fs.flatten ++ cur).length
  e0 : fs.flatten.length ∈ E
  nb : D.blocks.length = 14
  way : (Lg D.blocks J 5 9 fs cur ∧ Blank D.blocks J 5 (totL fs) ∧ D.down = false ∧ D.fault = -1 ∧ D.pending = []) ∨
    (∃ Jh m, J = { Jh with br := true } ∧ Lg D.blocks Jh 5 9 fs cur ∧ Blank D.blocks Jh 5 (totL fs) ∧ cur ≠ [] ∧ m ≤ flN cur ∧ D.pending = (wsJ Jh).take m ∧ (fs.flatten ++ cur).length ∈ E)
section
variable {D : DiskS} {J : JnS} {fs : List (List Rec)} {cur : List Rec} {E : List Nat}
theorem CrS.ct (_h : CrS D J fs cur E) : ∀ Jh, Lg D.blocks Jh 5 9 fs cur → Jh.bl = 12 → Jh.ct + flN cur < 4294967296 := fun Jh hl hb => by
  have h1 := hl.fits
  have h2 := hl.ct
  omega
theorem CrS.pend (h : CrS D J fs cur E) : D.pending.length ≤ 12 := by
  rcases h.way with ⟨_, _, _, _, h5⟩ | ⟨Jh, m, h1, h2, _, _, h5, h6, _⟩
  · rw [h5]; simp
  · rw [h6, List.length_take]
    have := h2.fits
    have hb := h.bl
    rw [h1] at hb
    have hb2 : Jh.bl = 12 := hb
    omega
theorem CrS.app (h : CrS D J fs cur E) {r : Rec} (h0 : appE J r = 0) (hl : J.la + 1 ≤ 1152921504606846976) : CrS D (appJ J r) fs (cur ++ [r]) E := by
  have e : appJ J r = { J with waits := J.waits ++ encR r, la := J.la + 1 } := by unfold appJ; rw [if_pos h0]
  rcases h.way with ⟨q1, q2, q3, q4, q5⟩ | ⟨Jh, m, q1, _⟩
  · refine ⟨?_, ?_, ?_, ?_, ?_, h.e0, h.nb, .inl ⟨q1.app h0 hl, ?_, q3, q4, q5⟩⟩
    · rw [e]; exact h.fi
    · rw [e]; exact h.bl
    · rw [e]; exact h.ep
    · rw [e]; exact h.sy
    · rw [e]
      show J.la + 1 = _
      rw [h.la]
      simp only [List.length_append, List.length_cons, List.length_nil]
      omega
    · rw [e]; exact q2
  · have hb : J.br = true := by rw [q1]
    unfold appE at h0
    rw [if_pos hb] at h0
    cases h0
theorem CrS.app_not (h : CrS D J fs cur E) {r : Rec} (h0 : appE J r ≠ 0) : CrS D (appJ J r) fs cur E := by
  unfold appJ
  rw [if_neg h0]
  exact h
/-- How many were appended is written down; then a flush is tried. -/
theorem CrS.flush (h : CrS D J fs cur E) : ∃ fs' cur', fs'.flatten ++ cur' = fs.flatten ++ cur ∧ CrS (fluD D J) (fluJ D J) fs' cur' (E ++ [(fs.flatten ++ cur).length]) := by
  have hm : ∀ x, x ∈ E → x ∈ E ++ [(fs.flatten ++ cur).length] := fun x hx => List.mem_append_left _ hx
  have hlast : (fs.flatten ++ cur).length ∈ E ++ [(fs.flatten ++ cur).length] := by simp
  rcases h.way with ⟨q1, q2, q3, q4, q5⟩ | ⟨Jh, m, q1, q2, q3, q4, q5, q6, q7⟩
  · by_cases hc : cur = []
    · -- nothing waits
      have hw : J.waits.length = 0 := by rw [q1.wl, hc]; rfl
      refine ⟨fs, cur, rfl, ?_⟩
      have e1 : fluD D J = D := by unfold fluD; rw [if_pos (.inr hw)]
      have e2 : fluJ D J = J := by unfold fluJ; rw [if_pos (.inr hw)]
      rw [e1, e2]
      exact ⟨h.fi, h.bl, h.ep, h.sy, h.la, hm _ h.e0, h.nb, .inl ⟨q1, q2, q3, q4, q5⟩⟩
    · have hw : J.waits.length ≠ 0 := by
        rw [q1.wl]
        have := joinE_ge cur
        cases cur with
        | nil => exact absurd rfl hc
        | cons r rs => simp only [List.length_cons] at this; omega
      have hnot : ¬ (J.br = true ∨ J.waits.length = 0) := by rw [q1.br]; simp [hw]
      rcases flush_well (ws := wsJ J) q3 q4 q5 (wsL_ok q1.ji.b1 q1.fb) with ⟨h1, h2, h3, h4, h5, _⟩ | ⟨h1, _, m, m1, m2, m3, _⟩
      · refine ⟨fs ++ [cur], [], by simp, ?_⟩
        have e1 : fluD D J = flushD D (wsJ J) := by unfold fluD; rw [if_neg hnot]
        have e2 : fluJ D J = { J with pl := (J.pl + needL J.waits.length) % J.bl, ct := J.ct + needL J.waits.length, us := J.us + needL J.waits.length, waits := [], sy := J.la } := by unfold fluJ; rw [if_neg hnot, if_neg (by rw [h1]; simp)]
        rw [e1, e2]
        refine ⟨h.fi, h.bl, h.ep, ?_, ?_, ?_, by rw [h2, carry_len]; exact h.nb, .inl ⟨by rw [h2]; exact q1.flushed hc, by rw [h2]; exact q1.blank q2, h4, h5, h3⟩⟩
        · show J.la = _
          rw [h.la]
          simp
        · show J.la = _
          rw [h.la]
          simp
        · simp
      · refine ⟨fs, cur, rfl, ?_⟩
        have e1 : fluD D J = flushD D (wsJ J) := by unfold fluD; rw [if_neg hnot]
        have e2 : fluJ D J = { J with br := true } := by unfold fluJ; rw [if_neg hnot, if_pos (by rw [h1]; decide)]
        rw [e1, e2]
        refine ⟨h.fi, h.bl, h.ep, h.sy, h.la, hm _ h.e0, by rw [m2]; exact h.nb, .inr ⟨J, m, rfl, by rw [m2]; exact q1, by rw [m2]; exact q2, hc, ?_, m3, hlast⟩⟩
        unfold wsJ at m1
        rw [wsL_len, q1.need] at m1
        exact m1
  · have hb : J.br = true := by rw [q1]
    refine ⟨fs, cur, rfl, ?_⟩
    have e1 : fluD D J = D := by unfold fluD; rw [if_pos (.inl hb)]
    have e2 : fluJ D J = J := by unfold fluJ; rw [if_pos (.inl hb)]
    rw [e1, e2]
    exact ⟨h.fi, h.bl, h.ep, h.sy, h.la, hm _ h.e0, h.nb, .inr ⟨Jh, m, q1, q2, q3, q4, q5, q6, hm _ q7⟩⟩
/-- Behind the crash. -/
theorem CrS.crash (h : CrS D J fs cur E) (keep : List Bool) (torn : Int) (cut : Nat) (hcut : cut ≤ 4096) : ∃ k U, k ≤ (fs.flatten ++ cur).length ∧ J.sy ≤ k ∧ k ∈ E ∧ scanR (crashD D keep torn (cut : Int)) 1 12 3 5 9 = (fs.flatten ++ cur).take k ∧ scanU (crashD D keep torn (cut : Int)) 1 12 3 5 9 = U ∧ U ≤ 12 ∧ (crashD D keep torn (cut : Int)).down = false ∧ (crashD D keep torn (cut : Int)).pending = [] ∧ (crashD D keep torn (cut : Int)).blocks.length = 14 := by
  have ec := crashD_in D keep torn cut hcut
  rw [ec]
  have hlen : (calmD (crashTo keep torn cut D.blocks D.pending D.pending.length) []).blocks.length = 14 := by
    show (crashTo keep torn cut D.blocks D.pending D.pending.length).length = 14
    rw [crashTo_len]
    exact h.nb
  rcases h.way with ⟨q1, q2, q3, q4, q5⟩ | ⟨Jh, m, q1, q2, q3, q4, q5, q6, q7⟩
  · have hct := h.ct J q1 h.bl
    have hs := q1.scan (D := calmD (crashTo keep torn cut D.blocks D.pending D.pending.length) []) (by omega) (by rw [q5]; rfl) rfl
    rw [h.fi, h.bl, h.ep] at hs
    have hfit := q1.fits
    rw [h.bl] at hfit
    exact ⟨fs.flatten.length, totL fs, by simp, by rw [h.sy]; exact Nat.le_refl _, h.e0, by rw [hs.1, List.take_left'  rfl], hs.2, by omega, rfl, rfl, hlen⟩
  · have hfi : Jh.fi = 1 := by have := h.fi; rw [q1] at this; exact this
    have hbl : Jh.bl = 12 := by have := h.bl; rw [q1] at this; exact this
    have hep : Jh.ep = 3 := by have := h.ep; rw [q1] at this; exact this
    have hct := h.ct Jh q2 hbl
    have hfit := q2.fits
    rw [hbl] at hfit
    have hm : D.pending.length = m := by
      rw [q6, List.length_take]
      unfold wsJ
      rw [wsL_len, q2.need]
      omega
    have hs := q2.torn q4 q3 (by omega) hct keep torn cut m hcut q5 (D := calmD (crashTo keep torn cut D.blocks D.pending D.pending.length) []) (by show crashTo keep torn cut D.blocks D.pending D.pending.length = _; rw [hm, q6]) rfl
    rw [hfi, hbl, hep] at hs
    rcases hs with ⟨s1, s2⟩ | ⟨s1, s2⟩
    · exact ⟨fs.flatten.length, totL fs, by simp, by rw [h.sy]; exact Nat.le_refl _, h.e0, by rw [s1, List.take_left' rfl], s2, by omega, rfl, rfl, hlen⟩
    · exact ⟨(fs.flatten ++ cur).length, totL fs + flN cur, Nat.le_refl _, by rw [h.sy]; simp, q7, by rw [s1, List.take_length], s2, by omega, rfl, rfl, hlen⟩
end
theorem CrS.new (a : Int) : CrS { newD 14 with power := a } (newJ 1 12 3 5 9) [] [] [0] := by
  have h := Lg.new (n := 14) (fi := 1) (bl := 12) (ep := 3) (pl := 5) (ct := 9) (by omega) (by decide)
  exact ⟨rfl, rfl, rfl, rfl, rfl, by simp, List.length_replicate .., .inl ⟨h.1, h.2, rfl, rfl, rfl⟩⟩

end Go.Proofs.Ytlopcmmbkfjidaa

/-! OpE -/
namespace Go.Proofs.Ytlopcmmbkfjidaa
open Go.ChangeShapes Go.WideShapes Go.ChangeAt Go.RowKit Go.Deep Go.Joins

section
variable {H : Type} {enc : TypeId × Value → H} {W : World} {base : Nat} {held : Bool}
theorem cells_bool : Try.prog.cellsOf 4 = 1 := by kernel_rfl
theorem bytes_bool : Try.prog.bytesOf 4 = 1 := by kernel_rfl
theorem cells_crash : Try.prog.cellsOf 46 = 3 := by kernel_rfl

/-- Bools. -/
theorem op_bools {fuel : Nat} {cs : List Value} {x : DataW H × List MemPlace} (h : DataW.trod enc Try.prog W base (fun _ => true) held fuel 44 cs = some x) (hw : Wt 44 x.1) :
    ∃ A n c l, cs = [.slice A n c] ∧ LR W A n l ∧ n ≤ c ∧ c ≤ 140737488351232 := by
  rcases open_bools Try.underlying44 Try.underlying4 cells_bool h with ⟨rfl, rfl⟩ | ⟨a, n, c, B, rfl, _, hl, hm, rfl, hcell⟩
  · exact ⟨none, 0, 0, [], rfl, ⟨rfl, fun h => absurd h (by omega)⟩, Nat.le_refl _, by omega⟩
  · have hc := (Wt.slice hw Try.underlying44).1
    rw [bytes_bool] at hc
    simp only [List.length_map, List.length_range] at hc
    refine ⟨some a, n, c, (List.range n).map B, rfl, ⟨by simp, fun _ => ⟨a, rfl, fun j u hu => ?_⟩⟩, hl, by omega⟩
    have hj : j < n := by
      rcases Nat.lt_or_ge j n with h | h
      · exact h
      · rw [List.getElem?_eq_none (by simp; omega)] at hu
        cases hu
    rw [hcell j (by omega)]
    simp [hj] at hu
    rw [← hu]

set_option maxRecDepth 100000 in
/-- A crash, by value. -/
theorem op_crash {r : Reach} {b0 : Nat} {v : Value} {d : DataW H} {p : List MemPlace} (hv : Value.okWide Try.prog W r b0 46 v) (h : DataW.Trod enc Try.prog W base (fun _ => true) held 46 v d p) (hw : Wt 46 d) :
    ∃ K nk ck keep torn cut, v = .agg #[.slice K nk ck, .int .i64 torn, .int .i64 cut] ∧ LR W K nk keep ∧ nk ≤ ck ∧ ck ≤ 140737488351232 ∧ -9223372036854775808 ≤ torn ∧ torn ≤ 9223372036854775807 ∧ -9223372036854775808 ≤ cut ∧ cut ≤ 9223372036854775807 := by
  obtain ⟨c0, c1, c2, y0, y1, y2, m, rfl, rfl, rfl, h0, h1, h2⟩ := open_agg3 Try.underlying46 (by kernel_rfl) cells_crash hv h
  obtain ⟨A, n, c, l, e0, hl, hnc, hc⟩ := op_bools h0 (hw.agg Try.underlying46 (j := 0) rfl rfl)
  obtain ⟨x, e1, _, wx⟩ := DataW.trod_int Try.underlying3 h1
  obtain ⟨y, e2, _, wy⟩ := DataW.trod_int Try.underlying3 h2
  injection e0 with e0
  injection e1 with e1
  injection e2 with e2
  subst e0 e1 e2
  have bx := bounds_i64 wx
  have by' := bounds_i64 wy
  exact ⟨A, n, c, l, x, y, rfl, hl, hnc, hc, bx.1, bx.2, by'.1, by'.2⟩
end

end Go.Proofs.Ytlopcmmbkfjidaa
