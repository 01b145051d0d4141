/-
  Contracts: slices.Sort of a row of one's own; snapshot's Dead, Kill.
-/
import Derived.Test.YtjopobkcijkpmaaSnN
import Derived.Test.YtjopobkcijkpmaaSrt
import Derived.Sort.OwnSortedInts
namespace Go.Proofs.Ytjopobkcijkpmaa
open Go.RowKit

/-- The list, rising. -/
def srtL (l : List Int) : List Int := l.mergeSort fun x y => decide (x ≤ y)
theorem srt_len (l : List Int) : (srtL l).length = l.length := List.length_mergeSort _
theorem srt_mem {l : List Int} {x : Int} : x ∈ srtL l ↔ x ∈ l := List.mem_mergeSort

theorem SortI_any (A : Option Addr) (n c base : Nat) (l : List Int) (w : World) (ho : w.ownsRow base 3 1 (.slice A n c) n (l.map (Value.int .i64))) (h0 : 0 < n) (hn : n ≤ 1000000) :
    Calls Try.prog 89 #[.slice A n c] w fun e w' => e = .returned (.tuple #[]) ∧ w'.ownsRow base 3 1 (.slice A n c) n ((srtL l).map (Value.int .i64)) ∧ w.grownBy w' (Value.slice A n c).ownBlock := by
  have hl : l.length = n := by have := ho.1; simpa using this
  subst hl
  rcases ho.2 with ⟨_, e⟩ | ⟨g, cap, cur, e, h1, h2, h3, h4, h5, h6⟩
  · omega
  · cases e
    rw [Nat.mul_one] at h6
    refine (Try.slices_Sort_int g 0 c l w (holds_of_blockI h2 h6) (Array.getElem?_eq_some_iff.1 h2).1 (by omega)).mono ?_
    rintro e w' ⟨rfl, q, os, rfl⟩
    exact ⟨rfl, ownsRow_sortedI (srt_len l) h1 h2 h3 h4 h5, grownBy_sortedI _⟩

set_option maxHeartbeats 400000 in
theorem Dead_any (w : World) (base g : Nat) (F : Nat → Prop) (T : TabS) (h : IsT w base g F T) :
    Calls Try.prog 50 #[.pointer (some ⟨g, 0, none⟩)] w fun e w' => ∃ v, e = .returned v ∧ w'.ownsRow w.heap.size 3 1 v T.dead.length (T.dead.map (Value.int .i64)) ∧ Below w.heap.size w w' := by
  obtain ⟨b, ov, dv, hd, hF⟩ := h
  have HM := Lib.hid (tmade_yes g w hd.tb.c0)
  have c6 := hd.tb.c6
  obtain ⟨Ap, cp, rfl, _, _⟩ := own_form hd.de
  have HC := Lib.hid (CloneI_any Ap _ cp T.dead w (own_rd hd.de) (by have := hd.d2; omega))
  clear hd hF
  generalize T.dead.length = np at *
  go_enter Try.func50, Try.ntmps50
  go_wp2_with fail
  refine HM.out.mono ?_
  rintro e w' ⟨rfl, rfl⟩
  go_wp2_with fail
  refine HC.out.mono ?_
  rintro e w1 ⟨v, rfl, ho, hb⟩
  obtain ⟨Av, cv, rfl, _, _⟩ := own_form ho
  go_wp2_with fail
  go_ret
  exact ⟨_, rfl, ho, hb⟩

theorem Off.trans2 {S R : Nat → Prop} {w w' w'' : World} (h : Off S w w') (k : Off R w' w'') (hR : ∀ j, j < w.heap.size → R j → S j) : Off S w w'' :=
  ⟨k.os.trans h.os, k.tape.trans h.tape, k.output.trans h.output, Nat.le_trans h.size k.size, fun j hj hS => (k.block j (Nat.lt_of_lt_of_le hj h.size) (fun hr => hS (hR j hj hr))).trans (h.block j hj hS)⟩

section
variable {w w2 w3 : World} {base g b : Nat} {ov dv v : Value} {T : TabS} {l : List Int}
/-- The row of the dead ones has turned. -/
theorem TK.dead_row (h : TK w base g b ov dv T) (hg : w.grownBy w3 dv.ownBlock) (hr : w3.ownsRow base 3 1 dv l.length (l.map (Value.int .i64))) (hl : l.length ≤ 64) :
    TK w3 base g b ov dv { T with dead := l } ∧ Off (tfoot g b ov dv) w w3 := by
  have o4 : Off (fun k => dv.ownBlock = some k) w w3 := Off.of_grown hg (fun k e => e)
  refine ⟨⟨h.tb.off o4 (row_ne h.de h.tb (by decide)), h.mp.off o4 (row_nm h.de h.mp), ownsRow_off h.op o4 (fun k e e' => ?_), hr, h.f1, h.f2, h.n1, h.n2, h.o2, hl, h.oi, h.gb, h.bb, h.ap⟩, o4.mono (fun k _ e => .inr (.inr (.inr e)))⟩
  rcases h.ap with h0 | h0
  · rw [h0] at e; cases e
  · exact h0 (by rw [e, e'])
theorem TK.dead_turned (h : TK w base g b ov dv T) (hb : Below w.heap.size w w2) (hg : w2.grownBy w3 dv.ownBlock) (hr : w3.ownsRow base 3 1 v l.length (l.map (Value.int .i64)))
    (hvb : v.ownBlock = dv.ownBlock ∨ ∃ k, v.ownBlock = some k ∧ w2.heap.size ≤ k) (hl : l.length ≤ 64) :
    TB w3 g b T.first T.next T.last ov dv ∧ TK (w3.setCell ⟨g, 6, none⟩ v) base g b ov v { T with dead := l } ∧ Off (tfoot g b ov dv) w (w3.setCell ⟨g, 6, none⟩ v) ∧ ∀ k, tfoot g b ov v k → tfoot g b ov dv k ∨ w.heap.size ≤ k := by
  have hgb := h.ne_gb
  have h2 := h.below hb
  have s2 := hb.size
  have o4 : Off (fun k => dv.ownBlock = some k) w2 w3 := Off.of_grown hg (fun k e => e)
  have tb4 := h2.tb.off o4 (row_ne h2.de h2.tb (by decide))
  have m4 := h2.mp.off o4 (row_nm h2.de h2.mp)
  have op4 := ownsRow_off h2.op o4 (fun k e e' => by
    rcases h.ap with h0 | h0
    · rw [h0] at e; cases e
    · exact h0 (by rw [e, e']))
  have o5 : Off (· = g) w3 (w3.setCell ⟨g, 6, none⟩ v) := (Off.refl _ w3).setCell _ rfl
  have hbo : ∀ k, ov.ownBlock = some k → k < w.heap.size := fun k e => (h.op.lt k e).2
  refine ⟨tb4, ⟨tb4.s6 v, m4.off o5 (Ne.symm hgb), ownsRow_off op4 o5 (fun k e e' => row_ne op4 tb4 (by decide) (by rw [e, e'])), ownsRow_off hr o5 (fun k e e' => row_ne hr tb4 (by decide) (by rw [e, e'])), h.f1, h.f2, h.n1, h.n2, h.o2, hl, h.oi, h.gb, h.bb, ?_⟩, ?_, fun k hk => ?_⟩
  · rcases hvb with e | ⟨k, e, hk⟩
    · rw [e]; exact h.ap
    · refine .inr fun e' => ?_
      rw [e] at e'
      have := hbo k e'
      omega
  · have q1 : Off (tfoot g b ov dv) w w2 := Off.of_below hb
    have q4 := o4.mono (T := tfoot g b ov dv) (fun k _ e => .inr (.inr (.inr e)))
    have q5 := o5.mono (T := tfoot g b ov dv) (fun k _ e => .inl e)
    exact (q1.trans q4).trans q5
  · rcases hk with hk | hk | hk | hk
    · exact .inl (.inl hk)
    · exact .inl (.inr (.inl hk))
    · exact .inl (.inr (.inr (.inl hk)))
    · rcases hvb with e | ⟨k', e, hk'⟩
      · exact .inl (.inr (.inr (.inr (by rw [← e]; exact hk))))
      · rw [e] at hk
        injection hk with hk
        exact .inr (by omega)
end

/-- Kill: what it answers, and the table then. -/
def kilE (T : TabS) (tx : Int) : Int := if askT T tx ≠ 0 then askT T tx else if 64 ≤ T.dead.length then 5 else 0
def kilT (T : TabS) (tx : Int) : TabS := if kilE T tx ≠ 0 then T else { endT T tx (4, 0) with dead := srtL (T.dead ++ [tx]) }

set_option maxRecDepth 100000 in
set_option maxHeartbeats 2000000 in
theorem Kill_any (w : World) (base g : Nat) (F : Nat → Prop) (T : TabS) (tx : Int) (h : IsT w base g F T) (hbase : base ≤ w.heap.size) (h1 : -9223372036854775808 ≤ tx) (h2 : tx ≤ 9223372036854775807) :
    Calls Try.prog 47 #[.pointer (some ⟨g, 0, none⟩), .int .i64 tx] w fun e w' => e = .returned (.int .i64 (kilE T tx)) ∧ TPost w base g F (kilT T tx) w' := by
  have HA := Lib.hid (tasked_any w base g F T tx h h1 h2)
  have HS := Lib.hid (fun W (hW : Below w.heap.size w W) => TPost.grown h hW)
  by_cases ha : askT T tx = 0
  · have q1 : (askT T tx != 0) = false := by simp [ha]
    by_cases hf : 64 ≤ T.dead.length
    · have e1 : kilE T tx = 5 := by unfold kilE; rw [if_neg (by simp [ha]), if_pos hf]
      have e2 : kilT T tx = T := by unfold kilT; rw [e1, if_pos (by decide)]
      rw [e1, e2]
      rw [ha] at HA
      clear e1 e2 ha q1
      have HC : Hid (∀ W : World, Below w.heap.size w W → ∃ Ap cp, W.cell? ⟨g, 6, none⟩ = some (.slice Ap T.dead.length cp)) := Lib.hid (fun W hW => by
        obtain ⟨b, ov, dv, hd, hF⟩ := h
        obtain ⟨Ap, cp, rfl, _, _⟩ := own_form hd.de
        exact ⟨Ap, cp, (hd.below hW).tb.c6⟩)
      generalize T.dead.length = nd at *
      have t1 : decide ((64 : Int) ≤ (nd : Int)) = true := by simp; omega
      have t2 : decide (64 ≤ nd) = true := by simp; omega
      clear h
      go_enter Try.func47, Try.ntmps47
      go_wp2_with fail
      refine HA.out.mono ?_
      rintro e w1 ⟨rfl, hb⟩
      obtain ⟨Ap, cp, c6⟩ := HC.out w1 hb
      go_wp2_with fail
      go_ret
      exact ⟨rfl, HS.out w1 hb⟩
    · have e1 : kilE T tx = 0 := by unfold kilE; rw [if_neg (by simp [ha]), if_neg hf]
      have e2 : kilT T tx = { endT T tx (4, 0) with dead := srtL (T.dead ++ [tx]) } := by unfold kilT; rw [e1, if_neg (by simp)]
      have HEN := Lib.hid (fun W (hW : Below w.heap.size w W) => end_any W base g F T tx 4 0 (h.below hW) h1 h2)
      have HC : Hid (∀ W : World, Below w.heap.size w W → ∃ Ap cp, W.cell? ⟨g, 6, none⟩ = some (.slice Ap T.dead.length cp)) := Lib.hid (fun W hW => by
        obtain ⟨b, ov, dv, hd, hF⟩ := h
        obtain ⟨Ap, cp, rfl, _, _⟩ := own_form hd.de
        exact ⟨Ap, cp, (hd.below hW).tb.c6⟩)
      rw [e1, e2]
      rw [ha] at HA
      clear e1 e2 ha q1
      obtain ⟨i0, hi0, hz0, hz1, hz2⟩ := info_parts info_int
      -- what the end leaves
      have HFIN : Hid (∀ (w1 w2 : World), Below w.heap.size w w1 → TPost w1 base g F (endT T tx (4, 0)) w2 → ∃ b ov Ap cp, TB w2 g b T.first T.next T.last ov (.slice Ap T.dead.length cp) ∧ w2.ownsRow base 3 1 (.slice Ap T.dead.length cp) T.dead.length (T.dead.map (Value.int .i64)) ∧ w.heap.size ≤ w2.heap.size ∧
          ∀ (v : Value) (w4 : World), w4.ownsRow base 3 1 v (T.dead.length + 1) (T.dead.map (Value.int .i64) ++ [.int .i64 tx]) → (w2.alloc (.cells #[.int .i64 tx] 3)).grownBy w4 (Value.slice Ap T.dead.length cp).ownBlock →
            (v.ownBlock = (Value.slice Ap T.dead.length cp).ownBlock ∨ (v.ownBlock = some (w2.heap.size + 1) ∧ (w2.alloc (.cells #[.int .i64 tx] 3)).grownBy w4 none)) →
            TB w4 g b T.first T.next T.last ov (.slice Ap T.dead.length cp) ∧ TB (w4.setCell ⟨g, 6, none⟩ v) g b T.first T.next T.last ov v ∧ (w4.setCell ⟨g, 6, none⟩ v).ownsRow base 3 1 v (T.dead.length + 1) ((T.dead ++ [tx]).map (Value.int .i64)) ∧
            ∀ w5, w5.ownsRow base 3 1 v (T.dead.length + 1) ((srtL (T.dead ++ [tx])).map (Value.int .i64)) → (w4.setCell ⟨g, 6, none⟩ v).grownBy w5 v.ownBlock → TPost w base g F { endT T tx (4, 0) with dead := srtL (T.dead ++ [tx]) } w5) := Lib.hid (by
        intro w1 w2 hb1 hp
        obtain ⟨ho, F', ⟨b, ov, dv, hd, hF'⟩, hsub⟩ := hp.from hb1
        have hde : w2.ownsRow base 3 1 dv T.dead.length (T.dead.map (Value.int .i64)) := hd.de
        obtain ⟨Ap, cp, rfl, _, _⟩ := own_form hde
        refine ⟨b, ov, Ap, cp, hd.tb, hde, ho.size, fun v w4 k1 k2 k3 => ?_⟩
        obtain ⟨p1, p2, p3, p4⟩ := hd.dead_turned (l := T.dead ++ [tx]) (gr_alloc (gr_refl w2) (.cells #[.int .i64 tx] 3)) k2 (by rw [List.length_append, List.map_append]; exact k1) (by
          rcases k3 with k3 | ⟨k3, _⟩
          · exact .inl k3
          · exact .inr ⟨_, k3, by simp⟩) (by rw [List.length_append]; simp; omega)
        have hlen : (T.dead ++ [tx]).length = T.dead.length + 1 := by simp
        have hde4 := p2.de
        dsimp only at hde4
        rw [hlen] at hde4
        refine ⟨p1, p2.tb, hde4, fun w5 k5 k6 => ?_⟩
        obtain ⟨r1, r2⟩ := p2.dead_row (l := srtL (T.dead ++ [tx])) k6 (by rw [srt_len, hlen]; exact k5) (by rw [srt_len, hlen]; omega)
        have hdv : ∀ k, tfoot g b ov (.slice Ap T.dead.length cp) k → F k ∨ w.heap.size ≤ k := fun k hk => hsub k ((hF' k).2 hk)
        have hv : ∀ k, tfoot g b ov v k → F k ∨ w.heap.size ≤ k := fun k hk => by
          rcases p4 k hk with hk | hk
          · exact hdv k hk
          · exact .inr (Nat.le_trans ho.size hk)
        refine ⟨(ho.trans2 p3 (fun k hj hk => ?_)).trans2 r2 (fun k hj hk => ?_), _, ⟨b, ov, v, r1, fun k => Iff.rfl⟩, hv⟩
        · rcases hdv k hk with hk | hk
          · exact hk
          · omega
        · rcases hv k hk with hk | hk
          · exact hk
          · omega)
      have hmx : T.dead.length + 1 ≤ maxLen := by simp only [maxLen]; omega
      have HSRT := Lib.hid (fun (A : Option Addr) (c : Nat) (W : World) ho => SortI_any A (T.dead.length + 1) c base (T.dead ++ [tx]) W ho (by omega) (by omega))
      generalize T.dead.length = nd at *
      have t1 : decide ((64 : Int) ≤ (nd : Int)) = false := by simp; omega
      have t2 : decide (64 ≤ nd) = false := by simp; omega
      generalize endT T tx (4, 0) = T2 at *
      generalize T.first = fi at *
      generalize T.next = ne at *
      generalize T.last = la at *
      clear h
      go_enter Try.func47, Try.ntmps47
      go_wp2_with fail
      refine HA.out.mono ?_
      rintro e w1 ⟨rfl, hb⟩
      obtain ⟨Ap, cp, c6⟩ := HC.out w1 hb
      go_wp2_with fail
      refine (HEN.out w1 hb).mono ?_
      rintro e w2 ⟨⟨x, rfl⟩, hp⟩
      obtain ⟨b, ov, Ad, cd, tb2, ho2, hsz, hrest⟩ := HFIN.out w1 w2 hb hp
      have HREST := Lib.hid hrest
      have HO2 := Lib.hid ho2
      have y6 := tb2.c6
      have HRD : Hid (Rd (w2.alloc (.cells #[.int .i64 tx] 3)) 1 (some ⟨w2.heap.size, 0, none⟩) 1 [.int .i64 tx]) := Lib.hid (Rd.new w2 _ #[_] 1 1 rfl)
      clear hrest ho2 tb2 hp c6 HFIN HEN HC
      go_wp2_with (at_builtin; refine wpList_append_Rd _ rfl (.tmp 26) (.tmp 28) _ rfl base 3 i0 _ 1 8 Try.underlying22 hi0 hz0 hz1 hz2 rfl (.slice Ad nd cd) nd _ rfl (HO2.out.alloc _) (some ⟨w2.heap.size, 0, none⟩) 1 1 [.int .i64 tx] rfl HRD.out (by simp [Value.oneCell']) (by omega) hmx (by rw [World.size_alloc]; omega) ?_; intro v4 w4 hown4 hg4 _ hbl4; obtain ⟨tb4, tb5, ho5, hfin⟩ := HREST.out v4 w4 hown4 hg4 (by rw [World.size_alloc] at hbl4; exact hbl4); obtain ⟨Av, cv, rfl, _, _⟩ := own_form hown4; have x6 := tb4.c6; have u6 := tb4.frozen 6; have x7 := tb5.c6; have HFI := Lib.hid hfin; have HO5 := Lib.hid ho5; clear tb4 tb5 hown4 hg4 hbl4 hfin ho5)
      refine (HSRT.out _ _ _ HO5.out).mono ?_
      rintro e w6 ⟨rfl, k1, k2⟩
      have hpost := HFI.out w6 k1 k2
      clear k1 k2
      go_wp2_with fail
      go_ret
      exact ⟨rfl, hpost⟩
  · have q1 : (askT T tx != 0) = true := by simp [ha]
    have e1 : kilE T tx = askT T tx := by unfold kilE; rw [if_pos ha]
    have e2 : kilT T tx = T := by unfold kilT; rw [e1, if_pos ha]
    rw [e1, e2]
    generalize askT T tx = a at *
    clear h ha e1 e2
    go_enter Try.func47, Try.ntmps47
    go_wp2_with fail
    refine HA.out.mono ?_
    rintro e w1 ⟨rfl, hb⟩
    go_wp2_with fail
    go_ret
    exact ⟨rfl, HS.out w1 hb⟩

end Go.Proofs.Ytjopobkcijkpmaa
