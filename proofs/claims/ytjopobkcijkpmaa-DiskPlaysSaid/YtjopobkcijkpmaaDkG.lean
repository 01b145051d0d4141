/-
  Contract: disk's Copy.
-/
import Derived.Test.YtjopobkcijkpmaaDkF
namespace Go.Proofs.Ytjopobkcijkpmaa
open Go.RowKit

set_option maxHeartbeats 400000 in
theorem CloneL_any (ad : Addr) (n c : Nat) (xs : List Value) (w : World) (ha : Rd w 1 (some ad) n xs) (h1 : ∀ u ∈ xs, u.oneCell' = true) (hn : n ≤ 1000000) :
    Calls Try.prog 76 #[.slice (some ad) n c] w fun e w' => ∃ v, e = .returned v ∧ w'.ownsRow w.heap.size 33 1 v n xs ∧ (0 < n → v ≠ .slice none 0 0) ∧ Below w.heap.size w w' := by
  obtain ⟨i0, hi0, hz0, hz1, hz2⟩ := info_parts info_lists
  have q22 : ∀ (w : World) (a : Option Addr) (n c n' c' : Nat), (binOp .eql 31 (.slice a n c) (.slice none n' c')).run Try.prog w = .ok (.bool a.isNone) w := fun w a n c n' c' => Lib.run_eql_slice_nil w _ _ a n c n' c' Try.underlying31
  have HR := Lib.hid ha
  have HO := Lib.hid h1
  clear h1 ha
  go_enter Try.func76, Try.ntmps76
  go_wp2_with (at_builtin; refine wpList_append_Rd _ rfl _ _ _ rfl w.heap.size 33 i0 _ 1 24 Try.underlying31 hi0 hz0 hz1 hz2 rfl (.slice (some ⟨w.heap.size, 0, none⟩) 0 0) 0 [] rfl (World.ownsRow_made w #[] 0 (Nat.le_refl _) (Nat.zero_le _) rfl) (some ad) n c _ rfl (HR.out.alloc _) HO.out (by omega) (by simp only [maxLen]; omega) (by simp) ?_; intro v1 w1 hown1 hg1 hnil _)
  go_ret
  refine ⟨v1, rfl, by simpa using hown1, fun _ e => ?_, ((Below.refl _ _).alloc (Nat.le_refl _) _).grown hg1 (by simp) (by simp [Value.ownBlock])⟩
  have := (hnil.1 e).1
  cases this

set_option maxHeartbeats 400000 in
theorem CloneW_any (A : Option Addr) (n c : Nat) (xs : List Value) (w : World) (ha : Rd w 2 A n xs) (h1 : ∀ u ∈ xs, u.oneCell' = true) (hn : n ≤ 1000000) :
    Calls Try.prog 77 #[.slice A n c] w fun e w' => ∃ v, e = .returned v ∧ w'.ownsRow w.heap.size 110 2 v n xs ∧ Below w.heap.size w w' := by
  obtain ⟨i0, hi0, hz0, hz1, hz2⟩ := info_parts info_write
  have q22 : ∀ (w : World) (a : Option Addr) (n c n' c' : Nat), (binOp .eql 76 (.slice a n c) (.slice none n' c')).run Try.prog w = .ok (.bool a.isNone) w := fun w a n c n' c' => Lib.run_eql_slice_nil w _ _ a n c n' c' Try.underlying76
  have HR := Lib.hid ha
  have HO := Lib.hid h1
  rcases A with _ | ad
  · have h0 : n = 0 := by
      rcases Nat.eq_zero_or_pos n with h0 | h0
      · exact h0
      · obtain ⟨ad, e, _⟩ := ha.2 h0
        cases e
    subst h0
    have hx : xs = [] := List.eq_nil_of_length_eq_zero (by simpa using ha.1)
    subst hx
    clear h1 ha
    go_enter Try.func77, Try.ntmps77
    go_wp2
    go_ret
    exact ⟨_, rfl, ⟨rfl, .inl ⟨rfl, rfl⟩⟩, Below.refl _ _⟩
  · clear h1 ha
    go_enter Try.func77, Try.ntmps77
    go_wp2_with (at_builtin; refine wpList_append_Rd _ rfl _ _ _ rfl w.heap.size 110 i0 _ 2 32 Try.underlying76 hi0 hz0 hz1 hz2 rfl (.slice (some ⟨w.heap.size, 0, none⟩) 0 0) 0 [] rfl (World.ownsRow_made w #[] 0 (Nat.le_refl _) (Nat.zero_le _) rfl) (some ad) n c _ rfl (HR.out.alloc _) HO.out (by omega) (by simp only [maxLen]; omega) (by simp) ?_; intro v1 w1 hown1 hg1 hnil _)
    go_ret
    exact ⟨v1, rfl, by simpa using hown1, ((Below.refl _ _).alloc (Nat.le_refl _) _).grown hg1 (by simp) (by simp [Value.ownBlock])⟩

theorem own_rd {w : World} {base : Nat} {e : TypeId} {size n : Nat} {A : Option Addr} {c : Nat} {xs : List Value} (h : w.ownsRow base e size (.slice A n c) n xs) : Rd w size A n xs := by
  refine ⟨h.1, fun h0 => ?_⟩
  rcases h.2 with ⟨e, _⟩ | ⟨g, cap, cur, e, _⟩
  · injection e with e1 e2; omega
  · injection e with e1 e2 e3
    subst e1 e3
    exact ⟨_, rfl, h.cells (g := g) rfl⟩

theorem own_low {w : World} {b base : Nat} {e : TypeId} {size n : Nat} {v : Value} {xs : List Value} (h : w.ownsRow base e size v n xs) (hb : b ≤ base) : w.ownsRow b e size v n xs := by
  refine ⟨h.1, ?_⟩
  rcases h.2 with h | ⟨g, cap, cur, rfl, hg, r⟩
  · exact .inl h
  · exact .inr ⟨g, cap, cur, rfl, by omega, r⟩

theorem own_plain {w : World} {base : Nat} {e : TypeId} {size n : Nat} {v : Value} {xs : List Value} (h : w.ownsRow base e size v n xs) (h0 : 0 < n) : ∃ g c, v = .slice (some ⟨g, 0, none⟩) n c := by
  rcases h.2 with ⟨_, h⟩ | ⟨g, cap, cur, rfl, _⟩
  · omega
  · exact ⟨g, cap, rfl⟩

set_option maxRecDepth 100000 in
set_option maxHeartbeats 2000000 in
theorem Copy_any (w : World) (ok : Nat → Prop) (base g : Nat) (F : Nat → Prop) (D : DiskS) (h : IsD w ok base g F D) (hpl : D.pending.length ≤ 1000000) :
    Calls Try.prog 40 #[.pointer (some ⟨g, 0, none⟩)] w fun e w' => ∃ g' F', e = .returned (.pointer (some ⟨g', 0, none⟩)) ∧ IsD w' ok w.heap.size g' F' D ∧ Below w.heap.size w w' := by
  obtain ⟨dr, dc, pv, dvs, pvs, hd, hF⟩ := h
  have HM := Lib.hid (made_yes g w hd.db.c0)
  have c1 := hd.db.c1
  have h1d : ∀ u ∈ dvs, u.oneCell' = true := by
    intro u hu
    obtain ⟨j, hj, rfl⟩ := List.getElem_of_mem hu
    have hj' : j < D.blocks.length := by rw [← hd.dl]; exact hj
    exact (hd.dv j _ _ (List.getElem?_eq_getElem hj) (List.getElem?_eq_getElem hj')).one
  have h1p : ∀ u ∈ wrs pvs, u.oneCell' = true := one_wrs pvs (fun q hq => by
    obtain ⟨j, hj, rfl⟩ := List.getElem_of_mem hq
    have hj' : j < D.pending.length := by rw [← hd.pl]; exact hj
    exact (hd.pw j _ _ (List.getElem?_eq_getElem hj) (List.getElem?_eq_getElem hj')).2.2.bv.one)
  have HCL := Lib.hid (CloneL_any ⟨dr, 0, none⟩ _ dc dvs w (own_rd hd.dur) h1d (by have := hd.n2; omega))
  have HDK := Lib.hid hd
  have H1P := Lib.hid h1p
  have n1 := hd.n1
  obtain ⟨Ap, cp, rfl, _, _⟩ := own_form hd.pen
  clear hd hF h1d h1p
  go_enter Try.func40, Try.ntmps40
  go_wp2_with fail
  refine HM.out.mono ?_
  rintro e w' ⟨rfl, rfl⟩
  go_wp2_with fail
  refine HCL.out.mono ?_
  rintro e w1 ⟨v1, rfl, ho1, _, hb1⟩
  obtain ⟨dr', dc', rfl⟩ := own_plain ho1 n1
  go_wp2_with fail
  refine (begun_any _ _ _ w1).mono ?_
  rintro e w2 ⟨rfl, hdb2, hb2⟩
  have hb12 := gr_trans hb1 hb2
  have hd2 := HDK.out.below hb12
  have c2 := hd2.db.c2
  have HCW := Lib.hid (CloneW_any Ap _ cp (wrs pvs) w2 (own_rd hd2.pen) H1P.out hpl)
  have hb2' : Below w1.heap.size w1 w2 := hb2
  have hszg : w.heap.size ≤ w1.heap.size := hb1.size
  generalize hg' : w1.heap.size = g' at hdb2 hszg ⊢
  clear HCL HM
  go_wp2_with fail
  refine HCW.out.mono ?_
  rintro e w3 ⟨v3, rfl, ho3, hb3⟩
  obtain ⟨A3, c3, rfl, _, _⟩ := own_form ho3
  have hg'w : w.heap.size ≤ g' := hszg
  have hgg : g ≠ g' := by have := HDK.out.db.lt; omega
  have hb13 := gr_trans hb12 hb3
  have db3 := hdb2.below hb3
  have HDB3 := Lib.hid db3
  have dg3 := (HDK.out.below hb13).db
  have HO1 := Lib.hid (ho1.kept (row := none) ⟨(gr_trans hb2 hb3).os, (gr_trans hb2 hb3).tape, (gr_trans hb2 hb3).output, (gr_trans hb2 hb3).size, fun k hk _ => (gr_trans hb2 hb3).block k hk⟩ (.inr (by simp [Value.ownBlock])))
  have HO3 := Lib.hid ho3
  have HB13 := Lib.hid hb13
  have HSZ2 := Lib.hid (gr_trans hb1 hb2).size
  have HG1 := Lib.hid hg'
  have hz2 := db3.frozen 2
  have cz2 := db3.c2
  have db4 := db3.s2 (.slice A3 D.pending.length c3)
  have o4 : Off (· = g') w3 (w3.setCell ⟨g', 2, none⟩ (.slice A3 D.pending.length c3)) := (Off.refl _ w3).setCell _ rfl
  have dg4 := dg3.off o4 hgg
  clear ho1 ho3 hb1 hb2 hb12 hdb2 hd2 hb3 hb13 db3 dg3 c1 c2 HCW hg'
  go_upto_region 5 with (fail)
  generalize w3.setCell ⟨g', 2, none⟩ (.slice A3 D.pending.length c3) = w4 at *
  have hz3 := db4.frozen 3
  have cz3 := db4.c3
  have cg3 := dg4.c3
  have db5 := db4.s3 D.down
  have o5 : Off (· = g') w3 (w4.setCell ⟨g', 3, none⟩ (.bool D.down)) := o4.setCell _ rfl
  have dg5 := dg4.off ((Off.refl (fun x => x = g') w4).setCell (g := g') (j := 3) (.bool D.down) rfl) hgg
  clear cz2 hz2
  go_upto_region 6 with (fail)
  clear cz3 hz3 cg3 db4 dg4 o4
  generalize w4.setCell ⟨g', 3, none⟩ (.bool D.down) = w5 at *
  have HL6 := Lib.hid (aLoad_any ⟨g, 4, none⟩ D.power w5.drew dg5.c4)
  have HS6 := Lib.hid (aStore_any ⟨g', 4, none⟩ D.power _ w5.drew db5.c4 (db5.frozen 4))
  have db6 : DB (w5.setCell ⟨g', 4, none⟩ (.int .i64 D.power)).drew g' _ _ _ D.power (-1) 0 := db5.s4 D.power
  have o6 : Off (· = g') w3 (w5.setCell ⟨g', 4, none⟩ (.int .i64 D.power)).drew := (o5.setCell _ rfl).drewN 1
  have dg6 : DB (w5.setCell ⟨g', 4, none⟩ (.int .i64 D.power)).drew g _ _ _ _ _ _ := dg5.off (((Off.refl (fun x => x = g') w5).setCell (g := g') (j := 4) (.int .i64 D.power) rfl).drewN 1) hgg
  clear db5 dg5 o5
  go_region_with (first | ((with_reducible refine HL6.out.mono ?_); rintro e w' ⟨rfl, rfl⟩) | ((with_reducible refine HS6.out.mono ?_); rintro e w' ⟨⟨x, rfl⟩, rfl⟩))
  clear HL6 HS6
  generalize (w5.setCell ⟨g', 4, none⟩ (.int .i64 D.power)).drew = w6 at *
  go_wp2_with fail
  have HL7 := Lib.hid (aLoad_any ⟨g, 5, none⟩ D.fault w6.drew dg6.c5)
  have HS7 := Lib.hid (aStore_any ⟨g', 5, none⟩ D.fault _ w6.drew db6.c5 (db6.frozen 5))
  have db7 : DB (w6.setCell ⟨g', 5, none⟩ (.int .i64 D.fault)).drew g' _ _ _ D.power D.fault 0 := db6.s5 D.fault
  have o7 : Off (· = g') w3 (w6.setCell ⟨g', 5, none⟩ (.int .i64 D.fault)).drew := (o6.setCell _ rfl).drewN 1
  have dg7 : DB (w6.setCell ⟨g', 5, none⟩ (.int .i64 D.fault)).drew g _ _ _ _ _ _ := dg6.off (((Off.refl (fun x => x = g') w6).setCell (g := g') (j := 5) (.int .i64 D.fault) rfl).drewN 1) hgg
  clear db6 dg6 o6
  go_region_with (first | ((with_reducible refine HL7.out.mono ?_); rintro e w' ⟨rfl, rfl⟩) | ((with_reducible refine HS7.out.mono ?_); rintro e w' ⟨⟨x, rfl⟩, rfl⟩))
  clear HL7 HS7
  generalize (w6.setCell ⟨g', 5, none⟩ (.int .i64 D.fault)).drew = w7 at *
  have cz6 := db7.c6
  have hz6 := db7.frozen 6
  have cg6 := dg7.c6
  have db8 := db7.s6 D.wi
  have o8 : Off (· = g') w3 (w7.setCell ⟨g', 6, none⟩ (.int .i64 D.wi)) := o7.setCell _ rfl
  have HDB8 := Lib.hid db8
  clear db7 dg7 o7 db8
  go_wp2_with fail
  go_ret
  have hb3w : Below w.heap.size w (w7.setCell ⟨g', 6, none⟩ (.int .i64 D.wi)) := HB13.out.trans (o8.below (fun k e => by rw [e]; exact hg'w) HB13.out.size)
  have hB : ∀ k m, k = g' → BB w3 k m → False := fun k m e hB => by subst e; exact hB.ne HDB3.out (by decide) rfl
  have hn1 : ∀ k, (Value.slice (some ⟨dr', 0, none⟩) D.blocks.length dc').ownBlock = some k → ¬ k = g' := fun k e e' => by
    subst e'
    rcases HO1.out.2 with ⟨e5, _⟩ | ⟨q, cap, cur, e5, _, hq, _⟩
    · cases e5
    · rw [e5] at e
      simp [Value.ownBlock] at e
      subst e
      exact cells_ne hq HDB3.out (by decide)
  have hn3 : ∀ k, (Value.slice A3 D.pending.length c3).ownBlock = some k → ¬ k = g' := fun k e e' => by
    subst e'
    rcases HO3.out.2 with ⟨e5, _⟩ | ⟨q, cap, cur, e5, _, hq, _⟩
    · rw [e5] at e; simp [Value.ownBlock] at e
    · rw [e5] at e
      simp [Value.ownBlock] at e
      subst e
      exact cells_ne hq HDB3.out (by decide)
  have hd3 := HDK.out.below HB13.out
  exact ⟨g', foot g' dr' (.slice A3 D.pending.length c3), rfl, ⟨dr', dc', .slice A3 D.pending.length c3, dvs, pvs, ⟨HDB8.out, ownsRow_off HO1.out o8 hn1, own_low (ownsRow_off HO3.out o8 hn3) HSZ2.out, hd3.pl,
    fun i u l h1 h2 => (hd3.dv i u l h1 h2).off o8 hB, fun i q p h1 h2 => ⟨(hd3.pw i q p h1 h2).1, (hd3.pw i q p h1 h2).2.1, (hd3.pw i q p h1 h2).2.2.off o8 hB⟩, hd3.n1, hd3.n2, hd3.p1, hd3.p2, hd3.f1, hd3.f2, hg'w⟩, fun k => Iff.rfl⟩, hb3w⟩

end Go.Proofs.Ytjopobkcijkpmaa
