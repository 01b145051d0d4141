/-
  roles.Take.
-/
import Derived.Test.YtfgkadkmgciamaaRoP
import Derived.Laws.EntriesVeiled
namespace Go.Proofs.Ytfgkadkmgciamaa
open Go Go.RowKit Go.Maps Go.WideMaps

/-- What is left behind a Take. -/
def Tk (l : List Gr) (ow : Str) (g : Gr) (out : List Gr) : Prop :=
  ∃ ks : List Str, (∀ x, x ∈ ks ↔ Held (restL l g) ow g.tb g.pv x) ∧ out = (restL l g).filter fun h => !(h.tb == g.tb && h.pv == g.pv && !(ks.contains h.gb))
theorem Tk.unique {l : List Gr} {ow : Str} {g : Gr} {a b : List Gr} (ha : Tk l ow g a) (hb : Tk l ow g b) : a = b := by
  obtain ⟨ks, h1, rfl⟩ := ha
  obtain ⟨k2, h2, rfl⟩ := hb
  have e : ∀ x, ks.contains x = k2.contains x := fun x => by
    refine Bool.eq_iff_iff.2 ?_
    rw [List.contains_iff_mem, List.contains_iff_mem, h1 x, h2 x]
  simp only [e]
theorem restL_take {l : List Gr} {g : Gr} {j : Nat} {x : Gr} (hx : l[j]? = some x) : restL (l.take (j + 1)) g = restL (l.take j) g ++ if alikeB x g then [] else [x] := by
  unfold restL
  rw [take_snoc hx, List.filter_append]
  congr 1
  cases h : alikeB x g <;> simp [h]
theorem restL_len (l : List Gr) (g : Gr) : (restL l g).length ≤ l.length := List.length_filter_le _ _

/-- What Take answers. -/
def TakeP (l : List Gr) (ow : Str) (g : Gr) (base : Nat) (e : Ending) (w' : World) : Prop :=
  (e = .returned (.tuple #[.slice none 0 0, .int .i64 311]) ∧ (restL l g).length = l.length) ∨ ∃ v out, e = .returned (.tuple #[v, .int .i64 0]) ∧ (restL l g).length ≠ l.length ∧ Tk l ow g out ∧ EO EG 5 30 w' base v out

theorem egTake : ∀ args w, (callFunc 43 args).run Try.prog w = .ok (.enter 43 args) w := enters_of Try.func43 (by kernel_rfl) rfl

set_option maxRecDepth 100000 in
set_option maxHeartbeats 4000000 in
theorem Take_any (A : Option Addr) (n c : Nat) (l : List Gr) (ow : Str) (g : Gr) (w : World) (h : ER EG 5 w A n l) (hn : n ≤ 2199023255552) (hf : FitG l) (hr : ow.length ≤ maxLen) :
    Calls Try.prog 13 #[.slice A n c, .string ⟨ow.toArray⟩, .agg #[.string ⟨g.tb.toArray⟩, .int .u8 g.pv, .string ⟨g.gt.toArray⟩, .string ⟨g.gb.toArray⟩, .bool g.op]] w fun e w' => TakeP l ow g w.heap.size e w' ∧ Below w.heap.size w w' := by
  obtain ⟨i0, z, hi0, hz0, hzs, hz1, hz2⟩ := info_Gr'
  have HA := Lib.hid (gr_alloc (gr_refl w) (.cells #[.string ⟨g.tb.toArray⟩, .int .u8 g.pv, .string ⟨g.gt.toArray⟩, .string ⟨g.gb.toArray⟩, .bool g.op] 30))
  have HCA := Lib.hid (heap_alloc_new w (.cells #[.string ⟨g.tb.toArray⟩, .int .u8 g.pv, .string ⟨g.gt.toArray⟩, .string ⟨g.gb.toArray⟩, .bool g.op] 30))
  have HSA : Hid ((w.alloc (.cells #[.string ⟨g.tb.toArray⟩, .int .u8 g.pv, .string ⟨g.gt.toArray⟩, .string ⟨g.gb.toArray⟩, .bool g.op] 30)).heap.size = w.heap.size + 1) := Lib.hid (World.size_alloc _ _)
  have HS := Lib.hid (h.below HA.out)
  have HL := Lib.hid h.1
  have HF := Lib.hid hf
  have HR := Lib.hid hr
  clear h hf hr
  go_enter Try.func13, Try.ntmps13
  go_upto_region 1 with fail
  generalize w.alloc (.cells #[.string ⟨g.tb.toArray⟩, .int .u8 g.pv, .string ⟨g.gt.toArray⟩, .string ⟨g.gb.toArray⟩, .bool g.op] 30) = w1 at *
  go_wp2_with fail
  go_loopw [8, 10, 15] (fun v _ i wr => ∃ (j : Nat), j ≤ n ∧ i = .int .i64 (j : Int) ∧ EO EG 5 30 wr w1.heap.size v (restL (l.take j) g) ∧ Below w1.heap.size w1 wr) (fun _ _ i _ => n - (intOf i).toNat)
  case atStart => exact ⟨0, Nat.zero_le _, rfl, by simpa [restL] using EO.nil _ _, gr_refl w1⟩
  case round =>
    obtain ⟨j, hj, rfl, heo, hb⟩ := hrel
    obtain ⟨Av, cv, rfl, _, _, _⟩ := heo.form
    obtain ⟨L, hLL⟩ : ∃ L, L = (restL (l.take j) g).length := ⟨_, rfl⟩
    have hLn : L ≤ n := by
      rw [hLL]
      refine Nat.le_trans (restL_len _ _) ?_
      rw [List.length_take, HL.out]
      omega
    rw [← hLL] at heo ⊢
    have HLL := Lib.hid hLL
    have HEO := Lib.hid heo
    have HB := Lib.hid hb
    clear hLL heo
    by_cases hlt : j < n
    · have t1 : decide ((j : Int) < (n : Int)) = true := decide_eq_true (by omega)
      have t2 : decide (j < n) = true := decide_eq_true hlt
      have i0' : (0 : Int) ≤ (j : Int) := Int.natCast_nonneg _
      have i1' : (j : Int) < (n : Int) := by omega
      obtain ⟨ga, o, x, rfl, hx, q0, q1, q2, q3, q4⟩ := (HS.out.below hb).atGr hlt
      have HT := Lib.hid (restL_take (g := g) hx)
      obtain ⟨r, hr⟩ : ∃ r, r = alikeB x g := ⟨_, rfl⟩
      rw [← hr] at HT
      have HRR := Lib.hid hr
      have hmx : L + 1 ≤ maxLen := by simp only [maxLen]; omega
      have hba := gr_alloc (gr_refl wr) (.cells #[.string ⟨x.tb.toArray⟩, .int .u8 x.pv, .string ⟨x.gt.toArray⟩, .string ⟨x.gb.toArray⟩, .bool x.op] 30)
      have hca : (wr.alloc (.cells #[.string ⟨x.tb.toArray⟩, .int .u8 x.pv, .string ⟨x.gt.toArray⟩, .string ⟨x.gb.toArray⟩, .bool x.op] 30)).heap[wr.heap.size]? = some (.cells #[.string ⟨x.tb.toArray⟩, .int .u8 x.pv, .string ⟨x.gt.toArray⟩, .string ⟨x.gb.toArray⟩, .bool x.op] 30 (0, 0)) := heap_alloc_new wr _
      have HB3 := Lib.hid (gr_trans hb hba)
      have HE3 := Lib.hid (HEO.out.below hba)
      clear hx hr hb hba
      go_upto_region 5 with fail
      generalize wr.alloc (.cells #[.string ⟨x.tb.toArray⟩, .int .u8 x.pv, .string ⟨x.gt.toArray⟩, .string ⟨x.gb.toArray⟩, .bool x.op] 30) = w3 at *
      clear q0 q1 q2 q3 q4
      obtain ⟨c0, c1, c2, c3, c4⟩ := cells5 hca
      obtain ⟨d0, d1, d2, d3, d4⟩ := cells5 ((HB3.out.block w.heap.size (Array.getElem?_eq_some_iff.1 HCA.out).1).trans HCA.out)
      have HC3 := Lib.hid hca
      clear hca
      go_wp2_with fail
      refine (alike_any x g w3).mono ?_
      rw [← HRR.out]
      rintro e w4 ⟨rfl, hb4⟩
      have HB4 := Lib.hid (gr_trans HB3.out hb4)
      have HE4 := Lib.hid (HE3.out.below hb4)
      clear c0 c1 c2 c3 c4 d0 d1 d2 d3 d4
      obtain ⟨c0, c1, c2, c3, c4⟩ := cells5 ((hb4.block _ (Array.getElem?_eq_some_iff.1 HC3.out).1).trans HC3.out)
      clear hb4 HC3
      cases r
      · have HOW : Hid (w4.ownsRow w1.heap.size 30 5 (.slice Av L cv) L ((restL (l.take j) g).flatMap EG)) := Lib.hid (by have := HE4.out; unfold EO at this; rw [← HLL.out] at this; exact this)
        go_wp2_with (at_builtin; refine wpList_append_Rd _ rfl (.tmp 23) (.tmp 25) _ rfl w1.heap.size 30 i0 _ 5 64 Try.underlying22 hi0 hz0 hz1 hz2 hzs (.slice Av L cv) L _ rfl (ownsRow_off (S := fun _ => False) HOW.out (Off.of_below (gr_alloc (gr_refl w4) _)) (fun _ _ h => h)) (some ⟨w4.heap.size, 0, none⟩) 1 1 (EG x) rfl (rd_new1 _ _ _ _ rfl) (EG_one x) (by omega) hmx (gr_alloc HB4.out _).size ?_; intro v6 w6 hown6 hg6 _ _; have hb6 : Below w1.heap.size w1 w6 := (gr_alloc HB4.out _).grown hg6 (gr_alloc HB4.out _).size (fun j hj => (HOW.out.lt j hj).1))
        have HR6 := Lib.hid (EO.snoc hown6 HLL.out.symm)
        have HB6 := Lib.hid hb6
        clear hown6 hg6 hb6 c0 c1 c2 c3 c4
        go_wp2_with fail
        go_roundw
        case rel => exact ⟨j + 1, by omega, by go_num, by rw [HT.out]; exact HR6.out, HB6.out⟩
        case measure => simp [intOf]; omega
      · go_wp2_with fail
        go_roundw
        case rel => exact ⟨j + 1, by omega, by go_num, by rw [HT.out]; simpa using HE4.out, HB4.out⟩
        case measure => simp [intOf]; omega
    · obtain rfl : j = n := by omega
      have t1 : decide ((j : Int) < (j : Int)) = false := decide_eq_false (by omega)
      have hfull : l.take j = l := List.take_of_length_le (by rw [HL.out]; omega)
      have HF1 : Hid (EO EG 5 30 wr w1.heap.size (.slice Av L cv) (restL l g)) := Lib.hid (by have := HEO.out; rwa [hfull] at this)
      have HLR : Hid (L = (restL l g).length) := Lib.hid (by have := HLL.out; rwa [hfull] at this)
      have HCW := Lib.hid ((hb.block w.heap.size (Array.getElem?_eq_some_iff.1 HCA.out).1).trans HCA.out)
      have HBW := Lib.hid (HA.out.trans (hb.mono HA.out.size))
      clear hfull HEO HLL hb
      obtain ⟨d0, d1, d2, d3, d4⟩ := cells5 HCW.out
      by_cases hq : L = j
      · have t2 : ((L : Int) == (j : Int)) = true := beq_iff_eq.2 (by omega)
        have HQ : Hid ((restL l g).length = l.length) := Lib.hid (by rw [← HLR.out, HL.out, hq])
        clear hq
        go_wp2_with fail
        go_ret2
        exact ⟨.inl ⟨rfl, HQ.out⟩, HBW.out⟩
      · have t2 : ((L : Int) == (j : Int)) = false := beq_eq_false_iff_ne.2 (by omega)
        have HQ : Hid ((restL l g).length ≠ l.length) := Lib.hid (by rw [← HLR.out, HL.out]; exact hq)
        have hfr : FitG (restL l g) := fun x hx => HF.out x (List.mem_filter.1 hx).1
        have HER : Hid (ER EG 5 wr Av L (restL l g)) := Lib.hid (by
          obtain ⟨A', c', e, her, _⟩ := HF1.out.form
          injection e with e1 e2 e3
          subst e1
          rw [HLR.out]
          exact her)
        have HGV := Lib.hid (givers_any Av L cv (restL l g) ow g.tb g.pv wr HER.out (by omega) hfr HR.out)
        have HFR := Lib.hid hfr
        clear hq hfr
        go_wp2_with fail
        refine HGV.out.mono ?_
        rintro e w5 ⟨b, ks, rfl, hms, hbb, hks, hb5⟩
        have HMS := Lib.hid hms
        have HKS := Lib.hid hks
        have HB5 := Lib.hid hb5
        have HBB := Lib.hid hbb
        clear hms hks hb5 hbb HGV d0 d1 d2 d3 d4
        have HDEL : Hid (∀ W, W = (w5.alloc (.cells #[.map (some b)] 65)).alloc (.cells #[.func (.func 41) #[] #[.pointer (some ⟨w5.heap.size, 0, none⟩)]] 72) → Calls Try.prog 42 #[.slice Av L cv, .func (.func 43) #[] #[.pointer (some ⟨w.heap.size, 0, none⟩), .pointer (some ⟨w5.heap.size + 1, 0, none⟩)]] W fun e w' => ∃ v out, e = .returned v ∧ Tk l ow g out ∧ EO EG 5 30 w' w.heap.size v out ∧ Below w.heap.size w w') := Lib.hid (by
          intro W hW
          have b1 := gr_alloc (gr_refl w5) (.cells #[.map (some b)] 65)
          have k1 := heap_alloc_new w5 (.cells #[.map (some b)] 65)
          have z1 : (w5.alloc (.cells #[.map (some b)] 65)).heap.size = w5.heap.size + 1 := World.size_alloc _ _
          generalize w5.alloc (.cells #[.map (some b)] 65) = w6 at *
          have b2 := gr_alloc (gr_refl w6) (.cells #[.func (.func 41) #[] #[.pointer (some ⟨w5.heap.size, 0, none⟩)]] 72)
          have k2 := heap_alloc_new w6 (.cells #[.func (.func 41) #[] #[.pointer (some ⟨w5.heap.size, 0, none⟩)]] 72)
          rw [← hW] at b2 k2
          rw [z1] at k2
          have hbw5 := HBW.out.trans (HB5.out.mono HBW.out.size)
          have hb5W : Below w5.heap.size w5 W := b1.trans (b2.mono b1.size)
          have hbW : Below w.heap.size w W := hbw5.trans (hb5W.mono hbw5.size)
          have hbrW : Below wr.heap.size wr W := HB5.out.trans (hb5W.mono HB5.out.size)
          have yh := one_cell k2
          have ym := keep_of_below b2 (one_cell k1)
          have hmsW := HMS.out.below hb5W
          have hgW := (hbrW.block w.heap.size (Array.getElem?_eq_some_iff.1 HCW.out).1).trans HCW.out
          have heoW := HF1.out.below hbrW
          have hTk : Tk l ow g ((restL l g).filter fun h => !(h.tb == g.tb && h.pv == g.pv && !(ks.contains h.gb))) := ⟨ks, HKS.out, rfl⟩
          have hsw1 : w1.heap.size = w.heap.size + 1 := HSA.out
          rcases Nat.eq_zero_or_pos L with h0 | h0
          · have hnil : restL l g = [] := List.eq_nil_of_length_eq_zero (by rw [← HLR.out]; exact h0)
            have hout : ((restL l g).filter fun h => !(h.tb == g.tb && h.pv == g.pv && !(ks.contains h.gb))) = restL l g := by rw [hnil]; rfl
            subst h0
            refine (DeleteFunc_nil Av cv _ _ egTake W).mono ?_
            rintro e w' ⟨rfl, hb'⟩
            exact ⟨_, _, rfl, hTk, by rw [hout]; exact (heoW.below hb').lower HA.out.size, hbW.trans (hb'.mono hbW.size)⟩
          · obtain ⟨gq, cq, e, hgq1, hgq2, hcq1, hcq2⟩ := heoW.block (by rw [← HLR.out]; exact h0)
            rw [← HLR.out] at e hcq1
            cases e
            have hgr : gq < wr.heap.size := (HF1.out.lt gq rfl).2
            refine (DeleteFunc_any _ _ egTake (fun h => h.tb == g.tb && h.pv == g.pv && !(ks.contains h.gb)) gq L cv w1.heap.size (restL l g) W heoW HLR.out.symm (by omega) hcq1 hcq2 hgq2 (fun W' x hx hof => ?_)).mono ?_
            · refine (takeC g b w5.heap.size w.heap.size (w5.heap.size + 1) ks x W' ((hof.block _ (Array.getElem?_eq_some_iff.1 hgW).1 (show ¬ (w.heap.size = gq) by omega)).trans hgW) ?_ ?_ (hmsW.off hof (show ¬ (b = gq) by have := HBB.out; omega)) (HFR.out x hx).2).mono (fun e w' hh => hh)
              · rw [cell_of_block (hof.block _ (Array.getElem?_eq_some_iff.1 k2).1 (show ¬ (w5.heap.size + 1 = gq) by have := HB5.out.size; omega))]
                exact yh
              · rw [cell_of_block (hof.block _ (World.block_lt_of_cell? _ _ ym) (show ¬ (w5.heap.size = gq) by have := HB5.out.size; omega))]
                exact ym
            · rintro e w' ⟨m, rfl, _, ho', hof'⟩
              exact ⟨_, _, rfl, hTk, ho'.lower HA.out.size, hbW.trans (hof'.below (fun k hk => by rw [hk]; omega) hbW.size)⟩)
        go_wp2_with fail
        refine (HDEL.out _ rfl).mono ?_
        rintro e w9 ⟨v, out, rfl, hTk, ho, hb9⟩
        have HTK := Lib.hid hTk
        have HO9 := Lib.hid ho
        have HB9 := Lib.hid hb9
        clear hTk ho hb9 HDEL
        go_wp2_with fail
        go_ret2
        exact ⟨.inr ⟨v, out, rfl, HQ.out, HTK.out, HO9.out⟩, HB9.out⟩

end Go.Proofs.Ytfgkadkmgciamaa
