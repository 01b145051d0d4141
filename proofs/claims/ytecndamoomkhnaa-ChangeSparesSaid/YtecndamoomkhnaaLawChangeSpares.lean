/-
  The law ChangeSpares, walked.
-/
import Derived.Test.YtecndamoomkhnaaLawChangeBack
import Derived.Test.YtecndamoomkhnaaApp
import Derived.Test.YtecndamoomkhnaaLawChangeTells
namespace Go.Proofs.Ytecndamoomkhnaa
open Go.RowKit

/-- The bytes of pieces of the call's own lie in blocks of their own. -/
theorem OP.apl {w : World} {base b : Nat} {v : Value} {ps : List Pc} (h : OP w base v ps) (hb : b ≤ base) (hl : ∀ p ∈ ps, p.2.length ≤ 140737488355328) :
    ∃ (A : Option Addr) (c : Nat) (us : List (Int × Value)), v = .slice A ps.length c ∧ Rd w 2 A ps.length (pcs us) ∧ us.length = ps.length ∧ Apl w b (us.map (·.2)) ∧ (∀ u ∈ us.map (·.2), ∀ k, u.ownBlock = some k → base ≤ k ∧ k < w.heap.size) := by
  obtain ⟨A, c, rfl, _, _, _⟩ := h.form rfl
  obtain ⟨us, ho, hul, huv, hd⟩ := h
  have hob : ∀ u ∈ us.map (·.2), ∃ l, OB w base u l ∧ l.length ≤ 140737488355328 := by
    intro u hu
    obtain ⟨q, hq, rfl⟩ := List.mem_map.1 hu
    obtain ⟨j, hj, rfl⟩ := List.getElem_of_mem hq
    have hj' : j < ps.length := by omega
    exact ⟨_, (huv j _ _ (List.getElem?_eq_getElem hj') (List.getElem?_eq_getElem hj)).2, hl _ (List.getElem_mem hj')⟩
  refine ⟨A, c, us, rfl, ⟨ho.1, fun h0 => ?_⟩, hul, ⟨fun u hu => ?_, ?_⟩, fun u hu k hk => ?_⟩
  · rcases ho.2 with ⟨e, _⟩ | ⟨g, cap, cur, e, _⟩
    · injection e with e1 e2; omega
    · injection e with e1 e2 e3
      subst e1 e3
      exact ⟨_, rfl, ho.cells (g := g) rfl⟩
  · obtain ⟨l, h1, h2⟩ := hob u hu
    exact ⟨l, h1.lower hb, h2⟩
  · rw [List.pairwise_map]
    exact hd
  · obtain ⟨l, h1, _⟩ := hob u hu
    exact h1.lt k hk

/-- The blocks of such values lie between lo and hi. -/
def Btw (F : List Value) (lo hi : Nat) : Prop := ∀ u ∈ F, ∀ k, u.ownBlock = some k → lo ≤ k ∧ k < hi

theorem Apl.append {w : World} {b : Nat} {F H : List Value} (h1 : Apl w b F) (h2 : Apl w b H) (hd : ∀ v ∈ F, ∀ u ∈ H, ∀ k, v.ownBlock = some k → u.ownBlock ≠ some k) : Apl w b (F ++ H) := by
  refine ⟨fun v hv => ?_, List.pairwise_append.2 ⟨h1.dis, h2.dis, hd⟩⟩
  rcases List.mem_append.1 hv with h | h
  · exact h1.ob v h
  · exact h2.ob v h
theorem Btw.off {F H : List Value} {a b c d : Nat} (h1 : Btw F a b) (h2 : Btw H c d) (h : b ≤ c ∨ d ≤ a) : ∀ v ∈ F, ∀ u ∈ H, ∀ k, v.ownBlock = some k → u.ownBlock ≠ some k := by
  intro v hv u hu k hk hk'
  have := h1 v hv k hk
  have := h2 u hu k hk'
  omega
theorem Apl.one {w : World} {b : Nat} {v : Value} {l : List UInt8} (h : OB w b v l) (hl : l.length ≤ 140737488355328) : Apl w b [v] :=
  ⟨fun u hu => by rw [List.mem_singleton] at hu; subst hu; exact ⟨l, h, hl⟩, List.pairwise_singleton _ _⟩
theorem Btw.one {v : Value} {g : Nat} (hv : v.ownBlock = some g) {a b : Nat} (h1 : a ≤ g) (h2 : g < b) : Btw [v] a b := by
  intro u hu k hk
  rw [List.mem_singleton] at hu
  subst hu
  rw [hv] at hk
  injection hk with hk
  omega
theorem Btw.append {F H : List Value} {a b : Nat} (h1 : Btw F a b) (h2 : Btw H a b) : Btw (F ++ H) a b := fun u hu => by
  rcases List.mem_append.1 hu with h | h
  · exact h1 u h
  · exact h2 u h
theorem Btw.mono {F : List Value} {a b c d : Nat} (h : Btw F a b) (h1 : c ≤ a) (h2 : b ≤ d) : Btw F c d := fun u hu k hk => by
  have := h u hu k hk
  omega

/-- Three lists of pieces. -/
def pick3 {α : Type} (x y z : α) : Nat → α | 0 => x | 1 => y | _ => z

set_option maxRecDepth 100000 in
set_option maxHeartbeats 4000000 in
theorem ChangeSpares_walk (seed : Int) (A : Option Addr) (n c : Nat) (ts : List Int) (w : World) (ht : IR w A n ts) (hn : n ≤ 9223372036854775807) :
    Calls Try.prog 4 #[.int .i64 seed, .slice A n c] w fun e w' => e = .returned (.bool true) ∧ Below w.heap.size w w' := by
  go_enter Try.func4, Try.ntmps4
  go_wp2_with fail
  refine (pages_any seed A n c ts w ht hn).mono ?_
  rintro e w1 ⟨g, h, cap, a, b, rfl, hP, hb1⟩
  have HA := Lib.hid hP.la
  have HB := Lib.hid hP.lb
  have HNE := Lib.hid hP.ne
  have oa1 := hP.oa
  have ob1 := hP.ob
  have ra1 := oa1.br HA.out
  have rb1 := ob1.br HB.out
  have hcap1 := hP.cap1
  clear hP
  go_wp2_with fail
  refine (Diff_any _ _ _ _ _ _ _ ra1 rb1 hcap1).mono ?_
  rintro e w2 ⟨v2, rfl, op2, hb2⟩
  have L2 := Lib.hid (diffL_small a b HB.out)
  obtain ⟨A2, c2, us2, rfl, rd2, ul2, ap2, bt2⟩ := op2.apl hb1.size (fun p hp => by have := L2.out.2 p hp; omega)
  have RD2 := Lib.hid rd2
  have UL2 := Lib.hid ul2
  have AP2 := Lib.hid ap2
  have BT2 := Lib.hid (show Btw (us2.map (·.2)) w1.heap.size w2.heap.size from bt2)
  clear rd2 ul2 ap2 bt2
  go_wp2_with fail
  refine (Diff_any _ _ _ _ _ _ _ (ra1.below hb2) (rb1.below hb2) hcap1).mono ?_
  rintro e w3 ⟨v3, rfl, op3, hb3⟩
  have L3 := Lib.hid (diffL_small a b HB.out)
  have HAP := Lib.hid (apply_diff HA.out HB.out)
  generalize diffL a b = D at *
  obtain ⟨A3, c3, us3, rfl, rd3, ul3, ap3, bt3⟩ := op3.apl (Nat.le_trans hb1.size hb2.size) (fun p hp => by have := L3.out.2 p hp; omega)
  have RD3 := Lib.hid rd3
  have UL3 := Lib.hid ul3
  have AP3 := Lib.hid ap3
  have BT3 := Lib.hid (show Btw (us3.map (·.2)) w2.heap.size w3.heap.size from bt3)
  clear rd3 ul3 ap3 bt3 L2
  have hb23 := gr_trans hb2 hb3
  have op2' := op2.below hb3
  obtain ⟨_, _, e2, pr2, hc2, hm2⟩ := op2'.form rfl
  cases e2
  have l3 : D.length ≤ 4080 := L3.out.1
  go_wp2_with fail
  refine (Apply_any _ _ _ _ c2 a D w3 (ra1.below hb23) pr2 (by omega) (fun p hp => by have := L3.out.2 p hp; omega)).mono ?_
  rintro e w4 ⟨hb4, hx4⟩
  rw [HAP.out] at hx4
  obtain ⟨v4, rfl, ob4⟩ := hx4
  obtain ⟨g4, cap4, rfl, hc4, hm4, hg4⟩ := ob_some ob4 HB.out (by omega)
  have hg4' := (ob4.lt g4 rfl).2
  have hb24 := gr_trans hb23 hb4
  go_wp2_with fail
  refine (Apply_any _ none _ 0 0 a [] w4 (ra1.below hb24) (PR.none_ _ _) (by omega) (by simp)).mono ?_
  rintro e w5 ⟨hb5, hx5⟩
  obtain ⟨v5, rfl, ob5⟩ := hx5
  obtain ⟨g5, cap5, rfl, hc5, hm5, hg5⟩ := ob_some ob5 HA.out (by omega)
  have hg5' := (ob5.lt g5 rfl).2
  have hga := oa1.lt g rfl
  have hgb := ob1.lt h rfl
  have hb25 := gr_trans hb24 hb5
  have op25 := (op2'.below hb4).below hb5
  have op35 := (op3.below hb4).below hb5
  have ob45 := ob4.below hb5
  have oa5 := oa1.below hb25
  have ob15 := ob1.below hb25
  have hbw5 := gr_trans hb1 hb25
  have sz1 := hb1.size
  have sz2 := hb2.size
  have sz3 := hb3.size
  have sz4 := hb4.size
  clear op2 op2' op3 ob4 pr2 hb23 hb24
  go_wp2_with fail
  refine (SamePieces_own _ _ _ _ _ op25 op35 rfl (by omega)).mono ?_
  rintro e w6 ⟨rfl, hb6⟩
  have op26 := op25.below hb6
  have op36 := op35.below hb6
  have ob46 := ob45.below hb6
  have ob56 := ob5.below hb6
  have oa6 := oa5.below hb6
  have ob16 := ob15.below hb6
  have hbw6 := gr_trans hbw5 hb6
  clear op25 op35 ob45 ob5 oa5 ob15
  go_wp2_with fail
  refine (sameB_own _ _ b _ ob46 ob16).mono ?_
  rintro e w' ⟨rfl, rfl⟩
  go_wp2_with fail
  refine (sameB_own _ _ a _ ob56 oa6).mono ?_
  rintro e w' ⟨rfl, rfl⟩
  go_wp2_with fail
  have sz6 := hb6.size
  have sz5 := hb5.size
  have hnew : Below w6.heap.size w6 ((w6.alloc (.cells #[.int .i64 0, .slice (some ⟨g4, 0, none⟩) 4080 cap4, .int .i64 0, .slice (some ⟨g5, 0, none⟩) 4080 cap5, .int .i64 0, .slice (some ⟨g, 0, none⟩) 4080 4080, .int .i64 0, .slice (some ⟨h, 0, none⟩) 4080 cap] 40)).alloc
      (.cells #[.slice A2 D.length c2, .slice A3 D.length c3, .slice (some ⟨w6.heap.size, 0, none⟩) 4 4] 31)) := gr_alloc (gr_alloc (gr_refl w6) _) _
  have r3 : Rd ((w6.alloc (.cells #[.int .i64 0, .slice (some ⟨g4, 0, none⟩) 4080 cap4, .int .i64 0, .slice (some ⟨g5, 0, none⟩) 4080 cap5, .int .i64 0, .slice (some ⟨g, 0, none⟩) 4080 4080, .int .i64 0, .slice (some ⟨h, 0, none⟩) 4080 cap] 40)).alloc
      (.cells #[.slice A2 D.length c2, .slice A3 D.length c3, .slice (some ⟨w6.heap.size, 0, none⟩) 4 4] 31)) 2 (some ⟨w6.heap.size, 0, none⟩) 4 (pcs [(0, .slice (some ⟨g4, 0, none⟩) 4080 cap4), (0, .slice (some ⟨g5, 0, none⟩) 4080 cap5), (0, .slice (some ⟨g, 0, none⟩) 4080 4080), (0, .slice (some ⟨h, 0, none⟩) 4080 cap)]) :=
    (Rd.new w6 _ #[_, _, _, _, _, _, _, _] 4 2 rfl).below (gr_alloc (gr_refl _) _)
  have rl : Rd ((w6.alloc (.cells #[.int .i64 0, .slice (some ⟨g4, 0, none⟩) 4080 cap4, .int .i64 0, .slice (some ⟨g5, 0, none⟩) 4080 cap5, .int .i64 0, .slice (some ⟨g, 0, none⟩) 4080 4080, .int .i64 0, .slice (some ⟨h, 0, none⟩) 4080 cap] 40)).alloc
      (.cells #[.slice A2 D.length c2, .slice A3 D.length c3, .slice (some ⟨w6.heap.size, 0, none⟩) 4 4] 31)) 1 (some ⟨w6.heap.size + 1, 0, none⟩) 3 [.slice A2 D.length c2, .slice A3 D.length c3, .slice (some ⟨w6.heap.size, 0, none⟩) 4 4] := by
    have := Rd.new (w6.alloc (.cells #[.int .i64 0, .slice (some ⟨g4, 0, none⟩) 4080 cap4, .int .i64 0, .slice (some ⟨g5, 0, none⟩) 4080 cap5, .int .i64 0, .slice (some ⟨g, 0, none⟩) 4080 4080, .int .i64 0, .slice (some ⟨h, 0, none⟩) 4080 cap] 40)) 31 #[.slice A2 D.length c2, .slice A3 D.length c3, .slice (some ⟨w6.heap.size, 0, none⟩) 4 4] 3 1 rfl
    rw [World.size_alloc] at this
    exact this
  generalize ((w6.alloc (.cells #[.int .i64 0, .slice (some ⟨g4, 0, none⟩) 4080 cap4, .int .i64 0, .slice (some ⟨g5, 0, none⟩) 4080 cap5, .int .i64 0, .slice (some ⟨g, 0, none⟩) 4080 4080, .int .i64 0, .slice (some ⟨h, 0, none⟩) 4080 cap] 40)).alloc
      (.cells #[.slice A2 D.length c2, .slice A3 D.length c3, .slice (some ⟨w6.heap.size, 0, none⟩) 4 4] 31)) = w7 at *
  have hb37 := gr_trans (gr_trans (gr_trans hb4 hb5) hb6) hnew
  have hb27 := gr_trans hb3 hb37
  have hbw7 := gr_trans hbw6 hnew
  have hla : a.length ≤ 140737488355328 := by rw [HA.out]; omega
  have hlb : b.length ≤ 140737488355328 := by rw [HB.out]; omega
  have q4 := Apl.one ((ob46.lower (b := w.heap.size) (by omega)).below hnew) hlb
  have q5 := Apl.one ((ob56.lower (b := w.heap.size) (by omega)).below hnew) hla
  have qa := Apl.one (oa6.below hnew) hla
  have qb := Apl.one (ob16.below hnew) hlb
  have b4 : Btw [.slice (some ⟨g4, 0, none⟩) 4080 cap4] w3.heap.size w4.heap.size := Btw.one rfl hg4 hg4'
  have b5 : Btw [.slice (some ⟨g5, 0, none⟩) 4080 cap5] w4.heap.size w5.heap.size := Btw.one rfl hg5 hg5'
  have ba : Btw [.slice (some ⟨g, 0, none⟩) 4080 4080] w.heap.size w1.heap.size := Btw.one rfl hga.1 hga.2
  have bb : Btw [.slice (some ⟨h, 0, none⟩) 4080 cap] w.heap.size w1.heap.size := Btw.one rfl hgb.1 hgb.2
  have hne : ∀ v ∈ [Value.slice (some ⟨g, 0, none⟩) 4080 4080], ∀ u ∈ [Value.slice (some ⟨h, 0, none⟩) 4080 cap], ∀ k, v.ownBlock = some k → u.ownBlock ≠ some k := by
    intro v hv u hu k hk hk'
    rw [List.mem_singleton] at hv hu
    subst hv hu
    simp [Value.ownBlock] at hk hk'
    exact HNE.out (by omega)
  have qab := Apl.append qa qb hne
  have bab := Btw.append ba bb
  have q5ab := Apl.append q5 qab (b5.off bab (by omega))
  have q45 := Apl.append q4 q5ab (by
    intro v hv u hu
    rcases List.mem_append.1 hu with h | h
    · exact b4.off b5 (by omega) v hv u h
    · exact b4.off bab (by omega) v hv u h)
  have hoff : ∀ {F : List Value} {lo hi : Nat}, Btw F lo hi → w1.heap.size ≤ lo → hi ≤ w3.heap.size → ∀ v ∈ F, ∀ u ∈ [Value.slice (some ⟨g4, 0, none⟩) 4080 cap4] ++ ([Value.slice (some ⟨g5, 0, none⟩) 4080 cap5] ++ ([Value.slice (some ⟨g, 0, none⟩) 4080 4080] ++ [Value.slice (some ⟨h, 0, none⟩) 4080 cap])), ∀ k, v.ownBlock = some k → u.ownBlock ≠ some k := by
    intro F lo hi hF h1 h2 v hv u hu
    rcases List.mem_append.1 hu with h | h
    · exact hF.off b4 (by omega) v hv u h
    rcases List.mem_append.1 h with h | h
    · exact hF.off b5 (by omega) v hv u h
    · exact hF.off bab (by omega) v hv u h
  have q3 := Apl.append (AP3.out.below hb37) q45 (hoff BT3.out (by omega) (by omega))
  have q2 := Apl.append (AP2.out.below hb27) q3 (by
    intro v hv u hu
    rcases List.mem_append.1 hu with h | h
    · exact BT2.out.off BT3.out (by omega) v hv u h
    · exact hoff BT2.out (by omega) (by omega) v hv u h)
  have hflat : flatV (pick3 us2 us3 [((0 : Int), Value.slice (some ⟨g4, 0, none⟩) 4080 cap4), (0, .slice (some ⟨g5, 0, none⟩) 4080 cap5), (0, .slice (some ⟨g, 0, none⟩) 4080 4080), (0, .slice (some ⟨h, 0, none⟩) 4080 cap)]) 3 =
      us2.map (·.2) ++ (us3.map (·.2) ++ ([Value.slice (some ⟨g4, 0, none⟩) 4080 cap4] ++ ([Value.slice (some ⟨g5, 0, none⟩) 4080 cap5] ++ ([Value.slice (some ⟨g, 0, none⟩) 4080 4080] ++ [Value.slice (some ⟨h, 0, none⟩) 4080 cap])))) := by
    rw [flatV_succ, flatV_succ, flatV_succ]
    simp [flatV, pick3]
  rw [← hflat] at q2
  have hlen : (flatV (pick3 us2 us3 [((0 : Int), Value.slice (some ⟨g4, 0, none⟩) 4080 cap4), (0, .slice (some ⟨g5, 0, none⟩) 4080 cap5), (0, .slice (some ⟨g, 0, none⟩) 4080 4080), (0, .slice (some ⟨h, 0, none⟩) 4080 cap)]) 3).length = D.length + (D.length + 4) := by
    rw [hflat]
    simp [UL2.out, UL3.out]
  have hAP := ApartPieces_any (some ⟨w6.heap.size + 1, 0, none⟩) 3 3 w.heap.size (pick3 A2 A3 (some ⟨w6.heap.size, 0, none⟩)) (pick3 D.length D.length 4) (pick3 c2 c3 4) _ w7 rl
    (fun k hk => by
      match k, hk with
      | 0, _ => exact RD2.out.below hb27
      | 1, _ => exact RD3.out.below hb37
      | 2, _ => exact r3)
    (fun k hk => by
      match k, hk with
      | 0, _ => exact UL2.out
      | 1, _ => exact UL3.out
      | 2, _ => rfl) q2 hbw7.size (by rw [hlen]; omega) (by omega) (by rw [hlen]; omega)
    (fun k hk => by
      match k, hk with
      | 0, _ => show D.length ≤ _; omega
      | 1, _ => show D.length ≤ _; omega
      | 2, _ => show 4 ≤ _; omega)
  refine hAP.mono ?_
  rintro e w8 ⟨rfl, hb8⟩
  have hbw8 := hbw7.trans hb8
  clear hflat hlen hoff hne rl r3 q2 q3 q4 q5 qa qb qab q5ab q45 b4 b5 ba bb bab hb27 hb37 hbw7 hnew hb8
  go_wp2_with fail
  refine (awake08_any _).mono ?_
  rintro e w9 ⟨rfl, hb9⟩
  go_wp2
  go_ret
  exact ⟨rfl, gr_trans hbw8 hb9⟩

end Go.Proofs.Ytecndamoomkhnaa
