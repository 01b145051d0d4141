/-
  Contracts: snapshot's Commit, Abort, Begin.
-/
import Derived.Test.YtjopobkcijkpmaaSnG
namespace Go.Proofs.Ytjopobkcijkpmaa
open Go.RowKit

def comT (T : TabS) (tx : Int) : TabS := if askT T tx ≠ 0 then T else endT { T with last := T.last + 1 } tx (3, T.last + 1)
def aboT (T : TabS) (tx : Int) : TabS := if askT T tx ≠ 0 then T else endT T tx (5, 0)

set_option maxRecDepth 100000 in
set_option maxHeartbeats 1000000 in
theorem Abort_any (w : World) (base g : Nat) (F : Nat → Prop) (T : TabS) (tx : Int) (h : IsT w base g F T) (h1 : -9223372036854775808 ≤ tx) (h2 : tx ≤ 9223372036854775807) :
    Calls Try.prog 33 #[.pointer (some ⟨g, 0, none⟩), .int .i64 tx] w fun e w' => e = .returned (.int .i64 (askT T tx)) ∧ TPost w base g F (aboT T tx) w' := by
  have HA := Lib.hid (tasked_any w base g F T tx h h1 h2)
  have HT : Hid (aboT T tx = if askT T tx ≠ 0 then T else endT T tx (5, 0)) := Lib.hid rfl
  have HEN := Lib.hid (fun W (hW : Below w.heap.size w W) => end_any W base g F T tx 5 0 (h.below hW) h1 h2)
  have HS := Lib.hid (fun W (hW : Below w.heap.size w W) => TPost.grown h hW)
  generalize aboT T tx = T' at *
  generalize askT T tx = a at *
  clear h
  by_cases ha : a = 0
  · have q1 : (a != 0) = false := by simp [ha]
    have ht := HT.out
    rw [if_neg (by simp [ha])] at ht
    subst ha ht
    clear HT
    go_enter Try.func33, Try.ntmps33
    go_wp2_with fail
    refine HA.out.mono ?_
    rintro e w1 ⟨rfl, hb⟩
    go_wp2_with fail
    refine (HEN.out w1 hb).mono ?_
    rintro e w2 ⟨⟨x, rfl⟩, hp⟩
    go_wp2_with fail
    go_ret
    exact ⟨rfl, hp.from hb⟩
  · have q1 : (a != 0) = true := by simp [ha]
    have ht := HT.out
    rw [if_pos ha] at ht
    subst ht
    clear HT ha
    go_enter Try.func33, Try.ntmps33
    go_wp2_with fail
    refine HA.out.mono ?_
    rintro e w1 ⟨rfl, hb⟩
    go_wp2_with fail
    go_ret
    exact ⟨rfl, HS.out w1 hb⟩

set_option maxRecDepth 100000 in
set_option maxHeartbeats 1000000 in
theorem Commit_any (w : World) (base g : Nat) (F : Nat → Prop) (T : TabS) (tx : Int) (h : IsT w base g F T) (h1 : -9223372036854775808 ≤ tx) (h2 : tx ≤ 9223372036854775807) (hl0 : 0 ≤ T.last) (hl1 : T.last ≤ 1000000) :
    Calls Try.prog 32 #[.pointer (some ⟨g, 0, none⟩), .int .i64 tx] w fun e w' => e = .returned (.int .i64 (askT T tx)) ∧ TPost w base g F (comT T tx) w' := by
  have HA := Lib.hid (tasked_any w base g F T tx h h1 h2)
  have HT : Hid (comT T tx = if askT T tx ≠ 0 then T else endT { T with last := T.last + 1 } tx (3, T.last + 1)) := Lib.hid rfl
  have HS := Lib.hid (fun W (hW : Below w.heap.size w W) => TPost.grown h hW)
  obtain ⟨b, ov, dv, hd, hF⟩ := h
  have HTB := Lib.hid (fun W (hW : Below w.heap.size w W) => (hd.below hW).tb)
  have HEN : Hid (∀ W : World, Below w.heap.size w W → Calls Try.prog 71 #[.pointer (some ⟨g, 0, none⟩), .int .i64 tx, .agg #[.int .u8 3, .int .i64 (T.last + 1)]] (W.setCell ⟨g, 3, none⟩ (.int .i64 (T.last + 1))) fun e w' => (∃ x, e = .returned x) ∧ TPost w base g F (endT { T with last := T.last + 1 } tx (3, T.last + 1)) w') := Lib.hid (fun W hW => by
    have hdW := hd.below hW
    have og : Off (· = g) W (W.setCell ⟨g, 3, none⟩ (.int .i64 (T.last + 1))) := (Off.refl _ W).setCell _ rfl
    have hd1 := hdW.cell (T' := { T with last := T.last + 1 }) og (hdW.tb.s3 _) rfl rfl rfl rfl hd.n1 hd.n2 (Int.le_refl _)
    refine (end_any _ base g F { T with last := T.last + 1 } tx 3 (T.last + 1) ⟨b, ov, dv, hd1, hF⟩ h1 h2).mono ?_
    rintro e w' ⟨he, ho, F', p1, p2⟩
    refine ⟨he, TPost.from hW ⟨(og.mono (fun k _ e => (hF k).2 (.inl e))).trans ho, F', p1, fun k hk => (p2 k hk).imp_right (fun h => Nat.le_trans og.size h)⟩⟩)
  generalize comT T tx = T' at *
  generalize askT T tx = a at *
  clear hd hF
  by_cases ha : a = 0
  · have q1 : (a != 0) = false := by simp [ha]
    have ht := HT.out
    rw [if_neg (by simp [ha])] at ht
    subst ha ht
    clear HT
    generalize endT { T with last := T.last + 1 } tx (3, T.last + 1) = T'' at *
    go_enter Try.func32, Try.ntmps32
    go_wp2_with fail
    refine HA.out.mono ?_
    rintro e w1 ⟨rfl, hb⟩
    have tb1 := HTB.out w1 hb
    have c3 := tb1.c3
    have z3 := tb1.frozen 3
    have c3' := (tb1.s3 (T.last + 1)).c3
    clear tb1
    generalize T.last = la at *
    go_wp2_with fail
    refine (HEN.out w1 hb).mono ?_
    rintro e w2 ⟨⟨x, rfl⟩, hp⟩
    go_wp2_with fail
    go_ret
    exact ⟨rfl, hp⟩
  · have q1 : (a != 0) = true := by simp [ha]
    have ht := HT.out
    rw [if_pos ha] at ht
    subst ht
    clear HT ha
    go_enter Try.func32, Try.ntmps32
    go_wp2_with fail
    refine HA.out.mono ?_
    rintro e w1 ⟨rfl, hb⟩
    go_wp2_with fail
    go_ret
    exact ⟨rfl, HS.out w1 hb⟩

set_option maxHeartbeats 400000 in
theorem aAdd_any (a : Addr) (v d : Int) (w : World) (hc : w.cell? a = some (.int .i64 v)) (hz : w.frozen? a = false) (h1 : -9223372036854775808 ≤ v + d) (h2 : v + d ≤ 9223372036854775807) :
    Calls Try.prog 69 #[.pointer (some a), .int .i64 d] w fun e w' => e = .returned (.int .i64 (v + d)) ∧ w.setCell a (.int .i64 (v + d)) = w' := by
  obtain ⟨g, o, rfl⟩ : ∃ g o, a = ⟨g, o, none⟩ := by
    obtain ⟨g, o, sp⟩ := a
    have := World.cell?_spot hc
    dsimp only at this
    subst this
    exact ⟨g, o, rfl⟩
  have hs := run_call_add (P := Try.prog) Try.func98 (by kernel_rfl) (by kernel_rfl) (by kernel_rfl) .i64 (by kernel_rfl) (y := d) (s := v + d) hc hz (by
    have e : IntKind.i64.wrap (v + d) = v + d := IntWalk.i64_in _ (by omega)
    simp [Op.intArith, e])
  clear hc hz
  generalize v + d = s at *
  go_enter Try.func69, Try.ntmps69
  go_wp2_with fail
  go_ret
  exact ⟨rfl, rfl⟩

/-- Begin: what it answers, and the table then. -/
def begF (T : TabS) : Bool := decide (16 ≤ T.opn.length) || decide (4611686018427387904 ≤ T.next)
def begE (T : TabS) : Int := if begF T then 5 else 0
def begN (T : TabS) : Int := if begF T then 0 else T.next
def begT (T : TabS) : TabS := if begF T then T else { T with next := T.next + 1, who := upd T.who T.next (2, T.last), opn := T.opn ++ [T.next] }

set_option maxRecDepth 100000 in
set_option maxHeartbeats 2000000 in
theorem Begin_any (w : World) (base g : Nat) (F : Nat → Prop) (T : TabS) (h : IsT w base g F T) (hbase : base ≤ w.heap.size) :
    Calls Try.prog 31 #[.pointer (some ⟨g, 0, none⟩)] w fun e w' => e = .returned (.tuple #[.int .i64 (begN T), .int .i64 (begE T)]) ∧ TPost w base g F (begT T) w' := by
  have HS := Lib.hid (TPost.same h)
  have HN := Lib.hid (Next_any w base g F T h)
  obtain ⟨b, ov, dv, hd, hF⟩ := h
  have HM := Lib.hid (tmade_yes g w hd.tb.c0)
  obtain ⟨Ap, cp, rfl, _, _⟩ := own_form hd.op
  have c5 := hd.tb.c5
  have ho2 := hd.o2
  by_cases hf1 : 16 ≤ T.opn.length
  · have e1 : begF T = true := by unfold begF; simp [hf1]
    have t1 : decide ((16 : Int) ≤ (T.opn.length : Int)) = true := by simp; omega
    unfold begN begE begT
    rw [if_pos e1, if_pos e1, if_pos e1]
    clear hd hF HN e1
    generalize T.opn.length = np at *
    go_enter Try.func31, Try.ntmps31
    go_wp2_with fail
    refine HM.out.mono ?_
    rintro e w' ⟨rfl, rfl⟩
    go_wp2_with fail
    go_ret2
    exact ⟨rfl, HS.out⟩
  · have t1 : decide ((16 : Int) ≤ (T.opn.length : Int)) = false := by simp; omega
    by_cases hf2 : 4611686018427387904 ≤ T.next
    · have e1 : begF T = true := by unfold begF; simp [hf2]
      have t2 : decide (4611686018427387904 ≤ T.next) = true := by simpa using hf2
      unfold begN begE begT
      rw [if_pos e1, if_pos e1, if_pos e1]
      clear hd hF e1
      generalize T.opn.length = np at *
      generalize T.next = nx at *
      go_enter Try.func31, Try.ntmps31
      go_wp2_with fail
      refine HM.out.mono ?_
      rintro e w' ⟨rfl, rfl⟩
      go_wp2_with fail
      refine HN.out.mono ?_
      rintro e w' ⟨rfl, rfl⟩
      go_wp2_with fail
      go_ret2
      exact ⟨rfl, HS.out⟩
    · have e1 : begF T = false := by unfold begF; simp; omega
      have t2 : decide (4611686018427387904 ≤ T.next) = false := by simp; omega
      have hn1 := hd.n1
      unfold begN begE begT
      rw [if_neg (by rw [e1]; simp), if_neg (by rw [e1]; simp), if_neg (by rw [e1]; simp)]
      have HAD := Lib.hid (aAdd_any ⟨g, 2, none⟩ T.next 1 w hd.tb.c2 (hd.tb.frozen 2) (by omega) (by omega))
      have og : Off (· = g) w (w.setCell ⟨g, 2, none⟩ (.int .i64 (T.next + 1))) := (Off.refl _ w).setCell _ rfl
      have hd1 := hd.cell (T' := { T with next := T.next + 1 }) og (hd.tb.s2 _) rfl rfl rfl rfl (by dsimp only; omega) (by dsimp only; omega) (by dsimp only; omega)
      obtain ⟨w3, hrun, hm3, hg3⟩ := (hd1.below (gr_drewN (gr_refl _) 1)).mp.put (k := T.next) (by omega) (by omega) (2, T.last)
      have hrun' : (Instr.mapUpdate 104 (.map (some b)) (.int .i64 T.next) (.agg #[.int .u8 2, .int .i64 T.last])).run Try.prog (w.setCell ⟨g, 2, none⟩ (.int .i64 (T.next + 1))).drew = .ok () w3 := hrun
      clear hrun
      have k3 := hd1.tb.c3
      have k4 := hd1.tb.c4
      have o3' : Off (· = b) (w.setCell ⟨g, 2, none⟩ (.int .i64 (T.next + 1))).drew w3 := Off.of_grown hg3 (fun k e => by injection e with e; exact e.symm)
      have o3 : Off (· = b) (w.setCell ⟨g, 2, none⟩ (.int .i64 (T.next + 1))) w3 := ⟨o3'.os, o3'.tape, o3'.output, o3'.size, o3'.block⟩
      have tb3 := hd1.tb.off o3 hd1.ne_gb
      have y5 := tb3.c5
      have z5 := tb3.frozen 5
      have bo := row_nm hd1.op hd1.mp
      have HOP : Hid (w3.ownsRow base 3 1 (.slice Ap T.opn.length cp) T.opn.length (T.opn.map (Value.int .i64))) := Lib.hid (ownsRow_off hd1.op o3 (fun k e e' => bo (by rw [e, e'])))
      have hs3 : w.heap.size ≤ w3.heap.size := Nat.le_trans og.size o3.size
      have HFIN : Hid (∀ (v : Value) (w4 : World), w4.ownsRow base 3 1 v (T.opn.length + 1) (T.opn.map (Value.int .i64) ++ [.int .i64 T.next]) → (w3.alloc (.cells #[.int .i64 T.next] 3)).grownBy w4 (Value.slice Ap T.opn.length cp).ownBlock →
          (v.ownBlock = (Value.slice Ap T.opn.length cp).ownBlock ∨ (v.ownBlock = some (w3.heap.size + 1) ∧ (w3.alloc (.cells #[.int .i64 T.next] 3)).grownBy w4 none)) →
          TB w4 g b T.first (T.next + 1) T.last (.slice Ap T.opn.length cp) dv ∧ TPost w base g F { T with next := T.next + 1, who := upd T.who T.next (2, T.last), opn := T.opn ++ [T.next] } (w4.setCell ⟨g, 5, none⟩ v)) := Lib.hid (fun v w4 k1 k2 k3 => by
        obtain ⟨p1, p2, p3, p4⟩ := hd1.turned (l := T.opn ++ [T.next]) (w2 := (w.setCell ⟨g, 2, none⟩ (.int .i64 (T.next + 1))).drew) (gr_drewN (gr_refl _) 1) hg3 hm3 (gr_alloc (gr_refl w3) (.cells #[.int .i64 T.next] 3)) k2 (by rw [List.length_append, List.map_append]; exact k1) (by
          rcases k3 with k3 | ⟨k3, _⟩
          · exact .inl k3
          · exact .inr ⟨_, k3, by simp⟩) (by rw [List.length_append]; simp; omega) (fun x hx => by
          dsimp only
          rcases List.mem_append.1 hx with hx | hx
          · have := hd.oi x hx; omega
          · simp at hx; omega)
        refine ⟨p1, (og.mono (fun k _ e => (hF k).2 (.inl e))).trans (p3.mono (fun k _ hk => (hF k).2 hk)), _, ⟨b, v, dv, p2, fun k => Iff.rfl⟩, fun k hk => ?_⟩
        rcases p4 k hk with h | h
        · exact .inl ((hF k).2 h)
        · exact .inr (Nat.le_trans og.size h))
      obtain ⟨i0, hi0, hz0, hz1, hz2⟩ := info_parts info_int
      have HR : Hid (Rd (w3.alloc (.cells #[.int .i64 T.next] 3)) 1 (some ⟨w3.heap.size, 0, none⟩) 1 [.int .i64 T.next]) := Lib.hid (Rd.new w3 _ #[_] 1 1 rfl)
      have hmx : T.opn.length + 1 ≤ maxLen := by simp only [maxLen]; omega
      have hw1 : IntKind.i64.wrap (T.next + 1 - 1) = T.next := by
        rw [show T.next + 1 - 1 = T.next by omega]
        exact IntWalk.i64_in _ (by omega)
      have hw2 : T.next + 1 - 1 = T.next := by omega
      have HWW := Lib.hid hw2
      clear hd hd1 hF e1 og hm3 hg3 o3 o3' bo tb3 hw1 hw2
      generalize T.opn.length = np at *
      go_enter Try.func31, Try.ntmps31
      go_wp2_with fail
      refine HM.out.mono ?_
      rintro e w' ⟨rfl, rfl⟩
      go_wp2_with fail
      refine HN.out.mono ?_
      rintro e w' ⟨rfl, rfl⟩
      go_wp2_with fail
      refine HAD.out.mono ?_
      rintro e w' ⟨rfl, rfl⟩
      go_wp2_with fail
      go_region
      all_goals
        clear hrun' k3 k4 c5
        go_wp2_with (at_builtin; refine wpList_append_Rd _ rfl (.tmp 38) (.tmp 40) _ rfl base 3 i0 _ 1 8 Try.underlying22 hi0 hz0 hz1 hz2 rfl (.slice Ap np cp) np _ rfl (HOP.out.alloc _) (some ⟨w3.heap.size, 0, none⟩) 1 1 [.int .i64 T.next] rfl HR.out (by simp [Value.oneCell']) (by omega) hmx (by rw [World.size_alloc]; omega) ?_; intro v4 w4 hown4 hg4 _ hbl4; obtain ⟨tb4, hp⟩ := HFIN.out v4 w4 hown4 hg4 (by rw [World.size_alloc] at hbl4; exact hbl4); obtain ⟨Av, cv, rfl, _, _⟩ := own_form hown4; have x5 := tb4.c5; have u5 := tb4.frozen 5; clear tb4 hown4 hg4 hbl4)
        go_ret2
        exact ⟨rfl, hp⟩

end Go.Proofs.Ytjopobkcijkpmaa
