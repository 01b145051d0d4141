/-
  Contracts: the calls upon one table that was made since a world w0; the calls upon a table that New did not make.
-/
import Derived.Test.YtjopobkcijkpmaaSnE
import Derived.Test.YtjopobkcijkpmaaSnI
namespace Go.Proofs.Ytjopobkcijkpmaa
open Go.RowKit

/-- One table, made since w0. -/
def TSt (w0 w : World) (g : Nat) (T : TabS) : Prop := Below w0.heap.size w0 w ∧ ∃ F, IsT w w0.heap.size g F T

section
variable {w0 w w' : World} {base g : Nat} {T : TabS} {F : Nat → Prop}
theorem IsT.lower {b : Nat} (h : IsT w base g F T) (hb : b ≤ base) : IsT w b g F T := by
  obtain ⟨m, ov, dv, hd, hF⟩ := h
  exact ⟨m, ov, dv, ⟨hd.tb, hd.mp, own_low hd.op hb, own_low hd.de hb, hd.f1, hd.f2, hd.n1, hd.n2, hd.o2, hd.d2, hd.oi, Nat.le_trans hb hd.gb, Nat.le_trans hb hd.bb, hd.ap⟩, hF⟩
theorem TSt.below (h : TSt w0 w g T) (hb : Below w.heap.size w w') : TSt w0 w' g T := by
  obtain ⟨h1, F, h2⟩ := h
  exact ⟨gr_trans h1 hb, F, h2.below hb⟩
theorem TSt.post {T' : TabS} (h1 : Below w0.heap.size w0 w) (h2 : IsT w w0.heap.size g F T) (hp : TPost w w0.heap.size g F T' w') : TSt w0 w' g T' := by
  obtain ⟨ho, F', h3, _⟩ := hp
  exact ⟨h1.trans (ho.below (fun k hk => (h2.foot_lt k hk).1) h1.size), F', h3⟩

theorem New_ts (n : Int) (A : Option Addr) (m c : Nat) (l : List Int) (hb : Below w0.heap.size w0 w) (ha : IR w A m l) (h1 : 1 ≤ n) (h2 : n ≤ 4611686018427387904) (hm : m ≤ 64) (hr : Rise 0 n l) :
    Calls Try.prog 30 #[.int .i64 n, .slice A m c] w fun e w' => ∃ g, e = .returned (.tuple #[.pointer (some ⟨g, 0, none⟩), .int .i64 0]) ∧ TSt w0 w' g (newT n l) := by
  refine (NewT_any n A m c l w ha h1 h2 hm hr).mono ?_
  rintro e w' ⟨g, F, rfl, ht, hb'⟩
  exact ⟨g, rfl, gr_trans hb hb', F, ht.lower hb.size⟩
theorem Begin_ts (h : TSt w0 w g T) : Calls Try.prog 31 #[.pointer (some ⟨g, 0, none⟩)] w fun e w' => e = .returned (.tuple #[.int .i64 (begN T), .int .i64 (begE T)]) ∧ TSt w0 w' g (begT T) := by
  obtain ⟨h1, F, h2⟩ := h
  refine (Begin_any w _ g F T h2 h1.size).mono ?_
  rintro e w' ⟨rfl, hp⟩
  exact ⟨rfl, TSt.post h1 h2 hp⟩
theorem Commit_ts (tx : Int) (h : TSt w0 w g T) (h1 : -9223372036854775808 ≤ tx) (h2 : tx ≤ 9223372036854775807) (hl0 : 0 ≤ T.last) (hl1 : T.last ≤ 1000000) : Calls Try.prog 32 #[.pointer (some ⟨g, 0, none⟩), .int .i64 tx] w fun e w' => e = .returned (.int .i64 (askT T tx)) ∧ TSt w0 w' g (comT T tx) := by
  obtain ⟨k1, F, k2⟩ := h
  refine (Commit_any w _ g F T tx k2 h1 h2 hl0 hl1).mono ?_
  rintro e w' ⟨rfl, hp⟩
  exact ⟨rfl, TSt.post k1 k2 hp⟩
theorem Abort_ts (tx : Int) (h : TSt w0 w g T) (h1 : -9223372036854775808 ≤ tx) (h2 : tx ≤ 9223372036854775807) : Calls Try.prog 33 #[.pointer (some ⟨g, 0, none⟩), .int .i64 tx] w fun e w' => e = .returned (.int .i64 (askT T tx)) ∧ TSt w0 w' g (aboT T tx) := by
  obtain ⟨k1, F, k2⟩ := h
  refine (Abort_any w _ g F T tx k2 h1 h2).mono ?_
  rintro e w' ⟨rfl, hp⟩
  exact ⟨rfl, TSt.post k1 k2 hp⟩
theorem Next_ts (h : TSt w0 w g T) : Calls Try.prog 39 #[.pointer (some ⟨g, 0, none⟩)] w fun e w' => e = .returned (.int .i64 T.next) ∧ w = w' := by
  obtain ⟨k1, F, k2⟩ := h
  exact Next_any w _ g F T k2
theorem Open_ts (h : TSt w0 w g T) : Calls Try.prog 34 #[.pointer (some ⟨g, 0, none⟩)] w fun e w' => ∃ v, e = .returned v ∧ w'.ownsRow w.heap.size 3 1 v T.opn.length (T.opn.map (Value.int .i64)) ∧ Below w.heap.size w w' := by
  obtain ⟨k1, F, k2⟩ := h
  exact Open_any w _ g F T k2
theorem IsOpen_ts (tx : Int) (h : TSt w0 w g T) (h1 : -9223372036854775808 ≤ tx) (h2 : tx ≤ 9223372036854775807) : Calls Try.prog 49 #[.pointer (some ⟨g, 0, none⟩), .int .i64 tx] w fun e w' => e = .returned (.bool (isO T tx)) ∧ TSt w0 w' g T := by
  have h' := h
  obtain ⟨k1, F, k2⟩ := h
  refine (IsOpen_any w _ g F T tx k2 h1 h2).mono ?_
  rintro e w' ⟨rfl, hb⟩
  exact ⟨rfl, h'.below hb⟩
theorem Visible_ts (tx wt : Int) (h : TSt w0 w g T) (h1 : -9223372036854775808 ≤ tx) (h2 : tx ≤ 9223372036854775807) (h3 : -9223372036854775808 ≤ wt) (h4 : wt ≤ 9223372036854775807) : Calls Try.prog 35 #[.pointer (some ⟨g, 0, none⟩), .int .i64 tx, .int .i64 wt] w fun e w' => e = .returned (.bool (visB T tx wt)) ∧ TSt w0 w' g T := by
  have h' := h
  obtain ⟨k1, F, k2⟩ := h
  refine (Visible_any w _ g F T tx wt k2 h1 h2 h3 h4).mono ?_
  rintro e w' ⟨rfl, hb⟩
  exact ⟨rfl, h'.below hb⟩
theorem Conflict_ts (tx wt : Int) (h : TSt w0 w g T) (h1 : -9223372036854775808 ≤ tx) (h2 : tx ≤ 9223372036854775807) (h3 : -9223372036854775808 ≤ wt) (h4 : wt ≤ 9223372036854775807) : Calls Try.prog 36 #[.pointer (some ⟨g, 0, none⟩), .int .i64 tx, .int .i64 wt] w fun e w' => e = .returned (.int .i64 (confE T tx wt)) ∧ TSt w0 w' g T := by
  have h' := h
  obtain ⟨k1, F, k2⟩ := h
  refine (Conflict_any w _ g F T tx wt k2 h1 h2 h3 h4).mono ?_
  rintro e w' ⟨rfl, hb⟩
  exact ⟨rfl, h'.below hb⟩
theorem ToAll_ts (wt : Int) (h : TSt w0 w g T) (h3 : -9223372036854775808 ≤ wt) (h4 : wt ≤ 9223372036854775807) : Calls Try.prog 37 #[.pointer (some ⟨g, 0, none⟩), .int .i64 wt] w fun e w' => e = .returned (.bool (toAllB T wt)) ∧ TSt w0 w' g T := by
  have h' := h
  obtain ⟨k1, F, k2⟩ := h
  refine (ToAll_any w _ g F T wt k2 h3 h4).mono ?_
  rintro e w' ⟨rfl, hb⟩
  exact ⟨rfl, h'.below hb⟩
end

/-- None, or one of noughts. -/
def UnT (p : Option Addr) (w : World) : Prop := p = none ∨ ∃ g, p = some ⟨g, 0, none⟩ ∧ w.cell? ⟨g, 0, none⟩ = some (.pointer none)
theorem UnT.below {p : Option Addr} {w w' : World} (h : UnT p w) (hb : Below w.heap.size w w') : UnT p w' := by
  rcases h with h | ⟨g, e, h⟩
  · exact .inl h
  · exact .inr ⟨g, e, keep_of_below hb h⟩
theorem tmade_un {p : Option Addr} {w : World} (h : UnT p w) :
    Calls Try.prog 68 #[.pointer p] w fun e w' => e = .returned (.bool false) ∧ w = w' := by
  rcases h with rfl | ⟨g, rfl, h⟩
  · exact tmade_nil w
  · exact tmade_no g w h

set_option maxHeartbeats 400000 in
theorem tasked_un (p : Option Addr) (w : World) (n : Int) (h : UnT p w) :
    Calls Try.prog 70 #[.pointer p, .int .i64 n] w fun e w' => e = .returned (.int .i64 1) ∧ w = w' := by
  have HM := Lib.hid (tmade_un h)
  clear h
  go_enter Try.func70, Try.ntmps70
  go_wp2_with fail
  refine HM.out.mono ?_
  rintro e w' ⟨rfl, rfl⟩
  go_wp2_with fail
  go_ret
  exact ⟨rfl, rfl⟩

set_option maxHeartbeats 400000 in
theorem Begin_un (p : Option Addr) (w : World) (h : UnT p w) :
    Calls Try.prog 31 #[.pointer p] w fun e w' => e = .returned (.tuple #[.int .i64 0, .int .i64 1]) ∧ w = w' := by
  have HM := Lib.hid (tmade_un h)
  clear h
  go_enter Try.func31, Try.ntmps31
  go_wp2_with fail
  refine HM.out.mono ?_
  rintro e w' ⟨rfl, rfl⟩
  go_wp2_with fail
  go_ret2
  exact ⟨rfl, rfl⟩

set_option maxHeartbeats 400000 in
theorem Commit_un (p : Option Addr) (w : World) (n : Int) (h : UnT p w) :
    Calls Try.prog 32 #[.pointer p, .int .i64 n] w fun e w' => e = .returned (.int .i64 1) ∧ w = w' := by
  have HM := Lib.hid (tasked_un p w n h)
  clear h
  go_enter Try.func32, Try.ntmps32
  go_wp2_with fail
  refine HM.out.mono ?_
  rintro e w' ⟨rfl, rfl⟩
  go_wp2_with fail
  go_ret
  exact ⟨rfl, rfl⟩

set_option maxHeartbeats 400000 in
theorem Abort_un (p : Option Addr) (w : World) (n : Int) (h : UnT p w) :
    Calls Try.prog 33 #[.pointer p, .int .i64 n] w fun e w' => e = .returned (.int .i64 1) ∧ w = w' := by
  have HM := Lib.hid (tasked_un p w n h)
  clear h
  go_enter Try.func33, Try.ntmps33
  go_wp2_with fail
  refine HM.out.mono ?_
  rintro e w' ⟨rfl, rfl⟩
  go_wp2_with fail
  go_ret
  exact ⟨rfl, rfl⟩

set_option maxHeartbeats 400000 in
theorem Kill_un (p : Option Addr) (w : World) (n : Int) (h : UnT p w) :
    Calls Try.prog 47 #[.pointer p, .int .i64 n] w fun e w' => e = .returned (.int .i64 1) ∧ w = w' := by
  have HM := Lib.hid (tasked_un p w n h)
  clear h
  go_enter Try.func47, Try.ntmps47
  go_wp2_with fail
  refine HM.out.mono ?_
  rintro e w' ⟨rfl, rfl⟩
  go_wp2_with fail
  go_ret
  exact ⟨rfl, rfl⟩

set_option maxHeartbeats 400000 in
theorem Conflict_un (p : Option Addr) (w : World) (n m : Int) (h : UnT p w) :
    Calls Try.prog 36 #[.pointer p, .int .i64 n, .int .i64 m] w fun e w' => e = .returned (.int .i64 1) ∧ w = w' := by
  have HM := Lib.hid (tasked_un p w n h)
  clear h
  go_enter Try.func36, Try.ntmps36
  go_wp2_with fail
  refine HM.out.mono ?_
  rintro e w' ⟨rfl, rfl⟩
  go_wp2_with fail
  go_ret
  exact ⟨rfl, rfl⟩

set_option maxHeartbeats 400000 in
theorem IsOpen_un (p : Option Addr) (w : World) (n : Int) (h : UnT p w) :
    Calls Try.prog 49 #[.pointer p, .int .i64 n] w fun e w' => e = .returned (.bool false) ∧ w = w' := by
  have HM := Lib.hid (tasked_un p w n h)
  clear h
  go_enter Try.func49, Try.ntmps49
  go_wp2_with fail
  refine HM.out.mono ?_
  rintro e w' ⟨rfl, rfl⟩
  go_wp2_with fail
  go_ret
  exact ⟨rfl, rfl⟩

set_option maxHeartbeats 400000 in
theorem Visible_un (p : Option Addr) (w : World) (n m : Int) (h : UnT p w) :
    Calls Try.prog 35 #[.pointer p, .int .i64 n, .int .i64 m] w fun e w' => e = .returned (.bool false) ∧ w = w' := by
  have HM := Lib.hid (IsOpen_un p w n h)
  clear h
  go_enter Try.func35, Try.ntmps35
  go_wp2_with fail
  refine HM.out.mono ?_
  rintro e w' ⟨rfl, rfl⟩
  go_wp2_with fail
  go_ret
  exact ⟨rfl, rfl⟩

set_option maxHeartbeats 400000 in
theorem ToAll_un (p : Option Addr) (w : World) (n : Int) (h : UnT p w) :
    Calls Try.prog 37 #[.pointer p, .int .i64 n] w fun e w' => e = .returned (.bool false) ∧ w = w' := by
  have HM := Lib.hid (tmade_un h)
  clear h
  go_enter Try.func37, Try.ntmps37
  go_wp2_with fail
  refine HM.out.mono ?_
  rintro e w' ⟨rfl, rfl⟩
  go_wp2_with fail
  go_ret
  exact ⟨rfl, rfl⟩

set_option maxHeartbeats 400000 in
theorem Open_un (p : Option Addr) (w : World) (h : UnT p w) :
    Calls Try.prog 34 #[.pointer p] w fun e w' => e = .returned (.slice none 0 0) ∧ w = w' := by
  have HM := Lib.hid (tmade_un h)
  clear h
  go_enter Try.func34, Try.ntmps34
  go_wp2_with fail
  refine HM.out.mono ?_
  rintro e w' ⟨rfl, rfl⟩
  go_wp2_with fail
  go_ret
  exact ⟨rfl, rfl⟩

set_option maxHeartbeats 400000 in
theorem Dead_un (p : Option Addr) (w : World) (h : UnT p w) :
    Calls Try.prog 50 #[.pointer p] w fun e w' => e = .returned (.slice none 0 0) ∧ w = w' := by
  have HM := Lib.hid (tmade_un h)
  clear h
  go_enter Try.func50, Try.ntmps50
  go_wp2_with fail
  refine HM.out.mono ?_
  rintro e w' ⟨rfl, rfl⟩
  go_wp2_with fail
  go_ret
  exact ⟨rfl, rfl⟩

set_option maxHeartbeats 400000 in
theorem Bury_un (p : Option Addr) (w : World) (h : UnT p w) :
    Calls Try.prog 51 #[.pointer p] w fun e w' => e = .returned (.slice none 0 0) ∧ w = w' := by
  have HM := Lib.hid (tmade_un h)
  clear h
  go_enter Try.func51, Try.ntmps51
  go_wp2_with fail
  refine HM.out.mono ?_
  rintro e w' ⟨rfl, rfl⟩
  go_wp2_with fail
  go_ret
  exact ⟨rfl, rfl⟩

set_option maxHeartbeats 400000 in
theorem Next_un (p : Option Addr) (w : World) (h : UnT p w) :
    Calls Try.prog 39 #[.pointer p] w fun e w' => e = .returned (.int .i64 0) ∧ w = w' := by
  have HM := Lib.hid (tmade_un h)
  clear h
  go_enter Try.func39, Try.ntmps39
  go_wp2_with fail
  refine HM.out.mono ?_
  rintro e w' ⟨rfl, rfl⟩
  go_wp2_with fail
  go_ret
  exact ⟨rfl, rfl⟩

end Go.Proofs.Ytjopobkcijkpmaa
