/-
  record.Encode of any record; record.All.
-/
import Derived.Test.YthpjjoahffagcaaRdG
namespace Go.Proofs.Ythpjjoahffagcaa
open Go.RowKit

theorem Encode_any (k : Nat) (tx : Int) (A : Option Addr) (n d : Nat) (cs : List Ch) (w : World) (hc : CR w A n cs) (hn : n ≤ 9223372036854775807) (hpb : ∀ c ∈ cs, ∀ p ∈ c.2.2, p.1 ≤ 9223372036854775807) :
    Calls Try.prog 23 #[.agg #[.int .u8 (k : Int), .int .i64 tx, .slice A n d]] w fun e w' => ∃ v, e = .returned (.tuple #[v, .int .i64 (encE ⟨k, tx, cs⟩ : Int)]) ∧ OB w' w.heap.size v (encL ⟨k, tx, cs⟩) ∧ Below w.heap.size w w' := by
  cases hr : (Rec.mk k tx cs).right with
  | false =>
    refine (Encode_no (k : Int) tx A n d cs w hc hn hpb hr).mono ?_
    rintro e w' ⟨rfl, hb⟩
    unfold encE encL
    rw [hr]
    exact ⟨_, rfl, OB.nil _ _, hb⟩
  | true =>
    have g := (right_good hr).2.1
    obtain ⟨t, rfl⟩ := Int.eq_ofNat_of_zero_le g
    refine (Encode_yes k t A n d cs w hc hpb hr).mono ?_
    rintro e w' ⟨v, rfl, ho, hb⟩
    unfold encE encL
    rw [hr]
    exact ⟨v, rfl, ho, hb⟩

/-- The cells of records. -/
def rcs : List (Int × Int × Value) → List Value
  | [] => []
  | p :: ps => .int .u8 p.1 :: .int .i64 p.2.1 :: p.2.2 :: rcs ps
theorem rcs_length (ps : List (Int × Int × Value)) : (rcs ps).length = ps.length * 3 := by
  induction ps with
  | nil => rfl
  | cons p ps ih => simp only [rcs, List.length_cons, ih]; omega
theorem rcs_append (ps qs : List (Int × Int × Value)) : rcs (ps ++ qs) = rcs ps ++ rcs qs := by
  induction ps with
  | nil => rfl
  | cons p ps ih => simp only [List.cons_append, rcs, ih]
/-- A row of records of one's own. -/
def ORW (w : World) (base : Nat) (v : Value) (rs : List Rec) : Prop :=
  ∃ us : List (Int × Int × Value), w.ownsRow base 38 3 v rs.length (rcs us) ∧ us.length = rs.length ∧ ∀ (i : Nat) (p : Rec) (q : Int × Int × Value), rs[i]? = some p → us[i]? = some q → q.1 = (p.kind : Int) ∧ q.2.1 = p.tx ∧ OCW w base q.2.2 p.cs
section
variable {w w' w4 : World} {base : Nat} {v v4 : Value} {rs : List Rec}
theorem ORW.nil (w : World) (base : Nat) : ORW w base (.slice none 0 0) [] := ⟨[], ⟨rfl, .inl ⟨rfl, rfl⟩⟩, rfl, fun i p q h => by simp at h⟩
theorem ORW.below (h : ORW w base v rs) (hb : Below w.heap.size w w') : ORW w' base v rs := by
  obtain ⟨us, h1, h2, h3⟩ := h
  exact ⟨us, ownsRow_off (S := fun _ => False) h1 (Off.of_below hb) (fun _ _ h => h), h2, fun i p q hp hq => ⟨(h3 i p q hp hq).1, (h3 i p q hp hq).2.1, (h3 i p q hp hq).2.2.below hb⟩⟩
theorem ORW.lower {b : Nat} (h : ORW w base v rs) (hb : b ≤ base) : ORW w b v rs := by
  obtain ⟨us, h1, h2, h3⟩ := h
  exact ⟨us, own_lower h1 hb, h2, fun i p q hp hq => ⟨(h3 i p q hp hq).1, (h3 i p q hp hq).2.1, (h3 i p q hp hq).2.2.lower hb⟩⟩
theorem ORW.push {us : List (Int × Int × Value)} (h2 : us.length = rs.length) (h3 : ∀ (i : Nat) (p : Rec) (q : Int × Int × Value), rs[i]? = some p → us[i]? = some q → q.1 = (p.kind : Int) ∧ q.2.1 = p.tx ∧ OCW w base q.2.2 p.cs) {k : Nat} {tx : Int} {u : Value} {cs : List Ch} (hu : OCW w base u cs) (hg : w.grownBy w4 v.ownBlock) (hv : ∀ k, v.ownBlock = some k → ∃ cur, w.heap[k]? = some (.cells cur 38 (0, 0)))
    (ho : w4.ownsRow base 38 3 v4 (rs.length + 1) (rcs us ++ [.int .u8 (k : Int), .int .i64 tx, u])) : ORW w4 base v4 (rs ++ [⟨k, tx, cs⟩]) := by
  have o : Off (fun k => v.ownBlock = some k) w w4 := Off.of_grown hg (fun _ e => e)
  have t1 : ∀ {x : Value} {m : List Ch}, OCW w base x m → OCW w4 base x m := fun {x m} hx => hx.ty o (fun k e => by
    obtain ⟨c2, e2⟩ := hv k e
    exact ⟨_, _, _, e2, by decide, by decide, by decide⟩)
  refine ⟨us ++ [((k : Int), tx, u)], ?_, by rw [List.length_append, List.length_append, h2]; rfl, fun i p q hp hq => ?_⟩
  · rw [List.length_append, rcs_append]
    exact ho
  · rcases Nat.lt_or_ge i rs.length with hi | hi
    · rw [List.getElem?_append_left hi] at hp
      rw [List.getElem?_append_left (by rw [h2]; exact hi)] at hq
      obtain ⟨h4, h5, h6⟩ := h3 i p q hp hq
      exact ⟨h4, h5, t1 h6⟩
    · rw [List.getElem?_append_right hi] at hp
      rw [List.getElem?_append_right (by rw [h2]; exact hi), h2] at hq
      obtain h0 | h0 : i - rs.length = 0 ∨ 1 ≤ i - rs.length := by omega
      · rw [h0] at hp hq
        simp at hp hq
        subst hp hq
        exact ⟨rfl, rfl, t1 hu⟩
      · rw [List.getElem?_eq_none (by simpa using h0)] at hp
        cases hp
end

/-! Plain: All. -/
def allF : Nat → List Rec → List UInt8 → List Rec × Nat
  | 0, acc, _ => (acc, 0)
  | f + 1, acc, b => if b = [] then (acc, 0) else if decE b ≠ 0 then ([], decE b) else allF f (acc ++ [decR b]) (b.drop (decN b))
def allR (b : List UInt8) : List Rec := (allF b.length [] b).1
def allE (b : List UInt8) : Nat := (allF b.length [] b).2
theorem decN_le {b : List UInt8} (h : decE b = 0) : 4 ≤ decN b ∧ decN b ≤ b.length := by
  unfold decE at h
  unfold decN
  split at h
  · omega
  · rename_i hs
    rw [if_neg hs]
    split at h
    · rename_i hf
      rw [if_pos hf]
      unfold short at hs
      omega
    · omega
theorem allF_step {f : Nat} {acc : List Rec} {b : List UInt8} (hl : b.length ≤ f) (h0 : b ≠ []) : allF f acc b = if decE b ≠ 0 then ([], decE b) else allF (f - 1) (acc ++ [decR b]) (b.drop (decN b)) := by
  cases f with
  | zero => exact absurd (List.eq_nil_of_length_eq_zero (by omega)) h0
  | succ f =>
    show (if b = [] then (acc, 0) else _) = _
    rw [if_neg h0]
    rfl
theorem allF_nil (f : Nat) (acc : List Rec) : allF f acc [] = (acc, 0) := by
  cases f with
  | zero => rfl
  | succ f => show (if ([] : List UInt8) = [] then (acc, 0) else _) = _; rw [if_pos rfl]
theorem info_record : (Try.prog.info? 38).map (fun i => (i.zero, i.size, i.bytes)) = some (some (.agg #[.int .u8 0, .int .i64 0, .slice none 0 0]), 3, 40) := by kernel_rfl

set_option maxRecDepth 100000 in
set_option maxHeartbeats 4000000 in
theorem All_any (A : Option Addr) (n c : Nat) (b : List UInt8) (w : World) (hb : BR w A n b) (hn : n ≤ 1073741824) (hnc : n ≤ c) (hc : c ≤ 9223372036854775807) :
    Calls Try.prog 18 #[.slice A n c] w fun e w' => ∃ v, e = .returned (.tuple #[v, .int .i64 (allE b : Int)]) ∧ ORW w' w.heap.size v (allR b) ∧ Below w.heap.size w w' := by
  obtain ⟨i0, hi0, hz0, hz1, hz2⟩ := info_parts info_u8
  obtain ⟨i1, hi1, hy0, hy1, hy2⟩ := info_parts info_record
  have HL := Lib.hid hb.len
  have HFA : Hid (allF b.length [] b = (allR b, allE b)) := Lib.hid rfl
  generalize allR b = ar at *
  generalize allE b = ae at *
  go_enter Try.func18, Try.ntmps18
  go_wp2_with fail
  go_loopw [0, 2, 3, 4, 5, 6, 7] (fun bv _ _ v _ _ _ wr => ∃ (f : Nat) (acc : List Rec) (b' : List UInt8) (A' : Option Addr) (n' c' : Nat) (Av : Option Addr) (cv : Nat), bv = .slice A' n' c' ∧ BR w A' n' b' ∧ n' ≤ c' ∧ c' ≤ 9223372036854775807 ∧ n' ≤ f ∧ acc.length + n' ≤ n ∧ v = .slice Av acc.length cv ∧ Hid (ORW wr w.heap.size (.slice Av acc.length cv) acc) ∧ Hid (Below w.heap.size w wr) ∧ Hid (allF f acc b' = (ar, ae))) (fun bv _ _ _ _ _ _ _ => match bv with | .slice _ k _ => k | _ => 0)
  case atStart => exact ⟨b.length, [], b, A, n, c, none, 0, rfl, hb, hnc, hc, by rw [HL.out]; exact Nat.le_refl _, by simp, rfl, Lib.hid (ORW.nil _ _), Lib.hid (gr_refl _), HFA⟩
  case round =>
    clear hb HFA HL
    obtain ⟨f, acc, b', A', n', c', Av, cv, rfl, hb', hnc', hc', hnf, hacc, rfl, HOR, HBW, HE⟩ := hrel
    have hl := hb'.len
    by_cases h0 : 0 < n'
    · have t1 : decide ((0 : Int) < (n' : Int)) = true := decide_eq_true (by omega)
      have t2 : decide (0 < n') = true := decide_eq_true h0
      have hne : b' ≠ [] := fun e => by rw [e] at hl; simp at hl; omega
      have hst := allF_step (f := f) (acc := acc) (b := b') (by omega) hne
      have HD := Decode_any A' n' c' b' wr (hb'.below HBW.out) (by omega) hnc' hc'
      have HB := Lib.hid hb'
      have HE' := HE.out
      rw [hst] at HE'
      by_cases hde : decE b' = 0
      · have hdn := decN_le hde
        rw [hde] at HD
        rw [hde, if_neg (by simp)] at HE'
        have hcut := fun W => run_cut_l (P := Try.prog) W 26 5 i0 Try.underlying26 hi0 1 hz1 A' n' c' (decN b' : Int) (decN b') rfl (by omega)
        generalize decN b' = dn at *
        generalize decR b' = dr at *
        obtain ⟨kd, tx, cs⟩ := dr
        simp only at HD
        have HX := Lib.hid HD
        have HE2 := Lib.hid HE'
        have HBN := Lib.hid (BR.cut hb' (k := dn) (j := n') (c := c') (by omega) (Nat.le_refl _) hnc')
        have hld : (b'.drop dn).take (n' - dn) = b'.drop dn := List.take_of_length_le (by rw [List.length_drop]; omega)
        rw [hld] at HBN
        have d1 : (0 : Int) ≤ (dn : Int) := Int.natCast_nonneg _
        have d2 : (dn : Int) ≤ (n' : Int) := by omega
        clear HD HE HE' hst hne hde hb' hld
        go_wp2_with fail
        refine HX.out.mono ?_
        rintro e w5 ⟨v5, rfl, oc5, hb5⟩
        obtain ⟨A5, c5, rfl, _, _, _⟩ := oc5.cr
        have hbw5 := gr_trans HBW.out hb5
        have oc5' := oc5.lower HBW.out.size
        have or5 := HOR.out.below hb5
        clear HX hb5 oc5 HOR HBW
        go_upto_region 6 with fail
        have hb6 := gr_alloc (gr_refl w5) (.cells #[.int .u8 (kd : Int), .int .i64 tx, .slice A5 cs.length c5] 38)
        have hbx := B3.new w5 (.int .u8 (kd : Int)) (.int .i64 tx) (.slice A5 cs.length c5) (t := 38) (by decide)
        have hbw6 := gr_trans hbw5 hb6
        have oc6 := oc5'.below hb6
        have or6 := or5.below hb6
        generalize hvb : w5.heap.size = vb at *
        clear hb6 hbw5 oc5' or5 hvb
        generalize w5.alloc (.cells #[.int .u8 (kd : Int), .int .i64 tx, .slice A5 cs.length c5] 38) = w6 at *
        have q0 := hbx.c0
        have q1 := hbx.c1
        have q2 := hbx.c2
        have hb7 := gr_alloc (gr_refl w6) (.cells #[.int .u8 (kd : Int), .int .i64 tx, .slice A5 cs.length c5] 38)
        have HBW7 := Lib.hid (gr_trans hbw6 hb7)
        have HOC7 := Lib.hid (oc6.below hb7)
        obtain ⟨us, r1, r2, r3⟩ := or6.below hb7
        have HR1 := Lib.hid r1
        have HR2 := Lib.hid r2
        have HR3 := Lib.hid r3
        have hsz := hbw6.size
        clear hb7 hbw6 oc6 or6 r1 r2 r3 hbx
        go_wp2_with (at_builtin; refine wpList_append_Rd _ rfl (.tmp 20) (.tmp 22) _ rfl w.heap.size 38 i1 _ 3 40 Try.underlying41 hi1 hy0 hy1 hy2 rfl (.slice Av acc.length cv) acc.length (rcs us) rfl HR1.out (some ⟨w6.heap.size, 0, none⟩) 1 1 [.int .u8 (kd : Int), .int .i64 tx, .slice A5 cs.length c5] rfl (Rd.new w6 _ #[.int .u8 (kd : Int), .int .i64 tx, .slice A5 cs.length c5] 1 3 rfl) (by simp [Value.oneCell']) (by omega) (by simp only [maxLen]; omega) (by rw [World.size_alloc]; omega) ?_; intro v8 w8 ho8 hg8 _ _; have HO8 := Lib.hid ho8; have HG8 := Lib.hid hg8; obtain ⟨A8, c8, rfl, _, _⟩ := own_form ho8; clear ho8 hg8)
        have or8 := ORW.push HR2.out HR3.out HOC7.out HG8.out (fun k hk => own_blk HR1.out hk) HO8.out
        have bw8 := gr_own HBW7.out HR1.out HG8.out
        go_roundw
        case rel => exact ⟨f - 1, acc ++ [⟨kd, tx, cs⟩], b'.drop dn, cutA A' c' dn 1, n' - dn, c' - dn, A8, c8, rfl, HBN.out, by omega, by omega, by omega, by rw [List.length_append]; simp; omega, by rw [List.length_append]; rfl, Lib.hid (by rw [List.length_append]; exact or8), Lib.hid bw8, HE2⟩
        case measure => simp; omega
      · rw [if_pos hde] at HE'
        injection HE' with h1 h2
        have hde2 : ((decE b' : Int) != 0) = true := by simp; exact hde
        have HAR : Hid (ar = []) := Lib.hid h1.symm
        have HAE : Hid (ae = decE b') := Lib.hid h2.symm
        clear h1 h2
        generalize decE b' = de at *
        generalize decN b' = dn at *
        generalize decR b' = dr at *
        obtain ⟨kd, tx, cs⟩ := dr
        simp only at HD
        have HX := Lib.hid HD
        clear HD HE hst hne hde hb'
        go_wp2_with fail
        refine HX.out.mono ?_
        rintro e w5 ⟨v5, rfl, oc5, hb5⟩
        obtain ⟨A5, c5, rfl, _, _, _⟩ := oc5.cr
        have hbw5 := gr_trans HBW.out hb5
        clear HX hb5 oc5 HOR HBW
        go_wp2_with fail
        go_ret2
        rw [HAR.out, HAE.out]
        exact ⟨.slice none 0 0, rfl, ORW.nil _ _, gr_alloc hbw5 _⟩
    · obtain rfl : n' = 0 := by omega
      have t1 : decide ((0 : Int) < ((0 : Nat) : Int)) = false := rfl
      have hnil : b' = [] := List.eq_nil_of_length_eq_zero hl
      subst hnil
      have hE := HE.out
      rw [allF_nil] at hE
      injection hE with h1 h2
      subst h1 h2
      clear hb' hl HE
      go_wp2_with fail
      go_ret2
      exact ⟨_, rfl, HOR.out, HBW.out⟩

end Go.Proofs.Ythpjjoahffagcaa
