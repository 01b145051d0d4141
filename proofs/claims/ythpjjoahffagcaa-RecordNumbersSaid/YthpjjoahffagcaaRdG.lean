/-
  record.Encode.
-/
import Derived.Test.YthpjjoahffagcaaRdF
namespace Go.Proofs.Ythpjjoahffagcaa
open Go.RowKit

/-- Blocks that are no bytes stay. -/
def NB (w w' : World) : Prop := ∀ (k : Nat) (cs : Array Value) (t : TypeId) (fr : Nat × Nat), t ≠ 5 → w.heap[k]? = some (.cells cs t fr) → w'.heap[k]? = some (.cells cs t fr)
theorem NB.below {w w' : World} (h : Below w.heap.size w w') : NB w w' := fun k _cs _t _fr _ hk => (h.block k (Array.getElem?_eq_some_iff.1 hk).1).trans hk

section
variable (w : World)
/-- Appending bytes to bytes of one's own. -/
theorem wpList_append_B {ops : Array Oper} {rest : List Oper} {o : Oper} {a : Act} {Q : Exit → Act → World → Prop} (hgd : o.guard = none) (s x : Operand)
    (ho : o.op = .call { callee := .builtin .append, args := #[s, x], argTypes := #[26, 26] })
    {base : Nat} {v : Value} {l m : List UInt8} (hs : a.eval s = v) (hv : OB w base v l) {A : Option Addr} {n c : Nat} (hx : a.eval x = .slice A n c) (hr : BR w A n m) (hsz : l.length + n ≤ 140737488355328) (hbase : base ≤ w.heap.size)
    (h : ∀ A' c' w' L, Hid (L = l ++ m) → L.length = l.length + n → OB w' base (.slice A' L.length c') L → Below base w w' → NB w w' → wpList Try.prog ops Q rest (a.put o.dst (.slice A' L.length c')) w') : wpList Try.prog ops Q (o :: rest) a w := by
  obtain ⟨i0, hi0, hz0, hz1, hz2⟩ := info_parts info_u8
  have hlen : (l ++ m).length = l.length + n := by rw [List.length_append, hr.len]
  refine wpList_append_Rd w hgd s x 26 ho base 5 i0 _ 1 1 Try.underlying26 hi0 hz0 hz1 hz2 rfl v l.length (l.map bv) hs hv A n c (m.map bv) hx hr (one_bv _) (by omega) (by simp only [maxLen]; omega) hbase ?_
  intro v' w' hown hg _ _
  have ho' : OB w' base v' (l ++ m) := by
    unfold OB
    rw [hlen, List.map_append]
    exact hown
  obtain ⟨A', c', rfl, _, _⟩ := own_form ho'
  refine h A' c' w' (l ++ m) (Lib.hid rfl) hlen ho' ⟨hg.os, hg.tape, hg.output, hg.size, fun k hk => hg.block k (Nat.lt_of_lt_of_le hk hbase) (fun e => ?_)⟩ (fun k cs t fr ht hk => (hg.block k (Array.getElem?_eq_some_iff.1 hk).1 (fun e => ?_)).trans hk)
  · have := (hv.lt k e.symm).1
    omega
  · obtain ⟨cur, hc⟩ := own_blk hv e.symm
    exact cells_ne hk hc ht
end

theorem encPs_snoc (ps : List Pc) (p : Pc) : encPs (ps ++ [p]) = encPs ps ++ encP p := by
  induction ps with
  | nil => simp [encPs]
  | cons q ps ih => simp only [List.cons_append, encPs, ih, List.append_assoc]
theorem encCs_snoc (cs : List Ch) (c : Ch) : encCs (cs ++ [c]) = encCs cs ++ encC c := by
  induction cs with
  | nil => simp [encCs]
  | cons q cs ih => simp only [List.cons_append, encCs, ih, List.append_assoc]
theorem encPs_take {ps : List Pc} {k : Nat} (hk : k < ps.length) : encPs (ps.take (k + 1)) = encPs (ps.take k) ++ encP (ps.getD k (0, [])) := by
  rw [List.take_succ_eq_append_getElem hk, encPs_snoc, pc_getD' hk]
theorem encCs_take {cs : List Ch} {k : Nat} (hk : k < cs.length) : encCs (cs.take (k + 1)) = encCs (cs.take k) ++ encC (cs.getD k ch0) := by
  rw [List.take_succ_eq_append_getElem hk, encCs_snoc]
  simp [List.getD, List.getElem?_eq_getElem hk]

def encE (r : Rec) : Nat := if r.right = true then 0 else 2
def encL (r : Rec) : List UInt8 := if r.right = true then encR r else []

/-- A variable of three cells, of two. -/
def B3 (w : World) (g : Nat) (x0 x1 x2 : Value) (t : TypeId) : Prop := t ≠ 5 ∧ w.heap[g]? = some (.cells #[x0, x1, x2] t (0, 0))
def B2 (w : World) (g : Nat) (x0 x1 : Value) (t : TypeId) : Prop := t ≠ 5 ∧ w.heap[g]? = some (.cells #[x0, x1] t (0, 0))
section
variable {w w' : World} {g : Nat} {x0 x1 x2 : Value} {t : TypeId}
theorem B3.new (w : World) (x0 x1 x2 : Value) {t : TypeId} (ht : t ≠ 5) : B3 (w.alloc (.cells #[x0, x1, x2] t)) w.heap.size x0 x1 x2 t := ⟨ht, heap_alloc_new w _⟩
theorem B2.new (w : World) (x0 x1 : Value) {t : TypeId} (ht : t ≠ 5) : B2 (w.alloc (.cells #[x0, x1] t)) w.heap.size x0 x1 t := ⟨ht, heap_alloc_new w _⟩
theorem B3.nb (h : B3 w g x0 x1 x2 t) (k : NB w w') : B3 w' g x0 x1 x2 t := ⟨h.1, k _ _ _ _ h.1 h.2⟩
theorem B2.nb (h : B2 w g x0 x1 t) (k : NB w w') : B2 w' g x0 x1 t := ⟨h.1, k _ _ _ _ h.1 h.2⟩
theorem B3.c0 (h : B3 w g x0 x1 x2 t) : w.cell? ⟨g, 0, none⟩ = some x0 := by rw [cell_of_row w g 0 _ _ _ h.2]; rfl
theorem B3.c1 (h : B3 w g x0 x1 x2 t) : w.cell? ⟨g, 1, none⟩ = some x1 := by rw [cell_of_row w g 1 _ _ _ h.2]; rfl
theorem B3.c2 (h : B3 w g x0 x1 x2 t) : w.cell? ⟨g, 2, none⟩ = some x2 := by rw [cell_of_row w g 2 _ _ _ h.2]; rfl
theorem B2.c0 (h : B2 w g x0 x1 t) : w.cell? ⟨g, 0, none⟩ = some x0 := by rw [cell_of_row w g 0 _ _ _ h.2]; rfl
theorem B2.c1 (h : B2 w g x0 x1 t) : w.cell? ⟨g, 1, none⟩ = some x1 := by rw [cell_of_row w g 1 _ _ _ h.2]; rfl
end
theorem keep_of_below' {B : Nat} {w w' : World} (hb : Below B w w') (hB : w.heap.size = B) {p : Addr} {u : Value} (h : w.cell? p = some u) : w'.cell? p = some u := by
  subst hB
  exact keep_of_below hb h
theorem encPs_sum : ∀ (ps : List Pc) (s : Int), 0 ≤ s → s ≤ 4080 → rpFrom s ps = true → ((encPs ps).length : Int) + s ≤ 4 * ps.length + 4080
  | [], s, _, h2, _ => by simp [encPs]; omega
  | p :: ps, s, h0, h2, h => by
    unfold rpFrom at h
    split at h
    · cases h
    · rename_i hc
      have ih := encPs_sum ps (p.1 + p.2.length) (by omega) (by omega) h
      unfold encPs encP
      simp only [List.length_append, leB_length, List.length_cons]
      omega
theorem encCs_sum : ∀ (cs : List Ch) (s : Int), -1 ≤ s → rcFrom s cs = true → (encCs cs).length ≤ 20500 * cs.length
  | [], _, _, _ => by simp [encCs]
  | c :: cs, s, hs, h => by
    unfold rcFrom at h
    split at h
    · cases h
    · rename_i hc
      split at h
      · rename_i hi
        split at h
        · cases h
        · rename_i hn
          have ih := encCs_sum cs c.1 (by omega) h
          unfold encCs encC
          rw [if_pos hi]
          simp only [List.length_append, leB_length, List.length_cons]
          omega
      · rename_i hi
        split at h
        · rename_i hr
          have ih := encCs_sum cs c.1 (by omega) h
          have h1 := encPs_sum c.2.2 0 (by omega) (by omega) hr
          have h2 := (rpFrom_good _ 0 (Int.le_refl _) hr).2
          have h3 : c.2.2.length ≤ 4080 := by
            rcases h2 with e | e
            · rw [e]; simp
            · omega
          unfold encCs encC
          rw [if_neg hi]
          simp only [List.length_append, leB_length, List.length_cons]
          omega
        · cases h
theorem encB_small {r : Rec} (h : r.right = true) : (encB r).length ≤ 400000 := by
  have h4 := (right_good h).2.2.2.1
  have hc : (encCs r.cs).length ≤ 20500 * r.cs.length := by
    unfold Rec.right rightR at h
    split at h
    · cases h
    · split at h
      · have h0 : r.cs = [] := List.eq_nil_of_length_eq_zero (of_decide_eq_true h)
        rw [h0]
        simp [encCs]
      · split at h
        · rw [Bool.and_eq_true] at h
          exact encCs_sum _ _ (Int.le_refl _) h.2
        · cases h
  unfold encB
  simp only [List.length_cons, List.length_append, leB_length]
  omega
theorem encPs_len : ∀ (ps : List Pc), (∀ p ∈ ps, pcG p) → (encPs ps).length ≤ 65540 * ps.length
  | [], _ => by simp [encPs]
  | p :: ps, h => by
    have h1 := encPs_len ps (fun q hq => h q (by simp [hq]))
    have h2 := (h p (by simp)).2.2
    unfold encPs encP
    rw [List.length_append, List.length_append, List.length_append, leB_length, leB_length, List.length_cons]
    omega

set_option maxRecDepth 100000 in
set_option maxHeartbeats 8000000 in
theorem Encode_no (k : Int) (tx : Int) (A : Option Addr) (n d : Nat) (cs : List Ch) (w : World) (hc : CR w A n cs) (hn : n ≤ 9223372036854775807) (hpb : ∀ c ∈ cs, ∀ p ∈ c.2.2, p.1 ≤ 9223372036854775807) (hr : rightR k tx cs = false) :
    Calls Try.prog 23 #[.agg #[.int .u8 k, .int .i64 tx, .slice A n d]] w fun e w' => e = .returned (.tuple #[.slice none 0 0, .int .i64 2]) ∧ Below w.heap.size w w' := by
  have hB := gr_alloc (gr_refl w) (.cells #[.int .u8 k, .int .i64 tx, .slice A n d] 38)
  have X := Right_any k tx A n d cs _ (hc.below hB) hn hpb
  rw [hr] at X
  have HX := Lib.hid X
  have HB := Lib.hid hB
  clear hr hc hpb X hB
  go_enter Try.func23, Try.ntmps23
  go_wp2_with fail
  refine HX.out.mono ?_
  rintro e w1 ⟨rfl, hb1⟩
  go_wp2_with fail
  go_ret2
  exact ⟨rfl, gr_trans HB.out hb1⟩

set_option maxRecDepth 100000 in
set_option maxHeartbeats 16000000 in
theorem Encode_yes (k tx : Nat) (A : Option Addr) (n d : Nat) (cs : List Ch) (w : World) (hc : CR w A n cs) (hpb : ∀ c ∈ cs, ∀ p ∈ c.2.2, p.1 ≤ 9223372036854775807) (hr : (Rec.mk k tx cs).right = true) :
    Calls Try.prog 23 #[.agg #[.int .u8 (k : Int), .int .i64 (tx : Int), .slice A n d]] w fun e w' => ∃ v, e = .returned (.tuple #[v, .int .i64 0]) ∧ OB w' w.heap.size v (encR ⟨k, tx, cs⟩) ∧ Below w.heap.size w w' := by
  obtain ⟨g1, g2, g3, g4, g5⟩ := right_good hr
  simp only at g1 g2 g3 g4 g5
  have hlen := hc.len
  have hB := gr_alloc (gr_refl w) (.cells #[.int .u8 (k : Int), .int .i64 (tx : Int), .slice A n d] 38)
  have X := Right_any (k : Int) (tx : Int) A n d cs _ (hc.below hB) (by omega) hpb
  have hr' : rightR (k : Int) (tx : Int) cs = true := hr
  rw [hr'] at X
  have HX := Lib.hid X
  have HBX := Lib.hid (B3.new w (.int .u8 (k : Int)) (.int .i64 (tx : Int)) (.slice A n d) (t := 38) (by decide))
  have HB := Lib.hid hB
  have HC := Lib.hid (hc.below hB)
  have HSM := Lib.hid (encB_small hr)
  have HBA := Lib.hid hB
  have G5 := Lib.hid g5
  have HLN := Lib.hid hlen
  have b1 : (0 : Int) ≤ (k : Int) := Int.natCast_nonneg _
  have b2 : (k : Int) ≤ 255 := by omega
  have b3 : (0 : Int) ≤ (tx : Int) := Int.natCast_nonneg _
  have b4 : (tx : Int) ≤ 4611686018427387904 := g3
  have b5 : (0 : Int) ≤ (n : Int) := Int.natCast_nonneg _
  have b6 : (n : Int) ≤ 16 := by omega
  clear hr hr' hc hpb X hB g1 g2 g3 g5 hlen
  go_enter Try.func23, Try.ntmps23
  go_wp2_with fail
  generalize w.alloc (.cells #[.int .u8 (k : Int), .int .i64 (tx : Int), .slice A n d] 38) = wA at *
  refine HX.out.mono ?_
  rintro e w1 ⟨rfl, hb1⟩
  have hs1 := hb1.size
  have bw1 := gr_alloc hb1 (.cells #[.int .u8 (k : Int)] 5)
  have HBX1 := Lib.hid (HBX.out.nb (NB.below hb1))
  have r0 := HBX1.out.c0
  have ob1 : OB (w1.alloc (.cells #[.int .u8 (k : Int)] 5)) wA.heap.size (.slice (some ⟨w1.heap.size, 0, none⟩) 1 1) [UInt8.ofNat k] := by
    have e : (.int .u8 (k : Int) : Value) = bv (UInt8.ofNat k) := by
      unfold bv
      rw [UInt8.toNat_ofNat', Nat.mod_eq_of_lt (by omega)]
    rw [e]
    exact ⟨rfl, .inr ⟨_, 1, _, rfl, hs1, heap_alloc_new w1 _, Nat.le_refl _, by simp [maxLen], rfl, rfl⟩⟩
  have HBX2 := Lib.hid (HBX1.out.nb (NB.below (gr_alloc (gr_refl w1) (.cells #[.int .u8 (k : Int)] 5))))
  have r1 := HBX2.out.c1
  have OB0 := Lib.hid ob1
  have BW0 := Lib.hid bw1
  clear hb1 HX HBX HBX1 bw1 ob1 hs1
  go_wp2_with fail
  generalize w1.alloc (.cells #[.int .u8 (k : Int)] 5) = W0 at *
  clear r0 r1
  refine (Add64_any none 0 0 [] _ (tx) (BR.none_ _ _) (by omega) (by omega)).mono ?_
  rintro e X0 ⟨vx0, rfl, obx0, hbx0⟩
  rw [List.nil_append] at obx0
  obtain ⟨Ax0, cx0, rfl, brx0, _, _⟩ := obx0.formN (n := 8) (leB_length _ _)
  have OBa0 := Lib.hid (OB0.out.below hbx0)
  have BWa0 := Lib.hid (BW0.out.trans (hbx0.mono BW0.out.size))
  have BRa0 := Lib.hid brx0
  have HBX2a0 := Lib.hid (HBX2.out.nb (NB.below hbx0))
  clear obx0 hbx0 brx0 OB0 BW0 HBX2
  go_wp2_with (at_builtin; refine wpList_append_B _ rfl (.tmp 17) (.tmp 21) rfl rfl OBa0.out rfl (BRa0.out) (by simp) BWa0.out.size ?_; intro A1 c1 W1 L1 HL1 hq1 o1 bb1 nb1; have hl1 := Nat.le_of_eq hq1; clear hq1; have OBb1 := Lib.hid o1; have BWb1 := Lib.hid (BWa0.out.trans bb1); have HBX2a0b1 := Lib.hid (HBX2a0.out.nb nb1); clear o1 bb1 nb1; have y1 := HBX2a0b1.out.c2)
  clear OBa0 BWa0 HBX2a0
  simp only [List.length_cons, List.length_nil, Nat.zero_add] at hl1
  refine (Add16_any none 0 0 [] _ (n) (BR.none_ _ _) (by omega) (by omega)).mono ?_
  rintro e X2 ⟨vx2, rfl, obx2, hbx2⟩
  rw [List.nil_append] at obx2
  obtain ⟨Ax2, cx2, rfl, brx2, _, _⟩ := obx2.formN (n := 2) (leB_length _ _)
  have OBa2 := Lib.hid (OBb1.out.below hbx2)
  have BWa2 := Lib.hid (BWb1.out.trans (hbx2.mono BWb1.out.size))
  have BRa2 := Lib.hid brx2
  have HBX2a0b1a2 := Lib.hid (HBX2a0b1.out.nb (NB.below hbx2))
  clear obx2 hbx2 brx2 OBb1 BWb1 HBX2a0b1
  go_wp2_with (at_builtin; refine wpList_append_B _ rfl (.tmp 23) (.tmp 28) rfl rfl OBa2.out rfl (BRa2.out) (by omega) BWa2.out.size ?_; intro A3 c3 W3 L3 HL3 hq3 o3 bb3 nb3; have hl3 := Nat.le_of_eq hq3; clear hq3; have OBb3 := Lib.hid o3; have BWb3 := Lib.hid (BWa2.out.trans bb3); have HBX2a0b1a2b3 := Lib.hid (HBX2a0b1a2.out.nb nb3); clear o3 bb3 nb3; have y3 := HBX2a0b1a2b3.out.c2)
  clear OBa2 BWa2 HBX2a0b1a2
  clear y1 y3
  have y2 := HBX2a0b1a2b3.out.c2
  go_wp2_with fail
  clear y2
  have HD : Hid (L3 = UInt8.ofNat k :: (leB tx 8 ++ leB n 2)) := Lib.hid (by rw [HL3.out, HL1.out]; simp)
  have hd3 : L3.length ≤ 11 := by omega
  clear HL1 HL3 hl1 hl3 HBX2a0b1a2b3
  go_loopw [4, 6, 8, 9, 10, 33] (fun v _ _ _ _ i wr => ∃ (j : Nat) (L : List UInt8) (Av : Option Addr) (cv : Nat), j ≤ n ∧ i = .int .i64 j ∧ v = .slice Av L.length cv ∧ L.length ≤ 100 + j * 4300000000 ∧ Hid (OB wr wA.heap.size (.slice Av L.length cv) L) ∧ Hid (Below wA.heap.size wA wr) ∧ Hid (L = UInt8.ofNat k :: (leB tx 8 ++ (leB n 2 ++ encCs (cs.take j))))) (fun _ _ _ _ _ i _ => n - (intOf i).toNat)
  case atStart => exact ⟨0, L3, A3, c3, by omega, rfl, rfl, by omega, OBb3, BWb3, Lib.hid (by rw [HD.out]; simp [encCs])⟩
  case round =>
    clear OBb3 BWb3 HD hd3
    obtain ⟨j, L, Av, cv, hj, rfl, rfl, hL, OB9, BW9, HE⟩ := hrel
    by_cases hlt : j < n
    · have t1 : decide ((j : Int) < (n : Int)) = true := by simp; omega
      have t2 : decide (j < n) = true := by simp; omega
      have hjl : j < cs.length := by rw [HLN.out]; exact hlt
      obtain ⟨g, o, B, cB, D, cD, rfl, p0, p1, p2, p3, p4, p5, p6, p7, p8⟩ := HC.out.at_ (i := j) hlt
      have HET := Lib.hid (encCs_take hjl)
      have HG := Lib.hid (G5.out (cs.getD j ch0) (ch_mem hjl))
      generalize cs.getD j ch0 = ch at *
      obtain ⟨pg, img, pps⟩ := ch
      simp only at p0 p1 p2 p3 p4 p5 p6 p7 p8
      have hg := HG.out
      obtain ⟨pgn, rfl⟩ := Int.eq_ofNat_of_zero_le hg.1
      have i1 : (0 : Int) ≤ (pgn : Int) := Int.natCast_nonneg _
      have i2 : (pgn : Int) ≤ 4294967295 := by have := hg.2.1; simp only at this; omega
      have i3 : pgn < 4294967296 := by omega
      have i4 : (0 : Int) ≤ (j : Int) := Int.natCast_nonneg _
      have i5 : (j : Int) < (n : Int) := by omega
      have i6 : pps.length ≤ 65535 := by have := hg.2.2.2.1; simp only at this; omega
      have i7 : img.length ≤ 4080 := by have := hg.2.2.1; simp only at this; omega
      have p0' := keep_of_below BW9.out p0
      have p1' := keep_of_below BW9.out p1
      have p2' := keep_of_below BW9.out p2
      have HP3 := Lib.hid p3
      have HP6 := Lib.hid p6
      have HGP := Lib.hid hg.2.2.2.2
      clear hg hjl hlt p0 p1 p2 p3 p4 p5 p6 p7 p8
      go_upto_region 9 with fail
      generalize hcb : wr.heap.size = cb at *
      have hbx := gr_alloc (gr_refl wr) (.cells #[.int .i64 (pgn : Int), .slice B img.length cB, .slice D pps.length cD] 56)
      have HCB := Lib.hid (B3.new wr (.int .i64 (pgn : Int)) (.slice B img.length cB) (.slice D pps.length cD) (t := 56) (by decide))
      rw [hcb] at HCB
      have OBd := Lib.hid (OB9.out.below hbx)
      have BWd := Lib.hid (BW9.out.trans (hbx.mono BW9.out.size))
      clear hbx hcb OB9 BW9 p0' p1' p2'
      generalize wr.alloc (.cells #[.int .i64 (pgn : Int), .slice B img.length cB, .slice D pps.length cD] 56) = Wd at *
      have c0 := HCB.out.c0
      go_wp2_with fail
      clear c0
      by_cases him : 0 < img.length
      · have t3 : decide ((0 : Int) < (img.length : Int)) = true := decide_eq_true (by omega)
        have t4 : decide (0 < img.length) = true := decide_eq_true (by omega)
        refine (Add32_any none 0 0 [] _ (pgn) (BR.none_ _ _) (by omega) (by omega)).mono ?_
        rintro e X4 ⟨vx4, rfl, obx4, hbx4⟩
        rw [List.nil_append] at obx4
        obtain ⟨Ax4, cx4, rfl, brx4, _, _⟩ := obx4.formN (n := 4) (leB_length _ _)
        have OBa4 := Lib.hid (OBd.out.below hbx4)
        have BWa4 := Lib.hid (BWd.out.trans (hbx4.mono BWd.out.size))
        have BRa4 := Lib.hid brx4
        have HCBa4 := Lib.hid (HCB.out.nb (NB.below hbx4))
        clear obx4 hbx4 brx4 OBd BWd HCB
        go_upto_region 10 with (at_builtin; refine wpList_append_B _ rfl (.tmp 37) (.tmp 41) rfl rfl OBa4.out rfl (BRa4.out) (by omega) BWa4.out.size ?_; intro A5 c5 W5 L5 HL5 hq5 o5 bb5 nb5; have hl5 := Nat.le_of_eq hq5; clear hq5; have OBb5 := Lib.hid o5; have BWb5 := Lib.hid (BWa4.out.trans bb5); have HCBa4b5 := Lib.hid (HCBa4.out.nb nb5); clear o5 bb5 nb5)
        clear OBa4 BWa4 HCBa4
        have ym := HCBa4b5.out.c1
        go_upto_region 11 with fail
        clear ym
        have hbl6 := gr_alloc (gr_refl W5) (.cells #[.int .u8 1] 5)
        have OBl6 := Lib.hid (OBb5.out.below hbl6)
        have BWl6 := Lib.hid (BWb5.out.trans (hbl6.mono BWb5.out.size))
        have BRl6 := Lib.hid (BR.litAt W5 5 [1] #[.int .u8 1] _ 1 rfl rfl rfl)
        have HCBa4b5l6 := Lib.hid (HCBa4b5.out.nb (NB.below hbl6))
        clear hbl6 OBb5 BWb5 HCBa4b5
        go_upto_region 12 with (at_builtin; refine wpList_append_B _ rfl (.tmp 47) (.tmp 48) rfl rfl OBl6.out rfl (BRl6.out) (by omega) BWl6.out.size ?_; intro A7 c7 W7 L7 HL7 hq7 o7 bb7 nb7; have hl7 := Nat.le_of_eq hq7; clear hq7; have OBb7 := Lib.hid o7; have BWb7 := Lib.hid (BWl6.out.trans bb7); have HCBa4b5l6b7 := Lib.hid (HCBa4b5l6.out.nb nb7); clear o7 bb7 nb7)
        clear OBl6 BWl6 HCBa4b5l6
        have yb := HCBa4b5l6b7.out.c1
        have HI := Lib.hid (HP3.out.below BWb7.out)
        go_wp2_with (at_builtin; refine wpList_append_B _ rfl (.tmp 50) (.tmp 52) rfl rfl OBb7.out rfl (HI.out) (by omega) BWb7.out.size ?_; intro A8 c8 W8 L8 HL8 hq8 o8 bb8 nb8; have hl8 := Nat.le_of_eq hq8; clear hq8; have OBb8 := Lib.hid o8; have BWb8 := Lib.hid (BWb7.out.trans bb8); have HCBa4b5l6b7b8 := Lib.hid (HCBa4b5l6b7.out.nb nb8); clear o8 bb8 nb8)
        clear OBb7 BWb7 HCBa4b5l6b7
        clear HI yb
        go_roundw
        case rel => exact ⟨j + 1, L8, A8, c8, by omega, by go_num, rfl, by omega, OBb8, BWb8, Lib.hid (by rw [HL8.out, HL7.out, HL5.out, HE.out, HET.out]; unfold encC; simp only; rw [if_pos him]; simp)⟩
        case measure => simp [intOf]; omega
      · have t3 : decide ((0 : Int) < (img.length : Int)) = false := decide_eq_false (by omega)
        have t4 : decide (0 < img.length) = false := decide_eq_false (by omega)
        refine (Add32_any none 0 0 [] _ (pgn) (BR.none_ _ _) (by omega) (by omega)).mono ?_
        rintro e X9 ⟨vx9, rfl, obx9, hbx9⟩
        rw [List.nil_append] at obx9
        obtain ⟨Ax9, cx9, rfl, brx9, _, _⟩ := obx9.formN (n := 4) (leB_length _ _)
        have OBa9 := Lib.hid (OBd.out.below hbx9)
        have BWa9 := Lib.hid (BWd.out.trans (hbx9.mono BWd.out.size))
        have BRa9 := Lib.hid brx9
        have HCBa9 := Lib.hid (HCB.out.nb (NB.below hbx9))
        clear obx9 hbx9 brx9 OBd BWd HCB
        go_upto_region 10 with (at_builtin; refine wpList_append_B _ rfl (.tmp 37) (.tmp 41) rfl rfl OBa9.out rfl (BRa9.out) (by omega) BWa9.out.size ?_; intro A10 c10 W10 L10 HL10 hq10 o10 bb10 nb10; have hl10 := Nat.le_of_eq hq10; clear hq10; have OBb10 := Lib.hid o10; have BWb10 := Lib.hid (BWa9.out.trans bb10); have HCBa9b10 := Lib.hid (HCBa9.out.nb nb10); clear o10 bb10 nb10)
        clear OBa9 BWa9 HCBa9
        have ym := HCBa9b10.out.c1
        go_upto_region 13 with fail
        clear ym
        have hbl11 := gr_alloc (gr_refl W10) (.cells #[.int .u8 0] 5)
        have OBl11 := Lib.hid (OBb10.out.below hbl11)
        have BWl11 := Lib.hid (BWb10.out.trans (hbl11.mono BWb10.out.size))
        have BRl11 := Lib.hid (BR.litAt W10 5 [0] #[.int .u8 0] _ 1 rfl rfl rfl)
        have HCBa9b10l11 := Lib.hid (HCBa9b10.out.nb (NB.below hbl11))
        clear hbl11 OBb10 BWb10 HCBa9b10
        go_upto_region 14 with (at_builtin; refine wpList_append_B _ rfl (.tmp 54) (.tmp 55) rfl rfl OBl11.out rfl (BRl11.out) (by omega) BWl11.out.size ?_; intro A12 c12 W12 L12 HL12 hq12 o12 bb12 nb12; have hl12 := Nat.le_of_eq hq12; clear hq12; have OBb12 := Lib.hid o12; have BWb12 := Lib.hid (BWl11.out.trans bb12); have HCBa9b10l11b12 := Lib.hid (HCBa9b10l11.out.nb nb12); clear o12 bb12 nb12)
        clear OBl11 BWl11 HCBa9b10l11
        have yb := HCBa9b10l11b12.out.c2
        have s1 : (0 : Int) ≤ (pps.length : Int) := Int.natCast_nonneg _
        have s2 : (pps.length : Int) ≤ 65535 := by omega
        go_wp2_with fail
        clear yb
        refine (Add16_any none 0 0 [] _ (pps.length) (BR.none_ _ _) (by omega) (by omega)).mono ?_
        rintro e X13 ⟨vx13, rfl, obx13, hbx13⟩
        rw [List.nil_append] at obx13
        obtain ⟨Ax13, cx13, rfl, brx13, _, _⟩ := obx13.formN (n := 2) (leB_length _ _)
        have OBa13 := Lib.hid (OBb12.out.below hbx13)
        have BWa13 := Lib.hid (BWb12.out.trans (hbx13.mono BWb12.out.size))
        have BRa13 := Lib.hid brx13
        have HCBa9b10l11b12a13 := Lib.hid (HCBa9b10l11b12.out.nb (NB.below hbx13))
        clear obx13 hbx13 brx13 OBb12 BWb12 HCBa9b10l11b12
        go_upto_region 15 with (at_builtin; refine wpList_append_B _ rfl (.tmp 57) (.tmp 62) rfl rfl OBa13.out rfl (BRa13.out) (by omega) BWa13.out.size ?_; intro A14 c14 W14 L14 HL14 hq14 o14 bb14 nb14; have hl14 := Nat.le_of_eq hq14; clear hq14; have OBb14 := Lib.hid o14; have BWb14 := Lib.hid (BWa13.out.trans bb14); have HCBa9b10l11b12a13b14 := Lib.hid (HCBa9b10l11b12a13.out.nb nb14); clear o14 bb14 nb14)
        clear OBa13 BWa13 HCBa9b10l11b12a13
        have yc := HCBa9b10l11b12a13b14.out.c2
        go_wp2_with fail
        clear yc
        have HD : Hid (L14 = L ++ (leB pgn 4 ++ (0 :: leB pps.length 2))) := Lib.hid (by rw [HL14.out, HL12.out, HL10.out]; simp)
        have hd3 : L14.length ≤ L.length + 7 := by omega
        clear HL10 HL12 HL14 hl10 hl12 hl14 HCBa9b10l11b12a13b14
        generalize L14 = Lm at *
        go_loopw [4, 8, 9, 10, 67] (fun v _ _ _ i wr => ∃ (q : Nat) (M : List UInt8) (Am : Option Addr) (cm : Nat), q ≤ pps.length ∧ i = .int .i64 q ∧ v = .slice Am M.length cm ∧ M.length ≤ Lm.length + 65540 * q ∧ Hid (OB wr wA.heap.size (.slice Am M.length cm) M) ∧ Hid (Below wA.heap.size wA wr) ∧ Hid (M = Lm ++ encPs (pps.take q))) (fun _ _ _ _ i _ => pps.length - (intOf i).toNat)
        case atStart => exact ⟨0, Lm, A14, c14, by omega, rfl, rfl, by omega, OBb14, BWb14, Lib.hid (by simp [encPs])⟩
        case round =>
          clear OBb14 BWb14
          obtain ⟨q, M, Am, cm, hq, rfl, rfl, hM, OBm, BWm, HM⟩ := hrel
          by_cases hlt : q < pps.length
          · have u1 : decide ((q : Int) < (pps.length : Int)) = true := decide_eq_true (by omega)
            have u2 : decide (q < pps.length) = true := decide_eq_true hlt
            obtain ⟨gp, op, Bp, cp, rfl, p0, p1, p2, p3, p4⟩ := HP6.out.at_ (i := q) hlt
            have HPT := Lib.hid (encPs_take hlt)
            have hg := HGP.out (pps.getD q (0, [])) (pc_mem hlt)
            generalize pps.getD q (0, []) = pc at *
            obtain ⟨pa, pl⟩ := pc
            simp only at p0 p1 p2 p3 p4
            obtain ⟨pan, rfl⟩ := Int.eq_ofNat_of_zero_le hg.1
            have v1 : (0 : Int) ≤ (pan : Int) := Int.natCast_nonneg _
            have v2 : (pan : Int) ≤ 65535 := by have := hg.2.1; simp only at this; omega
            have v3 : pl.length ≤ 65535 := by have := hg.2.2; simp only at this; omega
            have v4 : (0 : Int) ≤ (q : Int) := Int.natCast_nonneg _
            have v5 : (q : Int) < (pps.length : Int) := by omega
            have p0' := keep_of_below BWm.out p0
            have p1' := keep_of_below BWm.out p1
            have HPB := Lib.hid p2
            clear hg hlt p0 p1 p2 p3 p4
            go_upto_region 18 with fail
            generalize hpb : wr.heap.size = pb at *
            have hbx := gr_alloc (gr_refl wr) (.cells #[.int .i64 (pan : Int), .slice Bp pl.length cp] 29)
            have HP2 := Lib.hid (B2.new wr (.int .i64 (pan : Int)) (.slice Bp pl.length cp) (t := 29) (by decide))
            rw [hpb] at HP2
            have OBn := Lib.hid (OBm.out.below hbx)
            have BWn := Lib.hid (BWm.out.trans (hbx.mono BWm.out.size))
            clear hbx hpb OBm BWm p0' p1'
            generalize wr.alloc (.cells #[.int .i64 (pan : Int), .slice Bp pl.length cp] 29) = Wn at *
            have z0 := HP2.out.c0
            have z1 := HP2.out.c1
            have HPC := Lib.hid (HPB.out.below BWn.out)
            have wq : IntKind.u16.wrap (pan : Int) = (pan : Int) := IntWalk.u16_in _ ⟨v1, v2⟩
            go_region_held3 (fun W => W.cell? ⟨pb, 0, none⟩ = some (.int .i64 (pan : Int)) ∧ W.cell? ⟨pb, 1, none⟩ = some (.slice Bp pl.length cp))
              (first | exact ⟨z0, z1⟩ | exact ⟨keep_of_below hx1 z0, keep_of_below hx1 z1⟩ | exact ⟨keep_of_below hx2 (keep_of_below hx1 z0), keep_of_below hx2 (keep_of_below hx1 z1)⟩)
              (first
                | (go_at_call 45; refine (Add16_any none 0 0 [] _ pan (BR.none_ _ _) (by omega) (by omega)).mono ?_; rintro e x1 ⟨vx, rfl, ox1, hx1⟩; rw [List.nil_append] at ox1; obtain ⟨Ax, cx, rfl, brx, _, _⟩ := ox1.formN (n := 2) (leB_length _ _))
                | (go_at_call 47; refine (AddPart_fits _ _ 2 _ pl.length _ (leB pan 2) pl _ brx (HPC.out.drew.below hx1) (by omega) (by omega)).mono ?_; rintro e x2 ⟨vy, rfl, ox2, hx2⟩))
            have hxx := gr_trans (bel_drew hx1) hx2
            obtain ⟨Ay, cy, rfl, bry, _, _⟩ := ox2.form
            have OBo := Lib.hid (OBn.out.below hxx)
            have BWo := Lib.hid (BWn.out.trans (hxx.mono BWn.out.size))
            have BRo := Lib.hid bry
            have ly : (leB pan 2 ++ leB pl.length 2 ++ pl).length ≤ 65539 := by rw [List.length_append, List.length_append, leB_length, leB_length]; omega
            have HLY : Hid (leB pan 2 ++ leB pl.length 2 ++ pl = encP ((pan : Int), pl)) := Lib.hid (by unfold encP; simp)
            clear wq hx1 hx2 hxx brx bry ox1 ox2 OBn BWn HP2 z0 z1 HPC
            generalize leB pan 2 ++ leB pl.length 2 ++ pl = ep at *
            go_wp2_with (at_builtin; refine wpList_append_B _ rfl (.tmp 84) (.tmp 85) rfl rfl OBo.out rfl BRo.out (by omega) BWo.out.size ?_; intro A9 c9 W9 L9 HL9 hq9 o9 bb9 nb9; have hl9 := Nat.le_of_eq hq9; clear hq9; have OB9 := Lib.hid o9; have BW9 := Lib.hid (BWo.out.trans bb9); clear o9 bb9 nb9)
            go_roundw
            case rel => exact ⟨q + 1, L9, A9, c9, by omega, by go_num, rfl, by omega, OB9, BW9, Lib.hid (by rw [HL9.out, HM.out, HPT.out, HLY.out]; simp)⟩
            case measure => simp [intOf]; omega
          · obtain rfl : q = pps.length := by omega
            have u1 : decide ((pps.length : Int) < (pps.length : Int)) = false := decide_eq_false (by omega)
            have u2 : decide (pps.length < pps.length) = false := decide_eq_false (by omega)
            go_wp2_with fail
            go_roundw
            case rel => exact ⟨j + 1, M, Am, cm, by omega, by go_num, rfl, by omega, OBm, BWm, Lib.hid (by rw [HM.out, HD.out, HE.out, HET.out]; unfold encC; simp only; rw [if_neg him, List.take_length]; simp)⟩
            case measure => simp [intOf]; omega
    · obtain rfl : n = j := by omega
      have t1 : decide ((n : Int) < (n : Int)) = false := decide_eq_false (by omega)
      have t2 : decide (n < n) = false := decide_eq_false (by omega)
      have hL2 : L.length ≤ 68800000100 := by omega
      have l0 : (0 : Int) ≤ (L.length : Int) := Int.natCast_nonneg _
      have HBL : Hid (L = encB ⟨k, tx, cs⟩) := Lib.hid (by
        rw [HE.out, List.take_of_length_le (Nat.le_of_eq HLN.out), ← HLN.out]
        unfold encB
        simp)
      have hL3 : L.length ≤ 400000 := by rw [HBL.out]; exact HSM.out
      have l1 : (L.length : Int) ≤ 4294967295 := by omega
      clear HE hL
      go_wp2_with fail
      refine (Add32_any none 0 0 [] _ L.length (BR.none_ _ _) (by omega) (by omega)).mono ?_
      rintro e x5 ⟨v5, rfl, ob5, hb5⟩
      rw [List.nil_append] at ob5
      obtain ⟨A5, c5, rfl, br5, _, _⟩ := ob5.formN (n := 4) (leB_length _ _)
      have OB5 := Lib.hid ob5
      obtain ⟨A7, c7, e7, br7, _, _⟩ := (OB9.out.below hb5).form
      injection e7 with e7 _ e8
      subst e7 e8
      have BR7 := Lib.hid br7
      have BW5 := Lib.hid (BW9.out.trans (hb5.mono BW9.out.size))
      have HSZ := Lib.hid (hb5.size)
      clear ob5 br5 br7 hb5 OB9
      go_wp2_with (at_builtin; refine wpList_append_B _ rfl (.tmp 92) (.tmp 93) rfl rfl OB5.out rfl BR7.out (by rw [leB_length]; omega) HSZ.out ?_; intro A9 c9 W9 L9 HL9 hq9 o9 bb9 nb9; clear hq9 nb9)
      go_ret2
      refine ⟨_, rfl, ?_, ?_⟩
      · have hL9 : L9 = encR ⟨k, tx, cs⟩ := by
          rw [HL9.out, HBL.out]
          rfl
        rw [← hL9]
        exact o9.lower (Nat.le_trans HBA.out.size BW9.out.size)
      · exact (HBA.out.trans (BW5.out.mono HBA.out.size)).trans (bb9.mono (Nat.le_trans HBA.out.size BW9.out.size))

end Go.Proofs.Ythpjjoahffagcaa
