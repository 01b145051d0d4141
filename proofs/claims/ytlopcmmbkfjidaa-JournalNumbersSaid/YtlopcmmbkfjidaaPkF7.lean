/-
  Texts of this claim, joined: JnF, JnD, JnE, JnG, JnH, PlJ, PlK, PlL, JnI, JnJ. No statement of the program is proved here.
-/
import Derived.Test.YtlopcmmbkfjidaaPkF6
import Derived.Test.YtlopcmmbkfjidaaPkF5
/-! JnF -/
namespace Go.Proofs.Ytlopcmmbkfjidaa
open Go Go.RowKit

theorem rdG_len {C : Nat → List UInt8} {V : Nat → Nat} : ∀ (f i rest : Nat) (acc b : List UInt8), rdG C V f i rest acc = some b → acc.length ≤ 4076 * i → b.length ≤ 4076 * (i + f) ∧ acc.length ≤ b.length
  | 0, _, _, _, _, h, _ => by unfold rdG at h; cases h
  | f + 1, i, rest, acc, b, h, ha => by
    unfold rdG at h
    split at h
    · cases h
    · split at h
      · cases h
      · split at h
        · rename_i hs
          injection h with h
          subst h
          rw [List.length_append, List.length_take]
          have : min (sN (C i)) ((openP (C i)).drop 4).length ≤ 4076 := Nat.le_trans (Nat.min_le_left _ _) hs
          constructor
          · omega
          · omega
        · have := rdG_len f (i + 1) _ _ b h (by rw [List.length_append, List.length_take]; have : min 4076 ((openP (C i)).drop 4).length ≤ 4076 := Nat.min_le_left _ _; omega)
          rw [List.length_append] at this
          constructor
          · have := this.1; omega
          · omega
theorem rdN_le (D : DiskS) (fi bl ep pl ct room : Nat) : rdN (rdB D fi bl ep pl ct room) ≤ room := by
  unfold rdN
  split
  · omega
  · rename_i b hb
    split
    · have := (rdG_len room 0 0 [] b hb (by simp)).1
      unfold needL
      omega
    · omega
theorem allF_len : ∀ (f : Nat) (acc : List Rec) (b : List UInt8), (allF f acc b).1.length ≤ acc.length + f
  | 0, acc, b => by unfold allF; exact Nat.le_refl _
  | f + 1, acc, b => by
    unfold allF
    split
    · exact Nat.le_add_right _ _
    · split
      · exact Nat.zero_le _
      · have := allF_len f (acc ++ [decR b]) (b.drop (decN b))
        rw [List.length_append] at this
        simp only [List.length_cons, List.length_nil] at this
        omega
theorem rdR_len (o : Option (List UInt8)) : (rdR o).length ≤ 4076 * rdN o := by
  unfold rdR rdN
  split
  · exact Nat.zero_le _
  · rename_i b
    split
    · have := allF_len b.length [] b
      unfold allR needL
      simp only [List.length_nil] at this
      omega
    · exact Nat.zero_le _

/-- What Scan tells: the records, and how many blocks they take. -/
def scG (D : DiskS) (fi bl ep pl ct : Nat) : Nat → Nat → List Rec → List Rec × Nat
  | 0, used, acc => (acc, used)
  | f + 1, used, acc => if rdN (rdB D fi bl ep ((pl + used) % bl) (ct + used) (bl - used)) = 0 then (acc, used) else scG D fi bl ep pl ct f (used + rdN (rdB D fi bl ep ((pl + used) % bl) (ct + used) (bl - used))) (acc ++ rdR (rdB D fi bl ep ((pl + used) % bl) (ct + used) (bl - used)))
def scanR (D : DiskS) (fi bl ep pl ct : Nat) : List Rec := (scG D fi bl ep pl ct (bl + 1) 0 []).1
def scanU (D : DiskS) (fi bl ep pl ct : Nat) : Nat := (scG D fi bl ep pl ct (bl + 1) 0 []).2

theorem rcs_one (us : List (Int × Int × Value)) (h : ∀ q ∈ us, q.2.2.oneCell' = true) : ∀ u ∈ rcs us, u.oneCell' = true := by
  induction us with
  | nil => intro u hu; simp [rcs] at hu
  | cons p ps ih =>
    intro u hu
    simp only [rcs, List.mem_cons] at hu
    rcases hu with e | e | e | e
    · subst e; rfl
    · subst e; rfl
    · subst e; exact h p (by simp)
    · exact ih (fun q hq => h q (by simp [hq])) u e
theorem OCW.one {w : World} {base : Nat} {v : Value} {cs : List Ch} (h : OCW w base v cs) : v.oneCell' = true := by
  obtain ⟨A, c, rfl, _, _, _⟩ := h.cr
  rfl
theorem ORW.cat {w w4 : World} {base : Nat} {v v4 : Value} {rs ss : List Rec} {us ts : List (Int × Int × Value)} (ht : w.ownsRow base 25 3 v rs.length (rcs us)) (h2 : us.length = rs.length) (h3 : ∀ (i : Nat) (p : Rec) (q : Int × Int × Value), rs[i]? = some p → us[i]? = some q → q.1 = (p.kind : Int) ∧ q.2.1 = p.tx ∧ OCW w base q.2.2 p.cs) (k2 : ts.length = ss.length) (k3 : ∀ (i : Nat) (p : Rec) (q : Int × Int × Value), ss[i]? = some p → ts[i]? = some q → q.1 = (p.kind : Int) ∧ q.2.1 = p.tx ∧ OCW w base q.2.2 p.cs) (hg : w.grownBy w4 v.ownBlock)
    (ho : w4.ownsRow base 25 3 v4 (rs.length + ss.length) (rcs us ++ rcs ts)) : ORW w4 base v4 (rs ++ ss) := by
  have o : Off (fun k => v.ownBlock = some k) w w4 := Off.of_grown hg (fun _ e => e)
  have t1 : ∀ {x : Value} {m : List Ch}, OCW w base x m → OCW w4 base x m := fun {x m} hx => hx.ty o (fun k e => by
    obtain ⟨c2, e2⟩ := own_blk ht e
    exact ⟨_, _, _, e2, by decide, by decide, by decide⟩)
  refine ⟨us ++ ts, ?_, by rw [List.length_append, List.length_append, h2, k2], fun i p q hp hq => ?_⟩
  · rw [List.length_append, rcs_append]
    exact ho
  · rcases Nat.lt_or_ge i rs.length with hi | hi
    · rw [List.getElem?_append_left hi] at hp
      rw [List.getElem?_append_left (by rw [h2]; exact hi)] at hq
      obtain ⟨h4, h5, h6⟩ := h3 i p q hp hq
      exact ⟨h4, h5, t1 h6⟩
    · rw [List.getElem?_append_right hi] at hp
      rw [List.getElem?_append_right (by rw [h2]; exact hi), h2] at hq
      obtain ⟨h4, h5, h6⟩ := k3 _ p q hp hq
      exact ⟨h4, h5, t1 h6⟩

set_option maxRecDepth 100000 in
set_option maxHeartbeats 4000000 in
theorem JScan_any (w : World) (ok : Nat → Prop) (base gd : Nat) (F : Nat → Prop) (D : DiskS) (fi bl ep pl ct : Nat) (h : IsD w ok base gd F D) (hm : mayB D.blocks.length fi bl ep pl ct = true) (hdn : D.down = false) (hpd : D.pending.length ≤ 1000000) :
    Calls Try.prog 22 #[.pointer (some ⟨gd, 0, none⟩), .int .i64 (fi : Int), .int .i64 (bl : Int), .int .i64 (ep : Int), .int .i64 (pl : Int), .int .i64 (ct : Int)] w fun e w' => ∃ v, e = .returned (.tuple #[v, .int .i64 (((pl + scanU D fi bl ep pl ct) % bl : Nat) : Int), .int .i64 ((ct + scanU D fi bl ep pl ct : Nat) : Int), .int .i64 0]) ∧ ORW w' w.heap.size v (scanR D fi bl ep pl ct) ∧ Below w.heap.size w w' := by
  have hn : 1 ≤ D.blocks.length ∧ D.blocks.length ≤ 4096 := by
    obtain ⟨dr, dc, pv, dvs, pvs, hd, _⟩ := h
    exact ⟨hd.n1, hd.n2⟩
  have hmm := hm
  unfold mayB at hmm
  simp only [Bool.and_eq_true, decide_eq_true_eq] at hmm
  obtain ⟨t0, t1, t2, t3, t4, t5, t6, t7, t8, t9⟩ := hmm
  have hb1 : 1 ≤ bl := by omega
  have hb2 : bl ≤ 1024 := by omega
  have hfb : fi + bl ≤ D.blocks.length := by omega
  have hpl : pl < bl := by omega
  have hct : ct ≤ 4294967295 := by omega
  have HD := Lib.hid h
  have HFB := Lib.hid hfb
  have HB := Lib.hid (fun W (hW : Below w.heap.size w W) => Blocks_any W ok base gd F D (h.below hW))
  obtain ⟨i1, hi1, hy0, hy1, hy2⟩ := info_parts info_record
  obtain ⟨res, hres⟩ : ∃ res, res = scG D fi bl ep pl ct (bl + 1) 0 [] := ⟨_, rfl⟩
  have HU : Hid (scanU D fi bl ep pl ct = res.2 ∧ scanR D fi bl ep pl ct = res.1) := Lib.hid (by rw [hres]; exact ⟨rfl, rfl⟩)
  have HRES := Lib.hid hres
  rw [HU.out.1, HU.out.2]
  generalize hnn : D.blocks.length = n at hn hm HB
  obtain ⟨o, ho⟩ : ∃ o, o = Obj.cells #[.pointer (some ⟨gd, 0, none⟩), .int .i64 (fi : Int), .int .i64 (bl : Int), .int .i64 (ep : Int)] 29 (0, 0) := ⟨_, rfl⟩
  have hbo := gr_alloc (gr_refl w) o
  have hnw : (w.alloc o).heap[w.heap.size]? = some o := heap_alloc_new w o
  have hnw' := hnw
  rw [congrArg some ho] at hnw'
  have hrc : RC (w.alloc o) w.heap.size 0 (.pointer (some ⟨gd, 0, none⟩)) fi bl ep := ⟨by rw [cell_of_row _ _ 0 _ _ _ hnw']; rfl, by rw [cell_of_row _ _ 1 _ _ _ hnw']; rfl, by rw [cell_of_row _ _ 2 _ _ _ hnw']; rfl, by rw [cell_of_row _ _ 3 _ _ _ hnw']; rfl⟩
  have HRC := Lib.hid hrc
  have HSZ : Hid (w.heap.size < (w.alloc o).heap.size) := Lib.hid (by rw [World.size_alloc]; omega)
  have HMB := Lib.hid (mayBe_yes (w.alloc o) n w.heap.size (.pointer (some ⟨gd, 0, none⟩)) fi bl ep pl ct hrc hn.2 (fun W hW => HB.out W (hbo.trans (hW.mono hbo.size))) hm)
  have HBO := Lib.hid hbo
  rw [ho] at HBO HMB HRC HSZ
  clear h hnw hnw' hbo ho hrc hres hnn hm t0 t1 t2 t3 t4 t5 t6 t7 t8 t9 hfb
  go_enter Try.func22, Try.ntmps22
  go_wp2_with fail
  refine (HB.out w (gr_refl w)).mono ?_
  rintro e w1 ⟨rfl, rfl⟩
  have tn : ((n : Int) == 0) = false := beq_eq_false_iff_ne.2 (by omega)
  go_wp2_with fail
  refine HMB.out.mono ?_
  rintro e w3 ⟨rfl, hb3⟩
  have HB3 := Lib.hid (HBO.out.trans (hb3.mono HBO.out.size))
  have HR3 := Lib.hid (HRC.out.below HSZ.out hb3)
  have HS3 : Hid (w.heap.size < w3.heap.size) := Lib.hid (Nat.lt_of_lt_of_le HSZ.out hb3.size)
  clear hb3 HMB tn
  go_wp2_with fail
  go_loopw [17, 18, 19, 20, 21] (fun x17 x18 _ _ _ wr => ∃ (k used : Nat) (acc : List Rec) (A : Option Addr) (c : Nat), k ≤ used ∧ used ≤ bl ∧ x17 = .slice A acc.length c ∧ x18 = .int .i64 (used : Int) ∧ acc.length ≤ 4076 * used ∧ Hid (ORW wr w3.heap.size (.slice A acc.length c) acc) ∧ Hid (Below w3.heap.size w3 wr) ∧ Hid (res = scG D fi bl ep pl ct (bl + 1 - k) used acc)) (fun _ x18 _ _ _ _ => bl + 1 - (intOf x18).toNat)
  case atStart => exact ⟨0, 0, [], none, 0, Nat.le_refl _, Nat.zero_le _, rfl, rfl, by simp, Lib.hid (ORW.nil _ _), Lib.hid (gr_refl _), HRES⟩
  case round =>
    obtain ⟨k, used, acc, A, c, hk, hu, rfl, rfl, hal, HOR, HBr, HQ⟩ := hrel
    have HST : Hid (res = if rdN (rdB D fi bl ep ((pl + used) % bl) (ct + used) (bl - used)) = 0 then (acc, used) else scG D fi bl ep pl ct (bl + 1 - (k + 1)) (used + rdN (rdB D fi bl ep ((pl + used) % bl) (ct + used) (bl - used))) (acc ++ rdR (rdB D fi bl ep ((pl + used) % bl) (ct + used) (bl - used)))) := Lib.hid (by
      rw [HQ.out, show bl + 1 - k = (bl + 1 - (k + 1)) + 1 by omega]
      rfl)
    have HBW := Lib.hid (HB3.out.trans (HBr.out.mono HB3.out.size))
    have HRr := Lib.hid (HR3.out.below HS3.out HBr.out)
    have HSr : Hid (w.heap.size < wr.heap.size) := Lib.hid (Nat.lt_of_lt_of_le HS3.out HBr.out.size)
    have HDr := Lib.hid (HD.out.below HBW.out)
    obtain ⟨x, hx⟩ : ∃ x : Nat, x = (pl + used) % bl := ⟨_, rfl⟩
    have hxl : x < bl := by rw [hx]; exact Nat.mod_lt _ hb1
    obtain ⟨rm, hrm⟩ : ∃ rm : Nat, rm = bl - used := ⟨_, rfl⟩
    have hct2 : ct + used ≤ 8589934592 := by omega
    have HRD := Lib.hid (read_any wr ok base w.heap.size gd F D fi bl ep x (ct + used) rm HDr.out HRr.out HSr.out hb1 hb2 HFB.out hdn (by omega) hct2 hpd (by omega))
    have hrl := rdN_le D fi bl ep x (ct + used) rm
    have hrr := rdR_len (rdB D fi bl ep x (ct + used) rm)
    have k1 : IntKind.i64.wrap ((pl : Int) + (used : Int)) = (pl : Int) + (used : Int) := by rw [IntKind.wrap_i64]; omega
    have k2 : Int.tmod ((pl : Int) + (used : Int)) (bl : Int) = (x : Int) := by
      have e : (pl : Int) + (used : Int) = ((pl + used : Nat) : Int) := by omega
      rw [e, Int.tmod_eq_emod_of_nonneg (by omega), hx]
      exact (Int.natCast_emod _ _).symm
    have k3 : IntKind.i64.wrap ((bl : Int) - (used : Int)) = (rm : Int) := by rw [IntKind.wrap_i64]; omega
    have k4 : (bl : Int) - (used : Int) = (rm : Int) := by omega
    have k5 : ((ct + used : Nat) : Int) = (ct : Int) + (used : Int) := Int.natCast_add _ _
    have hz : ((bl : Int) == 0) = false := beq_eq_false_iff_ne.2 (by omega)
    have hz' : ¬ (bl = 0) := by omega
    have HX := Lib.hid hx
    have HRM := Lib.hid hrm
    rw [← hx, ← hrm] at HST
    rw [k5] at HRD
    have hrm2 : rm ≤ bl - used := by omega
    clear hx hrm HQ k5
    generalize rdN (rdB D fi bl ep x (ct + used) rm) = rn at *
    generalize rdR (rdB D fi bl ep x (ct + used) rm) = rr at *
    go_wp2_with fail
    refine HRD.out.mono ?_
    rintro e w5 ⟨v5, rfl, or5, hb5⟩
    have HOR5 := Lib.hid (or5.lower (b := w3.heap.size) HBr.out.size)
    have HB5 := Lib.hid (HBr.out.trans (hb5.mono HBr.out.size))
    have HORA := Lib.hid (HOR.out.below hb5)
    clear or5 hb5 HRD
    by_cases h0 : rn = 0
    · have tz : ((rn : Int) == 0) = true := beq_iff_eq.2 (by omega)
      have HE : Hid (res = (acc, used)) := Lib.hid (by rw [HST.out, if_pos h0])
      clear h0
      go_wp2_with (go_quiet (fail))
      refine bodyPost_ret (v := .tuple #[.slice A acc.length c, .int .i64 (x : Int), .int .i64 ((ct : Int) + (used : Int)), .int .i64 0]) (by simp [results, Try.results22, go_sem]) rfl ?_
      rw [HE.out]
      exact ⟨_, by rw [← HX.out]; rfl, HORA.out.lower HB3.out.size, gr_drewN (HB3.out.trans (HB5.out.mono HB3.out.size)) nq⟩
    · have tz : ((rn : Int) == 0) = false := beq_eq_false_iff_ne.2 (by omega)
      have HE : Hid (res = scG D fi bl ep pl ct (bl + 1 - (k + 1)) (used + rn) (acc ++ rr)) := Lib.hid (by rw [HST.out, if_neg h0])
      obtain ⟨us, u1, u2, u3⟩ := HORA.out
      obtain ⟨ts, s1, s2, s3⟩ := HOR5.out
      obtain ⟨A5, c5, rfl, hn5, hc5⟩ := own_form s1
      have U1 := Lib.hid u1
      have U2 := Lib.hid u2
      have U3 := Lib.hid u3
      have S2 := Lib.hid s2
      have S3 := Lib.hid s3
      have HRD5 : Hid (Rd w5 3 A5 rr.length (rcs ts)) := Lib.hid (own_rd s1)
      have H1 : Hid (∀ u ∈ rcs ts, u.oneCell' = true) := Lib.hid (rcs_one ts (fun q hq => by
        obtain ⟨i, hi, rfl⟩ := List.getElem_of_mem hq
        exact (s3 i (rr[i]'(by rw [← s2]; exact hi)) ts[i] (List.getElem?_eq_getElem _) (List.getElem?_eq_getElem hi)).2.2.one))
      have hsz := HB5.out.size
      have hal2 := HRM.out
      clear u1 u2 u3 s1 s2 s3
      generalize hla : acc.length = la at *
      generalize hlr : rr.length = lr at *
      have HLA := Lib.hid hla
      have HLR := Lib.hid hlr
      clear hla hlr hal2
      have hb40 : (la + lr + (la + lr) / 4 + 256) * 40 ≤ 281474976710656 := by omega
      have hmx : la + lr ≤ maxLen := by simp only [maxLen]; omega
      go_wp2_with (at_builtin; refine wpList_append_Rd _ rfl (.tmp 64) (.tmp 65) _ rfl w3.heap.size 25 i1 _ 3 40 Try.underlying53 hi1 hy0 hy1 hy2 rfl (.slice A la c) la (rcs us) rfl U1.out A5 lr c5 (rcs ts) rfl HRD5.out H1.out hb40 hmx hsz ?_; intro v8 w8 ho8 hg8 _ _; have HO8 := Lib.hid ho8; have HG8 := Lib.hid hg8; obtain ⟨A8, c8, rfl, _, _⟩ := own_form ho8; clear ho8 hg8)
      have or8 := ORW.cat (rs := acc) (ss := rr) (by rw [HLA.out]; exact U1.out) (by rw [HLA.out]; exact U2.out) U3.out (by rw [HLR.out]; exact S2.out) S3.out HG8.out (by rw [HLA.out, HLR.out]; exact HO8.out)
      have bw8 := HB5.out.grown HG8.out HB5.out.size (fun j hj => (U1.out.lt j hj).1)
      go_roundw
      case rel =>
        refine ⟨k + 1, used + rn, acc ++ rr, A8, c8, by omega, by omega, by rw [List.length_append, HLA.out, HLR.out], by go_num, by rw [List.length_append, HLA.out, HLR.out]; omega, Lib.hid (by rw [List.length_append, HLA.out, HLR.out]; exact or8), Lib.hid bw8, HE⟩
      case measure => simp [intOf]; omega
end Go.Proofs.Ytlopcmmbkfjidaa

/-! JnD -/
namespace Go.Proofs.Ytlopcmmbkfjidaa
open Go Go.RowKit

/-- What a journal keeps to. -/
structure JI (J : JnS) : Prop where
  b1 : 1 ≤ J.bl
  b2 : J.bl ≤ 1024
  f1 : J.fi ≤ 4096
  p1 : J.pl < J.bl
  u1 : J.us + needL J.waits.length ≤ J.bl
  c1 : J.ct + needL J.waits.length ≤ 4294967296
  l1 : J.la ≤ 1152921504606846976

def newJ (fi bl ep pl ct : Nat) : JnS := ⟨fi, bl, ep, pl, ct, 0, 0, 0, [], false⟩
theorem newJ_ji {n fi bl ep pl ct : Nat} (hn : n ≤ 4096) (h : mayB n fi bl ep pl ct = true) : JI (newJ fi bl ep pl ct) := by
  unfold mayB at h
  simp only [Bool.and_eq_true, decide_eq_true_eq] at h
  obtain ⟨t0, t1, t2, t3, t4, t5, t6, t7, t8, t9⟩ := h
  exact ⟨by show 1 ≤ bl; omega, by show bl ≤ 1024; omega, by show fi ≤ 4096; omega, by show pl < bl; omega, by simp [newJ, needL], by simp [newJ, needL]; omega, Nat.zero_le _⟩
set_option maxRecDepth 100000 in
set_option maxHeartbeats 4000000 in
theorem JNew_yes (w : World) (ok : Nat → Prop) (base gd : Nat) (F : Nat → Prop) (D : DiskS) (fi bl ep pl ct : Nat) (h : IsD w ok base gd F D) (hm : mayB D.blocks.length fi bl ep pl ct = true) :
    Calls Try.prog 18 #[.pointer (some ⟨gd, 0, none⟩), .int .i64 (fi : Int), .int .i64 (bl : Int), .int .i64 (ep : Int), .int .i64 (pl : Int), .int .i64 (ct : Int)] w fun e w' => e = .returned (.tuple #[.pointer (some ⟨w.heap.size, 0, none⟩), .int .i64 0]) ∧ JB w' w.heap.size gd (newJ fi bl ep pl ct) (.slice none 0 0) ∧ Below w.heap.size w w' := by
  have hn : 1 ≤ D.blocks.length ∧ D.blocks.length ≤ 4096 := by
    obtain ⟨dr, dc, pv, dvs, pvs, hd, _⟩ := h
    exact ⟨hd.n1, hd.n2⟩
  have HD := Lib.hid h
  have HB := Lib.hid (fun W (hW : Below w.heap.size w W) => Blocks_any W ok base gd F D (h.below hW))
  generalize D.blocks.length = n at *
  obtain ⟨o, ho⟩ : ∃ o, o = Obj.cells #[.pointer (some ⟨gd, 0, none⟩), .int .i64 (fi : Int), .int .i64 (bl : Int), .int .i64 (ep : Int), .pointer none, .int .i64 (pl : Int), .int .i64 (ct : Int), .int .i64 0, .slice none 0 0, .int .i64 0, .int .i64 0, .bool false] 32 (0, 0) := ⟨_, rfl⟩
  have hbo := gr_alloc (gr_refl w) o
  have hnw : (w.alloc o).heap[w.heap.size]? = some o := heap_alloc_new w o
  have hnw' := hnw
  rw [congrArg some ho] at hnw'
  have HMB := Lib.hid (mayBe_yes (w.alloc o) n w.heap.size (.pointer (some ⟨gd, 0, none⟩)) fi bl ep pl ct ⟨by rw [cell_of_row _ _ 0 _ _ _ hnw']; rfl, by rw [cell_of_row _ _ 1 _ _ _ hnw']; rfl, by rw [cell_of_row _ _ 2 _ _ _ hnw']; rfl, by rw [cell_of_row _ _ 3 _ _ _ hnw']; rfl⟩ hn.2 (fun W hW => HB.out W (hbo.trans (hW.mono hbo.size))) hm)
  have HFIN : Hid (∀ w3, Below (w.alloc o).heap.size (w.alloc o) w3 → w3.cell? ⟨w.heap.size, 4, none⟩ = some (.pointer none) ∧ w3.frozen? ⟨w.heap.size, 4, none⟩ = false ∧ JB (w3.setCell ⟨w.heap.size, 4, none⟩ (.pointer (some ⟨w.heap.size, 0, none⟩))) w.heap.size gd (newJ fi bl ep pl ct) (.slice none 0 0) ∧ Below w.heap.size w (w3.setCell ⟨w.heap.size, 4, none⟩ (.pointer (some ⟨w.heap.size, 0, none⟩)))) := Lib.hid (fun w3 h3 => by
    have e := (h3.block w.heap.size (by rw [World.size_alloc]; omega)).trans hnw'
    refine ⟨by rw [cell_of_row _ _ 4 _ _ _ e]; rfl, by simp [World.frozen?, e], ?_, (hbo.trans (h3.mono hbo.size)).setCell (by simp) _⟩
    unfold JB
    simp only [World.setCell, Array.getElem?_modify, if_pos, e]
    rfl)
  have hbo' := hbo
  rw [ho] at hbo' HMB HFIN
  clear h hnw hnw' hbo hbo' ho
  go_enter Try.func18, Try.ntmps18
  go_wp2_with fail
  refine (HB.out w (gr_refl w)).mono ?_
  rintro e w1 ⟨rfl, rfl⟩
  have tn : ((n : Int) == 0) = false := beq_eq_false_iff_ne.2 (by omega)
  go_wp2_with fail
  refine HMB.out.mono ?_
  rintro e w3 ⟨rfl, hb3⟩
  obtain ⟨z1, z2, z3, z4⟩ := HFIN.out w3 hb3
  have Z3 := Lib.hid z3
  have Z4 := Lib.hid z4
  clear z3 z4 hb3 HFIN HMB
  go_wp2_with fail
  go_ret2
  exact ⟨rfl, Z3.out, Z4.out⟩

end Go.Proofs.Ytlopcmmbkfjidaa

/-! JnE -/
namespace Go.Proofs.Ytlopcmmbkfjidaa
open Go Go.RowKit

def appE (J : JnS) (r : Rec) : Int := if J.br then 4 else if r.right = false then 2 else if J.bl - J.us < needL (J.waits.length + (encR r).length) ∨ 4294967296 < J.ct + needL (J.waits.length + (encR r).length) then 5 else 0
def appJ (J : JnS) (r : Rec) : JnS := if appE J r = 0 then { J with waits := J.waits ++ encR r, la := J.la + 1 } else J
def appN (J : JnS) (r : Rec) : Nat := if appE J r = 0 then J.la + 1 else 0
theorem JI.app {J : JnS} (h : JI J) (r : Rec) (hl : J.la + 1 ≤ 1152921504606846976) : JI (appJ J r) := by
  unfold appJ
  split
  · rename_i h0
    unfold appE at h0
    split at h0
    · cases h0
    · split at h0
      · cases h0
      · split at h0
        · cases h0
        · rename_i h3
          have hu := h.u1
          refine ⟨h.b1, h.b2, h.f1, h.p1, ?_, ?_, hl⟩
          · show J.us + needL (J.waits ++ encR r).length ≤ J.bl
            rw [List.length_append]
            omega
          · show J.ct + needL (J.waits ++ encR r).length ≤ 4294967296
            rw [List.length_append]
            omega
  · exact h
/-- What a journal's call leaves that touches the journal alone. -/
def APost (w : World) (gj gd base : Nat) (wv : Value) (J : JnS) (w' : World) : Prop := ∃ wv', JB w' gj gd J wv' ∧ OB w' base wv' J.waits ∧ Off (fun k => k = gj ∨ wv.ownBlock = some k) w w' ∧ (wv'.ownBlock = wv.ownBlock ∨ ∀ k, wv'.ownBlock = some k → w.heap.size ≤ k)
theorem APost.below {w w' : World} {gj gd base : Nat} {wv : Value} {J : JnS} (h : JB w gj gd J wv) (ho : OB w base wv J.waits) (hb : Below w.heap.size w w') : APost w gj gd base wv J w' := ⟨wv, h.below hb, ho.below hb, Off.of_below hb, .inl rfl⟩
theorem JB.apart {w : World} {gj gd base : Nat} {wv v : Value} {J : JnS} {l : List UInt8} (h : JB w gj gd J wv) (ho : OB w base v l) : v.ownBlock ≠ some gj := fun e => by
  obtain ⟨cur, hc⟩ := own_blk ho e
  unfold JB at h
  rw [h] at hc
  injection hc with hc
  injection hc with _ hc _
  exact absurd hc (by decide)
theorem APost.done {w w6 w8 w' : World} {gj gd base : Nat} {wv wv' : Value} {J : JnS} {n : Nat} {l : List UInt8} (h : JB w gj gd J wv) (ho : OB w base wv J.waits) (hb : Below w.heap.size w w6) (hg : w6.grownBy w8 wv.ownBlock) (hbl : wv'.ownBlock = wv.ownBlock ∨ (wv'.ownBlock = some w6.heap.size ∧ w6.grownBy w8 none)) (ho8 : OB w8 base wv' l) (hw : w' = (w8.setCell ⟨gj, 8, none⟩ wv').setCell ⟨gj, 9, none⟩ (.int .i64 (n : Int))) : APost w gj gd base wv { J with waits := l, la := n } w' := by
  have hap := h.apart ho
  have hj6 := h.below hb
  have o8 : Off (fun k => wv.ownBlock = some k) w6 w8 := Off.of_grown hg (fun _ e => e)
  have hj8 : JB w8 gj gd J wv := hj6.off o8 hap
  have hjF := (hj8.s8 wv' l).s9 n
  have oF : Off (fun k => k = gj) w8 ((w8.setCell ⟨gj, 8, none⟩ wv').setCell ⟨gj, 9, none⟩ (.int .i64 (n : Int))) := ((Off.refl (fun k => k = gj) w8).setCell _ rfl).setCell _ rfl
  subst hw
  refine ⟨wv', hjF, ho8.ty oF (fun k e => by subst e; exact ⟨_, _, _, hj8, by decide⟩), ?_, ?_⟩
  · exact ((Off.of_below hb).trans (o8.mono (fun _ _ e => .inr e))).trans (oF.mono (fun _ _ e => .inl e))
  · rcases hbl with e | ⟨e, _⟩
    · exact .inl e
    · exact .inr (fun k hk => by rw [e] at hk; injection hk with hk; rw [← hk]; exact hb.size)
theorem needL_le {x : Nat} (h : needL x ≤ 1024) : x ≤ 4173824 := by unfold needL at h; omega

set_option maxRecDepth 100000 in
set_option maxHeartbeats 4000000 in
theorem JAppend_any {w : World} {gj gd base : Nat} {J : JnS} {wv : Value} (h : JB w gj gd J wv) (ho : OB w base wv J.waits) (hji : JI J) (hbase : base ≤ w.heap.size) (k : Nat) (tx : Int) (A : Option Addr) (n d : Nat) (cs : List Ch) (hc : CR w A n cs) (hn : n ≤ 9223372036854775807) (hpb : ∀ c ∈ cs, ∀ p ∈ c.2.2, p.1 ≤ 9223372036854775807) :
    Calls Try.prog 7 #[.pointer (some ⟨gj, 0, none⟩), .agg #[.int .u8 (k : Int), .int .i64 tx, .slice A n d]] w fun e w' => e = .returned (.tuple #[.int .i64 (appN J ⟨k, tx, cs⟩ : Int), .int .i64 (appE J ⟨k, tx, cs⟩)]) ∧ APost w gj gd base wv (appJ J ⟨k, tx, cs⟩) w' := by
  obtain ⟨Aw, cw, rfl, _, _, _⟩ := ho.form
  obtain ⟨lw, hlw⟩ : ∃ lw, lw = J.waits.length := ⟨_, rfl⟩
  rw [← hlw] at h ho ⊢
  have HLW' : Hid (J.waits.length = lw) := Lib.hid hlw.symm
  obtain ⟨o, hoo⟩ : ∃ o, o = Obj.cells #[.int .u8 (k : Int), .int .i64 tx, .slice A n d] 25 (0, 0) := ⟨_, rfl⟩
  have hb1 := gr_alloc (gr_refl w) o
  obtain ⟨i0, hi0, hz0, hz1, hz2⟩ := info_parts info_u8
  have HJ := Lib.hid h
  have HO := Lib.hid ho
  have HI := Lib.hid hji
  have HB1 := Lib.hid hb1
  have HST := Lib.hid (stands_any (h.below hb1))
  have HENC := Lib.hid (Encode_any k tx A n d cs (w.alloc o) (hc.below hb1) hn hpb)
  obtain ⟨r, hr⟩ : ∃ r : Rec, r = ⟨k, tx, cs⟩ := ⟨_, rfl⟩
  rw [← hr] at HENC ⊢
  have HR := Lib.hid hr
  have hwl := needL_le (Nat.le_trans (Nat.le_trans (Nat.le_add_left _ _) hji.u1) hji.b2)
  have hct := hji.c1
  have hbl := hji.b2
  have HA1 : Hid (∀ W, Below w.heap.size w W → APost w gj gd base (.slice Aw lw cw) J W) := Lib.hid (fun W hW => APost.below h ho hW)
  have HAPP : Hid (appE J r = if J.br then 4 else if r.right = false then 2 else if J.bl - J.us < needL (J.waits.length + (encR r).length) ∨ 4294967296 < J.ct + needL (J.waits.length + (encR r).length) then 5 else 0) := Lib.hid rfl
  have HAJ : Hid (appJ J r = if appE J r = 0 then { J with waits := J.waits ++ encR r, la := J.la + 1 } else J) := Lib.hid rfl
  have HAN : Hid (appN J r = if appE J r = 0 then J.la + 1 else 0) := Lib.hid rfl
  rw [← hlw] at HAPP hwl hct
  generalize appE J r = ae at *
  generalize appJ J r = aj at *
  generalize appN J r = an at *
  clear h ho hji hc hb1 hlw
  subst hoo
  go_enter Try.func7, Try.ntmps7
  go_wp2_with fail
  refine HST.out.mono ?_
  rintro e w1 ⟨rfl, rfl⟩
  unfold standE
  cases hbr : J.br
  · rw [hbr] at HAPP
    have HAPP2 : Hid (ae = if r.right = false then 2 else if J.bl - J.us < needL (lw + (encR r).length) ∨ 4294967296 < J.ct + needL (lw + (encR r).length) then 5 else 0) := Lib.hid (HAPP.out)
    simp only [Bool.false_eq_true, if_false]
    clear hbr HAPP
    go_wp2_with fail
    refine HENC.out.mono ?_
    rintro e w2 ⟨v2, rfl, ob2, hb2⟩
    have HB2 := Lib.hid (gr_trans HB1.out hb2)
    have HOB2 := Lib.hid ob2
    have HEE : Hid (encE r = if r.right = true then 0 else 2) := Lib.hid rfl
    have HEL : Hid (encL r = if r.right = true then encR r else []) := Lib.hid rfl
    clear ob2 hb2
    cases hrr : r.right
    · rw [hrr] at HEE HAPP2
      rw [show encE r = 2 from HEE.out]
      have ha : ae = 2 := HAPP2.out
      have HAE := Lib.hid ha
      clear hrr ha
      go_wp2_with fail
      go_ret2
      rw [HAJ.out, HAN.out, HAE.out]
      exact ⟨rfl, HA1.out _ HB2.out⟩
    · rw [hrr] at HEE HAPP2 HEL
      have HAPP3 : Hid (ae = if J.bl - J.us < needL (lw + (encR r).length) ∨ 4294967296 < J.ct + needL (lw + (encR r).length) then 5 else 0) := Lib.hid HAPP2.out
      rw [show encE r = 0 from HEE.out]
      rw [show encL r = encR r from HEL.out] at HOB2
      have hel : (encR r).length ≤ 400004 := by rw [encR_len]; have := encB_small hrr; omega
      obtain ⟨Ab, cb, rfl, brb, _, _⟩ := HOB2.out.form
      have HJ2 := Lib.hid (HJ.out.below HB2.out)
      have HO2 := Lib.hid (HO.out.below HB2.out)
      have HBRB := Lib.hid brb
      have c8 := HJ2.out.c8
      have c6 := HJ2.out.c6
      have c9 := HJ2.out.c9
      have hus : J.us ≤ J.bl := Nat.le_trans (Nat.le_add_right _ _) HI.out.u1
      have hla := HI.out.l1
      clear hrr HAPP2 brb HEE HEL HENC
      generalize hle : (encR r).length = le at *
      have HLE' := Lib.hid hle
      clear hle
      go_wp2_with fail
      refine (needs_any (lw + le) w2 (by omega)).mono ?_
      rintro e w3 ⟨rfl, rfl⟩
      have HRM := Lib.hid (Room_any HJ2.out hus hbl)
      have hnn : needL (lw + le) ≤ 1200 := by unfold needL; omega
      generalize needL (lw + le) = nn at *
      have hrm : J.bl - J.us ≤ 1024 := by omega
      have HRMM : Hid (J.bl - J.us = J.bl - J.us) := Lib.hid rfl
      generalize J.bl - J.us = rm at *
      by_cases h1 : rm < nn
      · have t1 : decide (rm < nn) = true := decide_eq_true h1
        have HAE : Hid (ae = 5) := Lib.hid (by rw [HAPP3.out, if_pos (.inl h1)])
        clear h1
        go_wp2_with fail
        refine HRM.out.mono ?_
        rintro e w4 ⟨rfl, hb4⟩
        have HB4 := Lib.hid (gr_trans HB2.out hb4)
        clear hb4
        go_wp2_with fail
        go_ret2
        rw [HAJ.out, HAN.out, HAE.out]
        exact ⟨rfl, HA1.out _ HB4.out⟩
      · have t1 : decide (rm < nn) = false := decide_eq_false h1
        by_cases h2 : 4294967296 < J.ct + nn
        · have t2 : decide ((4294967295 : Int) < (J.ct : Int) + (nn : Int) - 1) = true := decide_eq_true (by omega)
          have HAE : Hid (ae = 5) := Lib.hid (by rw [HAPP3.out, if_pos (.inr h2)])
          clear h1
          go_wp2_with fail
          refine HRM.out.mono ?_
          rintro e w4 ⟨rfl, hb4⟩
          have HB4 := Lib.hid (gr_trans HB2.out hb4)
          have c6' := (HJ2.out.below hb4).c6
          clear hb4
          go_wp2_with fail
          go_ret2
          rw [HAJ.out, HAN.out, HAE.out]
          exact ⟨rfl, HA1.out _ HB4.out⟩
        · have t2 : decide ((4294967295 : Int) < (J.ct : Int) + (nn : Int) - 1) = false := decide_eq_false (by omega)
          have HAE : Hid (ae = 0) := Lib.hid (by rw [HAPP3.out, if_neg (by omega)])
          clear h1
          go_wp2_with fail
          refine HRM.out.mono ?_
          rintro e w4 ⟨rfl, hb4⟩
          have HB4 := Lib.hid (gr_trans HB2.out hb4)
          have c6' := (HJ2.out.below hb4).c6
          have HJ4 := Lib.hid (HJ2.out.below hb4)
          have HO4 := Lib.hid (HO2.out.below hb4)
          have HBR4 := Lib.hid (HBRB.out.below hb4)
          have hs4 := HB4.out.size
          have c8' := HJ4.out.c8
          have HOW : Hid (w4.ownsRow base 5 1 (.slice Aw lw cw) lw (J.waits.map bv)) := Lib.hid (by have := HO4.out; unfold OB at this; rw [HLW'.out] at this; exact this)
          have HBL : Hid (base ≤ w4.heap.size) := Lib.hid (Nat.le_trans hbase hs4)
          clear hb4
          go_wp2_with (at_builtin; refine wpList_append_Rd _ rfl (.tmp 50) (.tmp 51) _ rfl base 5 i0 _ 1 1 Try.underlying30 hi0 hz0 hz1 hz2 rfl (.slice Aw lw cw) lw _ rfl HOW.out Ab le cb ((encR r).map bv) rfl HBR4.out (one_bv _) (by omega) (by simp only [maxLen]; omega) HBL.out ?_; intro v8 w8 ho8 hg8 _ hbl8; obtain ⟨A8, c8, rfl, _, _⟩ := own_form ho8; have HO8 : Hid (OB w8 base (.slice A8 (lw + le) c8) (J.waits ++ encR r)) := Lib.hid (OB.of_own ho8 (by rw [List.map_append])); have HG8 := Lib.hid hg8; have HBL8 := Lib.hid hbl8; clear ho8 hg8 hbl8; have HJ8 := Lib.hid (HJ4.out.off (Off.of_grown (S := fun k => (Value.slice Aw lw cw).ownBlock = some k) HG8.out (fun _ e => e)) (HJ4.out.apart HO4.out)); have fz8 := HJ8.out.frozen 8; have d8 := HJ8.out.c8; have HJ9 := Lib.hid (HJ8.out.s8 (.slice A8 (lw + le) c8) (J.waits ++ encR r)); have d9 := HJ9.out.c9; have fz9 := HJ9.out.frozen 9; have HJX := Lib.hid (HJ9.out.s9 (J.la + 1)); have dX := HJX.out.c9)
          go_ret2
          rw [HAJ.out, HAN.out, HAE.out]
          exact ⟨rfl, APost.done HJ.out HO.out HB4.out HG8.out HBL8.out HO8.out (by rw [show ((J.la + 1 : Nat) : Int) = (J.la : Int) + 1 from rfl])⟩
  · have ha : ae = 4 := by have := HAPP.out; rw [hbr] at this; exact this
    have HAE := Lib.hid ha
    simp only [if_true]
    clear hbr ha
    go_wp2_with fail
    go_ret2
    rw [HAJ.out, HAN.out, HAE.out]
    exact ⟨rfl, HA1.out _ HB1.out⟩

def freeE (J : JnS) : Int := if J.br then 4 else if 0 < J.waits.length then 2 else 0
def freeJ (J : JnS) : JnS := if freeE J = 0 then { J with us := 0 } else J
theorem JI.free {J : JnS} (h : JI J) : JI (freeJ J) := by
  unfold freeJ
  split
  · exact ⟨h.b1, h.b2, h.f1, h.p1, by show 0 + needL J.waits.length ≤ J.bl; have := h.u1; omega, h.c1, h.l1⟩
  · exact h
set_option maxRecDepth 100000 in
set_option maxHeartbeats 1000000 in
theorem JFree_any {w : World} {gj gd base : Nat} {J : JnS} {wv : Value} (h : JB w gj gd J wv) (ho : OB w base wv J.waits) :
    Calls Try.prog 10 #[.pointer (some ⟨gj, 0, none⟩)] w fun e w' => e = .returned (.int .i64 (freeE J)) ∧ JB w' gj gd (freeJ J) wv ∧ OB w' base wv J.waits ∧ Off (fun k => k = gj) w w' := by
  obtain ⟨Aw, cw, rfl, _, _, _⟩ := ho.form
  have HST := Lib.hid (stands_any h)
  have HJ := Lib.hid h
  have HO := Lib.hid ho
  have c8 := h.c8
  have c7 := h.c7
  have f7 := h.frozen 7
  have HFE : Hid (freeE J = if J.br then 4 else if 0 < J.waits.length then 2 else 0) := Lib.hid rfl
  have HFJ : Hid (freeJ J = if freeE J = 0 then { J with us := 0 } else J) := Lib.hid rfl
  have HSAME : Hid (JB w gj gd J (.slice Aw J.waits.length cw) ∧ OB w base (.slice Aw J.waits.length cw) J.waits ∧ Off (fun k => k = gj) w w) := Lib.hid ⟨h, ho, Off.refl _ _⟩
  have hsz : J.waits.length ≤ maxLen := by
    obtain ⟨A', c', e, _, h1, h2⟩ := ho.form
    omega
  simp only [maxLen] at hsz
  generalize freeE J = fe at *
  generalize freeJ J = fj at *
  clear h ho
  go_enter Try.func10, Try.ntmps10
  go_wp2_with fail
  refine HST.out.mono ?_
  rintro e w1 ⟨rfl, rfl⟩
  unfold standE
  cases hbr : J.br
  · rw [hbr] at HFE
    simp only [Bool.false_eq_true, if_false]
    clear hbr
    by_cases hl : 0 < J.waits.length
    · have t1 : decide (0 < J.waits.length) = true := decide_eq_true hl
      have HE : Hid (fe = 2) := Lib.hid (by rw [HFE.out, if_neg (by simp), if_pos hl])
      clear hl
      go_wp2_with fail
      go_ret
      rw [HFJ.out, HE.out]
      exact ⟨rfl, HSAME.out⟩
    · have t1 : decide (0 < J.waits.length) = false := decide_eq_false hl
      have HE : Hid (fe = 0) := Lib.hid (by rw [HFE.out, if_neg (by simp), if_neg hl])
      clear hl
      go_wp2_with fail
      go_ret
      rw [HFJ.out, HE.out]
      have hj7 := HJ.out.s7 0
      have oF : Off (fun k => k = gj) w (w.setCell ⟨gj, 7, none⟩ (.int .i64 ((0 : Nat) : Int))) := (Off.refl (fun k => k = gj) w).setCell _ rfl
      exact ⟨rfl, hj7, HO.out.ty oF (fun k e => by subst e; exact ⟨_, _, _, HJ.out, by decide⟩), oF⟩
  · have HE : Hid (fe = 4) := Lib.hid (by have := HFE.out; rw [hbr] at this; exact this)
    simp only [if_true]
    clear hbr
    go_wp2_with fail
    go_ret
    rw [HFJ.out, HE.out]
    exact ⟨rfl, HSAME.out⟩
end Go.Proofs.Ytlopcmmbkfjidaa

/-! JnG -/
namespace Go.Proofs.Ytlopcmmbkfjidaa
open Go Go.RowKit

def wsJ (J : JnS) : List (Nat × List UInt8) := wsL J.fi J.bl J.ep J.pl J.ct J.waits
def fluE (D : DiskS) (J : JnS) : Int := if J.br then 4 else if J.waits.length = 0 then 0 else flushE D (wsJ J)
def fluD (D : DiskS) (J : JnS) : DiskS := if J.br = true ∨ J.waits.length = 0 then D else flushD D (wsJ J)
def fluJ (D : DiskS) (J : JnS) : JnS := if J.br = true ∨ J.waits.length = 0 then J else if flushE D (wsJ J) ≠ 0 then { J with br := true } else { J with pl := (J.pl + needL J.waits.length) % J.bl, ct := J.ct + needL J.waits.length, us := J.us + needL J.waits.length, waits := [], sy := J.la }
theorem JI.flu {J : JnS} (D : DiskS) (h : JI J) : JI (fluJ D J) := by
  unfold fluJ
  split
  · exact h
  · split
    · exact ⟨h.b1, h.b2, h.f1, h.p1, h.u1, h.c1, h.l1⟩
    · exact ⟨h.b1, h.b2, h.f1, Nat.mod_lt _ h.b1, by have := h.u1; simp [needL] at this ⊢; omega, by have := h.c1; simp [needL] at this ⊢; omega, h.l1⟩
def FPost (w : World) (ok : Nat → Prop) (base gj gd : Nat) (F : Nat → Prop) (D : DiskS) (J : JnS) (wv : Value) (w' : World) : Prop :=
  Off (fun k => F k ∨ k = gj) w w' ∧ ∃ wv' F', (wv' = wv ∨ wv' = .slice none 0 0) ∧ JB w' gj gd J wv' ∧ OB w' base wv' J.waits ∧ IsD w' (fun k => ok k ∨ w.heap.size ≤ k) base gd F' D ∧ ∀ k, F' k → F k ∨ w.heap.size ≤ k
theorem FPost.of {w w7 w' : World} {ok : Nat → Prop} {base gj gd : Nat} {F : Nat → Prop} {D : DiskS} {J J' : JnS} {wv wv' : Value} (hj : JB w gj gd J wv) (hF : ¬ F gj) (hd : DPost w ok base gd F D w7) (hw : wv' = wv ∨ wv' = .slice none 0 0) (ho : Off (fun k => k = gj) w7 w') (hj' : JB w' gj gd J' wv') (hob : OB w' base wv' J'.waits) : FPost w ok base gj gd F D J' wv w' := by
  obtain ⟨h1, F', h2, h3⟩ := hd
  have hj7 := hj.off h1 hF
  have hjl := hj.lt
  refine ⟨(h1.mono (fun _ _ e => .inl e)).trans (ho.mono (fun _ _ e => .inr e)), wv', F', hw, hj', hob, h2.off ho (fun k hk e => ?_) (fun k m e hb => ?_), h3⟩
  · subst e
    rcases h3 k hk with e | e
    · exact hF e
    · omega
  · subst e
    unfold JB at hj7
    unfold BB at hb
    rw [hj7] at hb
    injection hb with hb
    injection hb with _ hb _
    exact absurd hb (by decide)
theorem FPost.same {w w' : World} {ok : Nat → Prop} {base gj gd : Nat} {F : Nat → Prop} {D : DiskS} {J : JnS} {wv : Value} (hj : JB w gj gd J wv) (ho : OB w base wv J.waits) (hd : IsD w ok base gd F D) (hb : Below w.heap.size w w') : FPost w ok base gj gd F D J wv w' :=
  ⟨Off.of_below hb, wv, F, .inl rfl, hj.below hb, ho.below hb, (hd.below hb).mono (fun _ _ e => .inl e), fun _ e => .inl e⟩

set_option maxRecDepth 100000 in
set_option maxHeartbeats 4000000 in
theorem JFlush_any {w : World} {ok : Nat → Prop} {base gj gd : Nat} {F : Nat → Prop} {D : DiskS} {J : JnS} {wv : Value} (h : JB w gj gd J wv) (ho : OB w base wv J.waits) (hd : IsD w ok base gd F D) (hji : JI J) (hF : ¬ F gj) (hpd : D.pending.length ≤ 900000) :
    Calls Try.prog 9 #[.pointer (some ⟨gj, 0, none⟩)] w fun e w' => e = .returned (.int .i64 (fluE D J)) ∧ FPost w ok base gj gd F (fluD D J) (fluJ D J) wv w' := by
  obtain ⟨Aw, cw, rfl, brw, hlc, _⟩ := ho.form
  have HST := Lib.hid (stands_any h)
  have HSAME : Hid (FPost w ok base gj gd F D J (.slice Aw J.waits.length cw) w) := Lib.hid (FPost.same h ho hd (gr_refl w))
  have HJ := Lib.hid h
  have HO := Lib.hid ho
  have HD := Lib.hid hd
  have HI := Lib.hid hji
  have HBR := Lib.hid brw
  have HLC := Lib.hid hlc
  have HA : Hid (∀ ad, Aw = some ad → ad.block < w.heap.size ∧ ¬ F ad.block) := Lib.hid (fun ad e => by
    subst e
    obtain ⟨cur, fr, hc⟩ := own_at ho rfl
    exact ⟨(Array.getElem?_eq_some_iff.1 hc).1, fun hf => hd.foot_ty _ _ _ hf hc⟩)
  have HFE : Hid (fluE D J = if J.br then 4 else if J.waits.length = 0 then 0 else flushE D (wsJ J)) := Lib.hid rfl
  have HFD : Hid (fluD D J = if J.br = true ∨ J.waits.length = 0 then D else flushD D (wsJ J)) := Lib.hid rfl
  have HFJ : Hid (fluJ D J = if J.br = true ∨ J.waits.length = 0 then J else if flushE D (wsJ J) ≠ 0 then { J with br := true } else { J with pl := (J.pl + needL J.waits.length) % J.bl, ct := J.ct + needL J.waits.length, us := J.us + needL J.waits.length, waits := [], sy := J.la }) := Lib.hid rfl
  have c8 := h.c8
  have hwl := needL_le (Nat.le_trans (Nat.le_trans (Nat.le_add_left _ _) hji.u1) hji.b2)
  generalize fluE D J = fe at *
  generalize fluD D J = fd at *
  generalize fluJ D J = fj at *
  clear h ho hd hji brw hlc
  go_enter Try.func9, Try.ntmps9
  go_wp2_with fail
  refine HST.out.mono ?_
  rintro e w1 ⟨rfl, rfl⟩
  unfold standE
  cases hbr : J.br
  · rw [hbr] at HFE
    simp only [Bool.false_eq_true, if_false]
    by_cases hl : J.waits.length = 0
    · have t1 : ((J.waits.length : Int) == 0) = true := beq_iff_eq.2 (by omega)
      have HE : Hid (fe = 0 ∧ fd = D ∧ fj = J) := Lib.hid ⟨by rw [HFE.out, if_neg (by simp), if_pos hl], by rw [HFD.out, if_pos (.inr hl)], by rw [HFJ.out, if_pos (.inr hl)]⟩
      clear hl hbr
      go_wp2_with fail
      go_ret
      rw [HE.out.1, HE.out.2.1, HE.out.2.2]
      exact ⟨rfl, HSAME.out⟩
    · have t1 : ((J.waits.length : Int) == 0) = false := beq_eq_false_iff_ne.2 (by omega)
      have HE : Hid (fe = flushE D (wsJ J) ∧ fd = flushD D (wsJ J) ∧ fj = if flushE D (wsJ J) ≠ 0 then { J with br := true } else { J with pl := (J.pl + needL J.waits.length) % J.bl, ct := J.ct + needL J.waits.length, us := J.us + needL J.waits.length, waits := [], sy := J.la }) := Lib.hid ⟨by rw [HFE.out, if_neg (by simp), if_neg hl], by rw [HFD.out, if_neg (by rw [hbr]; simp [hl])], by rw [HFJ.out, if_neg (by rw [hbr]; simp [hl])]⟩
      clear hl hbr HFE HFD HFJ
      go_upto_region 6 with fail
      have D2 := Lib.hid (show w.drew.cell? ⟨gj, 5, none⟩ = some (.int .i64 (J.pl : Int)) from HJ.out.c5)
      have D3 := Lib.hid (show w.drew.cell? ⟨gj, 6, none⟩ = some (.int .i64 (J.ct : Int)) from HJ.out.c6)
      have D8 := Lib.hid (show w.drew.cell? ⟨gj, 8, none⟩ = some (.slice Aw J.waits.length cw) from HJ.out.c8)
      refine wp_region_any (by kernel_rfl) ?_
      refine' wpAny_to_tail (l0 := #[false, false, false, false, false, false, false, false, false, false, false, false, false, false, false, false, false]) (by kernel_rfl) (by kernel_rfl) (by kernel_rfl) (by kernel_rfl) (by kernel_rfl)
        [MP.is (.pointer (some ⟨gj, 0, none⟩)), MP.is (.pointer (some ⟨gj, 0, none⟩)), MP.is (.pointer (some ⟨gj, 0, none⟩)), MP.is (.pointer (some ⟨gj, 0, none⟩)), MP.is (.pointer (some ⟨gj, 0, none⟩)), MP.is (.pointer (some ⟨gj, 5, none⟩)), MP.is (.int .i64 (J.pl : Int)), MP.is (.pointer (some ⟨gj, 0, none⟩)), MP.is (.pointer (some ⟨gj, 0, none⟩)), MP.is (.pointer (some ⟨gj, 6, none⟩)), MP.is (.int .i64 (J.ct : Int)), MP.is (.pointer (some ⟨gj, 0, none⟩)), MP.is (.pointer (some ⟨gj, 0, none⟩)), MP.is (.pointer (some ⟨gj, 8, none⟩)), MP.is (.slice Aw J.waits.length cw), MP.any, MP.any]
        (fun j => j == 15 || j == 16) #[true, true, true, true, true, true, true, true, true, true, true, true, true, true, true, false, false] rfl (by kernel_rfl) rfl (by kernel_rfl) (by kernel_rfl) (by kernel_rfl) (by kernel_rfl) (fun _ => undef) (by rfl) ?hR01 ?hAA1 ?hst1 ?hend1
      case hR01 =>
        intro j hj
        have hj2 : j ∈ [] := hj
        cases hj2
      case hAA1 =>
        intro f
        conv => lhs; simp only [putA, dstOf, List.size_toArray, List.length_cons, List.length_nil, Nat.zero_add, Nat.reduceAdd, List.getElem?_toArray, List.getElem?_cons_zero, List.getElem?_cons_succ, Option.bind_some, Act.put, List.setIfInBounds_toArray, List.set_cons_zero, List.set_cons_succ]
        first | done | exact rfl
      case hst1 =>
        refine Steps.of_list (l' := [0, 1, 2, 3, 4, 5, 6, 7, 8, 9, 10, 11, 12, 13, 14]) (by kernel_rfl) ?_
        refine Steps.cons rfl ?_ ?_
        · intro f wz hB h K Q hK
          clear h
          try simp only [List.getElem_toArray, List.getElem_cons_zero]
          try rw [if_pos (by rfl)]
          go_simp
          exact hK _ _ (gr_refl _) rfl
        refine Steps.cons rfl ?_ ?_
        · intro f wz hB h K Q hK
          have h0 : (MP.is (.pointer (some ⟨gj, 0, none⟩))).p (f 0) wz := h 0 (by kernel_rfl)
          have e0 : f 0 = (.pointer (some ⟨gj, 0, none⟩)) := h0
          simp only [e0] at hK ⊢
          clear e0
          clear h
          try simp only [List.getElem_toArray, List.getElem_cons_succ, List.getElem_cons_zero]
          try rw [if_pos (by rfl)]
          go_simp
          exact hK _ _ (gr_refl _) rfl
        refine Steps.cons rfl ?_ ?_
        · intro f wz hB h K Q hK
          have h1 : (MP.is (.pointer (some ⟨gj, 0, none⟩))).p (f 1) wz := h 1 (by kernel_rfl)
          have e1 : f 1 = (.pointer (some ⟨gj, 0, none⟩)) := h1
          simp only [e1] at hK ⊢
          clear e1
          clear h
          try simp only [List.getElem_toArray, List.getElem_cons_succ, List.getElem_cons_zero]
          try rw [if_pos (by rfl)]
          go_simp
          exact hK _ _ (gr_refl _) rfl
        refine Steps.cons rfl ?_ ?_
        · intro f wz hB h K Q hK
          clear h
          try simp only [List.getElem_toArray, List.getElem_cons_succ, List.getElem_cons_zero]
          try rw [if_pos (by rfl)]
          go_simp
          exact hK _ _ (gr_refl _) rfl
        refine Steps.cons rfl ?_ ?_
        · intro f wz hB h K Q hK
          have h3 : (MP.is (.pointer (some ⟨gj, 0, none⟩))).p (f 3) wz := h 3 (by kernel_rfl)
          have e3 : f 3 = (.pointer (some ⟨gj, 0, none⟩)) := h3
          simp only [e3] at hK ⊢
          clear e3
          clear h
          try simp only [List.getElem_toArray, List.getElem_cons_succ, List.getElem_cons_zero]
          try rw [if_pos (by rfl)]
          go_simp
          exact hK _ _ (gr_refl _) rfl
        refine Steps.cons rfl ?_ ?_
        · intro f wz hB h K Q hK
          have h4 : (MP.is (.pointer (some ⟨gj, 0, none⟩))).p (f 4) wz := h 4 (by kernel_rfl)
          have e4 : f 4 = (.pointer (some ⟨gj, 0, none⟩)) := h4
          simp only [e4] at hK ⊢
          clear e4
          clear h
          try simp only [List.getElem_toArray, List.getElem_cons_succ, List.getElem_cons_zero]
          try rw [if_pos (by rfl)]
          go_simp
          exact hK _ _ (gr_refl _) rfl
        refine Steps.cons rfl ?_ ?_
        · intro f wz hB h K Q hK
          have h5 : (MP.is (.pointer (some ⟨gj, 5, none⟩))).p (f 5) wz := h 5 (by kernel_rfl)
          have e5 : f 5 = (.pointer (some ⟨gj, 5, none⟩)) := h5
          simp only [e5] at hK ⊢
          clear e5
          clear h
          try simp only [List.getElem_toArray, List.getElem_cons_succ, List.getElem_cons_zero]
          try rw [if_pos (by rfl)]
          have y0 := keep_of_below hB D2.out
          have y1 := keep_of_below hB D3.out
          have y2 := keep_of_below hB D8.out
          go_simp
          exact hK _ _ (gr_refl _) rfl
        refine Steps.cons rfl ?_ ?_
        · intro f wz hB h K Q hK
          clear h
          try simp only [List.getElem_toArray, List.getElem_cons_succ, List.getElem_cons_zero]
          try rw [if_pos (by rfl)]
          go_simp
          exact hK _ _ (gr_refl _) rfl
        refine Steps.cons rfl ?_ ?_
        · intro f wz hB h K Q hK
          have h7 : (MP.is (.pointer (some ⟨gj, 0, none⟩))).p (f 7) wz := h 7 (by kernel_rfl)
          have e7 : f 7 = (.pointer (some ⟨gj, 0, none⟩)) := h7
          simp only [e7] at hK ⊢
          clear e7
          clear h
          try simp only [List.getElem_toArray, List.getElem_cons_succ, List.getElem_cons_zero]
          try rw [if_pos (by rfl)]
          go_simp
          exact hK _ _ (gr_refl _) rfl
        refine Steps.cons rfl ?_ ?_
        · intro f wz hB h K Q hK
          have h8 : (MP.is (.pointer (some ⟨gj, 0, none⟩))).p (f 8) wz := h 8 (by kernel_rfl)
          have e8 : f 8 = (.pointer (some ⟨gj, 0, none⟩)) := h8
          simp only [e8] at hK ⊢
          clear e8
          clear h
          try simp only [List.getElem_toArray, List.getElem_cons_succ, List.getElem_cons_zero]
          try rw [if_pos (by rfl)]
          go_simp
          exact hK _ _ (gr_refl _) rfl
        refine Steps.cons rfl ?_ ?_
        · intro f wz hB h K Q hK
          have h9 : (MP.is (.pointer (some ⟨gj, 6, none⟩))).p (f 9) wz := h 9 (by kernel_rfl)
          have e9 : f 9 = (.pointer (some ⟨gj, 6, none⟩)) := h9
          simp only [e9] at hK ⊢
          clear e9
          clear h
          try simp only [List.getElem_toArray, List.getElem_cons_succ, List.getElem_cons_zero]
          try rw [if_pos (by rfl)]
          have y0 := keep_of_below hB D2.out
          have y1 := keep_of_below hB D3.out
          have y2 := keep_of_below hB D8.out
          go_simp
          exact hK _ _ (gr_refl _) rfl
        refine Steps.cons rfl ?_ ?_
        · intro f wz hB h K Q hK
          clear h
          try simp only [List.getElem_toArray, List.getElem_cons_succ, List.getElem_cons_zero]
          try rw [if_pos (by rfl)]
          go_simp
          exact hK _ _ (gr_refl _) rfl
        refine Steps.cons rfl ?_ ?_
        · intro f wz hB h K Q hK
          have h11 : (MP.is (.pointer (some ⟨gj, 0, none⟩))).p (f 11) wz := h 11 (by kernel_rfl)
          have e11 : f 11 = (.pointer (some ⟨gj, 0, none⟩)) := h11
          simp only [e11] at hK ⊢
          clear e11
          clear h
          try simp only [List.getElem_toArray, List.getElem_cons_succ, List.getElem_cons_zero]
          try rw [if_pos (by rfl)]
          go_simp
          exact hK _ _ (gr_refl _) rfl
        refine Steps.cons rfl ?_ ?_
        · intro f wz hB h K Q hK
          have h12 : (MP.is (.pointer (some ⟨gj, 0, none⟩))).p (f 12) wz := h 12 (by kernel_rfl)
          have e12 : f 12 = (.pointer (some ⟨gj, 0, none⟩)) := h12
          simp only [e12] at hK ⊢
          clear e12
          clear h
          try simp only [List.getElem_toArray, List.getElem_cons_succ, List.getElem_cons_zero]
          try rw [if_pos (by rfl)]
          go_simp
          exact hK _ _ (gr_refl _) rfl
        refine Steps.cons rfl ?_ ?_
        · intro f wz hB h K Q hK
          have h13 : (MP.is (.pointer (some ⟨gj, 8, none⟩))).p (f 13) wz := h 13 (by kernel_rfl)
          have e13 : f 13 = (.pointer (some ⟨gj, 8, none⟩)) := h13
          simp only [e13] at hK ⊢
          clear e13
          clear h
          try simp only [List.getElem_toArray, List.getElem_cons_succ, List.getElem_cons_zero]
          try rw [if_pos (by rfl)]
          have y0 := keep_of_below hB D2.out
          have y1 := keep_of_below hB D3.out
          have y2 := keep_of_below hB D8.out
          go_simp
          exact hK _ _ (gr_refl _) rfl
        exact Steps.nil
      intro f w4 hB4 hR
      conv => arg 7; simp only [putL, dstOf, List.size_toArray, List.length_cons, List.length_nil, Nat.zero_add, Nat.reduceAdd, List.getElem?_toArray, List.getElem?_cons_zero, List.getElem?_cons_succ, Option.bind_some, Act.put, List.setIfInBounds_toArray, List.set_cons_zero, List.set_cons_succ, Array.getD_eq_getD_getElem?, Option.getD_some, if_true, if_false, Bool.false_eq_true]
      have e0 : f 0 = (.pointer (some ⟨gj, 0, none⟩)) := hR 0 (by decide) rfl
      have e1 : f 1 = (.pointer (some ⟨gj, 0, none⟩)) := hR 1 (by decide) rfl
      have e2 : f 2 = (.pointer (some ⟨gj, 0, none⟩)) := hR 2 (by decide) rfl
      have e3 : f 3 = (.pointer (some ⟨gj, 0, none⟩)) := hR 3 (by decide) rfl
      have e4 : f 4 = (.pointer (some ⟨gj, 0, none⟩)) := hR 4 (by decide) rfl
      have e5 : f 5 = (.pointer (some ⟨gj, 5, none⟩)) := hR 5 (by decide) rfl
      have e6 : f 6 = (.int .i64 (J.pl : Int)) := hR 6 (by decide) rfl
      have e7 : f 7 = (.pointer (some ⟨gj, 0, none⟩)) := hR 7 (by decide) rfl
      have e8 : f 8 = (.pointer (some ⟨gj, 0, none⟩)) := hR 8 (by decide) rfl
      have e9 : f 9 = (.pointer (some ⟨gj, 6, none⟩)) := hR 9 (by decide) rfl
      have e10 : f 10 = (.int .i64 (J.ct : Int)) := hR 10 (by decide) rfl
      have e11 : f 11 = (.pointer (some ⟨gj, 0, none⟩)) := hR 11 (by decide) rfl
      have e12 : f 12 = (.pointer (some ⟨gj, 0, none⟩)) := hR 12 (by decide) rfl
      have e13 : f 13 = (.pointer (some ⟨gj, 8, none⟩)) := hR 13 (by decide) rfl
      have e14 : f 14 = (.slice Aw J.waits.length cw) := hR 14 (by decide) rfl
      simp only [e0, e1, e2, e3, e4, e5, e6, e7, e8, e9, e10, e11, e12, e13, e14]
      clear e0 e1 e2 e3 e4 e5 e6 e7 e8 e9 e10 e11 e12 e13 e14 hR
      have HB4 := Lib.hid (Below.trans (gr_drewN (gr_refl w) 1) hB4)
      have HD4 := Lib.hid (HD.out.below HB4.out)
      have HJ4 := Lib.hid (HJ.out.below HB4.out)
      have HWR := Lib.hid (write_any w4 ok base gj gd F D J.fi J.bl J.ep J.pl J.ct Aw J.waits.length cw J.waits HD4.out HJ4.out.rc ⟨HJ4.out.lt, hF⟩ (HBR.out.below HB4.out) (fun ad e => ⟨Nat.lt_of_lt_of_le (HA.out ad e).1 HB4.out.size, (HA.out ad e).2⟩) (by omega) HLC.out HI.out.b1 HI.out.b2 HI.out.f1 (by have := HI.out.p1; have := HI.out.b2; omega) (by have := HI.out.c1; omega) hpd)
      obtain ⟨r, hr⟩ : ∃ r, r = flushE D (wsJ J) := ⟨_, rfl⟩
      have HR0 : Hid (flushE D (wsJ J) = r) := Lib.hid hr.symm
      have HWR2 : Hid (Calls Try.prog 32 #[.pointer (some ⟨gj, 0, none⟩), .int .i64 (J.pl : Int), .int .i64 (J.ct : Int), .slice Aw J.waits.length cw] w4 fun e w' => e = .returned (.int .i64 r) ∧ DPost w ok base gd F (flushD D (wsJ J)) w') := Lib.hid (HWR.out.mono (fun e w' h => ⟨by rw [h.1, hr]; rfl, DPost.pre HB4.out h.2⟩))
      clear hB4 hr HWR
      refine wpAny_of_held (S := fun _ => True) _ _ _ _ ?_
      refine wpAnyH_ready (rs := [15]) (by kernel_rfl) (by simp) ?_
      refine AllReadyH.cons rfl (fun KK hK => ?_) AllReadyH.nil
      try simp only [List.getElem_toArray, List.getElem_cons_succ, List.getElem_cons_zero]
      rw [if_pos (by rfl)]
      go_simp
      refine HWR2.out.mono ?_
      rintro e w7 ⟨rfl, hdp⟩
      have HDP := Lib.hid hdp
      clear hdp
      refine hK.out _ _ trivial (fun _ => ?_)
      clear hK KK
      try simp only [List.setIfInBounds_toArray, List.set_cons_zero, List.set_cons_succ]
      refine wpAnyH_ready (rs := [16]) (by kernel_rfl) (by simp) ?_
      refine AllReadyH.cons rfl (fun KK hK => ?_) AllReadyH.nil
      try simp only [List.getElem_toArray, List.getElem_cons_succ, List.getElem_cons_zero]
      go_simp
      refine hK.out _ _ trivial (fun _ => ?_)
      clear hK KK
      try simp only [List.setIfInBounds_toArray, List.set_cons_zero, List.set_cons_succ]
      refine wpAnyH_done (by kernel_rfl) ?_ _
      by_cases hr0 : r = 0
      · subst hr0
        have HJ7 := Lib.hid (HJ.out.off HDP.out.1 hF)
        have HO7 := Lib.hid ((HD.out.kb HDP.out.1).ob HO.out)
        have c8' := HJ7.out.c8
        go_wp2_with fail
        refine (needs_any J.waits.length w7 (by omega)).mono ?_
        rintro e w8 ⟨rfl, rfl⟩
        obtain ⟨nn, hnn⟩ : ∃ nn, nn = needL J.waits.length := ⟨_, rfl⟩
        have HNN := Lib.hid hnn
        have hnb : nn ≤ 1024 := by rw [hnn]; have := HI.out.u1; have := HI.out.b2; omega
        have hib := HI.out.b1
        have hib2 := HI.out.b2
        have hip := HI.out.p1
        have hic := HI.out.c1
        have hiu := HI.out.u1
        rw [← hnn] at hic hiu HE ⊢
        obtain ⟨x, hx⟩ : ∃ x : Nat, x = (J.pl + nn) % J.bl := ⟨_, rfl⟩
        have HX := Lib.hid hx
        have k1 : IntKind.i64.wrap ((J.pl : Int) + (nn : Int)) = (J.pl : Int) + (nn : Int) := by rw [IntKind.wrap_i64]; omega
        have k2 : Int.tmod ((J.pl : Int) + (nn : Int)) (J.bl : Int) = (x : Int) := by
          have e : (J.pl : Int) + (nn : Int) = ((J.pl + nn : Nat) : Int) := by omega
          rw [e, Int.tmod_eq_emod_of_nonneg (by omega), hx]
          exact (Int.natCast_emod _ _).symm
        have hz : ((J.bl : Int) == 0) = false := beq_eq_false_iff_ne.2 (by omega)
        have hz' : ¬ (J.bl = 0) := by omega
        clear hx hnn
        go_upto_region 11 with fail
        have E2 := Lib.hid (show w7.drew.cell? ⟨gj, 5, none⟩ = some (.int .i64 (J.pl : Int)) from HJ7.out.c5)
        have E3 := Lib.hid (show w7.drew.cell? ⟨gj, 2, none⟩ = some (.int .i64 (J.bl : Int)) from HJ7.out.c2)
        refine wp_region_any (by kernel_rfl) ?_
        refine' wpAny_to_tail (l0 := #[false, false, false, false, false, false, false, false, false, false, false, false, false, false, false, false]) (by kernel_rfl) (by kernel_rfl) (by kernel_rfl) (by kernel_rfl) (by kernel_rfl)
          [MP.is (.pointer (some ⟨gj, 0, none⟩)), MP.is (.pointer (some ⟨gj, 0, none⟩)), MP.is (.pointer (some ⟨gj, 0, none⟩)), MP.is (.pointer (some ⟨gj, 5, none⟩)), MP.is (.int .i64 (J.pl : Int)), MP.is (.int .i64 (nn : Int)), MP.is (.int .i64 ((J.pl : Int) + (nn : Int))), MP.is (.pointer (some ⟨gj, 0, none⟩)), MP.is (.pointer (some ⟨gj, 0, none⟩)), MP.is (.pointer (some ⟨gj, 0, none⟩)), MP.is (.pointer (some ⟨gj, 2, none⟩)), MP.is (.int .i64 (J.bl : Int)), MP.is (.int .i64 (x : Int)), MP.is (.pointer (some ⟨gj, 0, none⟩)), MP.is (.pointer (some ⟨gj, 5, none⟩)), MP.any]
          (fun j => j == 15) #[true, true, true, true, true, true, true, true, true, true, true, true, true, true, true, false] rfl (by kernel_rfl) rfl (by kernel_rfl) (by kernel_rfl) (by kernel_rfl) (by kernel_rfl) (fun _ => undef) (by rfl) ?hR02 ?hAA2 ?hst2 ?hend2
        case hR02 =>
          intro j hj
          have hj2 : j ∈ [] := hj
          cases hj2
        case hAA2 =>
          intro f
          conv => lhs; simp only [putA, dstOf, List.size_toArray, List.length_cons, List.length_nil, Nat.zero_add, Nat.reduceAdd, List.getElem?_toArray, List.getElem?_cons_zero, List.getElem?_cons_succ, Option.bind_some, Act.put, List.setIfInBounds_toArray, List.set_cons_zero, List.set_cons_succ]
          first | done | exact rfl
        case hst2 =>
          refine Steps.of_list (l' := [0, 1, 2, 3, 4, 5, 6, 7, 8, 9, 10, 11, 12, 13, 14]) (by kernel_rfl) ?_
          refine Steps.cons rfl ?_ ?_
          · intro f wz hB h K Q hK
            clear h
            try simp only [List.getElem_toArray, List.getElem_cons_zero]
            try rw [if_pos (by rfl)]
            go_simp
            exact hK _ _ (gr_refl _) rfl
          refine Steps.cons rfl ?_ ?_
          · intro f wz hB h K Q hK
            clear h
            try simp only [List.getElem_toArray, List.getElem_cons_succ, List.getElem_cons_zero]
            try rw [if_pos (by rfl)]
            go_simp
            exact hK _ _ (gr_refl _) rfl
          refine Steps.cons rfl ?_ ?_
          · intro f wz hB h K Q hK
            have h1 : (MP.is (.pointer (some ⟨gj, 0, none⟩))).p (f 1) wz := h 1 (by kernel_rfl)
            have e1 : f 1 = (.pointer (some ⟨gj, 0, none⟩)) := h1
            simp only [e1] at hK ⊢
            clear e1
            clear h
            try simp only [List.getElem_toArray, List.getElem_cons_succ, List.getElem_cons_zero]
            try rw [if_pos (by rfl)]
            go_simp
            exact hK _ _ (gr_refl _) rfl
          refine Steps.cons rfl ?_ ?_
          · intro f wz hB h K Q hK
            have h2 : (MP.is (.pointer (some ⟨gj, 0, none⟩))).p (f 2) wz := h 2 (by kernel_rfl)
            have e2 : f 2 = (.pointer (some ⟨gj, 0, none⟩)) := h2
            simp only [e2] at hK ⊢
            clear e2
            clear h
            try simp only [List.getElem_toArray, List.getElem_cons_succ, List.getElem_cons_zero]
            try rw [if_pos (by rfl)]
            go_simp
            exact hK _ _ (gr_refl _) rfl
          refine Steps.cons rfl ?_ ?_
          · intro f wz hB h K Q hK
            have h3 : (MP.is (.pointer (some ⟨gj, 5, none⟩))).p (f 3) wz := h 3 (by kernel_rfl)
            have e3 : f 3 = (.pointer (some ⟨gj, 5, none⟩)) := h3
            simp only [e3] at hK ⊢
            clear e3
            clear h
            try simp only [List.getElem_toArray, List.getElem_cons_succ, List.getElem_cons_zero]
            try rw [if_pos (by rfl)]
            have y0 := keep_of_below hB E2.out
            have y1 := keep_of_below hB E3.out
            go_simp
            exact hK _ _ (gr_refl _) rfl
          refine Steps.cons rfl ?_ ?_
          · intro f wz hB h K Q hK
            clear h
            try simp only [List.getElem_toArray, List.getElem_cons_succ, List.getElem_cons_zero]
            try rw [if_pos (by rfl)]
            go_simp
            exact hK _ _ (gr_refl _) rfl
          refine Steps.cons rfl ?_ ?_
          · intro f wz hB h K Q hK
            have h4 : (MP.is (.int .i64 (J.pl : Int))).p (f 4) wz := h 4 (by kernel_rfl)
            have e4 : f 4 = (.int .i64 (J.pl : Int)) := h4
            have h5 : (MP.is (.int .i64 (nn : Int))).p (f 5) wz := h 5 (by kernel_rfl)
            have e5 : f 5 = (.int .i64 (nn : Int)) := h5
            simp only [e4, e5] at hK ⊢
            clear e4 e5
            clear h
            try simp only [List.getElem_toArray, List.getElem_cons_succ, List.getElem_cons_zero]
            try rw [if_pos (by rfl)]
            go_simp
            exact hK _ _ (gr_refl _) rfl
          refine Steps.cons rfl ?_ ?_
          · intro f wz hB h K Q hK
            clear h
            try simp only [List.getElem_toArray, List.getElem_cons_succ, List.getElem_cons_zero]
            try rw [if_pos (by rfl)]
            go_simp
            exact hK _ _ (gr_refl _) rfl
          refine Steps.cons rfl ?_ ?_
          · intro f wz hB h K Q hK
            have h7 : (MP.is (.pointer (some ⟨gj, 0, none⟩))).p (f 7) wz := h 7 (by kernel_rfl)
            have e7 : f 7 = (.pointer (some ⟨gj, 0, none⟩)) := h7
            simp only [e7] at hK ⊢
            clear e7
            clear h
            try simp only [List.getElem_toArray, List.getElem_cons_succ, List.getElem_cons_zero]
            try rw [if_pos (by rfl)]
            go_simp
            exact hK _ _ (gr_refl _) rfl
          refine Steps.cons rfl ?_ ?_
          · intro f wz hB h K Q hK
            have h8 : (MP.is (.pointer (some ⟨gj, 0, none⟩))).p (f 8) wz := h 8 (by kernel_rfl)
            have e8 : f 8 = (.pointer (some ⟨gj, 0, none⟩)) := h8
            simp only [e8] at hK ⊢
            clear e8
            clear h
            try simp only [List.getElem_toArray, List.getElem_cons_succ, List.getElem_cons_zero]
            try rw [if_pos (by rfl)]
            go_simp
            exact hK _ _ (gr_refl _) rfl
          refine Steps.cons rfl ?_ ?_
          · intro f wz hB h K Q hK
            have h9 : (MP.is (.pointer (some ⟨gj, 0, none⟩))).p (f 9) wz := h 9 (by kernel_rfl)
            have e9 : f 9 = (.pointer (some ⟨gj, 0, none⟩)) := h9
            simp only [e9] at hK ⊢
            clear e9
            clear h
            try simp only [List.getElem_toArray, List.getElem_cons_succ, List.getElem_cons_zero]
            try rw [if_pos (by rfl)]
            go_simp
            exact hK _ _ (gr_refl _) rfl
          refine Steps.cons rfl ?_ ?_
          · intro f wz hB h K Q hK
            have h10 : (MP.is (.pointer (some ⟨gj, 2, none⟩))).p (f 10) wz := h 10 (by kernel_rfl)
            have e10 : f 10 = (.pointer (some ⟨gj, 2, none⟩)) := h10
            simp only [e10] at hK ⊢
            clear e10
            clear h
            try simp only [List.getElem_toArray, List.getElem_cons_succ, List.getElem_cons_zero]
            try rw [if_pos (by rfl)]
            have y0 := keep_of_below hB E2.out
            have y1 := keep_of_below hB E3.out
            go_simp
            exact hK _ _ (gr_refl _) rfl
          refine Steps.cons rfl ?_ ?_
          · intro f wz hB h K Q hK
            have h6 : (MP.is (.int .i64 ((J.pl : Int) + (nn : Int)))).p (f 6) wz := h 6 (by kernel_rfl)
            have e6 : f 6 = (.int .i64 ((J.pl : Int) + (nn : Int))) := h6
            have h11 : (MP.is (.int .i64 (J.bl : Int))).p (f 11) wz := h 11 (by kernel_rfl)
            have e11 : f 11 = (.int .i64 (J.bl : Int)) := h11
            simp only [e6, e11] at hK ⊢
            clear e6 e11
            clear h
            try simp only [List.getElem_toArray, List.getElem_cons_succ, List.getElem_cons_zero]
            try rw [if_pos (by rfl)]
            go_simp
            exact hK _ _ (gr_refl _) rfl
          refine Steps.cons rfl ?_ ?_
          · intro f wz hB h K Q hK
            have h0 : (MP.is (.pointer (some ⟨gj, 0, none⟩))).p (f 0) wz := h 0 (by kernel_rfl)
            have e0 : f 0 = (.pointer (some ⟨gj, 0, none⟩)) := h0
            simp only [e0] at hK ⊢
            clear e0
            clear h
            try simp only [List.getElem_toArray, List.getElem_cons_succ, List.getElem_cons_zero]
            try rw [if_pos (by rfl)]
            go_simp
            exact hK _ _ (gr_refl _) rfl
          refine Steps.cons rfl ?_ ?_
          · intro f wz hB h K Q hK
            have h13 : (MP.is (.pointer (some ⟨gj, 0, none⟩))).p (f 13) wz := h 13 (by kernel_rfl)
            have e13 : f 13 = (.pointer (some ⟨gj, 0, none⟩)) := h13
            simp only [e13] at hK ⊢
            clear e13
            clear h
            try simp only [List.getElem_toArray, List.getElem_cons_succ, List.getElem_cons_zero]
            try rw [if_pos (by rfl)]
            go_simp
            exact hK _ _ (gr_refl _) rfl
          exact Steps.nil
        intro f w5 hB5 hR
        conv => arg 7; simp only [putL, dstOf, List.size_toArray, List.length_cons, List.length_nil, Nat.zero_add, Nat.reduceAdd, List.getElem?_toArray, List.getElem?_cons_zero, List.getElem?_cons_succ, Option.bind_some, Act.put, List.setIfInBounds_toArray, List.set_cons_zero, List.set_cons_succ, Array.getD_eq_getD_getElem?, Option.getD_some, if_true, if_false, Bool.false_eq_true]
        have e0 : f 0 = (.pointer (some ⟨gj, 0, none⟩)) := hR 0 (by decide) rfl
        have e1 : f 1 = (.pointer (some ⟨gj, 0, none⟩)) := hR 1 (by decide) rfl
        have e2 : f 2 = (.pointer (some ⟨gj, 0, none⟩)) := hR 2 (by decide) rfl
        have e3 : f 3 = (.pointer (some ⟨gj, 5, none⟩)) := hR 3 (by decide) rfl
        have e4 : f 4 = (.int .i64 (J.pl : Int)) := hR 4 (by decide) rfl
        have e5 : f 5 = (.int .i64 (nn : Int)) := hR 5 (by decide) rfl
        have e6 : f 6 = (.int .i64 ((J.pl : Int) + (nn : Int))) := hR 6 (by decide) rfl
        have e7 : f 7 = (.pointer (some ⟨gj, 0, none⟩)) := hR 7 (by decide) rfl
        have e8 : f 8 = (.pointer (some ⟨gj, 0, none⟩)) := hR 8 (by decide) rfl
        have e9 : f 9 = (.pointer (some ⟨gj, 0, none⟩)) := hR 9 (by decide) rfl
        have e10 : f 10 = (.pointer (some ⟨gj, 2, none⟩)) := hR 10 (by decide) rfl
        have e11 : f 11 = (.int .i64 (J.bl : Int)) := hR 11 (by decide) rfl
        have e12 : f 12 = (.int .i64 (x : Int)) := hR 12 (by decide) rfl
        have e13 : f 13 = (.pointer (some ⟨gj, 0, none⟩)) := hR 13 (by decide) rfl
        have e14 : f 14 = (.pointer (some ⟨gj, 5, none⟩)) := hR 14 (by decide) rfl
        simp only [e0, e1, e2, e3, e4, e5, e6, e7, e8, e9, e10, e11, e12, e13, e14]
        clear e0 e1 e2 e3 e4 e5 e6 e7 e8 e9 e10 e11 e12 e13 e14 hR
        have HB5 : Hid (Below w7.heap.size w7 w5) := Lib.hid (Below.trans (gr_drewN (gr_refl w7) 1) hB5)
        have HJ5 := Lib.hid (HJ7.out.below HB5.out)
        have f5 := HJ5.out.frozen 5
        have f6 := HJ5.out.frozen 6
        have f7 := HJ5.out.frozen 7
        have f8 := HJ5.out.frozen 8
        have f10 := HJ5.out.frozen 10
        have d5 := HJ5.out.c5
        have d6 := HJ5.out.c6
        have d7 := HJ5.out.c7
        have d8 := HJ5.out.c8
        have d9 := HJ5.out.c9
        have d10 := HJ5.out.c10
        have HJF := Lib.hid (((((HJ5.out.s5 x).s6 (J.ct + nn)).s7 (J.us + nn)).s8 (.slice none 0 0) []).s10 J.la)
        clear c8' c8 t1 k1 k2 hz hz'
        clear hB5
        refine wpAny_of_held (S := fun _ => True) _ _ _ _ ?_
        refine wpAnyH_ready (rs := [15]) (by kernel_rfl) (by simp) ?_
        refine AllReadyH.cons rfl (fun KK hK => ?_) AllReadyH.nil
        try simp only [List.getElem_toArray, List.getElem_cons_succ, List.getElem_cons_zero]
        go_simp
        refine hK.out _ _ trivial (fun _ => ?_)
        clear hK KK
        try simp only [List.setIfInBounds_toArray, List.set_cons_zero, List.set_cons_succ]
        refine wpAnyH_done (by kernel_rfl) ?_ _
        go_wp2_with fail
        go_ret
        rw [HE.out.1, HE.out.2.1, HE.out.2.2, if_neg (by rw [HR0.out]; simp), ← HX.out]
        have hjf := HJF.out
        rw [Int.natCast_add J.ct nn, Int.natCast_add J.us nn] at hjf
        have oF := (((((Off.refl (fun k => k = gj) w5).setCell (j := 5) (.int .i64 (x : Int)) rfl).setCell (j := 6) (.int .i64 ((J.ct : Int) + (nn : Int))) rfl).setCell (j := 7) (.int .i64 ((J.us : Int) + (nn : Int))) rfl).setCell (j := 8) (.slice none 0 0) rfl).setCell (j := 10) (.int .i64 (J.la : Int)) rfl
        have hfin := FPost.of HJ.out hF (HDP.out.more HB5.out) (.inr rfl) oF hjf (OB.nil _ _)
        refine ⟨ret_i HR0.out.symm, ?_⟩
        exact hfin
      · have t3 : (r != 0) = true := by rw [bne_iff_ne]; exact hr0
        have HN0 := Lib.hid hr0
        have HJ7 := Lib.hid (HJ.out.off HDP.out.1 hF)
        have HO7 := Lib.hid ((HD.out.kb HDP.out.1).ob HO.out)
        have c11 := HJ7.out.c11
        have f11 := HJ7.out.frozen 11
        clear hr0
        go_wp2_with fail
        go_ret
        rw [HE.out.1, HE.out.2.1, HE.out.2.2, if_pos (by rw [HR0.out]; exact HN0.out)]
        have oF : Off (fun k => k = gj) w7 (w7.setCell ⟨gj, 11, none⟩ (.bool true)) := (Off.refl (fun k => k = gj) w7).setCell _ rfl
        exact ⟨ret_i HR0.out.symm, FPost.of HJ.out hF HDP.out (.inl rfl) oF (HJ7.out.s11 true) (HO7.out.ty oF (fun k e => by subst e; exact ⟨_, _, _, HJ7.out, by decide⟩))⟩
  · have HE : Hid (fe = 4 ∧ fd = D ∧ fj = J) := Lib.hid ⟨by rw [HFE.out, if_pos hbr], by rw [HFD.out, if_pos (.inl hbr)], by rw [HFJ.out, if_pos (.inl hbr)]⟩
    simp only [if_true]
    clear hbr
    go_wp2_with fail
    go_ret
    rw [HE.out.1, HE.out.2.1, HE.out.2.2]
    exact ⟨rfl, HSAME.out⟩
end Go.Proofs.Ytlopcmmbkfjidaa

/-! JnH -/
namespace Go.Proofs.Ytlopcmmbkfjidaa
open Go Go.RowKit

def imgC (n : Nat) : List Ch := (List.range n).map fun (i : Nat) => (((i : Int), madeL (i : Int) 4080, ([] : List Pc)) : Ch)
theorem imgC_snoc (k : Nat) : imgC (k + 1) = imgC k ++ [((k : Int), madeL (k : Int) 4080, [])] := by unfold imgC; rw [List.range_succ, List.map_append]; rfl
theorem imgC_len (k : Nat) : (imgC k).length = k := by simp [imgC]
def smallR (x : Int) : Rec :=
  if (x % 1000003).toNat % 4 = 0 then ⟨2, x % 1000003, []⟩ else if (x % 1000003).toNat % 4 = 1 then ⟨1, 0, imgC (1 + (x % 1000003).toNat / 4 % 3)⟩ else ⟨1, x % 1000003, [(((x % 1000003).toNat % 50 : Nat), [], [(((x % 1000003).toNat % 4000 : Nat), madeL (x % 1000003) (1 + (x % 1000003).toNat % 60))])]⟩

/-- A struct of a record's three cells, as a result. -/
theorem RB3.cells {w : World} {g : Nat} {x0 x1 x2 : Value} (h : w.heap[g]? = some (.cells #[x0, x1, x2] 25 (0, 0))) : w.cell? ⟨g, 0, none⟩ = some x0 ∧ w.cell? ⟨g, 1, none⟩ = some x1 ∧ w.cell? ⟨g, 2, none⟩ = some x2 ∧ ∀ j, w.frozen? ⟨g, j, none⟩ = false :=
  ⟨by rw [cell_of_row w g 0 _ _ _ h]; rfl, by rw [cell_of_row w g 1 _ _ _ h]; rfl, by rw [cell_of_row w g 2 _ _ _ h]; rfl, fun j => by simp [World.frozen?, h]⟩

set_option maxRecDepth 100000 in
set_option maxHeartbeats 1000000 in
theorem commit6_any (x : Int) (w : World) :
    Calls Try.prog 25 #[.int .i64 x] w fun e w' => e = .returned (.agg #[.int .u8 2, .int .i64 x, .slice none 0 0]) ∧ Below w.heap.size w w' := by
  have hz := heap_alloc_new w (.cells #[.int .u8 2, .int .i64 x, .slice none 0 0] 25)
  have HBL := Lib.hid (gr_alloc (gr_refl w) (.cells #[.int .u8 2, .int .i64 x, .slice none 0 0] 25))
  go_enter Try.func25, Try.ntmps25
  go_wp2_with fail
  generalize w.alloc (.cells #[.int .u8 2, .int .i64 x, .slice none 0 0] 25) = wf at *
  obtain ⟨z0, z1, z2, _⟩ := RB3.cells hz
  refine bodyPost_ret (v := .agg #[.int .u8 2, .int .i64 x, .slice none 0 0]) (by simp [results, Try.results25, go_sem, z0, z1, z2]) rfl ?_
  exact ⟨rfl, HBL.out⟩

/-- The record that is being made. -/
structure IQ (w wr : World) (v : Value) (acc : List Ch) : Prop where
  r : wr.heap[w.heap.size]? = some (.cells #[.int .u8 0, .int .i64 0, .slice none 0 0] 25 (0, 0))
  o : wr.heap[w.heap.size + 1]? = some (.cells #[.int .u8 1, .int .i64 0, v] 25 (0, 0))
  row : OCW wr w.heap.size v acc
  bel : Below w.heap.size w wr
section
variable {w wr w4 : World} {v v4 : Value} {acc : List Ch}
theorem IQ.below (h : IQ w wr v acc) (hb : Below wr.heap.size wr w4) : IQ w w4 v acc :=
  ⟨(hb.block _ (Array.getElem?_eq_some_iff.1 h.r).1).trans h.r, (hb.block _ (Array.getElem?_eq_some_iff.1 h.o).1).trans h.o, h.row.below hb, gr_trans h.bel hb⟩
theorem IQ.push (h : IQ w wr v acc) {us : List (Int × Value × Value)} (r1 : wr.ownsRow w.heap.size 86 3 v acc.length (chs us)) (r2 : us.length = acc.length) (r3 : ∀ (i : Nat) (p : Ch) (q : Int × Value × Value), acc[i]? = some p → us[i]? = some q → q.1 = p.1 ∧ OB wr w.heap.size q.2.1 p.2.1 ∧ OW wr w.heap.size q.2.2 p.2.2) {a : Int} {u1 u2 : Value} {l : List UInt8} {ps : List Pc} (hu : OB wr w.heap.size u1 l) (hu2 : OW wr w.heap.size u2 ps)
    (ho : w4.ownsRow w.heap.size 86 3 v4 (acc.length + 1) (chs us ++ [.int .i64 a, u1, u2])) (hg : wr.grownBy w4 v.ownBlock) :
    w4.cell? ⟨w.heap.size + 1, 2, none⟩ = some v ∧ (∀ j, w4.frozen? ⟨w.heap.size + 1, j, none⟩ = false) ∧ IQ w (w4.setCell ⟨w.heap.size + 1, 2, none⟩ v4) v4 (acc ++ [(a, l, ps)]) := by
  have o : Off (fun k => v.ownBlock = some k) wr w4 := Off.of_grown hg (fun _ e => e)
  have hne : ∀ {j : Nat} {cs : Array Value}, wr.heap[j]? = some (.cells cs 25 (0, 0)) → w4.heap[j]? = some (.cells cs 25 (0, 0)) := fun {j cs} hj =>
    (o.block j (Array.getElem?_eq_some_iff.1 hj).1 (fun e => by
      obtain ⟨cur, hc⟩ := own_blk r1 e
      exact cells_ne hc hj (by decide))).trans hj
  have hr := hne h.r
  have hc4 := hne h.o
  have o5 : Off (fun k => k = w.heap.size + 1) w4 (w4.setCell ⟨w.heap.size + 1, 2, none⟩ v4) := (Off.refl (fun k => k = w.heap.size + 1) w4).setCell _ rfl
  refine ⟨by rw [cell_of_row w4 _ 2 _ _ _ hc4]; rfl, fun j => by simp [World.frozen?, hc4], ?_, ?_, ?_, ?_⟩
  · exact (o5.block _ (Array.getElem?_eq_some_iff.1 hr).1 (by omega)).trans hr
  · simp only [World.setCell, Array.getElem?_modify, if_pos, hc4]
    rfl
  · have q := OCW.push (w4 := w4) r2 r3 hu hu2 hg (fun k hk => own_blk r1 hk) ho
    exact q.ty o5 (fun k e => by subst e; exact ⟨_, _, _, hc4, by decide, by decide, by decide⟩)
  · exact (gr_own h.bel r1 hg).setCell (by simp) _
end

set_option maxRecDepth 100000 in
set_option maxHeartbeats 8000000 in
theorem images_any (n : Nat) (w : World) (hn : n ≤ 1000) :
    Calls Try.prog 24 #[.int .i64 (n : Int)] w fun e w' => ∃ v, e = .returned (.agg #[.int .u8 1, .int .i64 0, v]) ∧ OCW w' w.heap.size v (imgC n) ∧ Below w.heap.size w w' := by
  obtain ⟨i1, hi1, hy0, hy1, hy2⟩ := info_parts info_change
  have hq : IQ w ((w.alloc (.cells #[.int .u8 0, .int .i64 0, .slice none 0 0] 25)).alloc (.cells #[.int .u8 1, .int .i64 0, .slice none 0 0] 25)) (.slice none 0 0) [] := by
    have b1 := gr_alloc (gr_refl w) (.cells #[.int .u8 0, .int .i64 0, .slice none 0 0] 25)
    have x1 := heap_alloc_new w (.cells #[.int .u8 0, .int .i64 0, .slice none 0 0] 25)
    generalize hw1 : w.alloc (.cells #[.int .u8 0, .int .i64 0, .slice none 0 0] 25) = w1 at *
    have s1 : w1.heap.size = w.heap.size + 1 := by rw [← hw1, World.size_alloc]
    have b2 := gr_alloc (gr_refl w1) (.cells #[.int .u8 1, .int .i64 0, .slice none 0 0] 25)
    have x2 := heap_alloc_new w1 (.cells #[.int .u8 1, .int .i64 0, .slice none 0 0] 25)
    rw [s1] at x2
    exact ⟨(b2.block _ (Array.getElem?_eq_some_iff.1 x1).1).trans x1, x2, OCW.nil _ _, gr_trans b1 b2⟩
  have HQ0 := Lib.hid hq
  clear hq
  go_enter Try.func24, Try.ntmps24
  go_wp2_with fail
  generalize (w.alloc (.cells #[.int .u8 0, .int .i64 0, .slice none 0 0] 25)).alloc (.cells #[.int .u8 1, .int .i64 0, .slice none 0 0] 25) = w0 at *
  go_loopw [4] (fun i wr => ∃ (j : Nat) (v : Value), j ≤ n ∧ i = .int .i64 j ∧ Hid (IQ w wr v (imgC j))) (fun i _ => n - (intOf i).toNat)
  case atStart => exact ⟨0, _, Nat.zero_le _, rfl, HQ0⟩
  case round =>
    clear HQ0
    obtain ⟨j, v, hj, rfl, HQ⟩ := hrel
    by_cases hlt : j < n
    · have t2 : decide (j < n) = true := decide_eq_true hlt
      have HT := Lib.hid (imgC_snoc j)
      have HTL := Lib.hid (imgC_len j)
      have HML := Lib.hid (madeL_len (j : Int) 4080)
      have HMD := Lib.hid (fun W => Made_any (j : Int) 4080 W (by omega))
      generalize madeL (j : Int) 4080 = img at *
      have i4 : (0 : Int) ≤ (j : Int) := Int.natCast_nonneg _
      have C3 := Lib.hid (show wr.drew.cell? ⟨w.heap.size + 1, 2, none⟩ = some v from (RB3.cells HQ.out.o).2.2.1)
      have HQd : Hid (IQ w wr.drew v (imgC j)) := Lib.hid (HQ.out.below (gr_drewN (gr_refl wr) 1))
      have HBase : Hid (w.heap.size ≤ wr.drew.heap.size) := Lib.hid HQd.out.bel.size
      obtain ⟨Av, cv, hv, _, _⟩ := own_form HQd.out.row.choose_spec.1
      rw [HTL.out] at hv
      subst hv
      have HLT := Lib.hid hlt
      clear hlt HQ
      go_upto_region 5 with fail
      refine wp_region_any (by kernel_rfl) ?_
      refine' wpAny_to_tail (l0 := #[false, false, false, false, false, false, false, false, false, false]) (by kernel_rfl) (by kernel_rfl) (by kernel_rfl) (by kernel_rfl) (by kernel_rfl)
        [MP.is (.pointer (some ⟨w.heap.size + 1, 2, none⟩)), MP.is (.slice Av j cv), MP.is (.int .i64 (j : Int)), MP.is (.int .i64 (j : Int)), MP.ob w.heap.size img, MP.ch w.heap.size (j : Int) img [], MP.ch1 w.heap.size (j : Int) img [], MP.any, MP.is (.pointer (some ⟨w.heap.size + 1, 2, none⟩)), MP.any]
        (fun j => j == 7 || j == 8 || j == 9) #[true, true, true, true, true, true, true, false, false, false] rfl (by kernel_rfl) rfl (by kernel_rfl) (by kernel_rfl) (by kernel_rfl) (by kernel_rfl) (fun _ => undef) (by rfl) ?hR01 ?hAA1 ?hst1 ?hend1
      case hR01 =>
        intro j hj
        have hj2 : j ∈ [] := hj
        cases hj2
      case hAA1 =>
        intro f
        conv => lhs; simp only [putA, dstOf, List.size_toArray, List.length_cons, List.length_nil, Nat.zero_add, Nat.reduceAdd, List.getElem?_toArray, List.getElem?_cons_zero, List.getElem?_cons_succ, Option.bind_some, Act.put, List.setIfInBounds_toArray, List.set_cons_zero, List.set_cons_succ]
        first | done | exact rfl
      case hst1 =>
        refine Steps.of_list (l' := [0, 1, 2, 3, 4, 5, 6]) (by kernel_rfl) ?_
        refine Steps.cons rfl ?_ ?_
        · intro f wz hB h K Q hK
          clear h
          try simp only [List.getElem_toArray, List.getElem_cons_zero]
          try rw [if_pos (by rfl)]
          go_simp
          exact hK _ _ (gr_refl _) rfl
        refine Steps.cons rfl ?_ ?_
        · intro f wz hB h K Q hK
          have h0 : (MP.is (.pointer (some ⟨w.heap.size + 1, 2, none⟩))).p (f 0) wz := h 0 (by kernel_rfl)
          have e0 : f 0 = (.pointer (some ⟨w.heap.size + 1, 2, none⟩)) := h0
          simp only [e0] at hK ⊢
          clear e0
          clear h
          try simp only [List.getElem_toArray, List.getElem_cons_succ, List.getElem_cons_zero]
          try rw [if_pos (by rfl)]
          have y0 := keep_of_below hB C3.out
          go_simp
          exact hK _ _ (gr_refl _) rfl
        refine Steps.cons rfl ?_ ?_
        · intro f wz hB h K Q hK
          clear h
          try simp only [List.getElem_toArray, List.getElem_cons_succ, List.getElem_cons_zero]
          try rw [if_pos (by rfl)]
          go_simp
          exact hK _ _ (gr_refl _) rfl
        refine Steps.cons rfl ?_ ?_
        · intro f wz hB h K Q hK
          clear h
          try simp only [List.getElem_toArray, List.getElem_cons_succ, List.getElem_cons_zero]
          try rw [if_pos (by rfl)]
          go_simp
          exact hK _ _ (gr_refl _) rfl
        refine Steps.cons rfl ?_ ?_
        · intro f wz hB h K Q hK
          have h3 : (MP.is (.int .i64 (j : Int))).p (f 3) wz := h 3 (by kernel_rfl)
          have e3 : f 3 = (.int .i64 (j : Int)) := h3
          simp only [e3] at hK ⊢
          clear e3
          clear h
          try simp only [List.getElem_toArray, List.getElem_cons_succ, List.getElem_cons_zero]
          try rw [if_pos (by rfl)]
          go_simp
          refine (HMD.out wz).mono ?_
          rintro e w5 ⟨rfl, ob5, hb5⟩
          exact hK _ _ hb5 ⟨_, 4080, by rw [HML.out], by have hq := ob5.own (Nat.le_trans HBase.out hB.size) (by rw [HML.out]; simp only [maxLen]; omega); rwa [show (4080 : Nat) = List.length img from HML.out.symm]⟩
        refine Steps.cons rfl ?_ ?_
        · intro f wz hB h K Q hK
          have h2 : (MP.is (.int .i64 (j : Int))).p (f 2) wz := h 2 (by kernel_rfl)
          have e2 : f 2 = (.int .i64 (j : Int)) := h2
          have h4 : (MP.ob w.heap.size img).p (f 4) wz := h 4 (by kernel_rfl)
          obtain ⟨A4, c4, e4, q4⟩ := h4
          simp only [e2, e4] at hK ⊢
          clear e2 e4
          clear h
          try simp only [List.getElem_toArray, List.getElem_cons_succ, List.getElem_cons_zero]
          try rw [if_pos (by rfl)]
          go_simp
          exact hK _ _ (gr_refl _) ⟨A4, c4, none, 0, rfl, q4, OW.nil _ _⟩
        refine Steps.cons rfl ?_ ?_
        · intro f wz hB h K Q hK
          have h5 : (MP.ch w.heap.size (j : Int) img []).p (f 5) wz := h 5 (by kernel_rfl)
          obtain ⟨A5, c5, D5, d5, e5, r5, q5⟩ := h5
          simp only [e5] at hK ⊢
          clear e5
          clear h
          try simp only [List.getElem_toArray, List.getElem_cons_succ, List.getElem_cons_zero]
          try rw [if_pos (by rfl)]
          go_simp
          have hbn := gr_alloc (gr_refl wz) (.cells #[.int .i64 (j : Int), .slice A5 img.length c5, .slice D5 0 d5] 86)
          exact hK _ _ hbn ⟨_, A5, c5, D5, d5, rfl, Rd.new wz _ #[.int .i64 (j : Int), .slice A5 img.length c5, .slice D5 0 d5] 1 3 rfl, r5.below hbn, q5.below hbn⟩
        exact Steps.nil
      intro f w2 hB2 hR
      conv => arg 7; simp only [putL, dstOf, List.size_toArray, List.length_cons, List.length_nil, Nat.zero_add, Nat.reduceAdd, List.getElem?_toArray, List.getElem?_cons_zero, List.getElem?_cons_succ, Option.bind_some, Act.put, List.setIfInBounds_toArray, List.set_cons_zero, List.set_cons_succ, Array.getD_eq_getD_getElem?, Option.getD_some, if_true, if_false, Bool.false_eq_true]
      have e0 : f 0 = (.pointer (some ⟨w.heap.size + 1, 2, none⟩)) := hR 0 (by decide) rfl
      have e1 : f 1 = (.slice Av j cv) := hR 1 (by decide) rfl
      have e2 : f 2 = (.int .i64 (j : Int)) := hR 2 (by decide) rfl
      have e3 : f 3 = (.int .i64 (j : Int)) := hR 3 (by decide) rfl
      obtain ⟨A42, c42, e4, q42⟩ := (show (MP.ob w.heap.size img).p (f 4) w2 from hR 4 (by decide) rfl)
      obtain ⟨A52, c52, D52, d52, e5, r52, q52⟩ := (show (MP.ch w.heap.size (j : Int) img []).p (f 5) w2 from hR 5 (by decide) rfl)
      obtain ⟨g62, A62, c62, D62, d62, e6, z62, r62, q62⟩ := (show (MP.ch1 w.heap.size (j : Int) img []).p (f 6) w2 from hR 6 (by decide) rfl)
      simp only [e0, e1, e2, e3, e4, e5, e6]
      clear e0 e1 e2 e3 e4 e5 e6 hR
      have HQ2 : Hid (IQ w w2 (.slice Av j cv) (imgC j)) := Lib.hid (HQd.out.below hB2)
      obtain ⟨us, q1, q2, q3⟩ := HQ2.out.row
      have hjm : (imgC j).length = j := HTL.out
      refine wpAny_of_held (S := fun _ => True) _ _ _ _ ?_
      refine wpAnyH_ready (rs := [7]) (by kernel_rfl) (by simp) ?_
      refine AllReadyH.cons rfl (fun KK hK => ?_) AllReadyH.nil
      try simp only [List.getElem_toArray, List.getElem_cons_succ, List.getElem_cons_zero]
      rw [if_pos (by rfl)]
      refine wp_append_Rd _ (.tmp 12) (.tmp 17) _ rfl w.heap.size 86 i1 _ 3 56 Try.underlying23 hi1 hy0 hy1 hy2 rfl (.slice Av j cv) j (chs us) rfl (by rw [hjm] at q1; exact q1) (some ⟨g62, 0, none⟩) 1 1 [.int .i64 (j : Int), .slice A62 img.length c62, .slice D62 0 d62] rfl z62 (by simp [Value.oneCell']) (by omega) (by simp only [maxLen]; omega) HQ2.out.bel.size ?_
      intro v8 w8 ho8 hg8 _ _
      obtain ⟨y8, z8, cq8⟩ := HQ2.out.push q1 q2 q3 r62 q62 (by rw [hjm]; exact ho8) hg8
      obtain ⟨A8, c8, rfl, _, _⟩ := own_form ho8
      have z8' := z8 2
      have HC8 := Lib.hid cq8
      clear ho8 hg8 z8 cq8 q1 q2 q3 hjm
      refine hK.out _ _ trivial (fun _ => ?_)
      clear hK KK
      try simp only [Act.put, List.setIfInBounds_toArray, List.set_cons_zero, List.set_cons_succ]
      refine wpAnyH_ready (rs := [8]) (by kernel_rfl) (by simp) ?_
      refine AllReadyH.cons rfl (fun KK hK => ?_) AllReadyH.nil
      try simp only [List.getElem_toArray, List.getElem_cons_succ, List.getElem_cons_zero]
      go_simp
      refine hK.out _ _ trivial (fun _ => ?_)
      clear hK KK
      try simp only [List.setIfInBounds_toArray, List.set_cons_zero, List.set_cons_succ]
      refine wpAnyH_ready (rs := [9]) (by kernel_rfl) (by simp) ?_
      refine AllReadyH.cons rfl (fun KK hK => ?_) AllReadyH.nil
      try simp only [List.getElem_toArray, List.getElem_cons_succ, List.getElem_cons_zero]
      go_simp
      refine hK.out _ _ trivial (fun _ => ?_)
      clear hK KK
      try simp only [List.setIfInBounds_toArray, List.set_cons_zero, List.set_cons_succ]
      refine wpAnyH_done (by kernel_rfl) ?_ _
      go_wp2_with fail
      go_roundw
      case rel => exact ⟨j + 1, _, HLT.out, by go_num, Lib.hid (by rw [HT.out]; exact HC8.out)⟩
      case measure => simp [intOf]; have := HLT.out; omega
    · obtain rfl : j = n := by omega
      have t1 : decide (j < j) = false := decide_eq_false (by omega)
      obtain ⟨o0, o1, o2, _⟩ := RB3.cells HQ.out.o
      obtain ⟨r0, r1, r2, hfz⟩ := RB3.cells HQ.out.r
      have g0 := hfz 0
      have g1 := hfz 1
      have g2 := hfz 2
      obtain ⟨Av, cv, hv, _, _⟩ := own_form HQ.out.row.choose_spec.1
      rw [imgC_len] at hv
      subst hv
      have HFIN : Hid (∀ w2, w2 = ((wr.setCell ⟨w.heap.size, 0, none⟩ (.int .u8 1)).setCell ⟨w.heap.size, 1, none⟩ (.int .i64 0)).setCell ⟨w.heap.size, 2, none⟩ (.slice Av j cv) →
          w2.heap[w.heap.size]? = some (.cells #[.int .u8 1, .int .i64 0, .slice Av j cv] 25 (0, 0)) ∧ OCW w2 w.heap.size (.slice Av j cv) (imgC j) ∧ Below w.heap.size w w2) := Lib.hid (by
        rintro w2 rfl
        have o : Off (fun k => k = w.heap.size) wr (((wr.setCell ⟨w.heap.size, 0, none⟩ (.int .u8 1)).setCell ⟨w.heap.size, 1, none⟩ (.int .i64 0)).setCell ⟨w.heap.size, 2, none⟩ (.slice Av j cv)) := (((Off.refl (fun k => k = w.heap.size) wr).setCell _ rfl).setCell _ rfl).setCell _ rfl
        exact ⟨rec_put HQ.out.r _ _ _, HQ.out.row.ty o (fun k e => by subst e; exact ⟨_, _, _, HQ.out.r, by decide, by decide, by decide⟩), ((HQ.out.bel.setCell (by simp) _).setCell (by simp) _).setCell (by simp) _⟩)
      clear HQ hfz
      go_wp2_with fail
      obtain ⟨f1, f2, f3⟩ := HFIN.out _ rfl
      clear HFIN o0 o1 o2 r0 r1 r2 g0 g1 g2
      generalize ((wr.setCell ⟨w.heap.size, 0, none⟩ (.int .u8 1)).setCell ⟨w.heap.size, 1, none⟩ (.int .i64 0)).setCell ⟨w.heap.size, 2, none⟩ (.slice Av j cv) = wf at *
      obtain ⟨z0, z1, z2, _⟩ := RB3.cells f1
      refine bodyPost_ret (v := .agg #[.int .u8 1, .int .i64 0, (.slice Av j cv)]) (by simp [results, Try.results24, go_sem, z0, z1, z2]) rfl ?_
      exact ⟨_, rfl, f2, f3⟩

theorem own_lit {w : World} {g base n size : Nat} {e : TypeId} {cur : Array Value} (h : w.heap[g]? = some (.cells cur e (0, 0))) (hs : cur.size = n * size) (hb : base ≤ g) (hn : n ≤ maxLen) : w.ownsRow base e size (.slice (some ⟨g, 0, none⟩) n n) n cur.toList :=
  ⟨by simp [hs], .inr ⟨g, n, cur, rfl, hb, h, Nat.le_refl _, hn, hs, List.take_of_length_le (by simp [hs])⟩⟩
theorem OW.lit1 {w : World} {g base : Nat} {a : Int} {u : Value} {l : List UInt8} (h : w.heap[g]? = some (.cells #[.int .i64 a, u] 83 (0, 0))) (hb : base ≤ g) (hu : OB w base u l) : OW w base (.slice (some ⟨g, 0, none⟩) 1 1) [(a, l)] := by
  refine ⟨[(a, u)], own_lit h rfl hb (by simp [maxLen]), rfl, fun i p q hp hq => ?_⟩
  cases i with
  | zero => simp at hp hq; subst hp hq; exact ⟨rfl, hu⟩
  | succ i => simp at hp
theorem OCW.lit1 {w : World} {g base : Nat} {a : Int} {u1 u2 : Value} {l : List UInt8} {ps : List Pc} (h : w.heap[g]? = some (.cells #[.int .i64 a, u1, u2] 86 (0, 0))) (hb : base ≤ g) (hu : OB w base u1 l) (hu2 : OW w base u2 ps) : OCW w base (.slice (some ⟨g, 0, none⟩) 1 1) [(a, l, ps)] := by
  refine ⟨[(a, u1, u2)], own_lit h rfl hb (by simp [maxLen]), rfl, fun i p q hp hq => ?_⟩
  cases i with
  | zero => simp at hp hq; subst hp hq; exact ⟨rfl, hu, hu2⟩
  | succ i => simp at hp
/-- A record put into the result's block. -/
theorem rec_out {w w1 : World} {base : Nat} {k : Int} {tx : Int} {v : Value} {cs : List Ch} (hb : Below w.heap.size w w1) (hz : w1.heap[w.heap.size]? = some (.cells #[.int .u8 0, .int .i64 0, .slice none 0 0] 25 (0, 0))) (ho : OCW w1 base v cs) : ∀ w2, w2 = ((w1.setCell ⟨w.heap.size, 0, none⟩ (.int .u8 k)).setCell ⟨w.heap.size, 1, none⟩ (.int .i64 tx)).setCell ⟨w.heap.size, 2, none⟩ v →
    w2.heap[w.heap.size]? = some (.cells #[.int .u8 k, .int .i64 tx, v] 25 (0, 0)) ∧ OCW w2 base v cs ∧ Below w.heap.size w w2 := by
  rintro w2 rfl
  have o : Off (fun k => k = w.heap.size) w1 (((w1.setCell ⟨w.heap.size, 0, none⟩ (.int .u8 k)).setCell ⟨w.heap.size, 1, none⟩ (.int .i64 tx)).setCell ⟨w.heap.size, 2, none⟩ v) := (((Off.refl (fun k => k = w.heap.size) w1).setCell _ rfl).setCell _ rfl).setCell _ rfl
  exact ⟨rec_put hz _ _ _, ho.ty o (fun k e => by subst e; exact ⟨_, _, _, hz, by decide, by decide, by decide⟩), ((hb.setCell (by simp) _).setCell (by simp) _).setCell (by simp) _⟩

set_option maxRecDepth 100000 in
set_option maxHeartbeats 4000000 in
theorem small_any (x : Int) (w : World) :
    Calls Try.prog 20 #[.int .i64 x] w fun e w' => ∃ v, e = .returned (.agg #[.int .u8 ((smallR x).kind : Int), .int .i64 (smallR x).tx, v]) ∧ OCW w' w.heap.size v (smallR x).cs ∧ Below w.heap.size w w' := by
  have b1 := gr_alloc (gr_refl w) (.cells #[.int .u8 0, .int .i64 0, .slice none 0 0] 25)
  have x1 := heap_alloc_new w (.cells #[.int .u8 0, .int .i64 0, .slice none 0 0] 25)
  obtain ⟨m, hm⟩ : ∃ m : Nat, x % 1000003 = (m : Int) := ⟨(x % 1000003).toNat, by omega⟩
  have hml : m < 1000003 := by omega
  have HP := Lib.hid (fun W => Pick_any x 1000003 W (by omega) (by omega))
  rw [hm] at HP
  have HS : Hid (smallR x = if m % 4 = 0 then ⟨2, (m : Int), []⟩ else if m % 4 = 1 then ⟨1, 0, imgC (1 + m / 4 % 3)⟩ else ⟨1, (m : Int), [((m % 50 : Nat), [], [((m % 4000 : Nat), madeL (m : Int) (1 + m % 60))])]⟩) := Lib.hid (by unfold smallR; rw [hm]; rfl)
  generalize smallR x = sr at *
  clear hm
  obtain ⟨q, hq⟩ : ∃ q : Nat, q = m % 4 := ⟨_, rfl⟩
  have hq4 : q < 4 := by omega
  have hqi : Int.tmod (m : Int) 4 = (q : Int) := by rw [Int.tmod_eq_emod_of_nonneg (by omega)]; omega
  rw [← hq] at HS
  have hqi2 : (m : Int) % 4 = (q : Int) := by omega
  generalize hw1 : w.alloc (.cells #[.int .u8 0, .int .i64 0, .slice none 0 0] 25) = w1 at *
  have HW1 := Lib.hid hw1
  have HB1 := Lib.hid b1
  have HX1 := Lib.hid x1
  clear hq b1 x1
  subst hw1
  go_enter Try.func20, Try.ntmps20
  go_wp2_with fail
  refine (HP.out _).mono ?_
  rintro e w2 ⟨rfl, rfl⟩
  obtain ⟨w1, hw1⟩ : ∃ w1, w1 = w.alloc (.cells #[.int .u8 0, .int .i64 0, .slice none 0 0] 25) := ⟨_, rfl⟩
  rw [← hw1] at HB1 HX1 ⊢
  clear hw1 HW1
  by_cases h0 : q = 0
  · have t0 : ((q : Int) == 0) = true := beq_iff_eq.2 (by omega)
    have HE : Hid (sr = ⟨2, (m : Int), []⟩) := Lib.hid (by rw [HS.out, if_pos h0])
    clear h0
    go_wp2_with fail
    refine (commit6_any (m : Int) w1).mono ?_
    rintro e w3 ⟨rfl, hb3⟩
    have HX3 := Lib.hid ((hb3.block _ (Array.getElem?_eq_some_iff.1 HX1.out).1).trans HX1.out)
    have HFIN := Lib.hid (rec_out (base := w.heap.size) (k := 2) (tx := (m : Int)) (gr_trans HB1.out hb3) HX3.out (OCW.nil w3 w.heap.size))
    obtain ⟨r0, r1, r2, hfz⟩ := RB3.cells HX3.out
    have g0 := hfz 0
    have g1 := hfz 1
    have g2 := hfz 2
    clear hb3 hfz
    go_wp2_with fail
    obtain ⟨f1, f2, f3⟩ := HFIN.out _ rfl
    clear HFIN r0 r1 r2 g0 g1 g2
    generalize ((w3.setCell ⟨w.heap.size, 0, none⟩ (.int .u8 2)).setCell ⟨w.heap.size, 1, none⟩ (.int .i64 (m : Int))).setCell ⟨w.heap.size, 2, none⟩ (.slice none 0 0) = wf at *
    obtain ⟨z0, z1, z2, _⟩ := RB3.cells f1
    refine bodyPost_ret (v := .agg #[.int .u8 2, .int .i64 (m : Int), .slice none 0 0]) (by simp [results, Try.results20, go_sem, z0, z1, z2]) rfl ?_
    rw [HE.out]
    exact ⟨_, rfl, f2, f3⟩
  · have t0 : ((q : Int) == 0) = false := beq_eq_false_iff_ne.2 (by omega)
    by_cases h1 : q = 1
    · have t1 : ((q : Int) == 1) = true := beq_iff_eq.2 (by omega)
      obtain ⟨n, hn⟩ : ∃ n : Nat, n = 1 + m / 4 % 3 := ⟨_, rfl⟩
      have HE : Hid (sr = ⟨1, 0, imgC n⟩) := Lib.hid (by rw [HS.out, if_neg h0, if_pos h1, hn])
      have hnb : n ≤ 3 := by omega
      obtain ⟨d, hd⟩ : ∃ d : Nat, d = m / 4 := ⟨_, rfl⟩
      obtain ⟨t, ht⟩ : ∃ t : Nat, t = d % 3 := ⟨_, rfl⟩
      have e1 : Int.tdiv (m : Int) 4 = (d : Int) := by rw [Int.tdiv_eq_ediv_of_nonneg (by omega)]; omega
      have e2 : (m : Int) / 4 = (d : Int) := by omega
      have e3 : Int.tmod (d : Int) 3 = (t : Int) := by rw [Int.tmod_eq_emod_of_nonneg (by omega)]; omega
      have e4 : (d : Int) % 3 = (t : Int) := by omega
      have e5 : 1 + (t : Int) = (n : Int) := by omega
      clear hd ht
      clear h0 h1 hn
      go_wp2_with fail
      refine (images_any n w1 (by omega)).mono ?_
      rintro e w3 ⟨v3, rfl, oc3, hb3⟩
      obtain ⟨A3, c3, rfl, _, _, _⟩ := oc3.cr
      have HX3 := Lib.hid ((hb3.block _ (Array.getElem?_eq_some_iff.1 HX1.out).1).trans HX1.out)
      have HFIN := Lib.hid (rec_out (k := 1) (tx := 0) (gr_trans HB1.out hb3) HX3.out (oc3.lower HB1.out.size))
      generalize (imgC n).length = L3 at *
      obtain ⟨r0, r1, r2, hfz⟩ := RB3.cells HX3.out
      have g0 := hfz 0
      have g1 := hfz 1
      have g2 := hfz 2
      clear hb3 hfz oc3
      go_wp2_with fail
      obtain ⟨f1, f2, f3⟩ := HFIN.out _ rfl
      clear HFIN r0 r1 r2 g0 g1 g2
      generalize ((w3.setCell ⟨w.heap.size, 0, none⟩ (.int .u8 1)).setCell ⟨w.heap.size, 1, none⟩ (.int .i64 0)).setCell ⟨w.heap.size, 2, none⟩ (.slice A3 L3 c3) = wf at *
      obtain ⟨z0, z1, z2, _⟩ := RB3.cells f1
      refine bodyPost_ret (v := .agg #[.int .u8 1, .int .i64 0, .slice A3 L3 c3]) (by simp [results, Try.results20, go_sem, z0, z1, z2]) rfl ?_
      rw [HE.out]
      exact ⟨_, rfl, f2, f3⟩
    · have t1 : ((q : Int) == 1) = false := beq_eq_false_iff_ne.2 (by omega)
      obtain ⟨n, hn⟩ : ∃ n : Nat, n = 1 + m % 60 := ⟨_, rfl⟩
      obtain ⟨a, ha⟩ : ∃ a : Nat, a = m % 50 := ⟨_, rfl⟩
      obtain ⟨b, hb⟩ : ∃ b : Nat, b = m % 4000 := ⟨_, rfl⟩
      have HE : Hid (sr = ⟨1, (m : Int), [((a : Nat), [], [((b : Nat), madeL (m : Int) n)])]⟩) := Lib.hid (by rw [HS.out, if_neg h0, if_neg h1, hn, ha, hb])
      have hnb : n ≤ 60 := by omega
      have e1 : (m : Int) % 50 = (a : Int) := by omega
      have e2 : (m : Int) % 4000 = (b : Int) := by omega
      have e3 : 1 + (m : Int) % 60 = (n : Int) := by omega
      have HML := Lib.hid (madeL_len (m : Int) n)
      have HMD := Lib.hid (fun W => Made_any (m : Int) n W (by omega))
      generalize madeL (m : Int) n = img at *
      clear h0 h1 hn ha hb
      go_wp2_with fail
      refine (HMD.out w1).mono ?_
      rintro e w3 ⟨rfl, bb3, hb3⟩
      generalize hg3 : w1.heap.size = g3 at *
      have hp3 : w.heap.size ≤ g3 := by rw [← hg3]; exact HB1.out.size
      have ob3 := bb3.own hp3 (by rw [HML.out]; simp only [maxLen]; omega)
      rw [HML.out] at ob3
      rw [← hg3] at hb3
      have HB3 := Lib.hid (gr_trans HB1.out hb3)
      have HX3 := Lib.hid ((hb3.block _ (Array.getElem?_eq_some_iff.1 HX1.out).1).trans HX1.out)
      have b4 := gr_alloc (gr_refl w3) (.cells #[.int .i64 (b : Int), .slice (some ⟨g3, 0, none⟩) n n] 83)
      have x4 := heap_alloc_new w3 (.cells #[.int .i64 (b : Int), .slice (some ⟨g3, 0, none⟩) n n] 83)
      have s4 : (w3.alloc (.cells #[.int .i64 (b : Int), .slice (some ⟨g3, 0, none⟩) n n] 83)).heap.size = w3.heap.size + 1 := World.size_alloc _ _
      have HW4 := Lib.hid (OW.lit1 x4 HB3.out.size (ob3.below b4))
      have HB4 := Lib.hid (gr_trans HB3.out b4)
      have HX4 := Lib.hid ((b4.block _ (Array.getElem?_eq_some_iff.1 HX3.out).1).trans HX3.out)
      generalize hw4 : w3.alloc (.cells #[.int .i64 (b : Int), .slice (some ⟨g3, 0, none⟩) n n] 83) = w4 at *
      have b5 := gr_alloc (gr_refl w4) (.cells #[.int .i64 (a : Int), .slice none 0 0, .slice (some ⟨w3.heap.size, 0, none⟩) 1 1] 86)
      have x5 := heap_alloc_new w4 (.cells #[.int .i64 (a : Int), .slice none 0 0, .slice (some ⟨w3.heap.size, 0, none⟩) 1 1] 86)
      have oc5 := OCW.lit1 x5 HB4.out.size (OB.nil _ _) (HW4.out.below b5)
      have HX5 := Lib.hid ((b5.block _ (Array.getElem?_eq_some_iff.1 HX4.out).1).trans HX4.out)
      have HFIN := Lib.hid (rec_out (k := 1) (tx := (m : Int)) (gr_trans HB4.out b5) HX5.out oc5)
      obtain ⟨r0, r1, r2, hfz⟩ := RB3.cells HX5.out
      have g0 := hfz 0
      have g1 := hfz 1
      have g2 := hfz 2
      rw [s4] at HFIN
      subst hw4
      clear hb3 hfz oc5 b4 b5 x4 x5 ob3 bb3 hg3 hp3
      go_wp2_with fail
      obtain ⟨f1, f2, f3⟩ := HFIN.out _ rfl
      obtain ⟨z0, z1, z2, _⟩ := RB3.cells f1
      refine bodyPost_ret (v := .agg #[.int .u8 1, .int .i64 (m : Int), .slice (some ⟨w3.heap.size + 1, 0, none⟩) 1 1]) (by simp [results, Try.results20, go_sem, z0, z1, z2]) rfl ?_
      rw [HE.out]
      exact ⟨_, rfl, f2, f3⟩

end Go.Proofs.Ytlopcmmbkfjidaa

/-! PlJ -/
namespace Go.Proofs.Ytlopcmmbkfjidaa
open Go Go.RowKit

theorem open_seal (a p : List UInt8) (ha : a.length = 8) (hp : p.length = 4080) : openP (a ++ p ++ a) = p ∧ openS (a ++ p ++ a) = leN a ∧ openE (a ++ p ++ a) = 0 := by
  have h1 : (a ++ p ++ a).take 8 = a := by rw [List.append_assoc]; exact List.take_left' ha
  have h2 : (a ++ p ++ a).drop 4088 = a := List.drop_left' (by rw [List.length_append, ha, hp])
  have h3 : ((a ++ p ++ a).drop 8).take 4080 = p := by rw [List.append_assoc, List.drop_left' ha]; exact List.take_left' hp
  have hs : sealed (a ++ p ++ a) = true := by unfold sealed; rw [h1, h2]; simp
  unfold openP openS openE
  rw [hs, h1, h3]
  exact ⟨rfl, rfl, rfl⟩

/-- A torn block that is neither of the two is refused. -/
theorem torn_not (a b p q t : List UInt8) (cut : Nat) (ha : a.length = 8) (hb : b.length = 8) (hp : p.length = 4080) (hq : q.length = 4080) (hab : a ≠ b) (hc : cut ≤ 4096)
    (ht : t = (b ++ q ++ b).take cut ++ (a ++ p ++ a).drop cut) (hx : t ≠ a ++ p ++ a) (hy : t ≠ b ++ q ++ b) : sealed t = false := by
  have lx : (a ++ p ++ a).length = 4096 := by simp only [List.length_append]; omega
  have ly : (b ++ q ++ b).length = 4096 := by simp only [List.length_append]; omega
  have ltk : ((b ++ q ++ b).take cut).length = cut := by rw [List.length_take]; omega
  have x8 : (a ++ p ++ a).take 8 = a := by rw [List.append_assoc]; exact List.take_left' ha
  have y8 : (b ++ q ++ b).take 8 = b := by rw [List.append_assoc]; exact List.take_left' hb
  have xe : (a ++ p ++ a).drop 4088 = a := List.drop_left' (by rw [List.length_append]; omega)
  have ye : (b ++ q ++ b).drop 4088 = b := List.drop_left' (by rw [List.length_append]; omega)
  generalize a ++ p ++ a = x at *
  generalize b ++ q ++ b = y at *
  unfold sealed
  rw [beq_eq_false_iff_ne]
  intro hs
  by_cases h1 : cut < 8
  · -- the end is a: so the beginning is a too, and all is x
    have hd : t.drop 4088 = a := by
      rw [ht, List.drop_append, List.drop_eq_nil_of_le (by omega), List.nil_append, ltk, List.drop_drop, ← xe]
      congr 1
      omega
    have h2 : t.take cut = y.take cut := by rw [ht]; exact List.take_left' ltk
    have h3 : t.take cut = x.take cut := by
      have : (t.take 8).take cut = (x.take 8).take cut := by rw [hs, hd, x8]
      rwa [List.take_take, List.take_take, Nat.min_eq_left (by omega)] at this
    apply hx
    rw [ht, ← h2, h3, List.take_append_drop]
  · have hbeg : t.take 8 = b := by
      rw [ht, List.take_append, ltk, List.take_take, Nat.min_eq_left (by omega), y8]
      have : 8 - cut = 0 := by omega
      rw [this, List.take_zero, List.append_nil]
    by_cases h2 : cut ≤ 4088
    · have hd : t.drop 4088 = a := by
        rw [ht, List.drop_append, List.drop_eq_nil_of_le (by omega), List.nil_append, ltk, List.drop_drop, ← xe]
        congr 1
        omega
      exact hab (by rw [← hd, ← hs, hbeg])
    · have h3 : t.drop cut = x.drop cut := by rw [ht]; exact List.drop_left' ltk
      have h4 : t.drop cut = y.drop cut := by
        have e : cut = 4088 + (cut - 4088) := by omega
        rw [e, ← List.drop_drop, ← List.drop_drop, ← hs, hbeg, ye]
      apply hy
      rw [ht, ← h3, h4, List.take_append_drop]

theorem leB_inj {a b : Nat} (ha : a < 18446744073709551616) (hb : b < 18446744073709551616) (h : a ≠ b) : leB a 8 ≠ leB b 8 := by
  intro e
  apply h
  have := congrArg leN e
  rwa [leN_leB, leN_leB, Nat.mod_eq_of_lt (by omega), Nat.mod_eq_of_lt (by omega)] at this


theorem openS_seal (v : Nat) (p : List UInt8) (hv : v < 18446744073709551616) (hp : p.length ≤ 4080) : openP (sealL v p) = p ++ List.replicate (4080 - p.length) 0 ∧ openS (sealL v p) = v ∧ openE (sealL v p) = 0 := by
  have h := open_seal (leB v 8) (p ++ List.replicate (4080 - p.length) 0) (leB_length v 8) (by rw [List.length_append, List.length_replicate]; omega)
  refine ⟨h.1, ?_, h.2.2⟩
  show openS (leB v 8 ++ (p ++ List.replicate (4080 - p.length) 0) ++ leB v 8) = v
  rw [h.2.1, leN_leB, Nat.mod_eq_of_lt (by omega)]
theorem sN_seal (v : Nat) (b : List UInt8) (i : Nat) (hv : v < 18446744073709551616) (hi : i * 4076 ≤ b.length) (hb : b.length < 4294967296) : sN (sealL v (payL b i)) = b.length - i * 4076 := by
  unfold sN
  rw [(openS_seal v (payL b i) hv (payL_len b i)).1]
  unfold payL
  rw [List.append_assoc, List.take_left' (leB_length _ 4), leN_leB, Nat.mod_eq_of_lt (by omega)]
theorem cut_seal (v : Nat) (b : List UInt8) (i k : Nat) (hv : v < 18446744073709551616) (hk : k ≤ 4076) (hb : i * 4076 + k ≤ b.length) : ((openP (sealL v (payL b i))).drop 4).take k = (b.drop (i * 4076)).take k := by
  rw [(openS_seal v (payL b i) hv (payL_len b i)).1]
  unfold payL
  rw [List.append_assoc, List.drop_left' (leB_length _ 4), List.take_append_of_le_length (by rw [List.length_take, List.length_drop]; omega), List.take_take, Nat.min_eq_left hk]
theorem needL_iff {i n : Nat} : i < needL n ↔ i * 4076 < n := by
  unfold needL
  constructor
  · intro h; omega
  · intro h; omega

set_option maxRecDepth 100000 in
/-- A flush that is there is read. -/
theorem rdG_all {C : Nat → List UInt8} {V : Nat → Nat} {b : List UInt8} (hV : ∀ j, V j < 18446744073709551616) (hb : b.length < 4294967296) (hC : ∀ j, j < needL b.length → C j = sealL (V j) (payL b j)) : ∀ (f i : Nat), i < needL b.length → needL b.length ≤ i + f → rdG C V f i (b.length - i * 4076) (b.take (i * 4076)) = some b
  | 0, i, h1, h2 => by omega
  | f + 1, i, h1, h2 => by
    have hi := needL_iff.1 h1
    have hs := sN_seal (V i) b i (hV i) (by omega) hb
    have ho := openS_seal (V i) (payL b i) (hV i) (payL_len b i)
    rw [rdG_go (by rw [hC i h1]; exact ho.2.2) (by rw [hC i h1]; exact ho.2.1) (by rw [hC i h1, hs]; omega) (fun _ => by rw [hC i h1, hs]), hC i h1, hs]
    by_cases hl : b.length - i * 4076 ≤ 4076
    · rw [if_pos hl, cut_seal _ _ _ _ (hV i) hl (by omega), ← List.take_add, show i * 4076 + (b.length - i * 4076) = b.length by omega, List.take_length]
    · rw [if_neg hl, cut_seal _ _ _ _ (hV i) (Nat.le_refl _) (by omega), ← List.take_add, show b.length - i * 4076 - 4076 = b.length - (i + 1) * 4076 by omega, show i * 4076 + 4076 = (i + 1) * 4076 by omega]
      exact rdG_all hV hb hC f (i + 1) (needL_iff.2 (by omega)) (by omega)
/-- One of which a block is missing is not. -/
theorem rdG_gap {C : Nat → List UInt8} {V : Nat → Nat} {b : List UInt8} (hV : ∀ j, V j < 18446744073709551616) (hb : b.length < 4294967296) {m : Nat} (hm : m < needL b.length) (hC : ∀ j, j < m → C j = sealL (V j) (payL b j)) : ∀ (f i : Nat), i ≤ m → (i + f ≤ m ∨ openE (C m) ≠ 0 ∨ openS (C m) ≠ V m) → rdG C V f i (b.length - i * 4076) (b.take (i * 4076)) = none
  | 0, i, h1, h2 => rfl
  | f + 1, i, h1, h2 => by
    rcases Nat.lt_or_ge i m with h | h
    · have hi := needL_iff.1 (Nat.lt_trans h hm)
      have him := needL_iff.1 hm
      have hs := sN_seal (V i) b i (hV i) (by omega) hb
      have ho := openS_seal (V i) (payL b i) (hV i) (payL_len b i)
      rw [rdG_go (by rw [hC i h]; exact ho.2.2) (by rw [hC i h]; exact ho.2.1) (by rw [hC i h, hs]; omega) (fun _ => by rw [hC i h, hs]), hC i h, hs, if_neg (by have : i + 1 ≤ m := h; have : (i + 1) * 4076 ≤ m * 4076 := Nat.mul_le_mul_right _ this; omega), cut_seal _ _ _ _ (hV i) (Nat.le_refl _) (by have : i + 1 ≤ m := h; have : (i + 1) * 4076 ≤ m * 4076 := Nat.mul_le_mul_right _ this; omega), ← List.take_add, show b.length - i * 4076 - 4076 = b.length - (i + 1) * 4076 by omega, show i * 4076 + 4076 = (i + 1) * 4076 by omega]
      exact rdG_gap hV hb hm hC f (i + 1) h (h2.imp (fun h => by omega) (fun h => h))
    · obtain rfl : i = m := by omega
      rcases h2 with h2 | h2
      · omega
      · exact rdG_bad (.inl h2)
set_option maxRecDepth 100000 in
theorem rd_there {C : Nat → List UInt8} {V : Nat → Nat} {f : List Rec} (hf : f ≠ []) (hr : ∀ r ∈ f, r.right = true) (hV : ∀ j, V j < 18446744073709551616) (hb : (joinE f).length < 4294967296) (hC : ∀ j, j < needL (joinE f).length → C j = sealL (V j) (payL (joinE f) j)) {room : Nat} (hroom : needL (joinE f).length ≤ room) : rdN (rdG C V room 0 0 []) = needL (joinE f).length ∧ rdR (rdG C V room 0 0 []) = f ∧ 0 < needL (joinE f).length := by
  have hpos : 0 < (joinE f).length := by
    cases f with
    | nil => exact absurd rfl hf
    | cons r rs =>
      have := joinE_ge (r :: rs)
      simp only [List.length_cons] at this
      omega
  have h0 : 0 < needL (joinE f).length := needL_iff.2 (by omega)
  have ha := all_join hr
  have key : rdG C V room 0 0 [] = some (joinE f) := by
    have := rdG_all hV hb hC room 0 h0 (by omega)
    rw [Nat.zero_mul, Nat.sub_zero, List.take_zero] at this
    cases room with
    | zero => omega
    | succ k =>
      have ho := openS_seal (V 0) (payL (joinE f) 0) (hV 0) (payL_len _ 0)
      have hs := sN_seal (V 0) (joinE f) 0 (hV 0) (by omega) hb
      rw [← this, rdG_go (rest := 0) (by rw [hC 0 h0]; exact ho.2.2) (by rw [hC 0 h0]; exact ho.2.1) (by rw [hC 0 h0, hs]; omega) (fun h => absurd h (by omega)), rdG_go (rest := (joinE f).length) (by rw [hC 0 h0]; exact ho.2.2) (by rw [hC 0 h0]; exact ho.2.1) (by rw [hC 0 h0, hs]; omega) (fun h => absurd h (by omega))]
  rw [key]
  unfold rdN rdR
  dsimp only
  rw [if_pos ha.2, if_pos ha.2, ha.1]
  exact ⟨rfl, rfl, h0⟩
theorem rd_not {C : Nat → List UInt8} {V : Nat → Nat} {b : List UInt8} (hV : ∀ j, V j < 18446744073709551616) (hb : b.length < 4294967296) {m : Nat} (hm : m < needL b.length) (hC : ∀ j, j < m → C j = sealL (V j) (payL b j)) {room : Nat} (h : room ≤ m ∨ openE (C m) ≠ 0 ∨ openS (C m) ≠ V m) : rdN (rdG C V room 0 0 []) = 0 := by
  have key : rdG C V room 0 0 [] = none := by
    have := rdG_gap hV hb hm hC room 0 (Nat.zero_le _) (by rw [Nat.zero_add]; exact h)
    rw [Nat.zero_mul, Nat.sub_zero, List.take_zero] at this
    cases room with
    | zero => rfl
    | succ k =>
      rcases Nat.eq_zero_or_pos m with e | e
      · subst e
        rcases h with h | h
        · omega
        · exact rdG_bad (.inl h)
      · have h0 : 0 < needL b.length := by omega
        have hi := needL_iff.1 hm
        have ho := openS_seal (V 0) (payL b 0) (hV 0) (payL_len _ 0)
        have hs := sN_seal (V 0) b 0 (hV 0) (by omega) hb
        rw [← this, rdG_go (rest := 0) (by rw [hC 0 e]; exact ho.2.2) (by rw [hC 0 e]; exact ho.2.1) (by rw [hC 0 e, hs]; omega) (fun h => absurd h (by omega)), rdG_go (rest := b.length) (by rw [hC 0 e]; exact ho.2.2) (by rw [hC 0 e]; exact ho.2.1) (by rw [hC 0 e, hs]; omega) (fun h => absurd h (by omega))]
  rw [key]
  rfl

/-! Flushes one behind the other. -/
def flN (f : List Rec) : Nat := needL (joinE f).length
def totL : List (List Rec) → Nat
  | [] => 0
  | f :: fs => flN f + totL fs
def LogAt (C : Nat → List UInt8) (V : Nat → Nat) : Nat → List (List Rec) → Prop
  | _, [] => True
  | o, f :: fs => (f ≠ [] ∧ (∀ r ∈ f, r.right = true) ∧ (joinE f).length < 4294967296 ∧ ∀ j, j < flN f → C (o + j) = sealL (V (o + j)) (payL (joinE f) j)) ∧ LogAt C V (o + flN f) fs
theorem totL_snoc (fs : List (List Rec)) (f : List Rec) : totL (fs ++ [f]) = totL fs + flN f := by
  induction fs with
  | nil => simp [totL]
  | cons g gs ih => simp only [List.cons_append, totL, ih]; omega
theorem LogAt.snoc {C : Nat → List UInt8} {V : Nat → Nat} : ∀ {fs : List (List Rec)} {o : Nat} {f : List Rec}, LogAt C V o fs → f ≠ [] → (∀ r ∈ f, r.right = true) → (joinE f).length < 4294967296 → (∀ j, j < flN f → C (o + totL fs + j) = sealL (V (o + totL fs + j)) (payL (joinE f) j)) → LogAt C V o (fs ++ [f])
  | [], o, f, _, h1, h2, h3, h4 => ⟨⟨h1, h2, h3, fun j hj => by have := h4 j hj; simpa [totL] using this⟩, trivial⟩
  | g :: gs, o, f, h, h1, h2, h3, h4 => ⟨h.1, LogAt.snoc h.2 h1 h2 h3 (fun j hj => by have := h4 j hj; simp only [totL] at this; rw [show o + flN g + totL gs + j = o + (flN g + totL gs) + j by omega]; exact this)⟩
theorem LogAt.cong {C C' : Nat → List UInt8} {V : Nat → Nat} : ∀ {fs : List (List Rec)} {o : Nat}, LogAt C V o fs → (∀ k, o ≤ k → k < o + totL fs → C' k = C k) → LogAt C' V o fs
  | [], _, _, _ => trivial
  | f :: fs, o, h, hc => ⟨⟨h.1.1, h.1.2.1, h.1.2.2.1, fun j hj => by rw [hc (o + j) (by omega) (by simp only [totL]; omega)]; exact h.1.2.2.2 j hj⟩, h.2.cong (fun k h1 h2 => hc k (by omega) (by simp only [totL]; omega))⟩
theorem ringC_sub (D : DiskS) (fi bl pl used : Nat) (j : Nat) : ringC D fi bl ((pl + used) % bl) j = ringC D fi bl pl (used + j) := by
  unfold ringC
  rw [Nat.mod_add_mod, Nat.add_assoc]
/-- Scan tells all flushes that are there, up to one that is not. -/
theorem scG_log (D : DiskS) (fi bl ep pl ct : Nat) : ∀ (fs : List (List Rec)) (f used : Nat) (acc : List Rec), LogAt (ringC D fi bl pl) (fun k => ofN ep (ct + k)) used fs → totL fs + used ≤ bl → fs.length < f → rdN (rdB D fi bl ep ((pl + (used + totL fs)) % bl) (ct + (used + totL fs)) (bl - (used + totL fs))) = 0 → scG D fi bl ep pl ct f used acc = (acc ++ fs.flatten, used + totL fs)
  | [], f, used, acc, _, _, hf, h0 => by
    cases f with
    | zero => omega
    | succ f =>
      unfold scG
      simp only [totL, Nat.add_zero] at h0
      rw [if_pos h0]
      simp [totL]
  | g :: gs, f, used, acc, h, ht, hf, h0 => by
    cases f with
    | zero => omega
    | succ f =>
      obtain ⟨⟨g1, g2, g3, g4⟩, h2⟩ := h
      simp only [totL] at ht h0
      have hd := rd_there (C := ringC D fi bl ((pl + used) % bl)) (V := fun i => ofN ep (ct + used + i)) g1 g2 (fun j => ofN_lt _ _) g3 (fun j hj => by rw [ringC_sub, Nat.add_assoc ct]; exact g4 j hj) (room := bl - used) (by unfold flN at ht; omega)
      unfold scG
      have e1 : rdN (rdB D fi bl ep ((pl + used) % bl) (ct + used) (bl - used)) = flN g := hd.1
      have e2 : rdR (rdB D fi bl ep ((pl + used) % bl) (ct + used) (bl - used)) = g := hd.2.1
      rw [e1, e2, if_neg (by have := hd.2.2; unfold flN; omega), scG_log D fi bl ep pl ct gs f (used + flN g) (acc ++ g) h2 (by omega) (by simp only [List.length_cons] at hf; omega) (by rw [Nat.add_assoc]; exact h0)]
      simp only [List.flatten_cons, List.append_assoc, totL, Nat.add_assoc]
theorem flN_pos {f : List Rec} (h : f ≠ []) : 0 < flN f := by
  unfold flN
  refine needL_iff.2 ?_
  cases f with
  | nil => exact absurd rfl h
  | cons r rs =>
    have := joinE_ge (r :: rs)
    simp only [List.length_cons] at this
    omega
theorem LogAt.len {C : Nat → List UInt8} {V : Nat → Nat} : ∀ {fs : List (List Rec)} {o : Nat}, LogAt C V o fs → fs.length ≤ totL fs
  | [], _, _ => Nat.zero_le _
  | f :: fs, o, h => by
    have h1 := flN_pos h.1.1
    have h2 := h.2.len
    simp only [List.length_cons, totL]
    omega
theorem scan_log {D : DiskS} {fi bl ep pl ct : Nat} {fs : List (List Rec)} (h : LogAt (ringC D fi bl pl) (fun k => ofN ep (ct + k)) 0 fs) (ht : totL fs ≤ bl) (h0 : rdN (rdB D fi bl ep ((pl + totL fs) % bl) (ct + totL fs) (bl - totL fs)) = 0) : scanR D fi bl ep pl ct = fs.flatten ∧ scanU D fi bl ep pl ct = totL fs := by
  have := scG_log D fi bl ep pl ct fs (bl + 1) 0 [] h (by omega) (by have := h.len; omega) (by simpa using h0)
  unfold scanR scanU
  rw [this]
  exact ⟨by simp, by simp⟩
/-- What is no block of a stamp. -/
def NoSt (s : List UInt8) (v : Nat) : Prop := openE s ≠ 0 ∨ openS s ≠ v
theorem scan_stop {D : DiskS} {fi bl ep pl ct : Nat} {T m : Nat} {b : List UInt8} (hb : b.length < 4294967296) (hm : m < needL b.length) (hC : ∀ j, j < m → ringC D fi bl pl (T + j) = sealL (ofN ep (ct + (T + j))) (payL b j)) (h : bl - T ≤ m ∨ NoSt (ringC D fi bl pl (T + m)) (ofN ep (ct + (T + m)))) : rdN (rdB D fi bl ep ((pl + T) % bl) (ct + T) (bl - T)) = 0 := by
  refine rd_not (b := b) (fun j => ofN_lt _ _) hb hm (fun j hj => ?_) ?_
  · rw [ringC_sub, Nat.add_assoc ct]
    exact hC j hj
  · rcases h with h | h
    · exact .inl h
    · refine .inr ?_
      rw [ringC_sub, Nat.add_assoc ct]
      exact h
theorem ofN_ne {ep ep' c c' : Nat} (h1 : ep < 4294967296) (h2 : ep' < 4294967296) (h3 : c < 4294967296) (h4 : c' < 4294967296) (h : ep ≠ ep' ∨ c ≠ c') : ofN ep c ≠ ofN ep' c' := by
  unfold ofN
  rw [Nat.mod_eq_of_lt h1, Nat.mod_eq_of_lt h2, Nat.mod_eq_of_lt h3, Nat.mod_eq_of_lt h4]
  omega
theorem NoSt.seal_ {v v' : Nat} {p : List UInt8} (hv : v < 18446744073709551616) (hp : p.length ≤ 4080) (h : v ≠ v') : NoSt (sealL v p) v' := .inr (by rw [(openS_seal v p hv hp).2.1]; exact h)
theorem zer_seal : zer = sealL 0 [] := by
  unfold zer sealL
  rw [show leB 0 8 = List.replicate 8 0 by rfl]
  simp only [List.length_nil, Nat.sub_zero, List.nil_append]
  rw [List.replicate_append_replicate, List.replicate_append_replicate]
theorem NoSt.zer_ {v : Nat} (h : 0 ≠ v) : NoSt zer v := by rw [zer_seal]; exact NoSt.seal_ (by omega) (by simp) h
/-- A torn one of two is the elder, the newer, or of no stamp at all. -/
theorem torn_block {v v' cut : Nat} {p q : List UInt8} (hv : v < 18446744073709551616) (hv' : v' < 18446744073709551616) (hp : p.length ≤ 4080) (hq : q.length ≤ 4080) (hne : v ≠ v') (hc : cut ≤ 4096) : (sealL v' q).take cut ++ (sealL v p).drop cut = sealL v' q ∨ NoSt ((sealL v' q).take cut ++ (sealL v p).drop cut) v' := by
  by_cases h1 : (sealL v' q).take cut ++ (sealL v p).drop cut = sealL v' q
  · exact .inl h1
  · refine .inr ?_
    by_cases h2 : (sealL v' q).take cut ++ (sealL v p).drop cut = sealL v p
    · rw [h2]
      exact NoSt.seal_ hv hp hne
    · have := torn_not (leB v 8) (leB v' 8) (p ++ List.replicate (4080 - p.length) 0) (q ++ List.replicate (4080 - q.length) 0) _ cut (leB_length v 8) (leB_length v' 8) (by rw [List.length_append, List.length_replicate]; omega) (by rw [List.length_append, List.length_replicate]; omega) (leB_inj hv hv' hne) hc rfl h2 h1
      refine .inl ?_
      show openE ((leB v' 8 ++ (q ++ List.replicate (4080 - q.length) 0) ++ leB v' 8).take cut ++ (leB v 8 ++ (p ++ List.replicate (4080 - p.length) 0) ++ leB v 8).drop cut) ≠ 0
      unfold openE
      rw [this]
      simp

end Go.Proofs.Ytlopcmmbkfjidaa

/-! PlK -/
namespace Go.Proofs.Ytlopcmmbkfjidaa
open Go Go.RowKit

theorem mod_apart {a b i j : Nat} (_hb : 0 < b) (hij : i < j) (hj : j < i + b) : (a + i) % b ≠ (a + j) % b := by
  intro h
  have h1 := Nat.sub_mod_eq_zero_of_mod_eq h.symm
  rw [show a + j - (a + i) = j - i by omega, Nat.mod_eq_of_lt (by omega)] at h1
  omega
theorem mod_hit {a b : Nat} (hb : 0 < b) {p : Nat} (hp : p < b) : ∃ k, k < b ∧ (a + k) % b = p := by
  have ha := Nat.mod_lt a hb
  refine ⟨(p + b - a % b) % b, Nat.mod_lt _ hb, ?_⟩
  rw [Nat.add_mod_mod, ← Nat.mod_add_mod, show a % b + (p + b - a % b) = p + b by omega, Nat.add_mod_right, Nat.mod_eq_of_lt hp]

/-- A block of the ring behind writes of a flush. -/
theorem lastL_in {B : List (List UInt8)} {fi bl ep pl ct : Nat} {b : List UInt8} {m i : Nat} (hb : 0 < bl) (hi : i < m) (hm : m ≤ needL b.length) (hN : needL b.length ≤ bl) : lastL B ((wsL fi bl ep pl ct b).take m) (fi + (pl + i) % bl) = sealL (ofN ep (ct + i)) (payL b i) := by
  refine lastL_at (i := i) (p := (fi + (pl + i) % bl, sealL (ofN ep (ct + i)) (payL b i))) ?_ rfl (fun j q hj hq => ?_)
  · rw [List.getElem?_take, if_pos hi]
    exact wsL_at (by omega)
  · rw [List.getElem?_take] at hq
    split at hq
    · rw [wsL_at (by omega)] at hq
      injection hq with hq
      subst hq
      have := mod_apart (a := pl) hb hj (by omega)
      dsimp only
      omega
    · cases hq
theorem lastL_out {B : List (List UInt8)} {fi bl ep pl ct : Nat} {b : List UInt8} {m x : Nat} (hm : m ≤ needL b.length) (h : ∀ i, i < m → (pl + i) % bl ≠ x) : lastL B ((wsL fi bl ep pl ct b).take m) (fi + x) = B.getD (fi + x) [] := by
  refine lastL_none (fun p hp => ?_)
  obtain ⟨i, hi, rfl⟩ := List.getElem_of_mem hp
  have hl : i < m := by rw [List.length_take, wsL_len] at hi; omega
  have e : ((wsL fi bl ep pl ct b).take m)[i]? = some (fi + (pl + i) % bl, sealL (ofN ep (ct + i)) (payL b i)) := by
    rw [List.getElem?_take, if_pos hl]
    exact wsL_at (by omega)
  rw [List.getElem?_eq_getElem hi] at e
  injection e with e
  rw [e]
  have := h i hl
  dsimp only
  omega

theorem getD_set (bs : List (List UInt8)) (i b : Nat) (x : List UInt8) (hb : b < bs.length) : (bs.set i x).getD b [] = if i = b then x else bs.getD b [] := by
  rw [List.getD_eq_getElem?_getD, List.getD_eq_getElem?_getD, List.getElem?_set]
  split
  · subst b
    rw [if_pos hb]
    rfl
  · rfl
/-- What a crash makes of one block. -/
def mixB (keep : List Bool) (torn : Int) (cut i : Nat) (new old : List UInt8) : List UInt8 := if (i : Int) = torn then new.take cut ++ old.drop cut else if keep.getD i false = true then new else old
theorem crashTo_out (keep : List Bool) (torn : Int) (cut : Nat) (bs : List (List UInt8)) (ps : List (Nat × List UInt8)) (b : Nat) (hb : b < bs.length) : ∀ k, (∀ i, i < k → (ps.getD i (0, [])).1 ≠ b) → (crashTo keep torn cut bs ps k).getD b [] = bs.getD b []
  | 0, _ => rfl
  | k + 1, h => by
    have ih := crashTo_out keep torn cut bs ps b hb k (fun i hi => h i (by omega))
    unfold crashTo crash1
    have hk := h k (by omega)
    split
    · rw [getD_set _ _ _ _ (by rw [crashTo_len]; exact hb), if_neg hk]
      exact ih
    · split
      · rw [getD_set _ _ _ _ (by rw [crashTo_len]; exact hb), if_neg hk]
        exact ih
      · exact ih
theorem crashTo_in (keep : List Bool) (torn : Int) (cut : Nat) (bs : List (List UInt8)) (ps : List (Nat × List UInt8)) (b j : Nat) (new : List UInt8) (hb : b < bs.length) (hj : ps.getD j (0, []) = (b, new)) : ∀ k, j < k → (∀ i, i < k → i ≠ j → (ps.getD i (0, [])).1 ≠ b) → (crashTo keep torn cut bs ps k).getD b [] = mixB keep torn cut j new (bs.getD b [])
  | 0, h, _ => by omega
  | k + 1, h, hn => by
    rcases Nat.lt_or_ge j k with hjk | hjk
    · have ih := crashTo_in keep torn cut bs ps b j new hb hj k hjk (fun i hi => hn i (by omega))
      have hk := hn k (by omega) (by omega)
      unfold crashTo crash1
      split
      · rw [getD_set _ _ _ _ (by rw [crashTo_len]; exact hb), if_neg hk]
        exact ih
      · split
        · rw [getD_set _ _ _ _ (by rw [crashTo_len]; exact hb), if_neg hk]
          exact ih
        · exact ih
    · obtain rfl : k = j := by omega
      have ih := crashTo_out keep torn cut bs ps b hb k (fun i hi => hn i (by omega) (by omega))
      unfold crashTo crash1 mixB
      rw [hj]
      dsimp only
      split
      · rw [getD_set _ _ _ _ (by rw [crashTo_len]; exact hb), if_pos rfl, ih]
      · split
        · rw [getD_set _ _ _ _ (by rw [crashTo_len]; exact hb), if_pos rfl]
        · exact ih
theorem getD_ws {fi bl ep pl ct : Nat} {b : List UInt8} {m i : Nat} (hi : i < m) (hm : m ≤ needL b.length) : ((wsL fi bl ep pl ct b).take m).getD i (0, []) = (fi + (pl + i) % bl, sealL (ofN ep (ct + i)) (payL b i)) := by
  rw [List.getD_eq_getElem?_getD, List.getElem?_take, if_pos hi, wsL_at (by omega)]
  rfl

/-- A log that is whole: what stands in its ring's blocks, B; where it began; its flushes; what waits. -/
structure Lg (B : List (List UInt8)) (J : JnS) (pl0 ct0 : Nat) (fs : List (List Rec)) (cur : List Rec) : Prop where
  ji : JI J
  br : J.br = false
  wl : J.waits = joinE cur
  wr : ∀ r ∈ cur, r.right = true
  fb : J.fi + J.bl ≤ B.length
  log : LogAt (fun k => B.getD (J.fi + (pl0 + k) % J.bl) []) (fun k => ofN J.ep (ct0 + k)) 0 fs
  us : J.us = totL fs
  pl : J.pl = (pl0 + totL fs) % J.bl
  ct : J.ct = ct0 + totL fs
  old : ∀ p, p < J.bl → ∀ c, J.ct ≤ c → c < 4294967296 → NoSt (B.getD (J.fi + p) []) (ofN J.ep c)
  ep : J.ep < 4294967296
section
variable {B : List (List UInt8)} {J : JnS} {pl0 ct0 : Nat} {fs : List (List Rec)} {cur : List Rec}
theorem Lg.need (h : Lg B J pl0 ct0 fs cur) : needL J.waits.length = flN cur := by rw [h.wl]; rfl
theorem Lg.fits (h : Lg B J pl0 ct0 fs cur) : totL fs + flN cur ≤ J.bl := by
  have := h.ji.u1
  rw [h.need, h.us] at this
  exact this
theorem Lg.counts (h : Lg B J pl0 ct0 fs cur) : J.ct + flN cur ≤ 4294967296 := by
  have := h.ji.c1
  rw [h.need] at this
  exact this
theorem Lg.bpos (h : Lg B J pl0 ct0 fs cur) : 0 < J.bl := h.ji.b1
theorem Lg.wlen (h : Lg B J pl0 ct0 fs cur) : (joinE cur).length < 4294967296 := by
  have h1 := needL_le (Nat.le_trans (Nat.le_trans (Nat.le_add_left _ _) h.ji.u1) h.ji.b2)
  rw [h.wl] at h1
  omega
/-- A record more that waits. -/
theorem Lg.app (h : Lg B J pl0 ct0 fs cur) {r : Rec} (h0 : appE J r = 0) (hl : J.la + 1 ≤ 1152921504606846976) : Lg B (appJ J r) pl0 ct0 fs (cur ++ [r]) := by
  have hj := h.ji.app r hl
  have hr : r.right = true := by
    unfold appE at h0
    split at h0
    · cases h0
    · split at h0
      · cases h0
      · rename_i h1
        simpa using h1
  have e : appJ J r = { J with waits := J.waits ++ encR r, la := J.la + 1 } := by unfold appJ; rw [if_pos h0]
  rw [e] at hj ⊢
  refine ⟨hj, h.br, ?_, ?_, h.fb, h.log, h.us, h.pl, h.ct, h.old, h.ep⟩
  · show J.waits ++ encR r = joinE (cur ++ [r])
    rw [joinE_snoc, h.wl]
  · intro x hx
    rcases List.mem_append.1 hx with hx | hx
    · exact h.wr x hx
    · simp at hx
      subst hx
      exact hr
theorem Lg.app_not (h : Lg B J pl0 ct0 fs cur) {r : Rec} (h0 : appE J r ≠ 0) : Lg B (appJ J r) pl0 ct0 fs cur := by
  unfold appJ
  rw [if_neg h0]
  exact h
/-- Blocks of the ring behind a flush that went well. -/
theorem Lg.carry (h : Lg B J pl0 ct0 fs cur) : (∀ i, i < flN cur → (carry B (wsJ J)).getD (J.fi + (J.pl + i) % J.bl) [] = sealL (ofN J.ep (J.ct + i)) (payL (joinE cur) i)) ∧ ∀ x, x < J.bl → (∀ i, i < flN cur → (J.pl + i) % J.bl ≠ x) → (carry B (wsJ J)).getD (J.fi + x) [] = B.getD (J.fi + x) [] := by
  have hfb := h.fb
  have hfit := h.fits
  have hw : wsJ J = (wsL J.fi J.bl J.ep J.pl J.ct (joinE cur)).take (flN cur) := by
    unfold wsJ
    rw [h.wl, List.take_of_length_le (by rw [wsL_len]; exact Nat.le_refl _)]
  constructor
  · intro i hi
    rw [carry_at _ _ _ (by have := Nat.mod_lt (J.pl + i) h.bpos; omega), hw]
    exact lastL_in h.bpos hi (Nat.le_refl _) (by unfold flN at hfit; omega)
  · intro x hx hi
    rw [carry_at _ _ _ (by omega), hw]
    exact lastL_out (Nat.le_refl _) hi
theorem Lg.place (h : Lg B J pl0 ct0 fs cur) (i : Nat) : (J.pl + i) % J.bl = (pl0 + (totL fs + i)) % J.bl := by
  rw [h.pl, Nat.mod_add_mod, Nat.add_assoc]
theorem Lg.flushed (h : Lg B J pl0 ct0 fs cur) (hc : cur ≠ []) : Lg (Go.Proofs.Ytlopcmmbkfjidaa.carry B (wsJ J)) { J with pl := (J.pl + needL J.waits.length) % J.bl, ct := J.ct + needL J.waits.length, us := J.us + needL J.waits.length, waits := [], sy := J.la } pl0 ct0 (fs ++ [cur]) [] := by
  obtain ⟨c1, c2⟩ := h.carry
  have hb := h.bpos
  have hfit := h.fits
  have hct := h.counts
  have hN := h.need
  refine ⟨⟨h.ji.b1, h.ji.b2, h.ji.f1, Nat.mod_lt _ h.ji.b1, by have := h.ji.u1; simp [needL] at this ⊢; omega, by have := h.ji.c1; simp [needL] at this ⊢; omega, h.ji.l1⟩, h.br, rfl, by simp, by rw [carry_len]; exact h.fb, ?_, ?_, ?_, ?_, ?_, h.ep⟩
  · refine LogAt.snoc ?_ hc h.wr h.wlen (fun j hj => ?_)
    · refine h.log.cong (fun k _ hk => ?_)
      refine c2 _ (Nat.mod_lt _ hb) (fun i hi => ?_)
      rw [h.place]
      exact (mod_apart hb (show k < totL fs + i by omega) (by omega)).symm
    · have := c1 j hj
      rw [h.place, h.ct] at this
      simp only [Nat.zero_add]
      rw [this, Nat.add_assoc]
  · show J.us + needL J.waits.length = totL (fs ++ [cur])
    rw [totL_snoc, h.us, hN]
  · show (J.pl + needL J.waits.length) % J.bl = _
    rw [totL_snoc, hN, h.place]
  · show J.ct + needL J.waits.length = _
    rw [totL_snoc, hN, h.ct, Nat.add_assoc]
  · intro p hp c hc1 hc2
    show NoSt ((Go.Proofs.Ytlopcmmbkfjidaa.carry B (wsJ J)).getD (J.fi + p) []) (ofN J.ep c)
    have hc1' : J.ct + needL J.waits.length ≤ c := hc1
    rw [hN] at hc1'
    by_cases hx : ∃ i, i < flN cur ∧ (J.pl + i) % J.bl = p
    · obtain ⟨i, hi, rfl⟩ := hx
      rw [c1 i hi]
      exact NoSt.seal_ (ofN_lt _ _) (payL_len _ _) (ofN_ne h.ep h.ep (by omega) hc2 (.inr (by omega)))
    · rw [c2 p hp (fun i hi e => hx ⟨i, hi, e⟩)]
      exact h.old p hp c (by omega) hc2
/-- All blocks out of use. -/
theorem Lg.freed (h : Lg B J pl0 ct0 fs []) : Lg B { J with us := 0 } J.pl J.ct [] [] := by
  have hw : J.waits = [] := h.wl
  refine ⟨⟨h.ji.b1, h.ji.b2, h.ji.f1, h.ji.p1, ?_, h.ji.c1, h.ji.l1⟩, h.br, h.wl, h.wr, h.fb, trivial, rfl, ?_, ?_, h.old, h.ep⟩
  · show 0 + needL J.waits.length ≤ J.bl
    have := h.ji.u1
    omega
  · show J.pl = (J.pl + 0) % J.bl
    rw [Nat.add_zero, Nat.mod_eq_of_lt h.ji.p1]
  · rfl
/-- What Scan tells of a log whose unsynced blocks are gone. -/
theorem Lg.scan (h : Lg B J pl0 ct0 fs cur) (hct : J.ct < 4294967296) {D : DiskS} (hB : D.blocks = B) (hp : D.pending = []) : scanR D J.fi J.bl J.ep pl0 ct0 = fs.flatten ∧ scanU D J.fi J.bl J.ep pl0 ct0 = totL fs := by
  have hC : ringC D J.fi J.bl pl0 = fun k => B.getD (J.fi + (pl0 + k) % J.bl) [] := by
    funext k
    unfold ringC
    rw [hB, hp]
    rfl
  refine scan_log (by rw [hC]; exact h.log) (by have := h.fits; omega) (scan_stop (b := [0]) (m := 0) (by simp) (by simp [needL]) (fun j hj => by omega) (.inr ?_))
  rw [hC]
  simp only [Nat.add_zero]
  rw [← h.ct]
  exact h.old _ (Nat.mod_lt _ h.bpos) _ (Nat.le_refl _) hct
end

/-- What a new ring's blocks hold that were never written. -/
def Blank (B : List (List UInt8)) (J : JnS) (pl0 T : Nat) : Prop := ∀ k, T ≤ k → k < J.bl → B.getD (J.fi + (pl0 + k) % J.bl) [] = zer
section
variable {B : List (List UInt8)} {J : JnS} {pl0 ct0 : Nat} {fs : List (List Rec)} {cur : List Rec}
theorem Lg.blank (h : Lg B J pl0 ct0 fs cur) (hz : Blank B J pl0 (totL fs)) : Blank (Go.Proofs.Ytlopcmmbkfjidaa.carry B (wsJ J)) J pl0 (totL (fs ++ [cur])) := by
  intro k h1 h2
  rw [totL_snoc] at h1
  rw [h.carry.2 _ (Nat.mod_lt _ h.bpos) (fun i hi => by rw [h.place]; exact mod_apart h.bpos (show totL fs + i < k by omega) (by omega))]
  exact hz k (by omega) h2
/-- The blocks of the ring behind a crash within a flush, m blocks of which were written. -/
theorem Lg.crash (h : Lg B J pl0 ct0 fs cur) (keep : List Bool) (torn : Int) (cut m : Nat) (hm : m ≤ flN cur) : (∀ i, i < m → (crashTo keep torn cut B ((wsJ J).take m) m).getD (J.fi + (J.pl + i) % J.bl) [] = mixB keep torn cut i (sealL (ofN J.ep (J.ct + i)) (payL (joinE cur) i)) (B.getD (J.fi + (J.pl + i) % J.bl) [])) ∧ ∀ x, x < J.bl → (∀ i, i < m → (J.pl + i) % J.bl ≠ x) → (crashTo keep torn cut B ((wsJ J).take m) m).getD (J.fi + x) [] = B.getD (J.fi + x) [] := by
  have hfb := h.fb
  have hfit := h.fits
  have hw : ∀ i, i < m → ((wsJ J).take m).getD i (0, []) = (J.fi + (J.pl + i) % J.bl, sealL (ofN J.ep (J.ct + i)) (payL (joinE cur) i)) := fun i hi => by
    unfold wsJ
    rw [h.wl]
    exact getD_ws hi hm
  constructor
  · intro i hi
    refine crashTo_in keep torn cut B _ _ i _ (by have := Nat.mod_lt (J.pl + i) h.bpos; omega) (hw i hi) m hi (fun j hj hne => ?_)
    rw [hw j hj]
    dsimp only
    intro e
    have e2 : (J.pl + j) % J.bl = (J.pl + i) % J.bl := by omega
    rcases Nat.lt_or_ge i j with q | q
    · exact mod_apart h.bpos q (by omega) e2.symm
    · exact mod_apart h.bpos (show j < i by omega) (by omega) e2
  · intro x hx hi
    refine crashTo_out keep torn cut B _ _ (by omega) m (fun i him e => ?_)
    rw [hw i him] at e
    dsimp only at e
    exact hi i him (by omega)
/-- Scan behind such a crash: the flushes that went well, and the last one wholly or not at all. -/
theorem Lg.torn (h : Lg B J pl0 ct0 fs cur) (hc : cur ≠ []) (hz : Blank B J pl0 (totL fs)) (hep : 1 ≤ J.ep) (hct : J.ct + flN cur < 4294967296) (keep : List Bool) (torn : Int) (cut m : Nat) (hcut : cut ≤ 4096) (hm : m ≤ flN cur) {D : DiskS} (hB : D.blocks = crashTo keep torn cut B ((wsJ J).take m) m) (hp : D.pending = []) :
    (scanR D J.fi J.bl J.ep pl0 ct0 = fs.flatten ∧ scanU D J.fi J.bl J.ep pl0 ct0 = totL fs) ∨ (scanR D J.fi J.bl J.ep pl0 ct0 = fs.flatten ++ cur ∧ scanU D J.fi J.bl J.ep pl0 ct0 = totL fs + flN cur) := by
  obtain ⟨c1, c2⟩ := h.crash keep torn cut m hm
  have hb := h.bpos
  have hfit := h.fits
  have hC : ringC D J.fi J.bl pl0 = fun k => (crashTo keep torn cut B ((wsJ J).take m) m).getD (J.fi + (pl0 + k) % J.bl) [] := by
    funext k
    unfold ringC
    rw [hB, hp]
    rfl
  have hlow : LogAt (ringC D J.fi J.bl pl0) (fun k => ofN J.ep (ct0 + k)) 0 fs := by
    rw [hC]
    refine h.log.cong (fun k _ hk => ?_)
    refine c2 _ (Nat.mod_lt _ hb) (fun i hi => ?_)
    rw [h.place]
    exact (mod_apart hb (show k < totL fs + i by omega) (by omega)).symm
  have h0 : ∀ c, 0 ≠ ofN J.ep c := fun c => by unfold ofN; have := h.ep; omega
  -- each block of the flush is right, or of no such stamp
  have hone : ∀ i, i < flN cur → ringC D J.fi J.bl pl0 (totL fs + i) = sealL (ofN J.ep (ct0 + (totL fs + i))) (payL (joinE cur) i) ∨ NoSt (ringC D J.fi J.bl pl0 (totL fs + i)) (ofN J.ep (ct0 + (totL fs + i))) := fun i hi => by
    have hzi := hz (totL fs + i) (by omega) (by omega)
    rw [hC]
    dsimp only
    rw [← h.place] at hzi ⊢
    rw [show ct0 + (totL fs + i) = J.ct + i by rw [h.ct]; omega]
    rcases Nat.lt_or_ge i m with him | him
    · rw [c1 i him, hzi]
      unfold mixB
      split
      · rw [zer_seal]
        exact torn_block (by omega) (ofN_lt _ _) (by simp) (payL_len _ _) (h0 _) hcut
      · split
        · exact .inl rfl
        · exact .inr (NoSt.zer_ (h0 _))
    · rw [c2 _ (Nat.mod_lt _ hb) (fun j hj => mod_apart hb (show j < i by omega) (by omega)), hzi]
      exact .inr (NoSt.zer_ (h0 _))
  by_cases hall : ∀ i, i < flN cur → ringC D J.fi J.bl pl0 (totL fs + i) = sealL (ofN J.ep (ct0 + (totL fs + i))) (payL (joinE cur) i)
  · refine .inr ?_
    have hl2 : LogAt (ringC D J.fi J.bl pl0) (fun k => ofN J.ep (ct0 + k)) 0 (fs ++ [cur]) := LogAt.snoc hlow hc h.wr h.wlen (fun j hj => by simp only [Nat.zero_add]; exact hall j hj)
    have := scan_log hl2 (by rw [totL_snoc]; exact hfit) (scan_stop (b := [0]) (m := 0) (by simp) (by simp [needL]) (fun j hj => by omega) (by
      rw [totL_snoc]
      rcases Nat.lt_or_ge (totL fs + flN cur) J.bl with hlt | hge
      · refine .inr ?_
        rw [Nat.add_zero, hC]
        dsimp only
        rw [c2 _ (Nat.mod_lt _ hb) (fun j hj => by rw [h.place]; exact mod_apart hb (show totL fs + j < totL fs + flN cur by omega) (by omega)), hz _ (by omega) hlt]
        exact NoSt.zer_ (h0 _)
      · exact .inl (by omega)))
    rw [this.1, this.2, totL_snoc]
    simp
  · refine .inl ?_
    -- the first that is not right
    obtain ⟨i, hi, hbad, hgood⟩ : ∃ i, i < flN cur ∧ NoSt (ringC D J.fi J.bl pl0 (totL fs + i)) (ofN J.ep (ct0 + (totL fs + i))) ∧ ∀ j, j < i → ringC D J.fi J.bl pl0 (totL fs + j) = sealL (ofN J.ep (ct0 + (totL fs + j))) (payL (joinE cur) j) := by
      have key : ∀ n, n ≤ flN cur → (∀ j, j < n → ringC D J.fi J.bl pl0 (totL fs + j) = sealL (ofN J.ep (ct0 + (totL fs + j))) (payL (joinE cur) j)) ∨ ∃ i, i < n ∧ NoSt (ringC D J.fi J.bl pl0 (totL fs + i)) (ofN J.ep (ct0 + (totL fs + i))) ∧ ∀ j, j < i → ringC D J.fi J.bl pl0 (totL fs + j) = sealL (ofN J.ep (ct0 + (totL fs + j))) (payL (joinE cur) j) := by
        intro n
        induction n with
        | zero => exact fun _ => .inl (fun j hj => by omega)
        | succ n ih =>
          intro hn
          rcases ih (by omega) with q | ⟨i, q1, q2, q3⟩
          · rcases hone n (by omega) with o | o
            · exact .inl (fun j hj => by
                rcases Nat.lt_or_ge j n with g | g
                · exact q j g
                · obtain rfl : j = n := by omega
                  exact o)
            · exact .inr ⟨n, by omega, o, q⟩
          · exact .inr ⟨i, by omega, q2, q3⟩
      rcases key (flN cur) (Nat.le_refl _) with q | q
      · exact absurd q hall
      · exact q
    exact scan_log hlow (by omega) (scan_stop (b := joinE cur) (m := i) h.wlen hi hgood (.inr hbad))
end

end Go.Proofs.Ytlopcmmbkfjidaa

/-! PlL -/
namespace Go.Proofs.Ytlopcmmbkfjidaa
open Go Go.RowKit

theorem opC_well {D : DiskS} (hd : D.down = false) (hf : D.fault = -1) : opC D = if D.power = 0 then 6 else 0 := by
  unfold opC opE
  rw [hd, hf]
  unfold stB
  simp
theorem opS_well {D : DiskS} (hd : D.down = false) (hf : D.fault = -1) : (opS D).blocks = D.blocks ∧ (opS D).pending = D.pending ∧ (opS D).fault = -1 ∧ (opS D).down = (D.power == 0) ∧ (opS D).power = stL D.power := by
  refine ⟨rfl, rfl, ?_, ?_, ?_⟩
  · unfold opS opL; rw [hd, hf]; rfl
  · unfold opS opD; rw [hd]; unfold stB; simp
  · unfold opS opL; rw [hd]; rfl
theorem write_well {D : DiskS} {p : Nat × List UInt8} (hd : D.down = false) (hf : D.fault = -1) (hb : p.1 < D.blocks.length) (hl : p.2.length = 4096) :
    (D.power = 0 ∧ writeE D p.1 p.2.length = 6 ∧ writeD D p.1 p.2 = opS D) ∨ (D.power ≠ 0 ∧ writeE D p.1 p.2.length = 0 ∧ writeD D p.1 p.2 = { opS D with pending := D.pending ++ [p] }) := by
  have ha : askE D (p.1 : Int) = 0 := by unfold askE; rw [if_neg (by omega)]
  have hc := opC_well hd hf
  unfold writeE writeD
  rw [ha, hl]
  simp only [ne_eq, not_true_eq_false, if_false, or_self]
  by_cases hp : D.power = 0
  · rw [if_pos hp] at hc
    refine .inl ⟨hp, hc, ?_⟩
    rw [if_pos (by rw [hc]; decide)]
  · rw [if_neg hp] at hc
    refine .inr ⟨hp, hc, ?_⟩
    rw [if_neg (by rw [hc]; simp)]
    rfl
theorem putAll_well : ∀ (ws : List (Nat × List UInt8)) (D : DiskS), D.down = false → D.fault = -1 → (∀ p ∈ ws, p.1 < D.blocks.length ∧ p.2.length = 4096) →
    ∃ m, m ≤ ws.length ∧ (putAll D ws).1.blocks = D.blocks ∧ (putAll D ws).1.pending = D.pending ++ ws.take m ∧ (putAll D ws).1.fault = -1 ∧
      (((putAll D ws).2 = 0 ∧ m = ws.length ∧ (putAll D ws).1.down = false ∧ (D.power = -1 → (putAll D ws).1.power = -1)) ∨ ((putAll D ws).2 = 6 ∧ (putAll D ws).1.down = true ∧ D.power ≠ -1))
  | [], D, hd, hf, _ => ⟨0, Nat.le_refl _, rfl, by simp [putAll], hf, .inl ⟨rfl, rfl, hd, fun h => h⟩⟩
  | p :: ps, D, hd, hf, hb => by
    have hp := hb p (by simp)
    have ho := opS_well hd hf
    rcases write_well hd hf hp.1 hp.2 with ⟨h0, h1, h2⟩ | ⟨h0, h1, h2⟩
    · refine ⟨0, Nat.zero_le _, ?_⟩
      have e : putAll D (p :: ps) = (opS D, 6) := by
        unfold putAll
        rw [h1, h2]
        simp
      rw [e, List.take_zero, List.append_nil]
      exact ⟨ho.1, ho.2.1, ho.2.2.1, .inr ⟨rfl, by rw [ho.2.2.2.1, h0]; rfl, by omega⟩⟩
    · have hd2 : (writeD D p.1 p.2).down = false := by rw [h2]; show (opS D).down = false; rw [ho.2.2.2.1]; simpa using h0
      have hf2 : (writeD D p.1 p.2).fault = -1 := by rw [h2]; exact ho.2.2.1
      have hb2 : (writeD D p.1 p.2).blocks = D.blocks := by rw [h2]; exact ho.1
      have hq2 : (writeD D p.1 p.2).pending = D.pending ++ [p] := by rw [h2]
      have hw2 : (writeD D p.1 p.2).power = stL D.power := by rw [h2]; exact ho.2.2.2.2
      obtain ⟨m, m1, m2, m3, m4, m5⟩ := putAll_well ps (writeD D p.1 p.2) hd2 hf2 (fun q hq => by rw [hb2]; exact hb q (by simp [hq]))
      have e : putAll D (p :: ps) = putAll (writeD D p.1 p.2) ps := by
        conv => lhs; unfold putAll
        rw [h1]
        simp
      rw [e]
      refine ⟨m + 1, by simp only [List.length_cons]; omega, m2.trans hb2, ?_, m4, ?_⟩
      · rw [m3, hq2]
        simp
      · rcases m5 with ⟨q1, q2, q3, q4⟩ | ⟨q1, q2, q3⟩
        · refine .inl ⟨q1, by simp only [List.length_cons]; omega, q3, fun h => q4 ?_⟩
          rw [hw2, h]
          rfl
        · refine .inr ⟨q1, q2, fun h => q3 ?_⟩
          rw [hw2, h]
          rfl
/-- A flush upon such a disk without unsynced writes. -/
theorem flush_well {D : DiskS} {ws : List (Nat × List UInt8)} (hd : D.down = false) (hf : D.fault = -1) (hp : D.pending = []) (hb : ∀ p ∈ ws, p.1 < D.blocks.length ∧ p.2.length = 4096) :
    (flushE D ws = 0 ∧ (flushD D ws).blocks = carry D.blocks ws ∧ (flushD D ws).pending = [] ∧ (flushD D ws).down = false ∧ (flushD D ws).fault = -1 ∧ (D.power = -1 → (flushD D ws).power = -1)) ∨
    (flushE D ws = 6 ∧ D.power ≠ -1 ∧ ∃ m, m ≤ ws.length ∧ (flushD D ws).blocks = D.blocks ∧ (flushD D ws).pending = ws.take m ∧ (flushD D ws).down = true) := by
  obtain ⟨m, m1, m2, m3, m4, m5⟩ := putAll_well ws D hd hf hb
  rw [hp, List.nil_append] at m3
  unfold flushE flushD
  rcases m5 with ⟨q1, q2, q3, q4⟩ | ⟨q1, q2, q3⟩
  · rw [q1]
    simp only [ne_eq, not_true_eq_false, if_false]
    have hc := opC_well q3 m4
    have ho := opS_well q3 m4
    subst q2
    rw [List.take_length] at m3
    unfold syncD
    by_cases h0 : (putAll D ws).1.power = 0
    · rw [if_pos h0] at hc
      rw [hc]
      refine .inr ⟨rfl, (fun h => by rw [q4 h] at h0; cases h0), ws.length, Nat.le_refl _, ?_⟩
      rw [if_pos (by decide)]
      exact ⟨ho.1.trans m2, by rw [List.take_length]; exact ho.2.1.trans m3, by rw [ho.2.2.2.1, h0]; rfl⟩
    · rw [if_neg h0] at hc
      rw [hc]
      refine .inl ⟨rfl, ?_⟩
      rw [if_neg (by simp)]
      exact ⟨by show carry _ _ = _; rw [m2, m3], rfl, by show (opS _).down = false; rw [ho.2.2.2.1]; simpa using h0, ho.2.2.1, fun h => by show (opS _).power = -1; rw [ho.2.2.2.2, q4 h]; rfl⟩
  · rw [q1]
    simp only [ne_eq, Int.reduceEq, not_false_eq_true, if_true]
    refine .inr ⟨trivial, q3, m, m1, m2, m3, q2⟩
theorem wsL_ok {B : List (List UInt8)} {fi bl ep pl ct : Nat} {b : List UInt8} (hb : 0 < bl) (hfb : fi + bl ≤ B.length) : ∀ p ∈ wsL fi bl ep pl ct b, p.1 < B.length ∧ p.2.length = 4096 := by
  intro p hp
  unfold wsL at hp
  rw [List.mem_map] at hp
  obtain ⟨i, _, rfl⟩ := hp
  have := Nat.mod_lt (pl + i) hb
  exact ⟨by dsimp only; omega, sealL_len (payL_len _ _)⟩

end Go.Proofs.Ytlopcmmbkfjidaa

/-! JnI -/
namespace Go.Proofs.Ytlopcmmbkfjidaa
open Go Go.RowKit

theorem IsD.kind {w : World} {ok : Nat → Prop} {base g : Nat} {F : Nat → Prop} {D : DiskS} (h : IsD w ok base g F D) {k : Nat} (hk : F k) : base ≤ k ∧ ∃ cs t fr, w.heap[k]? = some (.cells cs t fr) ∧ (t = 72 ∨ t = 30 ∨ t = 88) := by
  refine ⟨(h.foot_lt k hk).1, ?_⟩
  obtain ⟨dr, dc, pv, dvs, pvs, hd, hF⟩ := h
  rcases (hF k).1 hk with e | e | e
  · subst e
    exact ⟨_, _, _, hd.db, .inl rfl⟩
  · subst e
    obtain ⟨cur, hc⟩ := own_blk hd.dur rfl
    exact ⟨_, _, _, hc, .inr (.inl rfl)⟩
  · obtain ⟨cur, hc⟩ := own_blk hd.pen e
    exact ⟨_, _, _, hc, .inr (.inr rfl)⟩
/-- Types of blocks that calls of disks and journals turn. -/
def MutT (t : TypeId) : Prop := t = 5 ∨ t = 72 ∨ t = 30 ∨ t = 88 ∨ t = 32
theorem mut3 {t : TypeId} (h : t = 72 ∨ t = 30 ∨ t = 88) : MutT t := .inr (h.imp id (fun h => h.imp id .inl))
/-- What may be turned: S, then S'. -/
def Mv (S S' : Nat → Prop) (w w' : World) : Prop := Off S w w' ∧ ∀ k, S' k → S k ∨ w.heap.size ≤ k
theorem Mv.of_below {S : Nat → Prop} {w w' : World} (h : Below w.heap.size w w') : Mv S S w w' := ⟨Off.of_below h, fun _ e => .inl e⟩
theorem Mv.trans {S S' S'' : Nat → Prop} {w w' w'' : World} (h : Mv S S' w w') (k : Mv S' S'' w' w'') : Mv S S'' w w'' :=
  ⟨h.1.chain k.1 h.2, fun j hj => by
    rcases k.2 j hj with e | e
    · exact h.2 j e
    · exact .inr (Nat.le_trans h.1.size e)⟩

structure JS (w0 w : World) (gd gj : Nat) (D : DiskS) (J : JnS) (S : Nat → Prop) : Prop where
  bel : Below w0.heap.size w0 w
  ex : ∃ F wv, IsD w (fun k => w0.heap.size ≤ k ∧ k ≠ gj ∧ wv.ownBlock ≠ some k) w0.heap.size gd F D ∧ JB w gj gd J wv ∧ OB w w0.heap.size wv J.waits ∧ w0.heap.size ≤ gj ∧ ¬ F gj ∧ JI J ∧ ∀ k, S k ↔ F k ∨ k = gj ∨ wv.ownBlock = some k
/-- A disk alone. -/
def DS (w0 w : World) (gd : Nat) (D : DiskS) (S : Nat → Prop) : Prop := Below w0.heap.size w0 w ∧ IsD w (fun k => w0.heap.size ≤ k) w0.heap.size gd S D
section
variable {w0 w w' : World} {gd gj : Nat} {D D' : DiskS} {J J' : JnS} {S S' : Nat → Prop}
theorem DS.below (h : DS w0 w gd D S) (hb : Below w.heap.size w w') : DS w0 w' gd D S := ⟨gr_trans h.1 hb, h.2.below hb⟩
theorem DS.kind (h : DS w0 w gd D S) {k : Nat} (hk : S k) : w0.heap.size ≤ k ∧ ∃ cs t fr, w.heap[k]? = some (.cells cs t fr) ∧ MutT t := by
  obtain ⟨h1, cs, t, fr, h2, h3⟩ := h.2.kind hk
  exact ⟨h1, cs, t, fr, h2, mut3 h3⟩
theorem DS.post (h : DS w0 w gd D S) (hp : DPost w (fun k => w0.heap.size ≤ k) w0.heap.size gd S D' w') : ∃ S', DS w0 w' gd D' S' ∧ Mv S S' w w' := by
  obtain ⟨h1, F', h2, h3⟩ := hp
  refine ⟨F', ⟨?_, h2.mono (fun j _ e => e.elim id (fun e => Nat.le_trans h.1.size e))⟩, h1, h3⟩
  exact h.1.trans (h1.below (fun k hk => (h.2.foot_lt k hk).1) h.1.size)
theorem JS.below (h : JS w0 w gd gj D J S) (hb : Below w.heap.size w w') : JS w0 w' gd gj D J S := by
  obtain ⟨F, wv, h1, h2, h3, h4, h5, h6, h7⟩ := h.ex
  exact ⟨gr_trans h.bel hb, F, wv, h1.below hb, h2.below hb, h3.below hb, h4, h5, h6, h7⟩
theorem JS.kind (h : JS w0 w gd gj D J S) {k : Nat} (hk : S k) : w0.heap.size ≤ k ∧ ∃ cs t fr, w.heap[k]? = some (.cells cs t fr) ∧ MutT t := by
  obtain ⟨F, wv, h1, h2, h3, h4, h5, h6, h7⟩ := h.ex
  rcases (h7 k).1 hk with e | e | e
  · obtain ⟨q1, cs, t, fr, q2, q3⟩ := h1.kind e
    exact ⟨q1, cs, t, fr, q2, mut3 q3⟩
  · subst e
    exact ⟨h4, _, _, _, h2, .inr (.inr (.inr (.inr rfl)))⟩
  · obtain ⟨cur, hc⟩ := own_blk h3 e
    exact ⟨(h3.lt k e).1, _, _, _, hc, .inl rfl⟩
theorem JS.ji (h : JS w0 w gd gj D J S) : JI J := by
  obtain ⟨F, wv, h1, h2, h3, h4, h5, h6, h7⟩ := h.ex
  exact h6
theorem JS.jb (h : JS w0 w gd gj D J S) : ∃ wv, JB w gj gd J wv := by
  obtain ⟨F, wv, h1, h2, h3, h4, h5, h6, h7⟩ := h.ex
  exact ⟨wv, h2⟩
theorem JS.isd (h : JS w0 w gd gj D J S) : ∃ ok F, IsD w ok w0.heap.size gd F D := by
  obtain ⟨F, wv, h1, h2, h3, h4, h5, h6, h7⟩ := h.ex
  exact ⟨_, F, h1⟩
theorem JS.ds (h : JS w0 w gd gj D J S) : ∃ S', DS w0 w gd D S' ∧ ∀ k, S' k → S k := by
  obtain ⟨F, wv, h1, h2, h3, h4, h5, h6, h7⟩ := h.ex
  exact ⟨F, ⟨h.bel, h1.mono (fun j _ e => e.1)⟩, fun k hk => (h7 k).2 (.inl hk)⟩
/-- A call that touches the disk alone. -/
theorem JS.disk (h : JS w0 w gd gj D J S) {F : Nat → Prop} {wv : Value} (h1 : IsD w (fun k => w0.heap.size ≤ k ∧ k ≠ gj ∧ wv.ownBlock ≠ some k) w0.heap.size gd F D) (h2 : JB w gj gd J wv) (h3 : OB w w0.heap.size wv J.waits) (h4 : w0.heap.size ≤ gj) (h5 : ¬ F gj) (h7 : ∀ k, S k ↔ F k ∨ k = gj ∨ wv.ownBlock = some k) (hp : DPost w (fun k => w0.heap.size ≤ k ∧ k ≠ gj ∧ wv.ownBlock ≠ some k) w0.heap.size gd F D' w') : ∃ S', JS w0 w' gd gj D' J S' ∧ Mv S S' w w' := by
  have hgl := h2.lt
  have hkb := h1.kb hp.1
  have hfl := fun k hk => (h1.foot_lt k hk).1
  obtain ⟨p1, F', p2, p3⟩ := hp
  refine ⟨fun k => F' k ∨ k = gj ∨ wv.ownBlock = some k, ⟨h.bel.trans (p1.below hfl h.bel.size), F', wv, p2.mono (fun j _ e => ?_), h2.off p1 h5, hkb.ob h3, h4, fun e => ?_, h.ji, fun k => Iff.rfl⟩, p1.mono (fun k _ e => (h7 k).2 (.inl e)), fun k hk => ?_⟩
  · rcases e with e | e
    · exact e
    · refine ⟨Nat.le_trans h.bel.size e, by omega, fun e2 => ?_⟩
      have := (h3.lt j e2).2
      omega
  · rcases p3 gj e with e | e
    · exact h5 e
    · omega
  · rcases hk with e | e | e
    · exact (p3 k e).imp (fun e => (h7 k).2 (.inl e)) id
    · exact .inl ((h7 k).2 (.inr (.inl e)))
    · exact .inl ((h7 k).2 (.inr (.inr e)))
end
section
variable {w0 w w' : World} {gd gj : Nat} {D D' : DiskS} {J J' : JnS} {S S' : Nat → Prop}
theorem DNew_ds (n : Nat) (w0 w : World) (h1 : 1 ≤ n) (h2 : n ≤ 4096) (hb : Below w0.heap.size w0 w) :
    Calls Try.prog 17 #[.int .i64 (n : Int)] w fun e w' => ∃ gd S, e = .returned (.tuple #[.pointer (some ⟨gd, 0, none⟩), .int .i64 0]) ∧ DS w0 w' gd (newD n) S ∧ Below w.heap.size w w' ∧ ∀ k, S k → w.heap.size ≤ k := by
  refine (New_any n w h1 h2).mono ?_
  rintro e w' ⟨g, F, rfl, hd, hbb⟩
  exact ⟨g, F, rfl, ⟨gr_trans hb hbb, (hd.lower hb.size).mono (fun _ _ e => e.elim)⟩, hbb, fun k hk => (hd.foot_lt k hk).1⟩
theorem JNew_js (fi bl ep pl ct : Nat) (h : DS w0 w gd D S) (hm : mayB D.blocks.length fi bl ep pl ct = true) :
    Calls Try.prog 18 #[.pointer (some ⟨gd, 0, none⟩), .int .i64 (fi : Int), .int .i64 (bl : Int), .int .i64 (ep : Int), .int .i64 (pl : Int), .int .i64 (ct : Int)] w fun e w' => ∃ gj S', e = .returned (.tuple #[.pointer (some ⟨gj, 0, none⟩), .int .i64 0]) ∧ JS w0 w' gd gj D (newJ fi bl ep pl ct) S' ∧ Below w.heap.size w w' ∧ Mv S S' w w' := by
  refine (JNew_yes w _ _ gd S D fi bl ep pl ct h.2 hm).mono ?_
  rintro e w' ⟨rfl, hj, hb⟩
  have hd := h.2.sharp.below hb
  have hlen : D.blocks.length ≤ 4096 := by
    obtain ⟨dr, dc, pv, dvs, pvs, hd, _⟩ := h.2
    exact hd.n2
  refine ⟨w.heap.size, fun k => S k ∨ k = w.heap.size, rfl, ⟨gr_trans h.1 hb, S, .slice none 0 0, hd.mono (fun j _ e => ⟨e.1, by omega, by simp [Value.ownBlock]⟩), hj, OB.nil _ _, h.1.size, fun e => by have := (h.2.foot_lt _ e).2; omega, newJ_ji hlen hm, fun k => by simp [Value.ownBlock]⟩, hb, Off.of_below hb, fun k hk => hk.imp id (fun e => Nat.le_of_eq e.symm)⟩
theorem JAppend_js (h : JS w0 w gd gj D J S) (k : Nat) (tx : Int) (A : Option Addr) (n d : Nat) (cs : List Ch) (hc : CR w A n cs) (hn : n ≤ 9223372036854775807) (hpb : ∀ c ∈ cs, ∀ p ∈ c.2.2, p.1 ≤ 9223372036854775807) (hla : J.la + 1 ≤ 1152921504606846976) :
    Calls Try.prog 7 #[.pointer (some ⟨gj, 0, none⟩), .agg #[.int .u8 (k : Int), .int .i64 tx, .slice A n d]] w fun e w' => e = .returned (.tuple #[.int .i64 (appN J ⟨k, tx, cs⟩ : Int), .int .i64 (appE J ⟨k, tx, cs⟩)]) ∧ ∃ S', JS w0 w' gd gj D (appJ J ⟨k, tx, cs⟩) S' ∧ Mv S S' w w' := by
  obtain ⟨F, wv, h1, h2, h3, h4, h5, h6, h7⟩ := h.ex
  refine (JAppend_any h2 h3 h6 h.bel.size k tx A n d cs hc hn hpb).mono ?_
  rintro e w' ⟨rfl, wv', j1, j2, j3, j4⟩
  have hgl := h2.lt
  have hw := fun k hk => (h3.lt k hk).2
  have hfw : ∀ k, F k → wv.ownBlock ≠ some k := fun k hk e => by
    obtain ⟨cur, hc⟩ := own_blk h3 e
    exact h1.foot_ty _ _ _ hk hc
  have hd := h1.sharp.offO j3 (fun k hk e => by
    rcases e with e | e
    · subst e; exact h5 hk
    · exact hfw k hk e) (fun k e ho => by
    rcases e with e | e
    · exact ho.1.2.1 e
    · exact ho.1.2.2 e)
  refine ⟨rfl, fun k => F k ∨ k = gj ∨ wv'.ownBlock = some k, ⟨h.bel.trans (j3.below (fun k hk => ?_) h.bel.size), F, wv', hd.mono (fun j _ e => ⟨e.1.1, e.1.2.1, ?_⟩), j1, j2, h4, h5, h6.app _ hla, fun k => Iff.rfl⟩, j3.mono (fun k _ e => (h7 k).2 ?_), fun k hk => ?_⟩
  · rcases hk with e | e
    · omega
    · exact (h3.lt k e).1
  · rcases j4 with e2 | e2
    · rw [e2]; exact e.1.2.2
    · intro e3
      have := e2 j e3
      omega
  · rcases e with e | e
    · exact .inr (.inl e)
    · exact .inr (.inr e)
  · rcases hk with e | e | e
    · exact .inl ((h7 k).2 (.inl e))
    · exact .inl ((h7 k).2 (.inr (.inl e)))
    · rcases j4 with e2 | e2
      · exact .inl ((h7 k).2 (.inr (.inr (e2 ▸ e))))
      · exact .inr (e2 k e)
theorem JFlush_js (h : JS w0 w gd gj D J S) (hpd : D.pending.length ≤ 900000) :
    Calls Try.prog 9 #[.pointer (some ⟨gj, 0, none⟩)] w fun e w' => e = .returned (.int .i64 (fluE D J)) ∧ ∃ S', JS w0 w' gd gj (fluD D J) (fluJ D J) S' ∧ Mv S S' w w' := by
  obtain ⟨F, wv, h1, h2, h3, h4, h5, h6, h7⟩ := h.ex
  refine (JFlush_any h2 h3 h1 h6 h5 hpd).mono ?_
  rintro e w' ⟨rfl, p1, wv', F', p2, p3, p4, p5, p6⟩
  have hgl := h2.lt
  refine ⟨rfl, fun k => F' k ∨ k = gj ∨ wv'.ownBlock = some k, ⟨h.bel.trans (p1.below (fun k hk => ?_) h.bel.size), F', wv', p5.mono (fun j _ e => ?_), p3, p4, h4, fun e => ?_, h6.flu D, fun k => Iff.rfl⟩, p1.mono (fun k _ e => (h7 k).2 ?_), fun k hk => ?_⟩
  · rcases hk with e | e
    · exact (h1.foot_lt k e).1
    · omega
  · rcases e with e | e
    · refine ⟨e.1, e.2.1, ?_⟩
      rcases p2 with q | q
      · rw [q]; exact e.2.2
      · rw [q]; simp [Value.ownBlock]
    · refine ⟨Nat.le_trans h.bel.size e, by omega, ?_⟩
      rcases p2 with q | q
      · rw [q]
        intro e2
        have := (h3.lt j e2).2
        omega
      · rw [q]; simp [Value.ownBlock]
  · rcases p6 gj e with e | e
    · exact h5 e
    · omega
  · rcases e with e | e
    · exact .inl e
    · exact .inr (.inl e)
  · rcases hk with e | e | e
    · exact (p6 k e).imp (fun e => (h7 k).2 (.inl e)) id
    · exact .inl ((h7 k).2 (.inr (.inl e)))
    · rcases p2 with q | q
      · rw [q] at e; exact .inl ((h7 k).2 (.inr (.inr e)))
      · rw [q] at e; simp [Value.ownBlock] at e
theorem JFree_js (h : JS w0 w gd gj D J S) :
    Calls Try.prog 10 #[.pointer (some ⟨gj, 0, none⟩)] w fun e w' => e = .returned (.int .i64 (freeE J)) ∧ JS w0 w' gd gj D (freeJ J) S ∧ Mv S S w w' := by
  obtain ⟨F, wv, h1, h2, h3, h4, h5, h6, h7⟩ := h.ex
  refine (JFree_any h2 h3).mono ?_
  rintro e w' ⟨rfl, p1, p2, p3⟩
  have hd := h1.offO p3 (fun k hk e => by subst e; exact h5 hk) (fun k e ho => ho.2.1 e)
  have hw : (freeJ J).waits = J.waits := by unfold freeJ; split <;> rfl
  refine ⟨rfl, ⟨h.bel.trans (p3.below (fun k hk => by omega) h.bel.size), F, wv, hd, p1, by rw [hw]; exact p2, h4, h5, h6.free, h7⟩, p3.mono (fun k _ e => (h7 k).2 (.inr (.inl e))), fun k e => .inl e⟩
theorem Arm_js (n : Int) (h : JS w0 w gd gj D J S) (hn : n ≤ 9223372036854775807) :
    Calls Try.prog 19 #[.pointer (some ⟨gd, 0, none⟩), .int .i64 n] w fun e w' => e = .returned (.int .i64 (armE n)) ∧ ∃ S', JS w0 w' gd gj (armD D n) J S' ∧ Mv S S' w w' := by
  obtain ⟨F, wv, h1, h2, h3, h4, h5, h6, h7⟩ := h.ex
  refine (Arm_any w _ _ gd F D n h1 hn).mono ?_
  rintro e w' ⟨rfl, hp⟩
  exact ⟨rfl, h.disk h1 h2 h3 h4 h5 h7 hp⟩
theorem Fail_js (n er : Int) (h : JS w0 w gd gj D J S) (hn : n ≤ 9223372036854775807) :
    Calls Try.prog 46 #[.pointer (some ⟨gd, 0, none⟩), .int .i64 n, .int .i64 er] w fun e w' => e = .returned (.int .i64 (failE n er)) ∧ ∃ S', JS w0 w' gd gj (failD D n er) J S' ∧ Mv S S' w w' := by
  obtain ⟨F, wv, h1, h2, h3, h4, h5, h6, h7⟩ := h.ex
  refine (Fail_any w _ _ gd F D n er h1 hn).mono ?_
  rintro e w' ⟨rfl, hp⟩
  exact ⟨rfl, h.disk h1 h2 h3 h4 h5 h7 hp⟩
theorem Crash_js (K : Option Addr) (nk ck : Nat) (keep : List Bool) (torn cut : Int) (h : JS w0 w gd gj D J S) (hK : LR w K nk keep) (hA : ∀ ad, K = some ad → 0 < nk → ¬ S ad.block) (hnk : nk ≤ 9223372036854775807) (hpd : D.pending.length ≤ 1000000) :
    Calls Try.prog 21 #[.pointer (some ⟨gd, 0, none⟩), .agg #[.slice K nk ck, .int .i64 torn, .int .i64 cut]] w fun e w' => e = .returned (.int .i64 (crashE cut)) ∧ ∃ S', JS w0 w' gd gj (crashD D keep torn cut) J S' ∧ Mv S S' w w' := by
  obtain ⟨F, wv, h1, h2, h3, h4, h5, h6, h7⟩ := h.ex
  refine (Crash_any w _ _ gd F D K nk ck keep torn cut h1 hK (fun ad e h0 hf => hA ad e h0 ((h7 _).2 (.inl hf))) hnk hpd).mono ?_
  rintro e w' ⟨rfl, hp⟩
  exact ⟨rfl, h.disk h1 h2 h3 h4 h5 h7 hp⟩
theorem Scan_js (fi bl ep pl ct : Nat) (h : DS w0 w gd D S) (hm : mayB D.blocks.length fi bl ep pl ct = true) (hdn : D.down = false) (hpd : D.pending.length ≤ 1000000) :
    Calls Try.prog 22 #[.pointer (some ⟨gd, 0, none⟩), .int .i64 (fi : Int), .int .i64 (bl : Int), .int .i64 (ep : Int), .int .i64 (pl : Int), .int .i64 (ct : Int)] w fun e w' => ∃ v, e = .returned (.tuple #[v, .int .i64 (((pl + scanU D fi bl ep pl ct) % bl : Nat) : Int), .int .i64 ((ct + scanU D fi bl ep pl ct : Nat) : Int), .int .i64 0]) ∧ ORW w' w.heap.size v (scanR D fi bl ep pl ct) ∧ Below w.heap.size w w' :=
  JScan_any w _ _ gd S D fi bl ep pl ct h.2 hm hdn hpd
end

/-! Rows beside. -/
/-- A record's changes, which stand in memory that S does not turn. -/
def HeldI (w : World) (S : Nat → Prop) (u : Value) (cs : List Ch) : Prop := ∃ a w1, OCW w1 a u cs ∧ Off (fun k => k < a) w1 w ∧ a ≤ w1.heap.size ∧ ∀ k, S k → k < a ∨ w1.heap.size ≤ k
theorem HeldI.step {w w' : World} {S S' : Nat → Prop} {u : Value} {cs : List Ch} (h : HeldI w S u cs) (hm : Mv S S' w w') : HeldI w' S' u cs := by
  obtain ⟨a, w1, h1, h2, ha, h3⟩ := h
  refine ⟨a, w1, h1, ⟨hm.1.os.trans h2.os, hm.1.tape.trans h2.tape, hm.1.output.trans h2.output, Nat.le_trans h2.size hm.1.size, fun k hk hka => ?_⟩, ha, fun k hk => ?_⟩
  · exact (hm.1.block k (Nat.lt_of_lt_of_le hk h2.size) (fun hs => (h3 k hs).elim hka (fun e => by omega))).trans (h2.block k hk hka)
  · rcases hm.2 k hk with e | e
    · exact h3 k e
    · exact .inr (Nat.le_trans h2.size e)
theorem HeldI.new {w w' : World} {S : Nat → Prop} {u : Value} {cs : List Ch} (h : OCW w' w.heap.size u cs) (hb : Below w.heap.size w w') (hS : ∀ k, S k → k < w.heap.size) : HeldI w' S u cs :=
  ⟨w.heap.size, w', h, Off.refl _ _, hb.size, fun k hk => .inl (hS k hk)⟩
theorem HeldI.vc {w : World} {S : Nat → Prop} {u : Value} {cs : List Ch} (h : HeldI w S u cs) : VC w u cs := by
  obtain ⟨a, w1, h1, h2, _, _⟩ := h
  exact (h1.off h2 (fun k hk e => by omega)).cr
theorem row_move {w w' : World} {S S' : Nat → Prop} {base size n : Nat} {e : TypeId} {v : Value} {xs : List Value} (h : w.ownsRow base e size v n xs) (hm : Mv S S' w w') (hk : ∀ k, S k → ∃ cs t fr, w.heap[k]? = some (.cells cs t fr) ∧ MutT t) (he : ¬ MutT e) : w'.ownsRow base e size v n xs :=
  ownsRow_off h hm.1 (fun k hv hs => by
    obtain ⟨cur, hc⟩ := own_blk h hv
    obtain ⟨cs, t, fr, h1, h2⟩ := hk k hs
    rw [hc] at h1
    injection h1 with h1
    injection h1 with _ h1 _
    exact he (h1 ▸ h2))

end Go.Proofs.Ytlopcmmbkfjidaa

/-! JnJ -/
namespace Go.Proofs.Ytlopcmmbkfjidaa
open Go Go.RowKit

theorem Lg.new {n fi bl ep pl ct : Nat} (hn : n ≤ 4096) (hm : mayB n fi bl ep pl ct = true) : Lg (List.replicate n zer) (newJ fi bl ep pl ct) pl ct [] [] ∧ Blank (List.replicate n zer) (newJ fi bl ep pl ct) pl 0 := by
  have hj := newJ_ji hn hm
  unfold mayB at hm
  simp only [Bool.and_eq_true, decide_eq_true_eq] at hm
  obtain ⟨t0, t1, t2, t3, t4, t5, t6, t7, t8, t9⟩ := hm
  have hz : ∀ b, b < n → (List.replicate n zer).getD b [] = zer := fun b hb => by
    rw [List.getD_eq_getElem?_getD, List.getElem?_replicate, if_pos hb]
    rfl
  refine ⟨⟨hj, rfl, rfl, by simp, ?_, trivial, rfl, ?_, rfl, fun p hp c _ hc => ?_, ?_⟩, fun k _ hk => hz _ ?_⟩
  · show fi + bl ≤ (List.replicate n zer).length
    rw [List.length_replicate]
    omega
  · show pl = (pl + 0) % bl
    rw [Nat.add_zero, Nat.mod_eq_of_lt (by omega)]
  · have hp2 : p < bl := hp
    show NoSt ((List.replicate n zer).getD (fi + p) []) (ofN ep c)
    rw [hz _ (by omega)]
    refine NoSt.zer_ ?_
    unfold ofN
    omega
  · show ep < 4294967296
    omega
  · show fi + (pl + k) % bl < n
    have := Nat.mod_lt (pl + k) (show 0 < bl by omega)
    omega
/-- Nothing is armed, nothing unsynced. -/
structure Calm (D : DiskS) : Prop where
  down : D.down = false
  fault : D.fault = -1
  pend : D.pending = []
  power : D.power = -1
theorem Calm.new (n : Nat) : Calm (newD n) := ⟨rfl, rfl, rfl, rfl⟩
theorem flu_calm {D : DiskS} {J : JnS} {pl0 ct0 : Nat} {fs : List (List Rec)} {cur : List Rec} (h : Lg D.blocks J pl0 ct0 fs cur) (hc : Calm D) (hcur : cur ≠ []) :
    fluE D J = 0 ∧ fluJ D J = { J with pl := (J.pl + needL J.waits.length) % J.bl, ct := J.ct + needL J.waits.length, us := J.us + needL J.waits.length, waits := [], sy := J.la } ∧ Calm (fluD D J) ∧ (fluD D J).blocks = carry D.blocks (wsJ J) := by
  have hw : J.waits.length ≠ 0 := by
    rw [h.wl]
    have := joinE_ge cur
    cases cur with
    | nil => exact absurd rfl hcur
    | cons r rs => simp only [List.length_cons] at this; omega
  rcases flush_well (ws := wsJ J) hc.down hc.fault hc.pend (wsL_ok h.ji.b1 h.fb) with ⟨h1, h2, h3, h4, h5, h6⟩ | ⟨_, h2, _⟩
  · refine ⟨?_, ?_, ?_, ?_⟩
    · unfold fluE; rw [h.br, if_neg (by simp), if_neg hw]; exact h1
    · unfold fluJ; rw [if_neg (by rw [h.br]; simp [hw]), if_neg (by rw [h1]; simp)]
    · unfold fluD; rw [if_neg (by rw [h.br]; simp [hw])]; exact ⟨h4, h5, h3, h6 hc.power⟩
    · unfold fluD; rw [if_neg (by rw [h.br]; simp [hw])]; exact h2
  · exact absurd hc.power h2

def r6 : Rec := ⟨2, 5, []⟩
theorem r6_right : r6.right = true := by decide +kernel
theorem r6_enc : encR r6 = [11, 0, 0, 0, 2, 5, 0, 0, 0, 0, 0, 0, 0, 0, 0] := by decide +kernel
theorem app6 : appE (newJ 2 4 1 0 1) r6 = 0 := by
  unfold appE
  rw [if_neg (by decide), if_neg (by rw [r6_right]; decide), r6_enc, if_neg (by decide)]
def seal6 : List UInt8 := sealL (ofN 1 1) (payL (encR r6) 0)
theorem seal6_is : seal6 = sealL 4294967297 [15, 0, 0, 0, 11, 0, 0, 0, 2, 5, 0, 0, 0, 0, 0, 0, 0, 0, 0] := by
  unfold seal6
  rw [r6_enc]
  rfl
theorem seal6_at : seal6.getD 0 0 = 1 ∧ seal6.getD 4 0 = 1 ∧ seal6.getD 8 0 = 15 ∧ seal6.getD 12 0 = 11 := by
  rw [seal6_is]
  exact ⟨rfl, rfl, rfl, rfl⟩
theorem mayB6 : mayB 8 2 4 1 0 1 = true := by decide
/-- The state behind the one flush of awake. -/
theorem log6 : fluE (newD 8) (appJ (newJ 2 4 1 0 1) r6) = 0 ∧ Calm (fluD (newD 8) (appJ (newJ 2 4 1 0 1) r6)) ∧ durL (fluD (newD 8) (appJ (newJ 2 4 1 0 1) r6)) 2 = seal6 ∧ askE (fluD (newD 8) (appJ (newJ 2 4 1 0 1) r6)) 2 = 0 ∧ (fluD (newD 8) (appJ (newJ 2 4 1 0 1) r6)).blocks.length = 8 ∧ scanR (fluD (newD 8) (appJ (newJ 2 4 1 0 1) r6)) 2 4 1 0 1 = [r6] ∧ scanU (fluD (newD 8) (appJ (newJ 2 4 1 0 1) r6)) 2 4 1 0 1 = 1 ∧ (fluJ (newD 8) (appJ (newJ 2 4 1 0 1) r6)).us = 1 ∧ (fluJ (newD 8) (appJ (newJ 2 4 1 0 1) r6)).bl = 4 ∧ (fluJ (newD 8) (appJ (newJ 2 4 1 0 1) r6)).sy = 1 := by
  have h0 : Lg (newD 8).blocks (newJ 2 4 1 0 1) 0 1 [] [] := (Lg.new (n := 8) (by omega) mayB6).1
  have h1 := h0.app (r := r6) app6 (by decide)
  rw [List.nil_append] at h1
  have e1 : appJ (newJ 2 4 1 0 1) r6 = { newJ 2 4 1 0 1 with waits := [] ++ encR r6, la := 1 } := by unfold appJ; rw [if_pos app6]; rfl
  obtain ⟨f1, f2, f3, f4⟩ := flu_calm (D := newD 8) h1 (Calm.new 8) (by simp)
  have h2 := h1.flushed (by simp)
  rw [← f2, ← f4] at h2
  have hlen : (fluD (newD 8) (appJ (newJ 2 4 1 0 1) r6)).blocks.length = 8 := by
    show (fluD (newD 8) (appJ (newJ 2 4 1 0 1) r6)).blocks.length = 8
    rw [f4, carry_len]
    exact List.length_replicate ..
  have hn : needL (encR r6).length = 1 := by rw [r6_enc]; rfl
  have hask : askE (fluD (newD 8) (appJ (newJ 2 4 1 0 1) r6)) 2 = 0 := by unfold askE; rw [hlen]; rfl
  have hs := h2.scan (by rw [f2]; show _ + needL _ < _; rw [e1]; show 1 + needL ([] ++ encR r6).length < _; rw [List.nil_append, hn]; decide) rfl f3.pend
  have ht : totL ([] ++ [[r6]]) = 1 := by
    show flN [r6] + 0 = 1
    unfold flN joinE
    rw [show joinE [] = [] from rfl, List.append_nil, hn]
  rw [ht] at hs
  have hfi : (fluJ (newD 8) (appJ (newJ 2 4 1 0 1) r6)).fi = 2 ∧ (fluJ (newD 8) (appJ (newJ 2 4 1 0 1) r6)).bl = 4 ∧ (fluJ (newD 8) (appJ (newJ 2 4 1 0 1) r6)).ep = 1 := by
    show (fluJ (newD 8) (appJ (newJ 2 4 1 0 1) r6)).fi = 2 ∧ _
    rw [f2, e1]
    exact ⟨rfl, rfl, rfl⟩
  have hs1 : scanR (fluD (newD 8) (appJ (newJ 2 4 1 0 1) r6)) 2 4 1 0 1 = [r6] := by have := hs.1; rw [hfi.1, hfi.2.1, hfi.2.2] at this; exact this
  have hs2 : scanU (fluD (newD 8) (appJ (newJ 2 4 1 0 1) r6)) 2 4 1 0 1 = 1 := by have := hs.2; rw [hfi.1, hfi.2.1, hfi.2.2] at this; exact this
  refine ⟨f1, f3, ?_, hask, hlen, hs1, hs2, ?_, hfi.2.1, ?_⟩
  · have hc := h1.carry.1 0 (by unfold flN joinE; rw [show joinE [] = [] from rfl, List.append_nil, hn]; decide)
    rw [e1] at hc
    unfold durL
    rw [hask, if_pos rfl]
    show (fluD (newD 8) (appJ (newJ 2 4 1 0 1) r6)).blocks.getD 2 [] = seal6
    rw [f4, e1]
    have hj : joinE [r6] = encR r6 := by unfold joinE; rw [show joinE [] = [] from rfl, List.append_nil]
    rw [hj] at hc
    exact hc
  · have := h2.us
    rw [ht] at this
    exact this
  · rw [f2, e1]

/-- The slice of that one record. -/
def MP.rs1 : MP := ⟨fun u w => ∃ g, u = .slice (some ⟨g, 0, none⟩) 1 1 ∧ RW w (some ⟨g, 0, none⟩) 1 [r6], fun _ _ _ hb ⟨g, e, h⟩ => ⟨g, e, h.below hb⟩⟩
theorem RW.lit6 (w : World) : RW (w.alloc (.cells #[.int .u8 2, .int .i64 5, .slice none 0 0] 25)) (some ⟨w.heap.size, 0, none⟩) 1 [r6] := by
  refine ⟨[(2, 5, .slice none 0 0)], Rd.new w _ #[.int .u8 2, .int .i64 5, .slice none 0 0] 1 3 rfl, rfl, fun i p q hp hq => ?_⟩
  cases i with
  | zero => simp at hp hq; subst hp hq; exact ⟨rfl, rfl, none, 0, rfl, CR.none_ _ _, Nat.le_refl _, by simp [maxLen]⟩
  | succ i => simp at hp

set_option maxRecDepth 100000 in
set_option maxHeartbeats 8000000 in
theorem awake06_any (w : World) : Calls Try.prog 15 #[] w fun e w' => e = .returned (.bool true) ∧ Below w.heap.size w w' := by
  obtain ⟨l1, l2, l3, l4, l5, l6, l7, l8, l9, l10⟩ := log6
  obtain ⟨a0, a4, a8, a12⟩ := seal6_at
  have HD := Lib.hid (DNew_ds 8 w w (by omega) (by omega) (gr_refl w))
  go_enter Try.func15, Try.ntmps15
  go_wp2_with fail
  refine HD.out.mono ?_
  rintro e w1 ⟨gd, S1, rfl, hd1, hb1, _⟩
  have HJN := Lib.hid (JNew_js 2 4 1 0 1 hd1 (show mayB (newD 8).blocks.length 2 4 1 0 1 = true from by rw [show (newD 8).blocks.length = 8 from List.length_replicate ..]; exact mayB6))
  have HB1 := Lib.hid hb1
  clear hd1 hb1 HD
  go_wp2_with fail
  refine HJN.out.mono ?_
  rintro e w2 ⟨gj, S2, rfl, hj2, hb2, _⟩
  have HB2 := Lib.hid (gr_trans HB1.out hb2)
  have HJ2 := Lib.hid hj2
  clear hb2 hj2 HJN
  go_wp2_with fail
  refine (commit6_any 5 w2).mono ?_
  rintro e w3 ⟨rfl, hb3⟩
  have HB3 := Lib.hid (gr_trans HB2.out hb3)
  have HA := Lib.hid (JAppend_js (HJ2.out.below hb3) 2 5 none 0 0 [] (CR.none_ _ _) (by omega) (by simp) (by decide))
  have HA2 : Hid (Calls Try.prog 7 #[.pointer (some ⟨gj, 0, none⟩), .agg #[.int .u8 2, .int .i64 5, .slice none 0 0]] w3 fun e w' => e = .returned (.tuple #[.int .i64 1, .int .i64 0]) ∧ ∃ S', JS w w' gd gj (newD 8) (appJ (newJ 2 4 1 0 1) r6) S') := Lib.hid (HA.out.mono (fun e w' h => by
    obtain ⟨h1, S', h2, _⟩ := h
    refine ⟨?_, S', h2⟩
    rw [h1]
    show Ending.returned (.tuple #[.int .i64 (appN (newJ 2 4 1 0 1) r6 : Int), .int .i64 (appE (newJ 2 4 1 0 1) r6)]) = _
    unfold appN
    rw [app6]
    rfl))
  clear hb3 HA
  go_wp2_with fail
  refine HA2.out.mono ?_
  rintro e w4 ⟨rfl, S4, hj4⟩
  have HF := Lib.hid (JFlush_js hj4 (by decide))
  rw [l1] at HF
  have L8 := Lib.hid l8
  have L9 := Lib.hid l9
  have L10 := Lib.hid l10
  clear hj4 HA2 l1 l8 l9 l10
  generalize fluD (newD 8) (appJ (newJ 2 4 1 0 1) r6) = D5 at *
  generalize fluJ (newD 8) (appJ (newJ 2 4 1 0 1) r6) = J5 at *
  go_wp2_with fail
  refine HF.out.mono ?_
  rintro e w5 ⟨rfl, S5, hj5, _⟩
  obtain ⟨S6, hd5, _⟩ := hj5.ds
  have HJ5 := Lib.hid hj5
  have HD5 := Lib.hid hd5
  have HDU := Lib.hid (Durable_any w5 _ _ gd S6 D5 2 hd5.2)
  rw [l3, l4] at HDU
  have L5 := Lib.hid l5
  have L2 := Lib.hid l2
  have L6 := Lib.hid l6
  have L7 := Lib.hid l7
  have HLEN : Hid (seal6.length = 4096) := Lib.hid (sealL_len (payL_len _ _))
  clear hj5 hd5 HF l2 l3 l4 l5 l6 l7
  generalize seal6 = sl at *
  go_wp2_with fail
  refine HDU.out.mono ?_
  rintro e w6 ⟨v6, rfl, ob6, hb6⟩
  obtain ⟨q6, c6, rfl, hq1, hq2, hq3⟩ := ob6.full HLEN.out
  obtain ⟨A', c', e', br6, _, _⟩ := ob6.formN HLEN.out
  injection e' with e1 e2 e3
  subst e1 e3
  have hcell : ∀ i, i < 4096 → w6.cell? ⟨q6, i, none⟩ = some (.int .u8 ((sl.getD i 0).toNat : Int)) := fun i hi => by
    obtain ⟨g, o, e, hc⟩ := br6.at_ (k := i) hi
    injection e with e
    injection e with e1 e2
    subst e1 e2
    rw [Nat.zero_add] at hc
    exact hc
  have C0 := hcell 0 (by omega)
  have C4 := hcell 4 (by omega)
  have C8 := hcell 8 (by omega)
  have C12 := hcell 12 (by omega)
  rw [a0] at C0
  rw [a4] at C4
  rw [a8] at C8
  rw [a12] at C12
  have HB6 := Lib.hid (gr_trans HJ5.out.bel hb6)
  have HJ6 := Lib.hid (HJ5.out.below hb6)
  have HSC := Lib.hid (Scan_js 2 4 1 0 1 (HD5.out.below hb6) (show mayB D5.blocks.length 2 4 1 0 1 = true from by rw [L5.out]; exact mayB6) L2.out.down (by rw [L2.out.pend]; simp))
  rw [L6.out, L7.out] at HSC
  clear hcell a0 a4 a8 a12 ob6 br6 hb6 HDU
  have K0 := Lib.hid C0
  have K4 := Lib.hid C4
  have K8 := Lib.hid C8
  have K12 := Lib.hid C12
  clear C0 C4 C8 C12
  go_wp2_with fail
  refine HSC.out.mono ?_
  rintro e w7 ⟨v7, rfl, or7, hb7⟩
  obtain ⟨A7, c7, rfl, rw7, hn7, hc7⟩ := or7.rw
  have E0 := keep_of_below hb7 K0.out
  have E4 := keep_of_below hb7 K4.out
  have E8 := keep_of_below hb7 K8.out
  have E12 := keep_of_below hb7 K12.out
  have HB7 := Lib.hid (gr_trans HB6.out hb7)
  have HRW7 : Hid (RW w7 A7 1 [r6]) := Lib.hid rw7
  have HJ7 := Lib.hid (HJ6.out.below hb7)
  have hc7' : 1 ≤ c7 := hn7
  clear or7 rw7 hb7 hn7 hc7 HSC K0 K4 K8 K12
  try simp only [List.length_cons, List.length_nil, Nat.zero_add]
  go_wp2_with fail
  refine (commit6_any 5 w7).mono ?_
  rintro e w8 ⟨rfl, hb8⟩
  have hb9 := gr_alloc (gr_refl w8) (.cells #[.int .u8 2, .int .i64 5, .slice none 0 0] 25)
  have HB9 := Lib.hid (gr_trans hb8 hb9)
  have HRL := Lib.hid (RW.lit6 w8)
  have HSR := Lib.hid (SameRecords_eq A7 (some ⟨w8.heap.size, 0, none⟩) 1 c7 1 [r6] _ (HRW7.out.below HB9.out) HRL.out (by omega) (by decide))
  clear hb8 hb9 E0 E4 E8 E12
  go_wp2_with fail
  refine HSR.out.mono ?_
  rintro e w10 ⟨rfl, hb10⟩
  have HB10 := Lib.hid (gr_trans HB9.out hb10)
  obtain ⟨wv, hjb⟩ := HJ7.out.jb
  have HRM := Lib.hid (Room_any (hjb.below HB10.out) (by rw [L8.out, L9.out]; omega) (by rw [L9.out]; omega))
  have HSY := Lib.hid (fun W (hb : Below w10.heap.size w10 W) => Synced_any ((hjb.below HB10.out).below hb))
  rw [L8.out, L9.out] at HRM
  rw [L10.out] at HSY
  clear hb10 hjb HSR
  go_wp2_with fail
  refine HRM.out.mono ?_
  rintro e w11 ⟨rfl, hb11⟩
  have HB11 := Lib.hid (gr_trans HB10.out hb11)
  have HS := Lib.hid (HSY.out w11 hb11)
  clear hb11
  go_wp2_with fail
  refine HS.out.mono ?_
  rintro e w12 ⟨rfl, hb12⟩
  have HB12 := Lib.hid (gr_trans HB11.out hb12)
  clear hb12
  go_wp2_with fail
  go_ret
  exact ⟨rfl, gr_trans HB7.out HB12.out⟩
end Go.Proofs.Ytlopcmmbkfjidaa
