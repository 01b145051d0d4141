/-
  Texts of this claim, joined: PlT, PoT, Pc, Opn. No statement of the program is proved here.
-/
import Derived.Test.YtmdgnjmhbjdlmaaPkA5
import Derived.Test.YtmdgnjmhbjdlmaaPkA1
import Derived.RangeFuncBox
import Derived.RangeFuncNested
import Derived.Deep.SlicePairs
/-! PlT -/
namespace Go.Proofs.Ytmdgnjmhbjdlmaa
open Go.RowKit

/-- What a block tells. -/
def Good (D : DiskS) (p : Nat) (m : List UInt8) : Prop := openE (readL D (p : Int)) = 0 ∧ openP (readL D (p : Int)) = m
/-- A pool of eight pages upon a disk on which nothing is armed; what was last set of each page. -/
structure TI (bs : List (List UInt8)) (ps : List (Nat × List UInt8)) (P : PoS) (now : Nat → List UInt8) : Prop where
  n8 : bs.length = 8
  pi : PI (calmD bs ps) P
  ba : P.base = 0
  pg : P.pages = 8
  nl : ∀ p, p < 8 → (now p).length = 4080
  held : ∀ i, i < P.fr.length → (P.fr.getD i fr0).pay = now (P.fr.getD i fr0).page
  disk : ∀ p, p < 8 → (∀ i, i < P.fr.length → (P.fr.getD i fr0).page = p → (P.fr.getD i fr0).dirty = false) → Good (calmD bs ps) p (now p)
/-- No frame is dirty. -/
def Clean (P : PoS) : Prop := ∀ i, i < P.fr.length → (P.fr.getD i fr0).dirty = false
theorem lastL_snoc (bs : List (List UInt8)) (ps : List (Nat × List UInt8)) (b c : Nat) (m : List UInt8) : lastL bs (ps ++ [(c, m)]) b = if c = b then m else lastL bs ps b := by
  unfold lastL
  rw [List.foldl_append]
  rfl
theorem good_iff {bs : List (List UInt8)} {ps : List (Nat × List UInt8)} {p : Nat} {m : List UInt8} (hp : p < bs.length) : Good (calmD bs ps) p m ↔ openE (lastL bs ps p) = 0 ∧ openP (lastL bs ps p) = m := by
  unfold Good
  rw [readL_calm bs ps p hp]
section
variable {bs : List (List UInt8)} {ps : List (Nat × List UInt8)} {P : PoS} {now : Nat → List UInt8}
theorem TI.fpg (h : TI bs ps P now) {i : Nat} (hi : i < P.fr.length) : (P.fr.getD i fr0).page < 8 := by
  have := (h.pi.ok _ (getD_mem (d := fr0) hi)).1
  rw [h.pg] at this
  exact this
theorem nd_at {l : List FrS} (hn : (l.map FrS.page).Nodup) {i j : Nat} (hi : i < l.length) (hj : j < l.length) (he : (l.getD i fr0).page = (l.getD j fr0).page) : i = j := by
  have e : ∀ k, k < l.length → (l.map FrS.page)[k]? = some (l.getD k fr0).page := fun k hk => by
    rw [List.getElem?_map, List.getD_eq_getElem?_getD, List.getElem?_eq_getElem hk]
    rfl
  have h1 := (idx_some hn).2 (e i hi)
  have h2 := (idx_some hn).2 (e j hj)
  rw [he] at h1
  rw [h1] at h2
  injection h2
/-- A frame is written. -/
theorem TI.write (h : TI bs ps P now) {n : Nat} (hn : n < P.fr.length) :
    ∃ m, writeR none (calmD bs ps) P n = (calmD bs (ps ++ [m]), { P with fr := P.fr.set n { P.fr.getD n fr0 with dirty := false }, count := P.count + 1 }, 0) ∧ TI bs (ps ++ [m]) { P with fr := P.fr.set n { P.fr.getD n fr0 with dirty := false }, count := P.count + 1 } now := by
  have hp8 := h.fpg hn
  have hok := h.pi.ok _ (getD_mem (d := fr0) hn)
  have hw := writeR_calm bs ps P n _ rfl (by rw [h.ba, h.n8]; omega) hok.2.1
  refine ⟨_, hw, ?_⟩
  have hpi := h.pi.write none hn
  rw [hw] at hpi
  have hg : ∀ j, (P.fr.set n { P.fr.getD n fr0 with dirty := false }).getD j fr0 = if n = j then { P.fr.getD n fr0 with dirty := false } else P.fr.getD j fr0 := fun j => by
    rw [getD_set]
    by_cases e : n = j
    · rw [if_pos ⟨e, hn⟩, if_pos e]
    · rw [if_neg (fun h => e h.1), if_neg e]
  refine ⟨h.n8, hpi, h.ba, h.pg, h.nl, fun i hi => ?_, fun p hp hc => ?_⟩
  · have hi' : i < P.fr.length := by simpa using hi
    show ((P.fr.set n _).getD i fr0).pay = now ((P.fr.set n _).getD i fr0).page
    rw [hg]
    split
    · rename_i e
      subst e
      exact h.held n hn
    · exact h.held i hi'
  · rw [good_iff (by rw [h.n8]; exact hp), lastL_snoc, h.ba, Nat.zero_add]
    by_cases e : (P.fr.getD n fr0).page = p
    · rw [if_pos e]
      have := open_blockP (stampN P) (P.fr.getD n fr0).pay hok.2.1
      refine ⟨this.1, ?_⟩
      rw [this.2, h.held n hn, e]
    · rw [if_neg e, ← good_iff (by rw [h.n8]; exact hp)]
      refine h.disk p hp fun i hi hip => ?_
      have hni : n ≠ i := fun e2 => e (by rw [e2]; exact hip)
      have := hc i (by show i < (P.fr.set n _).length; rw [List.length_set]; exact hi)
      have hg2 := hg i
      rw [if_neg hni] at hg2
      have h3 : ((P.fr.set n { P.fr.getD n fr0 with dirty := false }).getD i fr0).page = p → ((P.fr.set n { P.fr.getD n fr0 with dirty := false }).getD i fr0).dirty = false := this
      rw [hg2] at h3
      exact h3 hip
/-- Frames that were marked otherwise. -/
theorem TI.alike (h : TI bs ps P now) {fr : List FrS} (ha : Alike P.fr fr) {hd : Nat} (hh : hd < P.most) : TI bs ps { P with fr := fr, hand := hd } now := by
  refine ⟨h.n8, h.pi.alike ha hh, h.ba, h.pg, h.nl, fun i hi => ?_, fun p hp hc => h.disk p hp fun i hi hip => ?_⟩
  · have hi' : i < P.fr.length := by rw [ha.1]; exact hi
    obtain ⟨u, hu⟩ := ha.2 i hi'
    show (fr.getD i fr0).pay = now (fr.getD i fr0).page
    rw [hu]
    exact h.held i hi'
  · obtain ⟨u, hu⟩ := ha.2 i hi
    have := hc i (by show i < fr.length; rw [← ha.1]; exact hi)
    have h3 : (fr.getD i fr0).page = p → (fr.getD i fr0).dirty = false := this
    rw [hu] at h3
    exact h3 hip
theorem TI.spn (h : TI bs ps P now) : TI bs ps (spun P) now := h.alike (spinF_alike _ _ _ _ (Alike.refl _)) (spinF_hand _ (by have := h.pi.m1; omega) _ _ _ h.pi.hd)
theorem Clean.spn (h : Clean P) : Clean (spun P) := fun i hi => by
  have ha := spinF_alike P.most (usedN P.fr) P.fr P.hand (Alike.refl P.fr)
  have hi' : i < P.fr.length := by rw [ha.1]; exact hi
  obtain ⟨u, hu⟩ := ha.2 i hi'
  show ((spinF P.most (usedN P.fr) P.fr P.hand).1.getD i fr0).dirty = false
  rw [hu]
  exact h i hi'
def updN (now : Nat → List UInt8) (p : Nat) (m : List UInt8) (x : Nat) : List UInt8 := if x = p then m else now x
theorem updN_len (h : ∀ p, p < 8 → (now p).length = 4080) (p : Nat) {m : List UInt8} (hm : m.length = 4080) : ∀ x, x < 8 → (updN now p m x).length = 4080 := fun x hx => by
  unfold updN
  split
  · exact hm
  · exact h x hx
/-- A frame comes in where a clean one stood. -/
theorem TI.put (h : TI bs ps P now) {f : FrS} (hfull : P.fr.length = P.most) (hc : (P.fr.getD P.hand fr0).dirty = false) (hp : f.page < 8) (hl : f.pay.length = 4080) (h1 : 0 ≤ f.lsn) (h2 : f.lsn ≤ 9223372036854775807) (hn : f.page ∉ P.fr.map FrS.page) (hd : f.dirty = false → Good (calmD bs ps) f.page f.pay) : TI bs ps (putP P f) (updN now f.page f.pay) := by
  have hh : P.hand < P.fr.length := by rw [hfull]; exact h.pi.hd
  have hg : ∀ j, (P.fr.set P.hand f).getD j fr0 = if P.hand = j then f else P.fr.getD j fr0 := fun j => by
    rw [getD_set]
    by_cases e : P.hand = j
    · rw [if_pos ⟨e, hh⟩, if_pos e]
    · rw [if_neg (fun h => e h.1), if_neg e]
  have hne : ∀ i, i < P.fr.length → (P.fr.getD i fr0).page ≠ f.page := fun i hi e => hn (e ▸ List.mem_map_of_mem (getD_mem hi))
  refine ⟨h.n8, h.pi.put hfull (by rw [h.pg]; exact hp) hl h1 h2 hn, h.ba, h.pg, updN_len h.nl _ hl, fun i hi => ?_, fun p hp8 hcl => ?_⟩
  · have hi' : i < P.fr.length := by simpa [putP] using hi
    show ((P.fr.set P.hand f).getD i fr0).pay = updN now f.page f.pay ((P.fr.set P.hand f).getD i fr0).page
    rw [hg]
    unfold updN
    split
    · rw [if_pos rfl]
    · rw [if_neg (hne i hi')]
      exact h.held i hi'
  · have hcl2 : ∀ i, i < P.fr.length → (if P.hand = i then f else P.fr.getD i fr0).page = p → (if P.hand = i then f else P.fr.getD i fr0).dirty = false := fun i hi => by
      have := hcl i (by show i < (P.fr.set P.hand f).length; rw [List.length_set]; exact hi)
      have h3 : ((P.fr.set P.hand f).getD i fr0).page = p → ((P.fr.set P.hand f).getD i fr0).dirty = false := this
      rw [hg] at h3
      exact h3
    unfold updN
    by_cases e : p = f.page
    · subst e
      rw [if_pos rfl]
      refine hd ?_
      have := hcl2 P.hand hh
      rw [if_pos rfl] at this
      exact this rfl
    · rw [if_neg e]
      refine h.disk p hp8 fun i hi hip => ?_
      by_cases e2 : P.hand = i
      · rw [← e2]; exact hc
      · have := hcl2 i hi
        rw [if_neg e2] at this
        exact this hip
theorem TI.push (h : TI bs ps P now) {f : FrS} (hroom : P.fr.length < P.most) (hp : f.page < 8) (hl : f.pay.length = 4080) (h1 : 0 ≤ f.lsn) (h2 : f.lsn ≤ 9223372036854775807) (hn : f.page ∉ P.fr.map FrS.page) (hd : f.dirty = false → Good (calmD bs ps) f.page f.pay) : TI bs ps (pushP P f) (updN now f.page f.pay) := by
  have hg : ∀ j, j < P.fr.length → (P.fr ++ [f]).getD j fr0 = P.fr.getD j fr0 := fun j hj => by
    rw [List.getD_eq_getElem?_getD, List.getElem?_append_left hj, List.getD_eq_getElem?_getD]
  have hg2 : (P.fr ++ [f]).getD P.fr.length fr0 = f := by
    rw [List.getD_eq_getElem?_getD, List.getElem?_append_right (Nat.le_refl _), Nat.sub_self]
    rfl
  have hne : ∀ i, i < P.fr.length → (P.fr.getD i fr0).page ≠ f.page := fun i hi e => hn (e ▸ List.mem_map_of_mem (getD_mem hi))
  have hlen : (P.fr ++ [f]).length = P.fr.length + 1 := by rw [List.length_append]; rfl
  refine ⟨h.n8, h.pi.push hroom (by rw [h.pg]; exact hp) hl h1 h2 hn, h.ba, h.pg, updN_len h.nl _ hl, fun i hi => ?_, fun p hp8 hcl => ?_⟩
  · have hi' : i < P.fr.length + 1 := by rw [← hlen]; exact hi
    show ((P.fr ++ [f]).getD i fr0).pay = updN now f.page f.pay ((P.fr ++ [f]).getD i fr0).page
    unfold updN
    by_cases e : i < P.fr.length
    · rw [hg i e, if_neg (hne i e)]
      exact h.held i e
    · obtain rfl : i = P.fr.length := by omega
      rw [hg2, if_pos rfl]
  · have hcl2 : ∀ i, i < P.fr.length + 1 → ((P.fr ++ [f]).getD i fr0).page = p → ((P.fr ++ [f]).getD i fr0).dirty = false := fun i hi => hcl i (by show i < (P.fr ++ [f]).length; rw [hlen]; exact hi)
    unfold updN
    by_cases e : p = f.page
    · subst e
      rw [if_pos rfl]
      refine hd ?_
      have := hcl2 P.fr.length (by omega)
      rw [hg2] at this
      exact this rfl
    · rw [if_neg e]
      refine h.disk p hp8 fun i hi hip => ?_
      have := hcl2 i (by omega)
      rw [hg i hi] at this
      exact this hip
theorem TI.hold (h : TI bs ps P now) {f : FrS} (hp : f.page < 8) (hl : f.pay.length = 4080) (h1 : 0 ≤ f.lsn) (h2 : f.lsn ≤ 9223372036854775807) (hn : f.page ∉ P.fr.map FrS.page) (hd : f.dirty = false → Good (calmD bs ps) f.page f.pay) :
    ∃ ps' P', holdR none (calmD bs ps) P f = (calmD bs ps', P', 0) ∧ TI bs ps' P' (updN now f.page f.pay) ∧ (Clean P → ps' = ps ∧ (f.dirty = false → Clean P')) := by
  unfold holdR
  by_cases hr : P.fr.length < P.most
  · rw [if_pos hr]
    refine ⟨ps, pushP P f, rfl, h.push hr hp hl h1 h2 hn hd, fun hc => ⟨rfl, fun hf i hi => ?_⟩⟩
    show ((P.fr ++ [f]).getD i fr0).dirty = false
    by_cases e : i < P.fr.length
    · rw [List.getD_eq_getElem?_getD, List.getElem?_append_left e, ← List.getD_eq_getElem?_getD]
      exact hc i e
    · obtain rfl : i = P.fr.length := by
        have : i < (P.fr ++ [f]).length := hi
        rw [List.length_append, List.length_singleton] at this
        omega
      rw [List.getD_eq_getElem?_getD, List.getElem?_append_right (Nat.le_refl _), Nat.sub_self]
      exact hf
  · rw [if_neg hr]
    have hs := h.spn
    have hsl := spun_len P
    have hle := h.pi.len
    have hfull : (spun P).fr.length = (spun P).most := by
      have e : (spun P).most = P.most := rfl
      omega
    have hh : (spun P).hand < (spun P).fr.length := by rw [hfull]; exact hs.pi.hd
    have hns : f.page ∉ (spun P).fr.map FrS.page := by rw [spun_pages]; exact hn
    by_cases hdt : ((spun P).fr.getD (spun P).hand fr0).dirty = true
    · rw [if_pos hdt]
      obtain ⟨m, hw, ht⟩ := hs.write hh
      rw [hw]
      refine ⟨ps ++ [m], _, if_neg (show ¬ ((0 : Int) ≠ 0) from fun h => h rfl), ht.put ?_ ?_ hp hl h1 h2 ?_ (fun e => ?_), fun hc => ?_⟩
      · show ((spun P).fr.set _ _).length = (spun P).most
        rw [List.length_set]
        exact hfull
      · show (((spun P).fr.set (spun P).hand _).getD (spun P).hand fr0).dirty = false
        rw [getD_set, if_pos ⟨rfl, hh⟩]
      · show f.page ∉ ((spun P).fr.set _ _).map FrS.page
        have hm : ((spun P).fr.set (spun P).hand { (spun P).fr.getD (spun P).hand fr0 with dirty := false }).map FrS.page = (spun P).fr.map FrS.page := map_set_same FrS.page hh (d := fr0) rfl
        rw [hm]
        exact hns
      · have hg := hd e
        rw [good_iff (by rw [h.n8]; exact hp)] at hg ⊢
        have hpgne : m.1 ≠ f.page := by
          have := writeR_calm bs ps (spun P) (spun P).hand _ rfl (by rw [hs.ba, h.n8]; have := hs.fpg hh; omega) (hs.pi.ok _ (getD_mem (d := fr0) hh)).2.1
          rw [hw] at this
          have e1 : ps ++ [m] = ps ++ [((spun P).base + ((spun P).fr.getD (spun P).hand fr0).page, blockP (stampN (spun P)) ((spun P).fr.getD (spun P).hand fr0).pay)] := by
            have e0 := congrArg (fun r : Res => r.1.pending) this
            exact e0
          have e2 := List.append_cancel_left e1
          injection e2 with e2
          rw [e2, hs.ba]
          intro e3
          exact hns (by rw [Nat.zero_add] at e3; rw [← e3]; exact List.mem_map_of_mem (getD_mem hh))
        rw [show lastL bs (ps ++ [m]) f.page = lastL bs ps f.page by
          obtain ⟨m1, m2⟩ := m
          rw [lastL_snoc, if_neg hpgne]]
        exact hg
      · have := hc.spn (spun P).hand hh
        rw [hdt] at this
        cases this
    · have hcl : ((spun P).fr.getD (spun P).hand fr0).dirty = false := by simpa using hdt
      rw [if_neg hdt]
      refine ⟨ps, _, rfl, hs.put hfull hcl hp hl h1 h2 hns hd, fun hc => ⟨rfl, fun hf i hi => ?_⟩⟩
      show (((spun P).fr.set (spun P).hand f).getD i fr0).dirty = false
      rw [getD_set]
      split
      · exact hf
      · exact hc.spn i (by simpa [putP] using hi)
theorem updN_same {p : Nat} {m : List UInt8} (h : m = now p) : updN now p m = now := by
  funext x
  unfold updN
  split
  · rename_i e
    rw [h, e]
  · rfl
theorem TI.use (h : TI bs ps P now) {i : Nat} (_hi : i < P.fr.length) : TI bs ps (useP P i) now := by
  have := h.alike (fr := P.fr.set i { P.fr.getD i fr0 with used := true }) ((Alike.refl P.fr).set i true) h.pi.hd
  exact this
theorem TI.get (h : TI bs ps P now) {p : Nat} (hp : p < 8) :
    ∃ ps' P', getR none (calmD bs ps) P (p : Int) = (calmD bs ps', P', 0) ∧ getL none (calmD bs ps) P (p : Int) = now p ∧ TI bs ps' P' now ∧ (Clean P → ps' = ps ∧ Clean P') := by
  have ha : askP P (p : Int) = 0 := by
    unfold askP
    rw [h.pg, if_neg (by omega)]
  cases hi : findP P p with
  | some i =>
    obtain ⟨hil, hip⟩ := findP_some hi
    have e : getR none (calmD bs ps) P (p : Int) = (calmD bs ps, useP P i, 0) := by
      unfold getR
      rw [if_neg (by rw [ha]; decide), Int.toNat_natCast, hi]
    refine ⟨ps, useP P i, e, ?_, h.use hil, fun hc => ⟨rfl, fun j hj => ?_⟩⟩
    · unfold getL
      rw [e, if_neg (show ¬ ((0 : Int) ≠ 0) from fun h => h rfl), Int.toNat_natCast, hi]
      show (P.fr.getD i fr0).pay = now p
      rw [h.held i hil, hip]
    · have hj' : j < P.fr.length := by simpa [useP] using hj
      show ((P.fr.set i _).getD j fr0).dirty = false
      rw [getD_set]
      split
      · exact hc i hil
      · exact hc j hj'
  | none =>
    have hno := (findP_none P p).1 hi
    have hgd := h.disk p hp (fun i hi2 hip => absurd (hip ▸ List.mem_map_of_mem (getD_mem hi2)) hno)
    obtain ⟨ps', P', hh, ht, hcl⟩ := h.hold (f := ⟨p, now p, 0, false, true⟩) hp (h.nl p hp) (Int.le_refl _) (by show (0 : Int) ≤ _; omega) hno (fun _ => hgd)
    have hre := readE_calm bs ps p (by rw [h.n8]; exact hp)
    have e : getR none (calmD bs ps) P (p : Int) = (calmD bs ps', P', 0) := by
      unfold getR
      rw [if_neg (by rw [ha]; decide), Int.toNat_natCast, hi]
      show (if readE (calmD bs ps) ((P.base + p : Nat) : Int) ≠ 0 then _ else if openE (readL (calmD bs ps) ((P.base + p : Nat) : Int)) ≠ 0 then _ else holdR none (calmD bs ps) P ⟨p, openP (readL (calmD bs ps) ((P.base + p : Nat) : Int)), 0, false, true⟩) = _
      rw [h.ba, Nat.zero_add, hre, if_neg (by decide), hgd.1, if_neg (by decide), hgd.2]
      exact hh
    rw [show updN now p (now p) = now from updN_same rfl] at ht
    refine ⟨ps', P', e, ?_, ht, fun hc => ⟨(hcl hc).1, (hcl hc).2 rfl⟩⟩
    unfold getL
    rw [e, if_neg (show ¬ ((0 : Int) ≠ 0) from fun h => h rfl), Int.toNat_natCast, hi]
    show openP (readL (calmD bs ps) ((P.base + p : Nat) : Int)) = now p
    rw [h.ba, Nat.zero_add]
    exact hgd.2
theorem TI.set_ (h : TI bs ps P now) {p : Nat} (hp : p < 8) {l : List UInt8} (hl : l.length = 4080) {lsn : Int} (h1 : 0 ≤ lsn) (h2 : lsn ≤ 9223372036854775807) :
    ∃ ps' P', setR none (calmD bs ps) P (p : Int) l lsn = (calmD bs ps', P', 0) ∧ TI bs ps' P' (updN now p l) := by
  have ha : askP P (p : Int) = 0 := by
    unfold askP
    rw [h.pg, if_neg (by omega)]
  have hse : setE P (p : Int) l.length lsn = 0 := by
    unfold setE
    rw [ha, if_neg (by decide), if_neg (by omega)]
  cases hi : findP P p with
  | some i =>
    obtain ⟨hil, hip⟩ := findP_some hi
    have e : setR none (calmD bs ps) P (p : Int) l lsn = (calmD bs ps, setP P i ⟨p, l, lsn, true, true⟩, 0) := by
      unfold setR
      rw [hse, if_neg (by decide), Int.toNat_natCast, hi]
    have hg : ∀ j, (P.fr.set i ⟨p, l, lsn, true, true⟩).getD j fr0 = if i = j then ⟨p, l, lsn, true, true⟩ else P.fr.getD j fr0 := fun j => by
      rw [getD_set]
      by_cases e : i = j
      · rw [if_pos ⟨e, hil⟩, if_pos e]
      · rw [if_neg (fun h => e h.1), if_neg e]
    have hpi := h.pi.set (f := ⟨p, l, lsn, true, true⟩) hil hip.symm hl h1 h2
    refine ⟨ps, _, e, h.n8, hpi, h.ba, h.pg, updN_len h.nl _ hl, fun j hj => ?_, fun x hx hc => ?_⟩
    · have hj' : j < P.fr.length := by simpa [setP] using hj
      show ((P.fr.set i ⟨p, l, lsn, true, true⟩).getD j fr0).pay = updN now p l ((P.fr.set i ⟨p, l, lsn, true, true⟩).getD j fr0).page
      rw [hg]
      unfold updN
      split
      · rw [if_pos rfl]
      · rename_i hne
        rw [if_neg (fun e2 => hne (nd_at h.pi.nd hil hj' (by rw [hip, e2])))]
        exact h.held j hj'
    · have hc2 : ∀ j, j < P.fr.length → (if i = j then (⟨p, l, lsn, true, true⟩ : FrS) else P.fr.getD j fr0).page = x → (if i = j then (⟨p, l, lsn, true, true⟩ : FrS) else P.fr.getD j fr0).dirty = false := fun j hj => by
        have := hc j (by show j < (P.fr.set i _).length; rw [List.length_set]; exact hj)
        have h3 : ((P.fr.set i ⟨p, l, lsn, true, true⟩).getD j fr0).page = x → ((P.fr.set i ⟨p, l, lsn, true, true⟩).getD j fr0).dirty = false := this
        rw [hg] at h3
        exact h3
      unfold updN
      by_cases e2 : x = p
      · have := hc2 i hil
        rw [if_pos rfl] at this
        cases this e2.symm
      · rw [if_neg e2]
        refine h.disk x hx fun j hj hjx => ?_
        have := hc2 j hj
        rw [if_neg (fun e3 => e2 (by rw [← hjx, ← e3, hip]))] at this
        exact this hjx
  | none =>
    have hno := (findP_none P p).1 hi
    obtain ⟨ps', P', hh, ht, _⟩ := h.hold (f := ⟨p, l, lsn, true, true⟩) hp hl h1 h2 hno (fun e => by cases e)
    refine ⟨ps', P', ?_, ht⟩
    unfold setR
    rw [hse, if_neg (by decide), Int.toNat_natCast, hi]
    exact hh
theorem clean_dirty (h : Clean P) : dirtyL P = [] := by
  unfold dirtyL
  rw [List.filter_eq_nil_iff]
  intro x hx
  obtain ⟨i, hi⟩ := heldL_mem hx
  rw [hi]
  show ¬ (P.fr.getD i fr0).dirty = true
  rw [h i (findP_some hi).1]
  decide
theorem TI.flushF_ : ∀ (l : List Nat) {ps : List (Nat × List UInt8)} {P : PoS}, TI bs ps P now → (∀ x ∈ l, ∃ i, findP P x = some i) →
    ∃ ps' P', flushF none l (calmD bs ps) P = (calmD bs ps', P', 0) ∧ TI bs ps' P' now ∧ P'.fr.length = P.fr.length ∧ ∀ i, i < P.fr.length → (P'.fr.getD i fr0).page = (P.fr.getD i fr0).page ∧ ((P.fr.getD i fr0).dirty = false ∨ (P.fr.getD i fr0).page ∈ l → (P'.fr.getD i fr0).dirty = false)
  | [], ps, P, h, _ => ⟨ps, P, rfl, h, rfl, fun i _ => ⟨rfl, fun e => e.elim id (fun e => by cases e)⟩⟩
  | x :: l, ps, P, h, hl => by
    obtain ⟨n, hn⟩ := hl x (List.mem_cons_self ..)
    obtain ⟨hnl, hnx⟩ := findP_some hn
    obtain ⟨m, hw, ht⟩ := h.write hnl
    have hpgs : (P.fr.set n { P.fr.getD n fr0 with dirty := false }).map FrS.page = P.fr.map FrS.page := map_set_same FrS.page hnl (d := fr0) rfl
    obtain ⟨ps', P', hf, ht', hl', hfr⟩ := TI.flushF_ l ht (fun y hy => by
      obtain ⟨i, hi⟩ := hl y (List.mem_cons_of_mem _ hy)
      exact ⟨i, by rw [findP_pages (P := P) hpgs]; exact hi⟩)
    refine ⟨ps', P', ?_, ht', by rw [hl']; exact List.length_set .., fun i hi => ?_⟩
    · rw [flushF, hn, Option.getD_some, hw, if_neg (show ¬ ((0 : Int) ≠ 0) from fun h => h rfl)]
      exact hf
    · have h3 := hfr i (by show i < (P.fr.set n _).length; rw [List.length_set]; exact hi)
      have hg : (P.fr.set n { P.fr.getD n fr0 with dirty := false }).getD i fr0 = if n = i then { P.fr.getD n fr0 with dirty := false } else P.fr.getD i fr0 := by
        rw [getD_set]
        by_cases e : n = i
        · rw [if_pos ⟨e, hnl⟩, if_pos e]
        · rw [if_neg (fun h => e h.1), if_neg e]
      have h4 : (P'.fr.getD i fr0).page = ((P.fr.set n { P.fr.getD n fr0 with dirty := false }).getD i fr0).page ∧ (((P.fr.set n { P.fr.getD n fr0 with dirty := false }).getD i fr0).dirty = false ∨ ((P.fr.set n { P.fr.getD n fr0 with dirty := false }).getD i fr0).page ∈ l → (P'.fr.getD i fr0).dirty = false) := h3
      rw [hg] at h4
      by_cases e : n = i
      · subst e
        rw [if_pos rfl] at h4
        exact ⟨h4.1, fun _ => h4.2 (.inl rfl)⟩
      · rw [if_neg e] at h4
        refine ⟨h4.1, fun e2 => h4.2 ?_⟩
        rcases e2 with e2 | e2
        · exact .inl e2
        · rcases List.mem_cons.1 e2 with e3 | e3
          · exact absurd (nd_at h.pi.nd hnl hi (by rw [hnx, e3])) e
          · exact .inr e3
theorem TI.flush (h : TI bs ps P now) : ∃ bs' P', flushR none (calmD bs ps) P = (calmD bs' [], P', 0) ∧ TI bs' [] P' now ∧ Clean P' := by
  obtain ⟨ps', P', hf, ht, hl, hfr⟩ := TI.flushF_ (dirtyL P) h (fun x hx => heldL_mem (dirtyL_held hx))
  have hlen : (carry bs ps').length = 8 := by rw [carry_len]; exact h.n8
  have hc : Clean P' := fun i hi => by
    have hi' : i < P.fr.length := by rw [← hl]; exact hi
    refine (hfr i hi').2 ?_
    cases hd : (P.fr.getD i fr0).dirty with
    | false => exact .inl rfl
    | true =>
      refine .inr ?_
      unfold dirtyL heldL
      have hk : P.fr.length ≤ P.fr.length := Nat.le_refl _
      have hfi : findP P (P.fr.getD i fr0).page = some i := by
        cases hx : findP P (P.fr.getD i fr0).page with
        | none => exact absurd (List.mem_map_of_mem (getD_mem hi')) ((findP_none P _).1 hx)
        | some j =>
          obtain ⟨h1, h2⟩ := findP_some hx
          rw [nd_at h.pi.nd h1 hi' h2]
      rw [List.mem_filter, List.mem_filter, List.mem_range, hfi]
      exact ⟨⟨by rw [h.pg]; exact h.fpg hi', rfl⟩, hd⟩
  have hg : ∀ p m, p < 8 → Good (calmD bs ps') p m → Good (calmD (carry bs ps') []) p m := fun p m hp hgd => by
    rw [good_iff (by rw [h.n8]; exact hp)] at hgd
    rw [good_iff (by rw [hlen]; exact hp)]
    have e : lastL (carry bs ps') [] p = lastL bs ps' p := by
      show (carry bs ps').getD p [] = _
      exact carry_at ps' bs p (by rw [h.n8]; exact hp)
    rw [e]
    exact hgd
  refine ⟨carry bs ps', P', ?_, ⟨hlen, ht.pi.disk (show (carry bs ps').length = bs.length by rw [carry_len]), ht.ba, ht.pg, ht.nl, ht.held, fun p hp hcl => hg p _ hp (ht.disk p hp hcl)⟩, hc⟩
  unfold flushR
  rw [hf, if_neg (show ¬ ((0 : Int) ≠ 0) from fun h => h rfl)]
  rfl
/-- A new pool: noughts everywhere. -/
theorem TI.new (f : Nat) (h2 : 2 ≤ f) (h3 : f ≤ 256) : TI (List.replicate 8 zer) [] (newP 0 8 f 1 0) (fun _ => zP) := by
  refine ⟨List.length_replicate .., ⟨by show 0 + 8 ≤ (List.replicate 8 zer).length; rw [List.length_replicate]; omega, by show (List.replicate 8 zer).length ≤ _; rw [List.length_replicate]; omega, h2, h3, by show 1 ≤ 4294967295; omega, Nat.zero_le _, by show 0 < f; omega, fun f hf => (by cases hf), List.nodup_nil⟩, rfl, rfl, fun p _ => List.length_replicate .., fun i hi => absurd hi (Nat.not_lt_zero _), fun p hp _ => ?_⟩
  rw [good_iff (by rw [List.length_replicate]; exact hp)]
  have e : lastL (List.replicate 8 zer) [] p = zer := by
    show (List.replicate 8 zer).getD p [] = _
    rw [List.getD_eq_getElem?_getD, List.getElem?_replicate, if_pos hp]
    rfl
  rw [e]
  exact open_zer
/-- A clean pool's blocks. -/
theorem TI.durable (h : TI bs [] P now) (hc : Clean P) {k : Nat} (hk : k < 8) : askE (calmD bs []) (k : Int) = 0 ∧ openE (durL (calmD bs []) (k : Int)) = 0 ∧ openP (durL (calmD bs []) (k : Int)) = now k := by
  have hb : k < bs.length := by rw [h.n8]; exact hk
  have hg := (good_iff hb).1 (h.disk k hk (fun i hi _ => hc i hi))
  refine ⟨askE_calm bs [] k hb, ?_⟩
  rw [durL_calm bs [] k hb]
  exact hg
end

end Go.Proofs.Ytmdgnjmhbjdlmaa

/-! PoT -/
namespace Go.Proofs.Ytmdgnjmhbjdlmaa
open Go Go.RowKit

theorem holdR_pend (L : Option Int) (D : DiskS) (P : PoS) (f : FrS) : (holdR L D P f).1.pending.length ≤ D.pending.length + 1 ∧ (holdR L D P f).2.1.count ≤ P.count + 1 := by
  have hw := writeR_pend L D (spun P) (spun P).hand
  unfold holdR
  split
  · exact ⟨Nat.le_succ _, Nat.le_succ _⟩
  · split
    · split
      · exact hw
      · exact hw
    · exact ⟨Nat.le_succ _, Nat.le_succ _⟩
theorem getR_pend (L : Option Int) (D : DiskS) (P : PoS) (p : Int) : (getR L D P p).1.pending.length ≤ D.pending.length + 1 ∧ (getR L D P p).2.1.count ≤ P.count + 1 := by
  unfold getR
  split
  · exact ⟨Nat.le_succ _, Nat.le_succ _⟩
  · split
    · exact ⟨Nat.le_succ _, Nat.le_succ _⟩
    · dsimp only
      split
      · exact ⟨Nat.le_succ _, Nat.le_succ _⟩
      · split
        · exact ⟨Nat.le_succ _, Nat.le_succ _⟩
        · exact holdR_pend _ _ _ _
theorem setR_pend (L : Option Int) (D : DiskS) (P : PoS) (p : Int) (l : List UInt8) (n : Int) : (setR L D P p l n).1.pending.length ≤ D.pending.length + 1 ∧ (setR L D P p l n).2.1.count ≤ P.count + 1 := by
  unfold setR
  split
  · exact ⟨Nat.le_succ _, Nat.le_succ _⟩
  · split
    · exact ⟨Nat.le_succ _, Nat.le_succ _⟩
    · exact holdR_pend _ _ _ _
theorem flushF_pend (L : Option Int) : ∀ (l : List Nat) (D : DiskS) (P : PoS), (flushF L l D P).1.pending.length ≤ D.pending.length + l.length ∧ (flushF L l D P).2.1.count ≤ P.count + l.length
  | [], D, P => ⟨Nat.le_refl _, Nat.le_refl _⟩
  | p :: l, D, P => by
    have hw := writeR_pend L D P ((findP P p).getD 0)
    rw [flushF, List.length_cons]
    split
    · omega
    · have := flushF_pend L l (writeR L D P ((findP P p).getD 0)).1 (writeR L D P ((findP P p).getD 0)).2.1
      omega
theorem dirtyL_len {D : DiskS} {P : PoS} (h : PI D P) : (dirtyL P).length ≤ 256 := by
  have h1 := heldL_len P h.nd (fun f hf => (h.ok f hf).1)
  have h2 : (dirtyL P).length ≤ (heldL P).length := List.length_filter_le _ _
  have := h.len
  have := h.m2
  omega
theorem flushR_pend (L : Option Int) {D : DiskS} {P : PoS} (h : PI D P) : (flushR L D P).1.pending.length ≤ D.pending.length + 256 ∧ (flushR L D P).2.1.count ≤ P.count + 256 := by
  have h1 := flushF_pend L (dirtyL P) D P
  have h2 := dirtyL_len h
  unfold flushR
  split
  · omega
  · refine ⟨?_, by show (flushF L (dirtyL P) D P).2.1.count ≤ _; omega⟩
    show (syncD _).pending.length ≤ _
    unfold syncD opS
    split
    · show (flushF L (dirtyL P) D P).1.pending.length ≤ _
      omega
    · exact Nat.zero_le _

/-- The first k of eight slices of bytes in block gn hold what was last set; none of this lies in S. -/
def NowM (w : World) (gn k : Nat) (now : Nat → List UInt8) (S : Nat → Prop) : Prop :=
  (∃ arr : Array Value, w.heap[gn]? = some (.cells arr 26 (0, 0)) ∧ arr.size = 8 ∧ ∀ j, j < k → ∃ g, arr[j]? = some (.slice (some ⟨g, 0, none⟩) 4080 4080) ∧ BB w g (now j) ∧ ¬ S g) ∧ ¬ S gn ∧ k ≤ 8
section
variable {w w' : World} {gn k : Nat} {now : Nat → List UInt8} {S S' : Nat → Prop}
theorem NowM.lt (h : NowM w gn k now S) : gn < w.heap.size := by
  obtain ⟨⟨arr, h1, _⟩, _⟩ := h
  exact (Array.getElem?_eq_some_iff.1 h1).1
theorem NowM.mv (h : NowM w gn k now S) (hm : Mv S S' w w') : NowM w' gn k now S' := by
  obtain ⟨⟨arr, h1, h2, h3⟩, h4, h5⟩ := h
  have hlt := (Array.getElem?_eq_some_iff.1 h1).1
  refine ⟨⟨arr, (hm.1.block gn hlt h4).trans h1, h2, fun j hj => ?_⟩, fun e => ?_, h5⟩
  · obtain ⟨g, e1, e2, e3⟩ := h3 j hj
    refine ⟨g, e1, (hm.1.block g e2.lt e3).trans e2, fun e => ?_⟩
    rcases hm.2 g e with e | e
    · exact e3 e
    · have := e2.lt
      omega
  · rcases hm.2 gn e with e | e
    · exact h4 e
    · omega
theorem NowM.below (h : NowM w gn k now S) (hb : Below w.heap.size w w') : NowM w' gn k now S := h.mv (Mv.of_below hb)
theorem NowM.cell (h : NowM w gn k now S) {j : Nat} (hj : j < k) : ∃ g, w.cell? ⟨gn, j, none⟩ = some (.slice (some ⟨g, 0, none⟩) 4080 4080) ∧ BB w g (now j) := by
  obtain ⟨⟨arr, h1, h2, h3⟩, h4, h5⟩ := h
  obtain ⟨g, e1, e2, _⟩ := h3 j hj
  exact ⟨g, by rw [cell_of_row w gn j _ _ _ h1]; exact e1, e2⟩
theorem NowM.any (h : NowM w gn k now S) {j : Nat} (hj : j < 8) : ∃ v, w.cell? ⟨gn, j, none⟩ = some v := by
  obtain ⟨⟨arr, h1, h2, h3⟩, h4, h5⟩ := h
  exact ⟨arr[j]'(by omega), by rw [cell_of_row w gn j _ _ _ h1]; exact Array.getElem?_eq_getElem (by omega)⟩
theorem NowM.frozen (h : NowM w gn k now S) (j : Nat) : w.frozen? ⟨gn, j, none⟩ = false := by
  obtain ⟨⟨arr, h1, _⟩, _⟩ := h
  simp [World.frozen?, h1]
theorem NowM.put (h : NowM w gn k now S) {j k' : Nat} (_hj : j < 8) (hk : k' ≤ 8) (hkk : ∀ x, x < k' → x ≠ j → x < k) {g : Nat} {l : List UInt8} (hb : BB w g l) (hS : ¬ S g) : NowM (w.setCell ⟨gn, j, none⟩ (.slice (some ⟨g, 0, none⟩) 4080 4080)) gn k' (updN now j l) S := by
  obtain ⟨⟨arr, h1, h2, h3⟩, h4, h5⟩ := h
  have ho : Off (· = gn) w (w.setCell ⟨gn, j, none⟩ (.slice (some ⟨g, 0, none⟩) 4080 4080)) := (Off.refl _ w).setCell _ rfl
  have hbb : ∀ g l, BB w g l → BB (w.setCell ⟨gn, j, none⟩ (.slice (some ⟨g, 0, none⟩) 4080 4080)) g l := fun g l hb => by
    refine (Below.heap_setCell _ _ _ g (hb.ne h1 (by decide))).trans hb
  have hbb2 : ∀ g' l, BB w g' l → BB (w.setCell ⟨gn, j, none⟩ (.slice (some ⟨g, 0, none⟩) 4080 4080)) g' l := fun g' l hb => (ho.block g' hb.lt (hb.ne h1 (by decide))).trans hb
  refine ⟨⟨arr.setIfInBounds j (.slice (some ⟨g, 0, none⟩) 4080 4080), ?_, by simp [h2], fun x hx => ?_⟩, h4, hk⟩
  · simp only [World.setCell, Array.getElem?_modify, if_pos, h1]
    simp
  · rw [Array.getElem?_setIfInBounds]
    by_cases e : j = x
    · subst e
      rw [if_pos rfl, if_pos (by omega)]
      refine ⟨g, rfl, ?_, hS⟩
      unfold updN
      rw [if_pos rfl]
      exact hbb2 g l hb
    · rw [if_neg e]
      obtain ⟨g', e1, e2, e3⟩ := h3 x (hkk x hx (Ne.symm e))
      refine ⟨g', e1, ?_, e3⟩
      unfold updN
      rw [if_neg (Ne.symm e)]
      exact hbb2 g' _ e2
end

end Go.Proofs.Ytmdgnjmhbjdlmaa

/-! Pc -/
namespace Go.Proofs.Ytmdgnjmhbjdlmaa
open Go.RowKit

/-- Every block of cells lies as it lay. -/
def CK (w w' : World) : Prop := ∀ (k : Nat) (c : Array Value) (t : TypeId) (f : Nat × Nat), w.heap[k]? = some (.cells c t f) → w'.heap[k]? = some (.cells c t f)

section
variable {w w' w'' : World}
theorem CK.refl (w : World) : CK w w := fun _ _ _ _ h => h
theorem CK.trans (h : CK w w') (k : CK w' w'') : CK w w'' := fun _ _ _ _ e => k _ _ _ _ (h _ _ _ _ e)
theorem CK.of_grownBy {row : Option Nat} (hg : w.grownBy w' row) (hr : ∀ r, row = some r → ∃ o : Obj, w.heap[r]? = some o ∧ o.isCells = false) : CK w w' := by
  intro k c t f h
  have hlt : k < w.heap.size := (Array.getElem?_eq_some_iff.1 h).1
  rw [hg.block k hlt (fun e => by
    obtain ⟨o, ho, hc⟩ := hr k e.symm
    rw [h] at ho
    cases ho
    cases hc), h]
theorem CK.of_below (hb : Below w.heap.size w w') : CK w w' := fun k _ _ _ h => (hb.block k (Array.getElem?_eq_some_iff.1 h).1).trans h
theorem CK.cell (h : CK w w') {p : Addr} {u : Value} (hc : w.cell? p = some u) : w'.cell? p = some u := by
  unfold World.cell? at hc ⊢
  cases ho : w.heap[p.block]? with
  | none => rw [ho] at hc; cases hc
  | some o =>
    rw [ho] at hc
    cases o with
    | cells c t f => rw [h _ _ _ _ ho]; exact hc
    | _ => cases hc
theorem CK.frozen (h : CK w w') {p : Addr} {u : Value} (hc : w.cell? p = some u) : w'.frozen? p = w.frozen? p := by
  unfold World.cell? at hc
  unfold World.frozen?
  cases ho : w.heap[p.block]? with
  | none => rw [ho] at hc; cases hc
  | some o =>
    rw [ho] at hc
    cases o with
    | cells c t f => rw [h _ _ _ _ ho]
    | _ => cases hc
theorem CK.rd (h : CK w w') {size n : Nat} {A : Option Addr} {xs : List Value} (hr : Rd w size A n xs) : Rd w' size A n xs := hr.keep fun _ _ hc => h.cell hc
theorem CK.br (h : CK w w') {n : Nat} {A : Option Addr} {l : List UInt8} (hr : BR w A n l) : BR w' A n l := h.rd hr
theorem CK.own (h : CK w w') {base : Nat} {e : TypeId} {size : Nat} {v : Value} {n : Nat} {xs : List Value} (ho : w.ownsRow base e size v n xs) : w'.ownsRow base e size v n xs := by
  refine ⟨ho.1, ?_⟩
  rcases ho.2 with h0 | ⟨g, cap, cur, hv, hb, hg, r⟩
  · exact .inl h0
  · exact .inr ⟨g, cap, cur, hv, hb, h _ _ _ _ hg, r⟩
theorem CK.ob (h : CK w w') {base : Nat} {v : Value} {l : List UInt8} (ho : OB w base v l) : OB w' base v l := CK.own h ho
theorem CK.bb (h : CK w w') {g : Nat} {l : List UInt8} (hB : BB w g l) : BB w' g l := h _ _ _ _ hB
end

/-- The cells of pieces. -/
def pcs : List (Int × Value) → List Value
  | [] => []
  | p :: ps => .int .i64 p.1 :: p.2 :: pcs ps

theorem pcs_length (ps : List (Int × Value)) : (pcs ps).length = ps.length * 2 := by
  induction ps with
  | nil => rfl
  | cons p ps ih => simp only [pcs, List.length_cons, ih]; omega
theorem pcs_append (ps qs : List (Int × Value)) : pcs (ps ++ qs) = pcs ps ++ pcs qs := by
  induction ps with
  | nil => rfl
  | cons p ps ih => simp only [pcs, List.cons_append, ih]
theorem pcs_at : ∀ (ps : List (Int × Value)) (i : Nat) (p : Int × Value), ps[i]? = some p → (pcs ps)[i * 2]? = some (.int .i64 p.1) ∧ (pcs ps)[i * 2 + 1]? = some p.2
  | [], i, p, h => by simp at h
  | q :: ps, 0, p, h => by
    simp at h
    subst h
    exact ⟨rfl, rfl⟩
  | q :: ps, i + 1, p, h => by
    have ih := pcs_at ps i p (by simpa using h)
    have e1 : (i + 1) * 2 = i * 2 + 2 := by omega
    have e2 : (i + 1) * 2 + 1 = i * 2 + 1 + 2 := by omega
    rw [e2, e1]
    simpa [pcs] using ih
theorem one_pcs (ps : List (Int × Value)) (h : ∀ p ∈ ps, p.2.oneCell' = true) : ∀ u ∈ pcs ps, u.oneCell' = true := by
  induction ps with
  | nil => intro u hu; cases hu
  | cons p ps ih =>
    intro u hu
    simp only [pcs, List.mem_cons] at hu
    rcases hu with rfl | rfl | hu
    · rfl
    · exact h p (List.mem_cons_self ..)
    · exact ih (fun q hq => h q (List.mem_cons_of_mem _ hq)) u hu

/-- The value u is a slice of the bytes l. -/
def VB (w : World) (u : Value) (l : List UInt8) : Prop := ∃ A c, u = .slice A l.length c ∧ BR w A l.length l ∧ l.length ≤ c ∧ c ≤ maxLen

theorem VB.ck {w w' : World} {u : Value} {l : List UInt8} (h : VB w u l) (hk : CK w w') : VB w' u l := by
  obtain ⟨A, c, e, r, h1, h2⟩ := h
  exact ⟨A, c, e, hk.br r, h1, h2⟩
theorem VB.below {w w' : World} {u : Value} {l : List UInt8} (h : VB w u l) (hb : Below w.heap.size w w') : VB w' u l := h.ck (CK.of_below hb)
theorem OB.vb {w : World} {base : Nat} {u : Value} {l : List UInt8} (h : OB w base u l) : VB w u l := by
  obtain ⟨A, c, e, r, h1, h2⟩ := h.form
  exact ⟨A, c, e, r, h1, h2⟩
theorem VB.one {w : World} {u : Value} {l : List UInt8} (h : VB w u l) : u.oneCell' = true := by
  obtain ⟨A, c, rfl, _⟩ := h
  rfl

abbrev Pc := Int × List UInt8

/-- The slice value '.slice A n c' holds the pieces ps. -/
def PR (w : World) (A : Option Addr) (n : Nat) (ps : List Pc) : Prop :=
  ∃ us : List (Int × Value), Rd w 2 A n (pcs us) ∧ us.length = ps.length ∧ ∀ (i : Nat) (p : Pc) (q : Int × Value), ps[i]? = some p → us[i]? = some q → q.1 = p.1 ∧ VB w q.2 p.2

section
variable {w w' : World} {A : Option Addr} {n : Nat} {ps : List Pc}
theorem PR.len (h : PR w A n ps) : ps.length = n := by
  obtain ⟨us, hr, hl, _⟩ := h
  have := hr.1
  rw [pcs_length] at this
  omega
theorem PR.ck (h : PR w A n ps) (hk : CK w w') : PR w' A n ps := by
  obtain ⟨us, hr, hl, hv⟩ := h
  exact ⟨us, hk.rd hr, hl, fun i p q hp hq => ⟨(hv i p q hp hq).1, (hv i p q hp hq).2.ck hk⟩⟩
theorem PR.below (h : PR w A n ps) (hb : Below w.heap.size w w') : PR w' A n ps := h.ck (CK.of_below hb)
theorem PR.none_ (w : World) (A : Option Addr) : PR w A 0 [] := ⟨[], ⟨rfl, fun h => absurd h (by omega)⟩, rfl, fun i p q h => by simp at h⟩
theorem PR.at_ (h : PR w A n ps) {i : Nat} (hi : i < n) : ∃ g o B c, A = some ⟨g, o, none⟩ ∧ w.cell? ⟨g, o + i * 2, none⟩ = some (.int .i64 (ps.getD i (0, [])).1) ∧
    w.cell? ⟨g, o + i * 2 + 1, none⟩ = some (.slice B (ps.getD i (0, [])).2.length c) ∧ BR w B (ps.getD i (0, [])).2.length (ps.getD i (0, [])).2 ∧ (ps.getD i (0, [])).2.length ≤ c ∧ c ≤ maxLen := by
  have hn := h.len
  obtain ⟨us, hr, hl, hv⟩ := h
  obtain ⟨g, o, e, hc⟩ := Rd.plain hr (by omega) (by omega)
  have hip : ps[i]? = some (ps.getD i (0, [])) := by simp [List.getD, List.getElem?_eq_getElem (show i < ps.length by omega)]
  have hiu : us[i]? = some (us[i]'(by omega)) := List.getElem?_eq_getElem (by omega)
  obtain ⟨e1, B, c, e2, r, h1, h2⟩ := hv i _ _ hip hiu
  obtain ⟨c1, c2⟩ := pcs_at us i _ hiu
  refine ⟨g, o, B, c, e, ?_, ?_, r, h1, h2⟩
  · rw [← e1]; exact hc _ _ c1
  · rw [← e2]; exact hc _ _ c2
end

section
variable {w w' : World} {base : Nat} {v : Value} {ps : List Pc}
end

end Go.Proofs.Ytmdgnjmhbjdlmaa

/-! Opn -/
namespace Go.Proofs.Ytmdgnjmhbjdlmaa
open Go.ChangeShapes Go.WideShapes Go.ChangeAt Go.RowKit Go.Deep

/-- A datum within the form's reach. -/
def Wt {H : Type} (t : TypeId) (d : DataW H) : Prop := ∀ n ∈ d.weights Try.prog t, n ≤ reachBytes

theorem reach_val : reachBytes = 140737488351232 := by decide

section
variable {H : Type} {enc : TypeId × Value → H} {W : World} {base : Nat} {spare : Nat → Bool} {held : Bool}
theorem Wt.of_each {ts : List TypeId} {ds : List (DataW H)} {j : Nat} {t : TypeId} {d : DataW H} (hz : (DataW.weightsEach Try.prog ts ds).all (· ≤ reachBytes) = true) (ht : ts[j]? = some t) (hd : ds[j]? = some d) : Wt t d :=
  fun n hn => by simpa using List.all_eq_true.1 hz n (DataW.weights_mem_each ht hd n hn)
theorem weights_all {e : TypeId} {l : List (DataW H)} {d : DataW H} (hd : d ∈ l) : ∀ n ∈ d.weights Try.prog e, n ∈ DataW.weightsAll Try.prog e l := by
  induction l with
  | nil => cases hd
  | cons x r ih =>
    intro n hn
    simp only [DataW.weightsAll, List.mem_append]
    rcases List.mem_cons.1 hd with rfl | h
    · exact .inl hn
    · exact .inr (ih h n hn)
theorem Wt.slice {t e : TypeId} {l s : List (DataW H)} (h : Wt t (.slice l s)) (ht : Try.prog.underlying t = some (.slice e)) : (l.length + s.length) * Try.prog.bytesOf e ≤ 140737488351232 ∧ ∀ d ∈ l, Wt e d := by
  unfold Wt at h
  simp only [DataW.weights, ht] at h
  refine ⟨?_, fun d hd n hn => h n (List.mem_cons_of_mem _ (List.mem_append.2 (.inl (weights_all hd n hn))))⟩
  have := h _ (List.mem_cons_self ..)
  rw [reach_val] at this
  exact this
theorem Wt.agg {t : TypeId} {fs : Array Field} {l : List (DataW H)} (h : Wt t (.agg l)) (ht : Try.prog.underlying t = some (.struct fs)) {j : Nat} {f : Field} {d : DataW H} (hf : fs[j]? = some f) (hd : l[j]? = some d) : Wt f.type d := by
  intro n hn
  refine h n ?_
  simp only [DataW.weights, ht]
  exact DataW.weights_mem_each (j := j) (t := f.type) (by simp [hf]) hd n hn

/-- Bytes. -/
theorem op_bytes {fuel : Nat} {cs : List Value} {x : DataW H × List MemPlace} (h : DataW.trod enc Try.prog W base spare held fuel 26 cs = some x) (hw : Wt 26 x.1) (hsp : ∀ k, spare k = true) :
    ∃ A n c l, cs = [.slice A n c] ∧ BR W A n l ∧ n ≤ c ∧ c ≤ 140737488351232 := by
  rcases open_ints Try.underlying26 Try.underlying5 cells_u8 h with ⟨rfl, rfl⟩ | ⟨a, n, c, zs, rfl, _, hl, hm, hz, rfl, hcell, hwz⟩
  · exact ⟨none, 0, 0, [], rfl, BR.none_ _ _, Nat.le_refl _, by omega⟩
  · have hc := (Wt.slice hw Try.underlying26).1
    rw [bytes_u8] at hc
    rw [hsp] at hz
    simp only [if_true] at hz
    simp only [lits, List.length_map, List.length_take, List.length_drop] at hc
    refine ⟨some a, n, c, (zs.take n).map fun z => UInt8.ofNat z.toNat, rfl, ⟨by simp; omega, fun _ => ⟨a, rfl, fun j u hu => ?_⟩⟩, hl, by omega⟩
    have hj : j < n := by
      rcases Nat.lt_or_ge j n with h | h
      · exact h
      · rw [List.getElem?_eq_none (by simp; omega)] at hu
        cases hu
    have hjz : j < zs.length := by omega
    rw [hcell j hjz]
    have hr := bounds_u8 (hwz zs[j] (List.getElem_mem hjz))
    simp [hj, List.getElem?_eq_getElem hjz, bv] at hu
    rw [← hu]
    simp [List.getD, List.getElem?_eq_getElem hjz]
    omega

theorem cells_int : Try.prog.cellsOf 3 = 1 := by kernel_rfl
theorem bytes_int : Try.prog.bytesOf 3 = 8 := by kernel_rfl
theorem cells_bytes : Try.prog.cellsOf 26 = 1 := by kernel_rfl

/-- Ints. -/
theorem op_ints {fuel : Nat} {cs : List Value} {x : DataW H × List MemPlace} (h : DataW.trod enc Try.prog W base spare held fuel 32 cs = some x) (hw : Wt 32 x.1) (hsp : ∀ k, spare k = true) :
    ∃ A n c l, cs = [.slice A n c] ∧ IR W A n l ∧ n ≤ c ∧ c ≤ 17592186043904 ∧ ∀ z ∈ l, -9223372036854775808 ≤ z ∧ z ≤ 9223372036854775807 := by
  rcases open_ints Try.underlying32 Try.underlying3 cells_int h with ⟨rfl, rfl⟩ | ⟨a, n, c, zs, rfl, _, hl, hm, hz, rfl, hcell, hwz⟩
  · exact ⟨none, 0, 0, [], rfl, IR.none_ _ _, Nat.le_refl _, by omega, fun z hz => by cases hz⟩
  · have hc := (Wt.slice hw Try.underlying32).1
    rw [bytes_int] at hc
    rw [hsp] at hz
    simp only [if_true] at hz
    simp only [lits, List.length_map, List.length_take, List.length_drop] at hc
    refine ⟨some a, n, c, zs.take n, rfl, ⟨by simp; omega, fun _ => ⟨a, rfl, fun j u hu => ?_⟩⟩, hl, by omega, fun z hz => bounds_i64 (hwz z (List.mem_of_mem_take hz))⟩
    have hj : j < n := by
      rcases Nat.lt_or_ge j n with h | h
      · exact h
      · rw [List.getElem?_eq_none (by simp; omega)] at hu
        cases hu
    have hjz : j < zs.length := by omega
    rw [hcell j hjz]
    simp [hj, List.getElem?_eq_getElem hjz] at hu
    rw [← hu]
    simp [List.getD, List.getElem?_eq_getElem hjz]
end

end Go.Proofs.Ytmdgnjmhbjdlmaa
