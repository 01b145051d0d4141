/-
  Texts of this claim, joined: PlL, PoU. No statement of the program is proved here.
-/
import Derived.Test.YtmdgnjmhbjdlmaaPkA6
import Derived.Test.YtmdgnjmhbjdlmaaPkA7
/-! PlL -/
namespace Go.Proofs.Ytmdgnjmhbjdlmaa
open Go.RowKit

/-- Where it stands in a row that holds nothing twice. -/
theorem idx_nd {α : Type} [BEq α] [LawfulBEq α] {l : List α} (h : l.Nodup) {i : Nat} {x : α} (hi : l[i]? = some x) : l.idxOf x = i := by
  obtain ⟨hl, e⟩ := List.getElem?_eq_some_iff.1 hi
  rw [← e]
  exact h.idxOf_getElem i hl
theorem sealed_c {l : List UInt8} (h : openE l = 0) : openP l = (l.drop 8).take 4080 := by
  unfold openE at h
  unfold openP
  split at h
  · rename_i hs
    rw [if_pos hs]
  · cases h

/-! Payloads are told apart by their bytes 0 and 64. -/
def keyN (l : List UInt8) : Nat := (l.getD 0 0).toNat + 256 * (l.getD 64 0).toNat
def keyM (seed : Int) : Nat := (UInt8.ofNat (madeX seed 1 / 1099511627776 % 256).toNat).toNat + 256 * (UInt8.ofNat (madeX seed 65 / 1099511627776 % 256).toNat).toNat
theorem madeL_at (seed : Int) (n i : Nat) (h : i < n) : (madeL seed n).getD i 0 = UInt8.ofNat (madeX seed (i + 1) / 1099511627776 % 256).toNat := by
  unfold madeL
  rw [List.getD_eq_getElem?_getD, List.getElem?_map, List.getElem?_range h]
  rfl
theorem keyN_made (seed : Int) : keyN (madeL seed 4080) = keyM seed := by
  unfold keyN keyM
  rw [madeL_at _ _ 0 (by omega), madeL_at _ _ 64 (by omega)]
theorem keyN_zP : keyN zP = 0 := by
  unfold keyN zP
  rw [List.getD_eq_getElem?_getD, List.getD_eq_getElem?_getD, List.getElem?_replicate, List.getElem?_replicate, if_pos (by omega), if_pos (by omega)]
  rfl
def keyT : List Nat := [58970, 9505, 25576, 41392, 57207, 7742, 23557, 39629, 55700, 5979, 21794, 38121, 53937, 4216, 20031, 36102, 52174, 2453, 18524, 34339, 50410, 946, 16761, 32576, 48391, 64719, 14998, 30813, 46884, 62956, 13235, 29306, 45121, 60936, 11472, 27543, 43358, 59173, 9965, 25780, 41595, 57666, 7946, 24017, 39832, 55903, 6182, 22254, 38325, 54140, 4419, 20491, 36562, 52377, 2656, 18728, 34799, 50614, 1149, 16964, 32780, 49107, 64922, 15201, 31017, 47344, 63159, 13438, 29509, 45325, 61396, 11931, 27746, 43562, 59633, 10168, 25983, 41799, 57870, 8405]
set_option maxRecDepth 100000 in
theorem keys : (List.range 80).map (fun i : Nat => keyM (1000 + (i : Int))) = keyT := by decide +kernel
theorem keyT_nd : keyT.Nodup := by decide +kernel
theorem keyT_no : 0 ∉ keyT := by decide +kernel
theorem key_at {i : Nat} (h : i < 80) : keyT[i]? = some (keyM (1000 + (i : Int))) := by
  rw [← keys, List.getElem?_map, List.getElem?_range h]
  rfl
theorem made_ne {i j : Nat} (hi : i < 80) (hj : j < 80) (h : i ≠ j) : madeL (1000 + (i : Int)) 4080 ≠ madeL (1000 + (j : Int)) 4080 := fun e => by
  have e2 := congrArg keyN e
  rw [keyN_made, keyN_made] at e2
  have h1 := (idx_nd keyT_nd (key_at hi))
  have h2 := (idx_nd keyT_nd (key_at hj))
  rw [e2] at h1
  exact h (h1.symm.trans h2)
theorem made_nz {i : Nat} (hi : i < 80) : madeL (1000 + (i : Int)) 4080 ≠ zP := fun e => by
  have e2 := congrArg keyN e
  rw [keyN_made, keyN_zP] at e2
  refine keyT_no ?_
  rw [← e2]
  exact List.mem_of_getElem? (key_at hi)

/-- What has been set: payloads of the first i rounds, no two alike. -/
structure SetI (sets : List (List UInt8)) (i : Nat) : Prop where
  of : ∀ m ∈ sets, ∃ x, x < i ∧ m = madeL (1000 + (x : Int)) 4080
  nd : sets.Nodup
  le : sets.length ≤ i
theorem SetI.nil : SetI [] 0 := ⟨fun m h => (by cases h), List.nodup_nil, Nat.le_refl _⟩
theorem SetI.up {sets : List (List UInt8)} {i : Nat} (h : SetI sets i) : SetI sets (i + 1) := ⟨fun m hm => by
  obtain ⟨x, h1, h2⟩ := h.of m hm
  exact ⟨x, by omega, h2⟩, h.nd, Nat.le_succ_of_le h.le⟩
theorem SetI.push {sets : List (List UInt8)} {i : Nat} (h : SetI sets i) (hi : i < 80) : SetI (sets ++ [madeL (1000 + (i : Int)) 4080]) (i + 1) := by
  refine ⟨fun m hm => ?_, ?_, ?_⟩
  · rcases List.mem_append.1 hm with e | e
    · exact h.up.of m e
    · exact ⟨i, Nat.lt_succ_self _, List.mem_singleton.1 e⟩
  · rw [List.nodup_append]
    refine ⟨h.nd, (List.nodup_cons.2 ⟨by simp, List.nodup_nil⟩), fun a ha b hb e => ?_⟩
    obtain ⟨x, h1, h2⟩ := h.of a ha
    rw [List.mem_singleton.1 hb, h2] at e
    exact made_ne (by omega) hi (by omega) e
  · rw [List.length_append, List.length_singleton]
    have := h.le
    omega
theorem SetI.no {sets : List (List UInt8)} {i : Nat} (h : SetI sets i) (hi : i ≤ 80) : zP ∉ sets := fun e => by
  obtain ⟨x, h1, h2⟩ := h.of _ e
  exact made_nz (by omega) h2.symm

/-- Noughts, or what was set with a number that is synced. -/
def Allow (sets : List (List UInt8)) (s : Nat) (m : List UInt8) : Prop := m = zP ∨ ∃ j, j < s ∧ sets[j]? = some m
/-- A frame holds what may be on the disk, or what was set with its number. -/
def Fine (sets : List (List UInt8)) (s : Nat) (f : FrS) : Prop := Allow sets s f.pay ∨ ∃ j : Nat, f.lsn = (j : Int) + 1 ∧ sets[j]? = some f.pay
/-- A block that tells what may be on the disk. -/
def OkB (sets : List (List UInt8)) (s : Nat) (b : List UInt8) : Prop := b.length = 4096 ∧ openE b = 0 ∧ Allow sets s (openP b)
structure LI (sets : List (List UInt8)) (s : Nat) (bs : List (List UInt8)) (ps : List (Nat × List UInt8)) (P : PoS) : Prop where
  n6 : bs.length = 6
  pi : PI (calmD bs ps) P
  ba : P.base = 0
  pg : P.pages = 6
  fr : ∀ f ∈ P.fr, Fine sets s f
  disk : ∀ p, p < 6 → OkB sets s (lastL bs ps p)
def LRs (sets : List (List UInt8)) (s : Nat) (r : Res) : Prop := ∃ bs ps, r.1 = calmD bs ps ∧ LI sets s bs ps r.2.1
section
variable {sets : List (List UInt8)} {s : Nat} {bs : List (List UInt8)} {ps : List (Nat × List UInt8)} {P : PoS}
theorem Allow.up {m : List UInt8} (h : Allow sets s m) {s' : Nat} (hs : s ≤ s') (x : List (List UInt8)) : Allow (sets ++ x) s' m := by
  rcases h with h | ⟨j, h1, h2⟩
  · exact .inl h
  · exact .inr ⟨j, by omega, by rw [List.getElem?_append_left (List.getElem?_eq_some_iff.1 h2).1]; exact h2⟩
theorem LI.up (h : LI sets s bs ps P) {s' : Nat} (hs : s ≤ s') (x : List (List UInt8)) : LI (sets ++ x) s' bs ps P := by
  refine ⟨h.n6, h.pi, h.ba, h.pg, fun f hf => ?_, fun p hp => ⟨(h.disk p hp).1, (h.disk p hp).2.1, (h.disk p hp).2.2.up hs x⟩⟩
  rcases h.fr f hf with h | ⟨j, h1, h2⟩
  · exact .inl (h.up hs x)
  · exact .inr ⟨j, h1, by rw [List.getElem?_append_left (List.getElem?_eq_some_iff.1 h2).1]; exact h2⟩
theorem LI.sync (h : LI sets s bs ps P) {s' : Nat} (hs : s ≤ s') : LI sets s' bs ps P := by
  have := h.up hs []
  rwa [List.append_nil] at this
theorem LI.fpg (h : LI sets s bs ps P) {i : Nat} (hi : i < P.fr.length) : (P.fr.getD i fr0).page < 6 := by
  have := (h.pi.ok _ (getD_mem (d := fr0) hi)).1
  rw [h.pg] at this
  exact this
/-- A frame is written, or the log refuses. -/
theorem LI.write (h : LI sets s bs ps P) {n : Nat} (hn : n < P.fr.length) : LRs sets s (writeR (some (s : Int)) (calmD bs ps) P n) := by
  have hp6 := h.fpg hn
  have hmem := getD_mem (d := fr0) hn
  have hok := h.pi.ok _ hmem
  have hb : P.base + (P.fr.getD n fr0).page < bs.length := by rw [h.ba, h.n6]; omega
  by_cases ha : asksE (some (s : Int)) (P.fr.getD n fr0).lsn ≠ 0
  · rw [writeR_at (some (s : Int)) (calmD bs ps) P n _ rfl, if_pos ha]
    exact ⟨bs, ps, rfl, h⟩
  · have hw : writeR (some (s : Int)) (calmD bs ps) P n = (calmD bs (ps ++ [(P.base + (P.fr.getD n fr0).page, blockP (stampN P) (P.fr.getD n fr0).pay)]), { P with fr := P.fr.set n { P.fr.getD n fr0 with dirty := false }, count := P.count + 1 }, 0) := by
      rw [writeR_at (some (s : Int)) (calmD bs ps) P n _ rfl, if_neg ha, writeE_calm bs ps _ hb, if_neg (by decide), writeD_calm bs ps _ _ hb (blockP_len hok.2.1)]
    have hal : Allow sets s (P.fr.getD n fr0).pay := by
      rcases h.fr _ hmem with e | ⟨j, e1, e2⟩
      · exact e
      · refine .inr ⟨j, ?_, e2⟩
        rw [e1] at ha
        have : ¬ ((s : Int) < (j : Int) + 1) := fun hlt => ha (by show (if (s : Int) < (j : Int) + 1 then (4 : Int) else 0) ≠ 0; rw [if_pos hlt]; decide)
        omega
    have hpi := h.pi.write (some (s : Int)) hn
    rw [hw] at hpi
    rw [hw]
    refine ⟨bs, _, rfl, h.n6, hpi, h.ba, h.pg, fun f hf => ?_, fun p hp => ?_⟩
    · rcases List.mem_or_eq_of_mem_set hf with e | e
      · exact h.fr f e
      · rw [e]
        exact h.fr (P.fr.getD n fr0) hmem
    · rw [lastL_snoc, h.ba, Nat.zero_add]
      by_cases e : (P.fr.getD n fr0).page = p
      · rw [if_pos e]
        have := open_blockP (stampN P) (P.fr.getD n fr0).pay hok.2.1
        exact ⟨blockP_len hok.2.1, this.1, by rw [this.2]; exact hal⟩
      · rw [if_neg e]
        exact h.disk p hp
/-- Frames that were marked otherwise. -/
theorem LI.alike (h : LI sets s bs ps P) {fr : List FrS} (ha : Alike P.fr fr) {hd : Nat} (hh : hd < P.most) : LI sets s bs ps { P with fr := fr, hand := hd } := by
  refine ⟨h.n6, h.pi.alike ha hh, h.ba, h.pg, fun f hf => ?_, h.disk⟩
  obtain ⟨i, hi⟩ := List.getElem?_of_mem (show f ∈ fr from hf)
  have hil : i < fr.length := (List.getElem?_eq_some_iff.1 hi).1
  have hil' : i < P.fr.length := by rw [ha.1]; exact hil
  obtain ⟨u, hu⟩ := ha.2 i hil'
  have e : fr.getD i fr0 = f := by rw [List.getD_eq_getElem?_getD, hi]; rfl
  rw [← e, hu]
  exact h.fr (P.fr.getD i fr0) (getD_mem hil')
theorem LI.spn (h : LI sets s bs ps P) : LI sets s bs ps (spun P) := h.alike (spinF_alike _ _ _ _ (Alike.refl _)) (spinF_hand _ (by have := h.pi.m1; omega) _ _ _ h.pi.hd)
/-- A frame comes into the hand's place. -/
theorem LI.put (h : LI sets s bs ps P) {f : FrS} (hpi : PI (calmD bs ps) (putP P f)) (hf : Fine sets s f) : LI sets s bs ps (putP P f) := by
  refine ⟨h.n6, hpi, h.ba, h.pg, fun g hg => ?_, h.disk⟩
  rcases List.mem_or_eq_of_mem_set (show g ∈ P.fr.set P.hand f from hg) with e | e
  · exact h.fr g e
  · rw [e]; exact hf
theorem LI.push (h : LI sets s bs ps P) {f : FrS} (hpi : PI (calmD bs ps) (pushP P f)) (hf : Fine sets s f) : LI sets s bs ps (pushP P f) := by
  refine ⟨h.n6, hpi, h.ba, h.pg, fun g hg => ?_, h.disk⟩
  rcases List.mem_append.1 (show g ∈ P.fr ++ [f] from hg) with e | e
  · exact h.fr g e
  · rw [List.mem_singleton.1 e]; exact hf
theorem LI.hold (h : LI sets s bs ps P) {f : FrS} (hp : f.page < 6) (hl : f.pay.length = 4080) (h1 : 0 ≤ f.lsn) (h2 : f.lsn ≤ 9223372036854775807) (hn : f.page ∉ P.fr.map FrS.page) (hf : Fine sets s f) :
    LRs sets s (holdR (some (s : Int)) (calmD bs ps) P f) := by
  have hpi := h.pi.hold (some (s : Int)) (f := f) (by rw [h.pg]; exact hp) hl h1 h2 hn
  unfold holdR at hpi ⊢
  by_cases hr : P.fr.length < P.most
  · rw [if_pos hr] at hpi ⊢
    exact ⟨bs, ps, rfl, h.push hpi hf⟩
  · rw [if_neg hr] at hpi ⊢
    have hs := h.spn
    have hsl := spun_len P
    have hle := h.pi.len
    have hfull : (spun P).fr.length = (spun P).most := by
      have e : (spun P).most = P.most := rfl
      omega
    have hh : (spun P).hand < (spun P).fr.length := by rw [hfull]; exact hs.pi.hd
    by_cases hdt : ((spun P).fr.getD (spun P).hand fr0).dirty = true
    · rw [if_pos hdt] at hpi ⊢
      obtain ⟨bs', ps', e1, ht⟩ := hs.write hh
      by_cases he : (writeR (some (s : Int)) (calmD bs ps) (spun P) (spun P).hand).2.2 ≠ 0
      · rw [if_pos he]
        exact ⟨bs', ps', e1, ht⟩
      · rw [if_neg he] at hpi ⊢
        dsimp only at hpi
        rw [e1] at hpi
        exact ⟨bs', ps', e1, ht.put hpi hf⟩
    · rw [if_neg hdt] at hpi ⊢
      exact ⟨bs, ps, rfl, hs.put hpi hf⟩
theorem LI.ask (h : LI sets s bs ps P) {p : Nat} (hp : p < 6) : askP P (p : Int) = 0 := by
  unfold askP
  rw [h.pg, if_neg (by omega)]
theorem LI.get (h : LI sets s bs ps P) {p : Nat} (hp : p < 6) : LRs sets s (getR (some (s : Int)) (calmD bs ps) P (p : Int)) := by
  unfold getR
  rw [h.ask hp, if_neg (show ¬ ((0 : Int) ≠ 0) from fun h => h rfl), Int.toNat_natCast]
  cases hi : findP P p with
  | some i => exact ⟨bs, ps, rfl, h.alike (fr := P.fr.set i { P.fr.getD i fr0 with used := true }) ((Alike.refl P.fr).set i true) h.pi.hd⟩
  | none =>
    have hno := (findP_none P p).1 hi
    have hb : p < bs.length := by rw [h.n6]; exact hp
    have hk := h.disk p hp
    have e1 := readE_calm bs ps p hb
    have e2 := readL_calm bs ps p hb
    rw [← e2] at hk
    dsimp only
    rw [h.ba, Nat.zero_add, e1, if_neg (show ¬ ((0 : Int) ≠ 0) from fun h => h rfl), hk.2.1, if_neg (show ¬ ((0 : Int) ≠ 0) from fun h => h rfl)]
    refine h.hold (f := ⟨p, openP (readL (calmD bs ps) (p : Int)), 0, false, true⟩) hp ?_ (Int.le_refl _) (by show (0 : Int) ≤ _; omega) hno (.inl hk.2.2)
    show (openP (readL (calmD bs ps) (p : Int))).length = 4080
    rw [sealed_c hk.2.1, List.length_take, List.length_drop, hk.1]
    omega
theorem LI.set_ (h : LI sets s bs ps P) {p j : Nat} (hp : p < 6) {l : List UInt8} (hl : l.length = 4080) (hj : sets[j]? = some l) (hj2 : j ≤ 1000000) : LRs sets s (setR (some (s : Int)) (calmD bs ps) P (p : Int) l ((j : Int) + 1)) := by
  have hf : Fine sets s ⟨p, l, (j : Int) + 1, true, true⟩ := .inr ⟨j, rfl, hj⟩
  have hse : setE P (p : Int) l.length ((j : Int) + 1) = 0 := by
    unfold setE
    rw [h.ask hp, if_neg (by decide), if_neg (by omega)]
  have h1 : (0 : Int) ≤ (j : Int) + 1 := by omega
  have h2 : (j : Int) + 1 ≤ 9223372036854775807 := by omega
  unfold setR
  rw [hse, if_neg (show ¬ ((0 : Int) ≠ 0) from fun h => h rfl), Int.toNat_natCast]
  cases hi : findP P p with
  | some i =>
    obtain ⟨hil, hip⟩ := findP_some hi
    refine ⟨bs, ps, rfl, h.n6, h.pi.set (f := ⟨p, l, (j : Int) + 1, true, true⟩) hil hip.symm hl h1 h2, h.ba, h.pg, fun g hg => ?_, h.disk⟩
    rcases List.mem_or_eq_of_mem_set (show g ∈ P.fr.set i ⟨p, l, (j : Int) + 1, true, true⟩ from hg) with e | e
    · exact h.fr g e
    · rw [e]; exact hf
  | none => exact h.hold (f := ⟨p, l, (j : Int) + 1, true, true⟩) hp hl h1 h2 ((findP_none P p).1 hi) hf
theorem LI.flushF_ : ∀ (l : List Nat) {bs : List (List UInt8)} {ps : List (Nat × List UInt8)} {P : PoS}, LI sets s bs ps P → (∀ x ∈ l, ∃ i, findP P x = some i) → LRs sets s (flushF (some (s : Int)) l (calmD bs ps) P)
  | [], bs, ps, P, h, _ => ⟨bs, ps, rfl, h⟩
  | x :: l, bs, ps, P, h, hl => by
    obtain ⟨n, hn⟩ := hl x (List.mem_cons_self ..)
    obtain ⟨hnl, hnx⟩ := findP_some hn
    obtain ⟨bs', ps', e1, ht⟩ := h.write hnl
    rw [flushF, hn, Option.getD_some]
    by_cases he : (writeR (some (s : Int)) (calmD bs ps) P n).2.2 ≠ 0
    · rw [if_pos he]
      exact ⟨bs', ps', e1, ht⟩
    · rw [if_neg he, e1]
      exact LI.flushF_ l ht (fun y hy => by
        obtain ⟨i, hi⟩ := hl y (List.mem_cons_of_mem _ hy)
        exact ⟨i, by rw [findP_pages (P := P) (writeR_pages _ _ _ _)]; exact hi⟩)
theorem LI.flush (h : LI sets s bs ps P) : LRs sets s (flushR (some (s : Int)) (calmD bs ps) P) := by
  obtain ⟨bs', ps', e1, ht⟩ := LI.flushF_ (dirtyL P) h (fun x hx => heldL_mem (dirtyL_held hx))
  unfold flushR
  by_cases he : (flushF (some (s : Int)) (dirtyL P) (calmD bs ps) P).2.2 ≠ 0
  · rw [if_pos he]
    exact ⟨bs', ps', e1, ht⟩
  · rw [if_neg he, e1]
    have hlen : (carry bs' ps').length = 6 := by rw [carry_len]; exact ht.n6
    refine ⟨carry bs' ps', [], rfl, hlen, ht.pi.disk (show (carry bs' ps').length = bs'.length by rw [carry_len]), ht.ba, ht.pg, ht.fr, fun p hp => ?_⟩
    have e : lastL (carry bs' ps') [] p = lastL bs' ps' p := by
      show (carry bs' ps').getD p [] = _
      exact carry_at ps' bs' p (by rw [ht.n6]; exact hp)
    rw [e]
    exact ht.disk p hp
/-- A new pool: noughts everywhere. -/
theorem LI.new (f : Nat) (h2 : 2 ≤ f) (h3 : f ≤ 256) : LI [] 0 (List.replicate 6 zer) [] (newP 0 6 f 1 0) := by
  refine ⟨List.length_replicate .., ⟨by show 0 + 6 ≤ (List.replicate 6 zer).length; rw [List.length_replicate]; omega, by show (List.replicate 6 zer).length ≤ _; rw [List.length_replicate]; omega, h2, h3, by show 1 ≤ 4294967295; omega, Nat.zero_le _, by show 0 < f; omega, fun f hf => (by cases hf), List.nodup_nil⟩, rfl, rfl, fun f hf => (by cases hf), fun p hp => ?_⟩
  have e : lastL (List.replicate 6 zer) [] p = zer := by
    show (List.replicate 6 zer).getD p [] = _
    rw [List.getD_eq_getElem?_getD, List.getElem?_replicate, if_pos hp]
    rfl
  rw [e]
  exact ⟨by unfold zer; exact List.length_replicate .., open_zer.1, .inl open_zer.2⟩
/-- No block tells what was set with a number that is not synced. -/
theorem LI.tell (h : LI sets s bs ps P) {i : Nat} (hs : SetI sets i) (hi : i ≤ 80) {p : Nat} (hp : p < 6) : readE (calmD bs ps) (p : Int) = 0 ∧ (readL (calmD bs ps) (p : Int)).length = 4096 ∧
    ∀ j, s ≤ j → j < sets.length → (((readL (calmD bs ps) (p : Int)).drop 8).take 4080 == sets.getD j []) = false := by
  have hb : p < bs.length := by rw [h.n6]; exact hp
  have hk := h.disk p hp
  rw [← readL_calm bs ps p hb] at hk
  refine ⟨readE_calm bs ps p hb, hk.1, fun j hj hjl => ?_⟩
  rw [← sealed_c hk.2.1]
  refine beq_eq_false_iff_ne.2 fun e => ?_
  have hsj : sets[j]? = some (sets.getD j []) := by rw [List.getD_eq_getElem?_getD, List.getElem?_eq_getElem hjl]; rfl
  rcases hk.2.2 with e2 | ⟨x, hx, e2⟩
  · rw [e2] at e
    refine hs.no hi ?_
    rw [e]
    exact List.mem_of_getElem? hsj
  · rw [e] at e2
    have h1 := idx_nd hs.nd e2
    have h2 := idx_nd hs.nd hsj
    omega
end

end Go.Proofs.Ytmdgnjmhbjdlmaa

/-! PoU -/
namespace Go.Proofs.Ytmdgnjmhbjdlmaa
open Go Go.RowKit Go.Maps

theorem run_enter {P : Program} {f : FuncId} {fn : Func} {c : Code} (hf : P.funcs[f]? = some fn) (hname : (fn.name == "runtime.NumGoroutine") = false) (hb : fn.body = some c) (args : Array Value) (w : World) : (callFunc f args).run P w = .ok (.enter f args) w := by
  have h1 : fn.name ≠ "runtime.NumGoroutine" := by simpa using hname
  simp [callFunc, hf, h1, hb]
theorem wal_enter (args : Array Value) (w : World) : (callFunc 20 args).run Try.prog w = .ok (.enter 20 args) w :=
  run_enter (fn := Try.f20) rfl (by kernel_rfl) rfl args w
theorem wal_any {w : World} {gl : Nat} {s : Int} (hc : w.cell? ⟨gl, 0, none⟩ = some (.int .i64 s)) (n : Int) :
    Calls Try.prog 20 #[.int .i64 n, .pointer (some ⟨gl, 0, none⟩)] w fun e w' => e = .returned (.int .i64 (asksE (some s) n)) ∧ w = w' := by
  by_cases hlt : s < n
  · have t1 : decide (n > s) = true := decide_eq_true hlt
    have t2 : decide (s < n) = true := decide_eq_true hlt
    have e : asksE (some s) n = 4 := if_pos hlt
    rw [e]
    go_enter Try.func20, Try.ntmps20
    go_wp2_with fail
    go_ret
    exact ⟨rfl, rfl⟩
  · have t1 : decide (n > s) = false := decide_eq_false hlt
    have t2 : decide (s < n) = false := decide_eq_false hlt
    have e : asksE (some s) n = 0 := if_neg hlt
    rw [e]
    go_enter Try.func20, Try.ntmps20
    go_wp2_with fail
    go_ret
    exact ⟨rfl, rfl⟩
/-- The log: a function that reads the box gl. -/
def walF (gl : Nat) : Value := .func (.func 20) #[] #[.pointer (some ⟨gl, 0, none⟩)]
def BoxI (w : World) (gl : Nat) (s : Int) : Prop := w.heap[gl]? = some (.cells #[.int .i64 s] 3 (0, 0))
theorem BoxI.lv {w : World} {gl : Nat} {s : Int} (h : BoxI w gl s) {S : Nat → Prop} (hS : ¬ S gl) : LogV w (walF gl) (some s) S := by
  refine .inr ⟨_, _, s, rfl, rfl, wal_enter, fun n W _ ho => wal_any ?_ n⟩
  rw [cell_of_row W gl 0 _ _ _ ((ho.block gl (Array.getElem?_eq_some_iff.1 h).1 hS).trans h)]
  rfl
theorem PJ.relog {T : Nat → Prop} {w0 w w' : World} {gd gp : Nat} {wv : Value} {L L' : Option Int} {D : DiskS} {P : PoS} {S : Nat → Prop} (h : PJ w0 w gd gp wv L D P S) (ho : Off T w w') (hT : ∀ k, S k → ¬ T k) (hb : ∀ k, T k → w0.heap.size ≤ k) (hl : LogV w' wv L' S) : PJ w0 w' gd gp wv L' D P S := by
  obtain ⟨F, ok, tv, mb, q, hx, hs⟩ := h.ex
  exact ⟨h.bel.trans (ho.below hb h.bel.size), ⟨F, ok, tv, mb, q, hx.off ho (fun k e => hT k ((hs k).2 e)), hs⟩, h.sb, hl⟩

/-- What was set, in memory. -/
def s4 (g : Nat) : Value := .slice (some ⟨g, 0, none⟩) 4080 4080
structure SetM (b0 : Nat) (w : World) (v : Value) (sets : List (List UInt8)) (S : Nat → Prop) : Prop where
  ex : ∃ gs : List Nat, gs.length = sets.length ∧ w.ownsRow b0 26 1 v sets.length (gs.map s4) ∧ ∀ j, j < sets.length → BB w (gs.getD j 0) (sets.getD j []) ∧ ¬ S (gs.getD j 0) ∧ b0 ≤ gs.getD j 0
  no : ∀ k, v.ownBlock = some k → ¬ S k
section
variable {b0 gl : Nat} {w w' : World} {v : Value} {sets : List (List UInt8)} {S S' : Nat → Prop}
theorem SetM.nil (b0 : Nat) (w : World) (S : Nat → Prop) : SetM b0 w (.slice none 0 0) [] S := ⟨⟨[], rfl, ⟨rfl, .inl ⟨rfl, rfl⟩⟩, fun j hj => absurd hj (Nat.not_lt_zero _)⟩, fun k e => by simp [Value.ownBlock] at e⟩
theorem SetM.mv (h : SetM b0 w v sets S) (hm : Mv S S' w w') : SetM b0 w' v sets S' := by
  obtain ⟨⟨gs, h1, h2, h3⟩, h4⟩ := h
  have hlt : ∀ k, v.ownBlock = some k → k < w.heap.size := fun k e => (h2.lt k e).2
  refine ⟨⟨gs, h1, ownsRow_off h2 hm.1 h4, fun j hj => ?_⟩, fun k e e2 => ?_⟩
  · obtain ⟨e1, e2, e3⟩ := h3 j hj
    refine ⟨(hm.1.block _ e1.lt e2).trans e1, fun e => ?_, e3⟩
    rcases hm.2 _ e with e | e
    · exact e2 e
    · have := e1.lt
      omega
  · rcases hm.2 k e2 with e3 | e3
    · exact h4 k e e3
    · have := hlt k e
      omega
theorem SetM.below (h : SetM b0 w v sets S) (hb : Below w.heap.size w w') : SetM b0 w' v sets S := h.mv (Mv.of_below hb)
theorem SetM.box (h : SetM b0 w v sets S) {s : Int} (hB : BoxI w gl s) (x : Value) : SetM b0 (w.setCell ⟨gl, 0, none⟩ x) v sets S := by
  obtain ⟨⟨gs, h1, h2, h3⟩, h4⟩ := h
  have ho : Off (· = gl) w (w.setCell ⟨gl, 0, none⟩ x) := (Off.refl _ w).setCell _ rfl
  refine ⟨⟨gs, h1, ownsRow_off h2 ho (fun k e e2 => ?_), fun j hj => ?_⟩, h4⟩
  · obtain ⟨cur, hc⟩ := own_blk h2 e
    rw [e2, hB] at hc
    cases hc
  · obtain ⟨e1, e2, e3⟩ := h3 j hj
    exact ⟨(ho.block _ e1.lt (e1.ne hB (by decide))).trans e1, e2, e3⟩
theorem SetM.at_ (h : SetM b0 w v sets S) {j : Nat} (hj : j < sets.length) (hl : (sets.getD j []).length = 4080) : ∃ q g c, v = .slice (some ⟨q, 0, none⟩) sets.length c ∧ w.cell? ⟨q, j, none⟩ = some (s4 g) ∧ BR w (some ⟨g, 0, none⟩) 4080 (sets.getD j []) := by
  obtain ⟨⟨gs, h1, h2, h3⟩, h4⟩ := h
  obtain ⟨e1, _, _⟩ := h3 j hj
  rcases h2.2 with ⟨_, e0⟩ | ⟨q, cap, cur, rfl, hb, hg, hn, hm, hc, ht⟩
  · omega
  · refine ⟨q, gs.getD j 0, cap, rfl, ?_, bb_br e1 hl⟩
    have := World.ownsRow.cells h2 (g := q) rfl j (s4 (gs.getD j 0)) (by rw [List.getElem?_map, List.getElem?_eq_getElem (by omega), Option.map_some, List.getD_eq_getElem?_getD, List.getElem?_eq_getElem (by omega)]; rfl)
    rw [add_plain] at this
    exact this
end

/-- All that stands between two rounds. -/
structure LG (w0 w : World) (gd gp gl : Nat) (v : Value) (sets : List (List UInt8)) (s : Nat) (bs : List (List UInt8)) (ps : List (Nat × List UInt8)) (P : PoS) (S : Nat → Prop) (i : Nat) : Prop where
  pj : PJ w0 w gd gp (walF gl) (some (s : Int)) (calmD bs ps) P S
  li : LI sets s bs ps P
  sm : SetM w0.heap.size w v sets S
  bx : BoxI w gl (s : Int)
  bn : ¬ S gl
  bb : w0.heap.size ≤ gl
  ss : s ≤ sets.length
  ct : ps.length ≤ 300 * i ∧ P.count ≤ 300 * i
section
variable {w0 w w' : World} {gd gp gl : Nat} {v : Value} {sets : List (List UInt8)} {s : Nat} {bs : List (List UInt8)} {ps : List (Nat × List UInt8)} {P : PoS} {S : Nat → Prop} {i : Nat}
theorem BoxI.lt {s : Int} (h : BoxI w gl s) : gl < w.heap.size := (Array.getElem?_eq_some_iff.1 h).1
theorem BoxI.c0 {s : Int} (h : BoxI w gl s) : w.cell? ⟨gl, 0, none⟩ = some (.int .i64 s) := by rw [cell_of_row w gl 0 _ _ _ h]; rfl
theorem BoxI.frozen {s : Int} (h : BoxI w gl s) : w.frozen? ⟨gl, 0, none⟩ = false := by
  unfold BoxI at h
  simp [World.frozen?, h]
theorem LG.below (h : LG w0 w gd gp gl v sets s bs ps P S i) (hb : Below w.heap.size w w') : LG w0 w' gd gp gl v sets s bs ps P S i :=
  ⟨h.pj.below hb, h.li, h.sm.below hb, (hb.block gl h.bx.lt).trans h.bx, h.bn, h.bb, h.ss, h.ct⟩
theorem LG.call (h : LG w0 w gd gp gl v sets s bs ps P S i) {r : Res} (hr : LRs sets s r) {S' : Nat → Prop} (hj : PJ w0 w' gd gp (walF gl) (some (s : Int)) r.1 r.2.1 S') (hm : Mv S S' w w') (hc : r.1.pending.length ≤ ps.length + 256 ∧ r.2.1.count ≤ P.count + 256) : ∃ bs' ps', LG w0 w' gd gp gl v sets s bs' ps' r.2.1 S' (i + 1) := by
  obtain ⟨bs', ps', e1, hl⟩ := hr
  rw [e1] at hj hc
  have hc1 : ps'.length ≤ ps.length + 256 := hc.1
  have hct := h.ct
  have hbx := h.bx.lt
  refine ⟨bs', ps', hj, hl, h.sm.mv hm, (hm.1.block gl hbx h.bn).trans h.bx, fun e => ?_, h.bb, h.ss, ?_⟩
  · rcases hm.2 gl e with e | e
    · exact h.bn e
    · omega
  · omega
theorem LG.next (h : LG w0 w gd gp gl v sets s bs ps P S i) : LG w0 w gd gp gl v sets s bs ps P S (i + 1) := ⟨h.pj, h.li, h.sm, h.bx, h.bn, h.bb, h.ss, by have := h.ct; omega⟩
theorem LG.turn (h : LG w0 w gd gp gl v sets s bs ps P S i) {s' : Nat} (h1 : s ≤ s') (h2 : s' ≤ sets.length) {x : Int} (hx : x = (s' : Int)) : LG w0 (w.setCell ⟨gl, 0, none⟩ (.int .i64 x)) gd gp gl v sets s' bs ps P S (i + 1) := by
  subst hx
  have ho : Off (· = gl) w (w.setCell ⟨gl, 0, none⟩ (.int .i64 (s' : Int))) := (Off.refl _ w).setCell _ rfl
  have hb : BoxI (w.setCell ⟨gl, 0, none⟩ (.int .i64 (s' : Int))) gl (s' : Int) := by
    have := h.bx
    unfold BoxI at this ⊢
    simp only [World.setCell, Array.getElem?_modify, if_pos, this]
    simp
  have hbb := h.bb
  refine ⟨h.pj.relog ho (fun k e e2 => h.bn (e2 ▸ e)) (fun k e => by omega) (hb.lv h.bn), h.li.sync h1, h.sm.box h.bx _, hb, h.bn, h.bb, h2, by have := h.ct; omega⟩
/-- One more was set: its bytes lie in g. -/
theorem LG.append (h : LG w0 w gd gp gl v sets s bs ps P S i) {gs : List Nat} (h1 : gs.length = sets.length) (h3 : ∀ j, j < sets.length → BB w (gs.getD j 0) (sets.getD j []) ∧ ¬ S (gs.getD j 0) ∧ w0.heap.size ≤ gs.getD j 0) (h2 : w.ownsRow w0.heap.size 26 1 v sets.length (gs.map s4)) {g : Nat} {m : List UInt8} (hB : BB w g m) (hS : ¬ S g) (hb : w0.heap.size ≤ g) {v4 : Value}
    (ho : w'.ownsRow w0.heap.size 26 1 v4 (sets.length + 1) (gs.map s4 ++ [s4 g])) (hg : (w.alloc (.cells #[s4 g] 26)).grownBy w' v.ownBlock) (hbl : v4.ownBlock = v.ownBlock ∨ (v4.ownBlock = some (w.heap.size + 1))) :
    LG w0 w' gd gp gl v4 (sets ++ [m]) s bs ps P S i ∧ BB w' g m := by
  have hof : Off (fun k => v.ownBlock = some k) w w' := (Off.of_below (gr_alloc (gr_refl w) _)).trans (Off.of_grown hg (fun k e => e))
  have hne : ∀ x l, BB w x l → ¬ v.ownBlock = some x := fun x l hx e => by
    obtain ⟨cur, hc⟩ := own_blk h2 e
    exact hx.ne hc (by decide) rfl
  have hbb : ∀ x l, BB w x l → BB w' x l := fun x l hx => (hof.block x hx.lt (hne x l hx)).trans hx
  have hgl : ¬ v.ownBlock = some gl := fun e => by
    obtain ⟨cur, hc⟩ := own_blk h2 e
    have := h.bx
    unfold BoxI at this
    rw [this] at hc
    cases hc
  have hbx : BoxI w' gl (s : Int) := (hof.block gl h.bx.lt hgl).trans h.bx
  have hlg : (gs ++ [g]).length = (sets ++ [m]).length := by simp [h1]
  refine ⟨⟨h.pj.relog hof (fun k e e2 => h.sm.no k e2 e) (fun k e => (h2.lt k e).1) (hbx.lv h.bn), h.li.up (Nat.le_refl _) [m], ⟨⟨gs ++ [g], hlg, ?_, fun j hj => ?_⟩, fun k e e2 => ?_⟩, hbx, h.bn, h.bb, ?_, h.ct⟩, hbb g m hB⟩
  · rw [List.length_append, List.map_append]
    exact ho
  · rw [List.length_append, List.length_singleton] at hj
    by_cases e : j < sets.length
    · obtain ⟨e1, e2, e3⟩ := h3 j e
      rw [show (gs ++ [g]).getD j 0 = gs.getD j 0 by rw [List.getD_eq_getElem?_getD, List.getElem?_append_left (by omega), ← List.getD_eq_getElem?_getD], show (sets ++ [m]).getD j [] = sets.getD j [] by rw [List.getD_eq_getElem?_getD, List.getElem?_append_left e, ← List.getD_eq_getElem?_getD]]
      exact ⟨hbb _ _ e1, e2, e3⟩
    · obtain rfl : j = sets.length := by omega
      rw [show (gs ++ [g]).getD sets.length 0 = g by rw [← h1, List.getD_eq_getElem?_getD, List.getElem?_append_right (Nat.le_refl _), Nat.sub_self]; rfl, show (sets ++ [m]).getD sets.length [] = m by rw [List.getD_eq_getElem?_getD, List.getElem?_append_right (Nat.le_refl _), Nat.sub_self]; rfl]
      exact ⟨hbb _ _ hB, hS, hb⟩
  · rcases hbl with e3 | e3
    · exact h.sm.no k (e3 ▸ e) e2
    · rw [e3] at e
      injection e with e
      have := h.pj.lt e2
      omega
  · rw [List.length_append]
    have := h.ss
    omega
end

end Go.Proofs.Ytmdgnjmhbjdlmaa
