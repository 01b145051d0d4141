/-
  Plain: a disk upon which nothing is armed. Contract: the chapter's awake.
-/
import Derived.Test.YtjopobkcijkpmaaDkJ
import Derived.Test.YtjopobkcijkpmaaApt
namespace Go.Proofs.Ytjopobkcijkpmaa
open Go.RowKit

/-- Nothing is armed, and the power is there. -/
def calmD (bs : List (List UInt8)) (ps : List (Nat × List UInt8)) : DiskS := ⟨bs, ps, false, -1, -1, 0⟩

theorem newD_calm (n : Nat) : newD n = calmD (List.replicate n zer) [] := rfl
theorem opC_calm (bs : List (List UInt8)) (ps : List (Nat × List UInt8)) : opC (calmD bs ps) = 0 := rfl
theorem opS_calm (bs : List (List UInt8)) (ps : List (Nat × List UInt8)) : opS (calmD bs ps) = calmD bs ps := rfl
theorem askE_calm (bs : List (List UInt8)) (ps : List (Nat × List UInt8)) (b : Nat) (hb : b < bs.length) : askE (calmD bs ps) (b : Int) = 0 := by
  unfold askE
  rw [if_neg]
  show ¬ ((b : Int) < 0 ∨ (bs.length : Int) ≤ b)
  omega
theorem writeE_calm (bs : List (List UInt8)) (ps : List (Nat × List UInt8)) (b : Nat) (hb : b < bs.length) : writeE (calmD bs ps) (b : Int) 4096 = 0 := by
  unfold writeE
  rw [askE_calm bs ps b hb]
  rfl
theorem writeD_calm (bs : List (List UInt8)) (ps : List (Nat × List UInt8)) (b : Nat) (m : List UInt8) (hb : b < bs.length) (hm : m.length = 4096) : writeD (calmD bs ps) (b : Int) m = calmD bs (ps ++ [(b, m)]) := by
  unfold writeD
  rw [askE_calm bs ps b hb, opC_calm, opS_calm, if_neg (by simp [hm]), if_neg (by simp)]
  rfl
theorem syncD_calm (bs : List (List UInt8)) (ps : List (Nat × List UInt8)) : syncD (calmD bs ps) = calmD (carry bs ps) [] := rfl
theorem crashE_in (cut : Nat) (h : cut ≤ 4096) : crashE (cut : Int) = 0 := by unfold crashE; rw [if_neg (by omega)]
theorem crashD_in (D : DiskS) (keep : List Bool) (torn : Int) (cut : Nat) (h : cut ≤ 4096) : crashD D keep torn (cut : Int) = calmD (crashTo keep torn cut D.blocks D.pending D.pending.length) [] := by
  unfold crashD
  rw [crashE_in cut h, if_neg (by simp)]
  rfl
theorem readE_calm (bs : List (List UInt8)) (ps : List (Nat × List UInt8)) (b : Nat) (hb : b < bs.length) : readE (calmD bs ps) (b : Int) = 0 := by
  unfold readE
  rw [askE_calm bs ps b hb]
  rfl
theorem readL_calm (bs : List (List UInt8)) (ps : List (Nat × List UInt8)) (b : Nat) (hb : b < bs.length) : readL (calmD bs ps) (b : Int) = lastL bs ps b := by
  unfold readL
  rw [readE_calm bs ps b hb, if_neg (by simp)]
  rfl
theorem durL_calm (bs : List (List UInt8)) (ps : List (Nat × List UInt8)) (b : Nat) (hb : b < bs.length) : durL (calmD bs ps) (b : Int) = bs.getD b [] := by
  unfold durL
  rw [askE_calm bs ps b hb, if_pos rfl]
  rfl

/-- A block of one letter. -/
def lett (c : UInt8) : List UInt8 := List.replicate 4096 c
theorem lett_len (c : UInt8) : (lett c).length = 4096 := by unfold lett; rw [List.length_replicate]
theorem rep_at (n : Nat) (c : UInt8) (i : Nat) (h : i < n) : (List.replicate n c).getD i 0 = c := by simp [List.getD, h]
theorem lett_at (c : UInt8) (i : Nat) (h : i < 4096) : (lett c).getD i 0 = c := rep_at _ c i h
theorem lett_own {W : World} {q base : Nat} {c : UInt8} (hB : BB W q (List.replicate 4096 c)) (hq : base ≤ q) : OB W base (.slice (some ⟨q, 0, none⟩) 4096 4096) (lett c) := by
  have := hB.own (base := base) hq (by rw [List.length_replicate]; simp [maxLen])
  rwa [List.length_replicate] at this
theorem cut_at (n : Nat) (a b : UInt8) (h : 3 < n) : ((List.replicate n b).take 3 ++ (List.replicate n a).drop 3).getD 2 0 = b ∧ ((List.replicate n b).take 3 ++ (List.replicate n a).drop 3).getD 3 0 = a := by
  have h3 : min 3 n = 3 := by omega
  constructor
  · simp only [List.getD, List.take_replicate, List.drop_replicate, List.getElem?_append, List.length_replicate, h3, List.getElem?_replicate]
    simp
  · simp only [List.getD, List.take_replicate, List.drop_replicate, List.getElem?_append, List.length_replicate, h3, List.getElem?_replicate]
    rw [show (3 : Nat) - 3 = 0 from rfl, if_neg (by omega), if_pos (by omega)]
    rfl

/-- awake's last block. -/
def awkL : List UInt8 := (lett 98).take 3 ++ (lett 97).drop 3
theorem awkL_len : awkL.length = 4096 := by unfold awkL; rw [List.length_append, List.length_take, List.length_drop, lett_len, lett_len]; rfl
theorem awkL_2 : awkL.getD 2 0 = 98 := (cut_at 4096 97 98 (by omega)).1
theorem awkL_3 : awkL.getD 3 0 = 97 := (cut_at 4096 97 98 (by omega)).2

theorem LR.nil (w : World) : LR w none 0 [] := ⟨rfl, fun h => absurd h (by omega)⟩
theorem apartK_nil (w0 w : World) : apartK w0 w none 0 := fun _ e => by cases e

set_option maxRecDepth 100000 in
set_option maxHeartbeats 2000000 in
theorem awake03_any (w : World) :
    Calls Try.prog 27 #[] w fun e w' => e = .returned (.bool true) ∧ Below w.heap.size w w' := by
  go_enter Try.func27, Try.ntmps27
  go_wp2_with fail
  refine (New_st 2 w w (by omega) (by omega) (gr_refl w)).mono ?_
  rw [newD_calm]
  rintro e w1 ⟨g, rfl, s1, _⟩
  go_wp2_with fail
  refine (letters_any 97 w1).mono ?_
  rintro e w2 ⟨rfl, hB, hb⟩
  have s2 := s1.below hb
  have X := Write_st 0 _ 4096 4096 (lett 97) s2 (lett_own hB s1.1.size) (lett_len _) (by simp [calmD])
  have e1 := writeE_calm (List.replicate 2 zer) [] 0 (by simp)
  have e2 := writeD_calm (List.replicate 2 zer) [] 0 (lett 97) (by simp) (lett_len _)
  rw [show ((0 : Nat) : Int) = 0 from rfl] at e1 e2
  rw [e1, e2] at X
  have HX := Lib.hid X
  clear X e1 e2 s1 s2 hB hb
  go_wp2_with fail
  refine HX.out.mono ?_
  clear HX
  rintro e w3 ⟨rfl, s1, _⟩
  go_wp2_with fail
  refine (Sync_st s1 (by simp [calmD])).mono ?_
  rw [opC_calm, syncD_calm]
  rintro e w4 ⟨rfl, s2, _⟩
  clear s1
  go_wp2_with fail
  refine (letters_any 98 w4).mono ?_
  rintro e w5 ⟨rfl, hB, hb⟩
  have s3 := s2.below hb
  have X := Write_st 0 _ 4096 4096 (lett 98) s3 (lett_own hB s2.1.size) (lett_len _) (by simp [calmD])
  have hl : 0 < (carry (List.replicate 2 zer) ([] ++ [(0, lett 97)])).length := by rw [carry_len]; simp
  have e1 := writeE_calm (carry (List.replicate 2 zer) ([] ++ [(0, lett 97)])) [] 0 hl
  have e2 := writeD_calm (carry (List.replicate 2 zer) ([] ++ [(0, lett 97)])) [] 0 (lett 98) hl (lett_len _)
  rw [show ((0 : Nat) : Int) = 0 from rfl] at e1 e2
  rw [e1, e2] at X
  have HX := Lib.hid X
  clear X e1 e2 s2 s3 hB hb hl
  go_wp2_with fail
  refine HX.out.mono ?_
  clear HX
  rintro e w6 ⟨rfl, s1, _⟩
  have X := Crash_st none 0 0 [] 0 3 s1 (LR.nil _) (apartK_nil _ _) (by omega) (by simp [calmD])
  have e1 := crashE_in 3 (by omega)
  have e2 := crashD_in (calmD (carry (List.replicate 2 zer) ([] ++ [(0, lett 97)])) ([] ++ [(0, lett 98)])) [] 0 3 (by omega)
  rw [show ((3 : Nat) : Int) = 3 from rfl] at e1 e2
  have e3 : crashTo [] 0 3 (calmD (carry (List.replicate 2 zer) ([] ++ [(0, lett 97)])) ([] ++ [(0, lett 98)])).blocks (calmD (carry (List.replicate 2 zer) ([] ++ [(0, lett 97)])) ([] ++ [(0, lett 98)])).pending (calmD (carry (List.replicate 2 zer) ([] ++ [(0, lett 97)])) ([] ++ [(0, lett 98)])).pending.length = [awkL, zer] := rfl
  rw [e1, e2, e3] at X
  have HX := Lib.hid X
  clear X e1 e2 e3 s1
  go_wp2_with fail
  refine HX.out.mono ?_
  clear HX
  rintro e w7 ⟨rfl, s1, _⟩
  have X := Read_st 0 s1 (by simp [calmD])
  have e1 := readE_calm [awkL, zer] [] 0 (by simp)
  have e2 := readL_calm [awkL, zer] [] 0 (by simp)
  rw [show ((0 : Nat) : Int) = 0 from rfl] at e1 e2
  rw [e1, e2, show lastL [awkL, zer] [] 0 = awkL from rfl] at X
  have HX := Lib.hid X
  clear X e1 e2 s1
  go_wp2_with fail
  refine HX.out.mono ?_
  clear HX
  rintro e w8 ⟨v, rfl, ho, s1, hb⟩
  obtain ⟨A, c, rfl, hr, hc, hm⟩ := ho.formN awkL_len
  obtain ⟨q, rfl, _⟩ := obA_some ho awkL_len (by omega)
  have c2 := obn_cell ho awkL_len (j := 2) (by omega)
  have c3 := obn_cell ho awkL_len (j := 3) (by omega)
  rw [awkL_2] at c2
  rw [awkL_3] at c3
  have HP := Lib.hid (Pending_st s1)
  have HS := Lib.hid s1
  clear ho hr hb s1
  go_wp2_with fail
  refine HP.out.mono ?_
  rintro e w' ⟨rfl, rfl⟩
  go_wp2_with fail
  go_ret
  exact ⟨rfl, HS.out.1⟩

end Go.Proofs.Ytjopobkcijkpmaa
