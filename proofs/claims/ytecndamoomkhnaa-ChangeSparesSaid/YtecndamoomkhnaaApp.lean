/-
  chancerylow.ApartPieces.
-/
import Derived.Test.YtecndamoomkhnaaApt
import Derived.Test.YtecndamoomkhnaaPc
namespace Go.Proofs.Ytecndamoomkhnaa
open Go.RowKit

def svA : Value → Option Addr | .slice a _ _ => a | _ => none
def svN : Value → Nat | .slice _ n _ => n | _ => 0
def svC : Value → Nat | .slice _ _ c => c | _ => 0

/-- Values of lists of bytes, each in a block of its own from base on, no two in one. -/
structure Apl (w : World) (base : Nat) (F : List Value) : Prop where
  ob : ∀ v ∈ F, ∃ l, OB w base v l ∧ l.length ≤ 140737488355328
  dis : F.Pairwise fun v u => ∀ k, v.ownBlock = some k → u.ownBlock ≠ some k

theorem ob_slice {w : World} {base : Nat} {v : Value} {l : List UInt8} (h : OB w base v l) : v = .slice (svA v) (svN v) (svC v) ∧ l.length = svN v := by
  obtain ⟨A, c, rfl, _⟩ := h.form
  exact ⟨rfl, rfl⟩

theorem Apl.below {w w' : World} {base : Nat} {F : List Value} (h : Apl w base F) (hb : Below w.heap.size w w') : Apl w' base F :=
  ⟨fun v hv => by obtain ⟨l, h1, h2⟩ := h.ob v hv; exact ⟨l, h1.below hb, h2⟩, h.dis⟩

theorem ApartBytes_row (w : World) (base : Nat) (v : Value) (F : List Value) (hF : Apl w base F) (hrow : w.ownsRow base 22 1 v F.length F) (hbase : base ≤ w.heap.size) (hn : F.length ≤ 4398046511104) (h0 : 0 < F.length) :
    Calls Try.prog 63 #[v] w fun e w' => e = .returned (.bool true) ∧ Below base w w' := by
  rcases hrow.2 with ⟨_, h⟩ | ⟨gl, cl, lcur, rfl, _, hls, hnc, _, hcs, ht⟩
  · omega
  have hV : ∀ j (hj : j < F.length), apV (fun j => svA (F.getD j undef)) (fun j => svN (F.getD j undef)) (fun j => svC (F.getD j undef)) j = F[j] := by
    intro j hj
    have e : F.getD j undef = F[j] := by simp [List.getD, List.getElem?_eq_getElem hj]
    obtain ⟨l, hl, _⟩ := hF.ob F[j] (List.getElem_mem hj)
    unfold apV
    dsimp only
    rw [e]
    exact (ob_slice hl).1.symm
  have hlen : ∀ j, j < F.length → ∃ l, OB w base (apV (fun j => svA (F.getD j undef)) (fun j => svN (F.getD j undef)) (fun j => svC (F.getD j undef)) j) l ∧ l.length = svN (F.getD j undef) ∧ l.length ≤ 140737488355328 := by
    intro j hj
    have e : F.getD j undef = F[j] := by simp [List.getD, List.getElem?_eq_getElem hj]
    obtain ⟨l, hl, hb⟩ := hF.ob F[j] (List.getElem_mem hj)
    rw [hV j hj, e]
    exact ⟨l, hl, (ob_slice hl).2, hb⟩
  have h1 : Ap1 w base F.length (fun j => svA (F.getD j undef)) (fun j => svN (F.getD j undef)) (fun j => svC (F.getD j undef)) (fun j => if h : j < F.length then Classical.choose (hlen j h) else []) := by
    refine ⟨fun j hj => ?_, fun j hj => ?_⟩
    · rw [dif_pos hj]
      exact (Classical.choose_spec (hlen j hj)).1
    · rw [dif_pos hj]
      exact (Classical.choose_spec (hlen j hj)).2.1
  have hd : ApD F.length (fun j => svA (F.getD j undef)) (fun j => svN (F.getD j undef)) (fun j => svC (F.getD j undef)) := by
    intro i j hi hj hij
    rw [hV i hi, hV j hj]
    cases hb : F[j].ownBlock with
    | none => exact .inl rfl
    | some b =>
      refine .inr fun e => ?_
      rcases Nat.lt_or_ge i j with h | h
      · exact List.pairwise_iff_getElem.1 hF.dis i j hi hj h b e.symm hb
      · exact List.pairwise_iff_getElem.1 hF.dis j i hj hi (by omega) b hb e.symm
  refine ApartBytes_any gl cl F.length base lcur (0, 0) _ _ _ _ w h1 hd hls (fun j hj => ?_) (fun j hj => ?_) hbase hn
  · rw [hV j hj]
    have : lcur.toList[j]? = F[j]? := by rw [← ht, List.getElem?_take, if_pos (by omega)]
    rw [Array.getElem?_toList] at this
    rw [this, List.getElem?_eq_getElem hj]
  · obtain ⟨l, _, h2, h3⟩ := hlen j hj
    omega

/-- Lists of pieces: the k-th has the cells U k. -/
def flatV (U : Nat → List (Int × Value)) (k : Nat) : List Value := (List.range k).flatMap fun i => (U i).map (·.2)
theorem flatV_succ (U : Nat → List (Int × Value)) (k : Nat) : flatV U (k + 1) = flatV U k ++ (U k).map (·.2) := by
  unfold flatV
  rw [List.range_succ, List.flatMap_append]
  simp

theorem flatV_le (U : Nat → List (Int × Value)) {k K : Nat} (h : k ≤ K) : (flatV U k).length ≤ (flatV U K).length := by
  induction K with
  | zero => obtain rfl : k = 0 := by omega
            exact Nat.le_refl _
  | succ K ih =>
    rcases Nat.lt_or_ge k (K + 1) with h1 | h1
    · rw [flatV_succ, List.length_append]
      have := ih (by omega)
      omega
    · obtain rfl : k = K + 1 := by omega
      exact Nat.le_refl _

theorem own_lower {w : World} {b base : Nat} {e : TypeId} {size n : Nat} {v : Value} {xs : List Value} (h : w.ownsRow base e size v n xs) (hb : b ≤ base) : w.ownsRow b e size v n xs := by
  refine ⟨h.1, ?_⟩
  rcases h.2 with h | ⟨g, cap, cur, rfl, hg, r⟩
  · exact .inl h
  · exact .inr ⟨g, cap, cur, rfl, by omega, r⟩

theorem val_getD {us : List (Int × Value)} {k : Nat} (hk : k < us.length) : us[k] = us.getD k (0, undef) := by simp [List.getD, List.getElem?_eq_getElem hk]

theorem snd_take_succ {us : List (Int × Value)} {k : Nat} (hk : k < us.length) : (us.take (k + 1)).map (·.2) = (us.take k).map (·.2) ++ [(us.getD k (0, undef)).2] := by
  rw [List.take_succ_eq_append_getElem hk, List.map_append, val_getD hk]
  rfl

set_option maxRecDepth 100000 in
set_option maxHeartbeats 2000000 in
theorem ApartPieces_any (A : Option Addr) (K c base : Nat) (P : Nat → Option Addr) (M Q : Nat → Nat) (U : Nat → List (Int × Value)) (w : World) (hls : Rd w 1 A K ((List.range K).map fun k => .slice (P k) (M k) (Q k)))
    (hU : ∀ k, k < K → Rd w 2 (P k) (M k) (pcs (U k))) (hUl : ∀ k, k < K → (U k).length = M k) (hF : Apl w base (flatV U K)) (hbase : base ≤ w.heap.size) (hn : (flatV U K).length ≤ 1000000) (hK : K ≤ 1000000) (h0 : 0 < (flatV U K).length)
    (hM : ∀ k, k < K → M k ≤ 1000000) :
    Calls Try.prog 25 #[.slice A K c] w fun e w' => e = .returned (.bool true) ∧ Below base w w' := by
  obtain ⟨i1, hi1, hy0, hy1, hy2⟩ := info_parts info_bytes
  have HU := Lib.hid hU
  have HUL := Lib.hid hUl
  have HF := Lib.hid hF
  have HM := Lib.hid hM
  clear hU hUl hF hM
  have HMONO : Hid (∀ k, k ≤ K → (flatV U k).length ≤ 1000000) := Lib.hid (fun k hk => Nat.le_trans (flatV_le U hk) hn)
  go_enter Try.func25, Try.ntmps25
  go_wp2_with fail
  go_loopw [3, 4, 5] (fun v p _q wr => ∃ (k : Nat), k ≤ K ∧ p = .int .i64 k ∧ Hid (wr.ownsRow w.heap.size 22 1 v (flatV U k).length (flatV U k)) ∧ Below w.heap.size w wr) (fun _ p _ _ => K - (intOf p).toNat)
  case atStart => exact ⟨0, Nat.zero_le _, rfl, Lib.hid ⟨rfl, .inl ⟨rfl, rfl⟩⟩, gr_refl w⟩
  case round =>
    obtain ⟨k, hk, rfl, HR, hb⟩ := hrel
    by_cases hlt : k < K
    · have t1 : decide ((k : Int) < (K : Int)) = true := by simp; omega
      have t1' : decide (k < K) = true := by simp; omega
      obtain ⟨g, o, rfl, hcl⟩ := Rd.plain hls (by omega) (by omega)
      have cL0 : w.cell? ⟨g, o + k, none⟩ = some (.slice (P k) (M k) (Q k)) := hcl k _ (by simp [hlt])
      have HCL := Lib.hid cL0
      have hMk := HM.out k hlt
      clear hcl cL0
      go_wp2_with fail
      obtain ⟨wo, hwo⟩ : ∃ wo : World, wo = wr := ⟨_, rfl⟩
      subst hwo
      go_loopw [3, 5] (fun v p wr => ∃ (i : Nat), i ≤ M k ∧ p = .int .i64 i ∧ Hid (wr.ownsRow w.heap.size 22 1 v ((flatV U k).length + i) (flatV U k ++ ((U k).take i).map (·.2))) ∧ Below w.heap.size w wr) (fun _ p _ => M k - (intOf p).toNat)
      case atStart => exact ⟨0, Nat.zero_le _, rfl, by simpa using HR, hb⟩
      case round =>
        clear hb HR
        obtain ⟨i, hi, rfl, HR, hb⟩ := hrel
        have cL := keep_of_below hb HCL.out
        by_cases hlt2 : i < M k
        · have t2 : decide ((i : Int) < (M k : Int)) = true := by simp; omega
          have t2' : decide (i < M k) = true := by simp; omega
          have hil : i < (U k).length := by rw [HUL.out k hlt]; exact hlt2
          obtain ⟨gp, op, eP, hcp⟩ := Rd.plain (HU.out k hlt) (by omega) (by omega)
          have c2 := keep_of_below hb (hcp (i * 2 + 1) _ (pcs_at (U k) i _ (List.getElem?_eq_getElem hil)).2)
          rw [val_getD hil] at c2
          rw [eP] at cL
          have HT := Lib.hid (snd_take_succ hil)
          have hmem : ((U k).getD i (0, undef)).2 ∈ flatV U K := by
            unfold flatV
            rw [List.mem_flatMap]
            exact ⟨k, List.mem_range.2 hlt, List.mem_map.2 ⟨(U k).getD i (0, undef), by rw [← val_getD hil]; exact List.getElem_mem _, rfl⟩⟩
          obtain ⟨lz, hoz, _⟩ := HF.out.ob _ hmem
          obtain ⟨Az, cz, ez, _⟩ := hoz.form
          generalize ((U k).getD i (0, undef)).2 = z at *
          subst ez
          have hfl := HMONO.out k (by omega)
          generalize hfk : (flatV U k).length = fk at *
          obtain ⟨Av, cv, rfl, _, _⟩ := own_form HR.out
          have hmx : fk + i + 1 ≤ maxLen := by simp only [maxLen]; omega
          have HR1 := Lib.hid (fun W : World => (show Rd (W.alloc (.cells #[.slice Az lz.length cz] 22)) 1 (some ⟨W.heap.size, 0, none⟩) 1 [.slice Az lz.length cz] from Rd.new W _ #[_] 1 1 rfl))
          have hsz := hb.size
          have c2' : wr.cell? ⟨gp, op + i * 2 + 1, none⟩ = some (.slice Az lz.length cz) := by rw [Nat.add_assoc]; exact c2
          clear c2 hmem hoz hcp eP hfk hil
          go_wp2_with (at_builtin; refine wpList_append_Rd _ rfl (.tmp 21) (.tmp 30) _ rfl w.heap.size 22 i1 _ 1 24 Try.underlying88 hi1 hy0 hy1 hy2 rfl (.slice Av (fk + i) cv) (fk + i) _ rfl (HR.out.alloc _) (some ⟨wr.heap.size, 0, none⟩) 1 1 [.slice Az lz.length cz] rfl (HR1.out _) (by simp [Value.oneCell']) (by omega) hmx (by rw [World.size_alloc]; omega) ?_; intro v4 w4 hown4 hg4 _ _)
          go_roundw
          case rel => exact ⟨i + 1, by omega, by go_num, Lib.hid (by rw [HT.out, ← List.append_assoc]; exact hown4), gr_own (gr_alloc hb _) (HR.out.alloc _) hg4⟩
          case measure => simp [intOf]; omega
        · obtain rfl : i = M k := by omega
          have HR' : Hid (wr.ownsRow w.heap.size 22 1 _ (flatV U (k + 1)).length (flatV U (k + 1))) := Lib.hid (by
            rw [flatV_succ, List.length_append, List.length_map, HUL.out k hlt]
            have := HR.out
            rwa [List.take_of_length_le (Nat.le_of_eq (HUL.out k hlt))] at this)
          clear HR
          go_wp2_with fail
          go_roundw
          case rel => exact ⟨k + 1, by omega, by go_num, HR', hb⟩
          case measure => simp [intOf]; omega
    · obtain rfl : k = K := by omega
      have t1 : decide ((k : Int) < (k : Int)) = false := by simp
      have hlow : wr.ownsRow base 22 1 _ (flatV U k).length (flatV U k) := own_lower HR.out hbase
      have HAB := Lib.hid (ApartBytes_row wr base _ _ (HF.out.below hb) hlow (Nat.le_trans hbase hb.size) (by omega) h0)
      clear HR hlow
      go_wp2_with fail
      refine HAB.out.mono ?_
      rintro e w2 ⟨rfl, hb2⟩
      go_wp2_with fail
      go_ret
      exact ⟨rfl, (hb.mono hbase).trans hb2⟩

end Go.Proofs.Ytecndamoomkhnaa
