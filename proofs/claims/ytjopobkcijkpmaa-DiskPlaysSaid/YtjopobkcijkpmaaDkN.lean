/-
  Contracts: chancerylaw03's place, content. Plain laws of crashes. Several disks side by side.
-/
import Derived.Test.YtjopobkcijkpmaaDkM
namespace Go.Proofs.Ytjopobkcijkpmaa
open Go.RowKit

set_option maxHeartbeats 400000 in
theorem place_any (x : Int) (w : World) :
    Calls Try.prog 18 #[.int .i64 x] w fun e w' => e = .returned (.int .i64 (x % 4)) ∧ w = w' := by
  have HP := Lib.hid (Pick_any x 4 w (by omega) (by omega))
  go_enter Try.func18, Try.ntmps18
  go_wp2_with fail
  refine HP.out.mono ?_
  rintro e w' ⟨rfl, rfl⟩
  go_wp2_with fail
  go_ret
  exact ⟨rfl, rfl⟩

/-- A block of 4096 bytes has been made. -/
def Fresh (w : World) (e : Ending) (w' : World) : Prop := ∃ L : List UInt8, L.length = 4096 ∧ e = .returned (.slice (some ⟨w.heap.size, 0, none⟩) 4096 4096) ∧ BB w' w.heap.size L ∧ Below w.heap.size w w'

set_option maxHeartbeats 400000 in
theorem content_any (x i : Int) (w : World) :
    Calls Try.prog 19 #[.int .i64 x, .int .i64 i] w (Fresh w) := by
  have HM := Lib.hid (fun s => Made_any s 4096 w (by omega))
  go_enter Try.func19, Try.ntmps19
  go_wp2_with fail
  refine (HM.out _).mono ?_
  rintro e w' ⟨rfl, hB, hb⟩
  go_wp2_with fail
  go_ret
  exact ⟨_, madeL_len _ _, rfl, hB, hb⟩

theorem crash_all (bs : List (List UInt8)) (ps : List (Nat × List UInt8)) (n : Nat) : ∀ k, k ≤ n → k ≤ ps.length → crashTo (List.replicate n true) (-1) 0 bs ps k = carry bs (ps.take k)
  | 0, _, _ => rfl
  | k + 1, h1, h2 => by
    have ih := crash_all bs ps n k (by omega) (by omega)
    have hp : ps[k]? = some (ps.getD k (0, [])) := by
      rw [List.getD, List.getElem?_eq_getElem (by omega)]
      rfl
    unfold crashTo
    rw [ih, carry_snoc bs hp]
    unfold crash1
    rw [if_neg (by omega), if_pos]
    simp only [List.getD, List.getElem?_replicate]
    rw [if_pos (by omega)]
    rfl
theorem crash_none (bs : List (List UInt8)) (ps : List (Nat × List UInt8)) : ∀ k, crashTo [] (-1) 0 bs ps k = bs
  | 0 => rfl
  | k + 1 => by
    unfold crashTo
    rw [crash_none bs ps k]
    unfold crash1
    rw [if_neg (by omega), if_neg (by simp)]
theorem carry_at (ps : List (Nat × List UInt8)) : ∀ (bs : List (List UInt8)) (b : Nat), b < bs.length → (carry bs ps).getD b [] = lastL bs ps b := by
  induction ps with
  | nil => intro bs b _; rfl
  | cons p ps ih =>
    intro bs b hb
    have h := ih (bs.set p.1 p.2) b (by rw [List.length_set]; exact hb)
    have e1 : carry bs (p :: ps) = carry (bs.set p.1 p.2) ps := rfl
    have e2 : lastL bs (p :: ps) b = lastL (bs.set p.1 p.2) ps b := by
      unfold lastL
      rw [List.foldl_cons]
      congr 1
      simp only [List.getD, List.getElem?_set]
      by_cases e : p.1 = b
      · rw [if_pos e, if_pos e, if_pos (by omega)]
        rfl
      · rw [if_neg e, if_neg e]
    rw [e1, e2, h]

/-- What one disk does leaves another one. -/
theorem IsD.side {w w' : World} {ok ok2 : Nat → Prop} {base base2 g g2 : Nat} {F F2 : Nat → Prop} {D D2 : DiskS} (h2 : IsD w ok2 base2 g2 F2 D2) (h : IsD w ok base g F D) (ho : Off F w w') (hd : ∀ k, F k → F2 k → False) : IsD w' ok2 base2 g2 F2 D2 :=
  h2.off ho (fun k hk hf => hd k hf hk) h.foot_bytes

theorem trues_lr {w : World} {base n c : Nat} {A : Option Addr} (h : w.ownsRow base 4 1 (.slice A n c) n (List.replicate n (.bool true))) : LR w A n (List.replicate n true) := by
  have := own_rd h
  unfold LR
  rw [List.map_replicate]
  exact this

/-- Where a row of the call's own lies. -/
theorem own_at {w : World} {base n c : Nat} {A : Option Addr} {e : TypeId} {size : Nat} {xs : List Value} (h : w.ownsRow base e size (.slice A n c) n xs) {ad : Addr} (ea : A = some ad) : ∃ cur fr, w.heap[ad.block]? = some (.cells cur e fr) := by
  subst ea
  rcases h.2 with ⟨e, _⟩ | ⟨q, cap, cur, e, _, hq, _⟩
  · cases e
  · injection e with e
    injection e with e
    subst e
    exact ⟨_, _, hq⟩

end Go.Proofs.Ytjopobkcijkpmaa
