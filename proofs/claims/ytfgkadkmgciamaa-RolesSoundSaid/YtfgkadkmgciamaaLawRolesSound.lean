/-
  The walk of RolesSound.
-/
import Derived.Test.YtfgkadkmgciamaaRoX
import Derived.Test.YtfgkadkmgciamaaRoS
namespace Go.Proofs.Ytfgkadkmgciamaa
open Go Go.RowKit

set_option maxRecDepth 100000 in
set_option maxHeartbeats 4000000 in
theorem RolesSound_any (A B : Option Addr) (n c m d : Nat) (l : List Gr) (t : List Tb) (w : World) (h : ER EG 5 w A n l) (ht : ER ET 3 w B m t) (hn : n ≤ 2199023255552) (hm : m ≤ 9223372036854775807) (hf : FitG l) (hft : FitT t) :
    Calls Try.prog 3 #[.slice A n c, .slice B m d] w fun e w' => e = .returned (.bool true) ∧ Below w.heap.size w w' := by
  have HS := Lib.hid h
  have HT := Lib.hid ht
  have HF := Lib.hid hf
  have HFT := Lib.hid hft
  have HL := Lib.hid h.1
  clear h ht hf hft
  go_enter Try.func3, Try.ntmps3
  go_wp2_with fail
  refine (CopyGrants_any A n c l w HS.out (by omega)).mono ?_
  rintro e w1 ⟨v1, rfl, ho, hb1⟩
  obtain ⟨A1, c1, rfl, her, _, _⟩ := ho.form
  have HER := Lib.hid her
  have HB1 := Lib.hid hb1
  clear ho her hb1
  rw [HL.out] at HER ⊢
  go_wp2_with fail
  refine (Sound_any A1 B n c1 m d l t w1 HER.out (HT.out.below HB1.out) hn hm HF.out HFT.out).mono ?_
  rintro e w2 ⟨r, rfl, hs, hb2⟩
  have HSD := Lib.hid hs
  have HB2 := Lib.hid (HB1.out.trans (hb2.mono HB1.out.size))
  clear hs hb2
  go_wp2_with fail
  refine (refSound_any A B n c m d l t w2 (HS.out.below HB2.out) (HT.out.below HB2.out) hn hm).mono ?_
  rintro e w3 ⟨r', rfl, hs', hb3⟩
  obtain rfl := HSD.out.unique hs'
  have HB3 := Lib.hid (HB2.out.trans (hb3.mono HB2.out.size))
  clear hs' hb3
  cases r
  all_goals
    go_wp2_with fail
    refine (awake21_any w3).mono ?_
    rintro e w4 ⟨rfl, hb4⟩
    have HB4 := Lib.hid (HB3.out.trans (hb4.mono HB3.out.size))
    clear hb4
    go_wp2_with fail
    go_ret
    exact ⟨rfl, HB4.out⟩

end Go.Proofs.Ytfgkadkmgciamaa
