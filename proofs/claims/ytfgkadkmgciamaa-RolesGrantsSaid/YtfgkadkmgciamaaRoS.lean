/-
  Chapter 21's awake.
-/
import Derived.Test.YtfgkadkmgciamaaRoR
namespace Go.Proofs.Ytfgkadkmgciamaa
open Go Go.RowKit

def aM : List Mb := [([97], [98]), ([98], [99])]
def g1 : Gr := ⟨[116], 1, [97], [111], true⟩
def g2 : Gr := ⟨[116], 1, [98], [97], true⟩
def g3 : Gr := ⟨[116], 1, [97], [98], true⟩
def g4 : Gr := ⟨[116], 1, [97], [111], false⟩
theorem reach_b : Reach aM [97] [98] := .step (m := ([97], [98])) .refl (by decide)
theorem reach_c : Reach aM [97] [99] := .step (m := ([98], [99])) reach_b (by decide)
theorem clos_a : Clos aM [97] [[97], [98], [99]] := by
  refine ⟨by decide, fun x => ⟨fun hx => ?_, fun hr => hr.sub (S := fun y => y ∈ ([[97], [98], [99]] : List Str)) (by decide) fun m hm _ => ?_⟩⟩
  · simp only [List.mem_cons, List.not_mem_nil, or_false] at hx
    rcases hx with rfl | rfl | rfl
    · exact .refl
    · exact reach_b
    · exact reach_c
  · simp only [aM, List.mem_cons, List.not_mem_nil, or_false] at hm
    rcases hm with rfl | rfl <;> decide
theorem held_no {x : Str} (h : Held [g2, g3] [111] [116] 1 x) : x = [111] :=
  h.sub (S := fun y => y = [111]) rfl fun g hg _ _ _ hS => by
    simp only [List.mem_cons, List.not_mem_nil, or_false] at hg
    rcases hg with rfl | rfl <;> exact absurd hS (by decide)
theorem take_nil {out : List Gr} (h : Tk [g1, g2, g3] [111] g4 out) : out = [] := by
  obtain ⟨ks, hk, rfl⟩ := h
  have e : restL [g1, g2, g3] g4 = [g2, g3] := rfl
  rw [e] at hk ⊢
  have ha : ks.contains [97] = false := by
    cases hc : ks.contains ([97] : Str) with
    | false => rfl
    | true => exact absurd (held_no ((hk _).1 (List.contains_iff_mem.1 hc))) (by decide)
  have hb : ks.contains [98] = false := by
    cases hc : ks.contains ([98] : Str) with
    | false => rfl
    | true => exact absurd (held_no ((hk _).1 (List.contains_iff_mem.1 hc))) (by decide)
  have e2 : ([g2, g3].filter fun h => !(h.tb == g4.tb && h.pv == g4.pv && !(ks.contains h.gb))) = [] := by
    rw [List.filter_eq_nil_iff]
    intro g hg
    simp only [List.mem_cons, List.not_mem_nil, or_false] at hg
    rcases hg with rfl | rfl
    · show ¬ (!((g2.tb == g4.tb) && (g2.pv == g4.pv) && !(ks.contains [97]))) = true
      rw [ha]
      decide
    · show ¬ (!((g3.tb == g4.tb) && (g3.pv == g4.pv) && !(ks.contains [98]))) = true
      rw [hb]
      decide
  exact e2
theorem sound_yes (c : Option Addr × Nat × Nat) {r : Bool} (h : SoundP [g1, g2, g3] [([116], [111], c)] r) : r = true := by
  have h1 : Held [g1, g2, g3] [111] [116] 1 [111] := .own
  have h2 : Held [g1, g2, g3] [111] [116] 1 [97] := .step (g := g1) h1 (List.mem_cons_self ..) rfl rfl rfl
  have h3 : Held [g1, g2, g3] [111] [116] 1 [98] := .step (g := g2) h2 (List.mem_cons_of_mem _ (List.mem_cons_self ..)) rfl rfl rfl
  refine h.2 fun g hg => ?_
  have hO : ∀ g, g.tb = [116] → g.pv = 1 → Held [g1, g2, g3] [111] [116] 1 g.gb → OkG [g1, g2, g3] [([116], [111], c)] g := fun g e1 e2 hh => ⟨0, ([116], [111], c), rfl, e1.symm, fun j y hj => by omega, by rw [e1, e2]; exact hh⟩
  simp only [List.mem_cons, List.not_mem_nil, or_false] at hg
  rcases hg with rfl | rfl | rfl
  · exact hO _ rfl rfl h1
  · exact hO _ rfl rfl h2
  · exact hO _ rfl rfl h3

set_option maxRecDepth 100000 in
set_option maxHeartbeats 4000000 in
theorem awake21_any (w : World) : Calls Try.prog 11 #[] w fun e w' => e = .returned (.bool true) ∧ Below w.heap.size w w' := by
  have hb1 := gr_alloc (gr_refl w) (.cells #[.string ⟨#[97]⟩, .string ⟨#[98]⟩, .string ⟨#[98]⟩, .string ⟨#[99]⟩] 52)
  have HE1 : Hid (ER EM 2 (w.alloc (.cells #[.string ⟨#[97]⟩, .string ⟨#[98]⟩, .string ⟨#[98]⟩, .string ⟨#[99]⟩] 52)) (some ⟨w.heap.size, 0, none⟩) 2 aM) := Lib.hid ⟨rfl, Rd.new w 52 #[.string ⟨#[97]⟩, .string ⟨#[98]⟩, .string ⟨#[98]⟩, .string ⟨#[99]⟩] 2 2 rfl⟩
  have HB1 := Lib.hid hb1
  clear hb1
  have hfit : Fit aM := by
    intro m hm
    simp only [aM, List.mem_cons, List.not_mem_nil, or_false] at hm
    rcases hm with rfl | rfl <;> exact ⟨by decide, by decide⟩
  have HFIT := Lib.hid hfit
  clear hfit
  go_enter Try.func11, Try.ntmps11
  go_upto_region 2 with fail
  generalize w.alloc (.cells #[.string ⟨#[97]⟩, .string ⟨#[98]⟩, .string ⟨#[98]⟩, .string ⟨#[99]⟩] 52) = w1 at *
  go_wp2_with fail
  refine (Join_any (some ⟨w.heap.size, 0, none⟩) 2 2 aM ([99], [97]) w1 HE1.out (by omega) HFIT.out (by decide)).mono ?_
  rintro e w2 ⟨hj, hb2⟩
  obtain rfl : e = .returned (.tuple #[.slice none 0 0, .int .i64 310]) := by
    rcases hj with ⟨_, h⟩ | ⟨h, _⟩ | ⟨v, _, _, h, _⟩
    · exact absurd h (by decide)
    · exact h
    · exact absurd reach_c h
  have HB2 := Lib.hid (HB1.out.trans (hb2.mono HB1.out.size))
  have HE2 := Lib.hid (HE1.out.below hb2)
  clear hj hb2
  go_wp2_with fail
  refine (Give_any none 0 0 [] [111] g1 w2 (ER.none_ _ _) (by omega)).mono ?_
  rintro e w3 ⟨hg, hb3⟩
  obtain ⟨v3, rfl, ho3⟩ : ∃ v, e = .returned (.tuple #[v, .int .i64 0]) ∧ EO EG 5 30 w3 w2.heap.size v [g1] := by
    rcases hg with ⟨_, h⟩ | ⟨v, h1, _, h2⟩
    · exact absurd (show giveE [] [111] g1 = 0 by decide) h
    · exact ⟨v, h1, h2⟩
  obtain ⟨A3, c3, rfl, hr3, _, _⟩ := ho3.form
  have HG3 := Lib.hid hr3
  have HB3 := Lib.hid (HB2.out.trans (hb3.mono HB2.out.size))
  have HE3 := Lib.hid (HE2.out.below hb3)
  clear hg hb3 ho3 hr3
  go_wp2_with fail
  refine (Give_any A3 1 c3 [g1] [111] g2 w3 HG3.out (by omega)).mono ?_
  rintro e w4 ⟨hg, hb4⟩
  obtain ⟨v4, rfl, ho4⟩ : ∃ v, e = .returned (.tuple #[v, .int .i64 0]) ∧ EO EG 5 30 w4 w3.heap.size v [g1, g2] := by
    rcases hg with ⟨_, h⟩ | ⟨v, h1, _, h2⟩
    · exact absurd (show giveE [g1] [111] g2 = 0 by decide) h
    · exact ⟨v, h1, h2⟩
  obtain ⟨A4, c4, rfl, hr4, _, _⟩ := ho4.form
  have HG4 := Lib.hid hr4
  have HB4 := Lib.hid (HB3.out.trans (hb4.mono HB3.out.size))
  have HE4 := Lib.hid (HE3.out.below hb4)
  clear hg hb4 ho4 hr4
  go_wp2_with fail
  refine (Give_any A4 2 c4 [g1, g2] [111] g3 w4 HG4.out (by omega)).mono ?_
  rintro e w5 ⟨hg, hb5⟩
  obtain ⟨v5, rfl, ho5⟩ : ∃ v, e = .returned (.tuple #[v, .int .i64 0]) ∧ EO EG 5 30 w5 w4.heap.size v [g1, g2, g3] := by
    rcases hg with ⟨_, h⟩ | ⟨v, h1, _, h2⟩
    · exact absurd (show giveE [g1, g2] [111] g3 = 0 by decide) h
    · exact ⟨v, h1, h2⟩
  obtain ⟨A5, c5, rfl, hr5, _, _⟩ := ho5.form
  have HG5 := Lib.hid hr5
  have HB5 := Lib.hid (HB4.out.trans (hb5.mono HB4.out.size))
  have HE5 := Lib.hid (HE4.out.below hb5)
  have hfg : FitG [g1, g2, g3] := by
    intro g hg
    simp only [List.mem_cons, List.not_mem_nil, or_false] at hg
    rcases hg with rfl | rfl | rfl <;> exact ⟨by decide, by decide⟩
  have HFG := Lib.hid hfg
  clear hg hb5 ho5 hr5 hfg
  go_wp2_with fail
  refine (Take_any A5 3 c5 [g1, g2, g3] [111] g4 w5 HG5.out (by omega) HFG.out (by decide)).mono ?_
  rintro e w6 ⟨hg, hb6⟩
  obtain ⟨v6, rfl, ho6⟩ : ∃ v, e = .returned (.tuple #[v, .int .i64 0]) ∧ EO EG 5 30 w6 w5.heap.size v [] := by
    rcases hg with ⟨_, h⟩ | ⟨v, out, h1, _, h2, h3⟩
    · exact absurd h (by decide)
    · rw [take_nil h2] at h3
      exact ⟨v, h1, h3⟩
  obtain ⟨A6, c6, rfl, _, _, _⟩ := ho6.form
  have HB6 := Lib.hid (HB5.out.trans (hb6.mono HB5.out.size))
  have HE6 := Lib.hid (HE5.out.below hb6)
  have HG6 := Lib.hid (HG5.out.below hb6)
  clear hg hb6 ho6
  go_wp2_with fail
  refine (Closure_at clos_a (some ⟨w.heap.size, 0, none⟩) 2 2 w6 HE6.out (by omega) HFIT.out (by decide)).mono ?_
  rintro e w7 ⟨v7, rfl, ho7, hb7⟩
  obtain ⟨A7, c7, rfl, hr7, _, _⟩ := ho7.form
  have hb8 := gr_alloc (gr_refl w7) (.cells #[.string ⟨#[97]⟩, .string ⟨#[98]⟩, .string ⟨#[99]⟩] 9)
  have HR8 := Lib.hid (hr7.below hb8)
  have HL8 : Hid (ER ES 1 (w7.alloc (.cells #[.string ⟨#[97]⟩, .string ⟨#[98]⟩, .string ⟨#[99]⟩] 9)) (some ⟨w7.heap.size, 0, none⟩) 3 [[97], [98], [99]]) := Lib.hid ⟨rfl, Rd.new w7 9 #[.string ⟨#[97]⟩, .string ⟨#[98]⟩, .string ⟨#[99]⟩] 3 1 rfl⟩
  have HB8 := Lib.hid (HB6.out.trans ((hb7.trans (hb8.mono hb7.size)).mono HB6.out.size))
  have HG8 := Lib.hid ((HG6.out.below hb7).below hb8)
  clear hb7 hb8 ho7 hr7
  go_wp2_with fail
  refine (SameTexts_any A7 (some ⟨w7.heap.size, 0, none⟩) 3 c7 3 [[97], [98], [99]] _ HR8.out HL8.out (by omega)).mono ?_
  rintro e w9 ⟨rfl, hb9⟩
  have HB9 := Lib.hid (HB8.out.trans (hb9.mono HB8.out.size))
  have HG9 := Lib.hid (HG8.out.below hb9)
  clear hb9 HR8 HL8 HB8 HG8
  have hb10 := gr_alloc (gr_refl w9) (.cells #[.string ⟨#[98]⟩] 9)
  have HL10 : Hid (ER ES 1 (w9.alloc (.cells #[.string ⟨#[98]⟩] 9)) (some ⟨w9.heap.size, 0, none⟩) 1 [[98]]) := Lib.hid ⟨rfl, Rd.new w9 9 #[.string ⟨#[98]⟩] 1 1 rfl⟩
  have HB10 := Lib.hid (HB9.out.trans (hb10.mono HB9.out.size))
  have HG10 := Lib.hid (HG9.out.below hb10)
  clear hb10
  go_wp2_with fail
  refine (Has_any A5 (some ⟨w9.heap.size, 0, none⟩) 3 c5 1 1 [g1, g2, g3] [[98]] [111] [116] 1 _ HG10.out HL10.out (by omega) (by omega)).mono ?_
  rw [show hasL [g1, g2, g3] [[98]] [111] [116] 1 = true from by decide]
  rintro e w11 ⟨rfl, hb11⟩
  have HB11 := Lib.hid (HB10.out.trans (hb11.mono HB10.out.size))
  have HG11 := Lib.hid (HG10.out.below hb11)
  clear hb11 HL10 HB10 HG10
  have hb12 := gr_alloc (gr_refl w11) (.cells #[.string ⟨#[116]⟩, .string ⟨#[111]⟩, .slice none 0 0] 35)
  have HL12 : Hid (ER ET 3 (w11.alloc (.cells #[.string ⟨#[116]⟩, .string ⟨#[111]⟩, .slice none 0 0] 35)) (some ⟨w11.heap.size, 0, none⟩) 1 [([116], [111], none, 0, 0)]) := Lib.hid ⟨rfl, Rd.new w11 35 #[.string ⟨#[116]⟩, .string ⟨#[111]⟩, .slice none 0 0] 1 3 rfl⟩
  have HB12 := Lib.hid (HB11.out.trans (hb12.mono HB11.out.size))
  have HG12 := Lib.hid (HG11.out.below hb12)
  clear hb12
  go_wp2_with fail
  refine (Sound_any A5 (some ⟨w11.heap.size, 0, none⟩) 3 c5 1 1 [g1, g2, g3] [([116], [111], none, 0, 0)] _ HG12.out HL12.out (by omega) (by omega) HFG.out (fun x hx => by rw [List.mem_singleton.1 hx]; decide)).mono ?_
  rintro e w13 ⟨r, rfl, hs, hb13⟩
  obtain rfl := sound_yes _ hs
  have HB13 := Lib.hid (HB12.out.trans (hb13.mono HB12.out.size))
  clear hs hb13
  go_wp2_with fail
  go_ret
  exact ⟨rfl, HB13.out⟩

end Go.Proofs.Ytfgkadkmgciamaa
