/-
  The walk of PoolSpares.
-/
import Derived.Test.YtmdgnjmhbjdlmaaPkA7
namespace Go.Proofs.Ytmdgnjmhbjdlmaa
open Go Go.RowKit Go.Maps

/-- A block of one's own that lies beside the pool's. -/
theorem Mv.kept {S S' : Nat → Prop} {w w' : World} (h : Mv S S' w w') {q : Nat} (hq : q < w.heap.size) (hs : ¬ S q) : q < w'.heap.size ∧ ¬ S' q :=
  ⟨Nat.lt_of_lt_of_le hq h.1.size, fun e => by
    rcases h.2 q e with e | e
    · exact hs e
    · omega⟩
theorem own_some {q n c k : Nat} (h : (Value.slice (some ⟨q, 0, none⟩) n c).ownBlock = some k) : q = k := Option.some.inj h

set_option maxRecDepth 100000 in
set_option maxHeartbeats 4000000 in
theorem PoolSpares_any (seed : Int) (w : World) :
    Calls Try.prog 3 #[.int .i64 seed] w fun e w' => e = .returned (.bool true) ∧ Below w.heap.size w w' := by
  obtain ⟨m, hm⟩ : ∃ m, m = madeL seed 4080 := ⟨_, rfl⟩
  have lm : m.length = 4080 := by rw [hm]; exact madeL_len _ _
  have LM := Lib.hid lm
  have HPAY := Lib.hid (fun W => payload_any seed W)
  rw [← hm] at HPAY
  have SPE := Lib.hid (sp1 lm)
  have HSM := Lib.hid (small_any w w (gr_refl w))
  clear hm lm
  go_enter Try.func3, Try.ntmps3
  go_wp2_with fail
  refine HSM.out.mono ?_
  rintro e w1 ⟨gd, gp, S1, rfl, hj1, hb1, hs1⟩
  have HJ1 := Lib.hid hj1
  have HS1 := Lib.hid (fun k (e : S1 k) => hj1.lt e)
  have HL1 := Lib.hid hb1.size
  clear hj1 hb1 hs1 HSM
  go_wp2_with fail
  refine (HPAY.out w1).mono ?_
  rintro e w2 ⟨rfl, hB2, hb2⟩
  have HB2 := Lib.hid hB2
  have HSZ2 := Lib.hid hb2.size
  have HS := Lib.hid (Set_pj (HJ1.out.below hb2) 3 1 (some ⟨w1.heap.size, 0, none⟩) 4080 4080 m (bb_br hB2 LM.out) (by decide) (Nat.le_of_ble_eq_true rfl) (Nat.le_of_ble_eq_true rfl))
  rw [SPE.out] at HS
  dsimp only at HS
  clear hB2 hb2 HJ1
  go_wp2_with fail
  refine HS.out.mono ?_
  rintro e w3 ⟨S3, rfl, hj3, hmv3⟩
  have k1 := hmv3.kept HB2.out.lt (fun e => Nat.lt_irrefl _ (HS1.out _ e))
  have hoi : OB w2 w.heap.size (.slice (some ⟨w1.heap.size, 0, none⟩) 4080 4080) m := by
    have := HB2.out.own (base := w.heap.size) HL1.out (by rw [LM.out]; simp [maxLen])
    rwa [LM.out] at this
  have HI3 := Lib.hid (hoi.off hmv3.1 (fun k e e2 => by rw [← own_some e] at e2; exact Nat.lt_irrefl _ (HS1.out _ e2)))
  have K1 := Lib.hid k1
  have HG := Lib.hid (Get_pj hj3 3 (Nat.le_of_ble_eq_true rfl) (Nat.le_of_ble_eq_true rfl))
  rw [(sp2 m).1, (sp2 m).2] at HG
  dsimp only at HG
  have HSZ3 := Lib.hid (Nat.le_trans HSZ2.out hmv3.1.size)
  clear HS hj3 hmv3 k1 hoi HB2 HS1 SPE HSZ2
  go_wp2_with fail
  refine HG.out.mono ?_
  rintro e w4 ⟨va, S4, rfl, oa, hj4, hmv4, hna⟩
  obtain ⟨qa, ca, rfl, hqa1, hqa2, _⟩ := oa.at0 LM.out (by omega)
  have KI4 := Lib.hid (hmv4.kept K1.out.1 K1.out.2)
  have HI4 := Lib.hid (HI3.out.off hmv4.1 (fun k e e2 => by rw [← own_some e] at e2; exact K1.out.2 e2))
  have KA4 : Hid (qa < w4.heap.size ∧ ¬ S4 qa) := Lib.hid ⟨hqa2, hna qa rfl⟩
  have HA4 := Lib.hid (oa.lower (Nat.le_trans HL1.out HSZ3.out))
  have QA : Hid (w3.heap.size ≤ qa) := Lib.hid hqa1
  have HSZ4 := Lib.hid (Nat.le_trans HSZ3.out hmv4.1.size)
  have HG := Lib.hid (Get_pj hj4 3 (Nat.le_of_ble_eq_true rfl) (Nat.le_of_ble_eq_true rfl))
  rw [(sp2 m).1, (sp2 m).2] at HG
  dsimp only at HG
  clear oa hj4 hmv4 hna hqa1 hqa2 HI3
  go_wp2_with fail
  refine HG.out.mono ?_
  rintro e w5 ⟨vb, S5, rfl, ob, hj5, hmv5, hnb⟩
  obtain ⟨qb, cb, rfl, hqb1, hqb2, _⟩ := ob.at0 LM.out (by omega)
  have KI5 := Lib.hid (hmv5.kept KI4.out.1 KI4.out.2)
  have HI5 := Lib.hid (HI4.out.off hmv5.1 (fun k e e2 => by rw [← own_some e] at e2; exact KI4.out.2 e2))
  have KA5 := Lib.hid (hmv5.kept KA4.out.1 KA4.out.2)
  have HA5 := Lib.hid (HA4.out.off hmv5.1 (fun k e e2 => by rw [← own_some e] at e2; exact KA4.out.2 e2))
  have KB5 : Hid (qb < w5.heap.size ∧ ¬ S5 qb) := Lib.hid ⟨hqb2, hnb qb rfl⟩
  have HB5 := Lib.hid (ob.lower (Nat.le_trans HL1.out HSZ4.out))
  have QB : Hid (w4.heap.size ≤ qb) := Lib.hid hqb1
  have HSZ5 := Lib.hid (Nat.le_trans HSZ4.out hmv5.1.size)
  have HG := Lib.hid (Get_pj hj5 4 (Nat.le_of_ble_eq_true rfl) (Nat.le_of_ble_eq_true rfl))
  rw [(sp3 m).1, (sp3 m).2] at HG
  dsimp only at HG
  clear ob hj5 hmv5 hnb hqb1 hqb2 HI4 HA4
  go_wp2_with fail
  refine HG.out.mono ?_
  rintro e w6 ⟨vc, S6, rfl, oc, hj6, hmv6, hnc⟩
  have lz : zP.length = 4080 := by unfold zP; exact List.length_replicate ..
  obtain ⟨qc, cc, rfl, hqc1, hqc2, _⟩ := oc.at0 lz (by omega)
  have KI6 := Lib.hid (hmv6.kept KI5.out.1 KI5.out.2)
  have HI6 := Lib.hid (HI5.out.off hmv6.1 (fun k e e2 => by rw [← own_some e] at e2; exact KI5.out.2 e2))
  have KA6 := Lib.hid (hmv6.kept KA5.out.1 KA5.out.2)
  have HA6 := Lib.hid (HA5.out.off hmv6.1 (fun k e e2 => by rw [← own_some e] at e2; exact KA5.out.2 e2))
  have KB6 := Lib.hid (hmv6.kept KB5.out.1 KB5.out.2)
  have HB6 := Lib.hid (HB5.out.off hmv6.1 (fun k e e2 => by rw [← own_some e] at e2; exact KB5.out.2 e2))
  have KC6 : Hid (qc < w6.heap.size ∧ ¬ S6 qc) := Lib.hid ⟨hqc2, hnc qc rfl⟩
  have HC6 := Lib.hid (oc.lower (Nat.le_trans HL1.out HSZ5.out))
  have QC : Hid (w5.heap.size ≤ qc) := Lib.hid hqc1
  have HSZ6 := Lib.hid (Nat.le_trans HSZ5.out hmv6.1.size)
  have LZ := Lib.hid lz
  have HJ6 := Lib.hid hj6
  clear oc hj6 hmv6 hnc hqc1 hqc2 HI5 HA5 HB5 lz
  go_wp2_with fail
  refine (Held_pj HJ6.out).mono ?_
  intro e w7 hn
  obtain ⟨qx, cx, rfl, ox, hqx1, hqx2, hb7⟩ := hn.oi (n := 2) (by rw [(sp5 m).1]; rfl) (by omega)
  rw [(sp5 m).1] at ox
  have HX7 := Lib.hid ox
  have HBE7 := Lib.hid hb7
  have HJ7 := Lib.hid (HJ6.out.below hb7)
  have QX : Hid (w6.heap.size ≤ qx ∧ qx < w7.heap.size) := Lib.hid ⟨hqx1, hqx2⟩
  clear hn ox hqx1 hqx2 hb7
  go_wp2_with fail
  refine (Held_pj HJ7.out).mono ?_
  intro e w8 hn
  obtain ⟨qy, cy, rfl, oy, hqy1, hqy2, hb8⟩ := hn.oi (n := 2) (by rw [(sp5 m).1]; rfl) (by omega)
  rw [(sp5 m).1] at oy
  have HY8 := Lib.hid oy
  have HBE8 := Lib.hid hb8
  have HJ8 := Lib.hid (HJ7.out.below hb8)
  have QY : Hid (w7.heap.size ≤ qy ∧ qy < w8.heap.size) := Lib.hid ⟨hqy1, hqy2⟩
  clear hn oy hqy1 hqy2 hb8 HJ7
  go_wp2_with fail
  refine (Dirty_pj HJ8.out).mono ?_
  intro e w9 hn
  obtain ⟨qz, cz, rfl, oz, hqz1, hqz2, hb9⟩ := hn.oi (n := 1) (by rw [(sp5 m).2]; rfl) (by omega)
  rw [(sp5 m).2] at oz
  have HZ9 := Lib.hid oz
  have HJ9 := Lib.hid (HJ8.out.below hb9)
  have QZ : Hid (w8.heap.size ≤ qz ∧ qz < w9.heap.size) := Lib.hid ⟨hqz1, hqz2⟩
  have HY9 := Lib.hid (HY8.out.below hb9)
  have h79 : Below w7.heap.size w7 w9 := HBE8.out.trans (hb9.mono HBE8.out.size)
  have h69 : Below w6.heap.size w6 w9 := HBE7.out.trans (h79.mono HBE7.out.size)
  have HX9 := Lib.hid (HX7.out.below h79)
  have HA9 := Lib.hid (HA6.out.below h69)
  have HB9 := Lib.hid (HB6.out.below h69)
  have HC9 := Lib.hid (HC6.out.below h69)
  have HI9 := Lib.hid (HI6.out.below h69)
  have HS6 := Lib.hid (fun k (e : S6 k) => HJ6.out.lt e)
  have L69 := Lib.hid h69.size
  have SZ := Lib.hid (And.intro HBE7.out.size HBE8.out.size)
  clear hn oz hqz1 hqz2 hb9 h79 h69 HX7 HY8 HJ8 HJ6 HA6 HB6 HC6 HI6 HBE7 HBE8
  go_wp2_with fail
  refine (sameB_own _ _ m _ HA9.out HB9.out).mono ?_
  rintro e w' ⟨rfl, rfl⟩
  have hb10 := gr_alloc (gr_refl w9) (.cells #[.slice (some ⟨qa, 0, none⟩) 4080 ca, .slice (some ⟨qb, 0, none⟩) 4080 cb, .slice (some ⟨qc, 0, none⟩) 4080 cc, .slice (some ⟨w1.heap.size, 0, none⟩) 4080 4080] 26)
  have D : qa ≠ qb ∧ qa ≠ qc ∧ qa ≠ w1.heap.size ∧ qb ≠ qc ∧ qb ≠ w1.heap.size ∧ qc ≠ w1.heap.size := by
    have h1 := K1.out.1
    have h2 := QA.out
    have h3 := KA4.out.1
    have h4 := QB.out
    have h5 := KB5.out.1
    have h6 := QC.out
    have h7 := HSZ3.out
    have h8 := KI4.out.1
    have h9 := KI5.out.1
    refine ⟨?_, ?_, ?_, ?_, ?_, ?_⟩ <;> omega
  obtain ⟨p1, p2, p3, p4⟩ := four_apart (HA9.out.below hb10) (HB9.out.below hb10) (HC9.out.below hb10) (HI9.out.below hb10) LM.out LM.out LZ.out LM.out D.1 D.2.1 D.2.2.1 D.2.2.2.1 D.2.2.2.2.1 D.2.2.2.2.2
  have hsz9 : w.heap.size ≤ (w9.alloc (.cells #[.slice (some ⟨qa, 0, none⟩) 4080 ca, .slice (some ⟨qb, 0, none⟩) 4080 cb, .slice (some ⟨qc, 0, none⟩) 4080 cc, .slice (some ⟨w1.heap.size, 0, none⟩) 4080 4080] 26)).heap.size := by
    rw [World.size_alloc]
    have := HJ9.out.bel.size
    omega
  have X := ApartBytes_off w9.heap.size 4 4 w.heap.size _ (0, 0) _ _ _ _ _ p1 p2 (heap_alloc_new w9 _) p4 (fun _ _ => by omega) hsz9 (by omega)
  have HX := Lib.hid X
  have HP3 := Lib.hid p3
  have HB10 := Lib.hid hb10
  clear X p1 p2 p3 p4 HA9 HB9 HC9 HI9 hb10 D hsz9
  go_wp2_with fail
  refine HX.out.mono ?_
  clear HX
  rintro e w11 ⟨rfl, ho11⟩
  have hno : ∀ k, (k = qa ∨ k = qb ∨ k = qc ∨ k = w1.heap.size) → k < w6.heap.size ∧ ¬ S6 k ∧ w.heap.size ≤ k := fun k hk => by
    have h0 := HL1.out
    have h1 := HSZ3.out
    have h2 := QA.out
    have h3 := QB.out
    have h4 := QC.out
    have h5 := HSZ4.out
    have h6 := HSZ5.out
    rcases hk with rfl | rfl | rfl | rfl
    · exact ⟨KA6.out.1, KA6.out.2, by omega⟩
    · exact ⟨KB6.out.1, KB6.out.2, by omega⟩
    · exact ⟨KC6.out.1, KC6.out.2, by omega⟩
    · exact ⟨KI6.out.1, KI6.out.2, by omega⟩
  have hj11 := (HJ9.out.below HB10.out).off ho11 (fun k hk hs => (hno k (HP3.out k hs)).2.1 hk) (fun k hs => (hno k (HP3.out k hs)).2.2) (LogV.nil_ _ _)
  have hq6 : ∀ k, apS 4 _ _ _ k → k < w6.heap.size := fun k hs => (hno k (HP3.out k hs)).1
  have ox11 := ownsRow_off (World.ownsRow.kept (HX9.out.below HB10.out) (World.grownBy.refl _ none) (by cases (Value.slice (some ⟨qx, 0, none⟩) 2 cx).ownBlock <;> simp)) ho11 (fun k e hs => by have := hq6 k hs; have := QX.out.1; have := own_some e; omega)
  have oy11 := ownsRow_off (HY9.out.below HB10.out) ho11 (fun k e hs => by have := hq6 k hs; have := QY.out.1; have := QX.out; have := SZ.out.1; have := own_some e; omega)
  have oz11 := ownsRow_off (HZ9.out.below HB10.out) ho11 (fun k e hs => by have := hq6 k hs; have := QZ.out.1; have := QX.out; have := SZ.out; have := own_some e; omega)
  have hb12 := gr_alloc (gr_refl w11) (.cells #[.slice (some ⟨qx, 0, none⟩) 2 cx, .slice (some ⟨qy, 0, none⟩) 2 cy, .slice (some ⟨qz, 0, none⟩) 1 cz] 32)
  have ox12 := (OI.below (l := intsL [3, 4]) ox11 hb12).lower (b := w6.heap.size) (Nat.le_refl _)
  have oy12 := (OI.below (l := intsL [3, 4]) oy11 hb12).lower (b := w6.heap.size) SZ.out.1
  have oz12 := (OI.below (l := intsL [3]) oz11 hb12).lower (b := w6.heap.size) (Nat.le_trans SZ.out.1 SZ.out.2)
  obtain ⟨p1, p2, p3, p4⟩ := three_apart ox12 oy12 oz12 rfl rfl rfl (by have := QX.out; have := QY.out; omega) (by have := QX.out; have := QZ.out; have := SZ.out; omega) (by have := QY.out; have := QZ.out; omega)
  have hsz : w6.heap.size ≤ (w11.alloc (.cells #[.slice (some ⟨qx, 0, none⟩) 2 cx, .slice (some ⟨qy, 0, none⟩) 2 cy, .slice (some ⟨qz, 0, none⟩) 1 cz] 32)).heap.size := by
    have h1 := ho11.size
    have h2 := L69.out
    rw [World.size_alloc] at h1 ⊢
    omega
  have X := ApartInts_off w11.heap.size 3 3 w6.heap.size _ (0, 0) _ _ _ _ _ p1 p2 (heap_alloc_new w11 _) p4 (fun j _ => by unfold pick3; split <;> (try split) <;> omega) hsz (by omega)
  have HX := Lib.hid X
  have HP3' := Lib.hid p3
  have HJ11 := Lib.hid hj11
  have HB12 := Lib.hid hb12
  clear X p1 p2 p3 p4 ox11 oy11 oz11 ox12 oy12 oz12 hb12 hsz hj11 hno hq6 ho11 HX9 HY9 HZ9 HJ9 HP3 HB10
  go_wp2_with fail
  refine HX.out.mono ?_
  clear HX
  rintro e w13 ⟨rfl, ho13⟩
  have hj13 := (HJ11.out.below HB12.out).off ho13 (fun k hk hs => by
    have h1 := HS6.out k hk
    have h2 := QX.out.1
    have h3 := QY.out.1
    have h4 := QZ.out.1
    have h5 := SZ.out
    rcases HP3'.out k hs with e | e | e <;> omega) (fun k hs => by
    have h1 := HSZ6.out
    have h2 := QX.out.1
    have h3 := QY.out.1
    have h4 := QZ.out.1
    have h5 := SZ.out
    have h6 := HL1.out
    rcases HP3'.out k hs with e | e | e <;> omega) (LogV.nil_ _ _)
  have HG := Lib.hid (Get_pj hj13 3 (Nat.le_of_ble_eq_true rfl) (Nat.le_of_ble_eq_true rfl))
  rw [(sp4 m).1, (sp4 m).2] at HG
  dsimp only at HG
  clear hj13 ho13 HJ11 HB12
  go_wp2_with fail
  refine HG.out.mono ?_
  rintro e w14 ⟨vg, S14, rfl, og, hj14, _, _⟩
  obtain ⟨qg, cg, rfl, _⟩ := og.at0 LM.out (by omega)
  have HJ14 := Lib.hid hj14
  have HG14 := Lib.hid og
  clear hj14 og HG
  go_wp2_with fail
  refine (HPAY.out w14).mono ?_
  rintro e w15 ⟨rfl, hB15, hb15⟩
  have ho15 : OB w15 w14.heap.size (.slice (some ⟨w14.heap.size, 0, none⟩) 4080 4080) m := by
    have := hB15.own (base := w14.heap.size) (Nat.le_refl _) (by rw [LM.out]; simp [maxLen])
    rwa [LM.out] at this
  have HO15 := Lib.hid ho15
  have HG15 := Lib.hid (HG14.out.below hb15)
  have HJ15 := Lib.hid (HJ14.out.below hb15)
  clear hB15 hb15 ho15 HG14 HJ14
  go_wp2_with fail
  refine (sameB_own _ _ m _ HG15.out HO15.out).mono ?_
  rintro e w' ⟨rfl, rfl⟩
  go_wp2_with fail
  refine (Held_pj HJ15.out).mono ?_
  intro e w16 hn
  obtain ⟨A16, c16, rfl, hi16, hb16⟩ := hn.ir
  rw [(sp5 m).1] at hi16
  have HJ16 := Lib.hid (HJ15.out.below hb16)
  have hl2 : (heldL (sP2 m)).length = 2 := by rw [(sp5 m).1]; rfl
  rw [hl2]
  have hbn := gr_alloc (gr_refl w16) (.cells #[.int .i64 3, .int .i64 4] 3)
  have HSI := Lib.hid (fun c d => SameInts_any A16 (some ⟨w16.heap.size, 0, none⟩) 2 2 c d [3, 4] [3, 4] (w16.alloc (.cells #[.int .i64 3, .int .i64 4] 3)) (IR.below hi16 hbn) (IR.litAt _ _ [3, 4] _ _ 2 rfl rfl rfl) (by omega) (by omega))
  have HJ17 := Lib.hid (HJ16.out.below hbn)
  clear hn hi16 hb16 hbn HJ15 HJ16
  go_wp2_with fail
  refine (HSI.out _ _).mono ?_
  rintro e w17 ⟨rfl, hb17⟩
  have HJ18 := Lib.hid (HJ17.out.below hb17)
  clear hb17 HJ17 HSI
  go_wp2_with fail
  refine (awake09_any _).mono ?_
  rintro e w18 ⟨rfl, hb18⟩
  go_wp2
  go_ret
  exact ⟨rfl, (HJ18.out.below hb18).bel⟩

end Go.Proofs.Ytmdgnjmhbjdlmaa
