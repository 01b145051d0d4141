/-
  A disk stays where only blocks turn that are none of its own, nor of its bytes.
-/
import Derived.Test.YtjopobkcijkpmaaDkK
import Derived.Test.YtjopobkcijkpmaaApO
namespace Go.Proofs.Ytjopobkcijkpmaa
open Go.RowKit

section
variable {ok ok' : Nat → Prop} {w w' : World} {u : Value} {l : List UInt8} {base g dr dc : Nat} {F : Nat → Prop} {pv : Value} {dvs : List Value} {pvs : List (Int × Value)} {D : DiskS}
theorem BV.offO {S : Nat → Prop} (h : BV ok w u l) (ho : Off S w w') (hS : ∀ k, S k → ok k → False) : BV ok w' u l := by
  obtain ⟨hl, h | ⟨g, e, hB, hg⟩⟩ := h
  · exact ⟨hl, .inl h⟩
  · exact ⟨hl, .inr ⟨g, e, (ho.block g hB.lt (fun hs => hS g hs hg)).trans hB, hg⟩⟩
theorem BW.offO {S : Nat → Prop} (h : BW ok w u l) (ho : Off S w w') (hS : ∀ k, S k → ok k → False) : BW ok w' u l := by
  obtain ⟨hl, g, e, hB, hg⟩ := h
  exact ⟨hl, g, e, (ho.block g hB.lt (fun hs => hS g hs hg)).trans hB, hg⟩
theorem DK.offO {S : Nat → Prop} (h : DK w ok base g dr dc pv dvs pvs D) (ho : Off S w w') (hS : ∀ k, foot g dr pv k → ¬ S k) (hB : ∀ k, S k → ok k → False) : DK w' ok base g dr dc pv dvs pvs D :=
  ⟨h.db.off ho (hS g (.inl rfl)), ownsRow_off h.dur ho (fun k e => hS k (by cases e; exact .inr (.inl rfl))), ownsRow_off h.pen ho (fun k e => hS k (.inr (.inr e))), h.pl,
   fun i u l h1 h2 => (h.dv i u l h1 h2).offO ho hB, fun i q p h1 h2 => ⟨(h.pw i q p h1 h2).1, (h.pw i q p h1 h2).2.1, (h.pw i q p h1 h2).2.2.offO ho hB⟩, h.n1, h.n2, h.p1, h.p2, h.f1, h.f2, h.gb⟩
theorem IsD.offO {S : Nat → Prop} (h : IsD w ok base g F D) (ho : Off S w w') (hS : ∀ k, F k → ¬ S k) (hB : ∀ k, S k → ok k → False) : IsD w' ok base g F D := by
  obtain ⟨dr, dc, pv, dvs, pvs, hd, hF⟩ := h
  exact ⟨dr, dc, pv, dvs, pvs, hd.offO ho (fun k hk => hS k ((hF k).2 hk)) hB, hF⟩
/-- Only blocks that there are hold its bytes. -/
theorem IsD.sharp (h : IsD w ok base g F D) : IsD w (fun k => ok k ∧ k < w.heap.size) base g F D := h.mono (fun _ hk ho => ⟨ho, hk⟩)
end

/-- Bytes of 4096, read back. -/
theorem OB.full {w : World} {base : Nat} {v : Value} {l : List UInt8} (h : OB w base v l) (hl : l.length = 4096) : ∃ q c, v = .slice (some ⟨q, 0, none⟩) 4096 c ∧ base ≤ q ∧ q < w.heap.size ∧ c ≤ maxLen := by
  obtain ⟨A, c, rfl, hr, hc, hm⟩ := h.formN hl
  obtain ⟨q, rfl, _, _, hb⟩ := obA_some h hl (by omega)
  exact ⟨q, c, rfl, hb, (h.lt q rfl).2, hm⟩

end Go.Proofs.Ytjopobkcijkpmaa
