/-
  Records one behind the other: what All tells of their bytes.
-/
import Derived.Test.YthpjjoahffagcaaRdO
namespace Go.Proofs.Ythpjjoahffagcaa
open Go.RowKit

def joinE : List Rec → List UInt8
  | [] => []
  | r :: rs => encR r ++ joinE rs
theorem joinE_snoc (rs : List Rec) (r : Rec) : joinE (rs ++ [r]) = joinE rs ++ encR r := by
  induction rs with
  | nil => simp [joinE]
  | cons q rs ih => simp only [List.cons_append, joinE, ih, List.append_assoc]
theorem allF_join : ∀ (rs : List Rec) (f : Nat) (acc : List Rec) (rest : List UInt8), (∀ r ∈ rs, r.right = true) → allF (f + rs.length) acc (joinE rs ++ rest) = allF f (acc ++ rs) rest
  | [], f, acc, rest, _ => by simp [joinE]
  | r :: rs, f, acc, rest, h => by
    have hr := h r (List.mem_cons_self ..)
    obtain ⟨d1, d2, d3⟩ := dec_back hr (joinE rs ++ rest)
    have hne : encR r ++ (joinE rs ++ rest) ≠ [] := fun e => by
      have := congrArg List.length e
      rw [List.length_append, encR_len] at this
      simp at this
    have e : f + (r :: rs).length = (f + rs.length) + 1 := by simp; omega
    rw [e]
    rw [show joinE (r :: rs) ++ rest = encR r ++ (joinE rs ++ rest) from List.append_assoc _ _ _]
    rw [show allF ((f + rs.length) + 1) acc (encR r ++ (joinE rs ++ rest)) = if encR r ++ (joinE rs ++ rest) = [] then (acc, 0) else if decE (encR r ++ (joinE rs ++ rest)) ≠ 0 then ([], decE (encR r ++ (joinE rs ++ rest))) else allF (f + rs.length) (acc ++ [decR (encR r ++ (joinE rs ++ rest))]) ((encR r ++ (joinE rs ++ rest)).drop (decN (encR r ++ (joinE rs ++ rest)))) from rfl]
    rw [if_neg hne, d1, if_neg (by simp), d2, d3, List.drop_left' rfl, allF_join rs f (acc ++ [r]) rest (fun q hq => h q (List.mem_cons_of_mem _ hq))]
    simp

end Go.Proofs.Ythpjjoahffagcaa
