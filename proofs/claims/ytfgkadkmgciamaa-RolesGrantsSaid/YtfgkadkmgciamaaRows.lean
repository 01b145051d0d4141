/-
  NARROWER THAN 'FOR EVERY INPUT', by the rows' own cells (each row's printed sentence says how): RolesSound: loops.
  DERIVED. THE GIVEN ROWS OF THIS SEAT. 5 by the template 'for every input the law returns true; each argument reads behind the call as it read before'; 0 by the template 'total and deterministic' (their statements: YtfgkadkmgciamaaTotals.lean).
  GIVEN WITH THE SEED: the statements are not yours to turn. If you find one false, say at which input.
  Laid BY PROGRAM, IN A SANDBOX (cutbox-rows.mjs): the forced cells as the released guide's own fill.sh prints them over the translation d34ee57821196772… (all of the seat's roots in one cut). By AI agents, Wed Nov 11 2026. No macro, syntax, notation, axiom, sorry.
-/
import Derived.Test.YtfgkadkmgciamaaChecked
import GoSem.Claim
import GoSem.ClaimJoined
import GoSem.ClaimMapViews
import Derived.JoinedTies
import Derived.KernelRfl
namespace Go.Proofs.Ytfgkadkmgciamaa
/- THE CELL 'sum', in the pinned program and in every row, IS THE sha256 OF THE DUMP (.gsa) THAT YtfgkadkmgciamaaProg.lean LOADS. Nothing in Lean hashes anything: it is a label: what it is worth is what the hold of that sum in a sandbox is worth. -/
noncomputable def Try.pinned : Pinned := { name := "ytfgkadkmgciamaa", sum := "d34ee578211967727b79a42957d2fd2dd63196d409e7ab84bc611cd5a423e3b7", checked := Try.checked }
namespace Rows
def none {H : Type} : Left H := { results := [], args := [] }

/-- 'chancerylaw21.RolesSound': WHATEVER THE INPUT: true; the input reads as it did. -/
def rolesSoundSpec : ChangeSpec := { name := "rolesSound", fn := fun _ => fun
  | [d1, d2] => { results := [.lit (.bool true)], args := [d1, d2] }
  | _ => none }
def rolesSoundRow : OpenClaim := { program := "ytfgkadkmgciamaa", sum := "d34ee578211967727b79a42957d2fd2dd63196d409e7ab84bc611cd5a423e3b7", func := "chancery/chancerylaw21.RolesSound", spec := "rolesSound", unfollowed := true, recurses := true, loops := true, apart := false }
def RolesSoundSaid : Prop := rolesSoundRow.holds Try.pinned (OpenSpec.ofChange rolesSoundSpec)

/-- ITS FALSE NEIGHBOUR: 'it returns false'. Refute it at one input. -/
def rolesSoundWrong : ChangeSpec := { name := "rolesSound", fn := fun _ => fun
  | [d1, d2] => { results := [.lit (.bool false)], args := [d1, d2] }
  | _ => none }
def RolesSoundWrongFalsely : Prop := rolesSoundRow.holds Try.pinned (OpenSpec.ofChange rolesSoundWrong)

/-- 'chancerylaw21.RolesChain': WHATEVER THE INPUT: true; the input reads as it did. -/
def rolesChainSpec : ChangeSpec := { name := "rolesChain", fn := fun _ => fun
  | [d1, d2] => { results := [.lit (.bool true)], args := [d1, d2] }
  | _ => none }
def rolesChainRow : OpenClaim := { program := "ytfgkadkmgciamaa", sum := "d34ee578211967727b79a42957d2fd2dd63196d409e7ab84bc611cd5a423e3b7", func := "chancery/chancerylaw21.RolesChain", spec := "rolesChain", unfollowed := true, recurses := true, apart := false }
def RolesChainSaid : Prop := rolesChainRow.holds Try.pinned (OpenSpec.ofChange rolesChainSpec)

/-- ITS FALSE NEIGHBOUR: 'it returns false'. Refute it at one input. -/
def rolesChainWrong : ChangeSpec := { name := "rolesChain", fn := fun _ => fun
  | [d1, d2] => { results := [.lit (.bool false)], args := [d1, d2] }
  | _ => none }
def RolesChainWrongFalsely : Prop := rolesChainRow.holds Try.pinned (OpenSpec.ofChange rolesChainWrong)

/-- 'chancerylaw21.RolesGrants': WHATEVER THE INPUT: true; the input reads as it did. -/
def rolesGrantsSpec : ChangeSpec := { name := "rolesGrants", fn := fun _ => fun
  | [d1, d2, d3] => { results := [.lit (.bool true)], args := [d1, d2, d3] }
  | _ => none }
def rolesGrantsRow : OpenClaim := { program := "ytfgkadkmgciamaa", sum := "d34ee578211967727b79a42957d2fd2dd63196d409e7ab84bc611cd5a423e3b7", func := "chancery/chancerylaw21.RolesGrants", spec := "rolesGrants", unfollowed := true, recurses := true, apart := false }
def RolesGrantsSaid : Prop := rolesGrantsRow.holds Try.pinned (OpenSpec.ofChange rolesGrantsSpec)

/-- ITS FALSE NEIGHBOUR: 'it returns false'. Refute it at one input. -/
def rolesGrantsWrong : ChangeSpec := { name := "rolesGrants", fn := fun _ => fun
  | [d1, d2, d3] => { results := [.lit (.bool false)], args := [d1, d2, d3] }
  | _ => none }
def RolesGrantsWrongFalsely : Prop := rolesGrantsRow.holds Try.pinned (OpenSpec.ofChange rolesGrantsWrong)

/-- 'chancerylaw21.RolesMembers': WHATEVER THE INPUT: true; the input reads as it did. -/
def rolesMembersSpec : ChangeSpec := { name := "rolesMembers", fn := fun _ => fun
  | [d1, d2, d3] => { results := [.lit (.bool true)], args := [d1, d2, d3] }
  | _ => none }
def rolesMembersRow : OpenClaim := { program := "ytfgkadkmgciamaa", sum := "d34ee578211967727b79a42957d2fd2dd63196d409e7ab84bc611cd5a423e3b7", func := "chancery/chancerylaw21.RolesMembers", spec := "rolesMembers", unfollowed := true, recurses := true, apart := false }
def RolesMembersSaid : Prop := rolesMembersRow.holds Try.pinned (OpenSpec.ofChange rolesMembersSpec)

/-- ITS FALSE NEIGHBOUR: 'it returns false'. Refute it at one input. -/
def rolesMembersWrong : ChangeSpec := { name := "rolesMembers", fn := fun _ => fun
  | [d1, d2, d3] => { results := [.lit (.bool false)], args := [d1, d2, d3] }
  | _ => none }
def RolesMembersWrongFalsely : Prop := rolesMembersRow.holds Try.pinned (OpenSpec.ofChange rolesMembersWrong)

/-- 'chancerylaw21.RolesRise': WHATEVER THE INPUT: true; the input reads as it did. -/
def rolesRiseSpec : ChangeSpec := { name := "rolesRise", fn := fun _ => fun
  | [d1, d2, d3] => { results := [.lit (.bool true)], args := [d1, d2, d3] }
  | _ => none }
def rolesRiseRow : OpenClaim := { program := "ytfgkadkmgciamaa", sum := "d34ee578211967727b79a42957d2fd2dd63196d409e7ab84bc611cd5a423e3b7", func := "chancery/chancerylaw21.RolesRise", spec := "rolesRise", unfollowed := true, recurses := true, apart := false }
def RolesRiseSaid : Prop := rolesRiseRow.holds Try.pinned (OpenSpec.ofChange rolesRiseSpec)

/-- ITS FALSE NEIGHBOUR: 'it returns false'. Refute it at one input. -/
def rolesRiseWrong : ChangeSpec := { name := "rolesRise", fn := fun _ => fun
  | [d1, d2, d3] => { results := [.lit (.bool false)], args := [d1, d2, d3] }
  | _ => none }
def RolesRiseWrongFalsely : Prop := rolesRiseRow.holds Try.pinned (OpenSpec.ofChange rolesRiseWrong)

/- THE SECOND FORM. 'bulk': how many values and letters a reading holds, each counted each time it is reached (what is shared counts as often as it is met; a slice's spare places count too). A statement '..UptoSaid' is the law's where the arguments, and the package variables that the reading takes, are together of bulk at most 1048576: NARROWER than '..Said'. Prove '..Said' where nothing that the law and all that it calls make is longer than what came in: it says more and counts as full. Else prove '..UptoSaid'. A law counts once. -/
mutual
def uptoBulk {H : Type} : DataW H → Nat
  | .lit (.string bytes) => bytes.length + 1
  | .lit _ => 1
  | .nil => 1
  | .ptr d => uptoBulk d + 1
  | .slice elems spare => uptoBulkAll elems + uptoBulkAll spare + 1
  | .agg parts => uptoBulkAll parts + 1
  | .iface _ d => uptoBulk d + 1
  | .map entries => uptoBulkEntries entries + 1
  | .held _ => 1
def uptoBulkAll {H : Type} : List (DataW H) → Nat
  | [] => 0
  | d :: r => uptoBulk d + uptoBulkAll r
def uptoBulkEntries {H : Type} : List (Lit × DataW H) → Nat
  | [] => 0
  | x :: r => uptoBulkEntry x + uptoBulkEntries r
def uptoBulkEntry {H : Type} : Lit × DataW H → Nat
  | (.string bytes, d) => bytes.length + uptoBulk d + 1
  | (_, d) => uptoBulk d + 1
 end
def uptoSmall : (H : Type) → List (DataW H) → Bool := fun _ ds => decide (uptoBulkAll ds ≤ 1048576)
def OpenSpec.upto (s : _root_.Go.ChangeSpec) : _root_.Go.OpenSpec := { _root_.Go.OpenSpec.ofChange s with cond := some uptoSmall }

/-- 'chancerylaw21.RolesSound', WHERE WHAT IT READS IS OF BULK AT MOST 1048576: true; the input reads as it did. -/
def rolesSoundUptoRow : OpenClaim := { program := "ytfgkadkmgciamaa", sum := "d34ee578211967727b79a42957d2fd2dd63196d409e7ab84bc611cd5a423e3b7", func := "chancery/chancerylaw21.RolesSound", spec := "rolesSound", unfollowed := true, recurses := true, loops := true, apart := false, narrowed := true }
def RolesSoundUptoSaid : Prop := rolesSoundUptoRow.holds Try.pinned (OpenSpec.upto rolesSoundSpec)

/-- 'chancerylaw21.RolesChain', WHERE WHAT IT READS IS OF BULK AT MOST 1048576: true; the input reads as it did. -/
def rolesChainUptoRow : OpenClaim := { program := "ytfgkadkmgciamaa", sum := "d34ee578211967727b79a42957d2fd2dd63196d409e7ab84bc611cd5a423e3b7", func := "chancery/chancerylaw21.RolesChain", spec := "rolesChain", unfollowed := true, recurses := true, apart := false, narrowed := true }
def RolesChainUptoSaid : Prop := rolesChainUptoRow.holds Try.pinned (OpenSpec.upto rolesChainSpec)

/-- 'chancerylaw21.RolesGrants', WHERE WHAT IT READS IS OF BULK AT MOST 1048576: true; the input reads as it did. -/
def rolesGrantsUptoRow : OpenClaim := { program := "ytfgkadkmgciamaa", sum := "d34ee578211967727b79a42957d2fd2dd63196d409e7ab84bc611cd5a423e3b7", func := "chancery/chancerylaw21.RolesGrants", spec := "rolesGrants", unfollowed := true, recurses := true, apart := false, narrowed := true }
def RolesGrantsUptoSaid : Prop := rolesGrantsUptoRow.holds Try.pinned (OpenSpec.upto rolesGrantsSpec)

/-- 'chancerylaw21.RolesMembers', WHERE WHAT IT READS IS OF BULK AT MOST 1048576: true; the input reads as it did. -/
def rolesMembersUptoRow : OpenClaim := { program := "ytfgkadkmgciamaa", sum := "d34ee578211967727b79a42957d2fd2dd63196d409e7ab84bc611cd5a423e3b7", func := "chancery/chancerylaw21.RolesMembers", spec := "rolesMembers", unfollowed := true, recurses := true, apart := false, narrowed := true }
def RolesMembersUptoSaid : Prop := rolesMembersUptoRow.holds Try.pinned (OpenSpec.upto rolesMembersSpec)

/-- 'chancerylaw21.RolesRise', WHERE WHAT IT READS IS OF BULK AT MOST 1048576: true; the input reads as it did. -/
def rolesRiseUptoRow : OpenClaim := { program := "ytfgkadkmgciamaa", sum := "d34ee578211967727b79a42957d2fd2dd63196d409e7ab84bc611cd5a423e3b7", func := "chancery/chancerylaw21.RolesRise", spec := "rolesRise", unfollowed := true, recurses := true, apart := false, narrowed := true }
def RolesRiseUptoSaid : Prop := rolesRiseUptoRow.holds Try.pinned (OpenSpec.upto rolesRiseSpec)

end Rows
end Go.Proofs.Ytfgkadkmgciamaa
