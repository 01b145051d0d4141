/-
  No cell of these rows narrows 'for every input' (looked for: loops, veiled, ifaces, maps, wideKeys, modest, calm, conditions, laid).
  DERIVED. THE GIVEN ROWS OF THIS SEAT. 13 by the template 'for every input the law returns true; each argument reads behind the call as it read before'; 0 by the template 'total and deterministic' (their statements: YtecndamoomkhnaaTotals.lean).
  GIVEN WITH THE SEED: the statements are not yours to turn. If you find one false, say at which input.
  Laid BY PROGRAM, IN A SANDBOX (cutbox-rows.mjs): the forced cells as the released guide's own fill.sh prints them over the translation 20ce28ec41f23d7c… (all of the seat's roots in one cut). By AI agents, Wed Nov 11 2026. No macro, syntax, notation, axiom, sorry.
-/
import Derived.Test.YtecndamoomkhnaaChecked
import GoSem.Claim
import GoSem.ClaimJoined
import GoSem.ClaimMapViews
import Derived.JoinedTies
import Derived.KernelRfl
namespace Go.Proofs.Ytecndamoomkhnaa
/- THE CELL 'sum', in the pinned program and in every row, IS THE sha256 OF THE DUMP (.gsa) THAT YtecndamoomkhnaaProg.lean LOADS. Nothing in Lean hashes anything: it is a label: what it is worth is what the hold of that sum in a sandbox is worth. -/
noncomputable def Try.pinned : Pinned := { name := "ytecndamoomkhnaa", sum := "20ce28ec41f23d7c3891ebec6aac8de7c1ba05155b3fb8a95646bafb8afb06a4", checked := Try.checked }
namespace Rows
def none {H : Type} : Left H := { results := [], args := [] }

/-- 'chancerylaw01.OctetsOrder': WHATEVER THE INPUT: true; the input reads as it did. -/
def octetsOrderSpec : ChangeSpec := { name := "octetsOrder", fn := fun _ => fun
  | [d1, d2, d3] => { results := [.lit (.bool true)], args := [d1, d2, d3] }
  | _ => none }
def octetsOrderRow : OpenClaim := { program := "ytecndamoomkhnaa", sum := "20ce28ec41f23d7c3891ebec6aac8de7c1ba05155b3fb8a95646bafb8afb06a4", func := "chancery/chancerylaw01.OctetsOrder", spec := "octetsOrder", inPlace := ["internal/bytealg.Compare"], apart := false }
def OctetsOrderSaid : Prop := octetsOrderRow.holds Try.pinned (OpenSpec.ofChange octetsOrderSpec)

/-- ITS FALSE NEIGHBOUR: 'it returns false'. Refute it at one input. -/
def octetsOrderWrong : ChangeSpec := { name := "octetsOrder", fn := fun _ => fun
  | [d1, d2, d3] => { results := [.lit (.bool false)], args := [d1, d2, d3] }
  | _ => none }
def OctetsOrderWrongFalsely : Prop := octetsOrderRow.holds Try.pinned (OpenSpec.ofChange octetsOrderWrong)

/-- 'chancerylaw08.ChangeSpares': WHATEVER THE INPUT: true; the input reads as it did. -/
def changeSparesSpec : ChangeSpec := { name := "changeSpares", fn := fun _ => fun
  | [d1, d2] => { results := [.lit (.bool true)], args := [d1, d2] }
  | _ => none }
def changeSparesRow : OpenClaim := { program := "ytecndamoomkhnaa", sum := "20ce28ec41f23d7c3891ebec6aac8de7c1ba05155b3fb8a95646bafb8afb06a4", func := "chancery/chancerylaw08.ChangeSpares", spec := "changeSpares", unfollowed := true, recurses := true, apart := false }
def ChangeSparesSaid : Prop := changeSparesRow.holds Try.pinned (OpenSpec.ofChange changeSparesSpec)

/-- ITS FALSE NEIGHBOUR: 'it returns false'. Refute it at one input. -/
def changeSparesWrong : ChangeSpec := { name := "changeSpares", fn := fun _ => fun
  | [d1, d2] => { results := [.lit (.bool false)], args := [d1, d2] }
  | _ => none }
def ChangeSparesWrongFalsely : Prop := changeSparesRow.holds Try.pinned (OpenSpec.ofChange changeSparesWrong)

/-- 'chancerylaw04.StampTorn': WHATEVER THE INPUT: true; the input reads as it did. -/
def stampTornSpec : ChangeSpec := { name := "stampTorn", fn := fun _ => fun
  | [d1, d2, d3, d4, d5] => { results := [.lit (.bool true)], args := [d1, d2, d3, d4, d5] }
  | _ => none }
def stampTornRow : OpenClaim := { program := "ytecndamoomkhnaa", sum := "20ce28ec41f23d7c3891ebec6aac8de7c1ba05155b3fb8a95646bafb8afb06a4", func := "chancery/chancerylaw04.StampTorn", spec := "stampTorn", apart := false }
def StampTornSaid : Prop := stampTornRow.holds Try.pinned (OpenSpec.ofChange stampTornSpec)

/-- ITS FALSE NEIGHBOUR: 'it returns false'. Refute it at one input. -/
def stampTornWrong : ChangeSpec := { name := "stampTorn", fn := fun _ => fun
  | [d1, d2, d3, d4, d5] => { results := [.lit (.bool false)], args := [d1, d2, d3, d4, d5] }
  | _ => none }
def StampTornWrongFalsely : Prop := stampTornRow.holds Try.pinned (OpenSpec.ofChange stampTornWrong)

/-- 'chancerylaw08.ChangeNumbers': WHATEVER THE INPUT: true; the input reads as it did. -/
def changeNumbersSpec : ChangeSpec := { name := "changeNumbers", fn := fun _ => fun
  | [] => { results := [.lit (.bool true)], args := [] }
  | _ => none }
def changeNumbersRow : OpenClaim := { program := "ytecndamoomkhnaa", sum := "20ce28ec41f23d7c3891ebec6aac8de7c1ba05155b3fb8a95646bafb8afb06a4", func := "chancery/chancerylaw08.ChangeNumbers", spec := "changeNumbers", unfollowed := true, recurses := true, apart := false }
def ChangeNumbersSaid : Prop := changeNumbersRow.holds Try.pinned (OpenSpec.ofChange changeNumbersSpec)

/-- ITS FALSE NEIGHBOUR: 'it returns false'. Refute it at one input. -/
def changeNumbersWrong : ChangeSpec := { name := "changeNumbers", fn := fun _ => fun
  | [] => { results := [.lit (.bool false)], args := [] }
  | _ => none }
def ChangeNumbersWrongFalsely : Prop := changeNumbersRow.holds Try.pinned (OpenSpec.ofChange changeNumbersWrong)

/-- 'chancerylaw08.ChangeTells': WHATEVER THE INPUT: true; the input reads as it did. -/
def changeTellsSpec : ChangeSpec := { name := "changeTells", fn := fun _ => fun
  | [d1, d2, d3] => { results := [.lit (.bool true)], args := [d1, d2, d3] }
  | _ => none }
def changeTellsRow : OpenClaim := { program := "ytecndamoomkhnaa", sum := "20ce28ec41f23d7c3891ebec6aac8de7c1ba05155b3fb8a95646bafb8afb06a4", func := "chancery/chancerylaw08.ChangeTells", spec := "changeTells", unfollowed := true, recurses := true, apart := false }
def ChangeTellsSaid : Prop := changeTellsRow.holds Try.pinned (OpenSpec.ofChange changeTellsSpec)

/-- ITS FALSE NEIGHBOUR: 'it returns false'. Refute it at one input. -/
def changeTellsWrong : ChangeSpec := { name := "changeTells", fn := fun _ => fun
  | [d1, d2, d3] => { results := [.lit (.bool false)], args := [d1, d2, d3] }
  | _ => none }
def ChangeTellsWrongFalsely : Prop := changeTellsRow.holds Try.pinned (OpenSpec.ofChange changeTellsWrong)

/-- 'chancerylaw08.ChangeAlong': WHATEVER THE INPUT: true; the input reads as it did. -/
def changeAlongSpec : ChangeSpec := { name := "changeAlong", fn := fun _ => fun
  | [d1, d2, d3] => { results := [.lit (.bool true)], args := [d1, d2, d3] }
  | _ => none }
def changeAlongRow : OpenClaim := { program := "ytecndamoomkhnaa", sum := "20ce28ec41f23d7c3891ebec6aac8de7c1ba05155b3fb8a95646bafb8afb06a4", func := "chancery/chancerylaw08.ChangeAlong", spec := "changeAlong", unfollowed := true, recurses := true, apart := false }
def ChangeAlongSaid : Prop := changeAlongRow.holds Try.pinned (OpenSpec.ofChange changeAlongSpec)

/-- ITS FALSE NEIGHBOUR: 'it returns false'. Refute it at one input. -/
def changeAlongWrong : ChangeSpec := { name := "changeAlong", fn := fun _ => fun
  | [d1, d2, d3] => { results := [.lit (.bool false)], args := [d1, d2, d3] }
  | _ => none }
def ChangeAlongWrongFalsely : Prop := changeAlongRow.holds Try.pinned (OpenSpec.ofChange changeAlongWrong)

/-- 'chancerylaw04.StampNumbers': WHATEVER THE INPUT: true; the input reads as it did. -/
def stampNumbersSpec : ChangeSpec := { name := "stampNumbers", fn := fun _ => fun
  | [] => { results := [.lit (.bool true)], args := [] }
  | _ => none }
def stampNumbersRow : OpenClaim := { program := "ytecndamoomkhnaa", sum := "20ce28ec41f23d7c3891ebec6aac8de7c1ba05155b3fb8a95646bafb8afb06a4", func := "chancery/chancerylaw04.StampNumbers", spec := "stampNumbers", apart := false }
def StampNumbersSaid : Prop := stampNumbersRow.holds Try.pinned (OpenSpec.ofChange stampNumbersSpec)

/-- ITS FALSE NEIGHBOUR: 'it returns false'. Refute it at one input. -/
def stampNumbersWrong : ChangeSpec := { name := "stampNumbers", fn := fun _ => fun
  | [] => { results := [.lit (.bool false)], args := [] }
  | _ => none }
def StampNumbersWrongFalsely : Prop := stampNumbersRow.holds Try.pinned (OpenSpec.ofChange stampNumbersWrong)

/-- 'chancerylaw04.StampTells': WHATEVER THE INPUT: true; the input reads as it did. -/
def stampTellsSpec : ChangeSpec := { name := "stampTells", fn := fun _ => fun
  | [d1, d2, d3, d4, d5] => { results := [.lit (.bool true)], args := [d1, d2, d3, d4, d5] }
  | _ => none }
def stampTellsRow : OpenClaim := { program := "ytecndamoomkhnaa", sum := "20ce28ec41f23d7c3891ebec6aac8de7c1ba05155b3fb8a95646bafb8afb06a4", func := "chancery/chancerylaw04.StampTells", spec := "stampTells", apart := false }
def StampTellsSaid : Prop := stampTellsRow.holds Try.pinned (OpenSpec.ofChange stampTellsSpec)

/-- ITS FALSE NEIGHBOUR: 'it returns false'. Refute it at one input. -/
def stampTellsWrong : ChangeSpec := { name := "stampTells", fn := fun _ => fun
  | [d1, d2, d3, d4, d5] => { results := [.lit (.bool false)], args := [d1, d2, d3, d4, d5] }
  | _ => none }
def StampTellsWrongFalsely : Prop := stampTellsRow.holds Try.pinned (OpenSpec.ofChange stampTellsWrong)

/-- 'chancerylaw04.StampBack': WHATEVER THE INPUT: true; the input reads as it did. -/
def stampBackSpec : ChangeSpec := { name := "stampBack", fn := fun _ => fun
  | [d1, d2, d3] => { results := [.lit (.bool true)], args := [d1, d2, d3] }
  | _ => none }
def stampBackRow : OpenClaim := { program := "ytecndamoomkhnaa", sum := "20ce28ec41f23d7c3891ebec6aac8de7c1ba05155b3fb8a95646bafb8afb06a4", func := "chancery/chancerylaw04.StampBack", spec := "stampBack", apart := false }
def StampBackSaid : Prop := stampBackRow.holds Try.pinned (OpenSpec.ofChange stampBackSpec)

/-- ITS FALSE NEIGHBOUR: 'it returns false'. Refute it at one input. -/
def stampBackWrong : ChangeSpec := { name := "stampBack", fn := fun _ => fun
  | [d1, d2, d3] => { results := [.lit (.bool false)], args := [d1, d2, d3] }
  | _ => none }
def StampBackWrongFalsely : Prop := stampBackRow.holds Try.pinned (OpenSpec.ofChange stampBackWrong)

/-- 'chancerylaw01.OctetsNumbers': WHATEVER THE INPUT: true; the input reads as it did. -/
def octetsNumbersSpec : ChangeSpec := { name := "octetsNumbers", fn := fun _ => fun
  | [] => { results := [.lit (.bool true)], args := [] }
  | _ => none }
def octetsNumbersRow : OpenClaim := { program := "ytecndamoomkhnaa", sum := "20ce28ec41f23d7c3891ebec6aac8de7c1ba05155b3fb8a95646bafb8afb06a4", func := "chancery/chancerylaw01.OctetsNumbers", spec := "octetsNumbers", inPlace := ["internal/bytealg.Compare"], apart := false }
def OctetsNumbersSaid : Prop := octetsNumbersRow.holds Try.pinned (OpenSpec.ofChange octetsNumbersSpec)

/-- ITS FALSE NEIGHBOUR: 'it returns false'. Refute it at one input. -/
def octetsNumbersWrong : ChangeSpec := { name := "octetsNumbers", fn := fun _ => fun
  | [] => { results := [.lit (.bool false)], args := [] }
  | _ => none }
def OctetsNumbersWrongFalsely : Prop := octetsNumbersRow.holds Try.pinned (OpenSpec.ofChange octetsNumbersWrong)

/-- 'chancerylaw01.OctetsTells': WHATEVER THE INPUT: true; the input reads as it did. -/
def octetsTellsSpec : ChangeSpec := { name := "octetsTells", fn := fun _ => fun
  | [d1, d2, d3, d4] => { results := [.lit (.bool true)], args := [d1, d2, d3, d4] }
  | _ => none }
def octetsTellsRow : OpenClaim := { program := "ytecndamoomkhnaa", sum := "20ce28ec41f23d7c3891ebec6aac8de7c1ba05155b3fb8a95646bafb8afb06a4", func := "chancery/chancerylaw01.OctetsTells", spec := "octetsTells", inPlace := ["internal/bytealg.Compare"], apart := false }
def OctetsTellsSaid : Prop := octetsTellsRow.holds Try.pinned (OpenSpec.ofChange octetsTellsSpec)

/-- ITS FALSE NEIGHBOUR: 'it returns false'. Refute it at one input. -/
def octetsTellsWrong : ChangeSpec := { name := "octetsTells", fn := fun _ => fun
  | [d1, d2, d3, d4] => { results := [.lit (.bool false)], args := [d1, d2, d3, d4] }
  | _ => none }
def OctetsTellsWrongFalsely : Prop := octetsTellsRow.holds Try.pinned (OpenSpec.ofChange octetsTellsWrong)

/-- 'chancerylaw01.OctetsBack': WHATEVER THE INPUT: true; the input reads as it did. -/
def octetsBackSpec : ChangeSpec := { name := "octetsBack", fn := fun _ => fun
  | [d1, d2, d3, d4, d5, d6] => { results := [.lit (.bool true)], args := [d1, d2, d3, d4, d5, d6] }
  | _ => none }
def octetsBackRow : OpenClaim := { program := "ytecndamoomkhnaa", sum := "20ce28ec41f23d7c3891ebec6aac8de7c1ba05155b3fb8a95646bafb8afb06a4", func := "chancery/chancerylaw01.OctetsBack", spec := "octetsBack", inPlace := ["internal/bytealg.Compare"], apart := false }
def OctetsBackSaid : Prop := octetsBackRow.holds Try.pinned (OpenSpec.ofChange octetsBackSpec)

/-- ITS FALSE NEIGHBOUR: 'it returns false'. Refute it at one input. -/
def octetsBackWrong : ChangeSpec := { name := "octetsBack", fn := fun _ => fun
  | [d1, d2, d3, d4, d5, d6] => { results := [.lit (.bool false)], args := [d1, d2, d3, d4, d5, d6] }
  | _ => none }
def OctetsBackWrongFalsely : Prop := octetsBackRow.holds Try.pinned (OpenSpec.ofChange octetsBackWrong)

/-- 'chancerylaw08.ChangeBack': WHATEVER THE INPUT: true; the input reads as it did. -/
def changeBackSpec : ChangeSpec := { name := "changeBack", fn := fun _ => fun
  | [d1, d2] => { results := [.lit (.bool true)], args := [d1, d2] }
  | _ => none }
def changeBackRow : OpenClaim := { program := "ytecndamoomkhnaa", sum := "20ce28ec41f23d7c3891ebec6aac8de7c1ba05155b3fb8a95646bafb8afb06a4", func := "chancery/chancerylaw08.ChangeBack", spec := "changeBack", unfollowed := true, recurses := true, apart := false }
def ChangeBackSaid : Prop := changeBackRow.holds Try.pinned (OpenSpec.ofChange changeBackSpec)

/-- ITS FALSE NEIGHBOUR: 'it returns false'. Refute it at one input. -/
def changeBackWrong : ChangeSpec := { name := "changeBack", fn := fun _ => fun
  | [d1, d2] => { results := [.lit (.bool false)], args := [d1, d2] }
  | _ => none }
def ChangeBackWrongFalsely : Prop := changeBackRow.holds Try.pinned (OpenSpec.ofChange changeBackWrong)

/- THE SECOND FORM. 'bulk': how many values and letters a reading holds, each counted each time it is reached (what is shared counts as often as it is met; a slice's spare places count too). A statement '..UptoSaid' is the law's where the arguments, and the package variables that the reading takes, are together of bulk at most 1048576: NARROWER than '..Said'. Prove '..Said' where nothing that the law and all that it calls make is longer than what came in: it says more and counts as full. Else prove '..UptoSaid'. A law counts once. -/
mutual
def uptoBulk {H : Type} : DataW H → Nat
  | .lit (.string bytes) => bytes.length + 1
  | .lit _ => 1
  | .nil => 1
  | .ptr d => uptoBulk d + 1
  | .slice elems spare => uptoBulkAll elems + uptoBulkAll spare + 1
  | .agg parts => uptoBulkAll parts + 1
  | .iface _ d => uptoBulk d + 1
  | .map entries => uptoBulkEntries entries + 1
  | .held _ => 1
def uptoBulkAll {H : Type} : List (DataW H) → Nat
  | [] => 0
  | d :: r => uptoBulk d + uptoBulkAll r
def uptoBulkEntries {H : Type} : List (Lit × DataW H) → Nat
  | [] => 0
  | x :: r => uptoBulkEntry x + uptoBulkEntries r
def uptoBulkEntry {H : Type} : Lit × DataW H → Nat
  | (.string bytes, d) => bytes.length + uptoBulk d + 1
  | (_, d) => uptoBulk d + 1
 end
def uptoSmall : (H : Type) → List (DataW H) → Bool := fun _ ds => decide (uptoBulkAll ds ≤ 1048576)
def OpenSpec.upto (s : _root_.Go.ChangeSpec) : _root_.Go.OpenSpec := { _root_.Go.OpenSpec.ofChange s with cond := some uptoSmall }

/-- 'chancerylaw01.OctetsOrder', WHERE WHAT IT READS IS OF BULK AT MOST 1048576: true; the input reads as it did. -/
def octetsOrderUptoRow : OpenClaim := { program := "ytecndamoomkhnaa", sum := "20ce28ec41f23d7c3891ebec6aac8de7c1ba05155b3fb8a95646bafb8afb06a4", func := "chancery/chancerylaw01.OctetsOrder", spec := "octetsOrder", inPlace := ["internal/bytealg.Compare"], apart := false, narrowed := true }
def OctetsOrderUptoSaid : Prop := octetsOrderUptoRow.holds Try.pinned (OpenSpec.upto octetsOrderSpec)

/-- 'chancerylaw08.ChangeSpares', WHERE WHAT IT READS IS OF BULK AT MOST 1048576: true; the input reads as it did. -/
def changeSparesUptoRow : OpenClaim := { program := "ytecndamoomkhnaa", sum := "20ce28ec41f23d7c3891ebec6aac8de7c1ba05155b3fb8a95646bafb8afb06a4", func := "chancery/chancerylaw08.ChangeSpares", spec := "changeSpares", unfollowed := true, recurses := true, apart := false, narrowed := true }
def ChangeSparesUptoSaid : Prop := changeSparesUptoRow.holds Try.pinned (OpenSpec.upto changeSparesSpec)

/-- 'chancerylaw04.StampTorn', WHERE WHAT IT READS IS OF BULK AT MOST 1048576: true; the input reads as it did. -/
def stampTornUptoRow : OpenClaim := { program := "ytecndamoomkhnaa", sum := "20ce28ec41f23d7c3891ebec6aac8de7c1ba05155b3fb8a95646bafb8afb06a4", func := "chancery/chancerylaw04.StampTorn", spec := "stampTorn", apart := false, narrowed := true }
def StampTornUptoSaid : Prop := stampTornUptoRow.holds Try.pinned (OpenSpec.upto stampTornSpec)

/-- 'chancerylaw08.ChangeNumbers', WHERE WHAT IT READS IS OF BULK AT MOST 1048576: true; the input reads as it did. -/
def changeNumbersUptoRow : OpenClaim := { program := "ytecndamoomkhnaa", sum := "20ce28ec41f23d7c3891ebec6aac8de7c1ba05155b3fb8a95646bafb8afb06a4", func := "chancery/chancerylaw08.ChangeNumbers", spec := "changeNumbers", unfollowed := true, recurses := true, apart := false, narrowed := true }
def ChangeNumbersUptoSaid : Prop := changeNumbersUptoRow.holds Try.pinned (OpenSpec.upto changeNumbersSpec)

/-- 'chancerylaw08.ChangeTells', WHERE WHAT IT READS IS OF BULK AT MOST 1048576: true; the input reads as it did. -/
def changeTellsUptoRow : OpenClaim := { program := "ytecndamoomkhnaa", sum := "20ce28ec41f23d7c3891ebec6aac8de7c1ba05155b3fb8a95646bafb8afb06a4", func := "chancery/chancerylaw08.ChangeTells", spec := "changeTells", unfollowed := true, recurses := true, apart := false, narrowed := true }
def ChangeTellsUptoSaid : Prop := changeTellsUptoRow.holds Try.pinned (OpenSpec.upto changeTellsSpec)

/-- 'chancerylaw08.ChangeAlong', WHERE WHAT IT READS IS OF BULK AT MOST 1048576: true; the input reads as it did. -/
def changeAlongUptoRow : OpenClaim := { program := "ytecndamoomkhnaa", sum := "20ce28ec41f23d7c3891ebec6aac8de7c1ba05155b3fb8a95646bafb8afb06a4", func := "chancery/chancerylaw08.ChangeAlong", spec := "changeAlong", unfollowed := true, recurses := true, apart := false, narrowed := true }
def ChangeAlongUptoSaid : Prop := changeAlongUptoRow.holds Try.pinned (OpenSpec.upto changeAlongSpec)

/-- 'chancerylaw04.StampNumbers', WHERE WHAT IT READS IS OF BULK AT MOST 1048576: true; the input reads as it did. -/
def stampNumbersUptoRow : OpenClaim := { program := "ytecndamoomkhnaa", sum := "20ce28ec41f23d7c3891ebec6aac8de7c1ba05155b3fb8a95646bafb8afb06a4", func := "chancery/chancerylaw04.StampNumbers", spec := "stampNumbers", apart := false, narrowed := true }
def StampNumbersUptoSaid : Prop := stampNumbersUptoRow.holds Try.pinned (OpenSpec.upto stampNumbersSpec)

/-- 'chancerylaw04.StampTells', WHERE WHAT IT READS IS OF BULK AT MOST 1048576: true; the input reads as it did. -/
def stampTellsUptoRow : OpenClaim := { program := "ytecndamoomkhnaa", sum := "20ce28ec41f23d7c3891ebec6aac8de7c1ba05155b3fb8a95646bafb8afb06a4", func := "chancery/chancerylaw04.StampTells", spec := "stampTells", apart := false, narrowed := true }
def StampTellsUptoSaid : Prop := stampTellsUptoRow.holds Try.pinned (OpenSpec.upto stampTellsSpec)

/-- 'chancerylaw04.StampBack', WHERE WHAT IT READS IS OF BULK AT MOST 1048576: true; the input reads as it did. -/
def stampBackUptoRow : OpenClaim := { program := "ytecndamoomkhnaa", sum := "20ce28ec41f23d7c3891ebec6aac8de7c1ba05155b3fb8a95646bafb8afb06a4", func := "chancery/chancerylaw04.StampBack", spec := "stampBack", apart := false, narrowed := true }
def StampBackUptoSaid : Prop := stampBackUptoRow.holds Try.pinned (OpenSpec.upto stampBackSpec)

/-- 'chancerylaw01.OctetsNumbers', WHERE WHAT IT READS IS OF BULK AT MOST 1048576: true; the input reads as it did. -/
def octetsNumbersUptoRow : OpenClaim := { program := "ytecndamoomkhnaa", sum := "20ce28ec41f23d7c3891ebec6aac8de7c1ba05155b3fb8a95646bafb8afb06a4", func := "chancery/chancerylaw01.OctetsNumbers", spec := "octetsNumbers", inPlace := ["internal/bytealg.Compare"], apart := false, narrowed := true }
def OctetsNumbersUptoSaid : Prop := octetsNumbersUptoRow.holds Try.pinned (OpenSpec.upto octetsNumbersSpec)

/-- 'chancerylaw01.OctetsTells', WHERE WHAT IT READS IS OF BULK AT MOST 1048576: true; the input reads as it did. -/
def octetsTellsUptoRow : OpenClaim := { program := "ytecndamoomkhnaa", sum := "20ce28ec41f23d7c3891ebec6aac8de7c1ba05155b3fb8a95646bafb8afb06a4", func := "chancery/chancerylaw01.OctetsTells", spec := "octetsTells", inPlace := ["internal/bytealg.Compare"], apart := false, narrowed := true }
def OctetsTellsUptoSaid : Prop := octetsTellsUptoRow.holds Try.pinned (OpenSpec.upto octetsTellsSpec)

/-- 'chancerylaw01.OctetsBack', WHERE WHAT IT READS IS OF BULK AT MOST 1048576: true; the input reads as it did. -/
def octetsBackUptoRow : OpenClaim := { program := "ytecndamoomkhnaa", sum := "20ce28ec41f23d7c3891ebec6aac8de7c1ba05155b3fb8a95646bafb8afb06a4", func := "chancery/chancerylaw01.OctetsBack", spec := "octetsBack", inPlace := ["internal/bytealg.Compare"], apart := false, narrowed := true }
def OctetsBackUptoSaid : Prop := octetsBackUptoRow.holds Try.pinned (OpenSpec.upto octetsBackSpec)

/-- 'chancerylaw08.ChangeBack', WHERE WHAT IT READS IS OF BULK AT MOST 1048576: true; the input reads as it did. -/
def changeBackUptoRow : OpenClaim := { program := "ytecndamoomkhnaa", sum := "20ce28ec41f23d7c3891ebec6aac8de7c1ba05155b3fb8a95646bafb8afb06a4", func := "chancery/chancerylaw08.ChangeBack", spec := "changeBack", unfollowed := true, recurses := true, apart := false, narrowed := true }
def ChangeBackUptoSaid : Prop := changeBackUptoRow.holds Try.pinned (OpenSpec.upto changeBackSpec)

end Rows
end Go.Proofs.Ytecndamoomkhnaa
