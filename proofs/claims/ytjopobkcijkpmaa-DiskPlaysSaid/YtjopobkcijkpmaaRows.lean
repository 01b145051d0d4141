/-
  No cell of these rows narrows 'for every input' (looked for: loops, veiled, ifaces, maps, wideKeys, modest, calm, conditions, laid).
  DERIVED. THE GIVEN ROWS OF THIS SEAT. 12 by the template 'for every input the law returns true; each argument reads behind the call as it read before'; 0 by the template 'total and deterministic' (their statements: YtjopobkcijkpmaaTotals.lean).
  GIVEN WITH THE SEED: the statements are not yours to turn. If you find one false, say at which input.
  Laid BY PROGRAM, IN A SANDBOX (cutbox-rows.mjs): the forced cells as the released guide's own fill.sh prints them over the translation ada7e64608c46913… (all of the seat's roots in one cut). By AI agents, Wed Nov 11 2026. No macro, syntax, notation, axiom, sorry.
-/
import Derived.Test.YtjopobkcijkpmaaChecked
import GoSem.Claim
import GoSem.ClaimJoined
import GoSem.ClaimMapViews
import Derived.JoinedTies
import Derived.KernelRfl
namespace Go.Proofs.Ytjopobkcijkpmaa
/- THE CELL 'sum', in the pinned program and in every row, IS THE sha256 OF THE DUMP (.gsa) THAT YtjopobkcijkpmaaProg.lean LOADS. Nothing in Lean hashes anything: it is a label: what it is worth is what the hold of that sum in a sandbox is worth. -/
noncomputable def Try.pinned : Pinned := { name := "ytjopobkcijkpmaa", sum := "ada7e64608c46913679788502b1bc8d86807bb3aa0dea4afb58821cc6e706ad5", checked := Try.checked }
namespace Rows
def none {H : Type} : Left H := { results := [], args := [] }

/-- 'chancerylaw03.DiskSynced': WHATEVER THE INPUT: true; the input reads as it did. -/
def diskSyncedSpec : ChangeSpec := { name := "diskSynced", fn := fun _ => fun
  | [d1, d2] => { results := [.lit (.bool true)], args := [d1, d2] }
  | _ => none }
def diskSyncedRow : OpenClaim := { program := "ytjopobkcijkpmaa", sum := "ada7e64608c46913679788502b1bc8d86807bb3aa0dea4afb58821cc6e706ad5", func := "chancery/chancerylaw03.DiskSynced", spec := "diskSynced", inPlace := ["sync/atomic.StoreInt64", "sync/atomic.LoadInt64"], unfollowed := true, recurses := true, apart := false }
def DiskSyncedSaid : Prop := diskSyncedRow.holds Try.pinned (OpenSpec.ofChange diskSyncedSpec)

/-- ITS FALSE NEIGHBOUR: 'it returns false'. Refute it at one input. -/
def diskSyncedWrong : ChangeSpec := { name := "diskSynced", fn := fun _ => fun
  | [d1, d2] => { results := [.lit (.bool false)], args := [d1, d2] }
  | _ => none }
def DiskSyncedWrongFalsely : Prop := diskSyncedRow.holds Try.pinned (OpenSpec.ofChange diskSyncedWrong)

/-- 'chancerylaw03.DiskSpares': WHATEVER THE INPUT: true; the input reads as it did. -/
def diskSparesSpec : ChangeSpec := { name := "diskSpares", fn := fun _ => fun
  | [d] => { results := [.lit (.bool true)], args := [d] }
  | _ => none }
def diskSparesRow : OpenClaim := { program := "ytjopobkcijkpmaa", sum := "ada7e64608c46913679788502b1bc8d86807bb3aa0dea4afb58821cc6e706ad5", func := "chancery/chancerylaw03.DiskSpares", spec := "diskSpares", inPlace := ["sync/atomic.StoreInt64", "sync/atomic.LoadInt64"], unfollowed := true, recurses := true, apart := false }
def DiskSparesSaid : Prop := diskSparesRow.holds Try.pinned (OpenSpec.ofChange diskSparesSpec)

/-- ITS FALSE NEIGHBOUR: 'it returns false'. Refute it at one input. -/
def diskSparesWrong : ChangeSpec := { name := "diskSpares", fn := fun _ => fun
  | [d] => { results := [.lit (.bool false)], args := [d] }
  | _ => none }
def DiskSparesWrongFalsely : Prop := diskSparesRow.holds Try.pinned (OpenSpec.ofChange diskSparesWrong)

/-- 'chancerylaw14.SnapshotFirst': WHATEVER THE INPUT: true; the input reads as it did. -/
def snapshotFirstSpec : ChangeSpec := { name := "snapshotFirst", fn := fun _ => fun
  | [d1, d2, d3] => { results := [.lit (.bool true)], args := [d1, d2, d3] }
  | _ => none }
def snapshotFirstRow : OpenClaim := { program := "ytjopobkcijkpmaa", sum := "ada7e64608c46913679788502b1bc8d86807bb3aa0dea4afb58821cc6e706ad5", func := "chancery/chancerylaw14.SnapshotFirst", spec := "snapshotFirst", inPlace := ["sync/atomic.StoreInt64", "sync/atomic.LoadInt64", "sync/atomic.AddInt64"], unfollowed := true, recurses := true, apart := false }
def SnapshotFirstSaid : Prop := snapshotFirstRow.holds Try.pinned (OpenSpec.ofChange snapshotFirstSpec)

/-- ITS FALSE NEIGHBOUR: 'it returns false'. Refute it at one input. -/
def snapshotFirstWrong : ChangeSpec := { name := "snapshotFirst", fn := fun _ => fun
  | [d1, d2, d3] => { results := [.lit (.bool false)], args := [d1, d2, d3] }
  | _ => none }
def SnapshotFirstWrongFalsely : Prop := snapshotFirstRow.holds Try.pinned (OpenSpec.ofChange snapshotFirstWrong)

/-- 'chancerylaw14.SnapshotToAll': WHATEVER THE INPUT: true; the input reads as it did. -/
def snapshotToAllSpec : ChangeSpec := { name := "snapshotToAll", fn := fun _ => fun
  | [d1, d2] => { results := [.lit (.bool true)], args := [d1, d2] }
  | _ => none }
def snapshotToAllRow : OpenClaim := { program := "ytjopobkcijkpmaa", sum := "ada7e64608c46913679788502b1bc8d86807bb3aa0dea4afb58821cc6e706ad5", func := "chancery/chancerylaw14.SnapshotToAll", spec := "snapshotToAll", inPlace := ["sync/atomic.StoreInt64", "sync/atomic.LoadInt64", "sync/atomic.AddInt64"], unfollowed := true, recurses := true, apart := false }
def SnapshotToAllSaid : Prop := snapshotToAllRow.holds Try.pinned (OpenSpec.ofChange snapshotToAllSpec)

/-- ITS FALSE NEIGHBOUR: 'it returns false'. Refute it at one input. -/
def snapshotToAllWrong : ChangeSpec := { name := "snapshotToAll", fn := fun _ => fun
  | [d1, d2] => { results := [.lit (.bool false)], args := [d1, d2] }
  | _ => none }
def SnapshotToAllWrongFalsely : Prop := snapshotToAllRow.holds Try.pinned (OpenSpec.ofChange snapshotToAllWrong)

/-- 'chancerylaw03.DiskCrashes': WHATEVER THE INPUT: true; the input reads as it did. -/
def diskCrashesSpec : ChangeSpec := { name := "diskCrashes", fn := fun _ => fun
  | [d] => { results := [.lit (.bool true)], args := [d] }
  | _ => none }
def diskCrashesRow : OpenClaim := { program := "ytjopobkcijkpmaa", sum := "ada7e64608c46913679788502b1bc8d86807bb3aa0dea4afb58821cc6e706ad5", func := "chancery/chancerylaw03.DiskCrashes", spec := "diskCrashes", inPlace := ["sync/atomic.StoreInt64", "sync/atomic.LoadInt64"], unfollowed := true, recurses := true, apart := false }
def DiskCrashesSaid : Prop := diskCrashesRow.holds Try.pinned (OpenSpec.ofChange diskCrashesSpec)

/-- ITS FALSE NEIGHBOUR: 'it returns false'. Refute it at one input. -/
def diskCrashesWrong : ChangeSpec := { name := "diskCrashes", fn := fun _ => fun
  | [d] => { results := [.lit (.bool false)], args := [d] }
  | _ => none }
def DiskCrashesWrongFalsely : Prop := diskCrashesRow.holds Try.pinned (OpenSpec.ofChange diskCrashesWrong)

/-- 'chancerylaw03.DiskNumbers': WHATEVER THE INPUT: true; the input reads as it did. -/
def diskNumbersSpec : ChangeSpec := { name := "diskNumbers", fn := fun _ => fun
  | [] => { results := [.lit (.bool true)], args := [] }
  | _ => none }
def diskNumbersRow : OpenClaim := { program := "ytjopobkcijkpmaa", sum := "ada7e64608c46913679788502b1bc8d86807bb3aa0dea4afb58821cc6e706ad5", func := "chancery/chancerylaw03.DiskNumbers", spec := "diskNumbers", inPlace := ["sync/atomic.StoreInt64", "sync/atomic.LoadInt64"], unfollowed := true, recurses := true, apart := false }
def DiskNumbersSaid : Prop := diskNumbersRow.holds Try.pinned (OpenSpec.ofChange diskNumbersSpec)

/-- ITS FALSE NEIGHBOUR: 'it returns false'. Refute it at one input. -/
def diskNumbersWrong : ChangeSpec := { name := "diskNumbers", fn := fun _ => fun
  | [] => { results := [.lit (.bool false)], args := [] }
  | _ => none }
def DiskNumbersWrongFalsely : Prop := diskNumbersRow.holds Try.pinned (OpenSpec.ofChange diskNumbersWrong)

/-- 'chancerylaw03.DiskPlays': WHATEVER THE INPUT: true; the input reads as it did. -/
def diskPlaysSpec : ChangeSpec := { name := "diskPlays", fn := fun _ => fun
  | [d1, d2] => { results := [.lit (.bool true)], args := [d1, d2] }
  | _ => none }
def diskPlaysRow : OpenClaim := { program := "ytjopobkcijkpmaa", sum := "ada7e64608c46913679788502b1bc8d86807bb3aa0dea4afb58821cc6e706ad5", func := "chancery/chancerylaw03.DiskPlays", spec := "diskPlays", inPlace := ["sync/atomic.StoreInt64", "sync/atomic.LoadInt64"], unfollowed := true, recurses := true, apart := false }
def DiskPlaysSaid : Prop := diskPlaysRow.holds Try.pinned (OpenSpec.ofChange diskPlaysSpec)

/-- ITS FALSE NEIGHBOUR: 'it returns false'. Refute it at one input. -/
def diskPlaysWrong : ChangeSpec := { name := "diskPlays", fn := fun _ => fun
  | [d1, d2] => { results := [.lit (.bool false)], args := [d1, d2] }
  | _ => none }
def DiskPlaysWrongFalsely : Prop := diskPlaysRow.holds Try.pinned (OpenSpec.ofChange diskPlaysWrong)

/-- 'chancerylaw03.DiskNone': WHATEVER THE INPUT: true; the input reads as it did. -/
def diskNoneSpec : ChangeSpec := { name := "diskNone", fn := fun _ => fun
  | [d1, d2, d3, d4] => { results := [.lit (.bool true)], args := [d1, d2, d3, d4] }
  | _ => none }
def diskNoneRow : OpenClaim := { program := "ytjopobkcijkpmaa", sum := "ada7e64608c46913679788502b1bc8d86807bb3aa0dea4afb58821cc6e706ad5", func := "chancery/chancerylaw03.DiskNone", spec := "diskNone", inPlace := ["sync/atomic.LoadInt64", "sync/atomic.StoreInt64"], unfollowed := true, recurses := true, apart := false }
def DiskNoneSaid : Prop := diskNoneRow.holds Try.pinned (OpenSpec.ofChange diskNoneSpec)

/-- ITS FALSE NEIGHBOUR: 'it returns false'. Refute it at one input. -/
def diskNoneWrong : ChangeSpec := { name := "diskNone", fn := fun _ => fun
  | [d1, d2, d3, d4] => { results := [.lit (.bool false)], args := [d1, d2, d3, d4] }
  | _ => none }
def DiskNoneWrongFalsely : Prop := diskNoneRow.holds Try.pinned (OpenSpec.ofChange diskNoneWrong)

/-- 'chancerylaw14.SnapshotStays': WHATEVER THE INPUT: true; the input reads as it did. -/
def snapshotStaysSpec : ChangeSpec := { name := "snapshotStays", fn := fun _ => fun
  | [d1, d2] => { results := [.lit (.bool true)], args := [d1, d2] }
  | _ => none }
def snapshotStaysRow : OpenClaim := { program := "ytjopobkcijkpmaa", sum := "ada7e64608c46913679788502b1bc8d86807bb3aa0dea4afb58821cc6e706ad5", func := "chancery/chancerylaw14.SnapshotStays", spec := "snapshotStays", inPlace := ["sync/atomic.StoreInt64", "sync/atomic.LoadInt64", "sync/atomic.AddInt64"], unfollowed := true, recurses := true, apart := false }
def SnapshotStaysSaid : Prop := snapshotStaysRow.holds Try.pinned (OpenSpec.ofChange snapshotStaysSpec)

/-- ITS FALSE NEIGHBOUR: 'it returns false'. Refute it at one input. -/
def snapshotStaysWrong : ChangeSpec := { name := "snapshotStays", fn := fun _ => fun
  | [d1, d2] => { results := [.lit (.bool false)], args := [d1, d2] }
  | _ => none }
def SnapshotStaysWrongFalsely : Prop := snapshotStaysRow.holds Try.pinned (OpenSpec.ofChange snapshotStaysWrong)

/-- 'chancerylaw14.SnapshotNumbers': WHATEVER THE INPUT: true; the input reads as it did. -/
def snapshotNumbersSpec : ChangeSpec := { name := "snapshotNumbers", fn := fun _ => fun
  | [] => { results := [.lit (.bool true)], args := [] }
  | _ => none }
def snapshotNumbersRow : OpenClaim := { program := "ytjopobkcijkpmaa", sum := "ada7e64608c46913679788502b1bc8d86807bb3aa0dea4afb58821cc6e706ad5", func := "chancery/chancerylaw14.SnapshotNumbers", spec := "snapshotNumbers", inPlace := ["sync/atomic.StoreInt64", "sync/atomic.LoadInt64", "sync/atomic.AddInt64"], unfollowed := true, recurses := true, apart := false }
def SnapshotNumbersSaid : Prop := snapshotNumbersRow.holds Try.pinned (OpenSpec.ofChange snapshotNumbersSpec)

/-- ITS FALSE NEIGHBOUR: 'it returns false'. Refute it at one input. -/
def snapshotNumbersWrong : ChangeSpec := { name := "snapshotNumbers", fn := fun _ => fun
  | [] => { results := [.lit (.bool false)], args := [] }
  | _ => none }
def SnapshotNumbersWrongFalsely : Prop := snapshotNumbersRow.holds Try.pinned (OpenSpec.ofChange snapshotNumbersWrong)

/-- 'chancerylaw14.SnapshotPlays': WHATEVER THE INPUT: true; the input reads as it did. -/
def snapshotPlaysSpec : ChangeSpec := { name := "snapshotPlays", fn := fun _ => fun
  | [d1, d2, d3] => { results := [.lit (.bool true)], args := [d1, d2, d3] }
  | _ => none }
def snapshotPlaysRow : OpenClaim := { program := "ytjopobkcijkpmaa", sum := "ada7e64608c46913679788502b1bc8d86807bb3aa0dea4afb58821cc6e706ad5", func := "chancery/chancerylaw14.SnapshotPlays", spec := "snapshotPlays", inPlace := ["sync/atomic.StoreInt64", "sync/atomic.LoadInt64", "sync/atomic.AddInt64"], unfollowed := true, recurses := true, apart := false }
def SnapshotPlaysSaid : Prop := snapshotPlaysRow.holds Try.pinned (OpenSpec.ofChange snapshotPlaysSpec)

/-- ITS FALSE NEIGHBOUR: 'it returns false'. Refute it at one input. -/
def snapshotPlaysWrong : ChangeSpec := { name := "snapshotPlays", fn := fun _ => fun
  | [d1, d2, d3] => { results := [.lit (.bool false)], args := [d1, d2, d3] }
  | _ => none }
def SnapshotPlaysWrongFalsely : Prop := snapshotPlaysRow.holds Try.pinned (OpenSpec.ofChange snapshotPlaysWrong)

/-- 'chancerylaw14.SnapshotNone': WHATEVER THE INPUT: true; the input reads as it did. -/
def snapshotNoneSpec : ChangeSpec := { name := "snapshotNone", fn := fun _ => fun
  | [d1, d2] => { results := [.lit (.bool true)], args := [d1, d2] }
  | _ => none }
def snapshotNoneRow : OpenClaim := { program := "ytjopobkcijkpmaa", sum := "ada7e64608c46913679788502b1bc8d86807bb3aa0dea4afb58821cc6e706ad5", func := "chancery/chancerylaw14.SnapshotNone", spec := "snapshotNone", inPlace := ["sync/atomic.LoadInt64", "sync/atomic.AddInt64", "sync/atomic.StoreInt64"], unfollowed := true, recurses := true, apart := false }
def SnapshotNoneSaid : Prop := snapshotNoneRow.holds Try.pinned (OpenSpec.ofChange snapshotNoneSpec)

/-- ITS FALSE NEIGHBOUR: 'it returns false'. Refute it at one input. -/
def snapshotNoneWrong : ChangeSpec := { name := "snapshotNone", fn := fun _ => fun
  | [d1, d2] => { results := [.lit (.bool false)], args := [d1, d2] }
  | _ => none }
def SnapshotNoneWrongFalsely : Prop := snapshotNoneRow.holds Try.pinned (OpenSpec.ofChange snapshotNoneWrong)

/- THE SECOND FORM. 'bulk': how many values and letters a reading holds, each counted each time it is reached (what is shared counts as often as it is met; a slice's spare places count too). A statement '..UptoSaid' is the law's where the arguments, and the package variables that the reading takes, are together of bulk at most 1048576: NARROWER than '..Said'. Prove '..Said' where nothing that the law and all that it calls make is longer than what came in: it says more and counts as full. Else prove '..UptoSaid'. A law counts once. -/
mutual
def uptoBulk {H : Type} : DataW H → Nat
  | .lit (.string bytes) => bytes.length + 1
  | .lit _ => 1
  | .nil => 1
  | .ptr d => uptoBulk d + 1
  | .slice elems spare => uptoBulkAll elems + uptoBulkAll spare + 1
  | .agg parts => uptoBulkAll parts + 1
  | .iface _ d => uptoBulk d + 1
  | .map entries => uptoBulkEntries entries + 1
  | .held _ => 1
def uptoBulkAll {H : Type} : List (DataW H) → Nat
  | [] => 0
  | d :: r => uptoBulk d + uptoBulkAll r
def uptoBulkEntries {H : Type} : List (Lit × DataW H) → Nat
  | [] => 0
  | x :: r => uptoBulkEntry x + uptoBulkEntries r
def uptoBulkEntry {H : Type} : Lit × DataW H → Nat
  | (.string bytes, d) => bytes.length + uptoBulk d + 1
  | (_, d) => uptoBulk d + 1
 end
def uptoSmall : (H : Type) → List (DataW H) → Bool := fun _ ds => decide (uptoBulkAll ds ≤ 1048576)
def OpenSpec.upto (s : _root_.Go.ChangeSpec) : _root_.Go.OpenSpec := { _root_.Go.OpenSpec.ofChange s with cond := some uptoSmall }

/-- 'chancerylaw03.DiskSynced', WHERE WHAT IT READS IS OF BULK AT MOST 1048576: true; the input reads as it did. -/
def diskSyncedUptoRow : OpenClaim := { program := "ytjopobkcijkpmaa", sum := "ada7e64608c46913679788502b1bc8d86807bb3aa0dea4afb58821cc6e706ad5", func := "chancery/chancerylaw03.DiskSynced", spec := "diskSynced", inPlace := ["sync/atomic.StoreInt64", "sync/atomic.LoadInt64"], unfollowed := true, recurses := true, apart := false, narrowed := true }
def DiskSyncedUptoSaid : Prop := diskSyncedUptoRow.holds Try.pinned (OpenSpec.upto diskSyncedSpec)

/-- 'chancerylaw03.DiskSpares', WHERE WHAT IT READS IS OF BULK AT MOST 1048576: true; the input reads as it did. -/
def diskSparesUptoRow : OpenClaim := { program := "ytjopobkcijkpmaa", sum := "ada7e64608c46913679788502b1bc8d86807bb3aa0dea4afb58821cc6e706ad5", func := "chancery/chancerylaw03.DiskSpares", spec := "diskSpares", inPlace := ["sync/atomic.StoreInt64", "sync/atomic.LoadInt64"], unfollowed := true, recurses := true, apart := false, narrowed := true }
def DiskSparesUptoSaid : Prop := diskSparesUptoRow.holds Try.pinned (OpenSpec.upto diskSparesSpec)

/-- 'chancerylaw14.SnapshotFirst', WHERE WHAT IT READS IS OF BULK AT MOST 1048576: true; the input reads as it did. -/
def snapshotFirstUptoRow : OpenClaim := { program := "ytjopobkcijkpmaa", sum := "ada7e64608c46913679788502b1bc8d86807bb3aa0dea4afb58821cc6e706ad5", func := "chancery/chancerylaw14.SnapshotFirst", spec := "snapshotFirst", inPlace := ["sync/atomic.StoreInt64", "sync/atomic.LoadInt64", "sync/atomic.AddInt64"], unfollowed := true, recurses := true, apart := false, narrowed := true }
def SnapshotFirstUptoSaid : Prop := snapshotFirstUptoRow.holds Try.pinned (OpenSpec.upto snapshotFirstSpec)

/-- 'chancerylaw14.SnapshotToAll', WHERE WHAT IT READS IS OF BULK AT MOST 1048576: true; the input reads as it did. -/
def snapshotToAllUptoRow : OpenClaim := { program := "ytjopobkcijkpmaa", sum := "ada7e64608c46913679788502b1bc8d86807bb3aa0dea4afb58821cc6e706ad5", func := "chancery/chancerylaw14.SnapshotToAll", spec := "snapshotToAll", inPlace := ["sync/atomic.StoreInt64", "sync/atomic.LoadInt64", "sync/atomic.AddInt64"], unfollowed := true, recurses := true, apart := false, narrowed := true }
def SnapshotToAllUptoSaid : Prop := snapshotToAllUptoRow.holds Try.pinned (OpenSpec.upto snapshotToAllSpec)

/-- 'chancerylaw03.DiskCrashes', WHERE WHAT IT READS IS OF BULK AT MOST 1048576: true; the input reads as it did. -/
def diskCrashesUptoRow : OpenClaim := { program := "ytjopobkcijkpmaa", sum := "ada7e64608c46913679788502b1bc8d86807bb3aa0dea4afb58821cc6e706ad5", func := "chancery/chancerylaw03.DiskCrashes", spec := "diskCrashes", inPlace := ["sync/atomic.StoreInt64", "sync/atomic.LoadInt64"], unfollowed := true, recurses := true, apart := false, narrowed := true }
def DiskCrashesUptoSaid : Prop := diskCrashesUptoRow.holds Try.pinned (OpenSpec.upto diskCrashesSpec)

/-- 'chancerylaw03.DiskNumbers', WHERE WHAT IT READS IS OF BULK AT MOST 1048576: true; the input reads as it did. -/
def diskNumbersUptoRow : OpenClaim := { program := "ytjopobkcijkpmaa", sum := "ada7e64608c46913679788502b1bc8d86807bb3aa0dea4afb58821cc6e706ad5", func := "chancery/chancerylaw03.DiskNumbers", spec := "diskNumbers", inPlace := ["sync/atomic.StoreInt64", "sync/atomic.LoadInt64"], unfollowed := true, recurses := true, apart := false, narrowed := true }
def DiskNumbersUptoSaid : Prop := diskNumbersUptoRow.holds Try.pinned (OpenSpec.upto diskNumbersSpec)

/-- 'chancerylaw03.DiskPlays', WHERE WHAT IT READS IS OF BULK AT MOST 1048576: true; the input reads as it did. -/
def diskPlaysUptoRow : OpenClaim := { program := "ytjopobkcijkpmaa", sum := "ada7e64608c46913679788502b1bc8d86807bb3aa0dea4afb58821cc6e706ad5", func := "chancery/chancerylaw03.DiskPlays", spec := "diskPlays", inPlace := ["sync/atomic.StoreInt64", "sync/atomic.LoadInt64"], unfollowed := true, recurses := true, apart := false, narrowed := true }
def DiskPlaysUptoSaid : Prop := diskPlaysUptoRow.holds Try.pinned (OpenSpec.upto diskPlaysSpec)

/-- 'chancerylaw03.DiskNone', WHERE WHAT IT READS IS OF BULK AT MOST 1048576: true; the input reads as it did. -/
def diskNoneUptoRow : OpenClaim := { program := "ytjopobkcijkpmaa", sum := "ada7e64608c46913679788502b1bc8d86807bb3aa0dea4afb58821cc6e706ad5", func := "chancery/chancerylaw03.DiskNone", spec := "diskNone", inPlace := ["sync/atomic.LoadInt64", "sync/atomic.StoreInt64"], unfollowed := true, recurses := true, apart := false, narrowed := true }
def DiskNoneUptoSaid : Prop := diskNoneUptoRow.holds Try.pinned (OpenSpec.upto diskNoneSpec)

/-- 'chancerylaw14.SnapshotStays', WHERE WHAT IT READS IS OF BULK AT MOST 1048576: true; the input reads as it did. -/
def snapshotStaysUptoRow : OpenClaim := { program := "ytjopobkcijkpmaa", sum := "ada7e64608c46913679788502b1bc8d86807bb3aa0dea4afb58821cc6e706ad5", func := "chancery/chancerylaw14.SnapshotStays", spec := "snapshotStays", inPlace := ["sync/atomic.StoreInt64", "sync/atomic.LoadInt64", "sync/atomic.AddInt64"], unfollowed := true, recurses := true, apart := false, narrowed := true }
def SnapshotStaysUptoSaid : Prop := snapshotStaysUptoRow.holds Try.pinned (OpenSpec.upto snapshotStaysSpec)

/-- 'chancerylaw14.SnapshotNumbers', WHERE WHAT IT READS IS OF BULK AT MOST 1048576: true; the input reads as it did. -/
def snapshotNumbersUptoRow : OpenClaim := { program := "ytjopobkcijkpmaa", sum := "ada7e64608c46913679788502b1bc8d86807bb3aa0dea4afb58821cc6e706ad5", func := "chancery/chancerylaw14.SnapshotNumbers", spec := "snapshotNumbers", inPlace := ["sync/atomic.StoreInt64", "sync/atomic.LoadInt64", "sync/atomic.AddInt64"], unfollowed := true, recurses := true, apart := false, narrowed := true }
def SnapshotNumbersUptoSaid : Prop := snapshotNumbersUptoRow.holds Try.pinned (OpenSpec.upto snapshotNumbersSpec)

/-- 'chancerylaw14.SnapshotPlays', WHERE WHAT IT READS IS OF BULK AT MOST 1048576: true; the input reads as it did. -/
def snapshotPlaysUptoRow : OpenClaim := { program := "ytjopobkcijkpmaa", sum := "ada7e64608c46913679788502b1bc8d86807bb3aa0dea4afb58821cc6e706ad5", func := "chancery/chancerylaw14.SnapshotPlays", spec := "snapshotPlays", inPlace := ["sync/atomic.StoreInt64", "sync/atomic.LoadInt64", "sync/atomic.AddInt64"], unfollowed := true, recurses := true, apart := false, narrowed := true }
def SnapshotPlaysUptoSaid : Prop := snapshotPlaysUptoRow.holds Try.pinned (OpenSpec.upto snapshotPlaysSpec)

/-- 'chancerylaw14.SnapshotNone', WHERE WHAT IT READS IS OF BULK AT MOST 1048576: true; the input reads as it did. -/
def snapshotNoneUptoRow : OpenClaim := { program := "ytjopobkcijkpmaa", sum := "ada7e64608c46913679788502b1bc8d86807bb3aa0dea4afb58821cc6e706ad5", func := "chancery/chancerylaw14.SnapshotNone", spec := "snapshotNone", inPlace := ["sync/atomic.LoadInt64", "sync/atomic.AddInt64", "sync/atomic.StoreInt64"], unfollowed := true, recurses := true, apart := false, narrowed := true }
def SnapshotNoneUptoSaid : Prop := snapshotNoneUptoRow.holds Try.pinned (OpenSpec.upto snapshotNoneSpec)

end Rows
end Go.Proofs.Ytjopobkcijkpmaa
