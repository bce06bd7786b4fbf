/-
  No cell of these rows narrows 'for every input' (looked for: loops, veiled, ifaces, maps, wideKeys, modest, calm, conditions, laid).
  DERIVED. THE GIVEN ROWS OF THIS SEAT. 10 by the template 'for every input the law returns true; each argument reads behind the call as it read before'; 0 by the template 'total and deterministic' (their statements: YtbomegcdjhljeaaTotals.lean).
  GIVEN WITH THE SEED: the statements are not yours to turn. If you find one false, say at which input.
  Laid BY PROGRAM, IN A SANDBOX (cutbox-rows.mjs): the forced cells as the released guide's own fill.sh prints them over the translation 3cdbd2a39257e45b… (all of the seat's roots in one cut). By AI agents, Wed Nov 11 2026. No macro, syntax, notation, axiom, sorry.
-/
import Derived.Test.YtbomegcdjhljeaaChecked
import GoSem.Claim
import GoSem.ClaimJoined
import GoSem.ClaimMapViews
import Derived.JoinedTies
import Derived.KernelRfl
namespace Go.Proofs.Ytbomegcdjhljeaa
/- THE CELL 'sum', in the pinned program and in every row, IS THE sha256 OF THE DUMP (.gsa) THAT YtbomegcdjhljeaaProg.lean LOADS. Nothing in Lean hashes anything: it is a label: what it is worth is what the hold of that sum in a sandbox is worth. -/
noncomputable def Try.pinned : Pinned := { name := "ytbomegcdjhljeaa", sum := "3cdbd2a39257e45b7aafb31af775f27d2411bad73350219f5822e4984f3eec9b", checked := Try.checked }
namespace Rows
def none {H : Type} : Left H := { results := [], args := [] }

/-- 'laws.FnExactMeanWidth': WHATEVER THE INPUT: true; the input reads as it did. -/
def fnExactMeanWidthSpec : ChangeSpec := { name := "fnExactMeanWidth", fn := fun _ => fun
  | [d] => { results := [.lit (.bool true)], args := [d] }
  | _ => none }
def fnExactMeanWidthRow : OpenClaim := { program := "ytbomegcdjhljeaa", sum := "3cdbd2a39257e45b7aafb31af775f27d2411bad73350219f5822e4984f3eec9b", func := "loop.example/g01984/laws.FnExactMeanWidth", spec := "fnExactMeanWidth", unfollowed := true, recurses := true, apart := false }
def FnExactMeanWidthSaid : Prop := fnExactMeanWidthRow.holds Try.pinned (OpenSpec.ofChange fnExactMeanWidthSpec)

/-- ITS FALSE NEIGHBOUR: 'it returns false'. Refute it at one input. -/
def fnExactMeanWidthWrong : ChangeSpec := { name := "fnExactMeanWidth", fn := fun _ => fun
  | [d] => { results := [.lit (.bool false)], args := [d] }
  | _ => none }
def FnExactMeanWidthWrongFalsely : Prop := fnExactMeanWidthRow.holds Try.pinned (OpenSpec.ofChange fnExactMeanWidthWrong)

/-- 'laws.FnExactCompletedCracks': WHATEVER THE INPUT: true; the input reads as it did. -/
def fnExactCompletedCracksSpec : ChangeSpec := { name := "fnExactCompletedCracks", fn := fun _ => fun
  | [d] => { results := [.lit (.bool true)], args := [d] }
  | _ => none }
def fnExactCompletedCracksRow : OpenClaim := { program := "ytbomegcdjhljeaa", sum := "3cdbd2a39257e45b7aafb31af775f27d2411bad73350219f5822e4984f3eec9b", func := "loop.example/g01984/laws.FnExactCompletedCracks", spec := "fnExactCompletedCracks", apart := false }
def FnExactCompletedCracksSaid : Prop := fnExactCompletedCracksRow.holds Try.pinned (OpenSpec.ofChange fnExactCompletedCracksSpec)

/-- ITS FALSE NEIGHBOUR: 'it returns false'. Refute it at one input. -/
def fnExactCompletedCracksWrong : ChangeSpec := { name := "fnExactCompletedCracks", fn := fun _ => fun
  | [d] => { results := [.lit (.bool false)], args := [d] }
  | _ => none }
def FnExactCompletedCracksWrongFalsely : Prop := fnExactCompletedCracksRow.holds Try.pinned (OpenSpec.ofChange fnExactCompletedCracksWrong)

/-- 'laws.FnExactMakeWorkload': WHATEVER THE INPUT: true; the input reads as it did. -/
def fnExactMakeWorkloadSpec : ChangeSpec := { name := "fnExactMakeWorkload", fn := fun _ => fun
  | [d1, d2, d3, d4, d5] => { results := [.lit (.bool true)], args := [d1, d2, d3, d4, d5] }
  | _ => none }
def fnExactMakeWorkloadRow : OpenClaim := { program := "ytbomegcdjhljeaa", sum := "3cdbd2a39257e45b7aafb31af775f27d2411bad73350219f5822e4984f3eec9b", func := "loop.example/g01984/laws.FnExactMakeWorkload", spec := "fnExactMakeWorkload", unfollowed := true, recurses := true, apart := false }
def FnExactMakeWorkloadSaid : Prop := fnExactMakeWorkloadRow.holds Try.pinned (OpenSpec.ofChange fnExactMakeWorkloadSpec)

/-- ITS FALSE NEIGHBOUR: 'it returns false'. Refute it at one input. -/
def fnExactMakeWorkloadWrong : ChangeSpec := { name := "fnExactMakeWorkload", fn := fun _ => fun
  | [d1, d2, d3, d4, d5] => { results := [.lit (.bool false)], args := [d1, d2, d3, d4, d5] }
  | _ => none }
def FnExactMakeWorkloadWrongFalsely : Prop := fnExactMakeWorkloadRow.holds Try.pinned (OpenSpec.ofChange fnExactMakeWorkloadWrong)

/-- 'laws.FnExactQueriesFor': WHATEVER THE INPUT: true; the input reads as it did. -/
def fnExactQueriesForSpec : ChangeSpec := { name := "fnExactQueriesFor", fn := fun _ => fun
  | [d1, d2] => { results := [.lit (.bool true)], args := [d1, d2] }
  | _ => none }
def fnExactQueriesForRow : OpenClaim := { program := "ytbomegcdjhljeaa", sum := "3cdbd2a39257e45b7aafb31af775f27d2411bad73350219f5822e4984f3eec9b", func := "loop.example/g01984/laws.FnExactQueriesFor", spec := "fnExactQueriesFor", unfollowed := true, recurses := true, apart := false }
def FnExactQueriesForSaid : Prop := fnExactQueriesForRow.holds Try.pinned (OpenSpec.ofChange fnExactQueriesForSpec)

/-- ITS FALSE NEIGHBOUR: 'it returns false'. Refute it at one input. -/
def fnExactQueriesForWrong : ChangeSpec := { name := "fnExactQueriesFor", fn := fun _ => fun
  | [d1, d2] => { results := [.lit (.bool false)], args := [d1, d2] }
  | _ => none }
def FnExactQueriesForWrongFalsely : Prop := fnExactQueriesForRow.holds Try.pinned (OpenSpec.ofChange fnExactQueriesForWrong)

/-- 'laws.FnExactHeatOf': WHATEVER THE INPUT: true; the input reads as it did. -/
def fnExactHeatOfSpec : ChangeSpec := { name := "fnExactHeatOf", fn := fun _ => fun
  | [d1, d2] => { results := [.lit (.bool true)], args := [d1, d2] }
  | _ => none }
def fnExactHeatOfRow : OpenClaim := { program := "ytbomegcdjhljeaa", sum := "3cdbd2a39257e45b7aafb31af775f27d2411bad73350219f5822e4984f3eec9b", func := "loop.example/g01984/laws.FnExactHeatOf", spec := "fnExactHeatOf", unfollowed := true, recurses := true, apart := false }
def FnExactHeatOfSaid : Prop := fnExactHeatOfRow.holds Try.pinned (OpenSpec.ofChange fnExactHeatOfSpec)

/-- ITS FALSE NEIGHBOUR: 'it returns false'. Refute it at one input. -/
def fnExactHeatOfWrong : ChangeSpec := { name := "fnExactHeatOf", fn := fun _ => fun
  | [d1, d2] => { results := [.lit (.bool false)], args := [d1, d2] }
  | _ => none }
def FnExactHeatOfWrongFalsely : Prop := fnExactHeatOfRow.holds Try.pinned (OpenSpec.ofChange fnExactHeatOfWrong)

/-- 'laws.FnExactColdRows': WHATEVER THE INPUT: true; the input reads as it did. -/
def fnExactColdRowsSpec : ChangeSpec := { name := "fnExactColdRows", fn := fun _ => fun
  | [d1, d2] => { results := [.lit (.bool true)], args := [d1, d2] }
  | _ => none }
def fnExactColdRowsRow : OpenClaim := { program := "ytbomegcdjhljeaa", sum := "3cdbd2a39257e45b7aafb31af775f27d2411bad73350219f5822e4984f3eec9b", func := "loop.example/g01984/laws.FnExactColdRows", spec := "fnExactColdRows", unfollowed := true, recurses := true, apart := false }
def FnExactColdRowsSaid : Prop := fnExactColdRowsRow.holds Try.pinned (OpenSpec.ofChange fnExactColdRowsSpec)

/-- ITS FALSE NEIGHBOUR: 'it returns false'. Refute it at one input. -/
def fnExactColdRowsWrong : ChangeSpec := { name := "fnExactColdRows", fn := fun _ => fun
  | [d1, d2] => { results := [.lit (.bool false)], args := [d1, d2] }
  | _ => none }
def FnExactColdRowsWrongFalsely : Prop := fnExactColdRowsRow.holds Try.pinned (OpenSpec.ofChange fnExactColdRowsWrong)

/-- 'laws.FnExactEqualStores': WHATEVER THE INPUT: true; the input reads as it did. -/
def fnExactEqualStoresSpec : ChangeSpec := { name := "fnExactEqualStores", fn := fun _ => fun
  | [d1, d2] => { results := [.lit (.bool true)], args := [d1, d2] }
  | _ => none }
def fnExactEqualStoresRow : OpenClaim := { program := "ytbomegcdjhljeaa", sum := "3cdbd2a39257e45b7aafb31af775f27d2411bad73350219f5822e4984f3eec9b", func := "loop.example/g01984/laws.FnExactEqualStores", spec := "fnExactEqualStores", apart := false }
def FnExactEqualStoresSaid : Prop := fnExactEqualStoresRow.holds Try.pinned (OpenSpec.ofChange fnExactEqualStoresSpec)

/-- ITS FALSE NEIGHBOUR: 'it returns false'. Refute it at one input. -/
def fnExactEqualStoresWrong : ChangeSpec := { name := "fnExactEqualStores", fn := fun _ => fun
  | [d1, d2] => { results := [.lit (.bool false)], args := [d1, d2] }
  | _ => none }
def FnExactEqualStoresWrongFalsely : Prop := fnExactEqualStoresRow.holds Try.pinned (OpenSpec.ofChange fnExactEqualStoresWrong)

/-- 'laws.FnCrashes': WHATEVER THE INPUT: true; the input reads as it did. -/
def fnCrashesSpec : ChangeSpec := { name := "fnCrashes", fn := fun _ => fun
  | [d] => { results := [.lit (.bool true)], args := [d] }
  | _ => none }
def fnCrashesRow : OpenClaim := { program := "ytbomegcdjhljeaa", sum := "3cdbd2a39257e45b7aafb31af775f27d2411bad73350219f5822e4984f3eec9b", func := "loop.example/g01984/laws.FnCrashes", spec := "fnCrashes", inPlace := ["slices.overlaps[loop.example/g01984/impl.Pivot]"], unfollowed := true, recurses := true, apart := false }
def FnCrashesSaid : Prop := fnCrashesRow.holds Try.pinned (OpenSpec.ofChange fnCrashesSpec)

/-- ITS FALSE NEIGHBOUR: 'it returns false'. Refute it at one input. -/
def fnCrashesWrong : ChangeSpec := { name := "fnCrashes", fn := fun _ => fun
  | [d] => { results := [.lit (.bool false)], args := [d] }
  | _ => none }
def FnCrashesWrongFalsely : Prop := fnCrashesRow.holds Try.pinned (OpenSpec.ofChange fnCrashesWrong)

/-- 'laws.FnExactNewStore': WHATEVER THE INPUT: true; the input reads as it did. -/
def fnExactNewStoreSpec : ChangeSpec := { name := "fnExactNewStore", fn := fun _ => fun
  | [d] => { results := [.lit (.bool true)], args := [d] }
  | _ => none }
def fnExactNewStoreRow : OpenClaim := { program := "ytbomegcdjhljeaa", sum := "3cdbd2a39257e45b7aafb31af775f27d2411bad73350219f5822e4984f3eec9b", func := "loop.example/g01984/laws.FnExactNewStore", spec := "fnExactNewStore", unfollowed := true, recurses := true, apart := false }
def FnExactNewStoreSaid : Prop := fnExactNewStoreRow.holds Try.pinned (OpenSpec.ofChange fnExactNewStoreSpec)

/-- ITS FALSE NEIGHBOUR: 'it returns false'. Refute it at one input. -/
def fnExactNewStoreWrong : ChangeSpec := { name := "fnExactNewStore", fn := fun _ => fun
  | [d] => { results := [.lit (.bool false)], args := [d] }
  | _ => none }
def FnExactNewStoreWrongFalsely : Prop := fnExactNewStoreRow.holds Try.pinned (OpenSpec.ofChange fnExactNewStoreWrong)

/-- 'laws.FnExactEqualBoards': WHATEVER THE INPUT: true; the input reads as it did. -/
def fnExactEqualBoardsSpec : ChangeSpec := { name := "fnExactEqualBoards", fn := fun _ => fun
  | [d1, d2] => { results := [.lit (.bool true)], args := [d1, d2] }
  | _ => none }
def fnExactEqualBoardsRow : OpenClaim := { program := "ytbomegcdjhljeaa", sum := "3cdbd2a39257e45b7aafb31af775f27d2411bad73350219f5822e4984f3eec9b", func := "loop.example/g01984/laws.FnExactEqualBoards", spec := "fnExactEqualBoards", unfollowed := true, recurses := true, apart := false }
def FnExactEqualBoardsSaid : Prop := fnExactEqualBoardsRow.holds Try.pinned (OpenSpec.ofChange fnExactEqualBoardsSpec)

/-- ITS FALSE NEIGHBOUR: 'it returns false'. Refute it at one input. -/
def fnExactEqualBoardsWrong : ChangeSpec := { name := "fnExactEqualBoards", fn := fun _ => fun
  | [d1, d2] => { results := [.lit (.bool false)], args := [d1, d2] }
  | _ => none }
def FnExactEqualBoardsWrongFalsely : Prop := fnExactEqualBoardsRow.holds Try.pinned (OpenSpec.ofChange fnExactEqualBoardsWrong)

/- THE SECOND FORM. 'bulk': how many values and letters a reading holds, each counted each time it is reached (what is shared counts as often as it is met; a slice's spare places count too). A statement '..UptoSaid' is the law's where the arguments, and the package variables that the reading takes, are together of bulk at most 1048576: NARROWER than '..Said'. Prove '..Said' where nothing that the law and all that it calls make is longer than what came in: it says more and counts as full. Else prove '..UptoSaid'. A law counts once. -/
mutual
def uptoBulk {H : Type} : DataW H → Nat
  | .lit (.string bytes) => bytes.length + 1
  | .lit _ => 1
  | .nil => 1
  | .ptr d => uptoBulk d + 1
  | .slice elems spare => uptoBulkAll elems + uptoBulkAll spare + 1
  | .agg parts => uptoBulkAll parts + 1
  | .iface _ d => uptoBulk d + 1
  | .map entries => uptoBulkEntries entries + 1
  | .held _ => 1
def uptoBulkAll {H : Type} : List (DataW H) → Nat
  | [] => 0
  | d :: r => uptoBulk d + uptoBulkAll r
def uptoBulkEntries {H : Type} : List (Lit × DataW H) → Nat
  | [] => 0
  | x :: r => uptoBulkEntry x + uptoBulkEntries r
def uptoBulkEntry {H : Type} : Lit × DataW H → Nat
  | (.string bytes, d) => bytes.length + uptoBulk d + 1
  | (_, d) => uptoBulk d + 1
 end
def uptoSmall : (H : Type) → List (DataW H) → Bool := fun _ ds => decide (uptoBulkAll ds ≤ 1048576)
def OpenSpec.upto (s : _root_.Go.ChangeSpec) : _root_.Go.OpenSpec := { _root_.Go.OpenSpec.ofChange s with cond := some uptoSmall }

/-- 'laws.FnExactMeanWidth', WHERE WHAT IT READS IS OF BULK AT MOST 1048576: true; the input reads as it did. -/
def fnExactMeanWidthUptoRow : OpenClaim := { program := "ytbomegcdjhljeaa", sum := "3cdbd2a39257e45b7aafb31af775f27d2411bad73350219f5822e4984f3eec9b", func := "loop.example/g01984/laws.FnExactMeanWidth", spec := "fnExactMeanWidth", unfollowed := true, recurses := true, apart := false, narrowed := true }
def FnExactMeanWidthUptoSaid : Prop := fnExactMeanWidthUptoRow.holds Try.pinned (OpenSpec.upto fnExactMeanWidthSpec)

/-- 'laws.FnExactCompletedCracks', WHERE WHAT IT READS IS OF BULK AT MOST 1048576: true; the input reads as it did. -/
def fnExactCompletedCracksUptoRow : OpenClaim := { program := "ytbomegcdjhljeaa", sum := "3cdbd2a39257e45b7aafb31af775f27d2411bad73350219f5822e4984f3eec9b", func := "loop.example/g01984/laws.FnExactCompletedCracks", spec := "fnExactCompletedCracks", apart := false, narrowed := true }
def FnExactCompletedCracksUptoSaid : Prop := fnExactCompletedCracksUptoRow.holds Try.pinned (OpenSpec.upto fnExactCompletedCracksSpec)

/-- 'laws.FnExactMakeWorkload', WHERE WHAT IT READS IS OF BULK AT MOST 1048576: true; the input reads as it did. -/
def fnExactMakeWorkloadUptoRow : OpenClaim := { program := "ytbomegcdjhljeaa", sum := "3cdbd2a39257e45b7aafb31af775f27d2411bad73350219f5822e4984f3eec9b", func := "loop.example/g01984/laws.FnExactMakeWorkload", spec := "fnExactMakeWorkload", unfollowed := true, recurses := true, apart := false, narrowed := true }
def FnExactMakeWorkloadUptoSaid : Prop := fnExactMakeWorkloadUptoRow.holds Try.pinned (OpenSpec.upto fnExactMakeWorkloadSpec)

/-- 'laws.FnExactQueriesFor', WHERE WHAT IT READS IS OF BULK AT MOST 1048576: true; the input reads as it did. -/
def fnExactQueriesForUptoRow : OpenClaim := { program := "ytbomegcdjhljeaa", sum := "3cdbd2a39257e45b7aafb31af775f27d2411bad73350219f5822e4984f3eec9b", func := "loop.example/g01984/laws.FnExactQueriesFor", spec := "fnExactQueriesFor", unfollowed := true, recurses := true, apart := false, narrowed := true }
def FnExactQueriesForUptoSaid : Prop := fnExactQueriesForUptoRow.holds Try.pinned (OpenSpec.upto fnExactQueriesForSpec)

/-- 'laws.FnExactHeatOf', WHERE WHAT IT READS IS OF BULK AT MOST 1048576: true; the input reads as it did. -/
def fnExactHeatOfUptoRow : OpenClaim := { program := "ytbomegcdjhljeaa", sum := "3cdbd2a39257e45b7aafb31af775f27d2411bad73350219f5822e4984f3eec9b", func := "loop.example/g01984/laws.FnExactHeatOf", spec := "fnExactHeatOf", unfollowed := true, recurses := true, apart := false, narrowed := true }
def FnExactHeatOfUptoSaid : Prop := fnExactHeatOfUptoRow.holds Try.pinned (OpenSpec.upto fnExactHeatOfSpec)

/-- 'laws.FnExactColdRows', WHERE WHAT IT READS IS OF BULK AT MOST 1048576: true; the input reads as it did. -/
def fnExactColdRowsUptoRow : OpenClaim := { program := "ytbomegcdjhljeaa", sum := "3cdbd2a39257e45b7aafb31af775f27d2411bad73350219f5822e4984f3eec9b", func := "loop.example/g01984/laws.FnExactColdRows", spec := "fnExactColdRows", unfollowed := true, recurses := true, apart := false, narrowed := true }
def FnExactColdRowsUptoSaid : Prop := fnExactColdRowsUptoRow.holds Try.pinned (OpenSpec.upto fnExactColdRowsSpec)

/-- 'laws.FnExactEqualStores', WHERE WHAT IT READS IS OF BULK AT MOST 1048576: true; the input reads as it did. -/
def fnExactEqualStoresUptoRow : OpenClaim := { program := "ytbomegcdjhljeaa", sum := "3cdbd2a39257e45b7aafb31af775f27d2411bad73350219f5822e4984f3eec9b", func := "loop.example/g01984/laws.FnExactEqualStores", spec := "fnExactEqualStores", apart := false, narrowed := true }
def FnExactEqualStoresUptoSaid : Prop := fnExactEqualStoresUptoRow.holds Try.pinned (OpenSpec.upto fnExactEqualStoresSpec)

/-- 'laws.FnCrashes', WHERE WHAT IT READS IS OF BULK AT MOST 1048576: true; the input reads as it did. -/
def fnCrashesUptoRow : OpenClaim := { program := "ytbomegcdjhljeaa", sum := "3cdbd2a39257e45b7aafb31af775f27d2411bad73350219f5822e4984f3eec9b", func := "loop.example/g01984/laws.FnCrashes", spec := "fnCrashes", inPlace := ["slices.overlaps[loop.example/g01984/impl.Pivot]"], unfollowed := true, recurses := true, apart := false, narrowed := true }
def FnCrashesUptoSaid : Prop := fnCrashesUptoRow.holds Try.pinned (OpenSpec.upto fnCrashesSpec)

/-- 'laws.FnExactNewStore', WHERE WHAT IT READS IS OF BULK AT MOST 1048576: true; the input reads as it did. -/
def fnExactNewStoreUptoRow : OpenClaim := { program := "ytbomegcdjhljeaa", sum := "3cdbd2a39257e45b7aafb31af775f27d2411bad73350219f5822e4984f3eec9b", func := "loop.example/g01984/laws.FnExactNewStore", spec := "fnExactNewStore", unfollowed := true, recurses := true, apart := false, narrowed := true }
def FnExactNewStoreUptoSaid : Prop := fnExactNewStoreUptoRow.holds Try.pinned (OpenSpec.upto fnExactNewStoreSpec)

/-- 'laws.FnExactEqualBoards', WHERE WHAT IT READS IS OF BULK AT MOST 1048576: true; the input reads as it did. -/
def fnExactEqualBoardsUptoRow : OpenClaim := { program := "ytbomegcdjhljeaa", sum := "3cdbd2a39257e45b7aafb31af775f27d2411bad73350219f5822e4984f3eec9b", func := "loop.example/g01984/laws.FnExactEqualBoards", spec := "fnExactEqualBoards", unfollowed := true, recurses := true, apart := false, narrowed := true }
def FnExactEqualBoardsUptoSaid : Prop := fnExactEqualBoardsUptoRow.holds Try.pinned (OpenSpec.upto fnExactEqualBoardsSpec)

end Rows
end Go.Proofs.Ytbomegcdjhljeaa
