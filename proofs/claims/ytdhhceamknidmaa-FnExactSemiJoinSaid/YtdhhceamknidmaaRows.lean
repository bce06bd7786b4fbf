/-
  No cell of these rows narrows 'for every input' (looked for: loops, veiled, ifaces, maps, wideKeys, modest, calm, conditions, laid).
  DERIVED. THE GIVEN ROWS OF THIS SEAT. 11 by the template 'for every input the law returns true; each argument reads behind the call as it read before'; 0 by the template 'total and deterministic' (their statements: YtdhhceamknidmaaTotals.lean).
  GIVEN WITH THE SEED: the statements are not yours to turn. If you find one false, say at which input.
  Laid BY PROGRAM, IN A SANDBOX (cutbox-rows.mjs): the forced cells as the released guide's own fill.sh prints them over the translation 3761ce153dc01287… (all of the seat's roots in one cut). By AI agents, Wed Nov 11 2026. No macro, syntax, notation, axiom, sorry.
-/
import Derived.Test.YtdhhceamknidmaaChecked
import GoSem.Claim
import GoSem.ClaimJoined
import GoSem.ClaimMapViews
import Derived.JoinedTies
import Derived.KernelRfl
namespace Go.Proofs.Ytdhhceamknidmaa
/- THE CELL 'sum', in the pinned program and in every row, IS THE sha256 OF THE DUMP (.gsa) THAT YtdhhceamknidmaaProg.lean LOADS. Nothing in Lean hashes anything: it is a label: what it is worth is what the hold of that sum in a sandbox is worth. -/
noncomputable def Try.pinned : Pinned := { name := "ytdhhceamknidmaa", sum := "3761ce153dc01287dde0dcf5bc16b2b29b3ac0dec011cdf3db67bb4b43bd7d06", checked := Try.checked }
namespace Rows
def none {H : Type} : Left H := { results := [], args := [] }

/-- 'laws.FnExactEqualBoards': WHATEVER THE INPUT: true; the input reads as it did. -/
def fnExactEqualBoardsSpec : ChangeSpec := { name := "fnExactEqualBoards", fn := fun _ => fun
  | [d1, d2] => { results := [.lit (.bool true)], args := [d1, d2] }
  | _ => none }
def fnExactEqualBoardsRow : OpenClaim := { program := "ytdhhceamknidmaa", sum := "3761ce153dc01287dde0dcf5bc16b2b29b3ac0dec011cdf3db67bb4b43bd7d06", func := "loop.example/g01984/laws.FnExactEqualBoards", spec := "fnExactEqualBoards", unfollowed := true, recurses := true, apart := false }
def FnExactEqualBoardsSaid : Prop := fnExactEqualBoardsRow.holds Try.pinned (OpenSpec.ofChange fnExactEqualBoardsSpec)

/-- ITS FALSE NEIGHBOUR: 'it returns false'. Refute it at one input. -/
def fnExactEqualBoardsWrong : ChangeSpec := { name := "fnExactEqualBoards", fn := fun _ => fun
  | [d1, d2] => { results := [.lit (.bool false)], args := [d1, d2] }
  | _ => none }
def FnExactEqualBoardsWrongFalsely : Prop := fnExactEqualBoardsRow.holds Try.pinned (OpenSpec.ofChange fnExactEqualBoardsWrong)

/-- 'laws.FnExactIsBoard': WHATEVER THE INPUT: true; the input reads as it did. -/
def fnExactIsBoardSpec : ChangeSpec := { name := "fnExactIsBoard", fn := fun _ => fun
  | [d] => { results := [.lit (.bool true)], args := [d] }
  | _ => none }
def fnExactIsBoardRow : OpenClaim := { program := "ytdhhceamknidmaa", sum := "3761ce153dc01287dde0dcf5bc16b2b29b3ac0dec011cdf3db67bb4b43bd7d06", func := "loop.example/g01984/laws.FnExactIsBoard", spec := "fnExactIsBoard", unfollowed := true, recurses := true, apart := false }
def FnExactIsBoardSaid : Prop := fnExactIsBoardRow.holds Try.pinned (OpenSpec.ofChange fnExactIsBoardSpec)

/-- ITS FALSE NEIGHBOUR: 'it returns false'. Refute it at one input. -/
def fnExactIsBoardWrong : ChangeSpec := { name := "fnExactIsBoard", fn := fun _ => fun
  | [d] => { results := [.lit (.bool false)], args := [d] }
  | _ => none }
def FnExactIsBoardWrongFalsely : Prop := fnExactIsBoardRow.holds Try.pinned (OpenSpec.ofChange fnExactIsBoardWrong)

/-- 'laws.FnExactIsFinished': WHATEVER THE INPUT: true; the input reads as it did. -/
def fnExactIsFinishedSpec : ChangeSpec := { name := "fnExactIsFinished", fn := fun _ => fun
  | [d] => { results := [.lit (.bool true)], args := [d] }
  | _ => none }
def fnExactIsFinishedRow : OpenClaim := { program := "ytdhhceamknidmaa", sum := "3761ce153dc01287dde0dcf5bc16b2b29b3ac0dec011cdf3db67bb4b43bd7d06", func := "loop.example/g01984/laws.FnExactIsFinished", spec := "fnExactIsFinished", unfollowed := true, recurses := true, apart := false }
def FnExactIsFinishedSaid : Prop := fnExactIsFinishedRow.holds Try.pinned (OpenSpec.ofChange fnExactIsFinishedSpec)

/-- ITS FALSE NEIGHBOUR: 'it returns false'. Refute it at one input. -/
def fnExactIsFinishedWrong : ChangeSpec := { name := "fnExactIsFinished", fn := fun _ => fun
  | [d] => { results := [.lit (.bool false)], args := [d] }
  | _ => none }
def FnExactIsFinishedWrongFalsely : Prop := fnExactIsFinishedRow.holds Try.pinned (OpenSpec.ofChange fnExactIsFinishedWrong)

/-- 'laws.FnExactBlocker': WHATEVER THE INPUT: true; the input reads as it did. -/
def fnExactBlockerSpec : ChangeSpec := { name := "fnExactBlocker", fn := fun _ => fun
  | [d1, d2] => { results := [.lit (.bool true)], args := [d1, d2] }
  | _ => none }
def fnExactBlockerRow : OpenClaim := { program := "ytdhhceamknidmaa", sum := "3761ce153dc01287dde0dcf5bc16b2b29b3ac0dec011cdf3db67bb4b43bd7d06", func := "loop.example/g01984/laws.FnExactBlocker", spec := "fnExactBlocker", unfollowed := true, recurses := true, apart := false }
def FnExactBlockerSaid : Prop := fnExactBlockerRow.holds Try.pinned (OpenSpec.ofChange fnExactBlockerSpec)

/-- ITS FALSE NEIGHBOUR: 'it returns false'. Refute it at one input. -/
def fnExactBlockerWrong : ChangeSpec := { name := "fnExactBlocker", fn := fun _ => fun
  | [d1, d2] => { results := [.lit (.bool false)], args := [d1, d2] }
  | _ => none }
def FnExactBlockerWrongFalsely : Prop := fnExactBlockerRow.holds Try.pinned (OpenSpec.ofChange fnExactBlockerWrong)

/-- 'laws.FnExactNewBoard': WHATEVER THE INPUT: true; the input reads as it did. -/
def fnExactNewBoardSpec : ChangeSpec := { name := "fnExactNewBoard", fn := fun _ => fun
  | [d1, d2] => { results := [.lit (.bool true)], args := [d1, d2] }
  | _ => none }
def fnExactNewBoardRow : OpenClaim := { program := "ytdhhceamknidmaa", sum := "3761ce153dc01287dde0dcf5bc16b2b29b3ac0dec011cdf3db67bb4b43bd7d06", func := "loop.example/g01984/laws.FnExactNewBoard", spec := "fnExactNewBoard", unfollowed := true, recurses := true, apart := false }
def FnExactNewBoardSaid : Prop := fnExactNewBoardRow.holds Try.pinned (OpenSpec.ofChange fnExactNewBoardSpec)

/-- ITS FALSE NEIGHBOUR: 'it returns false'. Refute it at one input. -/
def fnExactNewBoardWrong : ChangeSpec := { name := "fnExactNewBoard", fn := fun _ => fun
  | [d1, d2] => { results := [.lit (.bool false)], args := [d1, d2] }
  | _ => none }
def FnExactNewBoardWrongFalsely : Prop := fnExactNewBoardRow.holds Try.pinned (OpenSpec.ofChange fnExactNewBoardWrong)

/-- 'laws.FnExactCountMatches': WHATEVER THE INPUT: true; the input reads as it did. -/
def fnExactCountMatchesSpec : ChangeSpec := { name := "fnExactCountMatches", fn := fun _ => fun
  | [d1, d2] => { results := [.lit (.bool true)], args := [d1, d2] }
  | _ => none }
def fnExactCountMatchesRow : OpenClaim := { program := "ytdhhceamknidmaa", sum := "3761ce153dc01287dde0dcf5bc16b2b29b3ac0dec011cdf3db67bb4b43bd7d06", func := "loop.example/g01984/laws.FnExactCountMatches", spec := "fnExactCountMatches", unfollowed := true, recurses := true, apart := false }
def FnExactCountMatchesSaid : Prop := fnExactCountMatchesRow.holds Try.pinned (OpenSpec.ofChange fnExactCountMatchesSpec)

/-- ITS FALSE NEIGHBOUR: 'it returns false'. Refute it at one input. -/
def fnExactCountMatchesWrong : ChangeSpec := { name := "fnExactCountMatches", fn := fun _ => fun
  | [d1, d2] => { results := [.lit (.bool false)], args := [d1, d2] }
  | _ => none }
def FnExactCountMatchesWrongFalsely : Prop := fnExactCountMatchesRow.holds Try.pinned (OpenSpec.ofChange fnExactCountMatchesWrong)

/-- 'laws.FnExactSemiJoin': WHATEVER THE INPUT: true; the input reads as it did. -/
def fnExactSemiJoinSpec : ChangeSpec := { name := "fnExactSemiJoin", fn := fun _ => fun
  | [d1, d2] => { results := [.lit (.bool true)], args := [d1, d2] }
  | _ => none }
def fnExactSemiJoinRow : OpenClaim := { program := "ytdhhceamknidmaa", sum := "3761ce153dc01287dde0dcf5bc16b2b29b3ac0dec011cdf3db67bb4b43bd7d06", func := "loop.example/g01984/laws.FnExactSemiJoin", spec := "fnExactSemiJoin", unfollowed := true, recurses := true, apart := false }
def FnExactSemiJoinSaid : Prop := fnExactSemiJoinRow.holds Try.pinned (OpenSpec.ofChange fnExactSemiJoinSpec)

/-- ITS FALSE NEIGHBOUR: 'it returns false'. Refute it at one input. -/
def fnExactSemiJoinWrong : ChangeSpec := { name := "fnExactSemiJoin", fn := fun _ => fun
  | [d1, d2] => { results := [.lit (.bool false)], args := [d1, d2] }
  | _ => none }
def FnExactSemiJoinWrongFalsely : Prop := fnExactSemiJoinRow.holds Try.pinned (OpenSpec.ofChange fnExactSemiJoinWrong)

/-- 'laws.FnExactScanJoin': WHATEVER THE INPUT: true; the input reads as it did. -/
def fnExactScanJoinSpec : ChangeSpec := { name := "fnExactScanJoin", fn := fun _ => fun
  | [d1, d2, d3] => { results := [.lit (.bool true)], args := [d1, d2, d3] }
  | _ => none }
def fnExactScanJoinRow : OpenClaim := { program := "ytdhhceamknidmaa", sum := "3761ce153dc01287dde0dcf5bc16b2b29b3ac0dec011cdf3db67bb4b43bd7d06", func := "loop.example/g01984/laws.FnExactScanJoin", spec := "fnExactScanJoin", unfollowed := true, recurses := true, apart := false }
def FnExactScanJoinSaid : Prop := fnExactScanJoinRow.holds Try.pinned (OpenSpec.ofChange fnExactScanJoinSpec)

/-- ITS FALSE NEIGHBOUR: 'it returns false'. Refute it at one input. -/
def fnExactScanJoinWrong : ChangeSpec := { name := "fnExactScanJoin", fn := fun _ => fun
  | [d1, d2, d3] => { results := [.lit (.bool false)], args := [d1, d2, d3] }
  | _ => none }
def FnExactScanJoinWrongFalsely : Prop := fnExactScanJoinRow.holds Try.pinned (OpenSpec.ofChange fnExactScanJoinWrong)

/-- 'laws.FnExactStepWorker': WHATEVER THE INPUT: true; the input reads as it did. -/
def fnExactStepWorkerSpec : ChangeSpec := { name := "fnExactStepWorker", fn := fun _ => fun
  | [d1, d2] => { results := [.lit (.bool true)], args := [d1, d2] }
  | _ => none }
def fnExactStepWorkerRow : OpenClaim := { program := "ytdhhceamknidmaa", sum := "3761ce153dc01287dde0dcf5bc16b2b29b3ac0dec011cdf3db67bb4b43bd7d06", func := "loop.example/g01984/laws.FnExactStepWorker", spec := "fnExactStepWorker", inPlace := ["slices.overlaps[loop.example/g01984/impl.Pivot]"], unfollowed := true, recurses := true, apart := false }
def FnExactStepWorkerSaid : Prop := fnExactStepWorkerRow.holds Try.pinned (OpenSpec.ofChange fnExactStepWorkerSpec)

/-- ITS FALSE NEIGHBOUR: 'it returns false'. Refute it at one input. -/
def fnExactStepWorkerWrong : ChangeSpec := { name := "fnExactStepWorker", fn := fun _ => fun
  | [d1, d2] => { results := [.lit (.bool false)], args := [d1, d2] }
  | _ => none }
def FnExactStepWorkerWrongFalsely : Prop := fnExactStepWorkerRow.holds Try.pinned (OpenSpec.ofChange fnExactStepWorkerWrong)

/-- 'laws.FnExactRunBoard': WHATEVER THE INPUT: true; the input reads as it did. -/
def fnExactRunBoardSpec : ChangeSpec := { name := "fnExactRunBoard", fn := fun _ => fun
  | [d1, d2] => { results := [.lit (.bool true)], args := [d1, d2] }
  | _ => none }
def fnExactRunBoardRow : OpenClaim := { program := "ytdhhceamknidmaa", sum := "3761ce153dc01287dde0dcf5bc16b2b29b3ac0dec011cdf3db67bb4b43bd7d06", func := "loop.example/g01984/laws.FnExactRunBoard", spec := "fnExactRunBoard", inPlace := ["slices.overlaps[loop.example/g01984/impl.Pivot]"], unfollowed := true, recurses := true, apart := false }
def FnExactRunBoardSaid : Prop := fnExactRunBoardRow.holds Try.pinned (OpenSpec.ofChange fnExactRunBoardSpec)

/-- ITS FALSE NEIGHBOUR: 'it returns false'. Refute it at one input. -/
def fnExactRunBoardWrong : ChangeSpec := { name := "fnExactRunBoard", fn := fun _ => fun
  | [d1, d2] => { results := [.lit (.bool false)], args := [d1, d2] }
  | _ => none }
def FnExactRunBoardWrongFalsely : Prop := fnExactRunBoardRow.holds Try.pinned (OpenSpec.ofChange fnExactRunBoardWrong)

/-- 'laws.FnExactFinishBoard': WHATEVER THE INPUT: true; the input reads as it did. -/
def fnExactFinishBoardSpec : ChangeSpec := { name := "fnExactFinishBoard", fn := fun _ => fun
  | [d] => { results := [.lit (.bool true)], args := [d] }
  | _ => none }
def fnExactFinishBoardRow : OpenClaim := { program := "ytdhhceamknidmaa", sum := "3761ce153dc01287dde0dcf5bc16b2b29b3ac0dec011cdf3db67bb4b43bd7d06", func := "loop.example/g01984/laws.FnExactFinishBoard", spec := "fnExactFinishBoard", inPlace := ["slices.overlaps[loop.example/g01984/impl.Pivot]"], unfollowed := true, recurses := true, apart := false }
def FnExactFinishBoardSaid : Prop := fnExactFinishBoardRow.holds Try.pinned (OpenSpec.ofChange fnExactFinishBoardSpec)

/-- ITS FALSE NEIGHBOUR: 'it returns false'. Refute it at one input. -/
def fnExactFinishBoardWrong : ChangeSpec := { name := "fnExactFinishBoard", fn := fun _ => fun
  | [d] => { results := [.lit (.bool false)], args := [d] }
  | _ => none }
def FnExactFinishBoardWrongFalsely : Prop := fnExactFinishBoardRow.holds Try.pinned (OpenSpec.ofChange fnExactFinishBoardWrong)

/- THE SECOND FORM. 'bulk': how many values and letters a reading holds, each counted each time it is reached (what is shared counts as often as it is met; a slice's spare places count too). A statement '..UptoSaid' is the law's where the arguments, and the package variables that the reading takes, are together of bulk at most 1048576: NARROWER than '..Said'. Prove '..Said' where nothing that the law and all that it calls make is longer than what came in: it says more and counts as full. Else prove '..UptoSaid'. A law counts once. -/
mutual
def uptoBulk {H : Type} : DataW H → Nat
  | .lit (.string bytes) => bytes.length + 1
  | .lit _ => 1
  | .nil => 1
  | .ptr d => uptoBulk d + 1
  | .slice elems spare => uptoBulkAll elems + uptoBulkAll spare + 1
  | .agg parts => uptoBulkAll parts + 1
  | .iface _ d => uptoBulk d + 1
  | .map entries => uptoBulkEntries entries + 1
  | .held _ => 1
def uptoBulkAll {H : Type} : List (DataW H) → Nat
  | [] => 0
  | d :: r => uptoBulk d + uptoBulkAll r
def uptoBulkEntries {H : Type} : List (Lit × DataW H) → Nat
  | [] => 0
  | x :: r => uptoBulkEntry x + uptoBulkEntries r
def uptoBulkEntry {H : Type} : Lit × DataW H → Nat
  | (.string bytes, d) => bytes.length + uptoBulk d + 1
  | (_, d) => uptoBulk d + 1
 end
def uptoSmall : (H : Type) → List (DataW H) → Bool := fun _ ds => decide (uptoBulkAll ds ≤ 1048576)
def OpenSpec.upto (s : _root_.Go.ChangeSpec) : _root_.Go.OpenSpec := { _root_.Go.OpenSpec.ofChange s with cond := some uptoSmall }

/-- 'laws.FnExactEqualBoards', WHERE WHAT IT READS IS OF BULK AT MOST 1048576: true; the input reads as it did. -/
def fnExactEqualBoardsUptoRow : OpenClaim := { program := "ytdhhceamknidmaa", sum := "3761ce153dc01287dde0dcf5bc16b2b29b3ac0dec011cdf3db67bb4b43bd7d06", func := "loop.example/g01984/laws.FnExactEqualBoards", spec := "fnExactEqualBoards", unfollowed := true, recurses := true, apart := false, narrowed := true }
def FnExactEqualBoardsUptoSaid : Prop := fnExactEqualBoardsUptoRow.holds Try.pinned (OpenSpec.upto fnExactEqualBoardsSpec)

/-- 'laws.FnExactIsBoard', WHERE WHAT IT READS IS OF BULK AT MOST 1048576: true; the input reads as it did. -/
def fnExactIsBoardUptoRow : OpenClaim := { program := "ytdhhceamknidmaa", sum := "3761ce153dc01287dde0dcf5bc16b2b29b3ac0dec011cdf3db67bb4b43bd7d06", func := "loop.example/g01984/laws.FnExactIsBoard", spec := "fnExactIsBoard", unfollowed := true, recurses := true, apart := false, narrowed := true }
def FnExactIsBoardUptoSaid : Prop := fnExactIsBoardUptoRow.holds Try.pinned (OpenSpec.upto fnExactIsBoardSpec)

/-- 'laws.FnExactIsFinished', WHERE WHAT IT READS IS OF BULK AT MOST 1048576: true; the input reads as it did. -/
def fnExactIsFinishedUptoRow : OpenClaim := { program := "ytdhhceamknidmaa", sum := "3761ce153dc01287dde0dcf5bc16b2b29b3ac0dec011cdf3db67bb4b43bd7d06", func := "loop.example/g01984/laws.FnExactIsFinished", spec := "fnExactIsFinished", unfollowed := true, recurses := true, apart := false, narrowed := true }
def FnExactIsFinishedUptoSaid : Prop := fnExactIsFinishedUptoRow.holds Try.pinned (OpenSpec.upto fnExactIsFinishedSpec)

/-- 'laws.FnExactBlocker', WHERE WHAT IT READS IS OF BULK AT MOST 1048576: true; the input reads as it did. -/
def fnExactBlockerUptoRow : OpenClaim := { program := "ytdhhceamknidmaa", sum := "3761ce153dc01287dde0dcf5bc16b2b29b3ac0dec011cdf3db67bb4b43bd7d06", func := "loop.example/g01984/laws.FnExactBlocker", spec := "fnExactBlocker", unfollowed := true, recurses := true, apart := false, narrowed := true }
def FnExactBlockerUptoSaid : Prop := fnExactBlockerUptoRow.holds Try.pinned (OpenSpec.upto fnExactBlockerSpec)

/-- 'laws.FnExactNewBoard', WHERE WHAT IT READS IS OF BULK AT MOST 1048576: true; the input reads as it did. -/
def fnExactNewBoardUptoRow : OpenClaim := { program := "ytdhhceamknidmaa", sum := "3761ce153dc01287dde0dcf5bc16b2b29b3ac0dec011cdf3db67bb4b43bd7d06", func := "loop.example/g01984/laws.FnExactNewBoard", spec := "fnExactNewBoard", unfollowed := true, recurses := true, apart := false, narrowed := true }
def FnExactNewBoardUptoSaid : Prop := fnExactNewBoardUptoRow.holds Try.pinned (OpenSpec.upto fnExactNewBoardSpec)

/-- 'laws.FnExactCountMatches', WHERE WHAT IT READS IS OF BULK AT MOST 1048576: true; the input reads as it did. -/
def fnExactCountMatchesUptoRow : OpenClaim := { program := "ytdhhceamknidmaa", sum := "3761ce153dc01287dde0dcf5bc16b2b29b3ac0dec011cdf3db67bb4b43bd7d06", func := "loop.example/g01984/laws.FnExactCountMatches", spec := "fnExactCountMatches", unfollowed := true, recurses := true, apart := false, narrowed := true }
def FnExactCountMatchesUptoSaid : Prop := fnExactCountMatchesUptoRow.holds Try.pinned (OpenSpec.upto fnExactCountMatchesSpec)

/-- 'laws.FnExactSemiJoin', WHERE WHAT IT READS IS OF BULK AT MOST 1048576: true; the input reads as it did. -/
def fnExactSemiJoinUptoRow : OpenClaim := { program := "ytdhhceamknidmaa", sum := "3761ce153dc01287dde0dcf5bc16b2b29b3ac0dec011cdf3db67bb4b43bd7d06", func := "loop.example/g01984/laws.FnExactSemiJoin", spec := "fnExactSemiJoin", unfollowed := true, recurses := true, apart := false, narrowed := true }
def FnExactSemiJoinUptoSaid : Prop := fnExactSemiJoinUptoRow.holds Try.pinned (OpenSpec.upto fnExactSemiJoinSpec)

/-- 'laws.FnExactScanJoin', WHERE WHAT IT READS IS OF BULK AT MOST 1048576: true; the input reads as it did. -/
def fnExactScanJoinUptoRow : OpenClaim := { program := "ytdhhceamknidmaa", sum := "3761ce153dc01287dde0dcf5bc16b2b29b3ac0dec011cdf3db67bb4b43bd7d06", func := "loop.example/g01984/laws.FnExactScanJoin", spec := "fnExactScanJoin", unfollowed := true, recurses := true, apart := false, narrowed := true }
def FnExactScanJoinUptoSaid : Prop := fnExactScanJoinUptoRow.holds Try.pinned (OpenSpec.upto fnExactScanJoinSpec)

/-- 'laws.FnExactStepWorker', WHERE WHAT IT READS IS OF BULK AT MOST 1048576: true; the input reads as it did. -/
def fnExactStepWorkerUptoRow : OpenClaim := { program := "ytdhhceamknidmaa", sum := "3761ce153dc01287dde0dcf5bc16b2b29b3ac0dec011cdf3db67bb4b43bd7d06", func := "loop.example/g01984/laws.FnExactStepWorker", spec := "fnExactStepWorker", inPlace := ["slices.overlaps[loop.example/g01984/impl.Pivot]"], unfollowed := true, recurses := true, apart := false, narrowed := true }
def FnExactStepWorkerUptoSaid : Prop := fnExactStepWorkerUptoRow.holds Try.pinned (OpenSpec.upto fnExactStepWorkerSpec)

/-- 'laws.FnExactRunBoard', WHERE WHAT IT READS IS OF BULK AT MOST 1048576: true; the input reads as it did. -/
def fnExactRunBoardUptoRow : OpenClaim := { program := "ytdhhceamknidmaa", sum := "3761ce153dc01287dde0dcf5bc16b2b29b3ac0dec011cdf3db67bb4b43bd7d06", func := "loop.example/g01984/laws.FnExactRunBoard", spec := "fnExactRunBoard", inPlace := ["slices.overlaps[loop.example/g01984/impl.Pivot]"], unfollowed := true, recurses := true, apart := false, narrowed := true }
def FnExactRunBoardUptoSaid : Prop := fnExactRunBoardUptoRow.holds Try.pinned (OpenSpec.upto fnExactRunBoardSpec)

/-- 'laws.FnExactFinishBoard', WHERE WHAT IT READS IS OF BULK AT MOST 1048576: true; the input reads as it did. -/
def fnExactFinishBoardUptoRow : OpenClaim := { program := "ytdhhceamknidmaa", sum := "3761ce153dc01287dde0dcf5bc16b2b29b3ac0dec011cdf3db67bb4b43bd7d06", func := "loop.example/g01984/laws.FnExactFinishBoard", spec := "fnExactFinishBoard", inPlace := ["slices.overlaps[loop.example/g01984/impl.Pivot]"], unfollowed := true, recurses := true, apart := false, narrowed := true }
def FnExactFinishBoardUptoSaid : Prop := fnExactFinishBoardUptoRow.holds Try.pinned (OpenSpec.upto fnExactFinishBoardSpec)

end Rows
end Go.Proofs.Ytdhhceamknidmaa
