/-
  No cell of these rows narrows 'for every input' (looked for: loops, veiled, ifaces, maps, wideKeys, modest, calm, conditions, laid).
  DERIVED. THE GIVEN ROWS OF THIS SEAT. 12 by the template 'for every input the law returns true; each argument reads behind the call as it read before'; 0 by the template 'total and deterministic' (their statements: YtepfklcdpkpepaaTotals.lean).
  GIVEN WITH THE SEED: the statements are not yours to turn. If you find one false, say at which input.
  Laid BY PROGRAM, IN A SANDBOX (cutbox-rows.mjs): the forced cells as the released guide's own fill.sh prints them over the translation 1955bdded2dadaa3… (all of the seat's roots in one cut). By AI agents, Wed Nov 11 2026. No macro, syntax, notation, axiom, sorry.
-/
import Derived.Test.YtepfklcdpkpepaaChecked
import GoSem.Claim
import GoSem.ClaimJoined
import GoSem.ClaimMapViews
import Derived.JoinedTies
import Derived.KernelRfl
namespace Go.Proofs.Ytepfklcdpkpepaa
/- THE CELL 'sum', in the pinned program and in every row, IS THE sha256 OF THE DUMP (.gsa) THAT YtepfklcdpkpepaaProg.lean LOADS. Nothing in Lean hashes anything: it is a label: what it is worth is what the hold of that sum in a sandbox is worth. -/
noncomputable def Try.pinned : Pinned := { name := "ytepfklcdpkpepaa", sum := "1955bdded2dadaa3bf64cd9dafd7cdf0214e4e61d21485c218ca7e106c15638a", checked := Try.checked }
namespace Rows
def none {H : Type} : Left H := { results := [], args := [] }

/-- 'laws.FnExactIsStore': WHATEVER THE INPUT: true; the input reads as it did. -/
def fnExactIsStoreSpec : ChangeSpec := { name := "fnExactIsStore", fn := fun _ => fun
  | [d] => { results := [.lit (.bool true)], args := [d] }
  | _ => none }
def fnExactIsStoreRow : OpenClaim := { program := "ytepfklcdpkpepaa", sum := "1955bdded2dadaa3bf64cd9dafd7cdf0214e4e61d21485c218ca7e106c15638a", func := "loop.example/g01984/laws.FnExactIsStore", spec := "fnExactIsStore", unfollowed := true, recurses := true, apart := false }
def FnExactIsStoreSaid : Prop := fnExactIsStoreRow.holds Try.pinned (OpenSpec.ofChange fnExactIsStoreSpec)

/-- ITS FALSE NEIGHBOUR: 'it returns false'. Refute it at one input. -/
def fnExactIsStoreWrong : ChangeSpec := { name := "fnExactIsStore", fn := fun _ => fun
  | [d] => { results := [.lit (.bool false)], args := [d] }
  | _ => none }
def FnExactIsStoreWrongFalsely : Prop := fnExactIsStoreRow.holds Try.pinned (OpenSpec.ofChange fnExactIsStoreWrong)

/-- 'laws.FnExactDeleteValue': WHATEVER THE INPUT: true; the input reads as it did. -/
def fnExactDeleteValueSpec : ChangeSpec := { name := "fnExactDeleteValue", fn := fun _ => fun
  | [d1, d2] => { results := [.lit (.bool true)], args := [d1, d2] }
  | _ => none }
def fnExactDeleteValueRow : OpenClaim := { program := "ytepfklcdpkpepaa", sum := "1955bdded2dadaa3bf64cd9dafd7cdf0214e4e61d21485c218ca7e106c15638a", func := "loop.example/g01984/laws.FnExactDeleteValue", spec := "fnExactDeleteValue", unfollowed := true, recurses := true, apart := false }
def FnExactDeleteValueSaid : Prop := fnExactDeleteValueRow.holds Try.pinned (OpenSpec.ofChange fnExactDeleteValueSpec)

/-- ITS FALSE NEIGHBOUR: 'it returns false'. Refute it at one input. -/
def fnExactDeleteValueWrong : ChangeSpec := { name := "fnExactDeleteValue", fn := fun _ => fun
  | [d1, d2] => { results := [.lit (.bool false)], args := [d1, d2] }
  | _ => none }
def FnExactDeleteValueWrongFalsely : Prop := fnExactDeleteValueRow.holds Try.pinned (OpenSpec.ofChange fnExactDeleteValueWrong)

/-- 'laws.FnExactVacuumStore': WHATEVER THE INPUT: true; the input reads as it did. -/
def fnExactVacuumStoreSpec : ChangeSpec := { name := "fnExactVacuumStore", fn := fun _ => fun
  | [d1, d2] => { results := [.lit (.bool true)], args := [d1, d2] }
  | _ => none }
def fnExactVacuumStoreRow : OpenClaim := { program := "ytepfklcdpkpepaa", sum := "1955bdded2dadaa3bf64cd9dafd7cdf0214e4e61d21485c218ca7e106c15638a", func := "loop.example/g01984/laws.FnExactVacuumStore", spec := "fnExactVacuumStore", unfollowed := true, recurses := true, apart := false }
def FnExactVacuumStoreSaid : Prop := fnExactVacuumStoreRow.holds Try.pinned (OpenSpec.ofChange fnExactVacuumStoreSpec)

/-- ITS FALSE NEIGHBOUR: 'it returns false'. Refute it at one input. -/
def fnExactVacuumStoreWrong : ChangeSpec := { name := "fnExactVacuumStore", fn := fun _ => fun
  | [d1, d2] => { results := [.lit (.bool false)], args := [d1, d2] }
  | _ => none }
def FnExactVacuumStoreWrongFalsely : Prop := fnExactVacuumStoreRow.holds Try.pinned (OpenSpec.ofChange fnExactVacuumStoreWrong)

/-- 'laws.FnExactInsertValue': WHATEVER THE INPUT: true; the input reads as it did. -/
def fnExactInsertValueSpec : ChangeSpec := { name := "fnExactInsertValue", fn := fun _ => fun
  | [d1, d2] => { results := [.lit (.bool true)], args := [d1, d2] }
  | _ => none }
def fnExactInsertValueRow : OpenClaim := { program := "ytepfklcdpkpepaa", sum := "1955bdded2dadaa3bf64cd9dafd7cdf0214e4e61d21485c218ca7e106c15638a", func := "loop.example/g01984/laws.FnExactInsertValue", spec := "fnExactInsertValue", unfollowed := true, recurses := true, apart := false }
def FnExactInsertValueSaid : Prop := fnExactInsertValueRow.holds Try.pinned (OpenSpec.ofChange fnExactInsertValueSpec)

/-- ITS FALSE NEIGHBOUR: 'it returns false'. Refute it at one input. -/
def fnExactInsertValueWrong : ChangeSpec := { name := "fnExactInsertValue", fn := fun _ => fun
  | [d1, d2] => { results := [.lit (.bool false)], args := [d1, d2] }
  | _ => none }
def FnExactInsertValueWrongFalsely : Prop := fnExactInsertValueRow.holds Try.pinned (OpenSpec.ofChange fnExactInsertValueWrong)

/-- 'laws.FnExactHottestRange': WHATEVER THE INPUT: true; the input reads as it did. -/
def fnExactHottestRangeSpec : ChangeSpec := { name := "fnExactHottestRange", fn := fun _ => fun
  | [d1, d2] => { results := [.lit (.bool true)], args := [d1, d2] }
  | _ => none }
def fnExactHottestRangeRow : OpenClaim := { program := "ytepfklcdpkpepaa", sum := "1955bdded2dadaa3bf64cd9dafd7cdf0214e4e61d21485c218ca7e106c15638a", func := "loop.example/g01984/laws.FnExactHottestRange", spec := "fnExactHottestRange", unfollowed := true, recurses := true, apart := false }
def FnExactHottestRangeSaid : Prop := fnExactHottestRangeRow.holds Try.pinned (OpenSpec.ofChange fnExactHottestRangeSpec)

/-- ITS FALSE NEIGHBOUR: 'it returns false'. Refute it at one input. -/
def fnExactHottestRangeWrong : ChangeSpec := { name := "fnExactHottestRange", fn := fun _ => fun
  | [d1, d2] => { results := [.lit (.bool false)], args := [d1, d2] }
  | _ => none }
def FnExactHottestRangeWrongFalsely : Prop := fnExactHottestRangeRow.holds Try.pinned (OpenSpec.ofChange fnExactHottestRangeWrong)

/-- 'laws.FnExactCountMatches': WHATEVER THE INPUT: true; the input reads as it did. -/
def fnExactCountMatchesSpec : ChangeSpec := { name := "fnExactCountMatches", fn := fun _ => fun
  | [d1, d2] => { results := [.lit (.bool true)], args := [d1, d2] }
  | _ => none }
def fnExactCountMatchesRow : OpenClaim := { program := "ytepfklcdpkpepaa", sum := "1955bdded2dadaa3bf64cd9dafd7cdf0214e4e61d21485c218ca7e106c15638a", func := "loop.example/g01984/laws.FnExactCountMatches", spec := "fnExactCountMatches", unfollowed := true, recurses := true, apart := false }
def FnExactCountMatchesSaid : Prop := fnExactCountMatchesRow.holds Try.pinned (OpenSpec.ofChange fnExactCountMatchesSpec)

/-- ITS FALSE NEIGHBOUR: 'it returns false'. Refute it at one input. -/
def fnExactCountMatchesWrong : ChangeSpec := { name := "fnExactCountMatches", fn := fun _ => fun
  | [d1, d2] => { results := [.lit (.bool false)], args := [d1, d2] }
  | _ => none }
def FnExactCountMatchesWrongFalsely : Prop := fnExactCountMatchesRow.holds Try.pinned (OpenSpec.ofChange fnExactCountMatchesWrong)

/-- 'laws.FnExactJournalOf': WHATEVER THE INPUT: true; the input reads as it did. -/
def fnExactJournalOfSpec : ChangeSpec := { name := "fnExactJournalOf", fn := fun _ => fun
  | [d1, d2] => { results := [.lit (.bool true)], args := [d1, d2] }
  | _ => none }
def fnExactJournalOfRow : OpenClaim := { program := "ytepfklcdpkpepaa", sum := "1955bdded2dadaa3bf64cd9dafd7cdf0214e4e61d21485c218ca7e106c15638a", func := "loop.example/g01984/laws.FnExactJournalOf", spec := "fnExactJournalOf", inPlace := ["slices.overlaps[loop.example/g01984/impl.Pivot]"], unfollowed := true, recurses := true, apart := false }
def FnExactJournalOfSaid : Prop := fnExactJournalOfRow.holds Try.pinned (OpenSpec.ofChange fnExactJournalOfSpec)

/-- ITS FALSE NEIGHBOUR: 'it returns false'. Refute it at one input. -/
def fnExactJournalOfWrong : ChangeSpec := { name := "fnExactJournalOf", fn := fun _ => fun
  | [d1, d2] => { results := [.lit (.bool false)], args := [d1, d2] }
  | _ => none }
def FnExactJournalOfWrongFalsely : Prop := fnExactJournalOfRow.holds Try.pinned (OpenSpec.ofChange fnExactJournalOfWrong)

/-- 'laws.FnExactWorkJournal': WHATEVER THE INPUT: true; the input reads as it did. -/
def fnExactWorkJournalSpec : ChangeSpec := { name := "fnExactWorkJournal", fn := fun _ => fun
  | [d1, d2] => { results := [.lit (.bool true)], args := [d1, d2] }
  | _ => none }
def fnExactWorkJournalRow : OpenClaim := { program := "ytepfklcdpkpepaa", sum := "1955bdded2dadaa3bf64cd9dafd7cdf0214e4e61d21485c218ca7e106c15638a", func := "loop.example/g01984/laws.FnExactWorkJournal", spec := "fnExactWorkJournal", inPlace := ["slices.overlaps[loop.example/g01984/impl.Pivot]"], unfollowed := true, recurses := true, apart := false }
def FnExactWorkJournalSaid : Prop := fnExactWorkJournalRow.holds Try.pinned (OpenSpec.ofChange fnExactWorkJournalSpec)

/-- ITS FALSE NEIGHBOUR: 'it returns false'. Refute it at one input. -/
def fnExactWorkJournalWrong : ChangeSpec := { name := "fnExactWorkJournal", fn := fun _ => fun
  | [d1, d2] => { results := [.lit (.bool false)], args := [d1, d2] }
  | _ => none }
def FnExactWorkJournalWrongFalsely : Prop := fnExactWorkJournalRow.holds Try.pinned (OpenSpec.ofChange fnExactWorkJournalWrong)

/-- 'laws.FnExactReplayJournal': WHATEVER THE INPUT: true; the input reads as it did. -/
def fnExactReplayJournalSpec : ChangeSpec := { name := "fnExactReplayJournal", fn := fun _ => fun
  | [d1, d2] => { results := [.lit (.bool true)], args := [d1, d2] }
  | _ => none }
def fnExactReplayJournalRow : OpenClaim := { program := "ytepfklcdpkpepaa", sum := "1955bdded2dadaa3bf64cd9dafd7cdf0214e4e61d21485c218ca7e106c15638a", func := "loop.example/g01984/laws.FnExactReplayJournal", spec := "fnExactReplayJournal", inPlace := ["slices.overlaps[loop.example/g01984/impl.Pivot]"], unfollowed := true, recurses := true, apart := false }
def FnExactReplayJournalSaid : Prop := fnExactReplayJournalRow.holds Try.pinned (OpenSpec.ofChange fnExactReplayJournalSpec)

/-- ITS FALSE NEIGHBOUR: 'it returns false'. Refute it at one input. -/
def fnExactReplayJournalWrong : ChangeSpec := { name := "fnExactReplayJournal", fn := fun _ => fun
  | [d1, d2] => { results := [.lit (.bool false)], args := [d1, d2] }
  | _ => none }
def FnExactReplayJournalWrongFalsely : Prop := fnExactReplayJournalRow.holds Try.pinned (OpenSpec.ofChange fnExactReplayJournalWrong)

/-- 'laws.FnExactCrashAfter': WHATEVER THE INPUT: true; the input reads as it did. -/
def fnExactCrashAfterSpec : ChangeSpec := { name := "fnExactCrashAfter", fn := fun _ => fun
  | [d1, d2, d3] => { results := [.lit (.bool true)], args := [d1, d2, d3] }
  | _ => none }
def fnExactCrashAfterRow : OpenClaim := { program := "ytepfklcdpkpepaa", sum := "1955bdded2dadaa3bf64cd9dafd7cdf0214e4e61d21485c218ca7e106c15638a", func := "loop.example/g01984/laws.FnExactCrashAfter", spec := "fnExactCrashAfter", inPlace := ["slices.overlaps[loop.example/g01984/impl.Pivot]"], unfollowed := true, recurses := true, apart := false }
def FnExactCrashAfterSaid : Prop := fnExactCrashAfterRow.holds Try.pinned (OpenSpec.ofChange fnExactCrashAfterSpec)

/-- ITS FALSE NEIGHBOUR: 'it returns false'. Refute it at one input. -/
def fnExactCrashAfterWrong : ChangeSpec := { name := "fnExactCrashAfter", fn := fun _ => fun
  | [d1, d2, d3] => { results := [.lit (.bool false)], args := [d1, d2, d3] }
  | _ => none }
def FnExactCrashAfterWrongFalsely : Prop := fnExactCrashAfterRow.holds Try.pinned (OpenSpec.ofChange fnExactCrashAfterWrong)

/-- 'laws.FnExactSemiJoin': WHATEVER THE INPUT: true; the input reads as it did. -/
def fnExactSemiJoinSpec : ChangeSpec := { name := "fnExactSemiJoin", fn := fun _ => fun
  | [d1, d2] => { results := [.lit (.bool true)], args := [d1, d2] }
  | _ => none }
def fnExactSemiJoinRow : OpenClaim := { program := "ytepfklcdpkpepaa", sum := "1955bdded2dadaa3bf64cd9dafd7cdf0214e4e61d21485c218ca7e106c15638a", func := "loop.example/g01984/laws.FnExactSemiJoin", spec := "fnExactSemiJoin", unfollowed := true, recurses := true, apart := false }
def FnExactSemiJoinSaid : Prop := fnExactSemiJoinRow.holds Try.pinned (OpenSpec.ofChange fnExactSemiJoinSpec)

/-- ITS FALSE NEIGHBOUR: 'it returns false'. Refute it at one input. -/
def fnExactSemiJoinWrong : ChangeSpec := { name := "fnExactSemiJoin", fn := fun _ => fun
  | [d1, d2] => { results := [.lit (.bool false)], args := [d1, d2] }
  | _ => none }
def FnExactSemiJoinWrongFalsely : Prop := fnExactSemiJoinRow.holds Try.pinned (OpenSpec.ofChange fnExactSemiJoinWrong)

/-- 'laws.FnExactScanJoin': WHATEVER THE INPUT: true; the input reads as it did. -/
def fnExactScanJoinSpec : ChangeSpec := { name := "fnExactScanJoin", fn := fun _ => fun
  | [d1, d2, d3] => { results := [.lit (.bool true)], args := [d1, d2, d3] }
  | _ => none }
def fnExactScanJoinRow : OpenClaim := { program := "ytepfklcdpkpepaa", sum := "1955bdded2dadaa3bf64cd9dafd7cdf0214e4e61d21485c218ca7e106c15638a", func := "loop.example/g01984/laws.FnExactScanJoin", spec := "fnExactScanJoin", unfollowed := true, recurses := true, apart := false }
def FnExactScanJoinSaid : Prop := fnExactScanJoinRow.holds Try.pinned (OpenSpec.ofChange fnExactScanJoinSpec)

/-- ITS FALSE NEIGHBOUR: 'it returns false'. Refute it at one input. -/
def fnExactScanJoinWrong : ChangeSpec := { name := "fnExactScanJoin", fn := fun _ => fun
  | [d1, d2, d3] => { results := [.lit (.bool false)], args := [d1, d2, d3] }
  | _ => none }
def FnExactScanJoinWrongFalsely : Prop := fnExactScanJoinRow.holds Try.pinned (OpenSpec.ofChange fnExactScanJoinWrong)

/- THE SECOND FORM. 'bulk': how many values and letters a reading holds, each counted each time it is reached (what is shared counts as often as it is met; a slice's spare places count too). A statement '..UptoSaid' is the law's where the arguments, and the package variables that the reading takes, are together of bulk at most 1048576: NARROWER than '..Said'. Prove '..Said' where nothing that the law and all that it calls make is longer than what came in: it says more and counts as full. Else prove '..UptoSaid'. A law counts once. -/
mutual
def uptoBulk {H : Type} : DataW H → Nat
  | .lit (.string bytes) => bytes.length + 1
  | .lit _ => 1
  | .nil => 1
  | .ptr d => uptoBulk d + 1
  | .slice elems spare => uptoBulkAll elems + uptoBulkAll spare + 1
  | .agg parts => uptoBulkAll parts + 1
  | .iface _ d => uptoBulk d + 1
  | .map entries => uptoBulkEntries entries + 1
  | .held _ => 1
def uptoBulkAll {H : Type} : List (DataW H) → Nat
  | [] => 0
  | d :: r => uptoBulk d + uptoBulkAll r
def uptoBulkEntries {H : Type} : List (Lit × DataW H) → Nat
  | [] => 0
  | x :: r => uptoBulkEntry x + uptoBulkEntries r
def uptoBulkEntry {H : Type} : Lit × DataW H → Nat
  | (.string bytes, d) => bytes.length + uptoBulk d + 1
  | (_, d) => uptoBulk d + 1
 end
def uptoSmall : (H : Type) → List (DataW H) → Bool := fun _ ds => decide (uptoBulkAll ds ≤ 1048576)
def OpenSpec.upto (s : _root_.Go.ChangeSpec) : _root_.Go.OpenSpec := { _root_.Go.OpenSpec.ofChange s with cond := some uptoSmall }

/-- 'laws.FnExactIsStore', WHERE WHAT IT READS IS OF BULK AT MOST 1048576: true; the input reads as it did. -/
def fnExactIsStoreUptoRow : OpenClaim := { program := "ytepfklcdpkpepaa", sum := "1955bdded2dadaa3bf64cd9dafd7cdf0214e4e61d21485c218ca7e106c15638a", func := "loop.example/g01984/laws.FnExactIsStore", spec := "fnExactIsStore", unfollowed := true, recurses := true, apart := false, narrowed := true }
def FnExactIsStoreUptoSaid : Prop := fnExactIsStoreUptoRow.holds Try.pinned (OpenSpec.upto fnExactIsStoreSpec)

/-- 'laws.FnExactDeleteValue', WHERE WHAT IT READS IS OF BULK AT MOST 1048576: true; the input reads as it did. -/
def fnExactDeleteValueUptoRow : OpenClaim := { program := "ytepfklcdpkpepaa", sum := "1955bdded2dadaa3bf64cd9dafd7cdf0214e4e61d21485c218ca7e106c15638a", func := "loop.example/g01984/laws.FnExactDeleteValue", spec := "fnExactDeleteValue", unfollowed := true, recurses := true, apart := false, narrowed := true }
def FnExactDeleteValueUptoSaid : Prop := fnExactDeleteValueUptoRow.holds Try.pinned (OpenSpec.upto fnExactDeleteValueSpec)

/-- 'laws.FnExactVacuumStore', WHERE WHAT IT READS IS OF BULK AT MOST 1048576: true; the input reads as it did. -/
def fnExactVacuumStoreUptoRow : OpenClaim := { program := "ytepfklcdpkpepaa", sum := "1955bdded2dadaa3bf64cd9dafd7cdf0214e4e61d21485c218ca7e106c15638a", func := "loop.example/g01984/laws.FnExactVacuumStore", spec := "fnExactVacuumStore", unfollowed := true, recurses := true, apart := false, narrowed := true }
def FnExactVacuumStoreUptoSaid : Prop := fnExactVacuumStoreUptoRow.holds Try.pinned (OpenSpec.upto fnExactVacuumStoreSpec)

/-- 'laws.FnExactInsertValue', WHERE WHAT IT READS IS OF BULK AT MOST 1048576: true; the input reads as it did. -/
def fnExactInsertValueUptoRow : OpenClaim := { program := "ytepfklcdpkpepaa", sum := "1955bdded2dadaa3bf64cd9dafd7cdf0214e4e61d21485c218ca7e106c15638a", func := "loop.example/g01984/laws.FnExactInsertValue", spec := "fnExactInsertValue", unfollowed := true, recurses := true, apart := false, narrowed := true }
def FnExactInsertValueUptoSaid : Prop := fnExactInsertValueUptoRow.holds Try.pinned (OpenSpec.upto fnExactInsertValueSpec)

/-- 'laws.FnExactHottestRange', WHERE WHAT IT READS IS OF BULK AT MOST 1048576: true; the input reads as it did. -/
def fnExactHottestRangeUptoRow : OpenClaim := { program := "ytepfklcdpkpepaa", sum := "1955bdded2dadaa3bf64cd9dafd7cdf0214e4e61d21485c218ca7e106c15638a", func := "loop.example/g01984/laws.FnExactHottestRange", spec := "fnExactHottestRange", unfollowed := true, recurses := true, apart := false, narrowed := true }
def FnExactHottestRangeUptoSaid : Prop := fnExactHottestRangeUptoRow.holds Try.pinned (OpenSpec.upto fnExactHottestRangeSpec)

/-- 'laws.FnExactCountMatches', WHERE WHAT IT READS IS OF BULK AT MOST 1048576: true; the input reads as it did. -/
def fnExactCountMatchesUptoRow : OpenClaim := { program := "ytepfklcdpkpepaa", sum := "1955bdded2dadaa3bf64cd9dafd7cdf0214e4e61d21485c218ca7e106c15638a", func := "loop.example/g01984/laws.FnExactCountMatches", spec := "fnExactCountMatches", unfollowed := true, recurses := true, apart := false, narrowed := true }
def FnExactCountMatchesUptoSaid : Prop := fnExactCountMatchesUptoRow.holds Try.pinned (OpenSpec.upto fnExactCountMatchesSpec)

/-- 'laws.FnExactJournalOf', WHERE WHAT IT READS IS OF BULK AT MOST 1048576: true; the input reads as it did. -/
def fnExactJournalOfUptoRow : OpenClaim := { program := "ytepfklcdpkpepaa", sum := "1955bdded2dadaa3bf64cd9dafd7cdf0214e4e61d21485c218ca7e106c15638a", func := "loop.example/g01984/laws.FnExactJournalOf", spec := "fnExactJournalOf", inPlace := ["slices.overlaps[loop.example/g01984/impl.Pivot]"], unfollowed := true, recurses := true, apart := false, narrowed := true }
def FnExactJournalOfUptoSaid : Prop := fnExactJournalOfUptoRow.holds Try.pinned (OpenSpec.upto fnExactJournalOfSpec)

/-- 'laws.FnExactWorkJournal', WHERE WHAT IT READS IS OF BULK AT MOST 1048576: true; the input reads as it did. -/
def fnExactWorkJournalUptoRow : OpenClaim := { program := "ytepfklcdpkpepaa", sum := "1955bdded2dadaa3bf64cd9dafd7cdf0214e4e61d21485c218ca7e106c15638a", func := "loop.example/g01984/laws.FnExactWorkJournal", spec := "fnExactWorkJournal", inPlace := ["slices.overlaps[loop.example/g01984/impl.Pivot]"], unfollowed := true, recurses := true, apart := false, narrowed := true }
def FnExactWorkJournalUptoSaid : Prop := fnExactWorkJournalUptoRow.holds Try.pinned (OpenSpec.upto fnExactWorkJournalSpec)

/-- 'laws.FnExactReplayJournal', WHERE WHAT IT READS IS OF BULK AT MOST 1048576: true; the input reads as it did. -/
def fnExactReplayJournalUptoRow : OpenClaim := { program := "ytepfklcdpkpepaa", sum := "1955bdded2dadaa3bf64cd9dafd7cdf0214e4e61d21485c218ca7e106c15638a", func := "loop.example/g01984/laws.FnExactReplayJournal", spec := "fnExactReplayJournal", inPlace := ["slices.overlaps[loop.example/g01984/impl.Pivot]"], unfollowed := true, recurses := true, apart := false, narrowed := true }
def FnExactReplayJournalUptoSaid : Prop := fnExactReplayJournalUptoRow.holds Try.pinned (OpenSpec.upto fnExactReplayJournalSpec)

/-- 'laws.FnExactCrashAfter', WHERE WHAT IT READS IS OF BULK AT MOST 1048576: true; the input reads as it did. -/
def fnExactCrashAfterUptoRow : OpenClaim := { program := "ytepfklcdpkpepaa", sum := "1955bdded2dadaa3bf64cd9dafd7cdf0214e4e61d21485c218ca7e106c15638a", func := "loop.example/g01984/laws.FnExactCrashAfter", spec := "fnExactCrashAfter", inPlace := ["slices.overlaps[loop.example/g01984/impl.Pivot]"], unfollowed := true, recurses := true, apart := false, narrowed := true }
def FnExactCrashAfterUptoSaid : Prop := fnExactCrashAfterUptoRow.holds Try.pinned (OpenSpec.upto fnExactCrashAfterSpec)

/-- 'laws.FnExactSemiJoin', WHERE WHAT IT READS IS OF BULK AT MOST 1048576: true; the input reads as it did. -/
def fnExactSemiJoinUptoRow : OpenClaim := { program := "ytepfklcdpkpepaa", sum := "1955bdded2dadaa3bf64cd9dafd7cdf0214e4e61d21485c218ca7e106c15638a", func := "loop.example/g01984/laws.FnExactSemiJoin", spec := "fnExactSemiJoin", unfollowed := true, recurses := true, apart := false, narrowed := true }
def FnExactSemiJoinUptoSaid : Prop := fnExactSemiJoinUptoRow.holds Try.pinned (OpenSpec.upto fnExactSemiJoinSpec)

/-- 'laws.FnExactScanJoin', WHERE WHAT IT READS IS OF BULK AT MOST 1048576: true; the input reads as it did. -/
def fnExactScanJoinUptoRow : OpenClaim := { program := "ytepfklcdpkpepaa", sum := "1955bdded2dadaa3bf64cd9dafd7cdf0214e4e61d21485c218ca7e106c15638a", func := "loop.example/g01984/laws.FnExactScanJoin", spec := "fnExactScanJoin", unfollowed := true, recurses := true, apart := false, narrowed := true }
def FnExactScanJoinUptoSaid : Prop := fnExactScanJoinUptoRow.holds Try.pinned (OpenSpec.upto fnExactScanJoinSpec)

end Rows
end Go.Proofs.Ytepfklcdpkpepaa
