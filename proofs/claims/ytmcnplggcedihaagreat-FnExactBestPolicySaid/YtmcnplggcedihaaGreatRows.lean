/-
  No cell of these rows narrows 'for every input' (looked for: loops, veiled, ifaces, maps, wideKeys, modest, calm, conditions, laid).
  DERIVED. THE GIVEN ROWS OF THIS SEAT. 4 by the template 'for every input the law returns true; each argument reads behind the call as it read before'; 0 by the template 'total and deterministic' (their statements: YtmcnplggcedihaaGreatTotals.lean).
  GIVEN WITH THE SEED: the statements are not yours to turn. If you find one false, say at which input.
  Laid BY PROGRAM, IN A SANDBOX (cutbox-rows.mjs): the forced cells as the released guide's own fill.sh prints them over the translation e01cd6d66a41a2d4… (all of the seat's roots in one cut). By AI agents, Wed Nov 11 2026. No macro, syntax, notation, axiom, sorry.
-/
import Derived.Test.YtmcnplggcedihaaGreatChecked
import GoSem.Claim
import GoSem.ClaimJoined
import GoSem.ClaimMapViews
import Derived.JoinedTies
import Derived.KernelRfl
namespace Go.Proofs.YtmcnplggcedihaaGreat
/- THE CELL 'sum', in the pinned program and in every row, IS THE sha256 OF THE DUMP (.gsa) THAT YtmcnplggcedihaaGreatProg.lean LOADS. Nothing in Lean hashes anything: it is a label: what it is worth is what the hold of that sum in a sandbox is worth. -/
noncomputable def Tryz.pinned : Pinned := { name := "ytmcnplggcedihaagreat", sum := "e01cd6d66a41a2d45d70c19940735f333dda5af0ec3fedd7d4083d4ec72d558d", checked := Tryz.checked }
namespace Rows
def none {H : Type} : Left H := { results := [], args := [] }

/-- 'laws.FnExactAdviseThreshold': WHATEVER THE INPUT: true; the input reads as it did. -/
def fnExactAdviseThresholdSpec : ChangeSpec := { name := "fnExactAdviseThreshold", fn := fun _ => fun
  | [d1, d2, d3] => { results := [.lit (.bool true)], args := [d1, d2, d3] }
  | _ => none }
def fnExactAdviseThresholdRow : OpenClaim := { program := "ytmcnplggcedihaagreat", sum := "e01cd6d66a41a2d45d70c19940735f333dda5af0ec3fedd7d4083d4ec72d558d", func := "loop.example/g01984/laws.FnExactAdviseThreshold", spec := "fnExactAdviseThreshold", inPlace := ["slices.overlaps[loop.example/g01984/impl.Pivot]"], unfollowed := true, recurses := true, apart := false }
def FnExactAdviseThresholdSaid : Prop := fnExactAdviseThresholdRow.holds Tryz.pinned (OpenSpec.ofChange fnExactAdviseThresholdSpec)

/-- ITS FALSE NEIGHBOUR: 'it returns false'. Refute it at one input. -/
def fnExactAdviseThresholdWrong : ChangeSpec := { name := "fnExactAdviseThreshold", fn := fun _ => fun
  | [d1, d2, d3] => { results := [.lit (.bool false)], args := [d1, d2, d3] }
  | _ => none }
def FnExactAdviseThresholdWrongFalsely : Prop := fnExactAdviseThresholdRow.holds Tryz.pinned (OpenSpec.ofChange fnExactAdviseThresholdWrong)

/-- 'laws.FnExactOutcomeOf': WHATEVER THE INPUT: true; the input reads as it did. -/
def fnExactOutcomeOfSpec : ChangeSpec := { name := "fnExactOutcomeOf", fn := fun _ => fun
  | [d1, d2, d3] => { results := [.lit (.bool true)], args := [d1, d2, d3] }
  | _ => none }
def fnExactOutcomeOfRow : OpenClaim := { program := "ytmcnplggcedihaagreat", sum := "e01cd6d66a41a2d45d70c19940735f333dda5af0ec3fedd7d4083d4ec72d558d", func := "loop.example/g01984/laws.FnExactOutcomeOf", spec := "fnExactOutcomeOf", inPlace := ["slices.overlaps[loop.example/g01984/impl.Pivot]"], unfollowed := true, recurses := true, apart := false }
def FnExactOutcomeOfSaid : Prop := fnExactOutcomeOfRow.holds Tryz.pinned (OpenSpec.ofChange fnExactOutcomeOfSpec)

/-- ITS FALSE NEIGHBOUR: 'it returns false'. Refute it at one input. -/
def fnExactOutcomeOfWrong : ChangeSpec := { name := "fnExactOutcomeOf", fn := fun _ => fun
  | [d1, d2, d3] => { results := [.lit (.bool false)], args := [d1, d2, d3] }
  | _ => none }
def FnExactOutcomeOfWrongFalsely : Prop := fnExactOutcomeOfRow.holds Tryz.pinned (OpenSpec.ofChange fnExactOutcomeOfWrong)

/-- 'laws.FnExactBestPolicy': WHATEVER THE INPUT: true; the input reads as it did. -/
def fnExactBestPolicySpec : ChangeSpec := { name := "fnExactBestPolicy", fn := fun _ => fun
  | [d1, d2, d3, d4] => { results := [.lit (.bool true)], args := [d1, d2, d3, d4] }
  | _ => none }
def fnExactBestPolicyRow : OpenClaim := { program := "ytmcnplggcedihaagreat", sum := "e01cd6d66a41a2d45d70c19940735f333dda5af0ec3fedd7d4083d4ec72d558d", func := "loop.example/g01984/laws.FnExactBestPolicy", spec := "fnExactBestPolicy", inPlace := ["slices.overlaps[loop.example/g01984/impl.Pivot]"], unfollowed := true, recurses := true, apart := false }
def FnExactBestPolicySaid : Prop := fnExactBestPolicyRow.holds Tryz.pinned (OpenSpec.ofChange fnExactBestPolicySpec)

/-- ITS FALSE NEIGHBOUR: 'it returns false'. Refute it at one input. -/
def fnExactBestPolicyWrong : ChangeSpec := { name := "fnExactBestPolicy", fn := fun _ => fun
  | [d1, d2, d3, d4] => { results := [.lit (.bool false)], args := [d1, d2, d3, d4] }
  | _ => none }
def FnExactBestPolicyWrongFalsely : Prop := fnExactBestPolicyRow.holds Tryz.pinned (OpenSpec.ofChange fnExactBestPolicyWrong)

/-- 'laws.FnExactComparePolicies': WHATEVER THE INPUT: true; the input reads as it did. -/
def fnExactComparePoliciesSpec : ChangeSpec := { name := "fnExactComparePolicies", fn := fun _ => fun
  | [d1, d2, d3, d4] => { results := [.lit (.bool true)], args := [d1, d2, d3, d4] }
  | _ => none }
def fnExactComparePoliciesRow : OpenClaim := { program := "ytmcnplggcedihaagreat", sum := "e01cd6d66a41a2d45d70c19940735f333dda5af0ec3fedd7d4083d4ec72d558d", func := "loop.example/g01984/laws.FnExactComparePolicies", spec := "fnExactComparePolicies", inPlace := ["slices.overlaps[loop.example/g01984/impl.Pivot]"], unfollowed := true, recurses := true, apart := false }
def FnExactComparePoliciesSaid : Prop := fnExactComparePoliciesRow.holds Tryz.pinned (OpenSpec.ofChange fnExactComparePoliciesSpec)

/-- ITS FALSE NEIGHBOUR: 'it returns false'. Refute it at one input. -/
def fnExactComparePoliciesWrong : ChangeSpec := { name := "fnExactComparePolicies", fn := fun _ => fun
  | [d1, d2, d3, d4] => { results := [.lit (.bool false)], args := [d1, d2, d3, d4] }
  | _ => none }
def FnExactComparePoliciesWrongFalsely : Prop := fnExactComparePoliciesRow.holds Tryz.pinned (OpenSpec.ofChange fnExactComparePoliciesWrong)

/- THE SECOND FORM. 'bulk': how many values and letters a reading holds, each counted each time it is reached (what is shared counts as often as it is met; a slice's spare places count too). A statement '..UptoSaid' is the law's where the arguments, and the package variables that the reading takes, are together of bulk at most 1048576: NARROWER than '..Said'. Prove '..Said' where nothing that the law and all that it calls make is longer than what came in: it says more and counts as full. Else prove '..UptoSaid'. A law counts once. -/
mutual
def uptoBulk {H : Type} : DataW H → Nat
  | .lit (.string bytes) => bytes.length + 1
  | .lit _ => 1
  | .nil => 1
  | .ptr d => uptoBulk d + 1
  | .slice elems spare => uptoBulkAll elems + uptoBulkAll spare + 1
  | .agg parts => uptoBulkAll parts + 1
  | .iface _ d => uptoBulk d + 1
  | .map entries => uptoBulkEntries entries + 1
  | .held _ => 1
def uptoBulkAll {H : Type} : List (DataW H) → Nat
  | [] => 0
  | d :: r => uptoBulk d + uptoBulkAll r
def uptoBulkEntries {H : Type} : List (Lit × DataW H) → Nat
  | [] => 0
  | x :: r => uptoBulkEntry x + uptoBulkEntries r
def uptoBulkEntry {H : Type} : Lit × DataW H → Nat
  | (.string bytes, d) => bytes.length + uptoBulk d + 1
  | (_, d) => uptoBulk d + 1
 end
def uptoSmall : (H : Type) → List (DataW H) → Bool := fun _ ds => decide (uptoBulkAll ds ≤ 1048576)
def OpenSpec.upto (s : _root_.Go.ChangeSpec) : _root_.Go.OpenSpec := { _root_.Go.OpenSpec.ofChange s with cond := some uptoSmall }

/-- 'laws.FnExactAdviseThreshold', WHERE WHAT IT READS IS OF BULK AT MOST 1048576: true; the input reads as it did. -/
def fnExactAdviseThresholdUptoRow : OpenClaim := { program := "ytmcnplggcedihaagreat", sum := "e01cd6d66a41a2d45d70c19940735f333dda5af0ec3fedd7d4083d4ec72d558d", func := "loop.example/g01984/laws.FnExactAdviseThreshold", spec := "fnExactAdviseThreshold", inPlace := ["slices.overlaps[loop.example/g01984/impl.Pivot]"], unfollowed := true, recurses := true, apart := false, narrowed := true }
def FnExactAdviseThresholdUptoSaid : Prop := fnExactAdviseThresholdUptoRow.holds Tryz.pinned (OpenSpec.upto fnExactAdviseThresholdSpec)

/-- 'laws.FnExactOutcomeOf', WHERE WHAT IT READS IS OF BULK AT MOST 1048576: true; the input reads as it did. -/
def fnExactOutcomeOfUptoRow : OpenClaim := { program := "ytmcnplggcedihaagreat", sum := "e01cd6d66a41a2d45d70c19940735f333dda5af0ec3fedd7d4083d4ec72d558d", func := "loop.example/g01984/laws.FnExactOutcomeOf", spec := "fnExactOutcomeOf", inPlace := ["slices.overlaps[loop.example/g01984/impl.Pivot]"], unfollowed := true, recurses := true, apart := false, narrowed := true }
def FnExactOutcomeOfUptoSaid : Prop := fnExactOutcomeOfUptoRow.holds Tryz.pinned (OpenSpec.upto fnExactOutcomeOfSpec)

/-- 'laws.FnExactBestPolicy', WHERE WHAT IT READS IS OF BULK AT MOST 1048576: true; the input reads as it did. -/
def fnExactBestPolicyUptoRow : OpenClaim := { program := "ytmcnplggcedihaagreat", sum := "e01cd6d66a41a2d45d70c19940735f333dda5af0ec3fedd7d4083d4ec72d558d", func := "loop.example/g01984/laws.FnExactBestPolicy", spec := "fnExactBestPolicy", inPlace := ["slices.overlaps[loop.example/g01984/impl.Pivot]"], unfollowed := true, recurses := true, apart := false, narrowed := true }
def FnExactBestPolicyUptoSaid : Prop := fnExactBestPolicyUptoRow.holds Tryz.pinned (OpenSpec.upto fnExactBestPolicySpec)

/-- 'laws.FnExactComparePolicies', WHERE WHAT IT READS IS OF BULK AT MOST 1048576: true; the input reads as it did. -/
def fnExactComparePoliciesUptoRow : OpenClaim := { program := "ytmcnplggcedihaagreat", sum := "e01cd6d66a41a2d45d70c19940735f333dda5af0ec3fedd7d4083d4ec72d558d", func := "loop.example/g01984/laws.FnExactComparePolicies", spec := "fnExactComparePolicies", inPlace := ["slices.overlaps[loop.example/g01984/impl.Pivot]"], unfollowed := true, recurses := true, apart := false, narrowed := true }
def FnExactComparePoliciesUptoSaid : Prop := fnExactComparePoliciesUptoRow.holds Tryz.pinned (OpenSpec.upto fnExactComparePoliciesSpec)

end Rows
end Go.Proofs.YtmcnplggcedihaaGreat
