/-
  No cell of these rows narrows 'for every input' (looked for: loops, veiled, ifaces, maps, wideKeys, modest, calm, conditions, laid).
  DERIVED. THE GIVEN ROWS OF THIS SEAT. 3 by the template 'for every input the law returns true; each argument reads behind the call as it read before'; 0 by the template 'total and deterministic' (their statements: YtbmfgibbjchijaaGreatTotals.lean).
  GIVEN WITH THE SEED: the statements are not yours to turn. If you find one false, say at which input.
  Laid BY PROGRAM, IN A SANDBOX (cutbox-rows.mjs): the forced cells as the released guide's own fill.sh prints them over the translation 39772af39af623bb… (all of the seat's roots in one cut). By AI agents, Wed Nov 11 2026. No macro, syntax, notation, axiom, sorry.
-/
import Derived.Test.YtbmfgibbjchijaaGreatChecked
import GoSem.Claim
import GoSem.ClaimJoined
import GoSem.ClaimMapViews
import Derived.JoinedTies
import Derived.KernelRfl
namespace Go.Proofs.YtbmfgibbjchijaaGreat
/- THE CELL 'sum', in the pinned program and in every row, IS THE sha256 OF THE DUMP (.gsa) THAT YtbmfgibbjchijaaGreatProg.lean LOADS. Nothing in Lean hashes anything: it is a label: what it is worth is what the hold of that sum in a sandbox is worth. -/
noncomputable def Tryz.pinned : Pinned := { name := "ytbmfgibbjchijaagreat", sum := "39772af39af623bb355f8728c049cfcb06cc4aa63ee435bb4c55b40ecea2c6fe", checked := Tryz.checked }
namespace Rows
def none {H : Type} : Left H := { results := [], args := [] }

/-- 'laws.FnVersions': WHATEVER THE INPUT: true; the input reads as it did. -/
def fnVersionsSpec : ChangeSpec := { name := "fnVersions", fn := fun _ => fun
  | [d] => { results := [.lit (.bool true)], args := [d] }
  | _ => none }
def fnVersionsRow : OpenClaim := { program := "ytbmfgibbjchijaagreat", sum := "39772af39af623bb355f8728c049cfcb06cc4aa63ee435bb4c55b40ecea2c6fe", func := "loop.example/g01984/laws.FnVersions", spec := "fnVersions", inPlace := ["slices.overlaps[loop.example/g01984/impl.Pivot]"], unfollowed := true, recurses := true, apart := false }
def FnVersionsSaid : Prop := fnVersionsRow.holds Tryz.pinned (OpenSpec.ofChange fnVersionsSpec)

/-- ITS FALSE NEIGHBOUR: 'it returns false'. Refute it at one input. -/
def fnVersionsWrong : ChangeSpec := { name := "fnVersions", fn := fun _ => fun
  | [d] => { results := [.lit (.bool false)], args := [d] }
  | _ => none }
def FnVersionsWrongFalsely : Prop := fnVersionsRow.holds Tryz.pinned (OpenSpec.ofChange fnVersionsWrong)

/-- 'laws.FnJoins': WHATEVER THE INPUT: true; the input reads as it did. -/
def fnJoinsSpec : ChangeSpec := { name := "fnJoins", fn := fun _ => fun
  | [d] => { results := [.lit (.bool true)], args := [d] }
  | _ => none }
def fnJoinsRow : OpenClaim := { program := "ytbmfgibbjchijaagreat", sum := "39772af39af623bb355f8728c049cfcb06cc4aa63ee435bb4c55b40ecea2c6fe", func := "loop.example/g01984/laws.FnJoins", spec := "fnJoins", inPlace := ["slices.overlaps[loop.example/g01984/impl.Pivot]"], unfollowed := true, recurses := true, apart := false }
def FnJoinsSaid : Prop := fnJoinsRow.holds Tryz.pinned (OpenSpec.ofChange fnJoinsSpec)

/-- ITS FALSE NEIGHBOUR: 'it returns false'. Refute it at one input. -/
def fnJoinsWrong : ChangeSpec := { name := "fnJoins", fn := fun _ => fun
  | [d] => { results := [.lit (.bool false)], args := [d] }
  | _ => none }
def FnJoinsWrongFalsely : Prop := fnJoinsRow.holds Tryz.pinned (OpenSpec.ofChange fnJoinsWrong)

/-- 'laws.FnHeat': WHATEVER THE INPUT: true; the input reads as it did. -/
def fnHeatSpec : ChangeSpec := { name := "fnHeat", fn := fun _ => fun
  | [d] => { results := [.lit (.bool true)], args := [d] }
  | _ => none }
def fnHeatRow : OpenClaim := { program := "ytbmfgibbjchijaagreat", sum := "39772af39af623bb355f8728c049cfcb06cc4aa63ee435bb4c55b40ecea2c6fe", func := "loop.example/g01984/laws.FnHeat", spec := "fnHeat", inPlace := ["slices.overlaps[loop.example/g01984/impl.Pivot]"], unfollowed := true, recurses := true, apart := false }
def FnHeatSaid : Prop := fnHeatRow.holds Tryz.pinned (OpenSpec.ofChange fnHeatSpec)

/-- ITS FALSE NEIGHBOUR: 'it returns false'. Refute it at one input. -/
def fnHeatWrong : ChangeSpec := { name := "fnHeat", fn := fun _ => fun
  | [d] => { results := [.lit (.bool false)], args := [d] }
  | _ => none }
def FnHeatWrongFalsely : Prop := fnHeatRow.holds Tryz.pinned (OpenSpec.ofChange fnHeatWrong)

/- THE SECOND FORM. 'bulk': how many values and letters a reading holds, each counted each time it is reached (what is shared counts as often as it is met; a slice's spare places count too). A statement '..UptoSaid' is the law's where the arguments, and the package variables that the reading takes, are together of bulk at most 1048576: NARROWER than '..Said'. Prove '..Said' where nothing that the law and all that it calls make is longer than what came in: it says more and counts as full. Else prove '..UptoSaid'. A law counts once. -/
mutual
def uptoBulk {H : Type} : DataW H → Nat
  | .lit (.string bytes) => bytes.length + 1
  | .lit _ => 1
  | .nil => 1
  | .ptr d => uptoBulk d + 1
  | .slice elems spare => uptoBulkAll elems + uptoBulkAll spare + 1
  | .agg parts => uptoBulkAll parts + 1
  | .iface _ d => uptoBulk d + 1
  | .map entries => uptoBulkEntries entries + 1
  | .held _ => 1
def uptoBulkAll {H : Type} : List (DataW H) → Nat
  | [] => 0
  | d :: r => uptoBulk d + uptoBulkAll r
def uptoBulkEntries {H : Type} : List (Lit × DataW H) → Nat
  | [] => 0
  | x :: r => uptoBulkEntry x + uptoBulkEntries r
def uptoBulkEntry {H : Type} : Lit × DataW H → Nat
  | (.string bytes, d) => bytes.length + uptoBulk d + 1
  | (_, d) => uptoBulk d + 1
 end
def uptoSmall : (H : Type) → List (DataW H) → Bool := fun _ ds => decide (uptoBulkAll ds ≤ 1048576)
def OpenSpec.upto (s : _root_.Go.ChangeSpec) : _root_.Go.OpenSpec := { _root_.Go.OpenSpec.ofChange s with cond := some uptoSmall }

/-- 'laws.FnVersions', WHERE WHAT IT READS IS OF BULK AT MOST 1048576: true; the input reads as it did. -/
def fnVersionsUptoRow : OpenClaim := { program := "ytbmfgibbjchijaagreat", sum := "39772af39af623bb355f8728c049cfcb06cc4aa63ee435bb4c55b40ecea2c6fe", func := "loop.example/g01984/laws.FnVersions", spec := "fnVersions", inPlace := ["slices.overlaps[loop.example/g01984/impl.Pivot]"], unfollowed := true, recurses := true, apart := false, narrowed := true }
def FnVersionsUptoSaid : Prop := fnVersionsUptoRow.holds Tryz.pinned (OpenSpec.upto fnVersionsSpec)

/-- 'laws.FnJoins', WHERE WHAT IT READS IS OF BULK AT MOST 1048576: true; the input reads as it did. -/
def fnJoinsUptoRow : OpenClaim := { program := "ytbmfgibbjchijaagreat", sum := "39772af39af623bb355f8728c049cfcb06cc4aa63ee435bb4c55b40ecea2c6fe", func := "loop.example/g01984/laws.FnJoins", spec := "fnJoins", inPlace := ["slices.overlaps[loop.example/g01984/impl.Pivot]"], unfollowed := true, recurses := true, apart := false, narrowed := true }
def FnJoinsUptoSaid : Prop := fnJoinsUptoRow.holds Tryz.pinned (OpenSpec.upto fnJoinsSpec)

/-- 'laws.FnHeat', WHERE WHAT IT READS IS OF BULK AT MOST 1048576: true; the input reads as it did. -/
def fnHeatUptoRow : OpenClaim := { program := "ytbmfgibbjchijaagreat", sum := "39772af39af623bb355f8728c049cfcb06cc4aa63ee435bb4c55b40ecea2c6fe", func := "loop.example/g01984/laws.FnHeat", spec := "fnHeat", inPlace := ["slices.overlaps[loop.example/g01984/impl.Pivot]"], unfollowed := true, recurses := true, apart := false, narrowed := true }
def FnHeatUptoSaid : Prop := fnHeatUptoRow.holds Tryz.pinned (OpenSpec.upto fnHeatSpec)

end Rows
end Go.Proofs.YtbmfgibbjchijaaGreat
