/-
  DERIVED. GIVEN WITH THE SEED: THE CARDS: each row of YtiokajbmckcklaaDoorRows.lean that lists a variable, with what it lists TIED to the program's text (the seventh form; the later family's looks); each row that meets fmt, with fmt's text TOLD by the authors' own Lean function (tested against real Go, not proved from fmt's source: count such statements apart). THE CARD IS WHAT COUNTS. Prove the row's statement (the work); the ties are given (YtiokajbmckcklaaDoorTie.lean); close each card by the builder's one call (the guide's Derived/Test/ToyasCard.lean, 'card_holds'). Laid BY PROGRAM, IN A SANDBOX (cutbox-door.mjs). By AI agents, Wed Nov 11 2026. No macro, syntax, notation, axiom, sorry.
-/
import Derived.Test.YtiokajbmckcklaaDoorRows
import GoSem.ClaimSeven
namespace Go.Proofs.YtiokajbmckcklaaDoor
namespace Rows

/-- THE TIED CARD OF 'laws.FnExactFormatEntry'. -/
def fnExactFormatEntryCard : Claim7 := { stood := { row := fnExactFormatEntryRow, standIns := [], harness := (true, "f6ecfee98da4c5270ed3ddd9d87593f908d4031af645f1974e8a0077e2520bc0"), looks := false }, kinds := [], alts := [], laidByText := true, laidKinds := [.data, .data, .data], laidTests := true, laidLooks := .later }
def FnExactFormatEntryCardSaid : Prop := Claim7.holds Tryd.pinned (.plain (OpenSpec.ofChange fnExactFormatEntrySpec)) fnExactFormatEntryCard

/-- THE TIED CARD OF 'laws.FnExactCostLine'. -/
def fnExactCostLineCard : Claim7 := { stood := { row := fnExactCostLineRow, standIns := [], harness := (true, "f6ecfee98da4c5270ed3ddd9d87593f908d4031af645f1974e8a0077e2520bc0"), looks := false }, kinds := [], alts := [], laidByText := true, laidKinds := [.data, .data, .data], laidTests := true, laidLooks := .later }
def FnExactCostLineCardSaid : Prop := Claim7.holds Tryd.pinned (.plain (OpenSpec.ofChange fnExactCostLineSpec)) fnExactCostLineCard

/-- THE TIED CARD OF 'laws.FnExactFormatOutcome'. -/
def fnExactFormatOutcomeCard : Claim7 := { stood := { row := fnExactFormatOutcomeRow, standIns := [], harness := (true, "f6ecfee98da4c5270ed3ddd9d87593f908d4031af645f1974e8a0077e2520bc0"), looks := false }, kinds := [], alts := [], laidByText := true, laidKinds := [.data, .data, .data], laidTests := true, laidLooks := .later }
def FnExactFormatOutcomeCardSaid : Prop := Claim7.holds Tryd.pinned (.plain (OpenSpec.ofChange fnExactFormatOutcomeSpec)) fnExactFormatOutcomeCard

/-- THE TIED CARD OF 'laws.FnExactFormatWorkload'. -/
def fnExactFormatWorkloadCard : Claim7 := { stood := { row := fnExactFormatWorkloadRow, standIns := [], harness := (true, "f6ecfee98da4c5270ed3ddd9d87593f908d4031af645f1974e8a0077e2520bc0"), looks := false }, kinds := [], alts := [], laidByText := true, laidKinds := [.data, .data, .data], laidTests := true, laidLooks := .later }
def FnExactFormatWorkloadCardSaid : Prop := Claim7.holds Tryd.pinned (.plain (OpenSpec.ofChange fnExactFormatWorkloadSpec)) fnExactFormatWorkloadCard

/-- THE TIED CARD OF 'laws.FnExactLedgerLines'. -/
def fnExactLedgerLinesCard : Claim7 := { stood := { row := fnExactLedgerLinesRow, standIns := [], harness := (true, "f6ecfee98da4c5270ed3ddd9d87593f908d4031af645f1974e8a0077e2520bc0"), looks := false }, kinds := [], alts := [], laidByText := true, laidKinds := [.data, .data, .data], laidTests := true, laidLooks := .later }
def FnExactLedgerLinesCardSaid : Prop := Claim7.holds Tryd.pinned (.plain (OpenSpec.ofChange fnExactLedgerLinesSpec)) fnExactLedgerLinesCard

/-- THE TIED CARD OF 'laws.FnExactPivotLine'. -/
def fnExactPivotLineCard : Claim7 := { stood := { row := fnExactPivotLineRow, standIns := [], harness := (true, "f6ecfee98da4c5270ed3ddd9d87593f908d4031af645f1974e8a0077e2520bc0"), looks := false }, kinds := [], alts := [], laidByText := true, laidKinds := [.data, .data, .data], laidTests := true, laidLooks := .later }
def FnExactPivotLineCardSaid : Prop := Claim7.holds Tryd.pinned (.plain (OpenSpec.ofChange fnExactPivotLineSpec)) fnExactPivotLineCard

/-- THE TIED CARD OF 'laws.FnExactPieceLines'. -/
def fnExactPieceLinesCard : Claim7 := { stood := { row := fnExactPieceLinesRow, standIns := [], harness := (true, "f6ecfee98da4c5270ed3ddd9d87593f908d4031af645f1974e8a0077e2520bc0"), looks := false }, kinds := [], alts := [], laidByText := true, laidKinds := [.data, .data, .data], laidTests := true, laidLooks := .later }
def FnExactPieceLinesCardSaid : Prop := Claim7.holds Tryd.pinned (.plain (OpenSpec.ofChange fnExactPieceLinesSpec)) fnExactPieceLinesCard

/-- THE SECOND FORM's CARD OF 'laws.FnExactFormatEntry'. -/
def fnExactFormatEntryUptoCard : Claim7 := { stood := { row := fnExactFormatEntryUptoRow, standIns := [], harness := (true, "f6ecfee98da4c5270ed3ddd9d87593f908d4031af645f1974e8a0077e2520bc0"), looks := false }, kinds := [], alts := [], laidByText := true, laidKinds := [.data, .data, .data], laidTests := true, laidLooks := .later }
def FnExactFormatEntryUptoCardSaid : Prop := Claim7.holds Tryd.pinned (.plain (OpenSpec.upto fnExactFormatEntrySpec)) fnExactFormatEntryUptoCard

/-- THE SECOND FORM's CARD OF 'laws.FnExactCostLine'. -/
def fnExactCostLineUptoCard : Claim7 := { stood := { row := fnExactCostLineUptoRow, standIns := [], harness := (true, "f6ecfee98da4c5270ed3ddd9d87593f908d4031af645f1974e8a0077e2520bc0"), looks := false }, kinds := [], alts := [], laidByText := true, laidKinds := [.data, .data, .data], laidTests := true, laidLooks := .later }
def FnExactCostLineUptoCardSaid : Prop := Claim7.holds Tryd.pinned (.plain (OpenSpec.upto fnExactCostLineSpec)) fnExactCostLineUptoCard

/-- THE SECOND FORM's CARD OF 'laws.FnExactFormatOutcome'. -/
def fnExactFormatOutcomeUptoCard : Claim7 := { stood := { row := fnExactFormatOutcomeUptoRow, standIns := [], harness := (true, "f6ecfee98da4c5270ed3ddd9d87593f908d4031af645f1974e8a0077e2520bc0"), looks := false }, kinds := [], alts := [], laidByText := true, laidKinds := [.data, .data, .data], laidTests := true, laidLooks := .later }
def FnExactFormatOutcomeUptoCardSaid : Prop := Claim7.holds Tryd.pinned (.plain (OpenSpec.upto fnExactFormatOutcomeSpec)) fnExactFormatOutcomeUptoCard

/-- THE SECOND FORM's CARD OF 'laws.FnExactFormatWorkload'. -/
def fnExactFormatWorkloadUptoCard : Claim7 := { stood := { row := fnExactFormatWorkloadUptoRow, standIns := [], harness := (true, "f6ecfee98da4c5270ed3ddd9d87593f908d4031af645f1974e8a0077e2520bc0"), looks := false }, kinds := [], alts := [], laidByText := true, laidKinds := [.data, .data, .data], laidTests := true, laidLooks := .later }
def FnExactFormatWorkloadUptoCardSaid : Prop := Claim7.holds Tryd.pinned (.plain (OpenSpec.upto fnExactFormatWorkloadSpec)) fnExactFormatWorkloadUptoCard

/-- THE SECOND FORM's CARD OF 'laws.FnExactLedgerLines'. -/
def fnExactLedgerLinesUptoCard : Claim7 := { stood := { row := fnExactLedgerLinesUptoRow, standIns := [], harness := (true, "f6ecfee98da4c5270ed3ddd9d87593f908d4031af645f1974e8a0077e2520bc0"), looks := false }, kinds := [], alts := [], laidByText := true, laidKinds := [.data, .data, .data], laidTests := true, laidLooks := .later }
def FnExactLedgerLinesUptoCardSaid : Prop := Claim7.holds Tryd.pinned (.plain (OpenSpec.upto fnExactLedgerLinesSpec)) fnExactLedgerLinesUptoCard

/-- THE SECOND FORM's CARD OF 'laws.FnExactPivotLine'. -/
def fnExactPivotLineUptoCard : Claim7 := { stood := { row := fnExactPivotLineUptoRow, standIns := [], harness := (true, "f6ecfee98da4c5270ed3ddd9d87593f908d4031af645f1974e8a0077e2520bc0"), looks := false }, kinds := [], alts := [], laidByText := true, laidKinds := [.data, .data, .data], laidTests := true, laidLooks := .later }
def FnExactPivotLineUptoCardSaid : Prop := Claim7.holds Tryd.pinned (.plain (OpenSpec.upto fnExactPivotLineSpec)) fnExactPivotLineUptoCard

/-- THE SECOND FORM's CARD OF 'laws.FnExactPieceLines'. -/
def fnExactPieceLinesUptoCard : Claim7 := { stood := { row := fnExactPieceLinesUptoRow, standIns := [], harness := (true, "f6ecfee98da4c5270ed3ddd9d87593f908d4031af645f1974e8a0077e2520bc0"), looks := false }, kinds := [], alts := [], laidByText := true, laidKinds := [.data, .data, .data], laidTests := true, laidLooks := .later }
def FnExactPieceLinesUptoCardSaid : Prop := Claim7.holds Tryd.pinned (.plain (OpenSpec.upto fnExactPieceLinesSpec)) fnExactPieceLinesUptoCard
end Rows
end Go.Proofs.YtiokajbmckcklaaDoor
