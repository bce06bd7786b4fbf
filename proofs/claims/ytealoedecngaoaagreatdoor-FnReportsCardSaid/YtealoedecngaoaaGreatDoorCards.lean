/-
  DERIVED. GIVEN WITH THE SEED: THE CARDS: each row of YtealoedecngaoaaGreatDoorRows.lean that lists a variable, with what it lists TIED to the program's text (the seventh form; the later family's looks); each row that meets fmt, with fmt's text TOLD by the authors' own Lean function (tested against real Go, not proved from fmt's source: count such statements apart). THE CARD IS WHAT COUNTS. Prove the row's statement (the work); the ties are given (YtealoedecngaoaaGreatDoorTie.lean); close each card by the builder's one call (the guide's Derived/Test/ToyasCard.lean, 'card_holds'). Laid BY PROGRAM, IN A SANDBOX (cutbox-door.mjs). By AI agents, Wed Nov 11 2026. No macro, syntax, notation, axiom, sorry.
-/
import Derived.Test.YtealoedecngaoaaGreatDoorRows
import GoSem.ClaimSeven
namespace Go.Proofs.YtealoedecngaoaaGreatDoor
namespace Rows

/-- THE TIED CARD OF 'laws.FnBoards'. -/
def fnBoardsCard : Claim7 := { stood := { row := fnBoardsRow, standIns := [], harness := (true, "9ebe86447bf48612a148b1ff6ba47c359ac3172608cab15f4aa149f2dfc99b75"), looks := true }, kinds := [], alts := [], laidByText := true, laidKinds := [.data, .data, .data], laidTests := true, laidLooks := .later }
def FnBoardsCardSaid : Prop := Claim7.holds Tryz.pinned (.plain (OpenSpec.ofChange fnBoardsSpec)) fnBoardsCard

/-- THE TIED CARD OF 'laws.FnReports'. -/
def fnReportsCard : Claim7 := { stood := { row := fnReportsRow, standIns := [], harness := (true, "9ebe86447bf48612a148b1ff6ba47c359ac3172608cab15f4aa149f2dfc99b75"), looks := true }, kinds := [], alts := [], laidByText := true, laidKinds := [.data, .data, .data], laidTests := true, laidLooks := .later }
def FnReportsCardSaid : Prop := Claim7.holds Tryz.pinned (.plain (OpenSpec.ofChange fnReportsSpec)) fnReportsCard

/-- THE TIED CARD OF 'laws.FnJournals'. -/
def fnJournalsCard : Claim7 := { stood := { row := fnJournalsRow, standIns := [], harness := (true, "9ebe86447bf48612a148b1ff6ba47c359ac3172608cab15f4aa149f2dfc99b75"), looks := true }, kinds := [], alts := [], laidByText := true, laidKinds := [.data, .data, .data, .data, .sentinel, .sentinel, .pinned], laidTests := true, laidLooks := .later }
def FnJournalsCardSaid : Prop := Claim7.holds Tryz.pinned (.plain (OpenSpec.ofChange fnJournalsSpec)) fnJournalsCard

/-- THE TIED CARD OF 'laws.FnOutcomes'. -/
def fnOutcomesCard : Claim7 := { stood := { row := fnOutcomesRow, standIns := [], harness := (true, "9ebe86447bf48612a148b1ff6ba47c359ac3172608cab15f4aa149f2dfc99b75"), looks := true }, kinds := [], alts := [], laidByText := true, laidKinds := [.data, .data, .data], laidTests := true, laidLooks := .later }
def FnOutcomesCardSaid : Prop := Claim7.holds Tryz.pinned (.plain (OpenSpec.ofChange fnOutcomesSpec)) fnOutcomesCard

/-- THE SECOND FORM's CARD OF 'laws.FnBoards'. -/
def fnBoardsUptoCard : Claim7 := { stood := { row := fnBoardsUptoRow, standIns := [], harness := (true, "9ebe86447bf48612a148b1ff6ba47c359ac3172608cab15f4aa149f2dfc99b75"), looks := true }, kinds := [], alts := [], laidByText := true, laidKinds := [.data, .data, .data], laidTests := true, laidLooks := .later }
def FnBoardsUptoCardSaid : Prop := Claim7.holds Tryz.pinned (.plain (OpenSpec.upto fnBoardsSpec)) fnBoardsUptoCard

/-- THE SECOND FORM's CARD OF 'laws.FnReports'. -/
def fnReportsUptoCard : Claim7 := { stood := { row := fnReportsUptoRow, standIns := [], harness := (true, "9ebe86447bf48612a148b1ff6ba47c359ac3172608cab15f4aa149f2dfc99b75"), looks := true }, kinds := [], alts := [], laidByText := true, laidKinds := [.data, .data, .data], laidTests := true, laidLooks := .later }
def FnReportsUptoCardSaid : Prop := Claim7.holds Tryz.pinned (.plain (OpenSpec.upto fnReportsSpec)) fnReportsUptoCard

/-- THE SECOND FORM's CARD OF 'laws.FnJournals'. -/
def fnJournalsUptoCard : Claim7 := { stood := { row := fnJournalsUptoRow, standIns := [], harness := (true, "9ebe86447bf48612a148b1ff6ba47c359ac3172608cab15f4aa149f2dfc99b75"), looks := true }, kinds := [], alts := [], laidByText := true, laidKinds := [.data, .data, .data, .data, .sentinel, .sentinel, .pinned], laidTests := true, laidLooks := .later }
def FnJournalsUptoCardSaid : Prop := Claim7.holds Tryz.pinned (.plain (OpenSpec.upto fnJournalsSpec)) fnJournalsUptoCard

/-- THE SECOND FORM's CARD OF 'laws.FnOutcomes'. -/
def fnOutcomesUptoCard : Claim7 := { stood := { row := fnOutcomesUptoRow, standIns := [], harness := (true, "9ebe86447bf48612a148b1ff6ba47c359ac3172608cab15f4aa149f2dfc99b75"), looks := true }, kinds := [], alts := [], laidByText := true, laidKinds := [.data, .data, .data], laidTests := true, laidLooks := .later }
def FnOutcomesUptoCardSaid : Prop := Claim7.holds Tryz.pinned (.plain (OpenSpec.upto fnOutcomesSpec)) fnOutcomesUptoCard
end Rows
end Go.Proofs.YtealoedecngaoaaGreatDoor
