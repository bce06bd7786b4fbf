/-
  DERIVED. GIVEN WITH THE SEED: THE CARDS: each row of YteppndjaglhehaaDoorRows.lean that lists a variable, with what it lists TIED to the program's text (the seventh form; the later family's looks); each row that meets fmt, with fmt's text TOLD by the authors' own Lean function (tested against real Go, not proved from fmt's source: count such statements apart). THE CARD IS WHAT COUNTS. Prove the row's statement (the work); the ties are given (YteppndjaglhehaaDoorTie.lean); close each card by the builder's one call (the guide's Derived/Test/ToyasCard.lean, 'card_holds'). Laid BY PROGRAM, IN A SANDBOX (cutbox-door.mjs). By AI agents, Wed Nov 11 2026. No macro, syntax, notation, axiom, sorry.
-/
import Derived.Test.YteppndjaglhehaaDoorRows
import GoSem.ClaimSeven
namespace Go.Proofs.YteppndjaglhehaaDoor
namespace Rows

/-- THE TIED CARD OF 'laws.FnPieces'. -/
def fnPiecesCard : Claim7 := { stood := { row := fnPiecesRow, standIns := [], harness := (true, "845837cf58f060a60a6efe4b399dd464067ee8a7efea81f31c961aa2050170f4"), looks := true }, kinds := [], alts := [], laidByText := true, laidKinds := [.data, .data, .data], laidTests := true, laidLooks := .later }
def FnPiecesCardSaid : Prop := Claim7.holds Tryd.pinned (.plain (OpenSpec.ofChange fnPiecesSpec)) fnPiecesCard

/-- THE TIED CARD OF 'laws.FnWorkloads'. -/
def fnWorkloadsCard : Claim7 := { stood := { row := fnWorkloadsRow, standIns := [], harness := (true, "845837cf58f060a60a6efe4b399dd464067ee8a7efea81f31c961aa2050170f4"), looks := true }, kinds := [], alts := [], laidByText := true, laidKinds := [.data, .data, .data, .data, .sentinel, .sentinel, .pinned], laidTests := true, laidLooks := .later }
def FnWorkloadsCardSaid : Prop := Claim7.holds Tryd.pinned (.plain (OpenSpec.ofChange fnWorkloadsSpec)) fnWorkloadsCard

/-- THE SECOND FORM's CARD OF 'laws.FnPieces'. -/
def fnPiecesUptoCard : Claim7 := { stood := { row := fnPiecesUptoRow, standIns := [], harness := (true, "845837cf58f060a60a6efe4b399dd464067ee8a7efea81f31c961aa2050170f4"), looks := true }, kinds := [], alts := [], laidByText := true, laidKinds := [.data, .data, .data], laidTests := true, laidLooks := .later }
def FnPiecesUptoCardSaid : Prop := Claim7.holds Tryd.pinned (.plain (OpenSpec.upto fnPiecesSpec)) fnPiecesUptoCard

/-- THE SECOND FORM's CARD OF 'laws.FnWorkloads'. -/
def fnWorkloadsUptoCard : Claim7 := { stood := { row := fnWorkloadsUptoRow, standIns := [], harness := (true, "845837cf58f060a60a6efe4b399dd464067ee8a7efea81f31c961aa2050170f4"), looks := true }, kinds := [], alts := [], laidByText := true, laidKinds := [.data, .data, .data, .data, .sentinel, .sentinel, .pinned], laidTests := true, laidLooks := .later }
def FnWorkloadsUptoCardSaid : Prop := Claim7.holds Tryd.pinned (.plain (OpenSpec.upto fnWorkloadsSpec)) fnWorkloadsUptoCard
end Rows
end Go.Proofs.YteppndjaglhehaaDoor
