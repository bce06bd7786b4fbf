/-
  DERIVED. GIVEN WITH THE SEED: THE CARDS: each row of YtcondihilccdpaaDoorRows.lean that lists a variable, with what it lists TIED to the program's text (the seventh form; the later family's looks); each row that meets fmt, with fmt's text TOLD by the authors' own Lean function (tested against real Go, not proved from fmt's source: count such statements apart). THE CARD IS WHAT COUNTS. Prove the row's statement (the work); the ties are given (YtcondihilccdpaaDoorTie.lean); close each card by the builder's one call (the guide's Derived/Test/ToyasCard.lean, 'card_holds'). Laid BY PROGRAM, IN A SANDBOX (cutbox-door.mjs). By AI agents, Wed Nov 11 2026. No macro, syntax, notation, axiom, sorry.
-/
import Derived.Test.YtcondihilccdpaaDoorRows
import GoSem.ClaimSeven
namespace Go.Proofs.YtcondihilccdpaaDoor
namespace Rows

/-- THE TIED CARD OF 'laws.FnExactParseEntry'. -/
def fnExactParseEntryCard : Claim7 := { stood := { row := fnExactParseEntryRow, standIns := [], harness := (true, "467abda7ff16b89dbc30fe83752759c7c1bb310f372837ac0b729f05e52def82"), looks := true }, kinds := [], alts := [], laidByText := true, laidKinds := [.data, .data, .data, .data, .sentinel, .sentinel, .pinned], laidTests := true, laidLooks := .later }
def FnExactParseEntryCardSaid : Prop := Claim7.holds Tryd.pinned (.plain (OpenSpec.ofChange fnExactParseEntrySpec)) fnExactParseEntryCard

/-- THE TIED CARD OF 'laws.FnExactParseWorkload'. -/
def fnExactParseWorkloadCard : Claim7 := { stood := { row := fnExactParseWorkloadRow, standIns := [], harness := (true, "467abda7ff16b89dbc30fe83752759c7c1bb310f372837ac0b729f05e52def82"), looks := true }, kinds := [], alts := [], laidByText := true, laidKinds := [.data, .data, .data, .data, .sentinel, .sentinel, .pinned], laidTests := true, laidLooks := .later }
def FnExactParseWorkloadCardSaid : Prop := Claim7.holds Tryd.pinned (.plain (OpenSpec.ofChange fnExactParseWorkloadSpec)) fnExactParseWorkloadCard

/-- THE SECOND FORM's CARD OF 'laws.FnExactParseEntry'. -/
def fnExactParseEntryUptoCard : Claim7 := { stood := { row := fnExactParseEntryUptoRow, standIns := [], harness := (true, "467abda7ff16b89dbc30fe83752759c7c1bb310f372837ac0b729f05e52def82"), looks := true }, kinds := [], alts := [], laidByText := true, laidKinds := [.data, .data, .data, .data, .sentinel, .sentinel, .pinned], laidTests := true, laidLooks := .later }
def FnExactParseEntryUptoCardSaid : Prop := Claim7.holds Tryd.pinned (.plain (OpenSpec.upto fnExactParseEntrySpec)) fnExactParseEntryUptoCard

/-- THE SECOND FORM's CARD OF 'laws.FnExactParseWorkload'. -/
def fnExactParseWorkloadUptoCard : Claim7 := { stood := { row := fnExactParseWorkloadUptoRow, standIns := [], harness := (true, "467abda7ff16b89dbc30fe83752759c7c1bb310f372837ac0b729f05e52def82"), looks := true }, kinds := [], alts := [], laidByText := true, laidKinds := [.data, .data, .data, .data, .sentinel, .sentinel, .pinned], laidTests := true, laidLooks := .later }
def FnExactParseWorkloadUptoCardSaid : Prop := Claim7.holds Tryd.pinned (.plain (OpenSpec.upto fnExactParseWorkloadSpec)) fnExactParseWorkloadUptoCard
end Rows
end Go.Proofs.YtcondihilccdpaaDoor
