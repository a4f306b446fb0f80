/-
  DERIVED. GIVEN WITH THE SEED: THE CARDS: each row of YtmghfolmgmhabaaGreatDoorRows.lean that lists a variable, with what it lists TIED to the program's text (the seventh form; the later family's looks); each row that meets fmt, with fmt's text TOLD by the authors' own Lean function (tested against real Go, not proved from fmt's source: count such statements apart). THE CARD IS WHAT COUNTS. Prove the row's statement (the work); the ties are given (YtmghfolmgmhabaaGreatDoorTie.lean); close each card by the builder's one call (the guide's Derived/Test/ToyasCard.lean, 'card_holds'). Laid BY PROGRAM, IN A SANDBOX (cutbox-door.mjs). By AI agents, Wed Nov 11 2026. No macro, syntax, notation, axiom, sorry.
-/
import Derived.Test.YtmghfolmgmhabaaGreatDoorRows
import GoSem.ClaimSeven
namespace Go.Proofs.YtmghfolmgmhabaaGreatDoor
namespace Rows

/-- THE TIED CARD OF 'signlaw1.RightsDecide'. -/
def rightsDecideCard : Claim7 := { stood := { row := rightsDecideRow, standIns := [], harness := (true, "28715c1d5892f9d3d3962d747a171ec56fbf3b8620ee59c023007f21c57b2594"), looks := true }, kinds := [], alts := [], laidByText := true, laidKinds := [.data, .pinned], laidTests := true, laidLooks := .later }
def RightsDecideCardSaid : Prop := Claim7.holds Tryz.pinned (.plain (OpenSpec.ofChange rightsDecideSpec)) rightsDecideCard

/-- THE TIED CARD OF 'signlaw1.RightsBroken'. -/
def rightsBrokenCard : Claim7 := { stood := { row := rightsBrokenRow, standIns := [], harness := (true, "28715c1d5892f9d3d3962d747a171ec56fbf3b8620ee59c023007f21c57b2594"), looks := true }, kinds := [], alts := [], laidByText := true, laidKinds := [.data, .pinned], laidTests := true, laidLooks := .later }
def RightsBrokenCardSaid : Prop := Claim7.holds Tryz.pinned (.plain (OpenSpec.ofChange rightsBrokenSpec)) rightsBrokenCard

/-- THE TIED CARD OF 'signlaw1.FormsShown'. -/
def formsShownCard : Claim7 := { stood := { row := formsShownRow, standIns := [], harness := (true, "28715c1d5892f9d3d3962d747a171ec56fbf3b8620ee59c023007f21c57b2594"), looks := true }, kinds := [], alts := [], laidByText := true, laidKinds := [.data, .pinned], laidTests := true, laidLooks := .later }
def FormsShownCardSaid : Prop := Claim7.holds Tryz.pinned (.plain (OpenSpec.ofChange formsShownSpec)) formsShownCard

/-- THE TIED CARD OF 'signkeep1.TimesAreMay'. -/
def timesAreMayCard : Claim7 := { stood := { row := timesAreMayRow, standIns := [], harness := (true, "28715c1d5892f9d3d3962d747a171ec56fbf3b8620ee59c023007f21c57b2594"), looks := true }, kinds := [], alts := [], laidByText := true, laidKinds := [.data, .data, .data, .data, .sentinel, .sentinel, .pinned], laidTests := true, laidLooks := .later }
def TimesAreMayCardSaid : Prop := Claim7.holds Tryz.pinned (.plain (OpenSpec.ofChange timesAreMaySpec)) timesAreMayCard

/-- THE TIED CARD OF 'signkeep1.UselessCanGo'. -/
def uselessCanGoCard : Claim7 := { stood := { row := uselessCanGoRow, standIns := [], harness := (true, "28715c1d5892f9d3d3962d747a171ec56fbf3b8620ee59c023007f21c57b2594"), looks := true }, kinds := [], alts := [], laidByText := true, laidKinds := [.data, .data, .data, .data, .sentinel, .sentinel, .pinned], laidTests := true, laidLooks := .later }
def UselessCanGoCardSaid : Prop := Claim7.holds Tryz.pinned (.plain (OpenSpec.ofChange uselessCanGoSpec)) uselessCanGoCard

/-- THE SECOND FORM's CARD OF 'signlaw1.RightsDecide'. -/
def rightsDecideUptoCard : Claim7 := { stood := { row := rightsDecideUptoRow, standIns := [], harness := (true, "28715c1d5892f9d3d3962d747a171ec56fbf3b8620ee59c023007f21c57b2594"), looks := true }, kinds := [], alts := [], laidByText := true, laidKinds := [.data, .pinned], laidTests := true, laidLooks := .later }
def RightsDecideUptoCardSaid : Prop := Claim7.holds Tryz.pinned (.plain (OpenSpec.upto rightsDecideSpec)) rightsDecideUptoCard

/-- THE SECOND FORM's CARD OF 'signlaw1.RightsBroken'. -/
def rightsBrokenUptoCard : Claim7 := { stood := { row := rightsBrokenUptoRow, standIns := [], harness := (true, "28715c1d5892f9d3d3962d747a171ec56fbf3b8620ee59c023007f21c57b2594"), looks := true }, kinds := [], alts := [], laidByText := true, laidKinds := [.data, .pinned], laidTests := true, laidLooks := .later }
def RightsBrokenUptoCardSaid : Prop := Claim7.holds Tryz.pinned (.plain (OpenSpec.upto rightsBrokenSpec)) rightsBrokenUptoCard

/-- THE SECOND FORM's CARD OF 'signlaw1.FormsShown'. -/
def formsShownUptoCard : Claim7 := { stood := { row := formsShownUptoRow, standIns := [], harness := (true, "28715c1d5892f9d3d3962d747a171ec56fbf3b8620ee59c023007f21c57b2594"), looks := true }, kinds := [], alts := [], laidByText := true, laidKinds := [.data, .pinned], laidTests := true, laidLooks := .later }
def FormsShownUptoCardSaid : Prop := Claim7.holds Tryz.pinned (.plain (OpenSpec.upto formsShownSpec)) formsShownUptoCard

/-- THE SECOND FORM's CARD OF 'signkeep1.TimesAreMay'. -/
def timesAreMayUptoCard : Claim7 := { stood := { row := timesAreMayUptoRow, standIns := [], harness := (true, "28715c1d5892f9d3d3962d747a171ec56fbf3b8620ee59c023007f21c57b2594"), looks := true }, kinds := [], alts := [], laidByText := true, laidKinds := [.data, .data, .data, .data, .sentinel, .sentinel, .pinned], laidTests := true, laidLooks := .later }
def TimesAreMayUptoCardSaid : Prop := Claim7.holds Tryz.pinned (.plain (OpenSpec.upto timesAreMaySpec)) timesAreMayUptoCard

/-- THE SECOND FORM's CARD OF 'signkeep1.UselessCanGo'. -/
def uselessCanGoUptoCard : Claim7 := { stood := { row := uselessCanGoUptoRow, standIns := [], harness := (true, "28715c1d5892f9d3d3962d747a171ec56fbf3b8620ee59c023007f21c57b2594"), looks := true }, kinds := [], alts := [], laidByText := true, laidKinds := [.data, .data, .data, .data, .sentinel, .sentinel, .pinned], laidTests := true, laidLooks := .later }
def UselessCanGoUptoCardSaid : Prop := Claim7.holds Tryz.pinned (.plain (OpenSpec.upto uselessCanGoSpec)) uselessCanGoUptoCard
end Rows
end Go.Proofs.YtmghfolmgmhabaaGreatDoor
