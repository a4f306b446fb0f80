/-
  DERIVED. GIVEN WITH THE SEED: THE CARDS: each row of YtegalkmfoffpfaaDoorRows.lean that lists a variable, with what it lists TIED to the program's text (the seventh form; the later family's looks); each row that meets fmt, with fmt's text TOLD by the authors' own Lean function (tested against real Go, not proved from fmt's source: count such statements apart). THE CARD IS WHAT COUNTS. Prove the row's statement (the work); the ties are given (YtegalkmfoffpfaaDoorTie.lean); close each card by the builder's one call (the guide's Derived/Test/ToyasCard.lean, 'card_holds'). Laid BY PROGRAM, IN A SANDBOX (cutbox-door.mjs). By AI agents, Wed Nov 11 2026. No macro, syntax, notation, axiom, sorry.
-/
import Derived.Test.YtegalkmfoffpfaaDoorRows
import GoSem.ClaimSeven
namespace Go.Proofs.YtegalkmfoffpfaaDoor
namespace Rows

/-- THE TIED CARD OF 'signlaw1.ContentCut'. -/
def contentCutCard : Claim7 := { stood := { row := contentCutRow, standIns := [], harness := (true, "31b1d9c6de8eb7b5993f012d4da50819f2e53131a40627cd342e9ef531d7d7cf"), looks := false }, kinds := [], alts := [], laidByText := true, laidKinds := [.data, .data, .data], laidTests := true, laidLooks := .later }
def ContentCutCardSaid : Prop := Claim7.holds Tryd.pinned (.plain (OpenSpec.ofChange contentCutSpec)) contentCutCard

/-- THE TIED CARD OF 'signlaw1.PiecesSpread'. -/
def piecesSpreadCard : Claim7 := { stood := { row := piecesSpreadRow, standIns := [], harness := (true, "31b1d9c6de8eb7b5993f012d4da50819f2e53131a40627cd342e9ef531d7d7cf"), looks := false }, kinds := [], alts := [], laidByText := true, laidKinds := [.data, .pinned], laidTests := true, laidLooks := .later }
def PiecesSpreadCardSaid : Prop := Claim7.holds Tryd.pinned (.plain (OpenSpec.ofChange piecesSpreadSpec)) piecesSpreadCard

/-- THE SECOND FORM's CARD OF 'signlaw1.ContentCut'. -/
def contentCutUptoCard : Claim7 := { stood := { row := contentCutUptoRow, standIns := [], harness := (true, "31b1d9c6de8eb7b5993f012d4da50819f2e53131a40627cd342e9ef531d7d7cf"), looks := false }, kinds := [], alts := [], laidByText := true, laidKinds := [.data, .data, .data], laidTests := true, laidLooks := .later }
def ContentCutUptoCardSaid : Prop := Claim7.holds Tryd.pinned (.plain (OpenSpec.upto contentCutSpec)) contentCutUptoCard

/-- THE SECOND FORM's CARD OF 'signlaw1.PiecesSpread'. -/
def piecesSpreadUptoCard : Claim7 := { stood := { row := piecesSpreadUptoRow, standIns := [], harness := (true, "31b1d9c6de8eb7b5993f012d4da50819f2e53131a40627cd342e9ef531d7d7cf"), looks := false }, kinds := [], alts := [], laidByText := true, laidKinds := [.data, .pinned], laidTests := true, laidLooks := .later }
def PiecesSpreadUptoCardSaid : Prop := Claim7.holds Tryd.pinned (.plain (OpenSpec.upto piecesSpreadSpec)) piecesSpreadUptoCard
end Rows
end Go.Proofs.YtegalkmfoffpfaaDoor
