/-
  DERIVED. GIVEN WITH THE SEED: THE CARDS: each row of YtoleejecmefogaaDoorRows.lean that lists a variable, with what it lists TIED to the program's text (the seventh form; the later family's looks); each row that meets fmt, with fmt's text TOLD by the authors' own Lean function (tested against real Go, not proved from fmt's source: count such statements apart). THE CARD IS WHAT COUNTS. Prove the row's statement (the work); the ties are given (YtoleejecmefogaaDoorTie.lean); close each card by the builder's one call (the guide's Derived/Test/ToyasCard.lean, 'card_holds'). Laid BY PROGRAM, IN A SANDBOX (cutbox-door.mjs). By AI agents, Wed Nov 11 2026. No macro, syntax, notation, axiom, sorry.
-/
import Derived.Test.YtoleejecmefogaaDoorRows
import GoSem.ClaimSeven
namespace Go.Proofs.YtoleejecmefogaaDoor
namespace Rows

/-- THE TIED CARD OF 'signlaw1.LoopsPass'. -/
def loopsPassCard : Claim7 := { stood := { row := loopsPassRow, standIns := [], harness := (true, "7369b7c2827834d17a3657cb3183342a414cf1e4ed85278ce1631cc8f41f30fa"), looks := false }, kinds := [], alts := [], laidByText := true, laidKinds := [.data, .pinned], laidTests := true, laidLooks := .later }
def LoopsPassCardSaid : Prop := Claim7.holds Tryd.pinned (.plain (OpenSpec.ofChange loopsPassSpec)) loopsPassCard

/-- THE SECOND FORM's CARD OF 'signlaw1.LoopsPass'. -/
def loopsPassUptoCard : Claim7 := { stood := { row := loopsPassUptoRow, standIns := [], harness := (true, "7369b7c2827834d17a3657cb3183342a414cf1e4ed85278ce1631cc8f41f30fa"), looks := false }, kinds := [], alts := [], laidByText := true, laidKinds := [.data, .pinned], laidTests := true, laidLooks := .later }
def LoopsPassUptoCardSaid : Prop := Claim7.holds Tryd.pinned (.plain (OpenSpec.upto loopsPassSpec)) loopsPassUptoCard
end Rows
end Go.Proofs.YtoleejecmefogaaDoor
