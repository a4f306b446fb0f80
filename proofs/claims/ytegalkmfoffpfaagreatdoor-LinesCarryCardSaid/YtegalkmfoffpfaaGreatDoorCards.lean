/-
  DERIVED. GIVEN WITH THE SEED: THE CARDS: each row of YtegalkmfoffpfaaGreatDoorRows.lean that lists a variable, with what it lists TIED to the program's text (the seventh form; the later family's looks); each row that meets fmt, with fmt's text TOLD by the authors' own Lean function (tested against real Go, not proved from fmt's source: count such statements apart). THE CARD IS WHAT COUNTS. Prove the row's statement (the work); the ties are given (YtegalkmfoffpfaaGreatDoorTie.lean); close each card by the builder's one call (the guide's Derived/Test/ToyasCard.lean, 'card_holds'). Laid BY PROGRAM, IN A SANDBOX (cutbox-door.mjs). By AI agents, Wed Nov 11 2026. No macro, syntax, notation, axiom, sorry.
-/
import Derived.Test.YtegalkmfoffpfaaGreatDoorRows
import GoSem.ClaimSeven
namespace Go.Proofs.YtegalkmfoffpfaaGreatDoor
namespace Rows

/-- THE TIED CARD OF 'signlaw1.FilesProved'. -/
def filesProvedCard : Claim7 := { stood := { row := filesProvedRow, standIns := [], harness := (true, "f20613bb5e1e6a042f84d222c71aca7224f83cda13bea361c455fbfa686ae896"), looks := false }, kinds := [], alts := [], laidByText := true, laidKinds := [.data, .data, .data, .data, .pinned], laidTests := true, laidLooks := .later }
def FilesProvedCardSaid : Prop := Claim7.holds Tryz.pinned (.plain (OpenSpec.ofChange filesProvedSpec)) filesProvedCard

/-- THE TIED CARD OF 'signlaw1.LinesCarry'. -/
def linesCarryCard : Claim7 := { stood := { row := linesCarryRow, standIns := [], harness := (true, "f20613bb5e1e6a042f84d222c71aca7224f83cda13bea361c455fbfa686ae896"), looks := false }, kinds := [], alts := [], laidByText := true, laidKinds := [.data, .pinned], laidTests := true, laidLooks := .later }
def LinesCarryCardSaid : Prop := Claim7.holds Tryz.pinned (.plain (OpenSpec.ofChange linesCarrySpec)) linesCarryCard

/-- THE TIED CARD OF 'signlaw1.ManifestsTold'. -/
def manifestsToldCard : Claim7 := { stood := { row := manifestsToldRow, standIns := [], harness := (true, "f20613bb5e1e6a042f84d222c71aca7224f83cda13bea361c455fbfa686ae896"), looks := false }, kinds := [], alts := [], laidByText := true, laidKinds := [.data, .pinned], laidTests := true, laidLooks := .later }
def ManifestsToldCardSaid : Prop := Claim7.holds Tryz.pinned (.plain (OpenSpec.ofChange manifestsToldSpec)) manifestsToldCard

/-- THE TIED CARD OF 'signlaw1.ChangesApplied'. -/
def changesAppliedCard : Claim7 := { stood := { row := changesAppliedRow, standIns := [], harness := (true, "f20613bb5e1e6a042f84d222c71aca7224f83cda13bea361c455fbfa686ae896"), looks := false }, kinds := [], alts := [], laidByText := true, laidKinds := [.data, .pinned], laidTests := true, laidLooks := .later }
def ChangesAppliedCardSaid : Prop := Claim7.holds Tryz.pinned (.plain (OpenSpec.ofChange changesAppliedSpec)) changesAppliedCard

/-- THE SECOND FORM's CARD OF 'signlaw1.FilesProved'. -/
def filesProvedUptoCard : Claim7 := { stood := { row := filesProvedUptoRow, standIns := [], harness := (true, "f20613bb5e1e6a042f84d222c71aca7224f83cda13bea361c455fbfa686ae896"), looks := false }, kinds := [], alts := [], laidByText := true, laidKinds := [.data, .data, .data, .data, .pinned], laidTests := true, laidLooks := .later }
def FilesProvedUptoCardSaid : Prop := Claim7.holds Tryz.pinned (.plain (OpenSpec.upto filesProvedSpec)) filesProvedUptoCard

/-- THE SECOND FORM's CARD OF 'signlaw1.LinesCarry'. -/
def linesCarryUptoCard : Claim7 := { stood := { row := linesCarryUptoRow, standIns := [], harness := (true, "f20613bb5e1e6a042f84d222c71aca7224f83cda13bea361c455fbfa686ae896"), looks := false }, kinds := [], alts := [], laidByText := true, laidKinds := [.data, .pinned], laidTests := true, laidLooks := .later }
def LinesCarryUptoCardSaid : Prop := Claim7.holds Tryz.pinned (.plain (OpenSpec.upto linesCarrySpec)) linesCarryUptoCard

/-- THE SECOND FORM's CARD OF 'signlaw1.ManifestsTold'. -/
def manifestsToldUptoCard : Claim7 := { stood := { row := manifestsToldUptoRow, standIns := [], harness := (true, "f20613bb5e1e6a042f84d222c71aca7224f83cda13bea361c455fbfa686ae896"), looks := false }, kinds := [], alts := [], laidByText := true, laidKinds := [.data, .pinned], laidTests := true, laidLooks := .later }
def ManifestsToldUptoCardSaid : Prop := Claim7.holds Tryz.pinned (.plain (OpenSpec.upto manifestsToldSpec)) manifestsToldUptoCard

/-- THE SECOND FORM's CARD OF 'signlaw1.ChangesApplied'. -/
def changesAppliedUptoCard : Claim7 := { stood := { row := changesAppliedUptoRow, standIns := [], harness := (true, "f20613bb5e1e6a042f84d222c71aca7224f83cda13bea361c455fbfa686ae896"), looks := false }, kinds := [], alts := [], laidByText := true, laidKinds := [.data, .pinned], laidTests := true, laidLooks := .later }
def ChangesAppliedUptoCardSaid : Prop := Claim7.holds Tryz.pinned (.plain (OpenSpec.upto changesAppliedSpec)) changesAppliedUptoCard
end Rows
end Go.Proofs.YtegalkmfoffpfaaGreatDoor
