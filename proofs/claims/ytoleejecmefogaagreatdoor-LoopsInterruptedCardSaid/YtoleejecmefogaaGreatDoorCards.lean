/-
  DERIVED. GIVEN WITH THE SEED: THE CARDS: each row of YtoleejecmefogaaGreatDoorRows.lean that lists a variable, with what it lists TIED to the program's text (the seventh form; the later family's looks); each row that meets fmt, with fmt's text TOLD by the authors' own Lean function (tested against real Go, not proved from fmt's source: count such statements apart). THE CARD IS WHAT COUNTS. Prove the row's statement (the work); the ties are given (YtoleejecmefogaaGreatDoorTie.lean); close each card by the builder's one call (the guide's Derived/Test/ToyasCard.lean, 'card_holds'). Laid BY PROGRAM, IN A SANDBOX (cutbox-door.mjs). By AI agents, Wed Nov 11 2026. No macro, syntax, notation, axiom, sorry.
-/
import Derived.Test.YtoleejecmefogaaGreatDoorRows
import GoSem.ClaimSeven
namespace Go.Proofs.YtoleejecmefogaaGreatDoor
namespace Rows

/-- THE TIED CARD OF 'signlaw1.LoopsShrink'. -/
def loopsShrinkCard : Claim7 := { stood := { row := loopsShrinkRow, standIns := [], harness := (true, "0fc0d67a5521c88b40108a2f4c4ca01577b5e217c3e40f06973adb218b2f62f9"), looks := true }, kinds := [], alts := [], laidByText := true, laidKinds := [.data, .pinned], laidTests := true, laidLooks := .later }
def LoopsShrinkCardSaid : Prop := Claim7.holds Tryz.pinned (.plain (OpenSpec.ofChange loopsShrinkSpec)) loopsShrinkCard

/-- THE TIED CARD OF 'signlaw1.LoopsComeRound'. -/
def loopsComeRoundCard : Claim7 := { stood := { row := loopsComeRoundRow, standIns := [], harness := (true, "0fc0d67a5521c88b40108a2f4c4ca01577b5e217c3e40f06973adb218b2f62f9"), looks := true }, kinds := [], alts := [], laidByText := true, laidKinds := [.data, .pinned], laidTests := true, laidLooks := .later }
def LoopsComeRoundCardSaid : Prop := Claim7.holds Tryz.pinned (.plain (OpenSpec.ofChange loopsComeRoundSpec)) loopsComeRoundCard

/-- THE TIED CARD OF 'signlaw1.PlaysSpread'. -/
def playsSpreadCard : Claim7 := { stood := { row := playsSpreadRow, standIns := [], harness := (true, "0fc0d67a5521c88b40108a2f4c4ca01577b5e217c3e40f06973adb218b2f62f9"), looks := true }, kinds := [], alts := [], laidByText := true, laidKinds := [.data, .data, .data, .data, .pinned], laidTests := true, laidLooks := .later }
def PlaysSpreadCardSaid : Prop := Claim7.holds Tryz.pinned (.plain (OpenSpec.ofChange playsSpreadSpec)) playsSpreadCard

/-- THE TIED CARD OF 'signlaw1.LoopsInterrupted'. -/
def loopsInterruptedCard : Claim7 := { stood := { row := loopsInterruptedRow, standIns := [], harness := (true, "0fc0d67a5521c88b40108a2f4c4ca01577b5e217c3e40f06973adb218b2f62f9"), looks := true }, kinds := [], alts := [], laidByText := true, laidKinds := [.data, .pinned], laidTests := true, laidLooks := .later }
def LoopsInterruptedCardSaid : Prop := Claim7.holds Tryz.pinned (.plain (OpenSpec.ofChange loopsInterruptedSpec)) loopsInterruptedCard

/-- THE TIED CARD OF 'signlaw1.LoopTexts'. -/
def loopTextsCard : Claim7 := { stood := { row := loopTextsRow, standIns := [], harness := (true, "0fc0d67a5521c88b40108a2f4c4ca01577b5e217c3e40f06973adb218b2f62f9"), looks := true }, kinds := [], alts := [], laidByText := true, laidKinds := [.data, .data, .data, .data, .sentinel, .sentinel, .pinned], laidTests := true, laidLooks := .later }
def LoopTextsCardSaid : Prop := Claim7.holds Tryz.pinned (.plain (OpenSpec.ofChange loopTextsSpec)) loopTextsCard

/-- THE SECOND FORM's CARD OF 'signlaw1.LoopsShrink'. -/
def loopsShrinkUptoCard : Claim7 := { stood := { row := loopsShrinkUptoRow, standIns := [], harness := (true, "0fc0d67a5521c88b40108a2f4c4ca01577b5e217c3e40f06973adb218b2f62f9"), looks := true }, kinds := [], alts := [], laidByText := true, laidKinds := [.data, .pinned], laidTests := true, laidLooks := .later }
def LoopsShrinkUptoCardSaid : Prop := Claim7.holds Tryz.pinned (.plain (OpenSpec.upto loopsShrinkSpec)) loopsShrinkUptoCard

/-- THE SECOND FORM's CARD OF 'signlaw1.LoopsComeRound'. -/
def loopsComeRoundUptoCard : Claim7 := { stood := { row := loopsComeRoundUptoRow, standIns := [], harness := (true, "0fc0d67a5521c88b40108a2f4c4ca01577b5e217c3e40f06973adb218b2f62f9"), looks := true }, kinds := [], alts := [], laidByText := true, laidKinds := [.data, .pinned], laidTests := true, laidLooks := .later }
def LoopsComeRoundUptoCardSaid : Prop := Claim7.holds Tryz.pinned (.plain (OpenSpec.upto loopsComeRoundSpec)) loopsComeRoundUptoCard

/-- THE SECOND FORM's CARD OF 'signlaw1.PlaysSpread'. -/
def playsSpreadUptoCard : Claim7 := { stood := { row := playsSpreadUptoRow, standIns := [], harness := (true, "0fc0d67a5521c88b40108a2f4c4ca01577b5e217c3e40f06973adb218b2f62f9"), looks := true }, kinds := [], alts := [], laidByText := true, laidKinds := [.data, .data, .data, .data, .pinned], laidTests := true, laidLooks := .later }
def PlaysSpreadUptoCardSaid : Prop := Claim7.holds Tryz.pinned (.plain (OpenSpec.upto playsSpreadSpec)) playsSpreadUptoCard

/-- THE SECOND FORM's CARD OF 'signlaw1.LoopsInterrupted'. -/
def loopsInterruptedUptoCard : Claim7 := { stood := { row := loopsInterruptedUptoRow, standIns := [], harness := (true, "0fc0d67a5521c88b40108a2f4c4ca01577b5e217c3e40f06973adb218b2f62f9"), looks := true }, kinds := [], alts := [], laidByText := true, laidKinds := [.data, .pinned], laidTests := true, laidLooks := .later }
def LoopsInterruptedUptoCardSaid : Prop := Claim7.holds Tryz.pinned (.plain (OpenSpec.upto loopsInterruptedSpec)) loopsInterruptedUptoCard

/-- THE SECOND FORM's CARD OF 'signlaw1.LoopTexts'. -/
def loopTextsUptoCard : Claim7 := { stood := { row := loopTextsUptoRow, standIns := [], harness := (true, "0fc0d67a5521c88b40108a2f4c4ca01577b5e217c3e40f06973adb218b2f62f9"), looks := true }, kinds := [], alts := [], laidByText := true, laidKinds := [.data, .data, .data, .data, .sentinel, .sentinel, .pinned], laidTests := true, laidLooks := .later }
def LoopTextsUptoCardSaid : Prop := Claim7.holds Tryz.pinned (.plain (OpenSpec.upto loopTextsSpec)) loopTextsUptoCard
end Rows
end Go.Proofs.YtoleejecmefogaaGreatDoor
