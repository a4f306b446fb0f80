/-
  DERIVED. GIVEN WITH THE SEED: THE CARDS: each row of YtidkkmoiolffnaaGreatDoorRows.lean that lists a variable, with what it lists TIED to the program's text (the seventh form; the later family's looks); each row that meets fmt, with fmt's text TOLD by the authors' own Lean function (tested against real Go, not proved from fmt's source: count such statements apart). THE CARD IS WHAT COUNTS. Prove the row's statement (the work); the ties are given (YtidkkmoiolffnaaGreatDoorTie.lean); close each card by the builder's one call (the guide's Derived/Test/ToyasCard.lean, 'card_holds'). Laid BY PROGRAM, IN A SANDBOX (cutbox-door.mjs). By AI agents, Wed Nov 11 2026. No macro, syntax, notation, axiom, sorry.
-/
import Derived.Test.YtidkkmoiolffnaaGreatDoorRows
import GoSem.ClaimSeven
namespace Go.Proofs.YtidkkmoiolffnaaGreatDoor
namespace Rows

/-- THE TIED CARD OF 'signkeep1.RoundsReturn'. -/
def roundsReturnCard : Claim7 := { stood := { row := roundsReturnRow, standIns := [], harness := (true, "5c6042b6719086c6843f09542f90b37ac6ba3e4a40858dc747b8b7ba0b41cb53"), looks := true }, kinds := [], alts := [], laidByText := true, laidKinds := [.data, .data, .data, .data, .sentinel, .sentinel, .pinned], laidTests := true, laidLooks := .later }
def RoundsReturnCardSaid : Prop := Claim7.holds Tryz.pinned (.plain (OpenSpec.ofChange roundsReturnSpec)) roundsReturnCard

/-- THE TIED CARD OF 'signkeep1.SharesAreExact'. -/
def sharesAreExactCard : Claim7 := { stood := { row := sharesAreExactRow, standIns := [], harness := (true, "5c6042b6719086c6843f09542f90b37ac6ba3e4a40858dc747b8b7ba0b41cb53"), looks := true }, kinds := [], alts := [], laidByText := true, laidKinds := [.data, .data, .data, .data, .sentinel, .sentinel, .pinned], laidTests := true, laidLooks := .later }
def SharesAreExactCardSaid : Prop := Claim7.holds Tryz.pinned (.plain (OpenSpec.ofChange sharesAreExactSpec)) sharesAreExactCard

/-- THE TIED CARD OF 'signkeep1.SmallLoopsPlayTheSame'. -/
def smallLoopsPlayTheSameCard : Claim7 := { stood := { row := smallLoopsPlayTheSameRow, standIns := [], harness := (true, "5c6042b6719086c6843f09542f90b37ac6ba3e4a40858dc747b8b7ba0b41cb53"), looks := true }, kinds := [], alts := [], laidByText := true, laidKinds := [.data, .data, .data, .data, .sentinel, .sentinel, .pinned], laidTests := true, laidLooks := .later }
def SmallLoopsPlayTheSameCardSaid : Prop := Claim7.holds Tryz.pinned (.plain (OpenSpec.ofChange smallLoopsPlayTheSameSpec)) smallLoopsPlayTheSameCard

/-- THE TIED CARD OF 'signkeep1.SpreadsKeepApart'. -/
def spreadsKeepApartCard : Claim7 := { stood := { row := spreadsKeepApartRow, standIns := [], harness := (true, "5c6042b6719086c6843f09542f90b37ac6ba3e4a40858dc747b8b7ba0b41cb53"), looks := true }, kinds := [], alts := [], laidByText := true, laidKinds := [.data, .data, .data, .data, .sentinel, .sentinel, .pinned], laidTests := true, laidLooks := .later }
def SpreadsKeepApartCardSaid : Prop := Claim7.holds Tryz.pinned (.plain (OpenSpec.ofChange spreadsKeepApartSpec)) spreadsKeepApartCard

/-- THE TIED CARD OF 'signkeep1.NothingIsLost'. -/
def nothingIsLostCard : Claim7 := { stood := { row := nothingIsLostRow, standIns := [], harness := (true, "5c6042b6719086c6843f09542f90b37ac6ba3e4a40858dc747b8b7ba0b41cb53"), looks := true }, kinds := [], alts := [], laidByText := true, laidKinds := [.data, .data, .data, .data, .sentinel, .sentinel, .pinned], laidTests := true, laidLooks := .later }
def NothingIsLostCardSaid : Prop := Claim7.holds Tryz.pinned (.plain (OpenSpec.ofChange nothingIsLostSpec)) nothingIsLostCard

/-- THE TIED CARD OF 'signkeep1.DoneIsCarried'. -/
def doneIsCarriedCard : Claim7 := { stood := { row := doneIsCarriedRow, standIns := [], harness := (true, "5c6042b6719086c6843f09542f90b37ac6ba3e4a40858dc747b8b7ba0b41cb53"), looks := true }, kinds := [], alts := [], laidByText := true, laidKinds := [.data, .data, .data, .data, .sentinel, .sentinel, .pinned], laidTests := true, laidLooks := .later }
def DoneIsCarriedCardSaid : Prop := Claim7.holds Tryz.pinned (.plain (OpenSpec.ofChange doneIsCarriedSpec)) doneIsCarriedCard

/-- THE TIED CARD OF 'signkeep1.PartsAreWhole'. -/
def partsAreWholeCard : Claim7 := { stood := { row := partsAreWholeRow, standIns := [], harness := (true, "5c6042b6719086c6843f09542f90b37ac6ba3e4a40858dc747b8b7ba0b41cb53"), looks := true }, kinds := [], alts := [], laidByText := true, laidKinds := [.data, .data, .data, .data, .sentinel, .sentinel, .pinned], laidTests := true, laidLooks := .later }
def PartsAreWholeCardSaid : Prop := Claim7.holds Tryz.pinned (.plain (OpenSpec.ofChange partsAreWholeSpec)) partsAreWholeCard

/-- THE TIED CARD OF 'signkeep1.PlansAreBest'. -/
def plansAreBestCard : Claim7 := { stood := { row := plansAreBestRow, standIns := [], harness := (true, "5c6042b6719086c6843f09542f90b37ac6ba3e4a40858dc747b8b7ba0b41cb53"), looks := true }, kinds := [], alts := [], laidByText := true, laidKinds := [.data, .data, .data, .data, .sentinel, .sentinel, .pinned], laidTests := true, laidLooks := .later }
def PlansAreBestCardSaid : Prop := Claim7.holds Tryz.pinned (.plain (OpenSpec.ofChange plansAreBestSpec)) plansAreBestCard

/-- THE TIED CARD OF 'signkeep1.WhatIsMissingIsAll'. -/
def whatIsMissingIsAllCard : Claim7 := { stood := { row := whatIsMissingIsAllRow, standIns := [], harness := (true, "5c6042b6719086c6843f09542f90b37ac6ba3e4a40858dc747b8b7ba0b41cb53"), looks := true }, kinds := [], alts := [], laidByText := true, laidKinds := [.data, .data, .data, .data, .sentinel, .sentinel, .pinned], laidTests := true, laidLooks := .later }
def WhatIsMissingIsAllCardSaid : Prop := Claim7.holds Tryz.pinned (.plain (OpenSpec.ofChange whatIsMissingIsAllSpec)) whatIsMissingIsAllCard

/-- THE TIED CARD OF 'signkeep1.NobodyGivesTwice'. -/
def nobodyGivesTwiceCard : Claim7 := { stood := { row := nobodyGivesTwiceRow, standIns := [], harness := (true, "5c6042b6719086c6843f09542f90b37ac6ba3e4a40858dc747b8b7ba0b41cb53"), looks := true }, kinds := [], alts := [], laidByText := true, laidKinds := [.data, .data, .data, .data, .sentinel, .sentinel, .pinned], laidTests := true, laidLooks := .later }
def NobodyGivesTwiceCardSaid : Prop := Claim7.holds Tryz.pinned (.plain (OpenSpec.ofChange nobodyGivesTwiceSpec)) nobodyGivesTwiceCard

/-- THE SECOND FORM's CARD OF 'signkeep1.RoundsReturn'. -/
def roundsReturnUptoCard : Claim7 := { stood := { row := roundsReturnUptoRow, standIns := [], harness := (true, "5c6042b6719086c6843f09542f90b37ac6ba3e4a40858dc747b8b7ba0b41cb53"), looks := true }, kinds := [], alts := [], laidByText := true, laidKinds := [.data, .data, .data, .data, .sentinel, .sentinel, .pinned], laidTests := true, laidLooks := .later }
def RoundsReturnUptoCardSaid : Prop := Claim7.holds Tryz.pinned (.plain (OpenSpec.upto roundsReturnSpec)) roundsReturnUptoCard

/-- THE SECOND FORM's CARD OF 'signkeep1.SharesAreExact'. -/
def sharesAreExactUptoCard : Claim7 := { stood := { row := sharesAreExactUptoRow, standIns := [], harness := (true, "5c6042b6719086c6843f09542f90b37ac6ba3e4a40858dc747b8b7ba0b41cb53"), looks := true }, kinds := [], alts := [], laidByText := true, laidKinds := [.data, .data, .data, .data, .sentinel, .sentinel, .pinned], laidTests := true, laidLooks := .later }
def SharesAreExactUptoCardSaid : Prop := Claim7.holds Tryz.pinned (.plain (OpenSpec.upto sharesAreExactSpec)) sharesAreExactUptoCard

/-- THE SECOND FORM's CARD OF 'signkeep1.SmallLoopsPlayTheSame'. -/
def smallLoopsPlayTheSameUptoCard : Claim7 := { stood := { row := smallLoopsPlayTheSameUptoRow, standIns := [], harness := (true, "5c6042b6719086c6843f09542f90b37ac6ba3e4a40858dc747b8b7ba0b41cb53"), looks := true }, kinds := [], alts := [], laidByText := true, laidKinds := [.data, .data, .data, .data, .sentinel, .sentinel, .pinned], laidTests := true, laidLooks := .later }
def SmallLoopsPlayTheSameUptoCardSaid : Prop := Claim7.holds Tryz.pinned (.plain (OpenSpec.upto smallLoopsPlayTheSameSpec)) smallLoopsPlayTheSameUptoCard

/-- THE SECOND FORM's CARD OF 'signkeep1.SpreadsKeepApart'. -/
def spreadsKeepApartUptoCard : Claim7 := { stood := { row := spreadsKeepApartUptoRow, standIns := [], harness := (true, "5c6042b6719086c6843f09542f90b37ac6ba3e4a40858dc747b8b7ba0b41cb53"), looks := true }, kinds := [], alts := [], laidByText := true, laidKinds := [.data, .data, .data, .data, .sentinel, .sentinel, .pinned], laidTests := true, laidLooks := .later }
def SpreadsKeepApartUptoCardSaid : Prop := Claim7.holds Tryz.pinned (.plain (OpenSpec.upto spreadsKeepApartSpec)) spreadsKeepApartUptoCard

/-- THE SECOND FORM's CARD OF 'signkeep1.NothingIsLost'. -/
def nothingIsLostUptoCard : Claim7 := { stood := { row := nothingIsLostUptoRow, standIns := [], harness := (true, "5c6042b6719086c6843f09542f90b37ac6ba3e4a40858dc747b8b7ba0b41cb53"), looks := true }, kinds := [], alts := [], laidByText := true, laidKinds := [.data, .data, .data, .data, .sentinel, .sentinel, .pinned], laidTests := true, laidLooks := .later }
def NothingIsLostUptoCardSaid : Prop := Claim7.holds Tryz.pinned (.plain (OpenSpec.upto nothingIsLostSpec)) nothingIsLostUptoCard

/-- THE SECOND FORM's CARD OF 'signkeep1.DoneIsCarried'. -/
def doneIsCarriedUptoCard : Claim7 := { stood := { row := doneIsCarriedUptoRow, standIns := [], harness := (true, "5c6042b6719086c6843f09542f90b37ac6ba3e4a40858dc747b8b7ba0b41cb53"), looks := true }, kinds := [], alts := [], laidByText := true, laidKinds := [.data, .data, .data, .data, .sentinel, .sentinel, .pinned], laidTests := true, laidLooks := .later }
def DoneIsCarriedUptoCardSaid : Prop := Claim7.holds Tryz.pinned (.plain (OpenSpec.upto doneIsCarriedSpec)) doneIsCarriedUptoCard

/-- THE SECOND FORM's CARD OF 'signkeep1.PartsAreWhole'. -/
def partsAreWholeUptoCard : Claim7 := { stood := { row := partsAreWholeUptoRow, standIns := [], harness := (true, "5c6042b6719086c6843f09542f90b37ac6ba3e4a40858dc747b8b7ba0b41cb53"), looks := true }, kinds := [], alts := [], laidByText := true, laidKinds := [.data, .data, .data, .data, .sentinel, .sentinel, .pinned], laidTests := true, laidLooks := .later }
def PartsAreWholeUptoCardSaid : Prop := Claim7.holds Tryz.pinned (.plain (OpenSpec.upto partsAreWholeSpec)) partsAreWholeUptoCard

/-- THE SECOND FORM's CARD OF 'signkeep1.PlansAreBest'. -/
def plansAreBestUptoCard : Claim7 := { stood := { row := plansAreBestUptoRow, standIns := [], harness := (true, "5c6042b6719086c6843f09542f90b37ac6ba3e4a40858dc747b8b7ba0b41cb53"), looks := true }, kinds := [], alts := [], laidByText := true, laidKinds := [.data, .data, .data, .data, .sentinel, .sentinel, .pinned], laidTests := true, laidLooks := .later }
def PlansAreBestUptoCardSaid : Prop := Claim7.holds Tryz.pinned (.plain (OpenSpec.upto plansAreBestSpec)) plansAreBestUptoCard

/-- THE SECOND FORM's CARD OF 'signkeep1.WhatIsMissingIsAll'. -/
def whatIsMissingIsAllUptoCard : Claim7 := { stood := { row := whatIsMissingIsAllUptoRow, standIns := [], harness := (true, "5c6042b6719086c6843f09542f90b37ac6ba3e4a40858dc747b8b7ba0b41cb53"), looks := true }, kinds := [], alts := [], laidByText := true, laidKinds := [.data, .data, .data, .data, .sentinel, .sentinel, .pinned], laidTests := true, laidLooks := .later }
def WhatIsMissingIsAllUptoCardSaid : Prop := Claim7.holds Tryz.pinned (.plain (OpenSpec.upto whatIsMissingIsAllSpec)) whatIsMissingIsAllUptoCard

/-- THE SECOND FORM's CARD OF 'signkeep1.NobodyGivesTwice'. -/
def nobodyGivesTwiceUptoCard : Claim7 := { stood := { row := nobodyGivesTwiceUptoRow, standIns := [], harness := (true, "5c6042b6719086c6843f09542f90b37ac6ba3e4a40858dc747b8b7ba0b41cb53"), looks := true }, kinds := [], alts := [], laidByText := true, laidKinds := [.data, .data, .data, .data, .sentinel, .sentinel, .pinned], laidTests := true, laidLooks := .later }
def NobodyGivesTwiceUptoCardSaid : Prop := Claim7.holds Tryz.pinned (.plain (OpenSpec.upto nobodyGivesTwiceSpec)) nobodyGivesTwiceUptoCard
end Rows
end Go.Proofs.YtidkkmoiolffnaaGreatDoor
