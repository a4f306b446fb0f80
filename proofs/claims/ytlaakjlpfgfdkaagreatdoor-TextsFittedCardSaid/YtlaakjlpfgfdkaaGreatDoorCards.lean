/-
  DERIVED. GIVEN WITH THE SEED: THE CARDS: each row of YtlaakjlpfgfdkaaGreatDoorRows.lean that lists a variable, with what it lists TIED to the program's text (the seventh form; the later family's looks); each row that meets fmt, with fmt's text TOLD by the authors' own Lean function (tested against real Go, not proved from fmt's source: count such statements apart). THE CARD IS WHAT COUNTS. Prove the row's statement (the work); the ties are given (YtlaakjlpfgfdkaaGreatDoorTie.lean); close each card by the builder's one call (the guide's Derived/Test/ToyasCard.lean, 'card_holds'). Laid BY PROGRAM, IN A SANDBOX (cutbox-door.mjs). By AI agents, Wed Nov 11 2026. No macro, syntax, notation, axiom, sorry.
-/
import Derived.Test.YtlaakjlpfgfdkaaGreatDoorRows
import GoSem.ClaimSeven
namespace Go.Proofs.YtlaakjlpfgfdkaaGreatDoor
namespace Rows

/-- THE TIED CARD OF 'signlaw1.LinesBroken'. -/
def linesBrokenCard : Claim7 := { stood := { row := linesBrokenRow, standIns := [], harness := (true, "1ed26cac0e73632f132e34017e890cdd45cdc67d0bce9a3067e245bbc0078dd2"), looks := true }, kinds := [], alts := [], laidByText := true, laidKinds := [.data, .data, .data, .data, .sentinel, .sentinel, .pinned], laidTests := true, laidLooks := .later }
def LinesBrokenCardSaid : Prop := Claim7.holds Tryz.pinned (.plain (OpenSpec.ofChange linesBrokenSpec)) linesBrokenCard

/-- THE TIED CARD OF 'signlaw1.TextsFitted'. -/
def textsFittedCard : Claim7 := { stood := { row := textsFittedRow, standIns := [], harness := (true, "1ed26cac0e73632f132e34017e890cdd45cdc67d0bce9a3067e245bbc0078dd2"), looks := true }, kinds := [], alts := [], laidByText := true, laidKinds := [.data, .data, .data, .data, .sentinel, .sentinel, .pinned], laidTests := true, laidLooks := .later }
def TextsFittedCardSaid : Prop := Claim7.holds Tryz.pinned (.plain (OpenSpec.ofChange textsFittedSpec)) textsFittedCard

/-- THE TIED CARD OF 'signkeep1.ShortIsNotWide'. -/
def shortIsNotWideCard : Claim7 := { stood := { row := shortIsNotWideRow, standIns := [], harness := (true, "1ed26cac0e73632f132e34017e890cdd45cdc67d0bce9a3067e245bbc0078dd2"), looks := true }, kinds := [], alts := [], laidByText := true, laidKinds := [.data, .data, .data, .data, .sentinel, .sentinel, .pinned], laidTests := true, laidLooks := .later }
def ShortIsNotWideCardSaid : Prop := Claim7.holds Tryz.pinned (.plain (OpenSpec.ofChange shortIsNotWideSpec)) shortIsNotWideCard

/-- THE TIED CARD OF 'signkeep1.LinesHaveAllWords'. -/
def linesHaveAllWordsCard : Claim7 := { stood := { row := linesHaveAllWordsRow, standIns := [], harness := (true, "1ed26cac0e73632f132e34017e890cdd45cdc67d0bce9a3067e245bbc0078dd2"), looks := true }, kinds := [], alts := [], laidByText := true, laidKinds := [.data, .data, .data, .data, .sentinel, .sentinel, .pinned], laidTests := true, laidLooks := .later }
def LinesHaveAllWordsCardSaid : Prop := Claim7.holds Tryz.pinned (.plain (OpenSpec.ofChange linesHaveAllWordsSpec)) linesHaveAllWordsCard

/-- THE SECOND FORM's CARD OF 'signlaw1.LinesBroken'. -/
def linesBrokenUptoCard : Claim7 := { stood := { row := linesBrokenUptoRow, standIns := [], harness := (true, "1ed26cac0e73632f132e34017e890cdd45cdc67d0bce9a3067e245bbc0078dd2"), looks := true }, kinds := [], alts := [], laidByText := true, laidKinds := [.data, .data, .data, .data, .sentinel, .sentinel, .pinned], laidTests := true, laidLooks := .later }
def LinesBrokenUptoCardSaid : Prop := Claim7.holds Tryz.pinned (.plain (OpenSpec.upto linesBrokenSpec)) linesBrokenUptoCard

/-- THE SECOND FORM's CARD OF 'signlaw1.TextsFitted'. -/
def textsFittedUptoCard : Claim7 := { stood := { row := textsFittedUptoRow, standIns := [], harness := (true, "1ed26cac0e73632f132e34017e890cdd45cdc67d0bce9a3067e245bbc0078dd2"), looks := true }, kinds := [], alts := [], laidByText := true, laidKinds := [.data, .data, .data, .data, .sentinel, .sentinel, .pinned], laidTests := true, laidLooks := .later }
def TextsFittedUptoCardSaid : Prop := Claim7.holds Tryz.pinned (.plain (OpenSpec.upto textsFittedSpec)) textsFittedUptoCard

/-- THE SECOND FORM's CARD OF 'signkeep1.ShortIsNotWide'. -/
def shortIsNotWideUptoCard : Claim7 := { stood := { row := shortIsNotWideUptoRow, standIns := [], harness := (true, "1ed26cac0e73632f132e34017e890cdd45cdc67d0bce9a3067e245bbc0078dd2"), looks := true }, kinds := [], alts := [], laidByText := true, laidKinds := [.data, .data, .data, .data, .sentinel, .sentinel, .pinned], laidTests := true, laidLooks := .later }
def ShortIsNotWideUptoCardSaid : Prop := Claim7.holds Tryz.pinned (.plain (OpenSpec.upto shortIsNotWideSpec)) shortIsNotWideUptoCard

/-- THE SECOND FORM's CARD OF 'signkeep1.LinesHaveAllWords'. -/
def linesHaveAllWordsUptoCard : Claim7 := { stood := { row := linesHaveAllWordsUptoRow, standIns := [], harness := (true, "1ed26cac0e73632f132e34017e890cdd45cdc67d0bce9a3067e245bbc0078dd2"), looks := true }, kinds := [], alts := [], laidByText := true, laidKinds := [.data, .data, .data, .data, .sentinel, .sentinel, .pinned], laidTests := true, laidLooks := .later }
def LinesHaveAllWordsUptoCardSaid : Prop := Claim7.holds Tryz.pinned (.plain (OpenSpec.upto linesHaveAllWordsSpec)) linesHaveAllWordsUptoCard
end Rows
end Go.Proofs.YtlaakjlpfgfdkaaGreatDoor
