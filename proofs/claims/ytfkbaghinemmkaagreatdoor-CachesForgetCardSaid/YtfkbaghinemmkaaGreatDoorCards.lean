/-
  DERIVED. GIVEN WITH THE SEED: THE CARDS: each row of YtfkbaghinemmkaaGreatDoorRows.lean that lists a variable, with what it lists TIED to the program's text (the seventh form; the later family's looks); each row that meets fmt, with fmt's text TOLD by the authors' own Lean function (tested against real Go, not proved from fmt's source: count such statements apart). THE CARD IS WHAT COUNTS. Prove the row's statement (the work); the ties are given (YtfkbaghinemmkaaGreatDoorTie.lean); close each card by the builder's one call (the guide's Derived/Test/ToyasCard.lean, 'card_holds'). Laid BY PROGRAM, IN A SANDBOX (cutbox-door.mjs). By AI agents, Wed Nov 11 2026. No macro, syntax, notation, axiom, sorry.
-/
import Derived.Test.YtfkbaghinemmkaaGreatDoorRows
import GoSem.ClaimSeven
namespace Go.Proofs.YtfkbaghinemmkaaGreatDoor
namespace Rows

/-- THE TIED CARD OF 'signlaw1.CachesForget'. -/
def cachesForgetCard : Claim7 := { stood := { row := cachesForgetRow, standIns := [], harness := (true, "584ec7ee7a5f576302026e1d3fb8b31980ba23fc5ddd59ce93b099258c2969c2"), looks := true }, kinds := [], alts := [], laidByText := true, laidKinds := [.data, .pinned], laidTests := true, laidLooks := .later }
def CachesForgetCardSaid : Prop := Claim7.holds Tryz.pinned (.plain (OpenSpec.ofChange cachesForgetSpec)) cachesForgetCard

/-- THE TIED CARD OF 'signlaw1.AssetsMerge'. -/
def assetsMergeCard : Claim7 := { stood := { row := assetsMergeRow, standIns := [], harness := (true, "584ec7ee7a5f576302026e1d3fb8b31980ba23fc5ddd59ce93b099258c2969c2"), looks := true }, kinds := [], alts := [], laidByText := true, laidKinds := [.data, .pinned], laidTests := true, laidLooks := .later }
def AssetsMergeCardSaid : Prop := Claim7.holds Tryz.pinned (.plain (OpenSpec.ofChange assetsMergeSpec)) assetsMergeCard

/-- THE TIED CARD OF 'signlaw1.MissesCounted'. -/
def missesCountedCard : Claim7 := { stood := { row := missesCountedRow, standIns := [], harness := (true, "584ec7ee7a5f576302026e1d3fb8b31980ba23fc5ddd59ce93b099258c2969c2"), looks := true }, kinds := [], alts := [], laidByText := true, laidKinds := [.data, .listed, .data, .pinned], laidTests := true, laidLooks := .later }
def MissesCountedCardSaid : Prop := Claim7.holds Tryz.pinned (.plain (OpenSpec.ofChange missesCountedSpec)) missesCountedCard

/-- THE TIED CARD OF 'signkeep1.MissesHaveBounds'. -/
def missesHaveBoundsCard : Claim7 := { stood := { row := missesHaveBoundsRow, standIns := [], harness := (true, "584ec7ee7a5f576302026e1d3fb8b31980ba23fc5ddd59ce93b099258c2969c2"), looks := true }, kinds := [], alts := [], laidByText := true, laidKinds := [.data, .data, .data, .data, .sentinel, .sentinel, .pinned], laidTests := true, laidLooks := .later }
def MissesHaveBoundsCardSaid : Prop := Claim7.holds Tryz.pinned (.plain (OpenSpec.ofChange missesHaveBoundsSpec)) missesHaveBoundsCard

/-- THE SECOND FORM's CARD OF 'signlaw1.CachesForget'. -/
def cachesForgetUptoCard : Claim7 := { stood := { row := cachesForgetUptoRow, standIns := [], harness := (true, "584ec7ee7a5f576302026e1d3fb8b31980ba23fc5ddd59ce93b099258c2969c2"), looks := true }, kinds := [], alts := [], laidByText := true, laidKinds := [.data, .pinned], laidTests := true, laidLooks := .later }
def CachesForgetUptoCardSaid : Prop := Claim7.holds Tryz.pinned (.plain (OpenSpec.upto cachesForgetSpec)) cachesForgetUptoCard

/-- THE SECOND FORM's CARD OF 'signlaw1.AssetsMerge'. -/
def assetsMergeUptoCard : Claim7 := { stood := { row := assetsMergeUptoRow, standIns := [], harness := (true, "584ec7ee7a5f576302026e1d3fb8b31980ba23fc5ddd59ce93b099258c2969c2"), looks := true }, kinds := [], alts := [], laidByText := true, laidKinds := [.data, .pinned], laidTests := true, laidLooks := .later }
def AssetsMergeUptoCardSaid : Prop := Claim7.holds Tryz.pinned (.plain (OpenSpec.upto assetsMergeSpec)) assetsMergeUptoCard

/-- THE SECOND FORM's CARD OF 'signlaw1.MissesCounted'. -/
def missesCountedUptoCard : Claim7 := { stood := { row := missesCountedUptoRow, standIns := [], harness := (true, "584ec7ee7a5f576302026e1d3fb8b31980ba23fc5ddd59ce93b099258c2969c2"), looks := true }, kinds := [], alts := [], laidByText := true, laidKinds := [.data, .listed, .data, .pinned], laidTests := true, laidLooks := .later }
def MissesCountedUptoCardSaid : Prop := Claim7.holds Tryz.pinned (.plain (OpenSpec.upto missesCountedSpec)) missesCountedUptoCard

/-- THE SECOND FORM's CARD OF 'signkeep1.MissesHaveBounds'. -/
def missesHaveBoundsUptoCard : Claim7 := { stood := { row := missesHaveBoundsUptoRow, standIns := [], harness := (true, "584ec7ee7a5f576302026e1d3fb8b31980ba23fc5ddd59ce93b099258c2969c2"), looks := true }, kinds := [], alts := [], laidByText := true, laidKinds := [.data, .data, .data, .data, .sentinel, .sentinel, .pinned], laidTests := true, laidLooks := .later }
def MissesHaveBoundsUptoCardSaid : Prop := Claim7.holds Tryz.pinned (.plain (OpenSpec.upto missesHaveBoundsSpec)) missesHaveBoundsUptoCard
end Rows
end Go.Proofs.YtfkbaghinemmkaaGreatDoor
