/-
  DERIVED. GIVEN WITH THE SEED: THE CARDS: each row of YtpnfkfbapfnboaaGreatDoorRows.lean that lists a variable, with what it lists TIED to the program's text (the seventh form; the later family's looks); each row that meets fmt, with fmt's text TOLD by the authors' own Lean function (tested against real Go, not proved from fmt's source: count such statements apart). THE CARD IS WHAT COUNTS. Prove the row's statement (the work); the ties are given (YtpnfkfbapfnboaaGreatDoorTie.lean); close each card by the builder's one call (the guide's Derived/Test/ToyasCard.lean, 'card_holds'). Laid BY PROGRAM, IN A SANDBOX (cutbox-door.mjs). By AI agents, Wed Nov 11 2026. No macro, syntax, notation, axiom, sorry.
-/
import Derived.Test.YtpnfkfbapfnboaaGreatDoorRows
import GoSem.ClaimSeven
namespace Go.Proofs.YtpnfkfbapfnboaaGreatDoor
namespace Rows

/-- THE TIED CARD OF 'signlaw1.FormsShown'. -/
def formsShownCard : Claim7 := { stood := { row := formsShownRow, standIns := [], harness := (true, "b45b62b67eba12e5f469e28c1101e218c68c94902cffcd70e8b4e438adbc1b94"), looks := true }, kinds := [], alts := [], laidByText := true, laidKinds := [.data, .pinned], laidTests := true, laidLooks := .later }
def FormsShownCardSaid : Prop := Claim7.holds Tryz.pinned (.plain (OpenSpec.ofChange formsShownSpec)) formsShownCard

/-- THE TIED CARD OF 'signlaw1.AssetsMerge'. -/
def assetsMergeCard : Claim7 := { stood := { row := assetsMergeRow, standIns := [], harness := (true, "b45b62b67eba12e5f469e28c1101e218c68c94902cffcd70e8b4e438adbc1b94"), looks := true }, kinds := [], alts := [], laidByText := true, laidKinds := [.data, .pinned], laidTests := true, laidLooks := .later }
def AssetsMergeCardSaid : Prop := Claim7.holds Tryz.pinned (.plain (OpenSpec.ofChange assetsMergeSpec)) assetsMergeCard

/-- THE TIED CARD OF 'signlaw1.AssetTexts'. -/
def assetTextsCard : Claim7 := { stood := { row := assetTextsRow, standIns := [], harness := (true, "b45b62b67eba12e5f469e28c1101e218c68c94902cffcd70e8b4e438adbc1b94"), looks := true }, kinds := [], alts := [], laidByText := true, laidKinds := [.data, .data, .data, .data, .sentinel, .sentinel, .pinned], laidTests := true, laidLooks := .later }
def AssetTextsCardSaid : Prop := Claim7.holds Tryz.pinned (.plain (OpenSpec.ofChange assetTextsSpec)) assetTextsCard

/-- THE TIED CARD OF 'signkeep1.AssetsComeBack'. -/
def assetsComeBackCard : Claim7 := { stood := { row := assetsComeBackRow, standIns := [], harness := (true, "b45b62b67eba12e5f469e28c1101e218c68c94902cffcd70e8b4e438adbc1b94"), looks := true }, kinds := [], alts := [], laidByText := true, laidKinds := [.data, .data, .data, .data, .sentinel, .sentinel, .pinned], laidTests := true, laidLooks := .later }
def AssetsComeBackCardSaid : Prop := Claim7.holds Tryz.pinned (.plain (OpenSpec.ofChange assetsComeBackSpec)) assetsComeBackCard

/-- THE TIED CARD OF 'signkeep1.AssetsStay'. -/
def assetsStayCard : Claim7 := { stood := { row := assetsStayRow, standIns := [], harness := (true, "b45b62b67eba12e5f469e28c1101e218c68c94902cffcd70e8b4e438adbc1b94"), looks := true }, kinds := [], alts := [], laidByText := true, laidKinds := [.data, .data, .data, .data, .sentinel, .sentinel, .pinned], laidTests := true, laidLooks := .later }
def AssetsStayCardSaid : Prop := Claim7.holds Tryz.pinned (.plain (OpenSpec.ofChange assetsStaySpec)) assetsStayCard

/-- THE SECOND FORM's CARD OF 'signlaw1.FormsShown'. -/
def formsShownUptoCard : Claim7 := { stood := { row := formsShownUptoRow, standIns := [], harness := (true, "b45b62b67eba12e5f469e28c1101e218c68c94902cffcd70e8b4e438adbc1b94"), looks := true }, kinds := [], alts := [], laidByText := true, laidKinds := [.data, .pinned], laidTests := true, laidLooks := .later }
def FormsShownUptoCardSaid : Prop := Claim7.holds Tryz.pinned (.plain (OpenSpec.upto formsShownSpec)) formsShownUptoCard

/-- THE SECOND FORM's CARD OF 'signlaw1.AssetsMerge'. -/
def assetsMergeUptoCard : Claim7 := { stood := { row := assetsMergeUptoRow, standIns := [], harness := (true, "b45b62b67eba12e5f469e28c1101e218c68c94902cffcd70e8b4e438adbc1b94"), looks := true }, kinds := [], alts := [], laidByText := true, laidKinds := [.data, .pinned], laidTests := true, laidLooks := .later }
def AssetsMergeUptoCardSaid : Prop := Claim7.holds Tryz.pinned (.plain (OpenSpec.upto assetsMergeSpec)) assetsMergeUptoCard

/-- THE SECOND FORM's CARD OF 'signlaw1.AssetTexts'. -/
def assetTextsUptoCard : Claim7 := { stood := { row := assetTextsUptoRow, standIns := [], harness := (true, "b45b62b67eba12e5f469e28c1101e218c68c94902cffcd70e8b4e438adbc1b94"), looks := true }, kinds := [], alts := [], laidByText := true, laidKinds := [.data, .data, .data, .data, .sentinel, .sentinel, .pinned], laidTests := true, laidLooks := .later }
def AssetTextsUptoCardSaid : Prop := Claim7.holds Tryz.pinned (.plain (OpenSpec.upto assetTextsSpec)) assetTextsUptoCard

/-- THE SECOND FORM's CARD OF 'signkeep1.AssetsComeBack'. -/
def assetsComeBackUptoCard : Claim7 := { stood := { row := assetsComeBackUptoRow, standIns := [], harness := (true, "b45b62b67eba12e5f469e28c1101e218c68c94902cffcd70e8b4e438adbc1b94"), looks := true }, kinds := [], alts := [], laidByText := true, laidKinds := [.data, .data, .data, .data, .sentinel, .sentinel, .pinned], laidTests := true, laidLooks := .later }
def AssetsComeBackUptoCardSaid : Prop := Claim7.holds Tryz.pinned (.plain (OpenSpec.upto assetsComeBackSpec)) assetsComeBackUptoCard

/-- THE SECOND FORM's CARD OF 'signkeep1.AssetsStay'. -/
def assetsStayUptoCard : Claim7 := { stood := { row := assetsStayUptoRow, standIns := [], harness := (true, "b45b62b67eba12e5f469e28c1101e218c68c94902cffcd70e8b4e438adbc1b94"), looks := true }, kinds := [], alts := [], laidByText := true, laidKinds := [.data, .data, .data, .data, .sentinel, .sentinel, .pinned], laidTests := true, laidLooks := .later }
def AssetsStayUptoCardSaid : Prop := Claim7.holds Tryz.pinned (.plain (OpenSpec.upto assetsStaySpec)) assetsStayUptoCard
end Rows
end Go.Proofs.YtpnfkfbapfnboaaGreatDoor
