/-
  DERIVED. GIVEN WITH THE SEED: THE CARDS: each row of YtbmicihfhfcpkaaGreatDoorRows.lean that lists a variable, with what it lists TIED to the program's text (the seventh form; the later family's looks); each row that meets fmt, with fmt's text TOLD by the authors' own Lean function (tested against real Go, not proved from fmt's source: count such statements apart). THE CARD IS WHAT COUNTS. Prove the row's statement (the work); the ties are given (YtbmicihfhfcpkaaGreatDoorTie.lean); close each card by the builder's one call (the guide's Derived/Test/ToyasCard.lean, 'card_holds'). Laid BY PROGRAM, IN A SANDBOX (cutbox-door.mjs). By AI agents, Wed Nov 11 2026. No macro, syntax, notation, axiom, sorry.
-/
import Derived.Test.YtbmicihfhfcpkaaGreatDoorRows
import GoSem.ClaimSeven
namespace Go.Proofs.YtbmicihfhfcpkaaGreatDoor
namespace Rows

/-- THE TIED CARD OF 'nacellelaw07.LoadTexts'. -/
def loadTextsCard : Claim7 := { stood := { row := loadTextsRow, standIns := [], harness := (true, "fbd6228b2e06c545e4e5b77b5a2c8800b3b6d9d073f3c029d1a38dec7cde0e09"), looks := true }, kinds := [], alts := [], laidByText := true, laidKinds := [.data, .data, .data, .data, .sentinel, .sentinel, .pinned], laidTests := true, laidLooks := .later }
def LoadTextsCardSaid : Prop := Claim7.holds Tryz.pinned (.plain (OpenSpec.ofChange loadTextsSpec)) loadTextsCard

/-- THE TIED CARD OF 'nacellelaw07.LoadBack'. -/
def loadBackCard : Claim7 := { stood := { row := loadBackRow, standIns := [], harness := (true, "fbd6228b2e06c545e4e5b77b5a2c8800b3b6d9d073f3c029d1a38dec7cde0e09"), looks := true }, kinds := [], alts := [], laidByText := true, laidKinds := [.data, .data, .data, .data, .sentinel, .sentinel, .pinned], laidTests := true, laidLooks := .later }
def LoadBackCardSaid : Prop := Claim7.holds Tryz.pinned (.plain (OpenSpec.ofChange loadBackSpec)) loadBackCard

/-- THE SECOND FORM's CARD OF 'nacellelaw07.LoadTexts'. -/
def loadTextsUptoCard : Claim7 := { stood := { row := loadTextsUptoRow, standIns := [], harness := (true, "fbd6228b2e06c545e4e5b77b5a2c8800b3b6d9d073f3c029d1a38dec7cde0e09"), looks := true }, kinds := [], alts := [], laidByText := true, laidKinds := [.data, .data, .data, .data, .sentinel, .sentinel, .pinned], laidTests := true, laidLooks := .later }
def LoadTextsUptoCardSaid : Prop := Claim7.holds Tryz.pinned (.plain (OpenSpec.upto loadTextsSpec)) loadTextsUptoCard

/-- THE SECOND FORM's CARD OF 'nacellelaw07.LoadBack'. -/
def loadBackUptoCard : Claim7 := { stood := { row := loadBackUptoRow, standIns := [], harness := (true, "fbd6228b2e06c545e4e5b77b5a2c8800b3b6d9d073f3c029d1a38dec7cde0e09"), looks := true }, kinds := [], alts := [], laidByText := true, laidKinds := [.data, .data, .data, .data, .sentinel, .sentinel, .pinned], laidTests := true, laidLooks := .later }
def LoadBackUptoCardSaid : Prop := Claim7.holds Tryz.pinned (.plain (OpenSpec.upto loadBackSpec)) loadBackUptoCard
end Rows
end Go.Proofs.YtbmicihfhfcpkaaGreatDoor
