/-
  DERIVED. GIVEN WITH THE SEED: THE CARDS: each row of YtcbfjgpdogcdbaaGreatDoorRows.lean that lists a variable, with what it lists TIED to the program's text (the seventh form; the later family's looks); each row that meets fmt, with fmt's text TOLD by the authors' own Lean function (tested against real Go, not proved from fmt's source: count such statements apart). THE CARD IS WHAT COUNTS. Prove the row's statement (the work); the ties are given (YtcbfjgpdogcdbaaGreatDoorTie.lean); close each card by the builder's one call (the guide's Derived/Test/ToyasCard.lean, 'card_holds'). Laid BY PROGRAM, IN A SANDBOX (cutbox-door.mjs). By AI agents, Wed Nov 11 2026. No macro, syntax, notation, axiom, sorry.
-/
import Derived.Test.YtcbfjgpdogcdbaaGreatDoorRows
import GoSem.ClaimSeven
namespace Go.Proofs.YtcbfjgpdogcdbaaGreatDoor
namespace Rows

/-- THE TIED CARD OF 'nacelletop.TopGaleSeries'. -/
def topGaleSeriesCard : Claim7 := { stood := { row := topGaleSeriesRow, standIns := [], harness := (true, "a25dffce3c30546b94e8ee5d41b68ac28fd268b24cbd70f5808d3193a1aab2f2"), looks := true }, kinds := [], alts := [], laidByText := true, laidKinds := [.data, .data, .data], laidTests := true, laidLooks := .later }
def TopGaleSeriesCardSaid : Prop := Claim7.holds Tryz.pinned (.plain (OpenSpec.ofChange topGaleSeriesSpec)) topGaleSeriesCard

/-- THE TIED CARD OF 'nacelletop.TopGaleTurned'. -/
def topGaleTurnedCard : Claim7 := { stood := { row := topGaleTurnedRow, standIns := [], harness := (true, "a25dffce3c30546b94e8ee5d41b68ac28fd268b24cbd70f5808d3193a1aab2f2"), looks := true }, kinds := [], alts := [], laidByText := true, laidKinds := [.data, .data, .data, .data, .sentinel, .sentinel, .data, .pinned], laidTests := true, laidLooks := .later }
def TopGaleTurnedCardSaid : Prop := Claim7.holds Tryz.pinned (.plain (OpenSpec.ofChange topGaleTurnedSpec)) topGaleTurnedCard

/-- THE SECOND FORM's CARD OF 'nacelletop.TopGaleSeries'. -/
def topGaleSeriesUptoCard : Claim7 := { stood := { row := topGaleSeriesUptoRow, standIns := [], harness := (true, "a25dffce3c30546b94e8ee5d41b68ac28fd268b24cbd70f5808d3193a1aab2f2"), looks := true }, kinds := [], alts := [], laidByText := true, laidKinds := [.data, .data, .data], laidTests := true, laidLooks := .later }
def TopGaleSeriesUptoCardSaid : Prop := Claim7.holds Tryz.pinned (.plain (OpenSpec.upto topGaleSeriesSpec)) topGaleSeriesUptoCard

/-- THE SECOND FORM's CARD OF 'nacelletop.TopGaleTurned'. -/
def topGaleTurnedUptoCard : Claim7 := { stood := { row := topGaleTurnedUptoRow, standIns := [], harness := (true, "a25dffce3c30546b94e8ee5d41b68ac28fd268b24cbd70f5808d3193a1aab2f2"), looks := true }, kinds := [], alts := [], laidByText := true, laidKinds := [.data, .data, .data, .data, .sentinel, .sentinel, .data, .pinned], laidTests := true, laidLooks := .later }
def TopGaleTurnedUptoCardSaid : Prop := Claim7.holds Tryz.pinned (.plain (OpenSpec.upto topGaleTurnedSpec)) topGaleTurnedUptoCard
end Rows
end Go.Proofs.YtcbfjgpdogcdbaaGreatDoor
