/-
  DERIVED. GIVEN WITH THE SEED: THE CARDS: each row of YtclanmkmbjinaaaGreatDoorRows.lean that lists a variable, with what it lists TIED to the program's text (the seventh form; the later family's looks); each row that meets fmt, with fmt's text TOLD by the authors' own Lean function (tested against real Go, not proved from fmt's source: count such statements apart). THE CARD IS WHAT COUNTS. Prove the row's statement (the work); the ties are given (YtclanmkmbjinaaaGreatDoorTie.lean); close each card by the builder's one call (the guide's Derived/Test/ToyasCard.lean, 'card_holds'). Laid BY PROGRAM, IN A SANDBOX (cutbox-door.mjs). By AI agents, Wed Nov 11 2026. No macro, syntax, notation, axiom, sorry.
-/
import Derived.Test.YtclanmkmbjinaaaGreatDoorRows
import GoSem.ClaimSeven
namespace Go.Proofs.YtclanmkmbjinaaaGreatDoor
namespace Rows

/-- THE TIED CARD OF 'nacellelaw01.SiteSpans'. -/
def siteSpansCard : Claim7 := { stood := { row := siteSpansRow, standIns := [], harness := (true, "38e7c6aea81c656adca26251d7389b511e31ca28a75eea5c7c89ce124f93e9f9"), looks := true }, kinds := [], alts := [], laidByText := true, laidKinds := [.data, .data, .data, .data], laidTests := true, laidLooks := .later }
def SiteSpansCardSaid : Prop := Claim7.holds Tryz.pinned (.plain (OpenSpec.ofChange siteSpansSpec)) siteSpansCard

/-- THE TIED CARD OF 'nacellelaw01.SiteSets'. -/
def siteSetsCard : Claim7 := { stood := { row := siteSetsRow, standIns := [], harness := (true, "38e7c6aea81c656adca26251d7389b511e31ca28a75eea5c7c89ce124f93e9f9"), looks := true }, kinds := [], alts := [], laidByText := true, laidKinds := [.data, .data, .data, .data], laidTests := true, laidLooks := .later }
def SiteSetsCardSaid : Prop := Claim7.holds Tryz.pinned (.plain (OpenSpec.ofChange siteSetsSpec)) siteSetsCard

/-- THE TIED CARD OF 'nacellelaw01.SiteLaws'. -/
def siteLawsCard : Claim7 := { stood := { row := siteLawsRow, standIns := [], harness := (true, "38e7c6aea81c656adca26251d7389b511e31ca28a75eea5c7c89ce124f93e9f9"), looks := true }, kinds := [], alts := [], laidByText := true, laidKinds := [.data, .data, .data, .data], laidTests := true, laidLooks := .later }
def SiteLawsCardSaid : Prop := Claim7.holds Tryz.pinned (.plain (OpenSpec.ofChange siteLawsSpec)) siteLawsCard

/-- THE TIED CARD OF 'nacellelaw01.SiteLayouts'. -/
def siteLayoutsCard : Claim7 := { stood := { row := siteLayoutsRow, standIns := [], harness := (true, "38e7c6aea81c656adca26251d7389b511e31ca28a75eea5c7c89ce124f93e9f9"), looks := true }, kinds := [], alts := [], laidByText := true, laidKinds := [.data, .data, .data, .data], laidTests := true, laidLooks := .later }
def SiteLayoutsCardSaid : Prop := Claim7.holds Tryz.pinned (.plain (OpenSpec.ofChange siteLayoutsSpec)) siteLayoutsCard

/-- THE TIED CARD OF 'nacellelaw01.SiteTurned'. -/
def siteTurnedCard : Claim7 := { stood := { row := siteTurnedRow, standIns := [], harness := (true, "38e7c6aea81c656adca26251d7389b511e31ca28a75eea5c7c89ce124f93e9f9"), looks := true }, kinds := [], alts := [], laidByText := true, laidKinds := [.data, .data, .data, .data], laidTests := true, laidLooks := .later }
def SiteTurnedCardSaid : Prop := Claim7.holds Tryz.pinned (.plain (OpenSpec.ofChange siteTurnedSpec)) siteTurnedCard

/-- THE TIED CARD OF 'nacellelaw01.SiteRoses'. -/
def siteRosesCard : Claim7 := { stood := { row := siteRosesRow, standIns := [], harness := (true, "38e7c6aea81c656adca26251d7389b511e31ca28a75eea5c7c89ce124f93e9f9"), looks := true }, kinds := [], alts := [], laidByText := true, laidKinds := [.data, .data, .data, .data], laidTests := true, laidLooks := .later }
def SiteRosesCardSaid : Prop := Claim7.holds Tryz.pinned (.plain (OpenSpec.ofChange siteRosesSpec)) siteRosesCard

/-- THE TIED CARD OF 'nacellelaw01.SiteSeries'. -/
def siteSeriesCard : Claim7 := { stood := { row := siteSeriesRow, standIns := [], harness := (true, "38e7c6aea81c656adca26251d7389b511e31ca28a75eea5c7c89ce124f93e9f9"), looks := true }, kinds := [], alts := [], laidByText := true, laidKinds := [.data, .data, .data, .data], laidTests := true, laidLooks := .later }
def SiteSeriesCardSaid : Prop := Claim7.holds Tryz.pinned (.plain (OpenSpec.ofChange siteSeriesSpec)) siteSeriesCard

/-- THE TIED CARD OF 'nacellelaw01.SiteLevels'. -/
def siteLevelsCard : Claim7 := { stood := { row := siteLevelsRow, standIns := [], harness := (true, "38e7c6aea81c656adca26251d7389b511e31ca28a75eea5c7c89ce124f93e9f9"), looks := true }, kinds := [], alts := [], laidByText := true, laidKinds := [.data, .data, .data, .data], laidTests := true, laidLooks := .later }
def SiteLevelsCardSaid : Prop := Claim7.holds Tryz.pinned (.plain (OpenSpec.ofChange siteLevelsSpec)) siteLevelsCard

/-- THE TIED CARD OF 'nacellelaw01.SiteBasics'. -/
def siteBasicsCard : Claim7 := { stood := { row := siteBasicsRow, standIns := [], harness := (true, "38e7c6aea81c656adca26251d7389b511e31ca28a75eea5c7c89ce124f93e9f9"), looks := true }, kinds := [], alts := [], laidByText := true, laidKinds := [.data, .data, .data, .data], laidTests := true, laidLooks := .later }
def SiteBasicsCardSaid : Prop := Claim7.holds Tryz.pinned (.plain (OpenSpec.ofChange siteBasicsSpec)) siteBasicsCard

/-- THE TIED CARD OF 'nacellelaw01.SiteBlown'. -/
def siteBlownCard : Claim7 := { stood := { row := siteBlownRow, standIns := [], harness := (true, "38e7c6aea81c656adca26251d7389b511e31ca28a75eea5c7c89ce124f93e9f9"), looks := true }, kinds := [], alts := [], laidByText := true, laidKinds := [.data, .data, .data, .data], laidTests := true, laidLooks := .later }
def SiteBlownCardSaid : Prop := Claim7.holds Tryz.pinned (.plain (OpenSpec.ofChange siteBlownSpec)) siteBlownCard

/-- THE TIED CARD OF 'nacellelaw01.SiteAdded'. -/
def siteAddedCard : Claim7 := { stood := { row := siteAddedRow, standIns := [], harness := (true, "38e7c6aea81c656adca26251d7389b511e31ca28a75eea5c7c89ce124f93e9f9"), looks := true }, kinds := [], alts := [], laidByText := true, laidKinds := [.data, .data, .data, .data], laidTests := true, laidLooks := .later }
def SiteAddedCardSaid : Prop := Claim7.holds Tryz.pinned (.plain (OpenSpec.ofChange siteAddedSpec)) siteAddedCard

/-- THE TIED CARD OF 'nacellelaw01.SiteStreams'. -/
def siteStreamsCard : Claim7 := { stood := { row := siteStreamsRow, standIns := [], harness := (true, "38e7c6aea81c656adca26251d7389b511e31ca28a75eea5c7c89ce124f93e9f9"), looks := true }, kinds := [], alts := [], laidByText := true, laidKinds := [.data, .data, .data, .data], laidTests := true, laidLooks := .later }
def SiteStreamsCardSaid : Prop := Claim7.holds Tryz.pinned (.plain (OpenSpec.ofChange siteStreamsSpec)) siteStreamsCard

/-- THE TIED CARD OF 'nacellelaw01.SiteTexts'. -/
def siteTextsCard : Claim7 := { stood := { row := siteTextsRow, standIns := [], harness := (true, "38e7c6aea81c656adca26251d7389b511e31ca28a75eea5c7c89ce124f93e9f9"), looks := true }, kinds := [], alts := [], laidByText := true, laidKinds := [.data, .data, .data, .data, .sentinel, .sentinel, .data, .pinned], laidTests := true, laidLooks := .later }
def SiteTextsCardSaid : Prop := Claim7.holds Tryz.pinned (.plain (OpenSpec.ofChange siteTextsSpec)) siteTextsCard

/-- THE TIED CARD OF 'nacellelaw01.SiteBack'. -/
def siteBackCard : Claim7 := { stood := { row := siteBackRow, standIns := [], harness := (true, "38e7c6aea81c656adca26251d7389b511e31ca28a75eea5c7c89ce124f93e9f9"), looks := true }, kinds := [], alts := [], laidByText := true, laidKinds := [.data, .data, .data, .data, .sentinel, .sentinel, .data, .pinned], laidTests := true, laidLooks := .later }
def SiteBackCardSaid : Prop := Claim7.holds Tryz.pinned (.plain (OpenSpec.ofChange siteBackSpec)) siteBackCard

/-- THE SECOND FORM's CARD OF 'nacellelaw01.SiteSpans'. -/
def siteSpansUptoCard : Claim7 := { stood := { row := siteSpansUptoRow, standIns := [], harness := (true, "38e7c6aea81c656adca26251d7389b511e31ca28a75eea5c7c89ce124f93e9f9"), looks := true }, kinds := [], alts := [], laidByText := true, laidKinds := [.data, .data, .data, .data], laidTests := true, laidLooks := .later }
def SiteSpansUptoCardSaid : Prop := Claim7.holds Tryz.pinned (.plain (OpenSpec.upto siteSpansSpec)) siteSpansUptoCard

/-- THE SECOND FORM's CARD OF 'nacellelaw01.SiteSets'. -/
def siteSetsUptoCard : Claim7 := { stood := { row := siteSetsUptoRow, standIns := [], harness := (true, "38e7c6aea81c656adca26251d7389b511e31ca28a75eea5c7c89ce124f93e9f9"), looks := true }, kinds := [], alts := [], laidByText := true, laidKinds := [.data, .data, .data, .data], laidTests := true, laidLooks := .later }
def SiteSetsUptoCardSaid : Prop := Claim7.holds Tryz.pinned (.plain (OpenSpec.upto siteSetsSpec)) siteSetsUptoCard

/-- THE SECOND FORM's CARD OF 'nacellelaw01.SiteLaws'. -/
def siteLawsUptoCard : Claim7 := { stood := { row := siteLawsUptoRow, standIns := [], harness := (true, "38e7c6aea81c656adca26251d7389b511e31ca28a75eea5c7c89ce124f93e9f9"), looks := true }, kinds := [], alts := [], laidByText := true, laidKinds := [.data, .data, .data, .data], laidTests := true, laidLooks := .later }
def SiteLawsUptoCardSaid : Prop := Claim7.holds Tryz.pinned (.plain (OpenSpec.upto siteLawsSpec)) siteLawsUptoCard

/-- THE SECOND FORM's CARD OF 'nacellelaw01.SiteLayouts'. -/
def siteLayoutsUptoCard : Claim7 := { stood := { row := siteLayoutsUptoRow, standIns := [], harness := (true, "38e7c6aea81c656adca26251d7389b511e31ca28a75eea5c7c89ce124f93e9f9"), looks := true }, kinds := [], alts := [], laidByText := true, laidKinds := [.data, .data, .data, .data], laidTests := true, laidLooks := .later }
def SiteLayoutsUptoCardSaid : Prop := Claim7.holds Tryz.pinned (.plain (OpenSpec.upto siteLayoutsSpec)) siteLayoutsUptoCard

/-- THE SECOND FORM's CARD OF 'nacellelaw01.SiteTurned'. -/
def siteTurnedUptoCard : Claim7 := { stood := { row := siteTurnedUptoRow, standIns := [], harness := (true, "38e7c6aea81c656adca26251d7389b511e31ca28a75eea5c7c89ce124f93e9f9"), looks := true }, kinds := [], alts := [], laidByText := true, laidKinds := [.data, .data, .data, .data], laidTests := true, laidLooks := .later }
def SiteTurnedUptoCardSaid : Prop := Claim7.holds Tryz.pinned (.plain (OpenSpec.upto siteTurnedSpec)) siteTurnedUptoCard

/-- THE SECOND FORM's CARD OF 'nacellelaw01.SiteRoses'. -/
def siteRosesUptoCard : Claim7 := { stood := { row := siteRosesUptoRow, standIns := [], harness := (true, "38e7c6aea81c656adca26251d7389b511e31ca28a75eea5c7c89ce124f93e9f9"), looks := true }, kinds := [], alts := [], laidByText := true, laidKinds := [.data, .data, .data, .data], laidTests := true, laidLooks := .later }
def SiteRosesUptoCardSaid : Prop := Claim7.holds Tryz.pinned (.plain (OpenSpec.upto siteRosesSpec)) siteRosesUptoCard

/-- THE SECOND FORM's CARD OF 'nacellelaw01.SiteSeries'. -/
def siteSeriesUptoCard : Claim7 := { stood := { row := siteSeriesUptoRow, standIns := [], harness := (true, "38e7c6aea81c656adca26251d7389b511e31ca28a75eea5c7c89ce124f93e9f9"), looks := true }, kinds := [], alts := [], laidByText := true, laidKinds := [.data, .data, .data, .data], laidTests := true, laidLooks := .later }
def SiteSeriesUptoCardSaid : Prop := Claim7.holds Tryz.pinned (.plain (OpenSpec.upto siteSeriesSpec)) siteSeriesUptoCard

/-- THE SECOND FORM's CARD OF 'nacellelaw01.SiteLevels'. -/
def siteLevelsUptoCard : Claim7 := { stood := { row := siteLevelsUptoRow, standIns := [], harness := (true, "38e7c6aea81c656adca26251d7389b511e31ca28a75eea5c7c89ce124f93e9f9"), looks := true }, kinds := [], alts := [], laidByText := true, laidKinds := [.data, .data, .data, .data], laidTests := true, laidLooks := .later }
def SiteLevelsUptoCardSaid : Prop := Claim7.holds Tryz.pinned (.plain (OpenSpec.upto siteLevelsSpec)) siteLevelsUptoCard

/-- THE SECOND FORM's CARD OF 'nacellelaw01.SiteBasics'. -/
def siteBasicsUptoCard : Claim7 := { stood := { row := siteBasicsUptoRow, standIns := [], harness := (true, "38e7c6aea81c656adca26251d7389b511e31ca28a75eea5c7c89ce124f93e9f9"), looks := true }, kinds := [], alts := [], laidByText := true, laidKinds := [.data, .data, .data, .data], laidTests := true, laidLooks := .later }
def SiteBasicsUptoCardSaid : Prop := Claim7.holds Tryz.pinned (.plain (OpenSpec.upto siteBasicsSpec)) siteBasicsUptoCard

/-- THE SECOND FORM's CARD OF 'nacellelaw01.SiteBlown'. -/
def siteBlownUptoCard : Claim7 := { stood := { row := siteBlownUptoRow, standIns := [], harness := (true, "38e7c6aea81c656adca26251d7389b511e31ca28a75eea5c7c89ce124f93e9f9"), looks := true }, kinds := [], alts := [], laidByText := true, laidKinds := [.data, .data, .data, .data], laidTests := true, laidLooks := .later }
def SiteBlownUptoCardSaid : Prop := Claim7.holds Tryz.pinned (.plain (OpenSpec.upto siteBlownSpec)) siteBlownUptoCard

/-- THE SECOND FORM's CARD OF 'nacellelaw01.SiteAdded'. -/
def siteAddedUptoCard : Claim7 := { stood := { row := siteAddedUptoRow, standIns := [], harness := (true, "38e7c6aea81c656adca26251d7389b511e31ca28a75eea5c7c89ce124f93e9f9"), looks := true }, kinds := [], alts := [], laidByText := true, laidKinds := [.data, .data, .data, .data], laidTests := true, laidLooks := .later }
def SiteAddedUptoCardSaid : Prop := Claim7.holds Tryz.pinned (.plain (OpenSpec.upto siteAddedSpec)) siteAddedUptoCard

/-- THE SECOND FORM's CARD OF 'nacellelaw01.SiteStreams'. -/
def siteStreamsUptoCard : Claim7 := { stood := { row := siteStreamsUptoRow, standIns := [], harness := (true, "38e7c6aea81c656adca26251d7389b511e31ca28a75eea5c7c89ce124f93e9f9"), looks := true }, kinds := [], alts := [], laidByText := true, laidKinds := [.data, .data, .data, .data], laidTests := true, laidLooks := .later }
def SiteStreamsUptoCardSaid : Prop := Claim7.holds Tryz.pinned (.plain (OpenSpec.upto siteStreamsSpec)) siteStreamsUptoCard

/-- THE SECOND FORM's CARD OF 'nacellelaw01.SiteTexts'. -/
def siteTextsUptoCard : Claim7 := { stood := { row := siteTextsUptoRow, standIns := [], harness := (true, "38e7c6aea81c656adca26251d7389b511e31ca28a75eea5c7c89ce124f93e9f9"), looks := true }, kinds := [], alts := [], laidByText := true, laidKinds := [.data, .data, .data, .data, .sentinel, .sentinel, .data, .pinned], laidTests := true, laidLooks := .later }
def SiteTextsUptoCardSaid : Prop := Claim7.holds Tryz.pinned (.plain (OpenSpec.upto siteTextsSpec)) siteTextsUptoCard

/-- THE SECOND FORM's CARD OF 'nacellelaw01.SiteBack'. -/
def siteBackUptoCard : Claim7 := { stood := { row := siteBackUptoRow, standIns := [], harness := (true, "38e7c6aea81c656adca26251d7389b511e31ca28a75eea5c7c89ce124f93e9f9"), looks := true }, kinds := [], alts := [], laidByText := true, laidKinds := [.data, .data, .data, .data, .sentinel, .sentinel, .data, .pinned], laidTests := true, laidLooks := .later }
def SiteBackUptoCardSaid : Prop := Claim7.holds Tryz.pinned (.plain (OpenSpec.upto siteBackSpec)) siteBackUptoCard
end Rows
end Go.Proofs.YtclanmkmbjinaaaGreatDoor
