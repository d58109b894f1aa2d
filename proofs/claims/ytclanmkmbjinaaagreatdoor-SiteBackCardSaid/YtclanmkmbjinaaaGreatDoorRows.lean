/-
  NARROWER THAN 'FOR EVERY INPUT', by the rows' own cells (each row's printed sentence says how): SiteSpans: laid · SiteSets: laid · SiteLaws: laid · SiteLayouts: laid · SiteTurned: laid · SiteRoses: laid · SiteSeries: laid · SiteLevels: laid · SiteBasics: laid · SiteBlown: laid · SiteAdded: laid · SiteStreams: laid · SiteTexts: laid · SiteBack: laid.
  DERIVED. THE GIVEN ROWS OF THIS SEAT. 14 by the template 'for every input the law returns true; each argument reads behind the call as it read before'; 0 by the template 'total and deterministic' (their statements: YtclanmkmbjinaaaGreatDoorTotals.lean).
  GIVEN WITH THE SEED: the statements are not yours to turn. If you find one false, say at which input.
  Laid BY PROGRAM, IN A SANDBOX (cutbox-rows.mjs): the forced cells as the released guide's own fill.sh prints them over the translation 620becd783c666ed… (all of the seat's roots in one cut). By AI agents, Wed Nov 11 2026. No macro, syntax, notation, axiom, sorry.
-/
import Derived.Test.YtclanmkmbjinaaaGreatDoorChecked
import GoSem.PinnedTables
import GoSem.Claim
import GoSem.ClaimJoined
import GoSem.ClaimMapViews
import Derived.JoinedTies
import Derived.KernelRfl
namespace Go.Proofs.YtclanmkmbjinaaaGreatDoor
/- THE CELL 'sum', in the pinned program and in every row, IS THE sha256 OF THE DUMP (.gsa) THAT YtclanmkmbjinaaaGreatDoorProg.lean LOADS. Nothing in Lean hashes anything: it is a label: what it is worth is what the hold of that sum in a sandbox is worth. -/
noncomputable def Tryz.pinned : Pinned := { name := "ytclanmkmbjinaaagreatdoor", sum := "620becd783c666edbdf361df70b6984849f289de2ee433f903416438ed9fe973", checked := Tryz.checked }
namespace Rows
def none {H : Type} : Left H := { results := [], args := [] }

/- WHAT THE LISTED PACKAGE-LEVEL VARIABLES READ AS WHEN THE CALL BEGINS. Each datum BY PROGRAM (the guide's laid-datum.mjs) off the statement by which the dump's own 'gosem.cut.vars' lays the variable. In a bare row this is a premise. The card (YtclanmkmbjinaaaGreatDoorCards.lean) ties it to the program's text. -/
def laid_math_bits_deBruijn32tab {H : Type} : DataW H := .agg [.lit (.int .u8 0), .lit (.int .u8 1), .lit (.int .u8 28), .lit (.int .u8 2), .lit (.int .u8 29), .lit (.int .u8 14), .lit (.int .u8 24), .lit (.int .u8 3), .lit (.int .u8 30), .lit (.int .u8 22), .lit (.int .u8 20), .lit (.int .u8 15), .lit (.int .u8 25), .lit (.int .u8 17), .lit (.int .u8 4), .lit (.int .u8 8), .lit (.int .u8 31), .lit (.int .u8 27), .lit (.int .u8 13), .lit (.int .u8 23), .lit (.int .u8 21), .lit (.int .u8 19), .lit (.int .u8 16), .lit (.int .u8 7), .lit (.int .u8 26), .lit (.int .u8 12), .lit (.int .u8 18), .lit (.int .u8 6), .lit (.int .u8 11), .lit (.int .u8 5), .lit (.int .u8 10), .lit (.int .u8 9)]
def laid_math_bits_deBruijn64tab {H : Type} : DataW H := .agg [.lit (.int .u8 0), .lit (.int .u8 1), .lit (.int .u8 56), .lit (.int .u8 2), .lit (.int .u8 57), .lit (.int .u8 49), .lit (.int .u8 28), .lit (.int .u8 3), .lit (.int .u8 61), .lit (.int .u8 58), .lit (.int .u8 42), .lit (.int .u8 50), .lit (.int .u8 38), .lit (.int .u8 29), .lit (.int .u8 17), .lit (.int .u8 4), .lit (.int .u8 62), .lit (.int .u8 47), .lit (.int .u8 59), .lit (.int .u8 36), .lit (.int .u8 45), .lit (.int .u8 43), .lit (.int .u8 51), .lit (.int .u8 22), .lit (.int .u8 53), .lit (.int .u8 39), .lit (.int .u8 33), .lit (.int .u8 30), .lit (.int .u8 24), .lit (.int .u8 18), .lit (.int .u8 12), .lit (.int .u8 5), .lit (.int .u8 63), .lit (.int .u8 55), .lit (.int .u8 48), .lit (.int .u8 27), .lit (.int .u8 60), .lit (.int .u8 41), .lit (.int .u8 37), .lit (.int .u8 16), .lit (.int .u8 46), .lit (.int .u8 35), .lit (.int .u8 44), .lit (.int .u8 21), .lit (.int .u8 52), .lit (.int .u8 32), .lit (.int .u8 23), .lit (.int .u8 11), .lit (.int .u8 54), .lit (.int .u8 26), .lit (.int .u8 40), .lit (.int .u8 15), .lit (.int .u8 34), .lit (.int .u8 20), .lit (.int .u8 31), .lit (.int .u8 10), .lit (.int .u8 25), .lit (.int .u8 14), .lit (.int .u8 19), .lit (.int .u8 9), .lit (.int .u8 13), .lit (.int .u8 8), .lit (.int .u8 7), .lit (.int .u8 6)]
def laid_internal_strconv_uint64pow10 {H : Type} : DataW H := .agg [.lit (.int .u64 1), .lit (.int .u64 10), .lit (.int .u64 100), .lit (.int .u64 1000), .lit (.int .u64 10000), .lit (.int .u64 100000), .lit (.int .u64 1000000), .lit (.int .u64 10000000), .lit (.int .u64 100000000), .lit (.int .u64 1000000000), .lit (.int .u64 10000000000), .lit (.int .u64 100000000000), .lit (.int .u64 1000000000000), .lit (.int .u64 10000000000000), .lit (.int .u64 100000000000000), .lit (.int .u64 1000000000000000), .lit (.int .u64 10000000000000000), .lit (.int .u64 100000000000000000), .lit (.int .u64 1000000000000000000), .lit (.int .u64 10000000000000000000)]
def laid_nacelle_site_steps {H : Type} : DataW H := .agg [.agg [.lit (.int .i64 0), .lit (.int .i64 (-1))], .agg [.lit (.int .i64 (-1)), .lit (.int .i64 (-1))], .agg [.lit (.int .i64 (-1)), .lit (.int .i64 0)], .agg [.lit (.int .i64 (-1)), .lit (.int .i64 1)], .agg [.lit (.int .i64 0), .lit (.int .i64 1)], .agg [.lit (.int .i64 1), .lit (.int .i64 1)], .agg [.lit (.int .i64 1), .lit (.int .i64 0)], .agg [.lit (.int .i64 1), .lit (.int .i64 (-1))]]
def laid_unicode_utf8_acceptRanges {H : Type} : DataW H := .agg [.agg [.lit (.int .u8 128), .lit (.int .u8 191)], .agg [.lit (.int .u8 160), .lit (.int .u8 191)], .agg [.lit (.int .u8 128), .lit (.int .u8 159)], .agg [.lit (.int .u8 144), .lit (.int .u8 191)], .agg [.lit (.int .u8 128), .lit (.int .u8 143)], .agg [.lit (.int .u8 0), .lit (.int .u8 0)], .agg [.lit (.int .u8 0), .lit (.int .u8 0)], .agg [.lit (.int .u8 0), .lit (.int .u8 0)], .agg [.lit (.int .u8 0), .lit (.int .u8 0)], .agg [.lit (.int .u8 0), .lit (.int .u8 0)], .agg [.lit (.int .u8 0), .lit (.int .u8 0)], .agg [.lit (.int .u8 0), .lit (.int .u8 0)], .agg [.lit (.int .u8 0), .lit (.int .u8 0)], .agg [.lit (.int .u8 0), .lit (.int .u8 0)], .agg [.lit (.int .u8 0), .lit (.int .u8 0)], .agg [.lit (.int .u8 0), .lit (.int .u8 0)]]
def laid_strconv_ErrRange {H : Type} : DataW H := .iface "*errors.errorString" (.ptr (.agg [.lit (.string [118, 97, 108, 117, 101, 32, 111, 117, 116, 32, 111, 102, 32, 114, 97, 110, 103, 101])]))
def laid_strconv_ErrSyntax {H : Type} : DataW H := .iface "*errors.errorString" (.ptr (.agg [.lit (.string [105, 110, 118, 97, 108, 105, 100, 32, 115, 121, 110, 116, 97, 120])]))
/-- One of Go's own tables, pinned by name: the form's constant. -/
def laid_unicode_utf8_first : DataW Unit := Go.Pinned.utf8First

/-- 'nacellelaw01.SiteSpans': WHATEVER THE INPUT: true; the input reads as it did. -/
def siteSpansSpec : ChangeSpec := { name := "siteSpans", fn := fun _ => fun
  | [d1, d2] => { results := [.lit (.bool true)], args := [d1, d2] }
  | _ => none }
def siteSpansRow : OpenClaim := { program := "ytclanmkmbjinaaagreatdoor", sum := "620becd783c666edbdf361df70b6984849f289de2ee433f903416438ed9fe973", func := "nacelle/nacellelaw01.SiteSpans", spec := "siteSpans", inPlace := ["internal/abi.NoEscape", "internal/bytealg.MakeNoZero", "math.Float32bits"], unfollowed := true, recurses := true, named := ["nacelle/site.steps", "internal/strconv.uint64pow10", "math/bits.deBruijn32tab", "math/bits.deBruijn64tab"], apart := false, laid := [("math/bits.deBruijn32tab", laid_math_bits_deBruijn32tab), ("math/bits.deBruijn64tab", laid_math_bits_deBruijn64tab), ("internal/strconv.uint64pow10", laid_internal_strconv_uint64pow10), ("nacelle/site.steps", laid_nacelle_site_steps)] }
def SiteSpansSaid : Prop := siteSpansRow.holds Tryz.pinned (OpenSpec.ofChange siteSpansSpec)

/-- ITS FALSE NEIGHBOUR: 'it returns false'. Refute it at one input. -/
def siteSpansWrong : ChangeSpec := { name := "siteSpans", fn := fun _ => fun
  | [d1, d2] => { results := [.lit (.bool false)], args := [d1, d2] }
  | _ => none }
def SiteSpansWrongFalsely : Prop := siteSpansRow.holds Tryz.pinned (OpenSpec.ofChange siteSpansWrong)

/-- 'nacellelaw01.SiteSets': WHATEVER THE INPUT: true; the input reads as it did. -/
def siteSetsSpec : ChangeSpec := { name := "siteSets", fn := fun _ => fun
  | [d1, d2] => { results := [.lit (.bool true)], args := [d1, d2] }
  | _ => none }
def siteSetsRow : OpenClaim := { program := "ytclanmkmbjinaaagreatdoor", sum := "620becd783c666edbdf361df70b6984849f289de2ee433f903416438ed9fe973", func := "nacelle/nacellelaw01.SiteSets", spec := "siteSets", inPlace := ["internal/abi.NoEscape", "internal/bytealg.MakeNoZero", "math.Float32bits"], unfollowed := true, recurses := true, named := ["nacelle/site.steps", "internal/strconv.uint64pow10", "math/bits.deBruijn32tab", "math/bits.deBruijn64tab"], apart := false, laid := [("math/bits.deBruijn32tab", laid_math_bits_deBruijn32tab), ("math/bits.deBruijn64tab", laid_math_bits_deBruijn64tab), ("internal/strconv.uint64pow10", laid_internal_strconv_uint64pow10), ("nacelle/site.steps", laid_nacelle_site_steps)] }
def SiteSetsSaid : Prop := siteSetsRow.holds Tryz.pinned (OpenSpec.ofChange siteSetsSpec)

/-- ITS FALSE NEIGHBOUR: 'it returns false'. Refute it at one input. -/
def siteSetsWrong : ChangeSpec := { name := "siteSets", fn := fun _ => fun
  | [d1, d2] => { results := [.lit (.bool false)], args := [d1, d2] }
  | _ => none }
def SiteSetsWrongFalsely : Prop := siteSetsRow.holds Tryz.pinned (OpenSpec.ofChange siteSetsWrong)

/-- 'nacellelaw01.SiteLaws': WHATEVER THE INPUT: true; the input reads as it did. -/
def siteLawsSpec : ChangeSpec := { name := "siteLaws", fn := fun _ => fun
  | [d1, d2] => { results := [.lit (.bool true)], args := [d1, d2] }
  | _ => none }
def siteLawsRow : OpenClaim := { program := "ytclanmkmbjinaaagreatdoor", sum := "620becd783c666edbdf361df70b6984849f289de2ee433f903416438ed9fe973", func := "nacelle/nacellelaw01.SiteLaws", spec := "siteLaws", inPlace := ["internal/abi.NoEscape", "internal/bytealg.MakeNoZero", "math.Float32bits"], unfollowed := true, recurses := true, named := ["nacelle/site.steps", "internal/strconv.uint64pow10", "math/bits.deBruijn32tab", "math/bits.deBruijn64tab"], apart := false, laid := [("math/bits.deBruijn32tab", laid_math_bits_deBruijn32tab), ("math/bits.deBruijn64tab", laid_math_bits_deBruijn64tab), ("internal/strconv.uint64pow10", laid_internal_strconv_uint64pow10), ("nacelle/site.steps", laid_nacelle_site_steps)] }
def SiteLawsSaid : Prop := siteLawsRow.holds Tryz.pinned (OpenSpec.ofChange siteLawsSpec)

/-- ITS FALSE NEIGHBOUR: 'it returns false'. Refute it at one input. -/
def siteLawsWrong : ChangeSpec := { name := "siteLaws", fn := fun _ => fun
  | [d1, d2] => { results := [.lit (.bool false)], args := [d1, d2] }
  | _ => none }
def SiteLawsWrongFalsely : Prop := siteLawsRow.holds Tryz.pinned (OpenSpec.ofChange siteLawsWrong)

/-- 'nacellelaw01.SiteLayouts': WHATEVER THE INPUT: true; the input reads as it did. -/
def siteLayoutsSpec : ChangeSpec := { name := "siteLayouts", fn := fun _ => fun
  | [d1, d2, d3] => { results := [.lit (.bool true)], args := [d1, d2, d3] }
  | _ => none }
def siteLayoutsRow : OpenClaim := { program := "ytclanmkmbjinaaagreatdoor", sum := "620becd783c666edbdf361df70b6984849f289de2ee433f903416438ed9fe973", func := "nacelle/nacellelaw01.SiteLayouts", spec := "siteLayouts", inPlace := ["internal/abi.NoEscape", "internal/bytealg.MakeNoZero", "math.Float32bits"], unfollowed := true, recurses := true, named := ["nacelle/site.steps", "internal/strconv.uint64pow10", "math/bits.deBruijn32tab", "math/bits.deBruijn64tab"], apart := false, laid := [("math/bits.deBruijn32tab", laid_math_bits_deBruijn32tab), ("math/bits.deBruijn64tab", laid_math_bits_deBruijn64tab), ("internal/strconv.uint64pow10", laid_internal_strconv_uint64pow10), ("nacelle/site.steps", laid_nacelle_site_steps)] }
def SiteLayoutsSaid : Prop := siteLayoutsRow.holds Tryz.pinned (OpenSpec.ofChange siteLayoutsSpec)

/-- ITS FALSE NEIGHBOUR: 'it returns false'. Refute it at one input. -/
def siteLayoutsWrong : ChangeSpec := { name := "siteLayouts", fn := fun _ => fun
  | [d1, d2, d3] => { results := [.lit (.bool false)], args := [d1, d2, d3] }
  | _ => none }
def SiteLayoutsWrongFalsely : Prop := siteLayoutsRow.holds Tryz.pinned (OpenSpec.ofChange siteLayoutsWrong)

/-- 'nacellelaw01.SiteTurned': WHATEVER THE INPUT: true; the input reads as it did. -/
def siteTurnedSpec : ChangeSpec := { name := "siteTurned", fn := fun _ => fun
  | [d1, d2, d3] => { results := [.lit (.bool true)], args := [d1, d2, d3] }
  | _ => none }
def siteTurnedRow : OpenClaim := { program := "ytclanmkmbjinaaagreatdoor", sum := "620becd783c666edbdf361df70b6984849f289de2ee433f903416438ed9fe973", func := "nacelle/nacellelaw01.SiteTurned", spec := "siteTurned", inPlace := ["internal/abi.NoEscape", "internal/bytealg.MakeNoZero", "math.Float32bits"], unfollowed := true, recurses := true, named := ["nacelle/site.steps", "internal/strconv.uint64pow10", "math/bits.deBruijn32tab", "math/bits.deBruijn64tab"], apart := false, laid := [("math/bits.deBruijn32tab", laid_math_bits_deBruijn32tab), ("math/bits.deBruijn64tab", laid_math_bits_deBruijn64tab), ("internal/strconv.uint64pow10", laid_internal_strconv_uint64pow10), ("nacelle/site.steps", laid_nacelle_site_steps)] }
def SiteTurnedSaid : Prop := siteTurnedRow.holds Tryz.pinned (OpenSpec.ofChange siteTurnedSpec)

/-- ITS FALSE NEIGHBOUR: 'it returns false'. Refute it at one input. -/
def siteTurnedWrong : ChangeSpec := { name := "siteTurned", fn := fun _ => fun
  | [d1, d2, d3] => { results := [.lit (.bool false)], args := [d1, d2, d3] }
  | _ => none }
def SiteTurnedWrongFalsely : Prop := siteTurnedRow.holds Tryz.pinned (OpenSpec.ofChange siteTurnedWrong)

/-- 'nacellelaw01.SiteRoses': WHATEVER THE INPUT: true; the input reads as it did. -/
def siteRosesSpec : ChangeSpec := { name := "siteRoses", fn := fun _ => fun
  | [d1, d2] => { results := [.lit (.bool true)], args := [d1, d2] }
  | _ => none }
def siteRosesRow : OpenClaim := { program := "ytclanmkmbjinaaagreatdoor", sum := "620becd783c666edbdf361df70b6984849f289de2ee433f903416438ed9fe973", func := "nacelle/nacellelaw01.SiteRoses", spec := "siteRoses", inPlace := ["internal/abi.NoEscape", "internal/bytealg.MakeNoZero", "math.Float32bits"], unfollowed := true, recurses := true, named := ["nacelle/site.steps", "internal/strconv.uint64pow10", "math/bits.deBruijn32tab", "math/bits.deBruijn64tab"], apart := false, laid := [("math/bits.deBruijn32tab", laid_math_bits_deBruijn32tab), ("math/bits.deBruijn64tab", laid_math_bits_deBruijn64tab), ("internal/strconv.uint64pow10", laid_internal_strconv_uint64pow10), ("nacelle/site.steps", laid_nacelle_site_steps)] }
def SiteRosesSaid : Prop := siteRosesRow.holds Tryz.pinned (OpenSpec.ofChange siteRosesSpec)

/-- ITS FALSE NEIGHBOUR: 'it returns false'. Refute it at one input. -/
def siteRosesWrong : ChangeSpec := { name := "siteRoses", fn := fun _ => fun
  | [d1, d2] => { results := [.lit (.bool false)], args := [d1, d2] }
  | _ => none }
def SiteRosesWrongFalsely : Prop := siteRosesRow.holds Tryz.pinned (OpenSpec.ofChange siteRosesWrong)

/-- 'nacellelaw01.SiteSeries': WHATEVER THE INPUT: true; the input reads as it did. -/
def siteSeriesSpec : ChangeSpec := { name := "siteSeries", fn := fun _ => fun
  | [d1, d2, d3] => { results := [.lit (.bool true)], args := [d1, d2, d3] }
  | _ => none }
def siteSeriesRow : OpenClaim := { program := "ytclanmkmbjinaaagreatdoor", sum := "620becd783c666edbdf361df70b6984849f289de2ee433f903416438ed9fe973", func := "nacelle/nacellelaw01.SiteSeries", spec := "siteSeries", inPlace := ["internal/abi.NoEscape", "internal/bytealg.MakeNoZero", "math.Float32bits", "math.archFloor", "math.Float64bits", "math.Float64frombits", "math.archTrunc"], unfollowed := true, recurses := true, named := ["nacelle/site.steps", "internal/strconv.uint64pow10", "math/bits.deBruijn32tab", "math/bits.deBruijn64tab"], apart := false, laid := [("math/bits.deBruijn32tab", laid_math_bits_deBruijn32tab), ("math/bits.deBruijn64tab", laid_math_bits_deBruijn64tab), ("internal/strconv.uint64pow10", laid_internal_strconv_uint64pow10), ("nacelle/site.steps", laid_nacelle_site_steps)] }
def SiteSeriesSaid : Prop := siteSeriesRow.holds Tryz.pinned (OpenSpec.ofChange siteSeriesSpec)

/-- ITS FALSE NEIGHBOUR: 'it returns false'. Refute it at one input. -/
def siteSeriesWrong : ChangeSpec := { name := "siteSeries", fn := fun _ => fun
  | [d1, d2, d3] => { results := [.lit (.bool false)], args := [d1, d2, d3] }
  | _ => none }
def SiteSeriesWrongFalsely : Prop := siteSeriesRow.holds Tryz.pinned (OpenSpec.ofChange siteSeriesWrong)

/-- 'nacellelaw01.SiteLevels': WHATEVER THE INPUT: true; the input reads as it did. -/
def siteLevelsSpec : ChangeSpec := { name := "siteLevels", fn := fun _ => fun
  | [d1, d2, d3] => { results := [.lit (.bool true)], args := [d1, d2, d3] }
  | _ => none }
def siteLevelsRow : OpenClaim := { program := "ytclanmkmbjinaaagreatdoor", sum := "620becd783c666edbdf361df70b6984849f289de2ee433f903416438ed9fe973", func := "nacelle/nacellelaw01.SiteLevels", spec := "siteLevels", inPlace := ["internal/abi.NoEscape", "internal/bytealg.MakeNoZero", "math.Float32bits", "math.archFloor", "math.Float64bits", "math.Float64frombits", "math.archTrunc"], unfollowed := true, recurses := true, named := ["nacelle/site.steps", "internal/strconv.uint64pow10", "math/bits.deBruijn32tab", "math/bits.deBruijn64tab"], apart := false, laid := [("math/bits.deBruijn32tab", laid_math_bits_deBruijn32tab), ("math/bits.deBruijn64tab", laid_math_bits_deBruijn64tab), ("internal/strconv.uint64pow10", laid_internal_strconv_uint64pow10), ("nacelle/site.steps", laid_nacelle_site_steps)] }
def SiteLevelsSaid : Prop := siteLevelsRow.holds Tryz.pinned (OpenSpec.ofChange siteLevelsSpec)

/-- ITS FALSE NEIGHBOUR: 'it returns false'. Refute it at one input. -/
def siteLevelsWrong : ChangeSpec := { name := "siteLevels", fn := fun _ => fun
  | [d1, d2, d3] => { results := [.lit (.bool false)], args := [d1, d2, d3] }
  | _ => none }
def SiteLevelsWrongFalsely : Prop := siteLevelsRow.holds Tryz.pinned (OpenSpec.ofChange siteLevelsWrong)

/-- 'nacellelaw01.SiteBasics': WHATEVER THE INPUT: true; the input reads as it did. -/
def siteBasicsSpec : ChangeSpec := { name := "siteBasics", fn := fun _ => fun
  | [d1, d2, d3] => { results := [.lit (.bool true)], args := [d1, d2, d3] }
  | _ => none }
def siteBasicsRow : OpenClaim := { program := "ytclanmkmbjinaaagreatdoor", sum := "620becd783c666edbdf361df70b6984849f289de2ee433f903416438ed9fe973", func := "nacelle/nacellelaw01.SiteBasics", spec := "siteBasics", inPlace := ["internal/abi.NoEscape", "internal/bytealg.MakeNoZero", "math.Float32bits", "math.archFloor", "math.Float64bits", "math.Float64frombits", "math.archTrunc"], unfollowed := true, recurses := true, named := ["nacelle/site.steps", "internal/strconv.uint64pow10", "math/bits.deBruijn32tab", "math/bits.deBruijn64tab"], apart := false, laid := [("math/bits.deBruijn32tab", laid_math_bits_deBruijn32tab), ("math/bits.deBruijn64tab", laid_math_bits_deBruijn64tab), ("internal/strconv.uint64pow10", laid_internal_strconv_uint64pow10), ("nacelle/site.steps", laid_nacelle_site_steps)] }
def SiteBasicsSaid : Prop := siteBasicsRow.holds Tryz.pinned (OpenSpec.ofChange siteBasicsSpec)

/-- ITS FALSE NEIGHBOUR: 'it returns false'. Refute it at one input. -/
def siteBasicsWrong : ChangeSpec := { name := "siteBasics", fn := fun _ => fun
  | [d1, d2, d3] => { results := [.lit (.bool false)], args := [d1, d2, d3] }
  | _ => none }
def SiteBasicsWrongFalsely : Prop := siteBasicsRow.holds Tryz.pinned (OpenSpec.ofChange siteBasicsWrong)

/-- 'nacellelaw01.SiteBlown': WHATEVER THE INPUT: true; the input reads as it did. -/
def siteBlownSpec : ChangeSpec := { name := "siteBlown", fn := fun _ => fun
  | [d1, d2] => { results := [.lit (.bool true)], args := [d1, d2] }
  | _ => none }
def siteBlownRow : OpenClaim := { program := "ytclanmkmbjinaaagreatdoor", sum := "620becd783c666edbdf361df70b6984849f289de2ee433f903416438ed9fe973", func := "nacelle/nacellelaw01.SiteBlown", spec := "siteBlown", inPlace := ["internal/abi.NoEscape", "internal/bytealg.MakeNoZero", "math.Float32bits", "math.archFloor", "math.Float64bits", "math.Float64frombits", "math.archTrunc"], unfollowed := true, recurses := true, named := ["nacelle/site.steps", "internal/strconv.uint64pow10", "math/bits.deBruijn32tab", "math/bits.deBruijn64tab"], apart := false, laid := [("math/bits.deBruijn32tab", laid_math_bits_deBruijn32tab), ("math/bits.deBruijn64tab", laid_math_bits_deBruijn64tab), ("internal/strconv.uint64pow10", laid_internal_strconv_uint64pow10), ("nacelle/site.steps", laid_nacelle_site_steps)] }
def SiteBlownSaid : Prop := siteBlownRow.holds Tryz.pinned (OpenSpec.ofChange siteBlownSpec)

/-- ITS FALSE NEIGHBOUR: 'it returns false'. Refute it at one input. -/
def siteBlownWrong : ChangeSpec := { name := "siteBlown", fn := fun _ => fun
  | [d1, d2] => { results := [.lit (.bool false)], args := [d1, d2] }
  | _ => none }
def SiteBlownWrongFalsely : Prop := siteBlownRow.holds Tryz.pinned (OpenSpec.ofChange siteBlownWrong)

/-- 'nacellelaw01.SiteAdded': WHATEVER THE INPUT: true; the input reads as it did. -/
def siteAddedSpec : ChangeSpec := { name := "siteAdded", fn := fun _ => fun
  | [d1, d2, d3] => { results := [.lit (.bool true)], args := [d1, d2, d3] }
  | _ => none }
def siteAddedRow : OpenClaim := { program := "ytclanmkmbjinaaagreatdoor", sum := "620becd783c666edbdf361df70b6984849f289de2ee433f903416438ed9fe973", func := "nacelle/nacellelaw01.SiteAdded", spec := "siteAdded", inPlace := ["internal/abi.NoEscape", "internal/bytealg.MakeNoZero", "math.Float32bits", "math.archFloor", "math.Float64bits", "math.Float64frombits", "math.archTrunc"], unfollowed := true, recurses := true, named := ["nacelle/site.steps", "internal/strconv.uint64pow10", "math/bits.deBruijn32tab", "math/bits.deBruijn64tab"], apart := false, laid := [("math/bits.deBruijn32tab", laid_math_bits_deBruijn32tab), ("math/bits.deBruijn64tab", laid_math_bits_deBruijn64tab), ("internal/strconv.uint64pow10", laid_internal_strconv_uint64pow10), ("nacelle/site.steps", laid_nacelle_site_steps)] }
def SiteAddedSaid : Prop := siteAddedRow.holds Tryz.pinned (OpenSpec.ofChange siteAddedSpec)

/-- ITS FALSE NEIGHBOUR: 'it returns false'. Refute it at one input. -/
def siteAddedWrong : ChangeSpec := { name := "siteAdded", fn := fun _ => fun
  | [d1, d2, d3] => { results := [.lit (.bool false)], args := [d1, d2, d3] }
  | _ => none }
def SiteAddedWrongFalsely : Prop := siteAddedRow.holds Tryz.pinned (OpenSpec.ofChange siteAddedWrong)

/-- 'nacellelaw01.SiteStreams': WHATEVER THE INPUT: true; the input reads as it did. -/
def siteStreamsSpec : ChangeSpec := { name := "siteStreams", fn := fun _ => fun
  | [d1, d2] => { results := [.lit (.bool true)], args := [d1, d2] }
  | _ => none }
def siteStreamsRow : OpenClaim := { program := "ytclanmkmbjinaaagreatdoor", sum := "620becd783c666edbdf361df70b6984849f289de2ee433f903416438ed9fe973", func := "nacelle/nacellelaw01.SiteStreams", spec := "siteStreams", inPlace := ["internal/abi.NoEscape", "internal/bytealg.MakeNoZero", "math.Float32bits", "math.Float32frombits", "math.archFloor", "math.Float64bits", "math.Float64frombits", "math.archTrunc"], unfollowed := true, recurses := true, named := ["nacelle/site.steps", "internal/strconv.uint64pow10", "math/bits.deBruijn32tab", "math/bits.deBruijn64tab"], apart := false, laid := [("math/bits.deBruijn32tab", laid_math_bits_deBruijn32tab), ("math/bits.deBruijn64tab", laid_math_bits_deBruijn64tab), ("internal/strconv.uint64pow10", laid_internal_strconv_uint64pow10), ("nacelle/site.steps", laid_nacelle_site_steps)] }
def SiteStreamsSaid : Prop := siteStreamsRow.holds Tryz.pinned (OpenSpec.ofChange siteStreamsSpec)

/-- ITS FALSE NEIGHBOUR: 'it returns false'. Refute it at one input. -/
def siteStreamsWrong : ChangeSpec := { name := "siteStreams", fn := fun _ => fun
  | [d1, d2] => { results := [.lit (.bool false)], args := [d1, d2] }
  | _ => none }
def SiteStreamsWrongFalsely : Prop := siteStreamsRow.holds Tryz.pinned (OpenSpec.ofChange siteStreamsWrong)

/-- 'nacellelaw01.SiteTexts': WHATEVER THE INPUT: true; the input reads as it did. -/
def siteTextsSpec : ChangeSpec := { name := "siteTexts", fn := fun _ => fun
  | [d1, d2] => { results := [.lit (.bool true)], args := [d1, d2] }
  | _ => none }
def siteTextsRow : OpenClaim := { program := "ytclanmkmbjinaaagreatdoor", sum := "620becd783c666edbdf361df70b6984849f289de2ee433f903416438ed9fe973", func := "nacelle/nacellelaw01.SiteTexts", spec := "siteTexts", inPlace := ["internal/abi.NoEscape", "internal/bytealg.MakeNoZero", "math.Float32bits", "internal/bytealg.IndexByteString", "internal/bytealg.IndexString", "internal/bytealg.CountString"], unfollowed := true, recurses := true, named := ["nacelle/site.steps", "internal/strconv.uint64pow10", "math/bits.deBruijn32tab", "math/bits.deBruijn64tab", "internal/bytealg.MaxLen", "unicode/utf8.first", "unicode/utf8.acceptRanges", "strconv.ErrSyntax", "strconv.ErrRange"], apart := false, laid := [("math/bits.deBruijn32tab", laid_math_bits_deBruijn32tab), ("math/bits.deBruijn64tab", laid_math_bits_deBruijn64tab), ("internal/strconv.uint64pow10", laid_internal_strconv_uint64pow10), ("unicode/utf8.acceptRanges", laid_unicode_utf8_acceptRanges), ("strconv.ErrRange", laid_strconv_ErrRange), ("strconv.ErrSyntax", laid_strconv_ErrSyntax), ("nacelle/site.steps", laid_nacelle_site_steps), ("unicode/utf8.first", laid_unicode_utf8_first)] }
def SiteTextsSaid : Prop := siteTextsRow.holds Tryz.pinned (OpenSpec.ofChange siteTextsSpec)

/-- ITS FALSE NEIGHBOUR: 'it returns false'. Refute it at one input. -/
def siteTextsWrong : ChangeSpec := { name := "siteTexts", fn := fun _ => fun
  | [d1, d2] => { results := [.lit (.bool false)], args := [d1, d2] }
  | _ => none }
def SiteTextsWrongFalsely : Prop := siteTextsRow.holds Tryz.pinned (OpenSpec.ofChange siteTextsWrong)

/-- 'nacellelaw01.SiteBack': WHATEVER THE INPUT: true; the input reads as it did. -/
def siteBackSpec : ChangeSpec := { name := "siteBack", fn := fun _ => fun
  | [d1, d2, d3] => { results := [.lit (.bool true)], args := [d1, d2, d3] }
  | _ => none }
def siteBackRow : OpenClaim := { program := "ytclanmkmbjinaaagreatdoor", sum := "620becd783c666edbdf361df70b6984849f289de2ee433f903416438ed9fe973", func := "nacelle/nacellelaw01.SiteBack", spec := "siteBack", inPlace := ["internal/abi.NoEscape", "internal/bytealg.MakeNoZero", "math.Float32bits", "math.archFloor", "math.Float64bits", "math.Float64frombits", "math.archTrunc", "internal/bytealg.IndexByteString", "internal/bytealg.IndexString", "internal/bytealg.CountString", "math.Float32frombits"], unfollowed := true, recurses := true, named := ["nacelle/site.steps", "internal/strconv.uint64pow10", "math/bits.deBruijn32tab", "math/bits.deBruijn64tab", "internal/bytealg.MaxLen", "unicode/utf8.first", "unicode/utf8.acceptRanges", "strconv.ErrSyntax", "strconv.ErrRange"], apart := false, laid := [("math/bits.deBruijn32tab", laid_math_bits_deBruijn32tab), ("math/bits.deBruijn64tab", laid_math_bits_deBruijn64tab), ("internal/strconv.uint64pow10", laid_internal_strconv_uint64pow10), ("unicode/utf8.acceptRanges", laid_unicode_utf8_acceptRanges), ("strconv.ErrRange", laid_strconv_ErrRange), ("strconv.ErrSyntax", laid_strconv_ErrSyntax), ("nacelle/site.steps", laid_nacelle_site_steps), ("unicode/utf8.first", laid_unicode_utf8_first)] }
def SiteBackSaid : Prop := siteBackRow.holds Tryz.pinned (OpenSpec.ofChange siteBackSpec)

/-- ITS FALSE NEIGHBOUR: 'it returns false'. Refute it at one input. -/
def siteBackWrong : ChangeSpec := { name := "siteBack", fn := fun _ => fun
  | [d1, d2, d3] => { results := [.lit (.bool false)], args := [d1, d2, d3] }
  | _ => none }
def SiteBackWrongFalsely : Prop := siteBackRow.holds Tryz.pinned (OpenSpec.ofChange siteBackWrong)

/- THE SECOND FORM. 'bulk': how many values and letters a reading holds, each counted each time it is reached (what is shared counts as often as it is met; a slice's spare places count too). A statement '..UptoSaid' is the law's where the arguments, and the package variables that the reading takes, are together of bulk at most 1048576: NARROWER than '..Said'. Prove '..Said' where nothing that the law and all that it calls make is longer than what came in: it says more and counts as full. Else prove '..UptoSaid'. A law counts once. -/
mutual
def uptoBulk {H : Type} : DataW H → Nat
  | .lit (.string bytes) => bytes.length + 1
  | .lit _ => 1
  | .nil => 1
  | .ptr d => uptoBulk d + 1
  | .slice elems spare => uptoBulkAll elems + uptoBulkAll spare + 1
  | .agg parts => uptoBulkAll parts + 1
  | .iface _ d => uptoBulk d + 1
  | .map entries => uptoBulkEntries entries + 1
  | .held _ => 1
def uptoBulkAll {H : Type} : List (DataW H) → Nat
  | [] => 0
  | d :: r => uptoBulk d + uptoBulkAll r
def uptoBulkEntries {H : Type} : List (Lit × DataW H) → Nat
  | [] => 0
  | x :: r => uptoBulkEntry x + uptoBulkEntries r
def uptoBulkEntry {H : Type} : Lit × DataW H → Nat
  | (.string bytes, d) => bytes.length + uptoBulk d + 1
  | (_, d) => uptoBulk d + 1
 end
def uptoSmall : (H : Type) → List (DataW H) → Bool := fun _ ds => decide (uptoBulkAll ds ≤ 1048576)
def OpenSpec.upto (s : _root_.Go.ChangeSpec) : _root_.Go.OpenSpec := { _root_.Go.OpenSpec.ofChange s with cond := some uptoSmall }

/-- 'nacellelaw01.SiteSpans', WHERE WHAT IT READS IS OF BULK AT MOST 1048576: true; the input reads as it did. -/
def siteSpansUptoRow : OpenClaim := { program := "ytclanmkmbjinaaagreatdoor", sum := "620becd783c666edbdf361df70b6984849f289de2ee433f903416438ed9fe973", func := "nacelle/nacellelaw01.SiteSpans", spec := "siteSpans", inPlace := ["internal/abi.NoEscape", "internal/bytealg.MakeNoZero", "math.Float32bits"], unfollowed := true, recurses := true, named := ["nacelle/site.steps", "internal/strconv.uint64pow10", "math/bits.deBruijn32tab", "math/bits.deBruijn64tab"], apart := false, laid := [("math/bits.deBruijn32tab", laid_math_bits_deBruijn32tab), ("math/bits.deBruijn64tab", laid_math_bits_deBruijn64tab), ("internal/strconv.uint64pow10", laid_internal_strconv_uint64pow10), ("nacelle/site.steps", laid_nacelle_site_steps)], narrowed := true }
def SiteSpansUptoSaid : Prop := siteSpansUptoRow.holds Tryz.pinned (OpenSpec.upto siteSpansSpec)

/-- 'nacellelaw01.SiteSets', WHERE WHAT IT READS IS OF BULK AT MOST 1048576: true; the input reads as it did. -/
def siteSetsUptoRow : OpenClaim := { program := "ytclanmkmbjinaaagreatdoor", sum := "620becd783c666edbdf361df70b6984849f289de2ee433f903416438ed9fe973", func := "nacelle/nacellelaw01.SiteSets", spec := "siteSets", inPlace := ["internal/abi.NoEscape", "internal/bytealg.MakeNoZero", "math.Float32bits"], unfollowed := true, recurses := true, named := ["nacelle/site.steps", "internal/strconv.uint64pow10", "math/bits.deBruijn32tab", "math/bits.deBruijn64tab"], apart := false, laid := [("math/bits.deBruijn32tab", laid_math_bits_deBruijn32tab), ("math/bits.deBruijn64tab", laid_math_bits_deBruijn64tab), ("internal/strconv.uint64pow10", laid_internal_strconv_uint64pow10), ("nacelle/site.steps", laid_nacelle_site_steps)], narrowed := true }
def SiteSetsUptoSaid : Prop := siteSetsUptoRow.holds Tryz.pinned (OpenSpec.upto siteSetsSpec)

/-- 'nacellelaw01.SiteLaws', WHERE WHAT IT READS IS OF BULK AT MOST 1048576: true; the input reads as it did. -/
def siteLawsUptoRow : OpenClaim := { program := "ytclanmkmbjinaaagreatdoor", sum := "620becd783c666edbdf361df70b6984849f289de2ee433f903416438ed9fe973", func := "nacelle/nacellelaw01.SiteLaws", spec := "siteLaws", inPlace := ["internal/abi.NoEscape", "internal/bytealg.MakeNoZero", "math.Float32bits"], unfollowed := true, recurses := true, named := ["nacelle/site.steps", "internal/strconv.uint64pow10", "math/bits.deBruijn32tab", "math/bits.deBruijn64tab"], apart := false, laid := [("math/bits.deBruijn32tab", laid_math_bits_deBruijn32tab), ("math/bits.deBruijn64tab", laid_math_bits_deBruijn64tab), ("internal/strconv.uint64pow10", laid_internal_strconv_uint64pow10), ("nacelle/site.steps", laid_nacelle_site_steps)], narrowed := true }
def SiteLawsUptoSaid : Prop := siteLawsUptoRow.holds Tryz.pinned (OpenSpec.upto siteLawsSpec)

/-- 'nacellelaw01.SiteLayouts', WHERE WHAT IT READS IS OF BULK AT MOST 1048576: true; the input reads as it did. -/
def siteLayoutsUptoRow : OpenClaim := { program := "ytclanmkmbjinaaagreatdoor", sum := "620becd783c666edbdf361df70b6984849f289de2ee433f903416438ed9fe973", func := "nacelle/nacellelaw01.SiteLayouts", spec := "siteLayouts", inPlace := ["internal/abi.NoEscape", "internal/bytealg.MakeNoZero", "math.Float32bits"], unfollowed := true, recurses := true, named := ["nacelle/site.steps", "internal/strconv.uint64pow10", "math/bits.deBruijn32tab", "math/bits.deBruijn64tab"], apart := false, laid := [("math/bits.deBruijn32tab", laid_math_bits_deBruijn32tab), ("math/bits.deBruijn64tab", laid_math_bits_deBruijn64tab), ("internal/strconv.uint64pow10", laid_internal_strconv_uint64pow10), ("nacelle/site.steps", laid_nacelle_site_steps)], narrowed := true }
def SiteLayoutsUptoSaid : Prop := siteLayoutsUptoRow.holds Tryz.pinned (OpenSpec.upto siteLayoutsSpec)

/-- 'nacellelaw01.SiteTurned', WHERE WHAT IT READS IS OF BULK AT MOST 1048576: true; the input reads as it did. -/
def siteTurnedUptoRow : OpenClaim := { program := "ytclanmkmbjinaaagreatdoor", sum := "620becd783c666edbdf361df70b6984849f289de2ee433f903416438ed9fe973", func := "nacelle/nacellelaw01.SiteTurned", spec := "siteTurned", inPlace := ["internal/abi.NoEscape", "internal/bytealg.MakeNoZero", "math.Float32bits"], unfollowed := true, recurses := true, named := ["nacelle/site.steps", "internal/strconv.uint64pow10", "math/bits.deBruijn32tab", "math/bits.deBruijn64tab"], apart := false, laid := [("math/bits.deBruijn32tab", laid_math_bits_deBruijn32tab), ("math/bits.deBruijn64tab", laid_math_bits_deBruijn64tab), ("internal/strconv.uint64pow10", laid_internal_strconv_uint64pow10), ("nacelle/site.steps", laid_nacelle_site_steps)], narrowed := true }
def SiteTurnedUptoSaid : Prop := siteTurnedUptoRow.holds Tryz.pinned (OpenSpec.upto siteTurnedSpec)

/-- 'nacellelaw01.SiteRoses', WHERE WHAT IT READS IS OF BULK AT MOST 1048576: true; the input reads as it did. -/
def siteRosesUptoRow : OpenClaim := { program := "ytclanmkmbjinaaagreatdoor", sum := "620becd783c666edbdf361df70b6984849f289de2ee433f903416438ed9fe973", func := "nacelle/nacellelaw01.SiteRoses", spec := "siteRoses", inPlace := ["internal/abi.NoEscape", "internal/bytealg.MakeNoZero", "math.Float32bits"], unfollowed := true, recurses := true, named := ["nacelle/site.steps", "internal/strconv.uint64pow10", "math/bits.deBruijn32tab", "math/bits.deBruijn64tab"], apart := false, laid := [("math/bits.deBruijn32tab", laid_math_bits_deBruijn32tab), ("math/bits.deBruijn64tab", laid_math_bits_deBruijn64tab), ("internal/strconv.uint64pow10", laid_internal_strconv_uint64pow10), ("nacelle/site.steps", laid_nacelle_site_steps)], narrowed := true }
def SiteRosesUptoSaid : Prop := siteRosesUptoRow.holds Tryz.pinned (OpenSpec.upto siteRosesSpec)

/-- 'nacellelaw01.SiteSeries', WHERE WHAT IT READS IS OF BULK AT MOST 1048576: true; the input reads as it did. -/
def siteSeriesUptoRow : OpenClaim := { program := "ytclanmkmbjinaaagreatdoor", sum := "620becd783c666edbdf361df70b6984849f289de2ee433f903416438ed9fe973", func := "nacelle/nacellelaw01.SiteSeries", spec := "siteSeries", inPlace := ["internal/abi.NoEscape", "internal/bytealg.MakeNoZero", "math.Float32bits", "math.archFloor", "math.Float64bits", "math.Float64frombits", "math.archTrunc"], unfollowed := true, recurses := true, named := ["nacelle/site.steps", "internal/strconv.uint64pow10", "math/bits.deBruijn32tab", "math/bits.deBruijn64tab"], apart := false, laid := [("math/bits.deBruijn32tab", laid_math_bits_deBruijn32tab), ("math/bits.deBruijn64tab", laid_math_bits_deBruijn64tab), ("internal/strconv.uint64pow10", laid_internal_strconv_uint64pow10), ("nacelle/site.steps", laid_nacelle_site_steps)], narrowed := true }
def SiteSeriesUptoSaid : Prop := siteSeriesUptoRow.holds Tryz.pinned (OpenSpec.upto siteSeriesSpec)

/-- 'nacellelaw01.SiteLevels', WHERE WHAT IT READS IS OF BULK AT MOST 1048576: true; the input reads as it did. -/
def siteLevelsUptoRow : OpenClaim := { program := "ytclanmkmbjinaaagreatdoor", sum := "620becd783c666edbdf361df70b6984849f289de2ee433f903416438ed9fe973", func := "nacelle/nacellelaw01.SiteLevels", spec := "siteLevels", inPlace := ["internal/abi.NoEscape", "internal/bytealg.MakeNoZero", "math.Float32bits", "math.archFloor", "math.Float64bits", "math.Float64frombits", "math.archTrunc"], unfollowed := true, recurses := true, named := ["nacelle/site.steps", "internal/strconv.uint64pow10", "math/bits.deBruijn32tab", "math/bits.deBruijn64tab"], apart := false, laid := [("math/bits.deBruijn32tab", laid_math_bits_deBruijn32tab), ("math/bits.deBruijn64tab", laid_math_bits_deBruijn64tab), ("internal/strconv.uint64pow10", laid_internal_strconv_uint64pow10), ("nacelle/site.steps", laid_nacelle_site_steps)], narrowed := true }
def SiteLevelsUptoSaid : Prop := siteLevelsUptoRow.holds Tryz.pinned (OpenSpec.upto siteLevelsSpec)

/-- 'nacellelaw01.SiteBasics', WHERE WHAT IT READS IS OF BULK AT MOST 1048576: true; the input reads as it did. -/
def siteBasicsUptoRow : OpenClaim := { program := "ytclanmkmbjinaaagreatdoor", sum := "620becd783c666edbdf361df70b6984849f289de2ee433f903416438ed9fe973", func := "nacelle/nacellelaw01.SiteBasics", spec := "siteBasics", inPlace := ["internal/abi.NoEscape", "internal/bytealg.MakeNoZero", "math.Float32bits", "math.archFloor", "math.Float64bits", "math.Float64frombits", "math.archTrunc"], unfollowed := true, recurses := true, named := ["nacelle/site.steps", "internal/strconv.uint64pow10", "math/bits.deBruijn32tab", "math/bits.deBruijn64tab"], apart := false, laid := [("math/bits.deBruijn32tab", laid_math_bits_deBruijn32tab), ("math/bits.deBruijn64tab", laid_math_bits_deBruijn64tab), ("internal/strconv.uint64pow10", laid_internal_strconv_uint64pow10), ("nacelle/site.steps", laid_nacelle_site_steps)], narrowed := true }
def SiteBasicsUptoSaid : Prop := siteBasicsUptoRow.holds Tryz.pinned (OpenSpec.upto siteBasicsSpec)

/-- 'nacellelaw01.SiteBlown', WHERE WHAT IT READS IS OF BULK AT MOST 1048576: true; the input reads as it did. -/
def siteBlownUptoRow : OpenClaim := { program := "ytclanmkmbjinaaagreatdoor", sum := "620becd783c666edbdf361df70b6984849f289de2ee433f903416438ed9fe973", func := "nacelle/nacellelaw01.SiteBlown", spec := "siteBlown", inPlace := ["internal/abi.NoEscape", "internal/bytealg.MakeNoZero", "math.Float32bits", "math.archFloor", "math.Float64bits", "math.Float64frombits", "math.archTrunc"], unfollowed := true, recurses := true, named := ["nacelle/site.steps", "internal/strconv.uint64pow10", "math/bits.deBruijn32tab", "math/bits.deBruijn64tab"], apart := false, laid := [("math/bits.deBruijn32tab", laid_math_bits_deBruijn32tab), ("math/bits.deBruijn64tab", laid_math_bits_deBruijn64tab), ("internal/strconv.uint64pow10", laid_internal_strconv_uint64pow10), ("nacelle/site.steps", laid_nacelle_site_steps)], narrowed := true }
def SiteBlownUptoSaid : Prop := siteBlownUptoRow.holds Tryz.pinned (OpenSpec.upto siteBlownSpec)

/-- 'nacellelaw01.SiteAdded', WHERE WHAT IT READS IS OF BULK AT MOST 1048576: true; the input reads as it did. -/
def siteAddedUptoRow : OpenClaim := { program := "ytclanmkmbjinaaagreatdoor", sum := "620becd783c666edbdf361df70b6984849f289de2ee433f903416438ed9fe973", func := "nacelle/nacellelaw01.SiteAdded", spec := "siteAdded", inPlace := ["internal/abi.NoEscape", "internal/bytealg.MakeNoZero", "math.Float32bits", "math.archFloor", "math.Float64bits", "math.Float64frombits", "math.archTrunc"], unfollowed := true, recurses := true, named := ["nacelle/site.steps", "internal/strconv.uint64pow10", "math/bits.deBruijn32tab", "math/bits.deBruijn64tab"], apart := false, laid := [("math/bits.deBruijn32tab", laid_math_bits_deBruijn32tab), ("math/bits.deBruijn64tab", laid_math_bits_deBruijn64tab), ("internal/strconv.uint64pow10", laid_internal_strconv_uint64pow10), ("nacelle/site.steps", laid_nacelle_site_steps)], narrowed := true }
def SiteAddedUptoSaid : Prop := siteAddedUptoRow.holds Tryz.pinned (OpenSpec.upto siteAddedSpec)

/-- 'nacellelaw01.SiteStreams', WHERE WHAT IT READS IS OF BULK AT MOST 1048576: true; the input reads as it did. -/
def siteStreamsUptoRow : OpenClaim := { program := "ytclanmkmbjinaaagreatdoor", sum := "620becd783c666edbdf361df70b6984849f289de2ee433f903416438ed9fe973", func := "nacelle/nacellelaw01.SiteStreams", spec := "siteStreams", inPlace := ["internal/abi.NoEscape", "internal/bytealg.MakeNoZero", "math.Float32bits", "math.Float32frombits", "math.archFloor", "math.Float64bits", "math.Float64frombits", "math.archTrunc"], unfollowed := true, recurses := true, named := ["nacelle/site.steps", "internal/strconv.uint64pow10", "math/bits.deBruijn32tab", "math/bits.deBruijn64tab"], apart := false, laid := [("math/bits.deBruijn32tab", laid_math_bits_deBruijn32tab), ("math/bits.deBruijn64tab", laid_math_bits_deBruijn64tab), ("internal/strconv.uint64pow10", laid_internal_strconv_uint64pow10), ("nacelle/site.steps", laid_nacelle_site_steps)], narrowed := true }
def SiteStreamsUptoSaid : Prop := siteStreamsUptoRow.holds Tryz.pinned (OpenSpec.upto siteStreamsSpec)

/-- 'nacellelaw01.SiteTexts', WHERE WHAT IT READS IS OF BULK AT MOST 1048576: true; the input reads as it did. -/
def siteTextsUptoRow : OpenClaim := { program := "ytclanmkmbjinaaagreatdoor", sum := "620becd783c666edbdf361df70b6984849f289de2ee433f903416438ed9fe973", func := "nacelle/nacellelaw01.SiteTexts", spec := "siteTexts", inPlace := ["internal/abi.NoEscape", "internal/bytealg.MakeNoZero", "math.Float32bits", "internal/bytealg.IndexByteString", "internal/bytealg.IndexString", "internal/bytealg.CountString"], unfollowed := true, recurses := true, named := ["nacelle/site.steps", "internal/strconv.uint64pow10", "math/bits.deBruijn32tab", "math/bits.deBruijn64tab", "internal/bytealg.MaxLen", "unicode/utf8.first", "unicode/utf8.acceptRanges", "strconv.ErrSyntax", "strconv.ErrRange"], apart := false, laid := [("math/bits.deBruijn32tab", laid_math_bits_deBruijn32tab), ("math/bits.deBruijn64tab", laid_math_bits_deBruijn64tab), ("internal/strconv.uint64pow10", laid_internal_strconv_uint64pow10), ("unicode/utf8.acceptRanges", laid_unicode_utf8_acceptRanges), ("strconv.ErrRange", laid_strconv_ErrRange), ("strconv.ErrSyntax", laid_strconv_ErrSyntax), ("nacelle/site.steps", laid_nacelle_site_steps), ("unicode/utf8.first", laid_unicode_utf8_first)], narrowed := true }
def SiteTextsUptoSaid : Prop := siteTextsUptoRow.holds Tryz.pinned (OpenSpec.upto siteTextsSpec)

/-- 'nacellelaw01.SiteBack', WHERE WHAT IT READS IS OF BULK AT MOST 1048576: true; the input reads as it did. -/
def siteBackUptoRow : OpenClaim := { program := "ytclanmkmbjinaaagreatdoor", sum := "620becd783c666edbdf361df70b6984849f289de2ee433f903416438ed9fe973", func := "nacelle/nacellelaw01.SiteBack", spec := "siteBack", inPlace := ["internal/abi.NoEscape", "internal/bytealg.MakeNoZero", "math.Float32bits", "math.archFloor", "math.Float64bits", "math.Float64frombits", "math.archTrunc", "internal/bytealg.IndexByteString", "internal/bytealg.IndexString", "internal/bytealg.CountString", "math.Float32frombits"], unfollowed := true, recurses := true, named := ["nacelle/site.steps", "internal/strconv.uint64pow10", "math/bits.deBruijn32tab", "math/bits.deBruijn64tab", "internal/bytealg.MaxLen", "unicode/utf8.first", "unicode/utf8.acceptRanges", "strconv.ErrSyntax", "strconv.ErrRange"], apart := false, laid := [("math/bits.deBruijn32tab", laid_math_bits_deBruijn32tab), ("math/bits.deBruijn64tab", laid_math_bits_deBruijn64tab), ("internal/strconv.uint64pow10", laid_internal_strconv_uint64pow10), ("unicode/utf8.acceptRanges", laid_unicode_utf8_acceptRanges), ("strconv.ErrRange", laid_strconv_ErrRange), ("strconv.ErrSyntax", laid_strconv_ErrSyntax), ("nacelle/site.steps", laid_nacelle_site_steps), ("unicode/utf8.first", laid_unicode_utf8_first)], narrowed := true }
def SiteBackUptoSaid : Prop := siteBackUptoRow.holds Tryz.pinned (OpenSpec.upto siteBackSpec)

end Rows
end Go.Proofs.YtclanmkmbjinaaaGreatDoor
