/-
  No cell of these rows narrows 'for every input' (looked for: loops, veiled, ifaces, maps, wideKeys, modest, calm, conditions, laid).
  DERIVED. THE GIVEN ROWS OF THIS SEAT. 10 by the template 'for every input the law returns true; each argument reads behind the call as it read before'; 0 by the template 'total and deterministic' (their statements: YtdlngmbgalmdeaaTotals.lean).
  GIVEN WITH THE SEED: the statements are not yours to turn. If you find one false, say at which input.
  Laid BY PROGRAM, IN A SANDBOX (cutbox-rows.mjs): the forced cells as the released guide's own fill.sh prints them over the translation 2394c6896558c58a… (all of the seat's roots in one cut). By AI agents, Wed Nov 11 2026. No macro, syntax, notation, axiom, sorry.
-/
import Derived.Test.YtdlngmbgalmdeaaChecked
import GoSem.Claim
import GoSem.ClaimJoined
import GoSem.ClaimMapViews
import Derived.JoinedTies
import Derived.KernelRfl
namespace Go.Proofs.Ytdlngmbgalmdeaa
/- THE CELL 'sum', in the pinned program and in every row, IS THE sha256 OF THE DUMP (.gsa) THAT YtdlngmbgalmdeaaProg.lean LOADS. Nothing in Lean hashes anything: it is a label: what it is worth is what the hold of that sum in a sandbox is worth. -/
noncomputable def Try.pinned : Pinned := { name := "ytdlngmbgalmdeaa", sum := "2394c6896558c58a27298cdff01626d7dcc49482f5b779105fef1927aab93d06", checked := Try.checked }
namespace Rows
def none {H : Type} : Left H := { results := [], args := [] }

/-- 'nacellelaw07.LoadReversals': WHATEVER THE INPUT: true; the input reads as it did. -/
def loadReversalsSpec : ChangeSpec := { name := "loadReversals", fn := fun _ => fun
  | [d1, d2] => { results := [.lit (.bool true)], args := [d1, d2] }
  | _ => none }
def loadReversalsRow : OpenClaim := { program := "ytdlngmbgalmdeaa", sum := "2394c6896558c58a27298cdff01626d7dcc49482f5b779105fef1927aab93d06", func := "nacelle/nacellelaw07.LoadReversals", spec := "loadReversals", unfollowed := true, recurses := true, apart := false }
def LoadReversalsSaid : Prop := loadReversalsRow.holds Try.pinned (OpenSpec.ofChange loadReversalsSpec)

/-- ITS FALSE NEIGHBOUR: 'it returns false'. Refute it at one input. -/
def loadReversalsWrong : ChangeSpec := { name := "loadReversals", fn := fun _ => fun
  | [d1, d2] => { results := [.lit (.bool false)], args := [d1, d2] }
  | _ => none }
def LoadReversalsWrongFalsely : Prop := loadReversalsRow.holds Try.pinned (OpenSpec.ofChange loadReversalsWrong)

/-- 'nacellelaw07.LoadDamages': WHATEVER THE INPUT: true; the input reads as it did. -/
def loadDamagesSpec : ChangeSpec := { name := "loadDamages", fn := fun _ => fun
  | [d] => { results := [.lit (.bool true)], args := [d] }
  | _ => none }
def loadDamagesRow : OpenClaim := { program := "ytdlngmbgalmdeaa", sum := "2394c6896558c58a27298cdff01626d7dcc49482f5b779105fef1927aab93d06", func := "nacelle/nacellelaw07.LoadDamages", spec := "loadDamages", unfollowed := true, recurses := true, apart := false }
def LoadDamagesSaid : Prop := loadDamagesRow.holds Try.pinned (OpenSpec.ofChange loadDamagesSpec)

/-- ITS FALSE NEIGHBOUR: 'it returns false'. Refute it at one input. -/
def loadDamagesWrong : ChangeSpec := { name := "loadDamages", fn := fun _ => fun
  | [d] => { results := [.lit (.bool false)], args := [d] }
  | _ => none }
def LoadDamagesWrongFalsely : Prop := loadDamagesRow.holds Try.pinned (OpenSpec.ofChange loadDamagesWrong)

/-- 'nacellelaw07.LoadEach': WHATEVER THE INPUT: true; the input reads as it did. -/
def loadEachSpec : ChangeSpec := { name := "loadEach", fn := fun _ => fun
  | [d1, d2] => { results := [.lit (.bool true)], args := [d1, d2] }
  | _ => none }
def loadEachRow : OpenClaim := { program := "ytdlngmbgalmdeaa", sum := "2394c6896558c58a27298cdff01626d7dcc49482f5b779105fef1927aab93d06", func := "nacelle/nacellelaw07.LoadEach", spec := "loadEach", unfollowed := true, recurses := true, apart := false }
def LoadEachSaid : Prop := loadEachRow.holds Try.pinned (OpenSpec.ofChange loadEachSpec)

/-- ITS FALSE NEIGHBOUR: 'it returns false'. Refute it at one input. -/
def loadEachWrong : ChangeSpec := { name := "loadEach", fn := fun _ => fun
  | [d1, d2] => { results := [.lit (.bool false)], args := [d1, d2] }
  | _ => none }
def LoadEachWrongFalsely : Prop := loadEachRow.holds Try.pinned (OpenSpec.ofChange loadEachWrong)

/-- 'nacellelaw07.LoadLarge': WHATEVER THE INPUT: true; the input reads as it did. -/
def loadLargeSpec : ChangeSpec := { name := "loadLarge", fn := fun _ => fun
  | [d1, d2] => { results := [.lit (.bool true)], args := [d1, d2] }
  | _ => none }
def loadLargeRow : OpenClaim := { program := "ytdlngmbgalmdeaa", sum := "2394c6896558c58a27298cdff01626d7dcc49482f5b779105fef1927aab93d06", func := "nacelle/nacellelaw07.LoadLarge", spec := "loadLarge", unfollowed := true, recurses := true, apart := false }
def LoadLargeSaid : Prop := loadLargeRow.holds Try.pinned (OpenSpec.ofChange loadLargeSpec)

/-- ITS FALSE NEIGHBOUR: 'it returns false'. Refute it at one input. -/
def loadLargeWrong : ChangeSpec := { name := "loadLarge", fn := fun _ => fun
  | [d1, d2] => { results := [.lit (.bool false)], args := [d1, d2] }
  | _ => none }
def LoadLargeWrongFalsely : Prop := loadLargeRow.holds Try.pinned (OpenSpec.ofChange loadLargeWrong)

/-- 'nacellelaw07.LoadMirrors': WHATEVER THE INPUT: true; the input reads as it did. -/
def loadMirrorsSpec : ChangeSpec := { name := "loadMirrors", fn := fun _ => fun
  | [d] => { results := [.lit (.bool true)], args := [d] }
  | _ => none }
def loadMirrorsRow : OpenClaim := { program := "ytdlngmbgalmdeaa", sum := "2394c6896558c58a27298cdff01626d7dcc49482f5b779105fef1927aab93d06", func := "nacelle/nacellelaw07.LoadMirrors", spec := "loadMirrors", unfollowed := true, recurses := true, apart := false }
def LoadMirrorsSaid : Prop := loadMirrorsRow.holds Try.pinned (OpenSpec.ofChange loadMirrorsSpec)

/-- ITS FALSE NEIGHBOUR: 'it returns false'. Refute it at one input. -/
def loadMirrorsWrong : ChangeSpec := { name := "loadMirrors", fn := fun _ => fun
  | [d] => { results := [.lit (.bool false)], args := [d] }
  | _ => none }
def LoadMirrorsWrongFalsely : Prop := loadMirrorsRow.holds Try.pinned (OpenSpec.ofChange loadMirrorsWrong)

/-- 'nacellelaw07.LoadFilters': WHATEVER THE INPUT: true; the input reads as it did. -/
def loadFiltersSpec : ChangeSpec := { name := "loadFilters", fn := fun _ => fun
  | [d1, d2, d3] => { results := [.lit (.bool true)], args := [d1, d2, d3] }
  | _ => none }
def loadFiltersRow : OpenClaim := { program := "ytdlngmbgalmdeaa", sum := "2394c6896558c58a27298cdff01626d7dcc49482f5b779105fef1927aab93d06", func := "nacelle/nacellelaw07.LoadFilters", spec := "loadFilters", unfollowed := true, recurses := true, apart := false }
def LoadFiltersSaid : Prop := loadFiltersRow.holds Try.pinned (OpenSpec.ofChange loadFiltersSpec)

/-- ITS FALSE NEIGHBOUR: 'it returns false'. Refute it at one input. -/
def loadFiltersWrong : ChangeSpec := { name := "loadFilters", fn := fun _ => fun
  | [d1, d2, d3] => { results := [.lit (.bool false)], args := [d1, d2, d3] }
  | _ => none }
def LoadFiltersWrongFalsely : Prop := loadFiltersRow.holds Try.pinned (OpenSpec.ofChange loadFiltersWrong)

/-- 'nacellelaw07.LoadJoins': WHATEVER THE INPUT: true; the input reads as it did. -/
def loadJoinsSpec : ChangeSpec := { name := "loadJoins", fn := fun _ => fun
  | [d1, d2, d3] => { results := [.lit (.bool true)], args := [d1, d2, d3] }
  | _ => none }
def loadJoinsRow : OpenClaim := { program := "ytdlngmbgalmdeaa", sum := "2394c6896558c58a27298cdff01626d7dcc49482f5b779105fef1927aab93d06", func := "nacelle/nacellelaw07.LoadJoins", spec := "loadJoins", unfollowed := true, recurses := true, apart := false }
def LoadJoinsSaid : Prop := loadJoinsRow.holds Try.pinned (OpenSpec.ofChange loadJoinsSpec)

/-- ITS FALSE NEIGHBOUR: 'it returns false'. Refute it at one input. -/
def loadJoinsWrong : ChangeSpec := { name := "loadJoins", fn := fun _ => fun
  | [d1, d2, d3] => { results := [.lit (.bool false)], args := [d1, d2, d3] }
  | _ => none }
def LoadJoinsWrongFalsely : Prop := loadJoinsRow.holds Try.pinned (OpenSpec.ofChange loadJoinsWrong)

/-- 'nacellelaw07.LoadCounts': WHATEVER THE INPUT: true; the input reads as it did. -/
def loadCountsSpec : ChangeSpec := { name := "loadCounts", fn := fun _ => fun
  | [d1, d2, d3] => { results := [.lit (.bool true)], args := [d1, d2, d3] }
  | _ => none }
def loadCountsRow : OpenClaim := { program := "ytdlngmbgalmdeaa", sum := "2394c6896558c58a27298cdff01626d7dcc49482f5b779105fef1927aab93d06", func := "nacelle/nacellelaw07.LoadCounts", spec := "loadCounts", unfollowed := true, recurses := true, apart := false }
def LoadCountsSaid : Prop := loadCountsRow.holds Try.pinned (OpenSpec.ofChange loadCountsSpec)

/-- ITS FALSE NEIGHBOUR: 'it returns false'. Refute it at one input. -/
def loadCountsWrong : ChangeSpec := { name := "loadCounts", fn := fun _ => fun
  | [d1, d2, d3] => { results := [.lit (.bool false)], args := [d1, d2, d3] }
  | _ => none }
def LoadCountsWrongFalsely : Prop := loadCountsRow.holds Try.pinned (OpenSpec.ofChange loadCountsWrong)

/-- 'nacellelaw07.LoadLives': WHATEVER THE INPUT: true; the input reads as it did. -/
def loadLivesSpec : ChangeSpec := { name := "loadLives", fn := fun _ => fun
  | [d1, d2, d3] => { results := [.lit (.bool true)], args := [d1, d2, d3] }
  | _ => none }
def loadLivesRow : OpenClaim := { program := "ytdlngmbgalmdeaa", sum := "2394c6896558c58a27298cdff01626d7dcc49482f5b779105fef1927aab93d06", func := "nacelle/nacellelaw07.LoadLives", spec := "loadLives", unfollowed := true, recurses := true, apart := false }
def LoadLivesSaid : Prop := loadLivesRow.holds Try.pinned (OpenSpec.ofChange loadLivesSpec)

/-- ITS FALSE NEIGHBOUR: 'it returns false'. Refute it at one input. -/
def loadLivesWrong : ChangeSpec := { name := "loadLives", fn := fun _ => fun
  | [d1, d2, d3] => { results := [.lit (.bool false)], args := [d1, d2, d3] }
  | _ => none }
def LoadLivesWrongFalsely : Prop := loadLivesRow.holds Try.pinned (OpenSpec.ofChange loadLivesWrong)

/-- 'nacellelaw07.LoadSpent': WHATEVER THE INPUT: true; the input reads as it did. -/
def loadSpentSpec : ChangeSpec := { name := "loadSpent", fn := fun _ => fun
  | [d1, d2, d3] => { results := [.lit (.bool true)], args := [d1, d2, d3] }
  | _ => none }
def loadSpentRow : OpenClaim := { program := "ytdlngmbgalmdeaa", sum := "2394c6896558c58a27298cdff01626d7dcc49482f5b779105fef1927aab93d06", func := "nacelle/nacellelaw07.LoadSpent", spec := "loadSpent", unfollowed := true, recurses := true, apart := false }
def LoadSpentSaid : Prop := loadSpentRow.holds Try.pinned (OpenSpec.ofChange loadSpentSpec)

/-- ITS FALSE NEIGHBOUR: 'it returns false'. Refute it at one input. -/
def loadSpentWrong : ChangeSpec := { name := "loadSpent", fn := fun _ => fun
  | [d1, d2, d3] => { results := [.lit (.bool false)], args := [d1, d2, d3] }
  | _ => none }
def LoadSpentWrongFalsely : Prop := loadSpentRow.holds Try.pinned (OpenSpec.ofChange loadSpentWrong)

/- THE SECOND FORM. 'bulk': how many values and letters a reading holds, each counted each time it is reached (what is shared counts as often as it is met; a slice's spare places count too). A statement '..UptoSaid' is the law's where the arguments, and the package variables that the reading takes, are together of bulk at most 1048576: NARROWER than '..Said'. Prove '..Said' where nothing that the law and all that it calls make is longer than what came in: it says more and counts as full. Else prove '..UptoSaid'. A law counts once. -/
mutual
def uptoBulk {H : Type} : DataW H → Nat
  | .lit (.string bytes) => bytes.length + 1
  | .lit _ => 1
  | .nil => 1
  | .ptr d => uptoBulk d + 1
  | .slice elems spare => uptoBulkAll elems + uptoBulkAll spare + 1
  | .agg parts => uptoBulkAll parts + 1
  | .iface _ d => uptoBulk d + 1
  | .map entries => uptoBulkEntries entries + 1
  | .held _ => 1
def uptoBulkAll {H : Type} : List (DataW H) → Nat
  | [] => 0
  | d :: r => uptoBulk d + uptoBulkAll r
def uptoBulkEntries {H : Type} : List (Lit × DataW H) → Nat
  | [] => 0
  | x :: r => uptoBulkEntry x + uptoBulkEntries r
def uptoBulkEntry {H : Type} : Lit × DataW H → Nat
  | (.string bytes, d) => bytes.length + uptoBulk d + 1
  | (_, d) => uptoBulk d + 1
 end
def uptoSmall : (H : Type) → List (DataW H) → Bool := fun _ ds => decide (uptoBulkAll ds ≤ 1048576)
def OpenSpec.upto (s : _root_.Go.ChangeSpec) : _root_.Go.OpenSpec := { _root_.Go.OpenSpec.ofChange s with cond := some uptoSmall }

/-- 'nacellelaw07.LoadReversals', WHERE WHAT IT READS IS OF BULK AT MOST 1048576: true; the input reads as it did. -/
def loadReversalsUptoRow : OpenClaim := { program := "ytdlngmbgalmdeaa", sum := "2394c6896558c58a27298cdff01626d7dcc49482f5b779105fef1927aab93d06", func := "nacelle/nacellelaw07.LoadReversals", spec := "loadReversals", unfollowed := true, recurses := true, apart := false, narrowed := true }
def LoadReversalsUptoSaid : Prop := loadReversalsUptoRow.holds Try.pinned (OpenSpec.upto loadReversalsSpec)

/-- 'nacellelaw07.LoadDamages', WHERE WHAT IT READS IS OF BULK AT MOST 1048576: true; the input reads as it did. -/
def loadDamagesUptoRow : OpenClaim := { program := "ytdlngmbgalmdeaa", sum := "2394c6896558c58a27298cdff01626d7dcc49482f5b779105fef1927aab93d06", func := "nacelle/nacellelaw07.LoadDamages", spec := "loadDamages", unfollowed := true, recurses := true, apart := false, narrowed := true }
def LoadDamagesUptoSaid : Prop := loadDamagesUptoRow.holds Try.pinned (OpenSpec.upto loadDamagesSpec)

/-- 'nacellelaw07.LoadEach', WHERE WHAT IT READS IS OF BULK AT MOST 1048576: true; the input reads as it did. -/
def loadEachUptoRow : OpenClaim := { program := "ytdlngmbgalmdeaa", sum := "2394c6896558c58a27298cdff01626d7dcc49482f5b779105fef1927aab93d06", func := "nacelle/nacellelaw07.LoadEach", spec := "loadEach", unfollowed := true, recurses := true, apart := false, narrowed := true }
def LoadEachUptoSaid : Prop := loadEachUptoRow.holds Try.pinned (OpenSpec.upto loadEachSpec)

/-- 'nacellelaw07.LoadLarge', WHERE WHAT IT READS IS OF BULK AT MOST 1048576: true; the input reads as it did. -/
def loadLargeUptoRow : OpenClaim := { program := "ytdlngmbgalmdeaa", sum := "2394c6896558c58a27298cdff01626d7dcc49482f5b779105fef1927aab93d06", func := "nacelle/nacellelaw07.LoadLarge", spec := "loadLarge", unfollowed := true, recurses := true, apart := false, narrowed := true }
def LoadLargeUptoSaid : Prop := loadLargeUptoRow.holds Try.pinned (OpenSpec.upto loadLargeSpec)

/-- 'nacellelaw07.LoadMirrors', WHERE WHAT IT READS IS OF BULK AT MOST 1048576: true; the input reads as it did. -/
def loadMirrorsUptoRow : OpenClaim := { program := "ytdlngmbgalmdeaa", sum := "2394c6896558c58a27298cdff01626d7dcc49482f5b779105fef1927aab93d06", func := "nacelle/nacellelaw07.LoadMirrors", spec := "loadMirrors", unfollowed := true, recurses := true, apart := false, narrowed := true }
def LoadMirrorsUptoSaid : Prop := loadMirrorsUptoRow.holds Try.pinned (OpenSpec.upto loadMirrorsSpec)

/-- 'nacellelaw07.LoadFilters', WHERE WHAT IT READS IS OF BULK AT MOST 1048576: true; the input reads as it did. -/
def loadFiltersUptoRow : OpenClaim := { program := "ytdlngmbgalmdeaa", sum := "2394c6896558c58a27298cdff01626d7dcc49482f5b779105fef1927aab93d06", func := "nacelle/nacellelaw07.LoadFilters", spec := "loadFilters", unfollowed := true, recurses := true, apart := false, narrowed := true }
def LoadFiltersUptoSaid : Prop := loadFiltersUptoRow.holds Try.pinned (OpenSpec.upto loadFiltersSpec)

/-- 'nacellelaw07.LoadJoins', WHERE WHAT IT READS IS OF BULK AT MOST 1048576: true; the input reads as it did. -/
def loadJoinsUptoRow : OpenClaim := { program := "ytdlngmbgalmdeaa", sum := "2394c6896558c58a27298cdff01626d7dcc49482f5b779105fef1927aab93d06", func := "nacelle/nacellelaw07.LoadJoins", spec := "loadJoins", unfollowed := true, recurses := true, apart := false, narrowed := true }
def LoadJoinsUptoSaid : Prop := loadJoinsUptoRow.holds Try.pinned (OpenSpec.upto loadJoinsSpec)

/-- 'nacellelaw07.LoadCounts', WHERE WHAT IT READS IS OF BULK AT MOST 1048576: true; the input reads as it did. -/
def loadCountsUptoRow : OpenClaim := { program := "ytdlngmbgalmdeaa", sum := "2394c6896558c58a27298cdff01626d7dcc49482f5b779105fef1927aab93d06", func := "nacelle/nacellelaw07.LoadCounts", spec := "loadCounts", unfollowed := true, recurses := true, apart := false, narrowed := true }
def LoadCountsUptoSaid : Prop := loadCountsUptoRow.holds Try.pinned (OpenSpec.upto loadCountsSpec)

/-- 'nacellelaw07.LoadLives', WHERE WHAT IT READS IS OF BULK AT MOST 1048576: true; the input reads as it did. -/
def loadLivesUptoRow : OpenClaim := { program := "ytdlngmbgalmdeaa", sum := "2394c6896558c58a27298cdff01626d7dcc49482f5b779105fef1927aab93d06", func := "nacelle/nacellelaw07.LoadLives", spec := "loadLives", unfollowed := true, recurses := true, apart := false, narrowed := true }
def LoadLivesUptoSaid : Prop := loadLivesUptoRow.holds Try.pinned (OpenSpec.upto loadLivesSpec)

/-- 'nacellelaw07.LoadSpent', WHERE WHAT IT READS IS OF BULK AT MOST 1048576: true; the input reads as it did. -/
def loadSpentUptoRow : OpenClaim := { program := "ytdlngmbgalmdeaa", sum := "2394c6896558c58a27298cdff01626d7dcc49482f5b779105fef1927aab93d06", func := "nacelle/nacellelaw07.LoadSpent", spec := "loadSpent", unfollowed := true, recurses := true, apart := false, narrowed := true }
def LoadSpentUptoSaid : Prop := loadSpentUptoRow.holds Try.pinned (OpenSpec.upto loadSpentSpec)

end Rows
end Go.Proofs.Ytdlngmbgalmdeaa
