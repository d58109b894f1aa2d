/-
  No cell of these rows narrows 'for every input' (looked for: loops, veiled, ifaces, maps, wideKeys, modest, calm, conditions, laid).
  DERIVED. THE GIVEN ROWS OF THIS SEAT. 2 by the template 'for every input the law returns true; each argument reads behind the call as it read before'; 0 by the template 'total and deterministic' (their statements: YtbmicihfhfcpkaaTotals.lean).
  GIVEN WITH THE SEED: the statements are not yours to turn. If you find one false, say at which input.
  Laid BY PROGRAM, IN A SANDBOX (cutbox-rows.mjs): the forced cells as the released guide's own fill.sh prints them over the translation 9f0b307772b1b7ba… (all of the seat's roots in one cut). By AI agents, Wed Nov 11 2026. No macro, syntax, notation, axiom, sorry.
-/
import Derived.Test.YtbmicihfhfcpkaaChecked
import GoSem.Claim
import GoSem.ClaimJoined
import GoSem.ClaimMapViews
import Derived.JoinedTies
import Derived.KernelRfl
namespace Go.Proofs.Ytbmicihfhfcpkaa
/- THE CELL 'sum', in the pinned program and in every row, IS THE sha256 OF THE DUMP (.gsa) THAT YtbmicihfhfcpkaaProg.lean LOADS. Nothing in Lean hashes anything: it is a label: what it is worth is what the hold of that sum in a sandbox is worth. -/
noncomputable def Try.pinned : Pinned := { name := "ytbmicihfhfcpkaa", sum := "9f0b307772b1b7bab2b93af97f95f9aebe924cc902a6d169b06e697d20a19083", checked := Try.checked }
namespace Rows
def none {H : Type} : Left H := { results := [], args := [] }

/-- 'nacellelaw07.LoadSeries': WHATEVER THE INPUT: true; the input reads as it did. -/
def loadSeriesSpec : ChangeSpec := { name := "loadSeries", fn := fun _ => fun
  | [d] => { results := [.lit (.bool true)], args := [d] }
  | _ => none }
def loadSeriesRow : OpenClaim := { program := "ytbmicihfhfcpkaa", sum := "9f0b307772b1b7bab2b93af97f95f9aebe924cc902a6d169b06e697d20a19083", func := "nacelle/nacellelaw07.LoadSeries", spec := "loadSeries", inPlace := ["math.archFloor", "math.Float64bits", "math.Float64frombits", "math.archTrunc"], unfollowed := true, recurses := true, apart := false }
def LoadSeriesSaid : Prop := loadSeriesRow.holds Try.pinned (OpenSpec.ofChange loadSeriesSpec)

/-- ITS FALSE NEIGHBOUR: 'it returns false'. Refute it at one input. -/
def loadSeriesWrong : ChangeSpec := { name := "loadSeries", fn := fun _ => fun
  | [d] => { results := [.lit (.bool false)], args := [d] }
  | _ => none }
def LoadSeriesWrongFalsely : Prop := loadSeriesRow.holds Try.pinned (OpenSpec.ofChange loadSeriesWrong)

/-- 'nacellelaw07.LoadClasses': WHATEVER THE INPUT: true; the input reads as it did. -/
def loadClassesSpec : ChangeSpec := { name := "loadClasses", fn := fun _ => fun
  | [d1, d2, d3] => { results := [.lit (.bool true)], args := [d1, d2, d3] }
  | _ => none }
def loadClassesRow : OpenClaim := { program := "ytbmicihfhfcpkaa", sum := "9f0b307772b1b7bab2b93af97f95f9aebe924cc902a6d169b06e697d20a19083", func := "nacelle/nacellelaw07.LoadClasses", spec := "loadClasses", unfollowed := true, recurses := true, apart := false }
def LoadClassesSaid : Prop := loadClassesRow.holds Try.pinned (OpenSpec.ofChange loadClassesSpec)

/-- ITS FALSE NEIGHBOUR: 'it returns false'. Refute it at one input. -/
def loadClassesWrong : ChangeSpec := { name := "loadClasses", fn := fun _ => fun
  | [d1, d2, d3] => { results := [.lit (.bool false)], args := [d1, d2, d3] }
  | _ => none }
def LoadClassesWrongFalsely : Prop := loadClassesRow.holds Try.pinned (OpenSpec.ofChange loadClassesWrong)

/- THE SECOND FORM. 'bulk': how many values and letters a reading holds, each counted each time it is reached (what is shared counts as often as it is met; a slice's spare places count too). A statement '..UptoSaid' is the law's where the arguments, and the package variables that the reading takes, are together of bulk at most 1048576: NARROWER than '..Said'. Prove '..Said' where nothing that the law and all that it calls make is longer than what came in: it says more and counts as full. Else prove '..UptoSaid'. A law counts once. -/
mutual
def uptoBulk {H : Type} : DataW H → Nat
  | .lit (.string bytes) => bytes.length + 1
  | .lit _ => 1
  | .nil => 1
  | .ptr d => uptoBulk d + 1
  | .slice elems spare => uptoBulkAll elems + uptoBulkAll spare + 1
  | .agg parts => uptoBulkAll parts + 1
  | .iface _ d => uptoBulk d + 1
  | .map entries => uptoBulkEntries entries + 1
  | .held _ => 1
def uptoBulkAll {H : Type} : List (DataW H) → Nat
  | [] => 0
  | d :: r => uptoBulk d + uptoBulkAll r
def uptoBulkEntries {H : Type} : List (Lit × DataW H) → Nat
  | [] => 0
  | x :: r => uptoBulkEntry x + uptoBulkEntries r
def uptoBulkEntry {H : Type} : Lit × DataW H → Nat
  | (.string bytes, d) => bytes.length + uptoBulk d + 1
  | (_, d) => uptoBulk d + 1
 end
def uptoSmall : (H : Type) → List (DataW H) → Bool := fun _ ds => decide (uptoBulkAll ds ≤ 1048576)
def OpenSpec.upto (s : _root_.Go.ChangeSpec) : _root_.Go.OpenSpec := { _root_.Go.OpenSpec.ofChange s with cond := some uptoSmall }

/-- 'nacellelaw07.LoadSeries', WHERE WHAT IT READS IS OF BULK AT MOST 1048576: true; the input reads as it did. -/
def loadSeriesUptoRow : OpenClaim := { program := "ytbmicihfhfcpkaa", sum := "9f0b307772b1b7bab2b93af97f95f9aebe924cc902a6d169b06e697d20a19083", func := "nacelle/nacellelaw07.LoadSeries", spec := "loadSeries", inPlace := ["math.archFloor", "math.Float64bits", "math.Float64frombits", "math.archTrunc"], unfollowed := true, recurses := true, apart := false, narrowed := true }
def LoadSeriesUptoSaid : Prop := loadSeriesUptoRow.holds Try.pinned (OpenSpec.upto loadSeriesSpec)

/-- 'nacellelaw07.LoadClasses', WHERE WHAT IT READS IS OF BULK AT MOST 1048576: true; the input reads as it did. -/
def loadClassesUptoRow : OpenClaim := { program := "ytbmicihfhfcpkaa", sum := "9f0b307772b1b7bab2b93af97f95f9aebe924cc902a6d169b06e697d20a19083", func := "nacelle/nacellelaw07.LoadClasses", spec := "loadClasses", unfollowed := true, recurses := true, apart := false, narrowed := true }
def LoadClassesUptoSaid : Prop := loadClassesUptoRow.holds Try.pinned (OpenSpec.upto loadClassesSpec)

end Rows
end Go.Proofs.Ytbmicihfhfcpkaa
