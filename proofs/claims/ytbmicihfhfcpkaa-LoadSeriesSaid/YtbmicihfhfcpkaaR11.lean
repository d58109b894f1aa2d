/- For every input the law LoadSeries returns true, ends, and leaves its arguments as they were; no conditions. -/
import Derived.Test.YtbmicihfhfcpkaaD26
import Derived.Test.YtbmicihfhfcpkaaK20
import Derived.Test.YtbmicihfhfcpkaaK27
import Derived.Test.YtbmicihfhfcpkaaChecked
import Derived.Test.YtbmicihfhfcpkaaRows
import Derived.Test.YtbmicihfhfcpkaaOk
import Derived.WalkKit
import Derived.ProofKit
import Derived.OpenShut
import Derived.ShutString
import Derived.ChangeOld
import Derived.Below
import Derived.SizedLaws
set_option linter.unusedVariables false
set_option maxRecDepth 100000
namespace Go.Proofs.Ytbmicihfhfcpkaa.loadSeries
open Go.ChangeShapes Go.WideShapes Go.ChangeAt Go.RowKit Go.Nac
theorem own : ownKnob Try.prog.godebug = none := by kernel_rfl
theorem laidOut : laidOutB Try.prog = true := by kernel_rfl
theorem mixed : Try.prog.follows .mixedOrders = true := by kernel_rfl
theorem spns : Opens Try.prog 23 (fun l : List Spn => [.fs (l.map encSpn)]) (fun _ => True) :=
  (opens_slice Try.underlying23 (by kernel_rfl : Try.prog.cellsOf 93 = 2) (by decide) encSpn (fun _ => rfl) (fun _ => rfl)
    ((opens_rev Try.underlying93 (by kernel_rfl) ⟨rfl, by kernel_rfl, Try.underlying3⟩ ⟨rfl, by kernel_rfl, Try.underlying3⟩).map (fun r => (⟨r.at_, r.ld⟩ : Spn)) (fun _ => rfl) (ok' := fun _ => True) (fun _ _ => trivial))).map id (fun _ => rfl) (fun _ _ => trivial)
theorem smps : Opens Try.prog 22 (fun l : List Nat => [.fs (l.map encF)]) (fun _ => True) :=
  (opens_slice Try.underlying22 (by kernel_rfl : Try.prog.cellsOf 94 = 1) (by decide) encF (fun _ => rfl) (fun _ => rfl) (opens_f32 Try.underlying94)).map id (fun _ => rfl) (fun _ _ => trivial)
theorem sers : Opens Try.prog 25 (fun x : Ser => [.s (.string x.name), .I x.start, .fs (x.samples.map encF), .fs (x.gaps.map encSpn)]) (fun _ => True) :=
  (Opens.struct Try.underlying25 (by kernel_rfl) (OpensFs.cons (opens_str Try.underlying9) rfl (by kernel_rfl : Try.prog.cellsOf 9 = 1) (by decide) (OpensFs.cons (opens_int Try.underlying3) rfl (by kernel_rfl : Try.prog.cellsOf 3 = 1) (by decide)
    (OpensFs.cons smps rfl (by kernel_rfl : Try.prog.cellsOf 22 = 1) (by decide) (OpensFs.cons spns rfl (by kernel_rfl : Try.prog.cellsOf 23 = 1) (by decide) OpensFs.nil))))).map
    (fun p => (⟨p.1, p.2.1, p.2.2.1, p.2.2.2.1⟩ : Ser)) (fun _ => rfl) (fun _ _ => trivial)
/-- The floor of math, which the translation leaves to the model. -/
def XF (f : FuncId) (args : List PV) (r : PV) : Prop := f = 113 ∧ ∃ (x : Nat) (s : Bool) (m : Nat) (l : Int), Ieee.double.read x = .number s m l ∧ args = [.s (.float .f64 x)] ∧ r = .s (.float .f64 (Ieee.double.write ((Ieee.double.read x).integral .down)))
theorem floorX : L2.FloorX XF := fun x s m l h => ⟨rfl, x, s, m, l, h, rfl, rfl⟩
theorem xfOk : ∀ f args r, XF f args r → ∀ M, Conc Try.prog (.fn f) args M r M := by
  rintro f args r ⟨rfl, x, s, m, l, h, rfl, rfl⟩ M
  exact floor_conc Try.func113 (by kernel_rfl) (by kernel_rfl) (by kernel_rfl) rfl h M
theorem lifted (os : Os) (started : os.Started) (H : Type) (enc : TypeId × Value → H) :
    ReturnsInHanded {} Try.checked os 3 .any (Rows.loadSeriesSpec.pre6 enc Try.prog Try.f3 Rows.loadSeriesRow.domain false) (Rows.loadSeriesSpec.post enc Try.prog Try.f3 false true false false) := by
  refine returnsInHanded_of_change_sized (C := Try.checked) own started (by kernel_rfl) Try.func3
    (ChangeSpec.witness6 (enc := enc) (C := Try.checked) false ⟨#[], #[.agg #[.string ⟨#[]⟩, .int .i64 0, .slice none 0 0, .slice none 0 0]], []⟩ 8 (by kernel_rfl) (by kernel_rfl) (by kernel_rfl) (by kernel_rfl)) ?_
  intro W base args ds gs before hval0 hW hcnd hsz0 _
  have hval : ∀ (j : Nat) t v, Try.f3.params[j]? = some t → args[j]? = some v → Value.okWide Try.prog W .any base t v := hval0
  have hW' := hW
  obtain ⟨p, q, hA0, hV, rfl, hfz, hnd⟩ := hW
  have hA : DataW.TrodAll enc Try.prog W 0 (fun _ => true) true Try.f3.params.toList args.toList ds p := hA0
  rw [Try.params3] at hA hval
  obtain ⟨v0, vs0, d0, ds0, p0, q0, hargs, rfl, rfl, h0, r0⟩ := trodAll_cons hA
  obtain ⟨rfl, rfl, rfl⟩ := trodAll_nil r0
  obtain rfl : args = #[v0] := by cases args; simp_all
  obtain ⟨rfl, rfl⟩ := trodVars_none hV
  have k0 := h0
  have lt0 : ∀ x ∈ p0, x.block < W.heap.size := by obtain ⟨m, hm⟩ := k0; exact DataW.trod_lt m _ _ _ hm
  obtain ⟨z0, rfl, _⟩ := okWide_struct Try.underlying25 (hval 0 25 v0 rfl rfl)
  obtain ⟨x0, _, y0⟩ := sers.argA h0 (fun _ => none)
  refine (law_callsX mixed okF xfOk rfl (L2.q_law07_LoadSeries floorX x0) (W := W) (cargs := #[.agg z0]) (.cons _ _ _ _ y0 .nil)).mono fun e W' ⟨he, bel⟩ => ?_
  subst he
  exact ⟨_, rfl, _, _, _, [], _, [], hW', trodAll_mk1 (shut_bool Try.underlying4 _), (trodAll_cons_mk (Below.trod laidOut (by kernel_rfl) (of_decide_eq_true (by kernel_rfl)) k0 bel lt0) trodAll_mk0), rfl, bel.frame _, fun h => by cases h⟩
theorem over : Rows.loadSeriesRow.holds Try.pinned (OpenSpec.ofChange Rows.loadSeriesSpec) :=
  OpenClaim.holds_of_wide 3 Try.f3 rfl rfl rfl rfl rfl rfl rfl ⟨rfl, rfl, rfl, rfl, rfl⟩ rfl rfl rfl rfl rfl (by kernel_rfl) Try.func3 (by kernel_rfl)
    (of_decide_eq_true (by kernel_rfl)) (by unfold Func.isWrapper; first | (rw [if_pos (by decide +kernel)]; kernel_rfl) | (rw [if_neg (by decide +kernel)]; exact ⟨rfl, rfl⟩))
    (fun os started H enc _ => lifted os started H enc)
theorem proved : Rows.LoadSeriesSaid := over
end Go.Proofs.Ytbmicihfhfcpkaa.loadSeries

