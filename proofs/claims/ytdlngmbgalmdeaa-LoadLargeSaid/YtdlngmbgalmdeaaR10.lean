/- For every input the law LoadLarge returns true, ends, and leaves its arguments as they were; no conditions. -/
import Derived.Test.YtdlngmbgalmdeaaC40
import Derived.Test.YtdlngmbgalmdeaaK23
import Derived.Test.YtdlngmbgalmdeaaChecked
import Derived.Test.YtdlngmbgalmdeaaRows
import Derived.Test.YtdlngmbgalmdeaaOk
import Derived.WalkKit
import Derived.ProofKit
import Derived.OpenShut
import Derived.ShutString
import Derived.ChangeOld
import Derived.Below
import Derived.SizedLaws
set_option linter.unusedVariables false
set_option maxRecDepth 100000
namespace Go.Proofs.Ytdlngmbgalmdeaa.loadLarge
open Go.ChangeShapes Go.WideShapes Go.ChangeAt Go.RowKit Go.Nac
theorem own : ownKnob Try.prog.godebug = none := by kernel_rfl
theorem laidOut : laidOutB Try.prog = true := by kernel_rfl
theorem mixed : Try.prog.follows .mixedOrders = true := by kernel_rfl
theorem ints : Opens Try.prog 22 (fun l : List Int => [.fs (l.map .I)]) (fun l => ∀ z ∈ l, -9223372036854775808 ≤ z ∧ z ≤ 9223372036854775807) :=
  opens_slice Try.underlying22 (by kernel_rfl : Try.prog.cellsOf 3 = 1) (by decide) PV.I (fun _ => rfl) (fun _ => rfl) (opens_int Try.underlying3)
theorem lifted (os : Os) (started : os.Started) (H : Type) (enc : TypeId × Value → H) :
    ReturnsInHanded {} Try.checked os 6 .any (Rows.loadLargeSpec.pre6 enc Try.prog Try.f6 Rows.loadLargeRow.domain false) (Rows.loadLargeSpec.post enc Try.prog Try.f6 false true false false) := by
  refine returnsInHanded_of_change_sized (C := Try.checked) own started (by kernel_rfl) Try.func6
    (ChangeSpec.witness6 (enc := enc) (C := Try.checked) false ⟨#[], #[.slice none 0 0, .agg #[.int .u16 0, .int .u16 0]], []⟩ 8 (by kernel_rfl) (by kernel_rfl) (by kernel_rfl) (by kernel_rfl)) ?_
  intro W base args ds gs before hval0 hW hcnd hsz0 _
  have hval : ∀ (j : Nat) t v, Try.f6.params[j]? = some t → args[j]? = some v → Value.okWide Try.prog W .any base t v := hval0
  have hW' := hW
  obtain ⟨p, q, hA0, hV, rfl, hfz, hnd⟩ := hW
  have hA : DataW.TrodAll enc Try.prog W 0 (fun _ => true) true Try.f6.params.toList args.toList ds p := hA0
  rw [Try.params6] at hA hval
  obtain ⟨v0, vs0, d0, ds0, p0, q0, hargs, rfl, rfl, h0, r0⟩ := trodAll_cons hA
  obtain ⟨v1, vs1, d1, ds1, p1, q1, rfl, rfl, rfl, h1, r1⟩ := trodAll_cons r0
  obtain ⟨rfl, rfl, rfl⟩ := trodAll_nil r1
  obtain rfl : args = #[v0, v1] := by cases args; simp_all
  obtain ⟨rfl, rfl⟩ := trodVars_none hV
  have k0 := h0
  have lt0 : ∀ x ∈ p0, x.block < W.heap.size := by obtain ⟨m, hm⟩ := k0; exact DataW.trod_lt m _ _ _ hm
  have k1 := h1
  have lt1 : ∀ x ∈ p1, x.block < W.heap.size := by obtain ⟨m, hm⟩ := k1; exact DataW.trod_lt m _ _ _ hm
  obtain ⟨a0, len0, cap0, rfl⟩ := okWide_slice Try.underlying22 (hval 0 22 v0 rfl rfl)
  obtain ⟨x0, _, y0⟩ := ints.arg (fun l => .fs (l.map .I)) (fun _ => rfl) rfl h0 (fun _ => none)
  obtain ⟨z1, rfl⟩ := Nac.okWide_arr Try.underlying72 (hval 1 72 v1 rfl rfl)
  obtain ⟨x1, x1b, o1, o1b, y1⟩ := arg_arr2 (g := fun z => .s (.int .u16 z)) Try.underlying72 (by kernel_rfl) (by kernel_rfl) (opens_u16 Try.underlying71) h1 (fun _ => none)
  refine (law_calls mixed okF (L1.q_law07_LoadLarge (X := fun _ _ _ => False) x0 x1 x1b o1 o1b) (W := W) (cargs := #[.slice a0 len0 cap0, .agg z1]) (.cons _ _ _ _ y0 (.cons _ _ _ _ y1 .nil))).mono fun e W' ⟨he, bel⟩ => ?_
  subst he
  exact ⟨_, rfl, _, _, _, [], _, [], hW', trodAll_mk1 (shut_bool Try.underlying4 _), (trodAll_cons_mk (Below.trod laidOut (by kernel_rfl) (of_decide_eq_true (by kernel_rfl)) k0 bel lt0) (trodAll_cons_mk (Below.trod laidOut (by kernel_rfl) (of_decide_eq_true (by kernel_rfl)) k1 bel lt1) trodAll_mk0)), rfl, bel.frame _, fun h => by cases h⟩
theorem over : Rows.loadLargeRow.holds Try.pinned (OpenSpec.ofChange Rows.loadLargeSpec) :=
  OpenClaim.holds_of_wide 6 Try.f6 rfl rfl rfl rfl rfl rfl rfl ⟨rfl, rfl, rfl, rfl, rfl⟩ rfl rfl rfl rfl rfl (by kernel_rfl) Try.func6 (by kernel_rfl)
    (of_decide_eq_true (by kernel_rfl)) (by unfold Func.isWrapper; first | (rw [if_pos (by decide +kernel)]; kernel_rfl) | (rw [if_neg (by decide +kernel)]; exact ⟨rfl, rfl⟩))
    (fun os started H enc _ => lifted os started H enc)
theorem proved : Rows.LoadLargeSaid := over
end Go.Proofs.Ytdlngmbgalmdeaa.loadLarge

