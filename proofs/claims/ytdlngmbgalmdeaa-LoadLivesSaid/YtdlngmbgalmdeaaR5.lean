/- For every input the law LoadLives returns true, ends, and leaves its arguments as they were; no conditions. -/
import Derived.Test.YtdlngmbgalmdeaaC32
import Derived.Test.YtdlngmbgalmdeaaK23
import Derived.Test.YtdlngmbgalmdeaaChecked
import Derived.Test.YtdlngmbgalmdeaaRows
import Derived.Test.YtdlngmbgalmdeaaOk
import Derived.WalkKit
import Derived.ProofKit
import Derived.OpenShut
import Derived.ShutString
import Derived.ChangeOld
import Derived.Below
import Derived.SizedLaws
set_option linter.unusedVariables false
set_option maxRecDepth 100000
namespace Go.Proofs.Ytdlngmbgalmdeaa.loadLives
open Go.ChangeShapes Go.WideShapes Go.ChangeAt Go.RowKit Go.Nac
theorem own : ownKnob Try.prog.godebug = none := by kernel_rfl
theorem laidOut : laidOutB Try.prog = true := by kernel_rfl
theorem mixed : Try.prog.follows .mixedOrders = true := by kernel_rfl
theorem lifes : Opens Try.prog 102 (fun x : Life => [.I x.cap, .I x.exp]) (fun x => (-9223372036854775808 ≤ x.cap ∧ x.cap ≤ 9223372036854775807) ∧ (-9223372036854775808 ≤ x.exp ∧ x.exp ≤ 9223372036854775807)) :=
  (opens_rev Try.underlying102 (by kernel_rfl) ⟨rfl, by kernel_rfl, Try.underlying3⟩ ⟨rfl, by kernel_rfl, Try.underlying3⟩).map (fun r => (⟨r.at_, r.ld⟩ : Life)) (fun _ => rfl) (fun _ h => h)
theorem ints : Opens Try.prog 22 (fun l : List Int => [.fs (l.map .I)]) (fun l => ∀ z ∈ l, -9223372036854775808 ≤ z ∧ z ≤ 9223372036854775807) :=
  opens_slice Try.underlying22 (by kernel_rfl : Try.prog.cellsOf 3 = 1) (by decide) PV.I (fun _ => rfl) (fun _ => rfl) (opens_int Try.underlying3)
theorem lists : Opens Try.prog 103 (fun l : List (List Int) => [.fs (l.map fun r => .fs (r.map .I))]) (fun l => ∀ r ∈ l, ∀ z ∈ r, -9223372036854775808 ≤ z ∧ z ≤ 9223372036854775807) :=
  opens_slice Try.underlying103 (by kernel_rfl : Try.prog.cellsOf 22 = 1) (by decide) (fun r : List Int => .fs (r.map .I)) (fun _ => rfl) (fun _ => rfl) ints
theorem lifted (os : Os) (started : os.Started) (H : Type) (enc : TypeId × Value → H) :
    ReturnsInHanded {} Try.checked os 11 .any (Rows.loadLivesSpec.pre6 enc Try.prog Try.f11 Rows.loadLivesRow.domain false) (Rows.loadLivesSpec.post enc Try.prog Try.f11 false true false false) := by
  refine returnsInHanded_of_change_sized (C := Try.checked) own started (by kernel_rfl) Try.func11
    (ChangeSpec.witness6 (enc := enc) (C := Try.checked) false ⟨#[], #[.agg #[.int .i64 0, .int .i64 0], .slice none 0 0, .slice none 0 0], []⟩ 8 (by kernel_rfl) (by kernel_rfl) (by kernel_rfl) (by kernel_rfl)) ?_
  intro W base args ds gs before hval0 hW hcnd hsz0 _
  have hval : ∀ (j : Nat) t v, Try.f11.params[j]? = some t → args[j]? = some v → Value.okWide Try.prog W .any base t v := hval0
  have hW' := hW
  obtain ⟨p, q, hA0, hV, rfl, hfz, hnd⟩ := hW
  have hA : DataW.TrodAll enc Try.prog W 0 (fun _ => true) true Try.f11.params.toList args.toList ds p := hA0
  rw [Try.params11] at hA hval
  obtain ⟨v0, vs0, d0, ds0, p0, q0, hargs, rfl, rfl, h0, r0⟩ := trodAll_cons hA
  obtain ⟨v1, vs1, d1, ds1, p1, q1, rfl, rfl, rfl, h1, r1⟩ := trodAll_cons r0
  obtain ⟨v2, vs2, d2, ds2, p2, q2, rfl, rfl, rfl, h2, r2⟩ := trodAll_cons r1
  obtain ⟨rfl, rfl, rfl⟩ := trodAll_nil r2
  obtain rfl : args = #[v0, v1, v2] := by cases args; simp_all
  obtain ⟨rfl, rfl⟩ := trodVars_none hV
  have k0 := h0
  have lt0 : ∀ x ∈ p0, x.block < W.heap.size := by obtain ⟨m, hm⟩ := k0; exact DataW.trod_lt m _ _ _ hm
  have k1 := h1
  have lt1 : ∀ x ∈ p1, x.block < W.heap.size := by obtain ⟨m, hm⟩ := k1; exact DataW.trod_lt m _ _ _ hm
  have k2 := h2
  have lt2 : ∀ x ∈ p2, x.block < W.heap.size := by obtain ⟨m, hm⟩ := k2; exact DataW.trod_lt m _ _ _ hm
  obtain ⟨z0, rfl, _⟩ := okWide_struct Try.underlying102 (hval 0 102 v0 rfl rfl)
  obtain ⟨x0, _, y0⟩ := lifes.argA h0 (fun _ => none)
  obtain ⟨a1, len1, cap1, rfl⟩ := okWide_slice Try.underlying22 (hval 1 22 v1 rfl rfl)
  obtain ⟨x1, _, y1⟩ := ints.arg (fun l => .fs (l.map .I)) (fun _ => rfl) rfl h1 (fun _ => none)
  obtain ⟨a2, len2, cap2, rfl⟩ := okWide_slice Try.underlying103 (hval 2 103 v2 rfl rfl)
  obtain ⟨x2, _, y2⟩ := lists.arg (fun l => .fs (l.map fun r => .fs (r.map .I))) (fun _ => rfl) rfl h2 (fun _ => none)
  refine (law_calls mixed okF (L1.q_law07_LoadLives (X := fun _ _ _ => False) x0 x1 x2) (W := W) (cargs := #[.agg z0, .slice a1 len1 cap1, .slice a2 len2 cap2]) (.cons _ _ _ _ y0 (.cons _ _ _ _ y1 (.cons _ _ _ _ y2 .nil)))).mono fun e W' ⟨he, bel⟩ => ?_
  subst he
  exact ⟨_, rfl, _, _, _, [], _, [], hW', trodAll_mk1 (shut_bool Try.underlying4 _), (trodAll_cons_mk (Below.trod laidOut (by kernel_rfl) (of_decide_eq_true (by kernel_rfl)) k0 bel lt0) (trodAll_cons_mk (Below.trod laidOut (by kernel_rfl) (of_decide_eq_true (by kernel_rfl)) k1 bel lt1) (trodAll_cons_mk (Below.trod laidOut (by kernel_rfl) (of_decide_eq_true (by kernel_rfl)) k2 bel lt2) trodAll_mk0))), rfl, bel.frame _, fun h => by cases h⟩
theorem over : Rows.loadLivesRow.holds Try.pinned (OpenSpec.ofChange Rows.loadLivesSpec) :=
  OpenClaim.holds_of_wide 11 Try.f11 rfl rfl rfl rfl rfl rfl rfl ⟨rfl, rfl, rfl, rfl, rfl⟩ rfl rfl rfl rfl rfl (by kernel_rfl) Try.func11 (by kernel_rfl)
    (of_decide_eq_true (by kernel_rfl)) (by unfold Func.isWrapper; first | (rw [if_pos (by decide +kernel)]; kernel_rfl) | (rw [if_neg (by decide +kernel)]; exact ⟨rfl, rfl⟩))
    (fun os started H enc _ => lifted os started H enc)
theorem proved : Rows.LoadLivesSaid := over
end Go.Proofs.Ytdlngmbgalmdeaa.loadLives

