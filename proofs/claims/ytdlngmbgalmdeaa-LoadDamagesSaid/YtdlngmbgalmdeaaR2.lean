/- For every input the law LoadDamages returns true, ends, and leaves its arguments as they were; no conditions. -/
import Derived.Test.YtdlngmbgalmdeaaC22
import Derived.Test.YtdlngmbgalmdeaaK21
import Derived.Test.YtdlngmbgalmdeaaRows
import Derived.Test.YtdlngmbgalmdeaaOk
import Derived.WalkKit
import Derived.ProofKit
import Derived.OpenShut
import Derived.ShutString
import Derived.ChangeOld
import Derived.Below
import Derived.SizedLaws
set_option linter.unusedVariables false
set_option maxRecDepth 100000
namespace Go.Proofs.Ytdlngmbgalmdeaa.loadDamages
open Go.ChangeShapes Go.WideShapes Go.ChangeAt Go.RowKit Go.Nac
theorem own : ownKnob Try.prog.godebug = none := by kernel_rfl
theorem laidOut : laidOutB Try.prog = true := by kernel_rfl
theorem mixed : Try.prog.follows .mixedOrders = true := by kernel_rfl
theorem ints : Opens Try.prog 22 (fun l : List Int => [.fs (l.map .I)]) (fun l => ∀ z ∈ l, -9223372036854775808 ≤ z ∧ z ≤ 9223372036854775807) :=
  opens_slice Try.underlying22 (by kernel_rfl : Try.prog.cellsOf 3 = 1) (by decide) PV.I (fun _ => rfl) (fun _ => rfl) (opens_int Try.underlying3)
theorem revs : Opens Try.prog 23 (fun l : List Rev => [.fs (l.map encRev)]) (fun l => ∀ r ∈ l, (-9223372036854775808 ≤ r.at_ ∧ r.at_ ≤ 9223372036854775807) ∧ (-9223372036854775808 ≤ r.ld ∧ r.ld ≤ 9223372036854775807)) :=
  opens_slice Try.underlying23 (by kernel_rfl : Try.prog.cellsOf 68 = 2) (by decide) encRev (fun _ => rfl) (fun _ => rfl)
    (opens_rev Try.underlying68 (by kernel_rfl) ⟨rfl, by kernel_rfl, Try.underlying3⟩ ⟨rfl, by kernel_rfl, Try.underlying3⟩)
theorem cycs : Opens Try.prog 40 (fun l : List Cyc => [.fs (l.map encCyc)]) (fun l => ∀ c ∈ l, (-9223372036854775808 ≤ c.from_ ∧ c.from_ ≤ 9223372036854775807) ∧ (-9223372036854775808 ≤ c.to_ ∧ c.to_ ≤ 9223372036854775807) ∧ (-9223372036854775808 ≤ c.lo ∧ c.lo ≤ 9223372036854775807) ∧ (-9223372036854775808 ≤ c.hi ∧ c.hi ≤ 9223372036854775807)) :=
  opens_slice Try.underlying40 (by kernel_rfl : Try.prog.cellsOf 67 = 4) (by decide) encCyc (fun _ => rfl) (fun _ => rfl)
    (opens_cyc Try.underlying67 (by kernel_rfl) ⟨rfl, by kernel_rfl, Try.underlying3⟩ ⟨rfl, by kernel_rfl, Try.underlying3⟩ ⟨rfl, by kernel_rfl, Try.underlying3⟩ ⟨rfl, by kernel_rfl, Try.underlying3⟩)
theorem lifted (os : Os) (started : os.Started) (H : Type) (enc : TypeId × Value → H) :
    ReturnsInHanded {} Try.checked os 4 .any (Rows.loadDamagesSpec.pre6 enc Try.prog Try.f4 Rows.loadDamagesRow.domain false) (Rows.loadDamagesSpec.post enc Try.prog Try.f4 false true false false) := by
  refine returnsInHanded_of_change_sized (C := Try.checked) own started (by kernel_rfl) Try.func4
    (ChangeSpec.witness6 (enc := enc) (C := Try.checked) false ⟨#[], #[.agg #[.slice none 0 0, .slice none 0 0, .slice none 0 0, .int .i64 0, .int .i64 0]], []⟩ 8 (by kernel_rfl) (by kernel_rfl) (by kernel_rfl) (by kernel_rfl)) ?_
  intro W base args ds gs before hval0 hW hcnd hsz0 _
  have hval : ∀ (j : Nat) t v, Try.f4.params[j]? = some t → args[j]? = some v → Value.okWide Try.prog W .any base t v := hval0
  have hW' := hW
  obtain ⟨p, q, hA0, hV, rfl, hfz, hnd⟩ := hW
  have hA : DataW.TrodAll enc Try.prog W 0 (fun _ => true) true Try.f4.params.toList args.toList ds p := hA0
  rw [Try.params4] at hA hval
  obtain ⟨v0, vs0, d0, ds0, p0, q0, hargs, rfl, rfl, h0, r0⟩ := trodAll_cons hA
  obtain ⟨rfl, rfl, rfl⟩ := trodAll_nil r0
  obtain rfl : args = #[v0] := by cases args; simp_all
  obtain ⟨rfl, rfl⟩ := trodVars_none hV
  have k0 := h0
  have lt0 : ∀ x ∈ p0, x.block < W.heap.size := by obtain ⟨m, hm⟩ := k0; exact DataW.trod_lt m _ _ _ hm
  obtain ⟨vs, rfl, _⟩ := okWide_struct Try.underlying42 (hval 0 42 v0 rfl rfl)
  obtain ⟨cs, rs, ls, e, n, _, _, _, _, _, hl⟩ := arg5 (g0 := fun l : List Cyc => .fs (l.map encCyc)) (g1 := fun l : List Rev => .fs (l.map encRev)) (g2 := fun l : List Int => .fs (l.map .I)) (g3 := PV.I) (g4 := PV.I)
    Try.underlying42 (by kernel_rfl) ⟨rfl, rfl, rfl, rfl, rfl⟩ ⟨by kernel_rfl, by kernel_rfl, by kernel_rfl, by kernel_rfl, by kernel_rfl⟩ cycs revs ints (opens_int Try.underlying3) (opens_int Try.underlying3) h0 (fun _ => none)
  refine (law_calls mixed okF (L1.q_law07_LoadDamages (X := fun _ _ _ => False) cs rs ls e n) (W := W) (cargs := #[.agg vs]) (.cons _ _ _ _ hl .nil)).mono fun e W' ⟨he, bel⟩ => ?_
  subst he
  exact ⟨_, rfl, _, _, _, [], _, [], hW', trodAll_mk1 (shut_bool Try.underlying4 _),
    (trodAll_cons_mk (Below.trod laidOut (by kernel_rfl) (of_decide_eq_true (by kernel_rfl)) k0 bel lt0) trodAll_mk0), rfl, bel.frame _, fun h => by cases h⟩
theorem over : Rows.loadDamagesRow.holds Try.pinned (OpenSpec.ofChange Rows.loadDamagesSpec) :=
  OpenClaim.holds_of_wide 4 Try.f4 rfl rfl rfl rfl rfl rfl rfl ⟨rfl, rfl, rfl, rfl, rfl⟩ rfl rfl rfl rfl rfl (by kernel_rfl) Try.func4 (by kernel_rfl)
    (of_decide_eq_true (by kernel_rfl)) (by unfold Func.isWrapper; first | (rw [if_pos (by decide +kernel)]; kernel_rfl) | (rw [if_neg (by decide +kernel)]; exact ⟨rfl, rfl⟩))
    (fun os started H enc _ => lifted os started H enc)
theorem proved : Rows.LoadDamagesSaid := over
end Go.Proofs.Ytdlngmbgalmdeaa.loadDamages
