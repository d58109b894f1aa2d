import Derived.Test.YtbmicihfhfcpkaaK13
import Derived.Laws.Externs
set_option linter.unusedVariables false
namespace Go.Nac
open Ieee
theorem floor_conc {P : Program} {f : FuncId} {fn : Func} (hf : P.funcs[f]? = some fn) (hname : (fn.name == "runtime.NumGoroutine") = false) (hb : fn.body.isNone = true) (hn : Extern.findNext fn = none)
    (he : Extern.find fn = some (Extern.MathFloor.toIntegral "math.archFloor" .down)) {x : Nat} {s : Bool} {m : Nat} {l : Int} (hx : double.read x = .number s m l) (M : List Blk) :
    Conc P (.fn f) [.s (.float .f64 x)] M (.s (.float .f64 (double.write ((double.read x).integral .down)))) M := by
  intro L w cargs S A
  obtain ⟨cargs⟩ := cargs
  cases A with
  | cons _ v _ vs h hs =>
    cases hs
    have hv := h.s_inv
    subst hv
    refine .inr ⟨rfl, _, w, ?_, L, Evo.refl _ _ _, S, .s _ rfl⟩
    rw [run_callFunc_extern hf hname hb hn he]
    have hd : FloatKind.f64.decode x = .number s m l := hx
    have key : Extern.MathFloor.toIntegral "math.archFloor" .down #[.float .f64 x] = pure (.float .f64 (double.write ((double.read x).integral .down))) := by
      show Extern.MathFloor.toIntegral.match_1 _ (FloatKind.f64.decode x) _ _ = _
      rw [hd, hx]; rfl
    rw [key]; rfl
end Go.Nac

