import Derived.Test.YtdlngmbgalmdeaaK21
set_option linter.unusedVariables false
namespace Go.Nac
theorem arg_arr2 {P : Program} {t e : TypeId} (ht : P.underlying t = some (.array 2 e)) (hc : P.cellsOf t = 2) (he : P.cellsOf e = 1) {A : Type} {g : A → PV} {ok : A → Prop} (h : Opens P e (fun a => [g a]) ok)
    {H : Type} {enc : TypeId × Value → H} {W : World} {vs : Array Value} {d : DataW H} {ps : List MemPlace} (hT : DataW.Trod enc P W 0 (fun _ => true) true t (.agg vs) d ps) (L : Loc) :
    ∃ x y, ok x ∧ ok y ∧ VRel [] L W (.agg [g x, g y]) (.agg vs) := by
  obtain ⟨n, hn⟩ := hT
  obtain ⟨xs, m, _, _, hl, hxl, hx⟩ := DataW.trod_array ht hn
  have e0 : (Value.agg vs).cells.toList = vs.toList := rfl
  rw [e0] at hl hx
  rw [he] at hx
  obtain ⟨a, b, hv⟩ : ∃ a b, vs.toList = [a, b] := by
    generalize vs.toList = cs at hl
    rw [hc] at hl
    match cs, hl with
    | [a, b], _ => exact ⟨a, b, rfl⟩
  have h0 := hx 0 (by omega)
  have h1 := hx 1 (by omega)
  rw [hv, List.getElem?_eq_getElem (by omega)] at h0 h1
  obtain ⟨x, o0, r0⟩ := h.one g (fun _ => rfl) (L := L) h0
  obtain ⟨y, o1, r1⟩ := h.one g (fun _ => rfl) (L := L) h1
  refine ⟨x, y, o0, o1, .agg _ _ ?_⟩
  rw [hv]
  exact .cons _ _ _ _ r0 (.cons _ _ _ _ r1 .nil)
theorem okWide_arr {P : Program} {w : World} {r : Reach} {base : Nat} {t e : TypeId} {n : Nat} {v : Value} (ht : P.underlying t = some (.array n e)) (h : Value.okWide P w r base t v) : ∃ cs, v = .agg cs := by
  simp only [Value.okWide, ht] at h
  obtain ⟨cs, h1, _⟩ := h
  exact ⟨cs, h1⟩
end Go.Nac

