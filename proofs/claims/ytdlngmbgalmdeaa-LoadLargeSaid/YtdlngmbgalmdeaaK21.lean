import Derived.Test.YtdlngmbgalmdeaaK20
set_option linter.unusedVariables false
namespace Go.Nac
/-- One field of one cell. -/
theorem Opens.one {P : Program} {t : TypeId} {α : Type} {f : α → List PV} {ok : α → Prop} (h : Opens P t f ok) (g : α → PV) (hg : ∀ a, f a = [g a]) {H : Type} {enc : TypeId × Value → H} {W : World} {L : Loc} {n : Nat} {v : Value} {x : DataW H × List MemPlace}
    (ht : DataW.trod enc P W 0 (fun _ => true) true n t [v] = some x) : ∃ a, ok a ∧ VRel [] L W (g a) v := by
  obtain ⟨a, h1, h2⟩ := h H enc W L n _ _ ht
  rw [hg] at h2
  cases h2 with | cons _ _ _ _ h3 _ => exact ⟨a, h1, h3⟩
end Go.Nac

