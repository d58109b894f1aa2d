import Derived.Test.YtdlngmbgalmdeaaK20
/- More of what arguments read as: structs of four whole numbers, and of five cells. -/
set_option linter.unusedVariables false
namespace Go.Nac
theorem opens_cyc {P : Program} {t : TypeId} {f0 f1 f2 f3 : Field} (ht : P.underlying t = some (.struct #[f0, f1, f2, f3])) (hc : P.cellsOf t = 4) (h0 : f0.offset = 0 ∧ P.cellsOf f0.type = 1 ∧ P.underlying f0.type = some (.int .i64))
    (h1 : f1.offset = 1 ∧ P.cellsOf f1.type = 1 ∧ P.underlying f1.type = some (.int .i64)) (h2 : f2.offset = 2 ∧ P.cellsOf f2.type = 1 ∧ P.underlying f2.type = some (.int .i64)) (h3 : f3.offset = 3 ∧ P.cellsOf f3.type = 1 ∧ P.underlying f3.type = some (.int .i64)) :
    Opens P t (fun c : Cyc => [.I c.from_, .I c.to_, .I c.lo, .I c.hi]) (fun c => (-9223372036854775808 ≤ c.from_ ∧ c.from_ ≤ 9223372036854775807) ∧ (-9223372036854775808 ≤ c.to_ ∧ c.to_ ≤ 9223372036854775807) ∧ (-9223372036854775808 ≤ c.lo ∧ c.lo ≤ 9223372036854775807) ∧ (-9223372036854775808 ≤ c.hi ∧ c.hi ≤ 9223372036854775807)) := by
  intro H enc W L n cs x h
  obtain ⟨hl, hf⟩ := struct_cells ht h hc (by
    intro i f hi
    match i, hi with
    | 0, hi => simp at hi; subst hi; exact ⟨h0.1, h0.2.1⟩
    | 1, hi => simp at hi; subst hi; exact ⟨h1.1, h1.2.1⟩
    | 2, hi => simp at hi; subst hi; exact ⟨h2.1, h2.2.1⟩
    | 3, hi => simp at hi; subst hi; exact ⟨h3.1, h3.2.1⟩
    | n + 4, hi => simp at hi)
  obtain ⟨v0, m0, y0, e0, g0⟩ := hf 0 f0 rfl
  obtain ⟨v1, m1, y1, e1, g1⟩ := hf 1 f1 rfl
  obtain ⟨v2, m2, y2, e2, g2⟩ := hf 2 f2 rfl
  obtain ⟨v3, m3, y3, e3, g3⟩ := hf 3 f3 rfl
  obtain ⟨z0, k0, _, w0⟩ := DataW.trod_int h0.2.2 g0
  obtain ⟨z1, k1, _, w1⟩ := DataW.trod_int h1.2.2 g1
  obtain ⟨z2, k2, _, w2⟩ := DataW.trod_int h2.2.2 g2
  obtain ⟨z3, k3, _, w3⟩ := DataW.trod_int h3.2.2 g3
  cases k0; cases k1; cases k2; cases k3
  obtain ⟨c0, c1, c2, c3, rfl⟩ : ∃ a b c d, cs = [a, b, c, d] := by
    match cs, hl with
    | [a, b, c, d], _ => exact ⟨a, b, c, d, rfl⟩
  simp at e0 e1 e2 e3; subst e0; subst e1; subst e2; subst e3
  exact ⟨⟨z0, z1, z2, z3⟩, ⟨wf_i64 w0, wf_i64 w1, wf_i64 w2, wf_i64 w3⟩, .cons _ _ _ _ (.s _ rfl) (.cons _ _ _ _ (.s _ rfl) (.cons _ _ _ _ (.s _ rfl) (.cons _ _ _ _ (.s _ rfl) .nil)))⟩
/-- One field of one cell. -/
theorem Opens.one {P : Program} {t : TypeId} {α : Type} {f : α → List PV} {ok : α → Prop} (h : Opens P t f ok) (g : α → PV) (hg : ∀ a, f a = [g a]) {H : Type} {enc : TypeId × Value → H} {W : World} {L : Loc} {n : Nat} {v : Value} {x : DataW H × List MemPlace}
    (ht : DataW.trod enc P W 0 (fun _ => true) true n t [v] = some x) : ∃ a, ok a ∧ VRel [] L W (g a) v := by
  obtain ⟨a, h1, h2⟩ := h H enc W L n _ _ ht
  rw [hg] at h2
  cases h2 with | cons _ _ _ _ h3 _ => exact ⟨a, h1, h3⟩
/-- A struct of five cells, as an argument. -/
theorem arg5 {P : Program} {t : TypeId} {f0 f1 f2 f3 f4 : Field} (ht : P.underlying t = some (.struct #[f0, f1, f2, f3, f4])) (hc : P.cellsOf t = 5)
    (ho : f0.offset = 0 ∧ f1.offset = 1 ∧ f2.offset = 2 ∧ f3.offset = 3 ∧ f4.offset = 4) (hw : P.cellsOf f0.type = 1 ∧ P.cellsOf f1.type = 1 ∧ P.cellsOf f2.type = 1 ∧ P.cellsOf f3.type = 1 ∧ P.cellsOf f4.type = 1)
    {A0 A1 A2 A3 A4 : Type} {g0 : A0 → PV} {g1 : A1 → PV} {g2 : A2 → PV} {g3 : A3 → PV} {g4 : A4 → PV} {k0 : A0 → Prop} {k1 : A1 → Prop} {k2 : A2 → Prop} {k3 : A3 → Prop} {k4 : A4 → Prop}
    (h0 : Opens P f0.type (fun a => [g0 a]) k0) (h1 : Opens P f1.type (fun a => [g1 a]) k1) (h2 : Opens P f2.type (fun a => [g2 a]) k2) (h3 : Opens P f3.type (fun a => [g3 a]) k3) (h4 : Opens P f4.type (fun a => [g4 a]) k4)
    {H : Type} {enc : TypeId × Value → H} {W : World} {vs : Array Value} {d : DataW H} {ps : List MemPlace} (h : DataW.Trod enc P W 0 (fun _ => true) true t (.agg vs) d ps) (L : Loc) :
    ∃ a0 a1 a2 a3 a4, k0 a0 ∧ k1 a1 ∧ k2 a2 ∧ k3 a3 ∧ k4 a4 ∧ VRel [] L W (.agg [g0 a0, g1 a1, g2 a2, g3 a3, g4 a4]) (.agg vs) := by
  obtain ⟨n, hn⟩ := h
  obtain ⟨hl, hf⟩ := struct_cells ht hn hc (by
    intro i f hi
    match i, hi with
    | 0, hi => simp at hi; subst hi; exact ⟨ho.1, hw.1⟩
    | 1, hi => simp at hi; subst hi; exact ⟨ho.2.1, hw.2.1⟩
    | 2, hi => simp at hi; subst hi; exact ⟨ho.2.2.1, hw.2.2.1⟩
    | 3, hi => simp at hi; subst hi; exact ⟨ho.2.2.2.1, hw.2.2.2.1⟩
    | 4, hi => simp at hi; subst hi; exact ⟨ho.2.2.2.2, hw.2.2.2.2⟩
    | n + 5, hi => simp at hi)
  obtain ⟨v0, m0, y0, e0, t0⟩ := hf 0 f0 rfl
  obtain ⟨v1, m1, y1, e1, t1⟩ := hf 1 f1 rfl
  obtain ⟨v2, m2, y2, e2, t2⟩ := hf 2 f2 rfl
  obtain ⟨v3, m3, y3, e3, t3⟩ := hf 3 f3 rfl
  obtain ⟨v4, m4, y4, e4, t4⟩ := hf 4 f4 rfl
  obtain ⟨a0, o0, r0⟩ := h0.one g0 (fun _ => rfl) (L := L) t0
  obtain ⟨a1, o1, r1⟩ := h1.one g1 (fun _ => rfl) (L := L) t1
  obtain ⟨a2, o2, r2⟩ := h2.one g2 (fun _ => rfl) (L := L) t2
  obtain ⟨a3, o3, r3⟩ := h3.one g3 (fun _ => rfl) (L := L) t3
  obtain ⟨a4, o4, r4⟩ := h4.one g4 (fun _ => rfl) (L := L) t4
  refine ⟨a0, a1, a2, a3, a4, o0, o1, o2, o3, o4, .agg _ _ ?_⟩
  have hv : vs.toList = [v0, v1, v2, v3, v4] := by
    have hl' : (Value.agg vs).cells.toList = vs.toList := rfl
    rw [hl'] at hl e0 e1 e2 e3 e4
    generalize vs.toList = cs at hl e0 e1 e2 e3 e4
    match cs, hl with
    | [a, b, c, d, e], _ => simp at e0 e1 e2 e3 e4; subst e0; subst e1; subst e2; subst e3; subst e4; rfl
  rw [hv]
  exact .cons _ _ _ _ r0 (.cons _ _ _ _ r1 (.cons _ _ _ _ r2 (.cons _ _ _ _ r3 (.cons _ _ _ _ r4 .nil))))
end Go.Nac
