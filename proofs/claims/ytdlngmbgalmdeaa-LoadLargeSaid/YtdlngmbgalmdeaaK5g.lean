import Derived.Test.YtdlngmbgalmdeaaK5f
set_option linter.unusedVariables false
set_option linter.unusedSectionVars false
set_option linter.unusedSimpArgs false
namespace Go.Nac
section
variable {R : CCode → Code → Prop} {P : Program} {M : List Blk} {L : Loc} {w w' : World} {ρ : CX → PV} {σ : Operand → Value}
/-- The parts of a literal, and where they lie. -/
def okParts (place : Nat → Option (Nat × Nat)) : List (Nat × Nat × CX) → List (Nat × Operand) → Bool
  | [], [] => true
  | (off, size, x) :: a, (i, y) :: b => place i == some (off, size) && okX x y && okParts place a b
  | _, _ => false
theorem okParts_spec (H : Fit M L w ρ σ) {place : Nat → Option (Nat × Nat)} : ∀ {a : List (Nat × Nat × CX)} {b : List (Nat × Operand)}, okParts place a b = true →
    (a.map fun p => (p.1, p.2.1, ρ p.2.2)).length = (b.map fun p => (p.1, σ p.2)).length ∧
    ∀ (j : Nat) x c, (a.map fun p => (p.1, p.2.1, ρ p.2.2))[j]? = some x → (b.map fun p => (p.1, σ p.2))[j]? = some c → place c.1 = some (x.1, x.2.1) ∧ VRel M L w x.2.2 c.2
  | [], [], _ => ⟨rfl, fun j x c h => by simp at h⟩
  | (off, size, x) :: a, (i, y) :: b, h => by
    simp only [okParts, Bool.and_eq_true, beq_iff_eq] at h
    obtain ⟨h1, h2⟩ := okParts_spec H h.2
    refine ⟨by simpa using h1, fun j x' c hx hc => ?_⟩
    cases j with
    | zero =>
      simp only [List.map_cons, List.getElem?_cons_zero, Option.some.injEq] at hx hc
      subst hx; subst hc
      exact ⟨h.1.1, H x y h.1.2⟩
    | succ j => exact h2 j x' c (by simpa using hx) (by simpa using hc)
  | [], _ :: _, h => by simp [okParts] at h
  | _ :: _, [], h => by simp [okParts] at h
def fieldPlaces (P : Program) (fs : List Field) : Option (List (Nat × Nat)) := fs.mapM fun f => (tySize P f.type).map fun n => (f.offset, n)
theorem run_places : ∀ {fs : List Field} {ps : List (Nat × Nat)}, fieldPlaces P fs = some ps →
    (fs.mapM (m := Sem) fun f => do pure (f.offset, ← sizeOf f.type)).run P w = .ok ps w
  | [], ps, h => by simp [fieldPlaces] at h; subst h; rfl
  | f :: fs, ps, h => by
    simp only [fieldPlaces, List.mapM_cons] at h
    cases hs : tySize P f.type with
    | none => rw [hs] at h; cases h
    | some n =>
      rw [hs] at h
      simp only [Option.map_some, Option.bind_eq_bind, Option.bind_some] at h
      cases hr : fieldPlaces P fs with
      | none =>
        have : (List.mapM (fun f => Option.map (fun n => (f.offset, n)) (tySize P f.type)) fs) = none := hr
        rw [this] at h; cases h
      | some qs =>
        have : (List.mapM (fun f => Option.map (fun n => (f.offset, n)) (tySize P f.type)) fs) = some qs := hr
        rw [this] at h
        simp only [Option.bind_some, Option.pure_def, Option.some.injEq] at h
        subst h
        rw [List.mapM_cons]
        simp only [Sem.run_bind, run_sizeOf' hs, Result.andThen_ok, Sem.run_pure]
        rw [run_places hr]
        rfl
theorem g_build_struct (S : Sim R M L w) (H : Fit M L w ρ σ) {o : Oper} {t : TypeId} {z : List Value} {fs : Array Field} {places : List (Nat × Nat)} {parts : List (Nat × Nat × CX)} {parts' : Array (Nat × Operand)} (ho : o.op = .build t parts')
    (hu : P.underlying t = some (.struct fs)) (hz : okZ P t (some z.length) z = true) (hpl : fieldPlaces P fs.toList = some places) (hp : okParts (fun (i : Nat) => places[i]?) parts parts'.toList = true)
    {v : PV} {M' : List Blk} (h : res M ρ (.build z parts) = some (v, M')) : Good R P (execOp σ o) M L w v M' := by
  obtain ⟨zv, h1, h2, h3, h4, h5⟩ := okZ_spec hz
  simp only [res] at h
  cases hf : fillParts (z.map .s) (parts.map fun p => (p.1, p.2.1, ρ p.2.2)) with
  | none => rw [hf] at h; cases h
  | some cs =>
    rw [hf] at h
    simp only [Option.map_some, Option.some.injEq, Prod.mk.injEq] at h
    obtain ⟨rfl, rfl⟩ := h
    obtain ⟨hl, hall⟩ := okParts_spec H hp
    obtain ⟨C', k1, k2⟩ := fill_rel (w := w) (place := fun (i : Nat) => places[i]?) hf (C := zv.cells) (by rw [h2]; exact LRel.map_s z h3) hl hall
    refine good_pure S (cv := .agg C') ?_ (.agg _ _ k2)
    have hm : (parts'.map fun x => (x.1, σ x.2)).toList = parts'.toList.map fun x => (x.1, σ x.2) := by simp
    have hpl' : ((fs.mapM (m := Sem) fun f => do pure (f.offset, ← sizeOf f.type)).run P w) = .ok places.toArray w := by
      rw [Array.mapM_eq_mapM_toList]
      show ((List.toArray <$> _ : Sem _)).run P w = _
      rw [map_eq_pure_bind]
      simp only [Sem.run_bind, run_places hpl, Result.andThen_ok, Sem.run_pure]
    have hfun : (fun (i : Nat) => places.toArray[i]?) = fun (i : Nat) => places[i]? := by funext i; simp
    simp only [execOp, ho, Sem.run_bind, Instr.build, run_zero h1, Result.andThen_ok, run_underlying hu, hpl', hm, hfun]
    rw [k1]
    rfl
theorem g_build_array (S : Sim R M L w) (H : Fit M L w ρ σ) {o : Oper} {t el : TypeId} {n k : Nat} {z : List Value} {parts : List (Nat × Nat × CX)} {parts' : Array (Nat × Operand)} (ho : o.op = .build t parts')
    (hu : P.underlying t = some (.array n el)) (hk : tySize P el = some k) (hz : okZ P t (some z.length) z = true) (hp : okParts (fun i => some (i * k, k)) parts parts'.toList = true)
    {v : PV} {M' : List Blk} (h : res M ρ (.build z parts) = some (v, M')) : Good R P (execOp σ o) M L w v M' := by
  obtain ⟨zv, h1, h2, h3, h4, h5⟩ := okZ_spec hz
  simp only [res] at h
  cases hf : fillParts (z.map .s) (parts.map fun p => (p.1, p.2.1, ρ p.2.2)) with
  | none => rw [hf] at h; cases h
  | some cs =>
    rw [hf] at h
    simp only [Option.map_some, Option.some.injEq, Prod.mk.injEq] at h
    obtain ⟨rfl, rfl⟩ := h
    obtain ⟨hl, hall⟩ := okParts_spec H hp
    obtain ⟨C', k1, k2⟩ := fill_rel (w := w) (place := fun i => some (i * k, k)) hf (C := zv.cells) (by rw [h2]; exact LRel.map_s z h3) hl hall
    refine good_pure S (cv := .agg C') ?_ (.agg _ _ k2)
    have hm : (parts'.map fun x => (x.1, σ x.2)).toList = parts'.toList.map fun x => (x.1, σ x.2) := by simp
    simp only [execOp, ho, Sem.run_bind, Instr.build, run_zero h1, Result.andThen_ok, run_underlying hu, run_sizeOf' hk, hm]
    rw [k1]
    rfl
/-- Elements one behind the other. -/
theorem seqFill {k : Nat} (hk0 : k ≠ 0) : ∀ (xs : List PV) (i : Nat) (A : List PV), A.length = i * k → (∀ x ∈ xs, x.cells.length = k) →
    fillParts (A ++ List.replicate (xs.length * k) .top) ((xs.zipIdx i).map fun p => (p.2 * k, k, p.1)) = some (A ++ xs.flatMap PV.cells)
  | [], i, A, _, _ => by simp [fillParts]
  | x :: xs, i, A, hA, hx => by
    have h1 : x.cells.length = k := hx x (by simp)
    simp only [List.zipIdx_cons, List.map_cons, fillParts]
    rw [if_pos ⟨h1, hk0, by simp [hA, Nat.add_mul]⟩]
    have hs : setRange (A ++ List.replicate ((x :: xs).length * k) .top) (i * k) x.cells = (A ++ x.cells) ++ List.replicate (xs.length * k) .top := by
      unfold Nac.setRange
      rw [← hA, List.take_left, List.length_cons, Nat.add_mul, Nat.one_mul, Nat.add_comm (xs.length * k) k, ← List.replicate_append_replicate, ← List.append_assoc A, h1]
      have : A.length + k = (A ++ List.replicate k PV.top).length := by simp
      rw [this, List.drop_left]
    rw [hs, seqFill hk0 xs (i + 1) (A ++ x.cells) (by simp [hA, h1, Nat.add_mul]) fun y hy => hx y (by simp [hy])]
    simp
def okSeq : Nat → List CX → List (Nat × Operand) → Bool
  | _, [], [] => true
  | i, x :: xs, (j, y) :: ys => i == j && okX x y && okSeq (i + 1) xs ys
  | _, _, _ => false
theorem okSeq_spec (H : Fit M L w ρ σ) {k : Nat} : ∀ {i : Nat} {a : List CX} {b : List (Nat × Operand)}, okSeq i a b = true →
    (((a.map ρ).zipIdx i).map fun p => (p.2 * k, k, p.1)).length = (b.map fun p => (p.1, σ p.2)).length ∧
    ∀ (j : Nat) x c, (((a.map ρ).zipIdx i).map fun p => (p.2 * k, k, p.1))[j]? = some x → (b.map fun p => (p.1, σ p.2))[j]? = some c → some (c.1 * k, k) = some (x.1, x.2.1) ∧ VRel M L w x.2.2 c.2
  | _, [], [], _ => ⟨rfl, fun j x c h => by simp at h⟩
  | i, x :: a, (j', y) :: b, h => by
    simp only [okSeq, Bool.and_eq_true, beq_iff_eq] at h
    obtain ⟨⟨h0, hxy⟩, h⟩ := h
    subst h0
    obtain ⟨h1, h2⟩ := okSeq_spec H h
    refine ⟨by simpa using h1, fun j x' c hx hc => ?_⟩
    cases j with
    | zero =>
      simp only [List.map_cons, List.zipIdx_cons, List.getElem?_cons_zero, Option.some.injEq] at hx hc
      subst hx; subst hc
      exact ⟨rfl, H x y hxy⟩
    | succ j => exact h2 j x' c (by simpa using hx) (by simpa using hc)
  | _, [], _ :: _, h => by simp [okSeq] at h
  | _, _ :: _, [], h => by simp [okSeq] at h
/-- A row of new cells, kept or not. -/
theorem new_row (S : Sim R M L w) {xs : List PV} {C : Array Value} {k : Nat} {el : TypeId} (hk : ∀ x ∈ xs, x.cells.length = k) (hr : LRel M L w (xs.flatMap PV.cells) (C.toList.take (xs.length * k)))
    (hw : Same w w') (hh : w'.heap = w.heap.push (.cells C el)) (cap : Nat) (hcap : xs.length ≤ cap) (hsz : cap * k ≤ C.size) (ver : Nat) :
    Evo M L w (M ++ [.row true k ver xs]) (L.upd M.length (some (w.heap.size, 0))) w' ∧ Sim R (M ++ [.row true k ver xs]) (L.upd M.length (some (w.heap.size, 0))) w' ∧
      VRel (M ++ [.row true k ver xs]) (L.upd M.length (some (w.heap.size, 0))) w' (.os M.length ver 0 xs.length) (.slice (some ⟨w.heap.size, 0, none⟩) xs.length cap) := by
  obtain ⟨E, S'⟩ := push S (.row true k ver xs) (some (.cells C el)) hw hh (by
    rintro _ _ rfl rfl E
    refine ⟨hk, fun b q hL => ?_, fun hL => by simp [Loc.upd_self] at hL⟩
    simp only [Loc.upd_self, Option.map_some, Option.some.injEq, Prod.mk.injEq] at hL
    obtain ⟨rfl, rfl⟩ := hL
    refine ⟨C, el, C.toList.take (xs.length * k), by rw [hh]; simp, LRel.evo E hr, fun m u hu => ?_⟩
    rw [List.getElem?_take] at hu
    split at hu
    · rw [Nat.zero_add]; simpa using hu
    · cases hu)
  refine ⟨E, S', ?_⟩
  refine .os M.length ver 0 xs.length true k xs _ cap (by simp) (by omega) hcap fun _ => ?_
  exact ⟨w.heap.size, 0, C, el, by simp [Loc.upd_self], by simp, by rw [hh]; simp, by simpa using hsz⟩
theorem fresh_row (S : Sim R M L w) {xs : List PV} {C : Array Value} {k : Nat} {el : TypeId} (hk : ∀ x ∈ xs, x.cells.length = k) (hr : LRel M L w (xs.flatMap PV.cells) (C.toList.take (xs.length * k)))
    (hw : Same w w') (hh : w'.heap = w.heap.push (.cells C el)) (cap : Nat) (hcap : xs.length ≤ cap) :
    Evo M L w M L w' ∧ Sim R M L w' ∧ VRel M L w' (.fs xs) (.slice (some ⟨w.heap.size, 0, none⟩) xs.length cap) := by
  obtain ⟨E, S'⟩ := grow S (.cells C el) hw hh
  refine ⟨E, S', .fs xs _ _ cap k _ rfl hcap hk (LRel.evo E hr) fun _ => ⟨w.heap.size, 0, rfl, by rw [hh]; simp, notOwned_new S, fun m u hu => ?_⟩⟩
  rw [List.getElem?_take] at hu
  split at hu
  · rw [Nat.zero_add]; exact cell_push hh (by simpa using hu)
  · cases hu
theorem map_view_cells {xs : List PV} {k : Nat} (h : ∀ x ∈ xs, x.cells.length = k) : ∀ x ∈ xs.map (view M), x.cells.length = k := by
  intro x hx
  obtain ⟨y, hy, rfl⟩ := List.mem_map.1 hx
  rw [view_cells]; exact h y hy
theorem view1_one {p : PV} (h : p.cells = [p]) : (view1 M p).cells = [view1 M p] := by
  unfold view1
  split
  · split
    · split <;> rfl
    · rfl
  · rfl
  · exact h
theorem flat_view (S : Sim R M L w) {xs : List PV} : ∀ {vs : List Value}, LRel M L w (xs.flatMap PV.cells) vs → LRel M L w ((xs.map (view M)).flatMap PV.cells) vs := by
  induction xs with
  | nil => exact fun h => h
  | cons x xs ih =>
    intro vs h
    rw [List.flatMap_cons] at h
    obtain ⟨v1, v2, rfl, h1, h2⟩ := h.split
    rw [List.map_cons, List.flatMap_cons]
    refine LRel.append ?_ (ih h2)
    by_cases hx : ∃ cs, x = .agg cs
    · obtain ⟨cs, rfl⟩ := hx
      exact LRel.map_view S h1
    · have hx' : ∀ cs, x ≠ .agg cs := fun cs e => hx ⟨cs, e⟩
      rw [view_eq hx']
      cases x with
      | top => cases h1; exact .nil
      | agg cs => exact absurd rfl (hx' cs)
      | os i ver off len =>
        cases h1 with
        | cons _ c _ _ hv hs =>
          cases hs
          have := view1_rel S hv
          have hc := view1_one (M := M) (p := .os i ver off len) rfl
          rw [hc]; exact .cons _ _ _ _ this .nil
      | s v =>
        cases h1 with
        | cons _ c _ _ hv hs =>
          cases hs
          have := view1_rel S hv
          have hc := view1_one (M := M) (p := .s v) rfl
          rw [hc]; exact .cons _ _ _ _ this .nil
      | _ => exact h1
theorem g_bsl (S : Sim R M L w) (H : Fit M L w ρ σ) {o : Oper} {own : Bool} {t el : TypeId} {k n : Nat} {xs : List CX} {parts : Array (Nat × Operand)} (ho : o.op = .buildSlice t n parts)
    (hu : P.underlying t = some (.slice el)) (hk : tySize P el = some k) (hn : n = xs.length) (hsm : n * k ≤ 2 ^ 24) (hz : ((P.info? el).bind (·.zero)).isSome = true) (hp : okSeq 0 xs parts.toList = true)
    {v : PV} {M' : List Blk} (h : res M ρ (.bsl own k xs) = some (v, M')) : Good R P (execOp σ o) M L w v M' := by
  simp only [res] at h
  split at h
  case isFalse => cases h
  rename_i hc
  obtain ⟨hall, hk0⟩ := hc
  have hall' : ∀ x ∈ xs.map ρ, x.cells.length = k := by simpa using hall
  obtain ⟨zv, hzv⟩ := Option.isSome_iff_exists.1 hz
  obtain ⟨hl, hps⟩ := okSeq_spec H (k := k) hp
  -- the cells
  have hfill : ∀ C : Array Value, C.size = n * k → ∃ C', Instr.fill (fun i => some (i * k, k)) C (parts.toList.map fun p => (p.1, σ p.2)) = some C' ∧ LRel M L w ((xs.map ρ).flatMap PV.cells) C'.toList := by
    intro C hC
    have hseq := seqFill hk0 (xs.map ρ) 0 [] (by simp) hall'
    simp only [List.nil_append] at hseq
    refine fill_rel hseq ?_ hl hps
    have := LRel.tops (M := M) (L := L) (w := w) C.toList
    rw [Array.length_toList, hC, hn] at this
    simpa using this
  have hm : (parts.map fun x => (x.1, σ x.2)).toList = parts.toList.map fun x => (x.1, σ x.2) := by simp
  have hrun : ∃ C', LRel M L w ((xs.map ρ).flatMap PV.cells) C'.toList ∧ (execOp σ o).run P w = .ok (.value (.slice (some ⟨w.heap.size, 0, none⟩) n n)) { w with heap := w.heap.push (.cells C' el) } := by
    by_cases h0 : n * k = 0
    · obtain ⟨C', k1, k2⟩ := hfill ((Array.range (n * k)).map (#[][· % 0]!)) (by simp)
      refine ⟨C', k2, ?_⟩
      have hnot : ¬ (n * k > 2 ^ 24) := by omega
      simp only [execOp, ho, Sem.run_bind, Instr.buildSlice, run_underlying hu, Result.andThen_ok, run_sizeOf' hk, Sem.run_ite, if_neg hnot, if_pos h0, Sem.run_pure, hm]
      simp only [List.size_toArray, List.length_nil] at k1 ⊢
      rw [k1]
      simp [newRow]
      try rfl
    · obtain ⟨C', k1, k2⟩ := hfill ((Array.range (n * k)).map (zv.cells[· % zv.cells.size]!)) (by simp)
      refine ⟨C', k2, ?_⟩
      have hnot : ¬ (n * k > 2 ^ 24) := by omega
      simp only [execOp, ho, Sem.run_bind, Instr.buildSlice, run_underlying hu, Result.andThen_ok, run_sizeOf' hk, Sem.run_ite, if_neg hnot, if_neg h0, Sem.run_pure, hm, run_zero hzv]
      rw [k1]
      simp [newRow]
      try rfl
  obtain ⟨C', hr, hrun⟩ := hrun
  have hlen : (xs.map ρ).length = n := by simp [hn]
  have hsz : C'.size = n * k := by
    have h1 := hr.length
    rw [flat_length hall', hlen] at h1
    simpa using h1.symm
  have hr' : LRel M L w ((xs.map ρ).flatMap PV.cells) (C'.toList.take ((xs.map ρ).length * k)) := by
    rw [List.take_of_length_le (by simp [hsz, hn])]; exact hr
  cases own with
  | true =>
    simp only [if_true, Option.some.injEq, Prod.mk.injEq] at h
    obtain ⟨rfl, rfl⟩ := h
    obtain ⟨E, S', hv⟩ := new_row S hall' hr' (w' := { w with heap := w.heap.push (.cells C' el) }) ⟨rfl, rfl, rfl⟩ rfl n (by omega) (by omega) 0
    rw [hlen] at hv
    rw [← hn]
    exact ⟨_, _, _, .inl hrun, E, S', hv⟩
  | false =>
    simp only [Bool.false_eq_true, if_false, Option.some.injEq, Prod.mk.injEq] at h
    obtain ⟨rfl, rfl⟩ := h
    have e : (xs.map fun x => view M (ρ x)) = (xs.map ρ).map (view M) := by simp
    rw [e]
    have hlen' : ((xs.map ρ).map (view M)).length = n := by simp [hn]
    obtain ⟨E, S', hv⟩ := fresh_row S (map_view_cells (M := M) hall') (by
      have := flat_view S hr'
      rw [List.length_map]; exact this) (w' := { w with heap := w.heap.push (.cells C' el) }) ⟨rfl, rfl, rfl⟩ rfl n (by omega)
    rw [hlen'] at hv
    exact ⟨_, _, _, .inl hrun, E, S', hv⟩
theorem g_box (S : Sim R M L w) (H : Fit M L w ρ σ) {o : Oper} {own : Bool} {t : TypeId} {k : Nat} {x : CX} {x' : Operand} (ho : o.op = .box t x') (hx : okX x x' = true)
    {v : PV} {M' : List Blk} (h : res M ρ (.box own k x) = some (v, M')) : Good R P (execOp σ o) M L w v M' := by
  have k1 := H x x' hx
  simp only [res] at h
  split at h
  case isFalse => cases h
  rename_i hc
  obtain ⟨hk, hk0⟩ := hc
  have hcs := k1.cells (by intro e; rw [e] at hk; simp at hk; omega)
  have hrun : (execOp σ o).run P w = .ok (.value (.pointer (some ⟨w.heap.size, 0, none⟩))) { w with heap := w.heap.push (.cells (σ x').cells t) } := by
    simp [execOp, ho, Instr.box, newVar, newRow]
    try rfl
  have hall : ∀ y ∈ [ρ x], y.cells.length = k := by simpa using hk
  cases own with
  | true =>
    simp only [if_true, Option.some.injEq, Prod.mk.injEq] at h
    obtain ⟨rfl, rfl⟩ := h
    have hsz : (σ x').cells.size = k := by have := hcs.length; rw [hk] at this; simpa using this.symm
    obtain ⟨E, S', hv⟩ := new_row S hall (C := (σ x').cells) (by simp; rw [List.take_of_length_le (by simp [hsz])]; exact hcs) (w' := { w with heap := w.heap.push (.cells (σ x').cells t) }) ⟨rfl, rfl, rfl⟩ rfl 1 (by simp) (by omega) 0
    refine ⟨_, _, _, .inl hrun, E, S', ?_⟩
    have := VRel.op (M := M ++ [.row true k 0 [ρ x]]) (L := L.upd M.length (some (w.heap.size, 0))) (w := { w with heap := w.heap.push (.cells (σ x').cells t) }) M.length 0 0 0 true k [ρ x] w.heap.size 0 (by simp) (by simp) (by simp [Loc.upd_self])
    simpa using this
  | false =>
    simp only [Bool.false_eq_true, if_false, Option.some.injEq, Prod.mk.injEq] at h
    obtain ⟨rfl, rfl⟩ := h
    obtain ⟨E, S'⟩ := grow S (.cells (σ x').cells t) (w' := { w with heap := w.heap.push (.cells (σ x').cells t) }) ⟨rfl, rfl, rfl⟩ rfl
    refine ⟨_, _, _, .inl hrun, E, S', ?_⟩
    have hvc := (view_rel S k1).cells (M := M) (by intro e; have := view_cells (M := M) (p := ρ x); rw [e, hk] at this; simp at this; omega)
    exact .fp _ w.heap.size 0 (σ x').cells.toList (LRel.evo E hvc) (by simp) (notOwned_new S) fun m u hu => by rw [Nat.zero_add]; exact cell_push rfl (by simpa using hu)
theorem g_mkmap (S : Sim R M L w) {o : Oper} {t : TypeId} (ho : o.op = .makeMap t none)
    {v : PV} {M' : List Blk} (h : res M ρ .mkmap = some (v, M')) : Good R P (execOp σ o) M L w v M' := by
  simp only [res, Option.some.injEq, Prod.mk.injEq] at h
  obtain ⟨rfl, rfl⟩ := h
  have hrun : (execOp σ o).run P w = .ok (.value (.map (some w.heap.size))) { w with heap := w.heap.push (.map #[] 0) } := by
    simp [execOp, ho, Instr.makeMap]
    try rfl
  obtain ⟨E, S'⟩ := push S (.map []) (some (.map #[] 0)) (w' := { w with heap := w.heap.push (.map #[] 0) }) ⟨rfl, rfl, rfl⟩ rfl (by
    rintro _ _ rfl rfl E
    exact ⟨w.heap.size, 0, #[], 0, by simp [Loc.upd_self], by simp, rfl, by simp⟩)
  exact ⟨_, _, _, .inl hrun, E, S', .om M.length [] w.heap.size 0 (by simp) (by simp [Loc.upd_self])⟩
end
end Go.Nac

