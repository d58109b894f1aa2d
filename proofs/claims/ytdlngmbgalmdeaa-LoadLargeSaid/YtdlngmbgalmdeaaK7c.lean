import Derived.Test.YtdlngmbgalmdeaaK7b
set_option linter.unusedVariables false
set_option linter.unusedSectionVars false
set_option linter.unusedSimpArgs false
namespace Go.Nac
section
variable {M M2 : List Blk}
theorem held_agree {p : PV} (h : ∀ i ∈ refs p, M2[i]? = M[i]?) : held M2 p = held M p := by
  cases p
  case os i ver off len => have := h i (by simp [refs, refs1]); simp only [held, this]
  case s v => unfold held; split <;> first | rfl | (rename_i e; cases e)
  all_goals rfl
theorem view1_agree {p : PV} (h : ∀ i ∈ refs1 p, M2[i]? = M[i]?) : view1 M2 p = view1 M p := by
  cases p
  case os i ver off len => have := h i (by simp [refs1]); simp only [view1, this]
  case s v => unfold view1; split <;> first | rfl | (rename_i e; cases e)
  all_goals rfl
theorem view_agree {p : PV} (h : ∀ i ∈ refs p, M2[i]? = M[i]?) : view M2 p = view M p := by
  cases p
  case agg cs =>
    simp only [view]
    congr 1
    refine List.map_congr_left fun c hc => view1_agree fun i hi => h i ?_
    simp only [refs, List.mem_flatMap]; exact ⟨c, hc, hi⟩
  all_goals exact view1_agree (M := M) (M2 := M2) (by simpa only [refs] using h)
theorem cellsAt_agree {i ver e j n : Nat} (h : M2[i]? = M[i]?) : cellsAt M2 i ver e j n = cellsAt M i ver e j n := by simp only [cellsAt, h]
theorem loadPV_agree {g : Option Nat} {p : PV} (h : ∀ i ∈ refs p, M2[i]? = M[i]?) : loadPV M2 g p = loadPV M g p := by
  cases p
  case op i ver e j => have := h i (by simp [refs, refs1]); simp only [loadPV, cellsAt_agree this]
  all_goals rfl
theorem liveRow_agree {i ver : Nat} (h : M2[i]? = M[i]?) : liveRow M2 i ver = liveRow M i ver := by simp only [liveRow, h]
theorem rowK_agree {i : Nat} (h : M2[i]? = M[i]?) : rowK M2 i = rowK M i := by simp only [rowK, h]
end
/-- A reading operation gives the same elsewhere, where what it reads is the same. -/
theorem read_agree {M M2 M' : List Blk} {ρ : CX → PV} {v : PV} {c : COp} {R : List Nat} (hf : fpOp ρ c = some (R, [])) (hc : c.cls ≤ 1) (h : res M ρ c = some (v, M')) (ha : ∀ i ∈ R, M2[i]? = M[i]?) : res M2 ρ c = some (v, M2) := by
  have hM := res_read hc h
  subst hM
  cases c <;> simp only [fpOp, Option.some.injEq, Prod.mk.injEq, reduceCtorEq] at hf
  case load g x =>
    obtain ⟨rfl, _⟩ := hf
    simp only [res, loadPV_agree ha] at h ⊢
    rw [(map_pair h).1]; rfl
  case nilc x =>
    obtain ⟨rfl, _⟩ := hf
    simp only [res] at h ⊢
    generalize ρ x = p at h ha
    cases p
    case fp cs => simp at h ⊢; exact h
    case op i ver e j =>
      have := ha i (by simp [refs, refs1])
      simp only [liveRow_agree this] at h ⊢
      split at h
      · rename_i hl; rw [if_pos hl]; simp at h ⊢; exact h
      · cases h
    case fn f _ _ => cases f <;> first | (cases h; done) | (simp at h ⊢; exact h)
    all_goals cases h
  case arrp n x =>
    obtain ⟨rfl, _⟩ := hf
    simp only [res] at h ⊢
    generalize ρ x = p at h ha
    cases p
    case fs xs =>
      simp only at h ⊢
      split at h
      · rename_i hl; rw [if_pos hl]; simp at h ⊢; exact h
      · cases h
    case os i ver off len =>
      simp only [held_agree ha] at h ⊢
      split at h
      · rename_i hl; rw [if_pos hl]
        simp only [Option.map_eq_some_iff] at h ⊢
        obtain ⟨a, h1, h2⟩ := h
        exact ⟨a, h1, by simp at h2 ⊢; exact h2⟩
      · cases h
    all_goals cases h
  case slice k x lo hi =>
    obtain ⟨rfl, _⟩ := hf
    simp only [res] at h ⊢
    generalize ρ x = p at h ha
    cases p
    case fs xs =>
      simp only at h ⊢
      split at h
      · rename_i hl; rw [if_pos hl]
        simp only [Option.map_eq_some_iff] at h ⊢
        obtain ⟨a, h1, h2⟩ := h
        exact ⟨a, h1, by simp at h2 ⊢; exact h2⟩
      · cases h
    case s u =>
      by_cases e : u = .slice none 0 0
      · subst e
        simp only [Option.map_eq_some_iff] at h ⊢
        obtain ⟨a, h1, h2⟩ := h
        exact ⟨a, h1, by simp at h2 ⊢; exact h2⟩
      · exfalso
        split at h
        · rename_i e1; cases e1
        · rename_i e1; cases e1; exact e rfl
        · rename_i e1; cases e1
        · cases h
    case os i ver off len =>
      have := ha i (by simp [refs, refs1])
      simp only [liveRow_agree this, rowK_agree this] at h ⊢
      split at h
      · rename_i hl; rw [if_pos hl]
        simp only [Option.map_eq_some_iff] at h ⊢
        obtain ⟨a, h1, h2⟩ := h
        exact ⟨a, h1, by simp at h2 ⊢; exact h2⟩
      · cases h
    all_goals cases h
  case faddr off x =>
    obtain ⟨rfl, _⟩ := hf
    simp only [res] at h ⊢
    generalize ρ x = p at h ha
    cases p
    case fp cs =>
      simp only at h ⊢
      split at h
      · rename_i hl; rw [if_pos hl]; simp at h ⊢; exact h
      · cases h
    case op i ver e j =>
      have := ha i (by simp [refs, refs1])
      simp only [liveRow_agree this] at h ⊢
      split at h
      · rename_i hl; rw [if_pos hl]; simp at h ⊢; exact h
      · cases h
    all_goals cases h
  case iaddr k x i =>
    obtain ⟨rfl, _⟩ := hf
    simp only [res] at h ⊢
    generalize ρ x = p at h ha
    generalize asNat (ρ i) = m at h
    cases p <;> cases m <;> first | (cases h; done) | skip
    · rename_i xs m
      simp only at h ⊢
      split at h
      · split at h
        · rename_i hl; rw [if_pos hl]; simp at h ⊢; exact h
        · cases h
      · cases h
    · rename_i a ver off len m
      have := ha a (by simp [refs, refs1])
      simp only [this] at h ⊢
      split at h
      · rename_i hl; rw [if_pos hl]
        split at h
        · split at h
          · rename_i hl; rw [if_pos hl]; simp at h ⊢; exact h
          · cases h
        · cases h
      · cases h
  case iaddra n k x i =>
    obtain ⟨rfl, _⟩ := hf
    simp only [res] at h ⊢
    generalize ρ x = p at h ha
    generalize asNat (ρ i) = m at h
    cases p <;> cases m <;> first | (cases h; done) | skip
    · simp only at h ⊢
      split at h
      · rename_i hl; rw [if_pos hl]; simp at h ⊢; exact h
      · cases h
    · rename_i a ver e j m
      have := ha a (by simp [refs, refs1])
      simp only [liveRow_agree this] at h ⊢
      split at h
      · rename_i hl; rw [if_pos hl]; simp at h ⊢; exact h
      · cases h
  case look sk z ok m key =>
    obtain ⟨rfl, _⟩ := hf
    simp only [res] at h ⊢
    generalize ρ m = p at h ha
    generalize ρ key = q at h
    cases p <;> first | (cases h; done) | skip
    rename_i a
    cases q <;> first | (cases h; done) | skip
    have := ha a (by simp [refs, refs1])
    simp only [this] at h ⊢
    split at h
    · split at h
      · rename_i hl; rw [if_pos hl]
        split at h
        · simp at h ⊢; exact h
        · simp at h ⊢; exact h
      · cases h
    · cases h
  case box own k x =>
    cases own
    · simp at hf; subst hf
      simp only [res, Bool.false_eq_true, if_false] at h ⊢
      rw [view_agree ha]
      split at h
      · rename_i hl; rw [if_pos hl]; simp at h ⊢; exact h
      · cases h
    · simp at hf
  case bsl own k xs =>
    cases own
    · simp at hf; subst hf
      simp only [res, Bool.false_eq_true, if_false] at h ⊢
      have : xs.map (fun x => view M2 (ρ x)) = xs.map (fun x => view M' (ρ x)) := List.map_congr_left fun x hx => view_agree fun i hi => ha i (by simp only [List.mem_flatMap]; exact ⟨x, hx, hi⟩)
      rw [this]
      split at h
      · rename_i hl; rw [if_pos hl]; simp at h ⊢; exact h
      · cases h
    · simp at hf
  all_goals (simp only [COp.cls] at hc; omega)
end Go.Nac

