import Derived.Test.YtdlngmbgalmdeaaK7c
set_option linter.unusedVariables false
set_option linter.unusedSectionVars false
set_option linter.unusedSimpArgs false
namespace Go.Nac
/-- What a step does to memory: nothing, or one block. -/
def Upd (W : List Nat) (u : List Blk → List Blk) : Prop := (W = [] ∧ u = id) ∨ ∃ i b, W = [i] ∧ u = fun M => M.set i b
theorem elemPut_agree {M M' : List Blk} {i ver e j : Nat} {vs : List PV} (h : elemPut M i ver e j vs = some M') : ∃ b, M' = M.set i b ∧ ∀ M2 : List Blk, M2[i]? = M[i]? → elemPut M2 i ver e j vs = some (M2.set i b) := by
  unfold elemPut at h
  split at h
  · rename_i k v xs hi
    split at h
    · rename_i hv
      split at h
      · rename_i x hx
        split at h
        · rename_i hc
          split at h
          · rename_i cs
            cases h
            refine ⟨_, rfl, fun M2 h2 => ?_⟩
            simp only [elemPut, h2, hi, if_pos hv, hx, if_pos hc]
          · rename_i hno
            split at h
            · rename_i y
              split at h
              · cases h
              · rename_i hny
                cases h
                refine ⟨_, rfl, fun M2 h2 => ?_⟩
                simp only [elemPut, h2, hi, if_pos hv, hx, if_pos hc]
            · cases h
        · cases h
      · cases h
    · cases h
  · cases h
theorem write_agree {M M' : List Blk} {ρ : CX → PV} {v : PV} {c : COp} {R W : List Nat} (hf : fpOp ρ c = some (R, W)) (hc : ¬ c.cls ≤ 1) (h : res M ρ c = some (v, M')) (hl : M'.length = M.length) :
    ∃ i b, W = [i] ∧ M' = M.set i b ∧ ∀ M2 : List Blk, M2.length = M.length → (∀ k ∈ R ++ W, M2[k]? = M[k]?) → res M2 ρ c = some (v, M2.set i b) := by
  cases c <;> simp only [fpOp, Option.some.injEq, Prod.mk.injEq, reduceCtorEq] at hf
  case store k a x =>
    obtain ⟨rfl, rfl⟩ := hf
    simp only [res] at h ⊢
    generalize ρ a = p at h
    cases p
    case op i ver e j =>
      simp only at h
      split at h
      · rename_i hk
        cases hp : elemPut M i ver e j (ρ x).cells with
        | none => rw [hp] at h; cases h
        | some M1 =>
          rw [hp] at h
          obtain ⟨b, rfl, h2⟩ := elemPut_agree hp
          simp only [Option.map_some, Option.some.injEq, Prod.mk.injEq] at h
          obtain ⟨rfl, rfl⟩ := h
          refine ⟨i, b, by simp [refs, refs1], rfl, fun M2 _ ha => ?_⟩
          simp only
          rw [if_pos hk, h2 M2 (ha i (by simp [refs, refs1]))]; rfl
      · cases h
    all_goals cases h
  case append k bytes x y =>
    obtain ⟨rfl, rfl⟩ := hf
    simp only [res] at h ⊢
    cases hy : held M (ρ y) with
    | none => rw [hy] at h; cases h
    | some ys =>
      rw [hy] at h
      simp only at h
      split at h
      case isFalse => cases h
      rename_i hys
      generalize hpx : ρ x = p at h
      cases p
      case s u =>
        exfalso
        split at h
        · split at h
          · cases h; simp at hl
          · cases h
        · rename_i e; cases e
        · cases h
      case os i ver off len =>
        simp only at h
        split at h
        case h_2 => cases h
        rename_i k' vv xs hi
        split at h
        case isFalse => cases h
        rename_i hc1
        cases h
        refine ⟨i, _, by simp [refs, refs1], rfl, fun M2 _ ha => ?_⟩
        have h1 : held M2 (ρ y) = some ys := by rw [← hy]; exact held_agree fun z hz => ha z (by simp [hz])
        have h2 : M2[i]? = M[i]? := ha i (by simp [hpx, refs, refs1])
        simp only [h1, if_pos hys, h2, hi, if_pos hc1]
      all_goals cases h
  case copy k x y =>
    obtain ⟨rfl, rfl⟩ := hf
    simp only [res] at h ⊢
    generalize hpx : ρ x = p at h
    cases hy : held M (ρ y) with
    | none => rw [hy] at h; cases p <;> cases h
    | some ys =>
      rw [hy] at h
      cases p
      case os i ver off len =>
        simp only at h
        split at h
        case h_2 => cases h
        rename_i k' vv xs hi
        split at h
        case isFalse => cases h
        rename_i hc1
        cases h
        refine ⟨i, _, by simp [refs, refs1], rfl, fun M2 _ ha => ?_⟩
        have h1 : held M2 (ρ y) = some ys := by rw [← hy]; exact held_agree fun z hz => ha z (by simp [hz])
        have h2 : M2[i]? = M[i]? := ha i (by simp [hpx, refs, refs1])
        simp only [h1, h2, hi, if_pos hc1]
      all_goals cases h
  case mupd sk m key x =>
    obtain ⟨rfl, rfl⟩ := hf
    simp only [res] at h ⊢
    generalize ρ m = p at h
    generalize ρ key = q at h
    generalize ρ x = u at h
    cases p <;> first | (cases h; done) | skip
    rename_i a
    cases q <;> first | (cases h; done) | skip
    cases u <;> first | (cases h; done) | skip
    simp only at h ⊢
    split at h
    case h_2 => cases h
    rename_i es hi
    split at h
    case isFalse => cases h
    rename_i hc1
    cases h
    refine ⟨a, _, by simp [refs, refs1], rfl, fun M2 _ ha => ?_⟩
    have h2 : M2[a]? = M[a]? := ha a (by simp [refs, refs1])
    simp only [h2, hi, if_pos hc1]
  case box own k x =>
    cases own
    · simp [COp.cls] at hc
    · simp at hf
  case bsl own k xs =>
    cases own
    · simp [COp.cls] at hc
    · simp at hf
  all_goals (exfalso; simp only [COp.cls] at hc; omega)
theorem fpOp_read {ρ : CX → PV} {c : COp} {R W : List Nat} (hf : fpOp ρ c = some (R, W)) (hc : c.cls ≤ 1) : W = [] := by
  cases c <;> simp only [fpOp, Option.some.injEq, Prod.mk.injEq, reduceCtorEq] at hf
  case box own k x => cases own <;> simp at hf; exact hf.2
  case bsl own k x => cases own <;> simp at hf; exact hf.2
  case store => simp [COp.cls] at hc
  case append => simp [COp.cls] at hc
  case copy => simp [COp.cls] at hc
  case mupd => simp [COp.cls] at hc
  all_goals exact hf.2.symm
theorem foot {C : CallR} {o : COper × Option Nat} {M M' : List Blk} {ρ : CX → PV} {v : PV} {R W : List Nat} (hf : fpD M.length ρ o = some (R, W)) (h : resD C o.2 o.1.op M ρ v M') (hl : M'.length = M.length) :
    ∃ u : List Blk → List Blk, Upd W u ∧ M' = u M ∧ ∀ M2 : List Blk, M2.length = M.length → (∀ k ∈ R ++ W, M2[k]? = M[k]?) → resD C o.2 o.1.op M2 ρ v (u M2) := by
  obtain ⟨o, p⟩ := o
  cases p with
  | some r =>
    simp only [fpD, Option.some.injEq, Prod.mk.injEq] at hf
    obtain ⟨rfl, rfl⟩ := hf
    obtain ⟨b, k, xs, h1, h2, h3, rfl⟩ := h
    refine ⟨fun M2 => M2.set (M.length - r) (.row true k 1 xs), .inr ⟨_, _, rfl, rfl⟩, rfl, fun M2 h4 h5 => ⟨b, k, xs, h1, ?_, ?_, ?_⟩⟩
    · rw [h4]; exact (h5 _ (by simp)).trans h2
    · rw [h4]; exact h3
    · rw [h4]
  | none =>
    simp only [fpD] at hf
    simp only [resD] at h ⊢
    have hne : ∀ l f xs, o.op ≠ .call l f xs := by intro l f xs e; rw [e] at hf; cases hf
    have hR : ∀ {M M' : List Blk}, Res C o.op M ρ v M' ↔ res M ρ o.op = some (v, M') := by
      intro M M'
      have hnz : ∀ c, o.op ≠ .fz c := by intro c e; rw [e] at hf; cases hf
      generalize o.op = c at hne hnz
      cases c <;> first | exact Iff.rfl | exact absurd rfl (hne _ _ _) | exact absurd rfl (hnz _)
    rw [hR] at h
    by_cases hc : o.op.cls ≤ 1
    · have := fpOp_read hf hc
      subst this
      have hM := res_read hc h
      subst hM
      exact ⟨id, .inl ⟨rfl, rfl⟩, rfl, fun M2 h4 h5 => hR.2 (read_agree hf hc h fun i hi => h5 i (by simp [hi]))⟩
    · obtain ⟨i, b, rfl, rfl, h3⟩ := write_agree hf hc h hl
      exact ⟨fun M2 => M2.set i b, .inr ⟨i, b, rfl, rfl⟩, rfl, fun M2 h4 h5 => hR.2 (h3 M2 h4 h5)⟩
theorem Upd.length {W : List Nat} {u : List Blk → List Blk} (h : Upd W u) (M : List Blk) : (u M).length = M.length := by
  rcases h with ⟨_, rfl⟩ | ⟨i, b, _, rfl⟩
  · rfl
  · simp
theorem Upd.out {W : List Nat} {u : List Blk → List Blk} (h : Upd W u) (M : List Blk) {k : Nat} (hk : k ∉ W) : (u M)[k]? = M[k]? := by
  rcases h with ⟨_, rfl⟩ | ⟨i, b, rfl, rfl⟩
  · rfl
  · rw [List.getElem?_set_ne (by simpa using fun e => hk (by simp [e]))]
theorem Upd.comm {W W' : List Nat} {u u' : List Blk → List Blk} (h : Upd W u) (h' : Upd W' u') (hd : apartL W W') (M : List Blk) : u (u' M) = u' (u M) := by
  rcases h with ⟨_, rfl⟩ | ⟨i, b, rfl, rfl⟩
  · rfl
  · rcases h' with ⟨_, rfl⟩ | ⟨j, c, rfl, rfl⟩
    · rfl
    · exact List.set_comm _ _ fun e => hd i (by simp) j (by simp) e.symm
theorem resD_congr {C : CallR} {p : Option Nat} {M M' : List Blk} {ρ ρ' : CX → PV} {v : PV} (c : COp) (h : ∀ x ∈ c.opnds, ρ x = ρ' x) (k : resD C p c M ρ v M') : resD C p c M ρ' v M' := by
  cases p with
  | none => exact Res_congr c h k
  | some r =>
    obtain ⟨o, kk, xs, h1, h2, h3, h4⟩ := k
    refine ⟨o, kk, xs, ?_, h2, h3, h4⟩
    rw [← h1]
    cases c <;> first | rfl | skip
    case box own k x => simp only [allocB, h x (by simp [COp.opnds])]
    case bsl own k xs => simp only [allocB, map_congr' (ρ := ρ) (ρ' := ρ') (xs := xs) h]
theorem fpOp_congr {ρ ρ' : CX → PV} (c : COp) (h : ∀ x ∈ c.opnds, ρ x = ρ' x) : fpOp ρ c = fpOp ρ' c := by
  cases c
  case bsl own k xs =>
    simp only [fpOp]
    have : (xs.flatMap fun x => refs (ρ x)) = xs.flatMap fun x => refs (ρ' x) := by
      rw [List.flatMap_def, List.flatMap_def]
      congr 1
      exact List.map_congr_left fun x hx => by rw [h x hx]
    rw [this]
  case slice k x lo hi => simp only [fpOp, h x (by simp [COp.opnds])]
  all_goals first
    | rfl
    | (simp only [COp.opnds, List.mem_cons, List.not_mem_nil, or_false, forall_eq_or_imp, forall_eq] at h
       first
         | (simp only [fpOp, h]; done)
         | (obtain ⟨h1, h2, h3⟩ := h; simp only [fpOp, h1, h2, h3]; done)
         | (obtain ⟨h1, h2⟩ := h; simp only [fpOp, h1, h2]; done))
end Go.Nac

