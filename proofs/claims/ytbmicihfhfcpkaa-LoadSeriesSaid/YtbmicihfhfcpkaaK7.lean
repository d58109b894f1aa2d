import Derived.Test.YtbmicihfhfcpkaaK6
import Derived.Orders
set_option linter.unusedVariables false
set_option linter.unusedSectionVars false
set_option linter.unusedSimpArgs false
namespace Go.Nac
def COp.opnds : COp → List CX
  | .bad => []
  | .mov x => [x]
  | .onil _ => []
  | .pick c a b => [c, a, b]
  | .alloc _ _ => []
  | .box _ _ x => [x]
  | .build _ ps => ps.map (·.2.2)
  | .bsl _ _ xs => xs
  | .load _ x => [x]
  | .store _ a v => [a, v]
  | .nilc x => [x]
  | .bin _ x y => [x, y]
  | .binb _ x y => [x, y]
  | .eqs _ _ x y => [x, y]
  | .un _ x => [x]
  | .conv _ x => [x]
  | .arrp _ x => [x]
  | .mkfn _ xs => xs
  | .mkmap => []
  | .mksl _ _ _ _ a b => [a, b]
  | .slice _ x lo hi => x :: (lo.toList ++ hi.toList)
  | .slstr x lo hi => x :: (lo.toList ++ hi.toList)
  | .faddr _ x => [x]
  | .field _ _ x => [x]
  | .iaddr _ x i => [x, i]
  | .iaddra _ _ x i => [x, i]
  | .idxs x i => [x, i]
  | .idxa _ _ _ x i => [x, i]
  | .look _ _ _ m k => [m, k]
  | .mupd _ m k v => [m, k, v]
  | .ext _ x => [x]
  | .len x => [x]
  | .lens x => [x]
  | .append _ _ x y => [x, y]
  | .copy _ x y => [x, y]
  | .capn x => [x]
  | .appz _ _ _ _ x n => [x, n]
  | .max x xs => x :: xs
  | .min x xs => x :: xs
  | .call _ f xs => (match f with | .inl x => [x] | .inr _ => []) ++ xs
  | .fz c => c.opnds
  | .sop _ xs => xs
  | .srng x => [x]
  | .snxt x => [x]
/-- 0: memory is not looked at; 1: it is read; 2: it may change. -/
def COp.cls : COp → Nat
  | .mov _ | .pick .. | .build .. | .bin .. | .binb .. | .eqs .. | .un .. | .conv .. | .mkfn .. | .slstr .. | .field .. | .idxs .. | .idxa .. | .ext .. | .len _ | .lens _ | .max .. | .min .. | .bad | .sop .. => 0
  | .box own _ _ => if own then 2 else 1
  | .bsl own _ _ => if own then 2 else 1
  | .load .. | .nilc _ | .arrp .. | .slice .. | .faddr .. | .iaddr .. | .iaddra .. | .look .. => 1
  | .call loud _ _ => if loud then 2 else 1
  | .fz _ => 2
  | _ => 2
theorem map_congr' {ρ ρ' : CX → PV} {xs : List CX} (h : ∀ x ∈ xs, ρ x = ρ' x) : xs.map ρ = xs.map ρ' := List.map_congr_left h
theorem opt_congr {ρ ρ' : CX → PV} {x : Option CX} (h : ∀ y ∈ x.toList, ρ y = ρ' y) : x.map ρ = x.map ρ' := by
  cases x with
  | none => rfl
  | some y => simp [h y (by simp)]
theorem res_congr {M : List Blk} {ρ ρ' : CX → PV} (c : COp) (h : ∀ x ∈ c.opnds, ρ x = ρ' x) : res M ρ c = res M ρ' c := by
  cases c
  case build z ps =>
    have : ps.map (fun p => (p.1, p.2.1, ρ p.2.2)) = ps.map (fun p => (p.1, p.2.1, ρ' p.2.2)) := List.map_congr_left fun p hp => by
      rw [h p.2.2 (List.mem_map.2 ⟨p, hp, rfl⟩)]
    simp only [res, this]
  case bsl own k xs =>
    have h1 : xs.map ρ = xs.map ρ' := map_congr' h
    have h2 : xs.map (fun x => view M (ρ x)) = xs.map (fun x => view M (ρ' x)) := List.map_congr_left fun x hx => by rw [h x hx]
    simp only [res, h1, h2]
  case mkfn f xs =>
    have hx := map_congr' (ρ := ρ) (ρ' := ρ') (xs := xs) h
    simp only [res, hx]
  case slice k x lo hi =>
    have h1 := h x (by simp [COp.opnds])
    have h2 := opt_congr (ρ := ρ) (ρ' := ρ') (x := lo) fun y hy => h y (by simp only [COp.opnds, List.mem_cons, List.mem_append]; exact .inr (.inl hy))
    have h3 := opt_congr (ρ := ρ) (ρ' := ρ') (x := hi) fun y hy => h y (by simp only [COp.opnds, List.mem_cons, List.mem_append]; exact .inr (.inr hy))
    simp only [res, h1, h2, h3]
  case slstr x lo hi =>
    have h1 := h x (by simp [COp.opnds])
    have h2 := opt_congr (ρ := ρ) (ρ' := ρ') (x := lo) fun y hy => h y (by simp only [COp.opnds, List.mem_cons, List.mem_append]; exact .inr (.inl hy))
    have h3 := opt_congr (ρ := ρ) (ρ' := ρ') (x := hi) fun y hy => h y (by simp only [COp.opnds, List.mem_cons, List.mem_append]; exact .inr (.inr hy))
    simp only [res, h1, h2, h3]
  case max x xs =>
    have h1 := h x (by simp [COp.opnds])
    have h2 := map_congr' (ρ := ρ) (ρ' := ρ') (xs := xs) fun y hy => h y (by simp [COp.opnds, hy])
    simp only [res, h1, h2]
  case min x xs =>
    have h1 := h x (by simp [COp.opnds])
    have h2 := map_congr' (ρ := ρ) (ρ' := ρ') (xs := xs) fun y hy => h y (by simp [COp.opnds, hy])
    simp only [res, h1, h2]
  case sop o xs =>
    have hx := map_congr' (ρ := ρ) (ρ' := ρ') (xs := xs) h
    simp only [res, hx]
  case call => rfl
  case fz => rfl
  all_goals (first
    | rfl
    | (simp only [COp.opnds, List.mem_cons, List.not_mem_nil, or_false, forall_eq_or_imp, forall_eq] at h
       first
         | (simp only [res, h]; done)
         | (obtain ⟨h1, h2, h3⟩ := h; simp only [res, h1, h2, h3]; done)
         | (obtain ⟨h1, h2⟩ := h; simp only [res, h1, h2]; done)))
theorem Res_congr {C : CallR} {M M' : List Blk} {ρ ρ' : CX → PV} {v : PV} (c : COp) (h : ∀ x ∈ c.opnds, ρ x = ρ' x) (k : Res C c M ρ v M') : Res C c M ρ' v M' := by
  cases c
  case call loud f xs =>
    refine ⟨k.1, ?_⟩
    have k2 := k.2
    have hx : xs.map (argV M ρ) = xs.map (argV M ρ') := List.map_congr_left fun x hx => by
      have := h x (by simp [COp.opnds, hx])
      cases x <;> simp only [argV, this]
    cases f with
    | inr g => simp only at k2 ⊢; rw [← hx]; exact k2
    | inl y =>
      have hy := h y (by simp [COp.opnds])
      simp only at k2 ⊢
      rw [hx, hy] at k2
      exact k2
  case fz c =>
    obtain ⟨v0, M1, h1, h2⟩ := k
    exact ⟨v0, M1, (res_congr c h).symm.trans h1, h2⟩
  all_goals exact (res_congr _ h).symm.trans k
theorem res_pure {M M' : List Blk} {ρ : CX → PV} {v : PV} {c : COp} (hc : c.cls = 0) (h : res M ρ c = some (v, M')) : M' = M ∧ ∀ M2, res M2 ρ c = some (v, M2) := by
  have key : ∀ {f : List Blk → Option (PV × List Blk)} (x : Option PV), (∀ M, f M = x.map (·, M)) → f M = some (v, M') → M' = M ∧ ∀ M2, f M2 = some (v, M2) := by
    intro f x hf hM
    rw [hf] at hM
    obtain ⟨rfl, rfl⟩ := map_pair hM
    exact ⟨rfl, fun M2 => by rw [hf]; rfl⟩
  cases c
  case mov x => exact key (f := fun M => res M ρ (.mov x)) (some (ρ x)) (fun _ => rfl) h
  case pick a b c => exact key (f := fun M => res M ρ (.pick a b c)) _ (fun _ => rfl) h
  case build z ps => exact key (f := fun M => res M ρ (.build z ps)) ((fillParts (z.map .s) (ps.map fun p => (p.1, p.2.1, ρ p.2.2))).map .agg) (fun M => by simp only [res, Option.map_map]; rfl) h
  case bin op x y => exact key (f := fun M => res M ρ (.bin op x y)) _ (fun _ => rfl) h
  case binb op x y => exact key (f := fun M => res M ρ (.binb op x y)) _ (fun _ => rfl) h
  case un op x => exact key (f := fun M => res M ρ (.un op x)) _ (fun _ => rfl) h
  case conv op x => exact key (f := fun M => res M ρ (.conv op x)) _ (fun _ => rfl) h
  case mkfn f xs => exact key (f := fun M => res M ρ (.mkfn f xs)) (some _) (fun _ => rfl) h
  case len x => exact key (f := fun M => res M ρ (.len x)) ((lenOf (ρ x)).map fun (n : Nat) => .I (n : Int)) (fun M => by simp only [res, Option.map_map]; rfl) h
  case max x xs => exact key (f := fun M => res M ρ (.max x xs)) _ (fun _ => rfl) h
  case min x xs => exact key (f := fun M => res M ρ (.min x xs)) _ (fun _ => rfl) h
  case sop o xs => exact key (f := fun M => res M ρ (.sop o xs)) _ (fun _ => rfl) h
  case lens x =>
    refine key (f := fun M => res M ρ (.lens x)) (match ρ x with | .s (.string b) => some (.I (b.size : Int)) | _ => none) (fun M => ?_) h
    simp only [res]; split <;> split <;> simp_all
  case eqs neg lay x y =>
    refine key (f := fun M => res M ρ (.eqs neg lay x y)) (match ρ x, ρ y with | .agg xs, .agg ys => (eqCells lay xs ys).map fun b => .B (if neg then !b else b) | _, _ => none) (fun M => ?_) h
    simp only [res]; split <;> split <;> simp_all [Option.map_map, Function.comp_def]
  case slstr x lo hi =>
    refine key (f := fun M => res M ρ (.slstr x lo hi)) (match ρ x with | .s (.string b) => (bounds b.size (lo.map ρ) (hi.map ρ)).map fun p => .s (.string (b.extract p.1 p.2)) | _ => none) (fun M => ?_) h
    simp only [res]; split <;> split <;> simp_all [Option.map_map, Function.comp_def]
  case field off g x =>
    refine key (f := fun M => res M ρ (.field off g x)) (match ρ x with | .agg cs => mkPV g ((cs.drop off).take (g.getD 1)) | _ => none) (fun M => ?_) h
    simp only [res]; split <;> split <;> simp_all
  case idxs x i =>
    refine key (f := fun M => res M ρ (.idxs x i)) (match ρ x, asNat (ρ i) with | .s (.string b), some n => (b[n]?).map fun c => .s (.int .u8 c.toNat) | _, _ => none) (fun M => ?_) h
    simp only [res]; split <;> split <;> simp_all [Option.map_map, Function.comp_def]
  case idxa n k g x i =>
    refine key (f := fun M => res M ρ (.idxa n k g x i)) (match ρ x, asNat (ρ i) with | .agg cs, some m => if m < n then mkPV g ((cs.drop (m * k)).take (g.getD 1)) else none | _, _ => none) (fun M => ?_) h
    simp only [res]
    generalize ρ x = vx
    generalize asNat (ρ i) = vn
    cases vn <;> cases vx <;> try rfl
    simp only
    split <;> rfl
  case ext i x =>
    refine key (f := fun M => res M ρ (.ext i x)) (match ρ x with | .tup vs => vs[i]? | _ => none) (fun M => ?_) h
    simp only [res]; split <;> split <;> simp_all
  case bad => simp [res] at h
  all_goals (simp only [COp.cls] at hc; first | (cases hc; done) | (split at hc <;> cases hc))
theorem res_read {M M' : List Blk} {ρ : CX → PV} {v : PV} {c : COp} (hc : c.cls ≤ 1) (h : res M ρ c = some (v, M')) : M' = M := by
  by_cases h0 : c.cls = 0
  · exact (res_pure h0 h).1
  have h1 : c.cls = 1 := by omega
  cases c
  case box own k x =>
    simp only [COp.cls] at h1
    cases own
    · simp only [res] at h; split at h
      · simp at h; exact h.2.symm
      · cases h
    · cases h1
  case bsl own k xs =>
    simp only [COp.cls] at h1
    cases own
    · simp only [res] at h; split at h
      · simp at h; exact h.2.symm
      · cases h
    · cases h1
  case load g x => exact (map_pair h).2
  case nilc x =>
    simp only [res] at h; split at h
    · simp at h; exact h.2.symm
    · split at h
      · simp at h; exact h.2.symm
      · cases h
    · simp at h; exact h.2.symm
    · cases h
  case arrp n x =>
    simp only [res] at h; split at h
    · split at h
      · simp at h; exact h.2.symm
      · cases h
    · split at h
      · cases hh : held M (ρ x) with
        | none => simp_all
        | some ys => simp_all
      · cases h
    · cases h
  case slice k x lo hi =>
    simp only [res] at h; split at h
    · split at h
      · cases hb : bounds _ (lo.map ρ) (hi.map ρ) with
        | none => rw [hb] at h; cases h
        | some p => rw [hb] at h; simp at h; exact h.2.symm
      · cases h
    · cases hb : bounds _ (lo.map ρ) (hi.map ρ) with
      | none => rw [hb] at h; cases h
      | some p => rw [hb] at h; simp at h; exact h.2.symm
    · split at h
      · cases hb : bounds _ (lo.map ρ) (hi.map ρ) with
        | none => rw [hb] at h; cases h
        | some p => rw [hb] at h; simp at h; exact h.2.symm
      · cases h
    · cases h
  case faddr off x =>
    simp only [res] at h; split at h
    · split at h
      · simp at h; exact h.2.symm
      · cases h
    · split at h
      · simp at h; exact h.2.symm
      · cases h
    · cases h
  case iaddr k x i =>
    simp only [res] at h; split at h
    · split at h
      · split at h
        · simp at h; exact h.2.symm
        · cases h
      · cases h
    · split at h
      · split at h
        · split at h
          · simp at h; exact h.2.symm
          · cases h
        · cases h
      · cases h
    · cases h
  case iaddra n k x i =>
    simp only [res] at h; split at h
    · split at h
      · simp at h; exact h.2.symm
      · cases h
    · split at h
      · simp at h; exact h.2.symm
      · cases h
    · cases h
  case look sk z ok m key =>
    simp only [res] at h; split at h
    · split at h
      · split at h
        · split at h
          · simp at h; exact h.2.symm
          · simp at h; exact h.2.symm
        · cases h
      · cases h
    · cases h
  case call => cases h
  all_goals (simp only [COp.cls] at h1; cases h1)
theorem Res_pure {C : CallR} {M M' : List Blk} {ρ : CX → PV} {v : PV} {c : COp} (hc : c.cls = 0) (h : Res C c M ρ v M') : M' = M ∧ ∀ M2, Res C c M2 ρ v M2 := by
  cases c
  case call loud f xs => simp only [COp.cls] at hc; split at hc <;> cases hc
  case fz => simp [COp.cls] at hc
  all_goals exact res_pure hc h
theorem Res_read {C : CallR} {M M' : List Blk} {ρ : CX → PV} {v : PV} {c : COp} (hc : c.cls ≤ 1) (h : Res C c M ρ v M') : M' = M := by
  cases c
  case call loud f xs =>
    cases loud
    · exact h.1 rfl
    · simp [COp.cls] at hc
  case fz => simp [COp.cls] at hc
  all_goals exact res_read hc h
end Go.Nac

