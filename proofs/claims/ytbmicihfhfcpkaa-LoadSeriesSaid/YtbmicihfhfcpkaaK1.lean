import Derived.Test.YtbmicihfhfcpkaaK0
set_option linter.unusedVariables false
namespace Go.Nac
/-- An equation that simp does not take for one by definition. -/
theorem nrfl {α : Sort _} {a b : α} (h : a = b) : a = b := by cases h; rfl
theorem thenK_mono {K K' : (List Blk) → List PV → Prop} {Q Q' : Post} (hk : ∀ M t, K M t → K' M t) (hq : ∀ e M t, Q e M t → Q' e M t) :
    ∀ e M t, thenK K Q e M t → thenK K' Q' e M t := by
  intro e M t h
  cases e with
  | normal => exact hk _ _ h
  | _ => exact hq _ _ _ h
theorem blockK_mono {id : Nat} {Q Q' : Post} (hq : ∀ e M t, Q e M t → Q' e M t) : ∀ e M t, blockK id Q e M t → blockK id Q' e M t := by
  intro e M t h
  cases e with
  | exit j => simp only [blockK] at *; split at h <;> rename_i hj <;> simp [hj] <;> exact hq _ _ _ h
  | _ => exact hq _ _ _ h
theorem scopeK_mono {Q Q' : Post} (hq : ∀ e M t, Q e M t → Q' e M t) : ∀ e M t, scopeK Q e M t → scopeK Q' e M t := by
  intro e M t h
  cases e with
  | goto l => exact h.elim
  | _ => exact hq _ _ _ h
theorem Res_mono {C C' : CallR} (hC : ∀ f a M r M', C f a M r M' → C' f a M r M') {o : COp} {M : (List Blk)} {ρ : CX → PV} {v : PV} {M' : (List Blk)}
    (h : Res C o M ρ v M') : Res C' o M ρ v M' := by
  cases o with
  | call loud f args =>
    refine ⟨h.1, ?_⟩
    have h2 := h.2
    cases f with
    | inr g => exact hC _ _ _ _ _ h2
    | inl x =>
      simp only at h2 ⊢
      split at h2
      · exact hC _ _ _ _ _ h2
      · exact hC _ _ _ _ _ h2
      · exact h2.elim
  | _ => exact h
theorem wpOp_mono {C C' : CallR} (hC : ∀ f a M r M', C f a M r M' → C' f a M r M') {K K' : (List Blk) → List PV → Prop} (hk : ∀ M t, K M t → K' M t)
    {o : COper} {M : (List Blk)} {t : List PV} (h : wpOp C o K M t) : wpOp C' o K' M t := by
  unfold wpOp at *
  split at h
  · obtain ⟨v, M', h1, h2⟩ := h
    exact ⟨v, M', Res_mono hC h1, hk _ _ h2⟩
  · obtain ⟨b, h0, h⟩ := h
    refine ⟨b, h0, ?_⟩
    split at h
    · rename_i hb
      obtain ⟨v, M', h1, h2⟩ := h
      rw [if_pos hb]
      exact ⟨v, M', Res_mono hC h1, hk _ _ h2⟩
    · rename_i hb
      rw [if_neg hb]
      exact hk _ _ h
theorem wpOps_mono {C C' : CallR} (hC : ∀ f a M r M', C f a M r M' → C' f a M r M') {K K' : (List Blk) → List PV → Prop} (hk : ∀ M t, K M t → K' M t)
    (os : List COper) : ∀ {M : (List Blk)} {t : List PV}, wpOps C os K M t → wpOps C' os K' M t := by
  induction os with
  | nil => exact fun h => hk _ _ h
  | cons o os ih => exact fun h => wpOp_mono hC (fun M t h => ih h) h
theorem resD_mono {C C' : CallR} (hC : ∀ f a M r M', C f a M r M' → C' f a M r M') {p : Option Nat} {c : COp} {M : List Blk} {ρ : CX → PV} {v : PV} {M' : List Blk} (h : resD C p c M ρ v M') : resD C' p c M ρ v M' := by
  cases p with
  | none => exact Res_mono hC h
  | some r => exact h
theorem wpD_mono {C C' : CallR} (hC : ∀ f a M r M', C f a M r M' → C' f a M r M') {K K' : List Foot → List Blk → List PV → Prop} (hk : ∀ tr M t, K tr M t → K' tr M t)
    (os : List (COper × Option Nat)) : ∀ {tr : List Foot} {M : List Blk} {t : List PV}, wpD C os tr K M t → wpD C' os tr K' M t := by
  induction os with
  | nil => exact fun h => hk _ _ _ h
  | cons o os ih => exact fun h => by obtain ⟨h0, v, M', h1, h2, h3⟩ := h; exact ⟨h0, v, M', resD_mono hC h1, h2, ih h3⟩
theorem Wp_mono {C C' : CallR} {n0 : Nat} (hC : ∀ f a M r M', C f a M r M' → C' f a M r M') (c : CCode) :
    ∀ {Q Q' : Post}, (∀ e M t, Q e M t → Q' e M t) → ∀ {M t}, Wp C n0 c Q M t → Wp C' n0 c Q' M t := by
  induction c with
  | skip => exact fun hq _ _ h => hq _ _ _ h
  | region ops => exact fun hq _ _ h => wpOps_mono hC (fun M t h => hq _ _ _ h) ops h
  | seq a b iha ihb => exact fun hq _ _ h => iha (thenK_mono (fun M t h => ihb hq h) hq) h
  | cond c a b iha ihb =>
    intro Q Q' hq M t h
    obtain ⟨x, hx, h⟩ := h
    refine ⟨x, hx, ?_⟩
    cases x
    · exact ihb hq h
    · exact iha hq h
  | scope c ih => exact fun hq _ _ h => ih (scopeK_mono hq) h
  | block id c ih => exact fun hq _ _ h => ih (blockK_mono hq) h
  | loop c ih =>
    intro Q Q' hq M t h R hR
    refine h R fun M t hb => hR M t ?_
    exact ih (thenK_mono (fun _ _ h => h) hq) hb
  | rangeFunc f ps a b _ _ =>
    intro Q Q' hq M t h
    obtain ⟨g, first, cap, M', st, pend, t', ps', a', b', h1, h2, h3, h4, h5, h6⟩ := h
    exact ⟨g, first, cap, M', st, pend, t', ps', a', b', h1, hC _ _ _ _ _ h2, h3, h4, h5, hq _ _ _ h6⟩
  | exit id => exact fun hq _ _ h => hq _ _ _ h
  | goto l => exact fun hq _ _ h => hq _ _ _ h
  | label l => exact fun hq _ _ h => hq _ _ _ h
  | ret => exact fun hq _ _ h => hq _ _ _ h
  | forget ts => exact fun hq _ _ h => hq _ _ _ h
  | frz i => exact fun hq _ _ h => by obtain ⟨M', h1, h2⟩ := h; exact ⟨M', h1, hq _ _ _ h2⟩
  | keep ks => exact fun hq _ _ h => hq _ _ _ h
  | fix i => exact fun hq _ _ h => by obtain ⟨M', h1, h2⟩ := h; exact ⟨M', h1, hq _ _ _ h2⟩
  | own i j k => exact fun hq _ _ h => by obtain ⟨M', h1, h2⟩ := h; exact ⟨M', h1, hq _ _ _ h2⟩
  | holes k => exact fun hq _ _ h => hq _ _ _ h
  | regionD ops pairs => exact fun hq _ _ h => wpD_mono hC (fun tr M t h => ⟨h.1, hq _ _ _ h.2⟩) ops h
  | cut => exact fun hq _ _ h => by obtain ⟨n, h1, h2, h3, h4, h5⟩ := h; exact ⟨n, h1, h2, h3, h4, hq _ _ _ h5⟩
  | bad => exact fun _ _ _ h => h
/-- A round of a loop. -/
theorem loop_step {C : CallR} {n0 : Nat} {c : CCode} {Q : Post} {M : (List Blk)} {t : List PV}
    (h : Wp C n0 c (thenK (fun M t => Wp C n0 (.loop c) Q M t) Q) M t) : Wp C n0 (.loop c) Q M t := by
  intro R hR
  refine hR M t ?_
  exact Wp_mono (fun _ _ _ _ _ h => h) c (thenK_mono (fun M t h => h R hR) (fun _ _ _ h => h)) h
/-- A loop by an invariant and a measure. -/
theorem loop_inv {C : CallR} {n0 : Nat} {c : CCode} {Q : Post} {α : Type} (I : α → Prop) (σ : α → (List Blk)) (τ : α → List PV) (μ : α → Nat)
    (h : ∀ x, I x → Wp C n0 c (thenK (fun M t => ∃ y, I y ∧ μ y < μ x ∧ M = σ y ∧ t = τ y) Q) (σ x) (τ x)) :
    ∀ x, I x → Wp C n0 (.loop c) Q (σ x) (τ x) := by
  have key : ∀ n x, I x → μ x < n → Wp C n0 (.loop c) Q (σ x) (τ x) := by
    intro n
    induction n with
    | zero => intro x _ h; omega
    | succ n ih =>
      intro x hx hn
      refine loop_step (Wp_mono (fun _ _ _ _ _ h => h) c (thenK_mono ?_ (fun _ _ _ h => h)) (h x hx))
      rintro M t ⟨y, hy, hm, rfl, rfl⟩
      exact ih y hy (by omega)
  exact fun x hx => key _ x hx (Nat.lt_succ_self _)
theorem ACall_fn {F : Prog} {X : FuncId → List PV → PV → Prop} {f : FuncId} {cf : CFunc} {args : List PV} {M : (List Blk)} {r : PV} {M' : (List Blk)}
    (hf : F f = some cf) (hn : args.length = cf.nparams)
    (h : lowM M.length M → lowL M.length args → Wp (ACall F X) M.length cf.body (bodyPost M.length cf.results r M') M (args ++ List.replicate (cf.ntmps - args.length) .top)) :
    ACall F X (.fn f) args M r M' := fun C hC =>
  hC.1 f cf args M r M' hf hn fun h1 h2 => Wp_mono (fun _ _ _ _ _ h => h C hC) _ (fun _ _ _ h => h) (h h1 h2)
theorem ACall_own {F : Prog} {X : FuncId → List PV → PV → Prop} {f : FuncId} {cf : CFunc} {args : List PV} {M : (List Blk)} {r : PV} {M' : (List Blk)}
    (hf : F f = some cf) (hn : args.length = cf.nparams)
    (h : lowM M.length M → lowL M.length args → Wp (ACall F X) M.length cf.body (ownPost M.length cf.results r M') M (args ++ List.replicate (cf.ntmps - args.length) .top)) :
    ACall F X (.fn f) args M r M' := fun C hC =>
  hC.2.1 f cf args M r M' hf hn fun h1 h2 => Wp_mono (fun _ _ _ _ _ h => h C hC) _ (fun _ _ _ h => h) (h h1 h2)
theorem ACall_yl {F : Prog} {X : FuncId → List PV → PV → Prop} {i : Nat} {args : List PV} {M : (List Blk)} {r : PV} {M' : (List Blk)} {ps : List Nat} {a b : CCode} {ts : List PV}
    (hi : M[i]? = some (.loop .ready none ts ps a b)) (hn : args.length = ps.length)
    (h : lowM M.length M → lowL M.length args →
      Wp (ACall F X) M.length a (thenK (fun M1 t1 => (∃ ts' ps' a' b', M1[i]? = some (.loop .ready none ts' ps' a' b')) ∧
        Wp (ACall F X) M.length b (roundPost M.length i ps a b ts r M') (M1.set i (.loop .busy none ts ps a b)) t1) (fun _ _ _ => False))
      M ((ps.zip args).foldl (fun t p => t.set p.1 p.2) ts)) :
    ACall F X (.yl i) args M r M' := fun C hC =>
  hC.2.2.2 i args M r M' ps a b ts hi hn fun h1 h2 =>
    Wp_mono (fun _ _ _ _ _ h => h C hC) _ (thenK_mono (fun M t h => ⟨h.1, Wp_mono (fun _ _ _ _ _ h => h C hC) _ (fun _ _ _ h => h) h.2⟩) (fun _ _ _ h => h)) (h h1 h2)
theorem lowL_append {n : Nat} (xs ys : List PV) : lowL n (xs ++ ys) ↔ lowL n xs ∧ lowL n ys := by
  induction xs with
  | nil => simp [lowL]
  | cons x xs ih => simp [lowL, ih, and_assoc]
theorem lowL_iff {n : Nat} (xs : List PV) : lowL n xs ↔ ∀ x ∈ xs, x.low n := by
  induction xs with
  | nil => simp [lowL]
  | cons x xs ih => simp [lowL, ih]
theorem lowL_map {α : Type} {n : Nat} (f : α → PV) (l : List α) (h : ∀ x, (f x).low n) : lowL n (l.map f) := by
  rw [lowL_iff]; intro x hx; obtain ⟨y, _, rfl⟩ := List.mem_map.1 hx; exact h y
theorem lowM_append {n : Nat} (xs ys : (List Blk)) : lowM n (xs ++ ys) ↔ lowM n xs ∧ lowM n ys := by
  simp only [lowM, List.mem_append]
  exact ⟨fun h => ⟨fun b hb => h b (.inl hb), fun b hb => h b (.inr hb)⟩, fun h b hb => hb.elim (h.1 b) (h.2 b)⟩
theorem lowM_nil {n : Nat} : lowM n [] := fun _ h => by simp at h
theorem lowM_cons {n : Nat} (b : Blk) (xs : (List Blk)) : lowM n (b :: xs) ↔ b.low n ∧ lowM n xs := by
  simp [lowM]
mutual
theorem low_mono {n m : Nat} (h : n ≤ m) : ∀ x : PV, x.low n → x.low m
  | .top, _ => trivial
  | .s _, _ => trivial
  | .agg cs, k => lowL_mono h cs k
  | .tup cs, k => lowL_mono h cs k
  | .fs cs, k => lowL_mono h cs k
  | .fp cs, k => lowL_mono h cs k
  | .os i _ _ _, k => Nat.lt_of_lt_of_le k h
  | .op i _ _ _, k => Nat.lt_of_lt_of_le k h
  | .om i, k => Nat.lt_of_lt_of_le k h
  | .fn _ a b, k => ⟨lowL_mono h a k.1, lowL_mono h b k.2⟩
  | .yl i, k => Nat.lt_of_lt_of_le k h
  | .nan _, _ => trivial
  | .oi i, k => Nat.lt_of_lt_of_le k h
theorem lowL_mono {n m : Nat} (h : n ≤ m) : ∀ xs : List PV, lowL n xs → lowL m xs
  | [], _ => trivial
  | x :: xs, k => ⟨low_mono h x k.1, lowL_mono h xs k.2⟩
end
theorem Blk.low_mono {n m : Nat} (h : n ≤ m) (b : Blk) (k : b.low n) : b.low m := by
  cases b with
  | row _ _ _ xs => exact lowL_mono h xs k
  | map _ => trivial
  | loop _ _ ts _ _ _ => exact lowL_mono h ts k
  | siter _ _ => trivial
theorem lowM_mono {n m : Nat} (h : n ≤ m) {M : (List Blk)} (k : lowM n M) : lowM m M := fun b hb => b.low_mono h (k b hb)
end Go.Nac

