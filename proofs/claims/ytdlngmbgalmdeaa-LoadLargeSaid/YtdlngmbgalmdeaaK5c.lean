import Derived.Test.YtdlngmbgalmdeaaK5b
set_option linter.unusedVariables false
set_option linter.unusedSectionVars false
set_option linter.unusedSimpArgs false
namespace Go.Nac
/-- The zero of a type, in cells. -/
def okZ (P : Program) (t : TypeId) (g : Option Nat) (z : List Value) : Bool :=
  match (P.info? t).bind (·.zero) with
  | some v =>
    (match g with
    | some k => (match v with | .agg vs => okVs z vs.toList && z.length == k | _ => false)
    | none => okVs z [v])
  | none => false
/-- none: a scalar; some k: an aggregate of k cells. -/
def okG (P : Program) (t : TypeId) (g : Option Nat) : Bool :=
  match aggT P t, tySize P t, g with
  | some true, some n, some k => n == k
  | some false, some n, none => n == 1
  | _, _, _ => false
section
variable {R : CCode → Code → Prop} {P : Program} {M : List Blk} {L : Loc} {w : World} {ρ : CX → PV} {σ : Operand → Value}
theorem okG_spec {t : TypeId} {g : Option Nat} (h : okG P t g = true) : ∃ b, aggT P t = some b ∧ tySize P t = some (g.getD 1) ∧ (b = true ↔ g.isSome = true) ∧ (b = false → g = none) := by
  unfold okG at h
  split at h
  · rename_i h1 h2; exact ⟨true, h1, by simp at h; subst h; exact h2, by simp, by simp⟩
  · rename_i h1 h2; exact ⟨false, h1, by simp at h; subst h; exact h2, by simp, by simp⟩
  · cases h
theorem mkPV_rel {g : Option Nat} {cs : List PV} {vs : List Value} {p : PV} {b : Bool} (h : mkPV g cs = some p) (hb : b = true ↔ g.isSome = true) (hr : LRel M L w cs vs) : VRel M L w p (valOf b vs) := by
  unfold mkPV at h
  split at h
  · obtain rfl := Option.some.inj h
    have hf : b = false := by cases b <;> simp_all
    subst hf
    cases hr with
    | cons _ v _ vs h hs => cases hs; exact h
  · cases h
  · split at h
    · obtain rfl := Option.some.inj h
      have hf : b = true := by simpa using hb
      subst hf
      exact .agg _ _ (by simpa [valOf] using hr)
    · cases h
theorem mkPV_length {g : Option Nat} {cs : List PV} {p : PV} (h : mkPV g cs = some p) : cs.length = g.getD 1 := by
  unfold mkPV at h
  split at h
  · rfl
  · cases h
  · split at h
    · rename_i e; exact e
    · cases h
theorem g_mov (S : Sim R M L w) (H : Fit M L w ρ σ) {o : Oper} {x : CX} {y : Operand} (ho : o.op = .move y ∨ o.op = .assign y) (hx : okX x y = true) : Good R P (execOp σ o) M L w (ρ x) M := by
  refine good_pure S ?_ (H x y hx)
  rcases ho with ho | ho <;> simp [execOp, ho]
theorem g_pick (S : Sim R M L w) (H : Fit M L w ρ σ) {o : Oper} {c a b : CX} {c' a' b' : Operand} (ho : o.op = .pick c' a' b') (hc : okX c c' = true) (ha : okX a a' = true) (hb : okX b b' = true)
    {v : PV} (h : pickV (ρ c) (ρ a) (ρ b) = some v) : Good R P (execOp σ o) M L w v M := by
  have k1 := H c c' hc; have k2 := H a a' ha; have k3 := H b b' hb
  unfold pickV at h
  split at h
  · rename_i q e1
    rw [e1] at k1
    have := k1.s_inv
    obtain rfl := Option.some.inj h
    refine good_pure (cv := if q then σ a' else σ b') S ?_ ?_
    · simp [execOp, ho, this, asBool]
    · cases q
      · exact k3
      · exact k2
  · cases h
theorem g_bin (S : Sim R M L w) (H : Fit M L w ρ σ) {o : Oper} {op : BinOp} {t ty : TypeId} {x y : CX} {x' y' : Operand} (ho : o.op = .binOp op t x' y' ty) (hx : okX x x' = true) (hy : okX y y' = true)
    {v : PV} (h : bin op (ρ x) (ρ y) = some v) : Good R P (execOp σ o) M L w v M := by
  have k1 := H x x' hx; have k2 := H y y' hy
  unfold bin at h
  split at h
  · rename_i k a k' b e1 e2
    rw [e1] at k1; rw [e2] at k2
    have c1 := k1.s_inv; have c2 := k2.s_inv
    split at h
    · rename_i ek; subst ek
      cases hb : binInt op k a b with
      | none => rw [hb] at h; cases h
      | some r =>
        rw [hb] at h
        obtain rfl := Option.some.inj h
        obtain ⟨h1, h2⟩ := binInt_run (P := P) (w := w) hb t
        exact good_pure S (by simp [execOp, ho, c1, c2, eqGuard_int, h1]) (.s r h2)
    · cases h
  · rename_i a b e1 e2
    rw [e1] at k1; rw [e2] at k2
    have c1 := k1.s_inv; have c2 := k2.s_inv
    cases hb : binStr op a b with
    | none => rw [hb] at h; cases h
    | some r =>
      rw [hb] at h
      obtain rfl := Option.some.inj h
      obtain ⟨h1, h2⟩ := binStr_run (P := P) (w := w) hb t
      exact good_pure S (by simp [execOp, ho, c1, c2, eqGuard_str, h1]) (.s r h2)
  · cases h
theorem g_binb (S : Sim R M L w) (H : Fit M L w ρ σ) {o : Oper} {op : BinOp} {t ty : TypeId} {x y : CX} {x' y' : Operand} (ho : o.op = .binOp op t x' y' ty) (hx : okX x x' = true) (hy : okX y y' = true)
    (ht : P.underlying t = some .bool) {v : PV} (h : binb op (ρ x) (ρ y) = some v) : Good R P (execOp σ o) M L w v M := by
  have k1 := H x x' hx; have k2 := H y y' hy
  unfold binb at h
  split at h
  · rename_i a b e1 e2
    rw [e1] at k1; rw [e2] at k2
    have c1 := k1.s_inv; have c2 := k2.s_inv
    cases hb : binBool op a b with
    | none => rw [hb] at h; cases h
    | some r =>
      rw [hb] at h
      obtain rfl := Option.some.inj h
      obtain ⟨h1, h2⟩ := binBool_run (P := P) (w := w) hb t ht
      exact good_pure S (by simp [execOp, ho, c1, c2, eqGuard_bool, h1]) (.s r h2)
  · cases h
theorem g_eqs (S : Sim R M L w) (H : Fit M L w ρ σ) {o : Oper} {neg : Bool} {lay : List SK} {t ty : TypeId} {x y : CX} {x' y' : Operand} (ho : o.op = .binOp (if neg then .neq else .eql) t x' y' ty) (hx : okX x x' = true) (hy : okX y y' = true)
    (hl : eqTy P 100 t lay = true) (hg : P.eqGuardType P.depth t = false) (hb : aggT P t = some true)
    {v : PV} {M' : List Blk} (h : res M ρ (.eqs neg lay x y) = some (v, M')) : Good R P (execOp σ o) M L w v M' := by
  have k1 := H x x' hx; have k2 := H y y' hy
  simp only [res] at h
  split at h
  · rename_i xs ys e1 e2
    rw [e1] at k1; rw [e2] at k2
    cases hq : eqCells lay xs ys with
    | none => rw [hq] at h; cases h
    | some r =>
      rw [hq] at h
      simp only [Option.map_some, Option.some.injEq, Prod.mk.injEq] at h
      obtain ⟨rfl, rfl⟩ := h
      generalize hc1 : σ x' = c1 at k1
      generalize hc2 : σ y' = c2 at k2
      cases k1 with
      | agg _ vs h1 =>
        cases k2 with
        | agg _ us h2 =>
          have hv := eqCells_vs hq h1 h2
          have hr := eqTy_run (P := P) 100 t lay vs.toList us.toList r true 10000 w hl hb hv (by omega)
          simp only [valOf, if_true, Array.toArray_toList] at hr
          refine good_pure S ?_ (.s _ rfl)
          cases neg
          · simp only [Bool.false_eq_true, if_false] at ho ⊢
            simp only [execOp, ho, hc1, hc2, Sem.run_bind, run_eqGuard_agg w .eql t x' y' vs us hg, Result.andThen_ok, run_eql_struct, hr]
            rfl
          · simp only [if_true] at ho ⊢
            simp only [execOp, ho, hc1, hc2, Sem.run_bind, run_eqGuard_agg w .neq t x' y' vs us hg, Result.andThen_ok, run_neq_struct, hr]
            rfl
  · cases h
theorem g_un (S : Sim R M L w) (H : Fit M L w ρ σ) {o : Oper} {op : UnOp} {t : TypeId} {x : CX} {x' : Operand} (ho : o.op = .unOp op t x') (hx : okX x x' = true)
    {v : PV} (h : un op (ρ x) = some v) : Good R P (execOp σ o) M L w v M := by
  have k1 := H x x' hx
  unfold un at h
  split at h
  · rename_i k n e1
    rw [e1] at k1
    have c1 := k1.s_inv
    split at h
    · obtain rfl := Option.some.inj h
      exact good_pure S (by simp [execOp, ho, c1, Op.unary, Op.intArith]) (.s _ rfl)
    · cases h
  · rename_i b e1
    rw [e1] at k1
    have c1 := k1.s_inv
    split at h
    · obtain rfl := Option.some.inj h
      exact good_pure S (by simp [execOp, ho, c1, Op.unary]) (.s _ rfl)
    · cases h
  · cases h
theorem g_conv (S : Sim R M L w) (H : Fit M L w ρ σ) {o : Oper} {k ks : IntKind} {s t : TypeId} {x : CX} {x' : Operand} (ho : o.op = .convert s t x') (hx : okX x x' = true)
    (hs : P.underlying s = some (.int ks)) (ht : P.underlying t = some (.int k)) {v : PV} (h : conv k (ρ x) = some v) : Good R P (execOp σ o) M L w v M := by
  have k1 := H x x' hx
  unfold conv at h
  split at h
  · rename_i k' n e1
    rw [e1] at k1
    have c1 := k1.s_inv
    obtain rfl := Option.some.inj h
    exact good_pure S (by simp [execOp, ho, c1, convert, run_underlying hs, run_underlying ht, Conv.intToInt]) (.s _ rfl)
  · cases h
theorem g_ext (S : Sim R M L w) (H : Fit M L w ρ σ) {o : Oper} {i : Nat} {x : CX} {x' : Operand} (ho : o.op = .extract x' i) (hx : okX x x' = true)
    {v : PV} {M' : List Blk} (h : res M ρ (.ext i x) = some (v, M')) : Good R P (execOp σ o) M L w v M' := by
  have k1 := H x x' hx
  simp only [res] at h
  split at h
  · rename_i vs e1
    rw [e1] at k1
    generalize hc : σ x' = c at k1
    cases k1 with
    | tup _ us hu =>
      cases hv : vs[i]? with
      | none => rw [hv] at h; cases h
      | some p =>
        rw [hv] at h
        simp only [Option.map_some, Option.some.injEq, Prod.mk.injEq] at h
        obtain ⟨rfl, rfl⟩ := h
        obtain ⟨u, h1, h2⟩ := hu.get hv
        have h1' : us[i]? = some u := by simpa using h1
        exact good_pure S (by simp [execOp, ho, hc, Instr.extract, h1']) h2
  · cases h
theorem g_mkfn (S : Sim R M L w) (H : Fit M L w ρ σ) {o : Oper} {f : FuncId} {cap : List CX} {cap' : Array Operand} (ho : o.op = .makeFunc (.func f) #[] cap') (hx : okXs cap cap'.toList = true) :
    Good R P (execOp σ o) M L w (.fn (.func f) [] (cap.map ρ)) M := by
  have k := H.list hx
  refine good_pure S (cv := .func (.func f) #[] (cap'.map σ)) (by simp [execOp, ho, Instr.makeFunc]) (.fn _ _ _ _ _ .nil ?_)
  simpa using k
theorem lenOf_run {x : Value} {p : PV} {n : Nat} (h : VRel M L w p x) (hp : lenOf p = some n) : ∃ a c, x = .slice a n c := by
  unfold lenOf at hp
  split at hp
  · obtain rfl := Option.some.inj hp
    cases h with | fs _ a n cap k vs hn => exact ⟨a, cap, by rw [hn]⟩
  · obtain rfl := Option.some.inj hp
    exact ⟨_, _, h.s_inv⟩
  · obtain rfl := Option.some.inj hp
    cases h with
    | os _ _ _ _ wr k xs a cap => exact ⟨a, cap, rfl⟩
    | os' _ _ _ _ wr k v' xs a c => exact ⟨a, c, rfl⟩
  · cases hp
end
end Go.Nac

