import Derived.Test.YtdlngmbgalmdeaaK7d
set_option linter.unusedVariables false
set_option linter.unusedSectionVars false
set_option linter.unusedSimpArgs false
namespace Go.Nac
def stepD (C : CallR) (ops : List (COper × Option Nat)) (φ : Nat → Foot) (i : Nat) (s s' : List Blk × List PV) : Prop :=
  ∃ o, ops[i]? = some o ∧ o.1.guard = none ∧ ∃ v, resD C o.2 o.1.op s.1 (ev s.2) v s'.1 ∧ s'.1.length = s.1.length ∧ s'.2 = put s.2 o.1.dst v ∧ fpD s.1.length (ev s.2) o = φ i
theorem wpD_run {C : CallR} (os : List (COper × Option Nat)) : ∀ (pre : List (COper × Option Nat)) {tr : List Foot} {K : List Foot → List Blk → List PV → Prop} {M : List Blk} {t : List PV}, wpD C os tr K M t →
    ∃ M' t' fps, fps.length = os.length ∧ K (tr ++ fps) M' t' ∧ ∀ φ : Nat → Foot, (∀ i, i < os.length → φ (pre.length + i) = fps.getD i none) →
      runG (stepD C (pre ++ os) φ) (List.range' pre.length os.length) (M, t) (M', t') := by
  induction os with
  | nil => exact fun pre tr K M t h => ⟨M, t, [], rfl, by rw [List.append_nil]; exact h, fun φ _ => rfl⟩
  | cons o os ih =>
    intro pre tr K M t h
    obtain ⟨h0, v, M1, h1, h2, h3⟩ := h
    obtain ⟨M', t', fps, h4, h5, h6⟩ := ih (pre ++ [o]) h3
    refine ⟨M', t', fpD M.length (ev t) o :: fps, by simp [h4], by simpa using h5, fun φ hφ => ?_⟩
    simp only [List.length_cons, List.range'_succ]
    refine ⟨(M1, put t o.1.dst v), ⟨o, by simp, h0, v, h1, h2, rfl, ?_⟩, ?_⟩
    · have := hφ 0 (by simp)
      simpa using this.symm
    · have := h6 φ (fun i hi => by
        have := hφ (i + 1) (by simp; omega)
        simp only [List.length_append, List.length_singleton, List.getD_cons_succ] at this ⊢
        rw [← this]; congr 1; omega)
      simpa using this
def tempsApart (a b : COper) : Bool :=
  (match a.dst with | some d => !b.looks.contains d && b.dst != some d | none => true) &&
  (match b.dst with | some d => !a.looks.contains d | none => true)
def okD (ops : List (COper × Option Nat)) (pairs : List (Nat × Nat)) (i j : Nat) : Bool :=
  match ops[i]?, ops[j]? with
  | some a, some b => tempsApart a.1 b.1 &&
      ((a.2.isNone && a.1.op.cls == 0) || (b.2.isNone && b.1.op.cls == 0) || (a.2.isNone && b.2.isNone && decide (a.1.op.cls ≤ 1) && decide (b.1.op.cls ≤ 1)) || pairs.contains (j, i))
  | _, _ => false
theorem okPair_inv {x y : Foot} (h : okPair x y) : ∃ r1 w1 r2 w2, x = some (r1, w1) ∧ y = some (r2, w2) ∧ apartL w1 r2 ∧ apartL w1 w2 ∧ apartL r1 w2 := by
  cases x with
  | none => cases y <;> cases h
  | some p => cases y with
    | none => cases h
    | some q => exact ⟨p.1, p.2, q.1, q.2, rfl, rfl, h⟩
theorem swapD {C : CallR} {ops : List (COper × Option Nat)} {pairs : List (Nat × Nat)} {φ : Nat → Foot} (hφ : ∀ p ∈ pairs, okPair (φ p.1) (φ p.2)) {i j : Nat} {s s1 s2 : List Blk × List PV} (ok : okD ops pairs i j = true)
    (hj : stepD C ops φ j s s1) (hi : stepD C ops φ i s1 s2) : ∃ s3, stepD C ops φ i s s3 ∧ stepD C ops φ j s3 s2 := by
  obtain ⟨b, hb, gb, v, b1, b2, b3, b4⟩ := hj
  obtain ⟨a, ha, ga, u, a1, a2, a3, a4⟩ := hi
  obtain ⟨M, t⟩ := s
  obtain ⟨M1, t1⟩ := s1
  obtain ⟨M2, t2⟩ := s2
  simp only at b1 b2 b3 b4 a1 a2 a3 a4
  subst b3; subst a3
  simp only [okD, ha, hb, tempsApart, Bool.and_eq_true, Bool.or_eq_true, decide_eq_true_eq, beq_iff_eq, Option.isNone_iff_eq_none, List.contains_eq_mem] at ok
  obtain ⟨⟨i1, i2⟩, i3⟩ := ok
  have n1 : ∀ d, a.1.dst = some d → d ∉ b.1.looks ∧ b.1.dst ≠ some d := by
    intro d hd; rw [hd] at i1; simp at i1; exact i1
  have n2 : ∀ d, b.1.dst = some d → d ∉ a.1.looks := by
    intro d hd; rw [hd] at i2; simp at i2; exact i2
  have n3 : ∀ d, b.1.dst = some d → a.1.dst ≠ some d := fun d hd ha => (n1 d ha).2 hd
  have ea : ∀ x ∈ a.1.op.opnds, ev (put t b.1.dst v) x = ev t x := ev_put n2
  have eb : ∀ x ∈ b.1.op.opnds, ev t x = ev (put t a.1.dst u) x := fun x hx => (ev_put (fun d hd => (n1 d hd).1) x hx).symm
  have a1' := resD_congr a.1.op ea a1
  have fpa : fpD M1.length (ev (put t b.1.dst v)) a = fpD M.length (ev t) a := by
    rw [b2]; unfold fpD; split
    · rfl
    · exact fpOp_congr _ ea
  have fpb : fpD M.length (ev t) b = fpD M.length (ev (put t a.1.dst u)) b := by
    unfold fpD; split
    · rfl
    · exact fpOp_congr _ eb
  -- what is left: where memory stands between
  suffices h : ∃ M3, resD C a.2 a.1.op M (ev t) u M3 ∧ M3.length = M.length ∧ resD C b.2 b.1.op M3 (ev t) v M2 by
    obtain ⟨M3, h1, h2, h3⟩ := h
    refine ⟨(M3, put t a.1.dst u), ⟨a, ha, ga, u, h1, h2, rfl, ?_⟩, b, hb, gb, v, resD_congr b.1.op eb h3, ?_, ?_, ?_⟩
    · exact fpa.symm.trans a4
    · simp only; omega
    · exact put_comm n3
    · simp only; rw [h2, ← fpb]; exact b4
  rcases i3 with ((⟨p1, p2⟩ | ⟨p1, p2⟩) | ⟨⟨⟨p1, p2⟩, p3⟩, p4⟩) | hp
  · rw [p1] at a1' ⊢
    obtain ⟨rfl, hall⟩ := Res_pure p2 a1'
    exact ⟨M, hall M, rfl, b1⟩
  · rw [p1] at b1 ⊢
    obtain ⟨rfl, hall⟩ := Res_pure p2 b1
    exact ⟨M2, a1', a2, hall M2⟩
  · rw [p1] at a1' ⊢
    rw [p2] at b1 ⊢
    have e1 : M1 = M := Res_read p4 b1
    subst e1
    have e2 : M2 = M1 := Res_read p3 a1'
    subst e2
    exact ⟨M2, a1', rfl, b1⟩
  · have hok := hφ _ (by simpa using hp)
    simp only at hok
    rw [← a4, ← b4, fpa] at hok
    obtain ⟨Rb, Wb, Ra, Wa, hfb, hfa, o1, o2, o3⟩ := okPair_inv hok
    obtain ⟨ub, hub, rfl, hb2⟩ := foot hfb b1 b2
    have hfa' : fpD (ub M).length (ev t) a = some (Ra, Wa) := by rw [b2]; exact hfa
    obtain ⟨ua, hua, rfl, ha2⟩ := foot hfa' a1' a2
    have agree : ∀ k ∈ Ra ++ Wa, M[k]? = (ub M)[k]? := by
      intro k hk
      refine (hub.out M fun hw => ?_).symm
      rcases List.mem_append.1 hk with hk | hk
      · exact o1 k hw k hk rfl
      · exact o2 k hw k hk rfl
    refine ⟨ua M, ha2 M b2.symm agree, hua.length M, ?_⟩
    have h5 := hb2 (ua M) (hua.length M) (fun k hk => hua.out M fun hw => by
      rcases List.mem_append.1 hk with hk | hk
      · exact o3 k hk k hw rfl
      · exact o2 k hk k hw rfl)
    rw [hub.comm hua o2] at h5
    exact h5
end Go.Nac

