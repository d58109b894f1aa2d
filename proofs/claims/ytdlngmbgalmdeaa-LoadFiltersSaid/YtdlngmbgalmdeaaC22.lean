import Derived.Test.YtdlngmbgalmdeaaC18
import Derived.Test.YtdlngmbgalmdeaaP14
import Derived.Test.YtdlngmbgalmdeaaKA
set_option linter.unusedSimpArgs false
set_option linter.unusedVariables false
set_option linter.unnecessarySimpa false
set_option maxRecDepth 10000
namespace Go.Nac.L1
attribute [local congr] b1_congr b2_congr Wp_congr wpOps_congr thenK_congr blockK_congr gK_congr cK_congr
section
variable {X : FuncId → List PV → PV → Prop}
end
end Go.Nac.L1
set_option linter.unusedSimpArgs false
set_option linter.unusedVariables false
set_option linter.unnecessarySimpa false
set_option maxRecDepth 10000
namespace Go.Nac.L1
attribute [local congr] b1_congr b2_congr Wp_congr wpOps_congr thenK_congr blockK_congr gK_congr cK_congr
section
variable {X : FuncId → List PV → PV → Prop}
theorem q_ref07_CheckJoined (a b : List Rev) (s : Int) (hl : a.length ≤ 1048576) (hl2 : b.length ≤ 1048576) : Q X 52 [.fs (a.map encRev), .fs (b.map encRev), .I s] (.I (jErr a b s)) := by
  intro M
  (refine ACall_fn (cf := L1.c52) rfl rfl fun hM hA => ?_; simp only [L1.c52]; rw [mk3 _ (by decide)]; simp -implicitDefEqProofs (disch := first | omega | (simp only [go_sem, ↓reduceIte, Nat.reduceLT, Nat.reduceEqDiff, Nat.reduceAdd, Nat.reduceSub, Nat.reduceMul, Nat.reduceLeDiff, reduceCtorEq, Int.reduceLE, Int.reduceLT, Int.reduceNeg, Int.reduceToNat, Nat.reduceSubDiff, Nat.reducePow]; first | done | omega)) only [go_sem, ↓reduceIte, Nat.reduceLT, Nat.reduceEqDiff, Nat.reduceAdd, Nat.reduceSub, Nat.reduceMul, Nat.reduceLeDiff, reduceCtorEq, Int.reduceLE, Int.reduceLT, Int.reduceNeg, Int.reduceToNat, Nat.reduceSubDiff, Nat.reducePow])
  refine callP_q (q_ref07_CheckReversals a hl _) ?_
  simp -implicitDefEqProofs (disch := first | omega | (simp only [go_sem, ↓reduceIte, Nat.reduceLT, Nat.reduceEqDiff, Nat.reduceAdd, Nat.reduceSub, Nat.reduceMul, Nat.reduceLeDiff, reduceCtorEq, Int.reduceLE, Int.reduceLT, Int.reduceNeg, Int.reduceToNat, Nat.reduceSubDiff, Nat.reducePow]; first | done | omega)) only [go_sem, ↓reduceIte, Nat.reduceLT, Nat.reduceEqDiff, Nat.reduceAdd, Nat.reduceSub, Nat.reduceMul, Nat.reduceLeDiff, reduceCtorEq, Int.reduceLE, Int.reduceLT, Int.reduceNeg, Int.reduceToNat, Nat.reduceSubDiff, Nat.reducePow]
  refine callP_q (q_ref07_CheckReversals b hl2 _) ?_
  simp -implicitDefEqProofs (disch := first | omega | (simp only [go_sem, ↓reduceIte, Nat.reduceLT, Nat.reduceEqDiff, Nat.reduceAdd, Nat.reduceSub, Nat.reduceMul, Nat.reduceLeDiff, reduceCtorEq, Int.reduceLE, Int.reduceLT, Int.reduceNeg, Int.reduceToNat, Nat.reduceSubDiff, Nat.reducePow]; first | done | omega)) only [go_sem, ↓reduceIte, Nat.reduceLT, Nat.reduceEqDiff, Nat.reduceAdd, Nat.reduceSub, Nat.reduceMul, Nat.reduceLeDiff, reduceCtorEq, Int.reduceLE, Int.reduceLT, Int.reduceNeg, Int.reduceToNat, Nat.reduceSubDiff, Nat.reducePow]
  refine callP_q (q_ref01_CheckRange _ _ _ _) ?_
  simp -implicitDefEqProofs (disch := first | omega | (simp only [go_sem, ↓reduceIte, Nat.reduceLT, Nat.reduceEqDiff, Nat.reduceAdd, Nat.reduceSub, Nat.reduceMul, Nat.reduceLeDiff, reduceCtorEq, Int.reduceLE, Int.reduceLT, Int.reduceNeg, Int.reduceToNat, Nat.reduceSubDiff, Nat.reducePow]; first | done | omega)) only [go_sem, ↓reduceIte, Nat.reduceLT, Nat.reduceEqDiff, Nat.reduceAdd, Nat.reduceSub, Nat.reduceMul, Nat.reduceLeDiff, reduceCtorEq, Int.reduceLE, Int.reduceLT, Int.reduceNeg, Int.reduceToNat, Nat.reduceSubDiff, Nat.reducePow]
  refine callP_q (q_ref01_First [_, _, _] (by simp) _) ?_
  simp -implicitDefEqProofs (disch := first | omega | (simp only [go_sem, ↓reduceIte, Nat.reduceLT, Nat.reduceEqDiff, Nat.reduceAdd, Nat.reduceSub, Nat.reduceMul, Nat.reduceLeDiff, reduceCtorEq, Int.reduceLE, Int.reduceLT, Int.reduceNeg, Int.reduceToNat, Nat.reduceSubDiff, Nat.reducePow]; first | done | omega)) only [go_sem, ↓reduceIte, Nat.reduceLT, Nat.reduceEqDiff, Nat.reduceAdd, Nat.reduceSub, Nat.reduceMul, Nat.reduceLeDiff, reduceCtorEq, Int.reduceLE, Int.reduceLT, Int.reduceNeg, Int.reduceToNat, Nat.reduceSubDiff, Nat.reducePow]
  refine cK_cases ?_ ?_ <;> intro hc <;> (try simp only [decide_eq_true_eq, decide_eq_false_iff_not, Classical.not_not, Bool.not_eq_true, Bool.not_eq_true', Bool.not_eq_false', Bool.false_or, Bool.or_false, Bool.true_or, Bool.or_true, Bool.false_and, Bool.and_false, Bool.true_and, Bool.and_true] at hc) <;> simp -implicitDefEqProofs (disch := first | omega | (simp only [go_sem, ↓reduceIte, Nat.reduceLT, Nat.reduceEqDiff, Nat.reduceAdd, Nat.reduceSub, Nat.reduceMul, Nat.reduceLeDiff, reduceCtorEq, Int.reduceLE, Int.reduceLT, Int.reduceNeg, Int.reduceToNat, Nat.reduceSubDiff, Nat.reducePow, hc]; first | done | omega)) only [go_sem, ↓reduceIte, Nat.reduceLT, Nat.reduceEqDiff, Nat.reduceAdd, Nat.reduceSub, Nat.reduceMul, Nat.reduceLeDiff, reduceCtorEq, Int.reduceLE, Int.reduceLT, Int.reduceNeg, Int.reduceToNat, Nat.reduceSubDiff, Nat.reducePow, hc]
  · (first | refine post_fin ret_ok hM rfl ?_ ?_ | refine post_fin0 ret_ok hM rfl ?_ ?_ | refine post_fin normal_ok hM rfl ?_ ?_ | refine post_fin0 normal_ok hM rfl ?_ ?_)
    · simp -implicitDefEqProofs (disch := first | omega | (simp only [go_sem, ↓reduceIte, Nat.reduceLT, Nat.reduceEqDiff, Nat.reduceAdd, Nat.reduceSub, Nat.reduceMul, Nat.reduceLeDiff, reduceCtorEq, Int.reduceLE, Int.reduceLT, Int.reduceNeg, Int.reduceToNat, Nat.reduceSubDiff, Nat.reducePow]; first | done | omega)) only [go_sem, ↓reduceIte, Nat.reduceLT, Nat.reduceEqDiff, Nat.reduceAdd, Nat.reduceSub, Nat.reduceMul, Nat.reduceLeDiff, reduceCtorEq, Int.reduceLE, Int.reduceLT, Int.reduceNeg, Int.reduceToNat, Nat.reduceSubDiff, Nat.reducePow]
      simp [jErr, hc]
    · (simp only [go_sem, ↓reduceIte, Nat.reduceLT, Nat.reduceEqDiff, Nat.reduceAdd, Nat.reduceSub, Nat.reduceMul, Nat.reduceLeDiff, reduceCtorEq, Int.reduceLE, Int.reduceLT, Int.reduceNeg, Int.reduceToNat, Nat.reduceSubDiff, Nat.reducePow] <;> first | done | omega)
  · have hz := fst0_three hc
    have hje : jErr a b s = joinErr a b s := by simp [jErr, hc]
    have hs := rng_zero.1 hz.2.2
    have hag := turns_good _ _ _ (chkRevs_zero.1 hz.1).2
    have hbg := turns_good _ _ _ (chkRevs_zero.1 hz.2.1).2
    rw [hje]
    clear hc hje
    rcases (by omega : b.length = 0 ∨ 1 ≤ b.length) with h0b | h0b
    · have f2 : ¬ (0 : Int) < b.length := by omega
      have hn : nearB a b s = false := by rw [List.eq_nil_of_length_eq_zero h0b]; unfold nearB; cases a.getLast? <;> rfl
      have hf : farB b s = false := by rw [List.eq_nil_of_length_eq_zero h0b]; rfl
      have hj : joinErr a b s = 0 := by simp [joinErr, hf, hn]
      rcases (by omega : a.length = 0 ∨ 1 ≤ a.length) with h0 | h0
      · have f1 : ¬ (0 : Int) < a.length := by omega
        simp -implicitDefEqProofs (disch := first | omega | (simp only [go_sem, ↓reduceIte, Nat.reduceLT, Nat.reduceEqDiff, Nat.reduceAdd, Nat.reduceSub, Nat.reduceMul, Nat.reduceLeDiff, reduceCtorEq, Int.reduceLE, Int.reduceLT, Int.reduceNeg, Int.reduceToNat, Nat.reduceSubDiff, Nat.reducePow, f1, f2]; first | done | omega)) only [go_sem, ↓reduceIte, Nat.reduceLT, Nat.reduceEqDiff, Nat.reduceAdd, Nat.reduceSub, Nat.reduceMul, Nat.reduceLeDiff, reduceCtorEq, Int.reduceLE, Int.reduceLT, Int.reduceNeg, Int.reduceToNat, Nat.reduceSubDiff, Nat.reducePow, f1, f2]
        (all_goals (first | refine post_fin ret_ok hM rfl ?_ ?_ | refine post_fin0 ret_ok hM rfl ?_ ?_ | refine post_fin normal_ok hM rfl ?_ ?_ | refine post_fin0 normal_ok hM rfl ?_ ?_); all_goals first | (simp only [go_sem, ↓reduceIte, Nat.reduceLT, Nat.reduceEqDiff, Nat.reduceAdd, Nat.reduceSub, Nat.reduceMul, Nat.reduceLeDiff, reduceCtorEq, Int.reduceLE, Int.reduceLT, Int.reduceNeg, Int.reduceToNat, Nat.reduceSubDiff, Nat.reducePow] <;> first | done | omega) | skip; all_goals (try simp -implicitDefEqProofs (disch := first | omega | (simp only [go_sem, ↓reduceIte, Nat.reduceLT, Nat.reduceEqDiff, Nat.reduceAdd, Nat.reduceSub, Nat.reduceMul, Nat.reduceLeDiff, reduceCtorEq, Int.reduceLE, Int.reduceLT, Int.reduceNeg, Int.reduceToNat, Nat.reduceSubDiff, Nat.reducePow, f1, f2, hj]; first | done | omega)) only [go_sem, ↓reduceIte, Nat.reduceLT, Nat.reduceEqDiff, Nat.reduceAdd, Nat.reduceSub, Nat.reduceMul, Nat.reduceLeDiff, reduceCtorEq, Int.reduceLE, Int.reduceLT, Int.reduceNeg, Int.reduceToNat, Nat.reduceSubDiff, Nat.reducePow, f1, f2, hj]))
      · have f1 : (0 : Int) < a.length := by omega
        simp -implicitDefEqProofs (disch := first | omega | (simp only [go_sem, ↓reduceIte, Nat.reduceLT, Nat.reduceEqDiff, Nat.reduceAdd, Nat.reduceSub, Nat.reduceMul, Nat.reduceLeDiff, reduceCtorEq, Int.reduceLE, Int.reduceLT, Int.reduceNeg, Int.reduceToNat, Nat.reduceSubDiff, Nat.reducePow, f1, f2]; first | done | omega)) only [go_sem, ↓reduceIte, Nat.reduceLT, Nat.reduceEqDiff, Nat.reduceAdd, Nat.reduceSub, Nat.reduceMul, Nat.reduceLeDiff, reduceCtorEq, Int.reduceLE, Int.reduceLT, Int.reduceNeg, Int.reduceToNat, Nat.reduceSubDiff, Nat.reducePow, f1, f2]
        (all_goals (first | refine post_fin ret_ok hM rfl ?_ ?_ | refine post_fin0 ret_ok hM rfl ?_ ?_ | refine post_fin normal_ok hM rfl ?_ ?_ | refine post_fin0 normal_ok hM rfl ?_ ?_); all_goals first | (simp only [go_sem, ↓reduceIte, Nat.reduceLT, Nat.reduceEqDiff, Nat.reduceAdd, Nat.reduceSub, Nat.reduceMul, Nat.reduceLeDiff, reduceCtorEq, Int.reduceLE, Int.reduceLT, Int.reduceNeg, Int.reduceToNat, Nat.reduceSubDiff, Nat.reducePow] <;> first | done | omega) | skip; all_goals (try simp -implicitDefEqProofs (disch := first | omega | (simp only [go_sem, ↓reduceIte, Nat.reduceLT, Nat.reduceEqDiff, Nat.reduceAdd, Nat.reduceSub, Nat.reduceMul, Nat.reduceLeDiff, reduceCtorEq, Int.reduceLE, Int.reduceLT, Int.reduceNeg, Int.reduceToNat, Nat.reduceSubDiff, Nat.reducePow, f1, f2, hj]; first | done | omega)) only [go_sem, ↓reduceIte, Nat.reduceLT, Nat.reduceEqDiff, Nat.reduceAdd, Nat.reduceSub, Nat.reduceMul, Nat.reduceLeDiff, reduceCtorEq, Int.reduceLE, Int.reduceLT, Int.reduceNeg, Int.reduceToNat, Nat.reduceSubDiff, Nat.reducePow, f1, f2, hj]))
    · have f2 : (0 : Int) < b.length := by omega
      have e2 : (b.length : Int) - 1 = ((b.length - 1 : Nat) : Int) := by omega
      obtain ⟨z, g3⟩ : ∃ x, b[b.length - 1]? = some x := ⟨_, List.getElem?_eq_getElem (by omega)⟩
      obtain ⟨q, g2⟩ : ∃ x, b[0]? = some x := ⟨_, List.getElem?_eq_getElem (by omega)⟩
      have hf := farB_last hz.2.1 hs.1 (by rw [List.getLast?_eq_getElem?]; exact g3)
      have hzg := hbg z (List.mem_of_getElem? g3)
      have hqg := hbg q (List.mem_of_getElem? g2)
      have l2 : b.length - 1 < b.length := by omega
      have hb0 : 0 < b.length := h0b
      unfold goodR at hzg hqg
      simp -implicitDefEqProofs (disch := first | omega | (simp only [go_sem, ↓reduceIte, Nat.reduceLT, Nat.reduceEqDiff, Nat.reduceAdd, Nat.reduceSub, Nat.reduceMul, Nat.reduceLeDiff, reduceCtorEq, Int.reduceLE, Int.reduceLT, Int.reduceNeg, Int.reduceToNat, Nat.reduceSubDiff, Nat.reducePow, f2, e2, g2, g3, l2, hb0, encRev_cells]; first | done | omega)) only [go_sem, ↓reduceIte, Nat.reduceLT, Nat.reduceEqDiff, Nat.reduceAdd, Nat.reduceSub, Nat.reduceMul, Nat.reduceLeDiff, reduceCtorEq, Int.reduceLE, Int.reduceLT, Int.reduceNeg, Int.reduceToNat, Nat.reduceSubDiff, Nat.reducePow, f2, e2, g2, g3, l2, hb0, encRev_cells]
      refine cK_cases ?_ ?_ <;> intro hc <;> (try simp only [decide_eq_true_eq, decide_eq_false_iff_not, Classical.not_not, Bool.not_eq_true, Bool.not_eq_true', Bool.not_eq_false', Bool.false_or, Bool.or_false, Bool.true_or, Bool.or_true, Bool.false_and, Bool.and_false, Bool.true_and, Bool.and_true] at hc) <;> simp -implicitDefEqProofs (disch := first | omega | (simp only [go_sem, ↓reduceIte, Nat.reduceLT, Nat.reduceEqDiff, Nat.reduceAdd, Nat.reduceSub, Nat.reduceMul, Nat.reduceLeDiff, reduceCtorEq, Int.reduceLE, Int.reduceLT, Int.reduceNeg, Int.reduceToNat, Nat.reduceSubDiff, Nat.reducePow, f2, e2, g2, g3, l2, hb0, encRev_cells, hc]; first | done | omega)) only [go_sem, ↓reduceIte, Nat.reduceLT, Nat.reduceEqDiff, Nat.reduceAdd, Nat.reduceSub, Nat.reduceMul, Nat.reduceLeDiff, reduceCtorEq, Int.reduceLE, Int.reduceLT, Int.reduceNeg, Int.reduceToNat, Nat.reduceSubDiff, Nat.reducePow, f2, e2, g2, g3, l2, hb0, encRev_cells, hc]
      · have hj : joinErr a b s = 3 := by simp [joinErr, hf, hc]
        (all_goals (first | refine post_fin ret_ok hM rfl ?_ ?_ | refine post_fin0 ret_ok hM rfl ?_ ?_ | refine post_fin normal_ok hM rfl ?_ ?_ | refine post_fin0 normal_ok hM rfl ?_ ?_); all_goals first | (simp only [go_sem, ↓reduceIte, Nat.reduceLT, Nat.reduceEqDiff, Nat.reduceAdd, Nat.reduceSub, Nat.reduceMul, Nat.reduceLeDiff, reduceCtorEq, Int.reduceLE, Int.reduceLT, Int.reduceNeg, Int.reduceToNat, Nat.reduceSubDiff, Nat.reducePow] <;> first | done | omega) | skip; all_goals (try simp -implicitDefEqProofs (disch := first | omega | (simp only [go_sem, ↓reduceIte, Nat.reduceLT, Nat.reduceEqDiff, Nat.reduceAdd, Nat.reduceSub, Nat.reduceMul, Nat.reduceLeDiff, reduceCtorEq, Int.reduceLE, Int.reduceLT, Int.reduceNeg, Int.reduceToNat, Nat.reduceSubDiff, Nat.reducePow, hj]; first | done | omega)) only [go_sem, ↓reduceIte, Nat.reduceLT, Nat.reduceEqDiff, Nat.reduceAdd, Nat.reduceSub, Nat.reduceMul, Nat.reduceLeDiff, reduceCtorEq, Int.reduceLE, Int.reduceLT, Int.reduceNeg, Int.reduceToNat, Nat.reduceSubDiff, Nat.reducePow, hj]))
      · rw [decide_eq_false (by omega)] at hf
        rcases (by omega : a.length = 0 ∨ 1 ≤ a.length) with h0 | h0
        · have f1 : ¬ (0 : Int) < a.length := by omega
          have hn : nearB a b s = false := by rw [List.eq_nil_of_length_eq_zero h0]; rfl
          have hj : joinErr a b s = 0 := by simp [joinErr, hf, hn]
          simp -implicitDefEqProofs (disch := first | omega | (simp only [go_sem, ↓reduceIte, Nat.reduceLT, Nat.reduceEqDiff, Nat.reduceAdd, Nat.reduceSub, Nat.reduceMul, Nat.reduceLeDiff, reduceCtorEq, Int.reduceLE, Int.reduceLT, Int.reduceNeg, Int.reduceToNat, Nat.reduceSubDiff, Nat.reducePow, f1, f2]; first | done | omega)) only [go_sem, ↓reduceIte, Nat.reduceLT, Nat.reduceEqDiff, Nat.reduceAdd, Nat.reduceSub, Nat.reduceMul, Nat.reduceLeDiff, reduceCtorEq, Int.reduceLE, Int.reduceLT, Int.reduceNeg, Int.reduceToNat, Nat.reduceSubDiff, Nat.reducePow, f1, f2]
          (all_goals (first | refine post_fin ret_ok hM rfl ?_ ?_ | refine post_fin0 ret_ok hM rfl ?_ ?_ | refine post_fin normal_ok hM rfl ?_ ?_ | refine post_fin0 normal_ok hM rfl ?_ ?_); all_goals first | (simp only [go_sem, ↓reduceIte, Nat.reduceLT, Nat.reduceEqDiff, Nat.reduceAdd, Nat.reduceSub, Nat.reduceMul, Nat.reduceLeDiff, reduceCtorEq, Int.reduceLE, Int.reduceLT, Int.reduceNeg, Int.reduceToNat, Nat.reduceSubDiff, Nat.reducePow] <;> first | done | omega) | skip; all_goals (try simp -implicitDefEqProofs (disch := first | omega | (simp only [go_sem, ↓reduceIte, Nat.reduceLT, Nat.reduceEqDiff, Nat.reduceAdd, Nat.reduceSub, Nat.reduceMul, Nat.reduceLeDiff, reduceCtorEq, Int.reduceLE, Int.reduceLT, Int.reduceNeg, Int.reduceToNat, Nat.reduceSubDiff, Nat.reducePow, hj]; first | done | omega)) only [go_sem, ↓reduceIte, Nat.reduceLT, Nat.reduceEqDiff, Nat.reduceAdd, Nat.reduceSub, Nat.reduceMul, Nat.reduceLeDiff, reduceCtorEq, Int.reduceLE, Int.reduceLT, Int.reduceNeg, Int.reduceToNat, Nat.reduceSubDiff, Nat.reducePow, hj]))
        · have f1 : (0 : Int) < a.length := by omega
          have e1 : (a.length : Int) - 1 = ((a.length - 1 : Nat) : Int) := by omega
          obtain ⟨p, g1⟩ : ∃ x, a[a.length - 1]? = some x := ⟨_, List.getElem?_eq_getElem (by omega)⟩
          have l1 : a.length - 1 < a.length := by omega
          have hnb : nearB a b s = decide (q.at_ + s ≤ p.at_) := by
            unfold nearB
            rw [List.getLast?_eq_getElem?, g1, List.head?_eq_getElem?, g2]
          clear hc
          simp -implicitDefEqProofs (disch := first | omega | (simp only [go_sem, ↓reduceIte, Nat.reduceLT, Nat.reduceEqDiff, Nat.reduceAdd, Nat.reduceSub, Nat.reduceMul, Nat.reduceLeDiff, reduceCtorEq, Int.reduceLE, Int.reduceLT, Int.reduceNeg, Int.reduceToNat, Nat.reduceSubDiff, Nat.reducePow, f1, f2, e1, g1, g2, l1, hb0, encRev_cells]; first | done | omega)) only [go_sem, ↓reduceIte, Nat.reduceLT, Nat.reduceEqDiff, Nat.reduceAdd, Nat.reduceSub, Nat.reduceMul, Nat.reduceLeDiff, reduceCtorEq, Int.reduceLE, Int.reduceLT, Int.reduceNeg, Int.reduceToNat, Nat.reduceSubDiff, Nat.reducePow, f1, f2, e1, g1, g2, l1, hb0, encRev_cells]
          refine cK_cases ?_ ?_ <;> intro hc <;> (try simp only [decide_eq_true_eq, decide_eq_false_iff_not, Classical.not_not, Bool.not_eq_true, Bool.not_eq_true', Bool.not_eq_false', Bool.false_or, Bool.or_false, Bool.true_or, Bool.or_true, Bool.false_and, Bool.and_false, Bool.true_and, Bool.and_true] at hc) <;> simp -implicitDefEqProofs (disch := first | omega | (simp only [go_sem, ↓reduceIte, Nat.reduceLT, Nat.reduceEqDiff, Nat.reduceAdd, Nat.reduceSub, Nat.reduceMul, Nat.reduceLeDiff, reduceCtorEq, Int.reduceLE, Int.reduceLT, Int.reduceNeg, Int.reduceToNat, Nat.reduceSubDiff, Nat.reducePow, f1, f2, e1, g1, g2, l1, hb0, encRev_cells, hc]; first | done | omega)) only [go_sem, ↓reduceIte, Nat.reduceLT, Nat.reduceEqDiff, Nat.reduceAdd, Nat.reduceSub, Nat.reduceMul, Nat.reduceLeDiff, reduceCtorEq, Int.reduceLE, Int.reduceLT, Int.reduceNeg, Int.reduceToNat, Nat.reduceSubDiff, Nat.reducePow, f1, f2, e1, g1, g2, l1, hb0, encRev_cells, hc]
          · have hj : joinErr a b s = 11 := by simp [joinErr, hf, hnb, hc]
            (all_goals (first | refine post_fin ret_ok hM rfl ?_ ?_ | refine post_fin0 ret_ok hM rfl ?_ ?_ | refine post_fin normal_ok hM rfl ?_ ?_ | refine post_fin0 normal_ok hM rfl ?_ ?_); all_goals first | (simp only [go_sem, ↓reduceIte, Nat.reduceLT, Nat.reduceEqDiff, Nat.reduceAdd, Nat.reduceSub, Nat.reduceMul, Nat.reduceLeDiff, reduceCtorEq, Int.reduceLE, Int.reduceLT, Int.reduceNeg, Int.reduceToNat, Nat.reduceSubDiff, Nat.reducePow] <;> first | done | omega) | skip; all_goals (try simp -implicitDefEqProofs (disch := first | omega | (simp only [go_sem, ↓reduceIte, Nat.reduceLT, Nat.reduceEqDiff, Nat.reduceAdd, Nat.reduceSub, Nat.reduceMul, Nat.reduceLeDiff, reduceCtorEq, Int.reduceLE, Int.reduceLT, Int.reduceNeg, Int.reduceToNat, Nat.reduceSubDiff, Nat.reducePow, hj]; first | done | omega)) only [go_sem, ↓reduceIte, Nat.reduceLT, Nat.reduceEqDiff, Nat.reduceAdd, Nat.reduceSub, Nat.reduceMul, Nat.reduceLeDiff, reduceCtorEq, Int.reduceLE, Int.reduceLT, Int.reduceNeg, Int.reduceToNat, Nat.reduceSubDiff, Nat.reducePow, hj]))
          · have hj : joinErr a b s = 0 := by
              have : ¬ q.at_ + s ≤ p.at_ := by omega
              simp [joinErr, hf, hnb, this]
            (all_goals (first | refine post_fin ret_ok hM rfl ?_ ?_ | refine post_fin0 ret_ok hM rfl ?_ ?_ | refine post_fin normal_ok hM rfl ?_ ?_ | refine post_fin0 normal_ok hM rfl ?_ ?_); all_goals first | (simp only [go_sem, ↓reduceIte, Nat.reduceLT, Nat.reduceEqDiff, Nat.reduceAdd, Nat.reduceSub, Nat.reduceMul, Nat.reduceLeDiff, reduceCtorEq, Int.reduceLE, Int.reduceLT, Int.reduceNeg, Int.reduceToNat, Nat.reduceSubDiff, Nat.reducePow] <;> first | done | omega) | skip; all_goals (try simp -implicitDefEqProofs (disch := first | omega | (simp only [go_sem, ↓reduceIte, Nat.reduceLT, Nat.reduceEqDiff, Nat.reduceAdd, Nat.reduceSub, Nat.reduceMul, Nat.reduceLeDiff, reduceCtorEq, Int.reduceLE, Int.reduceLT, Int.reduceNeg, Int.reduceToNat, Nat.reduceSubDiff, Nat.reducePow, hj]; first | done | omega)) only [go_sem, ↓reduceIte, Nat.reduceLT, Nat.reduceEqDiff, Nat.reduceAdd, Nat.reduceSub, Nat.reduceMul, Nat.reduceLeDiff, reduceCtorEq, Int.reduceLE, Int.reduceLT, Int.reduceNeg, Int.reduceToNat, Nat.reduceSubDiff, Nat.reducePow, hj]))
end
end Go.Nac.L1
set_option linter.unusedSimpArgs false
set_option linter.unusedVariables false
set_option linter.unnecessarySimpa false
set_option maxRecDepth 10000
namespace Go.Nac.L1
attribute [local congr] b1_congr b2_congr Wp_congr wpOps_congr thenK_congr blockK_congr gK_congr cK_congr
section
variable {X : FuncId → List PV → PV → Prop}
theorem q_ref07_Joined (a b : List Rev) (s : Int) (hl : a.length ≤ 400000) (hl2 : b.length ≤ 400000) (hbg : ∀ r ∈ b, goodR r) (hs : 0 ≤ s ∧ s ≤ 40000) : Q X 54 [.fs (a.map encRev), .fs (b.map encRev), .I s] (.fs ((revsOf (a ++ b.map (shR s))).map encRev)) := by
  intro M
  have oka := encRev_ok a
  have hta : (a.map encRev).take a.length = a.map encRev := List.take_of_length_le (by simp)
  (refine ACall_fn (cf := L1.c54) rfl rfl fun hM hA => ?_; simp only [L1.c54]; rw [mk3 _ (by decide)]; simp -implicitDefEqProofs (disch := first | omega | (simp only [go_sem, ↓reduceIte, Nat.reduceLT, Nat.reduceEqDiff, Nat.reduceAdd, Nat.reduceSub, Nat.reduceMul, Nat.reduceLeDiff, reduceCtorEq, Int.reduceLE, Int.reduceLT, Int.reduceNeg, Int.reduceToNat, Nat.reduceSubDiff, Nat.reducePow, oka, hta]; first | done | omega)) only [go_sem, ↓reduceIte, Nat.reduceLT, Nat.reduceEqDiff, Nat.reduceAdd, Nat.reduceSub, Nat.reduceMul, Nat.reduceLeDiff, reduceCtorEq, Int.reduceLE, Int.reduceLT, Int.reduceNeg, Int.reduceToNat, Nat.reduceSubDiff, Nat.reducePow, oka, hta])
  refine loop_mk (α := Nat) 0 (fun k => k ≤ b.length) (fun k => M ++ [.row true 2 (1 + k) ((a ++ (b.take k).map (shR s)).map encRev)])
    (fun k => [(1, .fs (b.map encRev)), (2, .I s), (7, .os M.length (1 + k) 0 (a.length + k)), (8, .I k)]) (fun k => b.length - k) (Nat.zero_le _) (by simp) (by simp) ?_
  intro k hk
  by_cases hlt : k < b.length
  · obtain ⟨x, h1⟩ : ∃ x, b[k]? = some x := ⟨_, List.getElem?_eq_getElem hlt⟩
    have hx := hbg x (List.mem_of_getElem? h1)
    unfold goodR at hx
    have hk2 : a.length + k = ((a ++ (b.take k).map (shR s)).map encRev).length := by simp; omega
    simp -implicitDefEqProofs (disch := first | omega | (simp only [go_sem, ↓reduceIte, Nat.reduceLT, Nat.reduceEqDiff, Nat.reduceAdd, Nat.reduceSub, Nat.reduceMul, Nat.reduceLeDiff, reduceCtorEq, Int.reduceLE, Int.reduceLT, Int.reduceNeg, Int.reduceToNat, Nat.reduceSubDiff, Nat.reducePow, hlt, h1, encRev_cells]; first | done | omega)) only [go_sem, ↓reduceIte, Nat.reduceLT, Nat.reduceEqDiff, Nat.reduceAdd, Nat.reduceSub, Nat.reduceMul, Nat.reduceLeDiff, reduceCtorEq, Int.reduceLE, Int.reduceLT, Int.reduceNeg, Int.reduceToNat, Nat.reduceSubDiff, Nat.reducePow, hlt, h1, encRev_cells]
    exact again' (k + 1) (by omega) (by omega) (by rw [take_snoc h1]; simp [encRev, shR]) rfl
  · have : k = b.length := by omega
    subst this
    simp -implicitDefEqProofs (disch := first | omega | (simp only [go_sem, ↓reduceIte, Nat.reduceLT, Nat.reduceEqDiff, Nat.reduceAdd, Nat.reduceSub, Nat.reduceMul, Nat.reduceLeDiff, reduceCtorEq, Int.reduceLE, Int.reduceLT, Int.reduceNeg, Int.reduceToNat, Nat.reduceSubDiff, Nat.reducePow, hlt]; first | done | omega)) only [go_sem, ↓reduceIte, Nat.reduceLT, Nat.reduceEqDiff, Nat.reduceAdd, Nat.reduceSub, Nat.reduceMul, Nat.reduceLeDiff, reduceCtorEq, Int.reduceLE, Int.reduceLT, Int.reduceNeg, Int.reduceToNat, Nat.reduceSubDiff, Nat.reducePow, hlt]
    rw [List.take_length]
    refine callP_q (q_ref07_Turning _ (by simp; omega) _) ?_
    rw [turning_eq]
    simp -implicitDefEqProofs (disch := first | omega | (simp only [go_sem, ↓reduceIte, Nat.reduceLT, Nat.reduceEqDiff, Nat.reduceAdd, Nat.reduceSub, Nat.reduceMul, Nat.reduceLeDiff, reduceCtorEq, Int.reduceLE, Int.reduceLT, Int.reduceNeg, Int.reduceToNat, Nat.reduceSubDiff, Nat.reducePow]; first | done | omega)) only [go_sem, ↓reduceIte, Nat.reduceLT, Nat.reduceEqDiff, Nat.reduceAdd, Nat.reduceSub, Nat.reduceMul, Nat.reduceLeDiff, reduceCtorEq, Int.reduceLE, Int.reduceLT, Int.reduceNeg, Int.reduceToNat, Nat.reduceSubDiff, Nat.reducePow]
    (first | refine post_fin ret_ok hM rfl ?_ ?_ | refine post_fin0 ret_ok hM rfl ?_ ?_ | refine post_fin normal_ok hM rfl ?_ ?_ | refine post_fin0 normal_ok hM rfl ?_ ?_)
    · simp -implicitDefEqProofs (disch := first | omega | (simp only [go_sem, ↓reduceIte, Nat.reduceLT, Nat.reduceEqDiff, Nat.reduceAdd, Nat.reduceSub, Nat.reduceMul, Nat.reduceLeDiff, reduceCtorEq, Int.reduceLE, Int.reduceLT, Int.reduceNeg, Int.reduceToNat, Nat.reduceSubDiff, Nat.reducePow]; first | done | omega)) only [go_sem, ↓reduceIte, Nat.reduceLT, Nat.reduceEqDiff, Nat.reduceAdd, Nat.reduceSub, Nat.reduceMul, Nat.reduceLeDiff, reduceCtorEq, Int.reduceLE, Int.reduceLT, Int.reduceNeg, Int.reduceToNat, Nat.reduceSubDiff, Nat.reducePow]
    · (simp only [go_sem, ↓reduceIte, Nat.reduceLT, Nat.reduceEqDiff, Nat.reduceAdd, Nat.reduceSub, Nat.reduceMul, Nat.reduceLeDiff, reduceCtorEq, Int.reduceLE, Int.reduceLT, Int.reduceNeg, Int.reduceToNat, Nat.reduceSubDiff, Nat.reducePow, encRev_low] <;> first | done | omega)
theorem q_ref07_Closed (l : List Rev) (hl : l.length ≤ 400000) (hv : chkRevs l = 0) : Q X 55 [.fs (l.map encRev)] (.tup [.fs ((closeRes l).map encCyc), .I (closeErr l)]) := by
  intro M
  (refine ACall_fn (cf := L1.c55) rfl rfl fun hM hA => ?_; simp only [L1.c55]; rw [mk1 _ (by decide)]; simp -implicitDefEqProofs (disch := first | omega | (simp only [go_sem, ↓reduceIte, Nat.reduceLT, Nat.reduceEqDiff, Nat.reduceAdd, Nat.reduceSub, Nat.reduceMul, Nat.reduceLeDiff, reduceCtorEq, Int.reduceLE, Int.reduceLT, Int.reduceNeg, Int.reduceToNat, Nat.reduceSubDiff, Nat.reducePow]; first | done | omega)) only [go_sem, ↓reduceIte, Nat.reduceLT, Nat.reduceEqDiff, Nat.reduceAdd, Nat.reduceSub, Nat.reduceMul, Nat.reduceLeDiff, reduceCtorEq, Int.reduceLE, Int.reduceLT, Int.reduceNeg, Int.reduceToNat, Nat.reduceSubDiff, Nat.reducePow])
  by_cases h0 : l = []
  · subst h0
    simp -implicitDefEqProofs (disch := first | omega | (simp only [go_sem, ↓reduceIte, Nat.reduceLT, Nat.reduceEqDiff, Nat.reduceAdd, Nat.reduceSub, Nat.reduceMul, Nat.reduceLeDiff, reduceCtorEq, Int.reduceLE, Int.reduceLT, Int.reduceNeg, Int.reduceToNat, Nat.reduceSubDiff, Nat.reducePow]; first | done | omega)) only [go_sem, ↓reduceIte, Nat.reduceLT, Nat.reduceEqDiff, Nat.reduceAdd, Nat.reduceSub, Nat.reduceMul, Nat.reduceLeDiff, reduceCtorEq, Int.reduceLE, Int.reduceLT, Int.reduceNeg, Int.reduceToNat, Nat.reduceSubDiff, Nat.reducePow]
    (first | refine post_fin ret_ok hM rfl ?_ ?_ | refine post_fin0 ret_ok hM rfl ?_ ?_ | refine post_fin normal_ok hM rfl ?_ ?_ | refine post_fin0 normal_ok hM rfl ?_ ?_)
    · simp -implicitDefEqProofs (disch := first | omega | (simp only [go_sem, ↓reduceIte, Nat.reduceLT, Nat.reduceEqDiff, Nat.reduceAdd, Nat.reduceSub, Nat.reduceMul, Nat.reduceLeDiff, reduceCtorEq, Int.reduceLE, Int.reduceLT, Int.reduceNeg, Int.reduceToNat, Nat.reduceSubDiff, Nat.reducePow]; first | done | omega)) only [go_sem, ↓reduceIte, Nat.reduceLT, Nat.reduceEqDiff, Nat.reduceAdd, Nat.reduceSub, Nat.reduceMul, Nat.reduceLeDiff, reduceCtorEq, Int.reduceLE, Int.reduceLT, Int.reduceNeg, Int.reduceToNat, Nat.reduceSubDiff, Nat.reducePow]
      simp [closeRes, closeErr, hv]
    · (simp only [go_sem, ↓reduceIte, Nat.reduceLT, Nat.reduceEqDiff, Nat.reduceAdd, Nat.reduceSub, Nat.reduceMul, Nat.reduceLeDiff, reduceCtorEq, Int.reduceLE, Int.reduceLT, Int.reduceNeg, Int.reduceToNat, Nat.reduceSubDiff, Nat.reducePow, encCyc_low] <;> first | done | omega)
  · have hlen : 1 ≤ l.length := by cases l <;> simp_all
    have f0 : ¬ (l.length : Int) = 0 := by omega
    have e1 : (l.length : Int) - 1 = ((l.length - 1 : Nat) : Int) := by omega
    obtain ⟨p, g1⟩ : ∃ x, l[l.length - 1]? = some x := ⟨_, List.getElem?_eq_getElem (by omega)⟩
    obtain ⟨q, g2⟩ : ∃ x, l[0]? = some x := ⟨_, List.getElem?_eq_getElem (by omega)⟩
    have hz : l.getLast? = some p := by rw [List.getLast?_eq_getElem?]; exact g1
    have hh : l.head? = some q := by rw [List.head?_eq_getElem?]; exact g2
    have hcs : closeShift l = p.at_ - q.at_ + 1 := by unfold closeShift; rw [hz, hh]
    have hch := chkRevs_zero.1 hv
    have hpg := turns_good _ _ _ hch.2 p (List.mem_of_getElem? g1)
    have hqg := turns_good _ _ _ hch.2 q (List.mem_of_getElem? g2)
    have hmon := at_last _ _ _ hch.2 p hz q (List.mem_of_getElem? g2)
    have hall := turns_good _ _ _ hch.2
    unfold goodR at hpg hqg
    have l1 : l.length - 1 < l.length := by omega
    have hs : 0 ≤ closeShift l := by omega
    have hf := farB_last hv hs hz
    have hn : nearB l l (closeShift l) = false := by
      unfold nearB; rw [hz, hh]; simp; omega
    simp -implicitDefEqProofs (disch := first | omega | (simp only [go_sem, ↓reduceIte, Nat.reduceLT, Nat.reduceEqDiff, Nat.reduceAdd, Nat.reduceSub, Nat.reduceMul, Nat.reduceLeDiff, reduceCtorEq, Int.reduceLE, Int.reduceLT, Int.reduceNeg, Int.reduceToNat, Nat.reduceSubDiff, Nat.reducePow, f0, e1, g1, g2, l1, hlen, encRev_cells]; first | done | omega)) only [go_sem, ↓reduceIte, Nat.reduceLT, Nat.reduceEqDiff, Nat.reduceAdd, Nat.reduceSub, Nat.reduceMul, Nat.reduceLeDiff, reduceCtorEq, Int.reduceLE, Int.reduceLT, Int.reduceNeg, Int.reduceToNat, Nat.reduceSubDiff, Nat.reducePow, f0, e1, g1, g2, l1, hlen, encRev_cells]
    rw [← hcs]
    refine cK_cases ?_ ?_ <;> intro hc <;> (try simp only [decide_eq_true_eq, decide_eq_false_iff_not, Classical.not_not, Bool.not_eq_true, Bool.not_eq_true', Bool.not_eq_false', Bool.false_or, Bool.or_false, Bool.true_or, Bool.or_true, Bool.false_and, Bool.and_false, Bool.true_and, Bool.and_true] at hc) <;> simp -implicitDefEqProofs (disch := first | omega | (simp only [go_sem, ↓reduceIte, Nat.reduceLT, Nat.reduceEqDiff, Nat.reduceAdd, Nat.reduceSub, Nat.reduceMul, Nat.reduceLeDiff, reduceCtorEq, Int.reduceLE, Int.reduceLT, Int.reduceNeg, Int.reduceToNat, Nat.reduceSubDiff, Nat.reducePow, hc]; first | done | omega)) only [go_sem, ↓reduceIte, Nat.reduceLT, Nat.reduceEqDiff, Nat.reduceAdd, Nat.reduceSub, Nat.reduceMul, Nat.reduceLeDiff, reduceCtorEq, Int.reduceLE, Int.reduceLT, Int.reduceNeg, Int.reduceToNat, Nat.reduceSubDiff, Nat.reducePow, hc]
    · have hj : joinErr l l (closeShift l) = 3 := by simp [joinErr, hf, hc]
      (first | refine post_fin ret_ok hM rfl ?_ ?_ | refine post_fin0 ret_ok hM rfl ?_ ?_ | refine post_fin normal_ok hM rfl ?_ ?_ | refine post_fin0 normal_ok hM rfl ?_ ?_)
      · simp -implicitDefEqProofs (disch := first | omega | (simp only [go_sem, ↓reduceIte, Nat.reduceLT, Nat.reduceEqDiff, Nat.reduceAdd, Nat.reduceSub, Nat.reduceMul, Nat.reduceLeDiff, reduceCtorEq, Int.reduceLE, Int.reduceLT, Int.reduceNeg, Int.reduceToNat, Nat.reduceSubDiff, Nat.reducePow]; first | done | omega)) only [go_sem, ↓reduceIte, Nat.reduceLT, Nat.reduceEqDiff, Nat.reduceAdd, Nat.reduceSub, Nat.reduceMul, Nat.reduceLeDiff, reduceCtorEq, Int.reduceLE, Int.reduceLT, Int.reduceNeg, Int.reduceToNat, Nat.reduceSubDiff, Nat.reducePow]
        simp [closeRes, closeErr, hv, h0, hj]
      · (simp only [go_sem, ↓reduceIte, Nat.reduceLT, Nat.reduceEqDiff, Nat.reduceAdd, Nat.reduceSub, Nat.reduceMul, Nat.reduceLeDiff, reduceCtorEq, Int.reduceLE, Int.reduceLT, Int.reduceNeg, Int.reduceToNat, Nat.reduceSubDiff, Nat.reducePow, encCyc_low] <;> first | done | omega)
    · rw [decide_eq_false (by omega)] at hf
      have hj : joinErr l l (closeShift l) = 0 := by simp [joinErr, hf, hn]
      have hjl : joinRes l l (closeShift l) = revsOf (l ++ l.map (shR (closeShift l))) := by simp [joinRes, hj]
      have hsm : ∀ r ∈ revsOf (l ++ l.map (shR (closeShift l))), smallR r := by
        intro r hr
        rcases List.mem_append.1 (revs_mem _ r hr) with h | h
        · exact (hall r h).2
        · obtain ⟨y, hy, rfl⟩ := List.mem_map.1 h
          exact (hall y hy).2
      have hln : (revsOf (l ++ l.map (shR (closeShift l)))).length ≤ 1000000 := Nat.le_trans (revs_len _) (by simp; omega)
      refine callP_q (q_ref07_Joined l l _ (by omega) (by omega) hall (by omega) _) ?_
      simp -implicitDefEqProofs (disch := first | omega | (simp only [go_sem, ↓reduceIte, Nat.reduceLT, Nat.reduceEqDiff, Nat.reduceAdd, Nat.reduceSub, Nat.reduceMul, Nat.reduceLeDiff, reduceCtorEq, Int.reduceLE, Int.reduceLT, Int.reduceNeg, Int.reduceToNat, Nat.reduceSubDiff, Nat.reducePow]; first | done | omega)) only [go_sem, ↓reduceIte, Nat.reduceLT, Nat.reduceEqDiff, Nat.reduceAdd, Nat.reduceSub, Nat.reduceMul, Nat.reduceLeDiff, reduceCtorEq, Int.reduceLE, Int.reduceLT, Int.reduceNeg, Int.reduceToNat, Nat.reduceSubDiff, Nat.reducePow]
      refine callP_q (q_ref07_Count _ hln hsm _) ?_
      simp -implicitDefEqProofs (disch := first | omega | (simp only [go_sem, ↓reduceIte, Nat.reduceLT, Nat.reduceEqDiff, Nat.reduceAdd, Nat.reduceSub, Nat.reduceMul, Nat.reduceLeDiff, reduceCtorEq, Int.reduceLE, Int.reduceLT, Int.reduceNeg, Int.reduceToNat, Nat.reduceSubDiff, Nat.reducePow]; first | done | omega)) only [go_sem, ↓reduceIte, Nat.reduceLT, Nat.reduceEqDiff, Nat.reduceAdd, Nat.reduceSub, Nat.reduceMul, Nat.reduceLeDiff, reduceCtorEq, Int.reduceLE, Int.reduceLT, Int.reduceNeg, Int.reduceToNat, Nat.reduceSubDiff, Nat.reducePow]
      (first | refine post_fin ret_ok hM rfl ?_ ?_ | refine post_fin0 ret_ok hM rfl ?_ ?_ | refine post_fin normal_ok hM rfl ?_ ?_ | refine post_fin0 normal_ok hM rfl ?_ ?_)
      · simp -implicitDefEqProofs (disch := first | omega | (simp only [go_sem, ↓reduceIte, Nat.reduceLT, Nat.reduceEqDiff, Nat.reduceAdd, Nat.reduceSub, Nat.reduceMul, Nat.reduceLeDiff, reduceCtorEq, Int.reduceLE, Int.reduceLT, Int.reduceNeg, Int.reduceToNat, Nat.reduceSubDiff, Nat.reducePow]; first | done | omega)) only [go_sem, ↓reduceIte, Nat.reduceLT, Nat.reduceEqDiff, Nat.reduceAdd, Nat.reduceSub, Nat.reduceMul, Nat.reduceLeDiff, reduceCtorEq, Int.reduceLE, Int.reduceLT, Int.reduceNeg, Int.reduceToNat, Nat.reduceSubDiff, Nat.reducePow]
        simp [closeRes, closeErr, hv, h0, hj, hjl]
      · (simp only [go_sem, ↓reduceIte, Nat.reduceLT, Nat.reduceEqDiff, Nat.reduceAdd, Nat.reduceSub, Nat.reduceMul, Nat.reduceLeDiff, reduceCtorEq, Int.reduceLE, Int.reduceLT, Int.reduceNeg, Int.reduceToNat, Nat.reduceSubDiff, Nat.reducePow, encCyc_low] <;> first | done | omega)
end
end Go.Nac.L1
set_option linter.unusedSimpArgs false
set_option linter.unusedVariables false
set_option linter.unnecessarySimpa false
set_option maxRecDepth 10000
namespace Go.Nac.L1
attribute [local congr] b1_congr b2_congr Wp_congr wpOps_congr thenK_congr blockK_congr gK_congr cK_congr
section
variable {X : FuncId → List PV → PV → Prop}
theorem inSmall_snoc {least : Int} {cs : List Cyc} {k : Nat} {c : Cyc} (x : Int) (h : cs[k]? = some c) : inSmall least (cs.take (k + 1)) x = (inSmall least (cs.take k) x || (decide (c.hi - c.lo < least) && (decide (c.from_ = x) || decide (c.to_ = x)))) := by
  obtain ⟨h1, h2⟩ := List.getElem?_eq_some_iff.1 h
  unfold inSmall
  rw [List.take_succ_eq_append_getElem h1, h2, List.any_append]; simp
theorem q_ref07_Filter (l : List Rev) (least : Int) (hl : l.length ≤ 1000000) (hs : ∀ r ∈ l, smallR r) : Q X 53 [.fs (l.map encRev), .I least] (.fs ((filt l least).map encRev)) := by
  intro M
  have hcl := count_len l
  have hsc := count_small hs
  (refine ACall_fn (cf := L1.c53) rfl rfl fun hM hA => ?_; simp only [L1.c53]; rw [mk2 _ (by decide)]; simp -implicitDefEqProofs (disch := first | omega | (simp only [go_sem, ↓reduceIte, Nat.reduceLT, Nat.reduceEqDiff, Nat.reduceAdd, Nat.reduceSub, Nat.reduceMul, Nat.reduceLeDiff, reduceCtorEq, Int.reduceLE, Int.reduceLT, Int.reduceNeg, Int.reduceToNat, Nat.reduceSubDiff, Nat.reducePow]; first | done | omega)) only [go_sem, ↓reduceIte, Nat.reduceLT, Nat.reduceEqDiff, Nat.reduceAdd, Nat.reduceSub, Nat.reduceMul, Nat.reduceLeDiff, reduceCtorEq, Int.reduceLE, Int.reduceLT, Int.reduceNeg, Int.reduceToNat, Nat.reduceSubDiff, Nat.reducePow])
  refine callP_q (q_ref07_Count l hl hs _) ?_
  simp -implicitDefEqProofs (disch := first | omega | (simp only [go_sem, ↓reduceIte, Nat.reduceLT, Nat.reduceEqDiff, Nat.reduceAdd, Nat.reduceSub, Nat.reduceMul, Nat.reduceLeDiff, reduceCtorEq, Int.reduceLE, Int.reduceLT, Int.reduceNeg, Int.reduceToNat, Nat.reduceSubDiff, Nat.reducePow]; first | done | omega)) only [go_sem, ↓reduceIte, Nat.reduceLT, Nat.reduceEqDiff, Nat.reduceAdd, Nat.reduceSub, Nat.reduceMul, Nat.reduceLeDiff, reduceCtorEq, Int.reduceLE, Int.reduceLT, Int.reduceNeg, Int.reduceToNat, Nat.reduceSubDiff, Nat.reducePow]
  unfold filt
  generalize (countOf l).1 = cs at hcl hsc ⊢
  have hfl : ∀ k, ((l.take k).filter fun r => !inSmall least cs r.at_).length ≤ k := fun k => Nat.le_trans (List.length_filter_le _ _) (List.length_take_le _ _)
  refine loop_mk (α := Nat) 0 (fun k => k ≤ l.length) (fun k => M ++ [.row true 2 ((l.take k).filter fun r => !inSmall least cs r.at_).length (((l.take k).filter fun r => !inSmall least cs r.at_).map encRev)])
    (fun k => [(0, .fs (l.map encRev)), (1, .I least), (5, .fs (cs.map encCyc)), (7, .os M.length ((l.take k).filter fun r => !inSmall least cs r.at_).length 0 ((l.take k).filter fun r => !inSmall least cs r.at_).length), (8, .I k)]) (fun k => l.length - k) (Nat.zero_le _) rfl rfl ?_
  intro k hk
  by_cases hlt : k < l.length
  · obtain ⟨x, h1⟩ : ∃ x, l[k]? = some x := ⟨_, List.getElem?_eq_getElem hlt⟩
    have hsn := filter_snoc (fun r : Rev => !inSmall least cs r.at_) h1
    have hb := hfl k
    generalize ((l.take k).filter fun r => !inSmall least cs r.at_) = o at hsn hb ⊢
    simp -implicitDefEqProofs (disch := first | omega | (simp only [go_sem, ↓reduceIte, Nat.reduceLT, Nat.reduceEqDiff, Nat.reduceAdd, Nat.reduceSub, Nat.reduceMul, Nat.reduceLeDiff, reduceCtorEq, Int.reduceLE, Int.reduceLT, Int.reduceNeg, Int.reduceToNat, Nat.reduceSubDiff, Nat.reducePow, hlt, h1]; first | done | omega)) only [go_sem, ↓reduceIte, Nat.reduceLT, Nat.reduceEqDiff, Nat.reduceAdd, Nat.reduceSub, Nat.reduceMul, Nat.reduceLeDiff, reduceCtorEq, Int.reduceLE, Int.reduceLT, Int.reduceNeg, Int.reduceToNat, Nat.reduceSubDiff, Nat.reducePow, hlt, h1]
    refine loop_mk (α := Nat) 0 (fun j => j ≤ cs.length) (fun j => M ++ [.row true 2 o.length (o.map encRev)])
      (fun j => [(0, .fs (l.map encRev)), (1, .I least), (5, .fs (cs.map encCyc)), (7, .os M.length o.length 0 o.length), (8, .I k), (9, .B (!inSmall least (cs.take j) x.at_)), (10, .I j)]) (fun j => cs.length - j) (Nat.zero_le _) rfl rfl ?_
    intro j hj
    by_cases hlt2 : j < cs.length
    · obtain ⟨c, h2⟩ : ∃ c, cs[j]? = some c := ⟨_, List.getElem?_eq_getElem hlt2⟩
      have hcs := inSmall_snoc (least := least) x.at_ h2
      have hcb := hsc c (List.mem_of_getElem? h2)
      unfold smallC at hcb
      by_cases hA : c.from_ = x.at_
      · by_cases hB : c.hi - c.lo < least
        · simp -implicitDefEqProofs (disch := first | omega | (simp only [go_sem, ↓reduceIte, Nat.reduceLT, Nat.reduceEqDiff, Nat.reduceAdd, Nat.reduceSub, Nat.reduceMul, Nat.reduceLeDiff, reduceCtorEq, Int.reduceLE, Int.reduceLT, Int.reduceNeg, Int.reduceToNat, Nat.reduceSubDiff, Nat.reducePow, hlt, hlt2, h1, h2, hA, hB, encRev_cells, encCyc_cells]; first | done | omega)) only [go_sem, ↓reduceIte, Nat.reduceLT, Nat.reduceEqDiff, Nat.reduceAdd, Nat.reduceSub, Nat.reduceMul, Nat.reduceLeDiff, reduceCtorEq, Int.reduceLE, Int.reduceLT, Int.reduceNeg, Int.reduceToNat, Nat.reduceSubDiff, Nat.reducePow, hlt, hlt2, h1, h2, hA, hB, encRev_cells, encCyc_cells]
          exact again' (j + 1) (by omega) (by omega) rfl (by rw [hcs]; simp [hA, hB])
        · simp -implicitDefEqProofs (disch := first | omega | (simp only [go_sem, ↓reduceIte, Nat.reduceLT, Nat.reduceEqDiff, Nat.reduceAdd, Nat.reduceSub, Nat.reduceMul, Nat.reduceLeDiff, reduceCtorEq, Int.reduceLE, Int.reduceLT, Int.reduceNeg, Int.reduceToNat, Nat.reduceSubDiff, Nat.reducePow, hlt, hlt2, h1, h2, hA, hB, encRev_cells, encCyc_cells]; first | done | omega)) only [go_sem, ↓reduceIte, Nat.reduceLT, Nat.reduceEqDiff, Nat.reduceAdd, Nat.reduceSub, Nat.reduceMul, Nat.reduceLeDiff, reduceCtorEq, Int.reduceLE, Int.reduceLT, Int.reduceNeg, Int.reduceToNat, Nat.reduceSubDiff, Nat.reducePow, hlt, hlt2, h1, h2, hA, hB, encRev_cells, encCyc_cells]
          exact again' (j + 1) (by omega) (by omega) rfl (by rw [hcs]; simp [hB])
      · by_cases hA2 : c.to_ = x.at_
        · by_cases hB : c.hi - c.lo < least
          · simp -implicitDefEqProofs (disch := first | omega | (simp only [go_sem, ↓reduceIte, Nat.reduceLT, Nat.reduceEqDiff, Nat.reduceAdd, Nat.reduceSub, Nat.reduceMul, Nat.reduceLeDiff, reduceCtorEq, Int.reduceLE, Int.reduceLT, Int.reduceNeg, Int.reduceToNat, Nat.reduceSubDiff, Nat.reducePow, hlt, hlt2, h1, h2, hA, hA2, hB, encRev_cells, encCyc_cells]; first | done | omega)) only [go_sem, ↓reduceIte, Nat.reduceLT, Nat.reduceEqDiff, Nat.reduceAdd, Nat.reduceSub, Nat.reduceMul, Nat.reduceLeDiff, reduceCtorEq, Int.reduceLE, Int.reduceLT, Int.reduceNeg, Int.reduceToNat, Nat.reduceSubDiff, Nat.reducePow, hlt, hlt2, h1, h2, hA, hA2, hB, encRev_cells, encCyc_cells]
            exact again' (j + 1) (by omega) (by omega) rfl (by rw [hcs]; simp [hA2, hB])
          · simp -implicitDefEqProofs (disch := first | omega | (simp only [go_sem, ↓reduceIte, Nat.reduceLT, Nat.reduceEqDiff, Nat.reduceAdd, Nat.reduceSub, Nat.reduceMul, Nat.reduceLeDiff, reduceCtorEq, Int.reduceLE, Int.reduceLT, Int.reduceNeg, Int.reduceToNat, Nat.reduceSubDiff, Nat.reducePow, hlt, hlt2, h1, h2, hA, hA2, hB, encRev_cells, encCyc_cells]; first | done | omega)) only [go_sem, ↓reduceIte, Nat.reduceLT, Nat.reduceEqDiff, Nat.reduceAdd, Nat.reduceSub, Nat.reduceMul, Nat.reduceLeDiff, reduceCtorEq, Int.reduceLE, Int.reduceLT, Int.reduceNeg, Int.reduceToNat, Nat.reduceSubDiff, Nat.reducePow, hlt, hlt2, h1, h2, hA, hA2, hB, encRev_cells, encCyc_cells]
            exact again' (j + 1) (by omega) (by omega) rfl (by rw [hcs]; simp [hB])
        · simp -implicitDefEqProofs (disch := first | omega | (simp only [go_sem, ↓reduceIte, Nat.reduceLT, Nat.reduceEqDiff, Nat.reduceAdd, Nat.reduceSub, Nat.reduceMul, Nat.reduceLeDiff, reduceCtorEq, Int.reduceLE, Int.reduceLT, Int.reduceNeg, Int.reduceToNat, Nat.reduceSubDiff, Nat.reducePow, hlt, hlt2, h1, h2, hA, hA2, encRev_cells, encCyc_cells]; first | done | omega)) only [go_sem, ↓reduceIte, Nat.reduceLT, Nat.reduceEqDiff, Nat.reduceAdd, Nat.reduceSub, Nat.reduceMul, Nat.reduceLeDiff, reduceCtorEq, Int.reduceLE, Int.reduceLT, Int.reduceNeg, Int.reduceToNat, Nat.reduceSubDiff, Nat.reducePow, hlt, hlt2, h1, h2, hA, hA2, encRev_cells, encCyc_cells]
          exact again' (j + 1) (by omega) (by omega) rfl (by rw [hcs]; simp [hA, hA2])
    · have : j = cs.length := by omega
      subst this
      simp -implicitDefEqProofs (disch := first | omega | (simp only [go_sem, ↓reduceIte, Nat.reduceLT, Nat.reduceEqDiff, Nat.reduceAdd, Nat.reduceSub, Nat.reduceMul, Nat.reduceLeDiff, reduceCtorEq, Int.reduceLE, Int.reduceLT, Int.reduceNeg, Int.reduceToNat, Nat.reduceSubDiff, Nat.reducePow, hlt2]; first | done | omega)) only [go_sem, ↓reduceIte, Nat.reduceLT, Nat.reduceEqDiff, Nat.reduceAdd, Nat.reduceSub, Nat.reduceMul, Nat.reduceLeDiff, reduceCtorEq, Int.reduceLE, Int.reduceLT, Int.reduceNeg, Int.reduceToNat, Nat.reduceSubDiff, Nat.reducePow, hlt2]
      rw [List.take_length]
      by_cases hin : inSmall least cs x.at_ = true
      · rw [hin] at hsn ⊢
        simp -implicitDefEqProofs (disch := first | omega | (simp only [go_sem, ↓reduceIte, Nat.reduceLT, Nat.reduceEqDiff, Nat.reduceAdd, Nat.reduceSub, Nat.reduceMul, Nat.reduceLeDiff, reduceCtorEq, Int.reduceLE, Int.reduceLT, Int.reduceNeg, Int.reduceToNat, Nat.reduceSubDiff, Nat.reducePow, hlt2]; first | done | omega)) only [go_sem, ↓reduceIte, Nat.reduceLT, Nat.reduceEqDiff, Nat.reduceAdd, Nat.reduceSub, Nat.reduceMul, Nat.reduceLeDiff, reduceCtorEq, Int.reduceLE, Int.reduceLT, Int.reduceNeg, Int.reduceToNat, Nat.reduceSubDiff, Nat.reducePow, hlt2]
        exact again' (k + 1) (by omega) (by omega) (by rw [hsn]; simp) (by rw [hsn]; simp)
      · rw [Bool.not_eq_true] at hin
        rw [hin] at hsn ⊢
        simp -implicitDefEqProofs (disch := first | omega | (simp only [go_sem, ↓reduceIte, Nat.reduceLT, Nat.reduceEqDiff, Nat.reduceAdd, Nat.reduceSub, Nat.reduceMul, Nat.reduceLeDiff, reduceCtorEq, Int.reduceLE, Int.reduceLT, Int.reduceNeg, Int.reduceToNat, Nat.reduceSubDiff, Nat.reducePow, hlt2, hlt, h1, encRev_cells]; first | done | omega)) only [go_sem, ↓reduceIte, Nat.reduceLT, Nat.reduceEqDiff, Nat.reduceAdd, Nat.reduceSub, Nat.reduceMul, Nat.reduceLeDiff, reduceCtorEq, Int.reduceLE, Int.reduceLT, Int.reduceNeg, Int.reduceToNat, Nat.reduceSubDiff, Nat.reducePow, hlt2, hlt, h1, encRev_cells]
        exact again' (k + 1) (by omega) (by omega) (by rw [hsn]; simp [encRev]) (by rw [hsn]; simp)
  · simp -implicitDefEqProofs (disch := first | omega | (simp only [go_sem, ↓reduceIte, Nat.reduceLT, Nat.reduceEqDiff, Nat.reduceAdd, Nat.reduceSub, Nat.reduceMul, Nat.reduceLeDiff, reduceCtorEq, Int.reduceLE, Int.reduceLT, Int.reduceNeg, Int.reduceToNat, Nat.reduceSubDiff, Nat.reducePow, hlt]; first | done | omega)) only [go_sem, ↓reduceIte, Nat.reduceLT, Nat.reduceEqDiff, Nat.reduceAdd, Nat.reduceSub, Nat.reduceMul, Nat.reduceLeDiff, reduceCtorEq, Int.reduceLE, Int.reduceLT, Int.reduceNeg, Int.reduceToNat, Nat.reduceSubDiff, Nat.reducePow, hlt]
    rw [List.take_of_length_le (by omega)]
    (first | refine post_fin ret_ok hM rfl ?_ ?_ | refine post_fin0 ret_ok hM rfl ?_ ?_ | refine post_fin normal_ok hM rfl ?_ ?_ | refine post_fin0 normal_ok hM rfl ?_ ?_)
    · simp -implicitDefEqProofs (disch := first | omega | (simp only [go_sem, ↓reduceIte, Nat.reduceLT, Nat.reduceEqDiff, Nat.reduceAdd, Nat.reduceSub, Nat.reduceMul, Nat.reduceLeDiff, reduceCtorEq, Int.reduceLE, Int.reduceLT, Int.reduceNeg, Int.reduceToNat, Nat.reduceSubDiff, Nat.reducePow]; first | done | omega)) only [go_sem, ↓reduceIte, Nat.reduceLT, Nat.reduceEqDiff, Nat.reduceAdd, Nat.reduceSub, Nat.reduceMul, Nat.reduceLeDiff, reduceCtorEq, Int.reduceLE, Int.reduceLT, Int.reduceNeg, Int.reduceToNat, Nat.reduceSubDiff, Nat.reducePow]
    · (simp only [go_sem, ↓reduceIte, Nat.reduceLT, Nat.reduceEqDiff, Nat.reduceAdd, Nat.reduceSub, Nat.reduceMul, Nat.reduceLeDiff, reduceCtorEq, Int.reduceLE, Int.reduceLT, Int.reduceNeg, Int.reduceToNat, Nat.reduceSubDiff, Nat.reducePow, encRev_low] <;> first | done | omega)
end
end Go.Nac.L1

