import Derived.Test.YtbmicihfhfcpkaaD3
import Derived.Test.YtbmicihfhfcpkaaP
import Derived.Test.YtbmicihfhfcpkaaK17
set_option linter.unusedSimpArgs false
set_option linter.unusedVariables false
set_option linter.unnecessarySimpa false
set_option maxRecDepth 10000
namespace Go.Nac.L2
attribute [local congr] b1_congr b2_congr Wp_congr wpOps_congr thenK_congr blockK_congr gK_congr cK_congr
section
variable {X : FuncId → List PV → PV → Prop}
theorem q_load_CheckCycles (l : List Cyc) (hl : l.length ≤ 1048576) : Q X 24 [.fs (l.map encCyc)] (.I (chkCycs l)) := by
  intro M
  (refine ACall_fn (cf := L2.c24) rfl rfl fun hM hA => ?_; simp only [L2.c24]; rw [mk1 _ (by decide)]; simp -implicitDefEqProofs (disch := first | omega | (simp only [go_sem, ↓reduceIte, reduceCtorEq]; first | done | omega)) only [go_sem, ↓reduceIte, Nat.reduceLT, Nat.reduceEqDiff, Nat.reduceAdd, Nat.reduceSub, Nat.reduceMul, Nat.reduceLeDiff, reduceCtorEq, Int.reduceLE, Int.reduceLT, Int.reduceNeg, Int.reduceToNat, Nat.reduceSubDiff, Nat.reducePow])
  refine cK_cases ?_ ?_ <;> intro hc <;> simp only [decide_eq_true_eq, decide_eq_false_iff_not, Classical.not_not] at hc
  · simp -implicitDefEqProofs (disch := first | omega | (simp only [go_sem, ↓reduceIte, reduceCtorEq]; first | done | omega)) only [go_sem, ↓reduceIte, Nat.reduceLT, Nat.reduceEqDiff, Nat.reduceAdd, Nat.reduceSub, Nat.reduceMul, Nat.reduceLeDiff, reduceCtorEq, Int.reduceLE, Int.reduceLT, Int.reduceNeg, Int.reduceToNat, Nat.reduceSubDiff, Nat.reducePow]
    (first | refine post_fin ret_ok hM rfl ?_ ?_ | refine post_fin0 ret_ok hM rfl ?_ ?_ | refine post_fin normal_ok hM rfl ?_ ?_ | refine post_fin0 normal_ok hM rfl ?_ ?_)
    · simp -implicitDefEqProofs (disch := first | omega | (simp only [go_sem, ↓reduceIte, reduceCtorEq]; first | done | omega)) only [go_sem, ↓reduceIte, Nat.reduceLT, Nat.reduceEqDiff, Nat.reduceAdd, Nat.reduceSub, Nat.reduceMul, Nat.reduceLeDiff, reduceCtorEq, Int.reduceLE, Int.reduceLT, Int.reduceNeg, Int.reduceToNat, Nat.reduceSubDiff, Nat.reducePow]
      congr 2; simp [chkCycs]; omega
    · (simp only [go_sem, ↓reduceIte, Nat.reduceLT, Nat.reduceEqDiff, Nat.reduceAdd, Nat.reduceSub, Nat.reduceMul, Nat.reduceLeDiff, reduceCtorEq, Int.reduceLE, Int.reduceLT, Int.reduceNeg, Int.reduceToNat, Nat.reduceSubDiff, Nat.reducePow] <;> first | done | omega)
  · simp -implicitDefEqProofs (disch := first | omega | (simp only [go_sem, ↓reduceIte, reduceCtorEq]; first | done | omega)) only [go_sem, ↓reduceIte, Nat.reduceLT, Nat.reduceEqDiff, Nat.reduceAdd, Nat.reduceSub, Nat.reduceMul, Nat.reduceLeDiff, reduceCtorEq, Int.reduceLE, Int.reduceLT, Int.reduceNeg, Int.reduceToNat, Nat.reduceSubDiff, Nat.reducePow]
    have hcl : chkCycs l = fst0 (l.map errC) := by rw [chkCycs, if_neg (by omega)]
    refine loop_mk (α := Nat) 0 (fun k => k ≤ l.length ∧ chkCycs l = fst0 ((l.map errC).drop k)) (fun k => M) (fun k => [(9, .fs (l.map encCyc)), (10, .I l.length), (11, .I k)]) (fun k => l.length - k) ⟨Nat.zero_le _, hcl⟩ rfl rfl ?_
    rintro k ⟨hk, hs⟩
    by_cases hlt : k < l.length
    · obtain ⟨x, h1⟩ : ∃ x, l[k]? = some x := ⟨_, List.getElem?_eq_getElem hlt⟩
      have h2 := fst0_drop (l.map errC) k (errC x) (by simp [h1])
      have fin : ∀ e : Int, e = errC x → ¬ e = 0 → chkCycs l = e := by
        intro e h3 h4
        rw [h3] at h4 ⊢
        rw [hs, h2, if_neg h4]
      have nxt : errC x = 0 → chkCycs l = fst0 ((l.map errC).drop (k + 1)) := by
        intro h; rw [hs, h2, if_pos h]
      clear h2
      simp -implicitDefEqProofs (disch := first | omega | (simp only [go_sem, ↓reduceIte, reduceCtorEq, hlt, h1, encCyc_cells]; first | done | omega)) only [go_sem, ↓reduceIte, Nat.reduceLT, Nat.reduceEqDiff, Nat.reduceAdd, Nat.reduceSub, Nat.reduceMul, Nat.reduceLeDiff, reduceCtorEq, Int.reduceLE, Int.reduceLT, Int.reduceNeg, Int.reduceToNat, Nat.reduceSubDiff, Nat.reducePow, hlt, h1, encCyc_cells]
      repeat' (first | (refine callP_q (q_load_checkIndex _ _) ?_; (try simp -implicitDefEqProofs (disch := first | omega | (simp only [go_sem, ↓reduceIte, reduceCtorEq, h1, encCyc_cells]; first | done | omega)) only [go_sem, ↓reduceIte, Nat.reduceLT, Nat.reduceEqDiff, Nat.reduceAdd, Nat.reduceSub, Nat.reduceMul, Nat.reduceLeDiff, reduceCtorEq, Int.reduceLE, Int.reduceLT, Int.reduceNeg, Int.reduceToNat, Nat.reduceSubDiff, Nat.reducePow, h1, encCyc_cells])) | (refine callP_q (q_load_checkLoad _ _) ?_; (try simp -implicitDefEqProofs (disch := first | omega | (simp only [go_sem, ↓reduceIte, reduceCtorEq, h1, encCyc_cells]; first | done | omega)) only [go_sem, ↓reduceIte, Nat.reduceLT, Nat.reduceEqDiff, Nat.reduceAdd, Nat.reduceSub, Nat.reduceMul, Nat.reduceLeDiff, reduceCtorEq, Int.reduceLE, Int.reduceLT, Int.reduceNeg, Int.reduceToNat, Nat.reduceSubDiff, Nat.reducePow, h1, encCyc_cells])) | (refine callP_q (q_load_when _ _ _) ?_; (try simp -implicitDefEqProofs (disch := first | omega | (simp only [go_sem, ↓reduceIte, reduceCtorEq, h1, encCyc_cells]; first | done | omega)) only [go_sem, ↓reduceIte, Nat.reduceLT, Nat.reduceEqDiff, Nat.reduceAdd, Nat.reduceSub, Nat.reduceMul, Nat.reduceLeDiff, reduceCtorEq, Int.reduceLE, Int.reduceLT, Int.reduceNeg, Int.reduceToNat, Nat.reduceSubDiff, Nat.reducePow, h1, encCyc_cells])) | (refine callP_q (q_load_first [_, _, _, _, _] (by simp) _) ?_; (try simp -implicitDefEqProofs (disch := first | omega | (simp only [go_sem, ↓reduceIte, reduceCtorEq, h1, encCyc_cells]; first | done | omega)) only [go_sem, ↓reduceIte, Nat.reduceLT, Nat.reduceEqDiff, Nat.reduceAdd, Nat.reduceSub, Nat.reduceMul, Nat.reduceLeDiff, reduceCtorEq, Int.reduceLE, Int.reduceLT, Int.reduceNeg, Int.reduceToNat, Nat.reduceSubDiff, Nat.reducePow, h1, encCyc_cells])) | (refine cK_cases ?_ ?_ <;> intro hc <;> (try simp only [decide_eq_true_eq, decide_eq_false_iff_not, Classical.not_not, Bool.not_eq_true, Bool.not_eq_true', Bool.not_eq_false', Bool.false_or, Bool.or_false, Bool.true_or, Bool.or_true, Bool.false_and, Bool.and_false, Bool.true_and, Bool.and_true] at hc) <;> (try simp -implicitDefEqProofs (disch := first | omega | (simp only [go_sem, ↓reduceIte, reduceCtorEq, h1, encCyc_cells, hc]; first | done | omega)) only [go_sem, ↓reduceIte, Nat.reduceLT, Nat.reduceEqDiff, Nat.reduceAdd, Nat.reduceSub, Nat.reduceMul, Nat.reduceLeDiff, reduceCtorEq, Int.reduceLE, Int.reduceLT, Int.reduceNeg, Int.reduceToNat, Nat.reduceSubDiff, Nat.reducePow, h1, encCyc_cells, hc])) | (refine gK_cases ?_ ?_ <;> intro hc <;> (try simp only [decide_eq_true_eq, decide_eq_false_iff_not, Classical.not_not, Bool.not_eq_true, Bool.not_eq_true', Bool.not_eq_false', Bool.false_or, Bool.or_false, Bool.true_or, Bool.or_true, Bool.false_and, Bool.and_false, Bool.true_and, Bool.and_true] at hc) <;> (try simp -implicitDefEqProofs (disch := first | omega | (simp only [go_sem, ↓reduceIte, reduceCtorEq, h1, encCyc_cells, hc]; first | done | omega)) only [go_sem, ↓reduceIte, Nat.reduceLT, Nat.reduceEqDiff, Nat.reduceAdd, Nat.reduceSub, Nat.reduceMul, Nat.reduceLeDiff, reduceCtorEq, Int.reduceLE, Int.reduceLT, Int.reduceNeg, Int.reduceToNat, Nat.reduceSubDiff, Nat.reducePow, h1, encCyc_cells, hc])))
      all_goals try (refine Wp_cut_at hM rfl 0 (by simp) (by first | done | (simp only [go_sem, ↓reduceIte, Nat.reduceLT, Nat.reduceEqDiff, Nat.reduceAdd, Nat.reduceSub, Nat.reduceMul, Nat.reduceLeDiff, reduceCtorEq, Int.reduceLE, Int.reduceLT, Int.reduceNeg, Int.reduceToNat, Nat.reduceSubDiff, Nat.reducePow, encCyc_low] <;> first | done | (refine ⟨?_, ?_⟩ <;> omega) | omega)) (lowL_mk (by first | done | (simp only [go_sem, ↓reduceIte, Nat.reduceLT, Nat.reduceEqDiff, Nat.reduceAdd, Nat.reduceSub, Nat.reduceMul, Nat.reduceLeDiff, reduceCtorEq, Int.reduceLE, Int.reduceLT, Int.reduceNeg, Int.reduceToNat, Nat.reduceSubDiff, Nat.reducePow, encCyc_low] <;> first | done | (refine ⟨?_, ?_⟩ <;> omega) | omega))) ?_; simp -implicitDefEqProofs (disch := first | omega | (simp only [go_sem, ↓reduceIte, reduceCtorEq]; first | done | omega)) only [go_sem, ↓reduceIte, Nat.reduceLT, Nat.reduceEqDiff, Nat.reduceAdd, Nat.reduceSub, Nat.reduceMul, Nat.reduceLeDiff, reduceCtorEq, Int.reduceLE, Int.reduceLT, Int.reduceNeg, Int.reduceToNat, Nat.reduceSubDiff, Nat.reducePow]; refine again' (k + 1) ⟨by omega, nxt (by simpa [errC, ordC, *] using hc)⟩ (by omega) rfl rfl; done)
      all_goals (first | refine post_fin ret_ok hM rfl ?_ ?_ | refine post_fin0 ret_ok hM rfl ?_ ?_ | refine post_fin normal_ok hM rfl ?_ ?_ | refine post_fin0 normal_ok hM rfl ?_ ?_)
      all_goals first | (simp only [go_sem, ↓reduceIte, Nat.reduceLT, Nat.reduceEqDiff, Nat.reduceAdd, Nat.reduceSub, Nat.reduceMul, Nat.reduceLeDiff, reduceCtorEq, Int.reduceLE, Int.reduceLT, Int.reduceNeg, Int.reduceToNat, Nat.reduceSubDiff, Nat.reducePow] <;> first | done | omega) | skip
      all_goals simp -implicitDefEqProofs (disch := first | omega | (simp only [go_sem, ↓reduceIte, reduceCtorEq]; first | done | omega)) only [go_sem, ↓reduceIte, Nat.reduceLT, Nat.reduceEqDiff, Nat.reduceAdd, Nat.reduceSub, Nat.reduceMul, Nat.reduceLeDiff, reduceCtorEq, Int.reduceLE, Int.reduceLT, Int.reduceNeg, Int.reduceToNat, Nat.reduceSubDiff, Nat.reducePow]
      all_goals refine congrArg PV.I (fin _ (by simp [errC, ordC, *]) (by first | assumption | simpa using hc)).symm
    · simp -implicitDefEqProofs (disch := first | omega | (simp only [go_sem, ↓reduceIte, reduceCtorEq, hlt]; first | done | omega)) only [go_sem, ↓reduceIte, Nat.reduceLT, Nat.reduceEqDiff, Nat.reduceAdd, Nat.reduceSub, Nat.reduceMul, Nat.reduceLeDiff, reduceCtorEq, Int.reduceLE, Int.reduceLT, Int.reduceNeg, Int.reduceToNat, Nat.reduceSubDiff, Nat.reducePow, hlt]
      (first | refine post_fin ret_ok hM rfl ?_ ?_ | refine post_fin0 ret_ok hM rfl ?_ ?_ | refine post_fin normal_ok hM rfl ?_ ?_ | refine post_fin0 normal_ok hM rfl ?_ ?_)
      · simp -implicitDefEqProofs (disch := first | omega | (simp only [go_sem, ↓reduceIte, reduceCtorEq]; first | done | omega)) only [go_sem, ↓reduceIte, Nat.reduceLT, Nat.reduceEqDiff, Nat.reduceAdd, Nat.reduceSub, Nat.reduceMul, Nat.reduceLeDiff, reduceCtorEq, Int.reduceLE, Int.reduceLT, Int.reduceNeg, Int.reduceToNat, Nat.reduceSubDiff, Nat.reducePow]
        rw [hs, List.drop_eq_nil_of_le (by simp; omega)]; rfl
      · (simp only [go_sem, ↓reduceIte, Nat.reduceLT, Nat.reduceEqDiff, Nat.reduceAdd, Nat.reduceSub, Nat.reduceMul, Nat.reduceLeDiff, reduceCtorEq, Int.reduceLE, Int.reduceLT, Int.reduceNeg, Int.reduceToNat, Nat.reduceSubDiff, Nat.reducePow] <;> first | done | omega)
end
end Go.Nac.L2
set_option linter.unusedSimpArgs false
set_option linter.unusedVariables false
set_option linter.unnecessarySimpa false
set_option maxRecDepth 10000
namespace Go.Nac.L2
attribute [local congr] b1_congr b2_congr Wp_congr wpOps_congr thenK_congr blockK_congr gK_congr cK_congr
section
variable {X : FuncId → List PV → PV → Prop}
theorem q_load_power (x e : Int) (he : e ≤ 4611686018427387904) : Q X 95 [.I x, .I e] (.I (powW x e.toNat)) := by
  intro M
  (refine ACall_fn (cf := L2.c95) rfl rfl fun hM hA => ?_; simp only [L2.c95]; rw [mk2 _ (by decide)]; simp -implicitDefEqProofs (disch := first | omega | (simp only [go_sem, ↓reduceIte, reduceCtorEq]; first | done | omega)) only [go_sem, ↓reduceIte, Nat.reduceLT, Nat.reduceEqDiff, Nat.reduceAdd, Nat.reduceSub, Nat.reduceMul, Nat.reduceLeDiff, reduceCtorEq, Int.reduceLE, Int.reduceLT, Int.reduceNeg, Int.reduceToNat, Nat.reduceSubDiff, Nat.reducePow])
  refine loop_mk (α := Nat) 0 (fun k => k ≤ e.toNat) (fun k => M) (fun k => [(0, .I x), (5, .I (powW x k)), (6, .I e), (7, .I k)]) (fun k => e.toNat - k) (Nat.zero_le _) rfl rfl ?_
  intro k hk
  by_cases hlt : (k : Int) < e
  · simp -implicitDefEqProofs (disch := first | omega | (simp only [go_sem, ↓reduceIte, reduceCtorEq, hlt]; first | done | omega)) only [go_sem, ↓reduceIte, Nat.reduceLT, Nat.reduceEqDiff, Nat.reduceAdd, Nat.reduceSub, Nat.reduceMul, Nat.reduceLeDiff, reduceCtorEq, Int.reduceLE, Int.reduceLT, Int.reduceNeg, Int.reduceToNat, Nat.reduceSubDiff, Nat.reducePow, hlt]
    exact again' (k + 1) (by omega) (by omega) rfl rfl
  · simp -implicitDefEqProofs (disch := first | omega | (simp only [go_sem, ↓reduceIte, reduceCtorEq, hlt]; first | done | omega)) only [go_sem, ↓reduceIte, Nat.reduceLT, Nat.reduceEqDiff, Nat.reduceAdd, Nat.reduceSub, Nat.reduceMul, Nat.reduceLeDiff, reduceCtorEq, Int.reduceLE, Int.reduceLT, Int.reduceNeg, Int.reduceToNat, Nat.reduceSubDiff, Nat.reducePow, hlt]
    (first | refine post_fin ret_ok hM rfl ?_ ?_ | refine post_fin0 ret_ok hM rfl ?_ ?_ | refine post_fin normal_ok hM rfl ?_ ?_ | refine post_fin0 normal_ok hM rfl ?_ ?_)
    · simp -implicitDefEqProofs (disch := first | omega | (simp only [go_sem, ↓reduceIte, reduceCtorEq]; first | done | omega)) only [go_sem, ↓reduceIte, Nat.reduceLT, Nat.reduceEqDiff, Nat.reduceAdd, Nat.reduceSub, Nat.reduceMul, Nat.reduceLeDiff, reduceCtorEq, Int.reduceLE, Int.reduceLT, Int.reduceNeg, Int.reduceToNat, Nat.reduceSubDiff, Nat.reducePow]
      rw [show k = e.toNat by omega]
    · (simp only [go_sem, ↓reduceIte, Nat.reduceLT, Nat.reduceEqDiff, Nat.reduceAdd, Nat.reduceSub, Nat.reduceMul, Nat.reduceLeDiff, reduceCtorEq, Int.reduceLE, Int.reduceLT, Int.reduceNeg, Int.reduceToNat, Nat.reduceSubDiff, Nat.reducePow] <;> first | done | omega)
theorem q_load_apart (a b : Rev) (ha : smallR a) (hb : smallR b) : Q X 91 [encRev a, encRev b] (.I (apartI a b)) := by
  intro M
  unfold smallR at ha hb
  (refine ACall_fn (cf := L2.c91) rfl rfl fun hM hA => ?_; simp only [L2.c91]; rw [mk2 _ (by decide)]; simp -implicitDefEqProofs (disch := first | omega | (simp only [go_sem, ↓reduceIte, reduceCtorEq, encRev_eq, encRev_cells]; first | done | omega)) only [go_sem, ↓reduceIte, Nat.reduceLT, Nat.reduceEqDiff, Nat.reduceAdd, Nat.reduceSub, Nat.reduceMul, Nat.reduceLeDiff, reduceCtorEq, Int.reduceLE, Int.reduceLT, Int.reduceNeg, Int.reduceToNat, Nat.reduceSubDiff, Nat.reducePow, encRev_eq, encRev_cells])
  (all_goals (first | refine post_fin ret_ok hM rfl ?_ ?_ | refine post_fin0 ret_ok hM rfl ?_ ?_ | refine post_fin normal_ok hM rfl ?_ ?_ | refine post_fin0 normal_ok hM rfl ?_ ?_); all_goals first | (simp only [go_sem, ↓reduceIte, Nat.reduceLT, Nat.reduceEqDiff, Nat.reduceAdd, Nat.reduceSub, Nat.reduceMul, Nat.reduceLeDiff, reduceCtorEq, Int.reduceLE, Int.reduceLT, Int.reduceNeg, Int.reduceToNat, Nat.reduceSubDiff, Nat.reducePow] <;> first | done | omega) | skip; all_goals (try simp -implicitDefEqProofs (disch := first | omega | (simp only [go_sem, ↓reduceIte, reduceCtorEq]; first | done | omega)) only [go_sem, ↓reduceIte, Nat.reduceLT, Nat.reduceEqDiff, Nat.reduceAdd, Nat.reduceSub, Nat.reduceMul, Nat.reduceLeDiff, reduceCtorEq, Int.reduceLE, Int.reduceLT, Int.reduceNeg, Int.reduceToNat, Nat.reduceSubDiff, Nat.reducePow]))
  rfl
theorem q_meter_add {M : List Blk} {i v : Nat} {m : Int × Bool} {n : Int} (hi : M[i]? = some (mRow v m)) (hm : mOk m) (hn : 0 ≤ n ∧ n ≤ 4611686018427387904) :
    ACall F X (.fn 94) [.op i v 0 0, .I n] M (.tup []) (M.set i (mRow v (madd m n))) := by
  unfold mRow at *
  unfold mOk at hm
  have hlt : i < M.length := (List.getElem?_eq_some_iff.1 hi).1
  (refine ACall_fn (cf := L2.c94) rfl rfl fun hM hA => ?_; simp only [L2.c94]; rw [mk2 _ (by decide)]; simp -implicitDefEqProofs (disch := first | omega | (simp only [go_sem, ↓reduceIte, reduceCtorEq, hi]; first | done | omega)) only [go_sem, ↓reduceIte, Nat.reduceLT, Nat.reduceEqDiff, Nat.reduceAdd, Nat.reduceSub, Nat.reduceMul, Nat.reduceLeDiff, reduceCtorEq, Int.reduceLE, Int.reduceLT, Int.reduceNeg, Int.reduceToNat, Nat.reduceSubDiff, Nat.reducePow, hi])
  have hset : ∀ m' : Int × Bool, lowM (M.set i (.row true 2 v [.agg [.I m'.1, .B m'.2]])).length (M.set i (.row true 2 v [.agg [.I m'.1, .B m'.2]])) := by
    intro m' b hb
    rw [List.length_set]
    rcases List.mem_or_eq_of_mem_set hb with h | rfl
    · exact hM b h
    · (simp only [go_sem, ↓reduceIte, Nat.reduceLT, Nat.reduceEqDiff, Nat.reduceAdd, Nat.reduceSub, Nat.reduceMul, Nat.reduceLeDiff, reduceCtorEq, Int.reduceLE, Int.reduceLT, Int.reduceNeg, Int.reduceToNat, Nat.reduceSubDiff, Nat.reducePow] <;> first | done | omega)
  repeat' (first | (refine cK_cases ?_ ?_ <;> intro hc <;> (try simp only [decide_eq_true_eq, decide_eq_false_iff_not, Classical.not_not, Bool.not_eq_true, Bool.not_eq_true', Bool.not_eq_false', Bool.false_or, Bool.or_false, Bool.true_or, Bool.or_true, Bool.false_and, Bool.and_false, Bool.true_and, Bool.and_true] at hc) <;> (try simp -implicitDefEqProofs (disch := first | omega | (simp only [go_sem, ↓reduceIte, reduceCtorEq, hi, hc]; first | done | omega)) only [go_sem, ↓reduceIte, Nat.reduceLT, Nat.reduceEqDiff, Nat.reduceAdd, Nat.reduceSub, Nat.reduceMul, Nat.reduceLeDiff, reduceCtorEq, Int.reduceLE, Int.reduceLT, Int.reduceNeg, Int.reduceToNat, Nat.reduceSubDiff, Nat.reducePow, hi, hc])) | (refine gK_cases ?_ ?_ <;> intro hc <;> (try simp only [decide_eq_true_eq, decide_eq_false_iff_not, Classical.not_not, Bool.not_eq_true, Bool.not_eq_true', Bool.not_eq_false', Bool.false_or, Bool.or_false, Bool.true_or, Bool.or_true, Bool.false_and, Bool.and_false, Bool.true_and, Bool.and_true] at hc) <;> (try simp -implicitDefEqProofs (disch := first | omega | (simp only [go_sem, ↓reduceIte, reduceCtorEq, hi, hc]; first | done | omega)) only [go_sem, ↓reduceIte, Nat.reduceLT, Nat.reduceEqDiff, Nat.reduceAdd, Nat.reduceSub, Nat.reduceMul, Nat.reduceLeDiff, reduceCtorEq, Int.reduceLE, Int.reduceLT, Int.reduceNeg, Int.reduceToNat, Nat.reduceSubDiff, Nat.reducePow, hi, hc])))
  · have e : madd m n = (m.1, true) := by simp [madd, hc]
    rw [e]
    refine post_fin0 ret_ok (hset (m.1, true)) (by simp) ?_ ?_
    · simp -implicitDefEqProofs (disch := first | omega | (simp only [go_sem, ↓reduceIte, reduceCtorEq]; first | done | omega)) only [go_sem, ↓reduceIte, Nat.reduceLT, Nat.reduceEqDiff, Nat.reduceAdd, Nat.reduceSub, Nat.reduceMul, Nat.reduceLeDiff, reduceCtorEq, Int.reduceLE, Int.reduceLT, Int.reduceNeg, Int.reduceToNat, Nat.reduceSubDiff, Nat.reducePow]
      rfl
    · (simp only [go_sem, ↓reduceIte, Nat.reduceLT, Nat.reduceEqDiff, Nat.reduceAdd, Nat.reduceSub, Nat.reduceMul, Nat.reduceLeDiff, reduceCtorEq, Int.reduceLE, Int.reduceLT, Int.reduceNeg, Int.reduceToNat, Nat.reduceSubDiff, Nat.reducePow] <;> first | done | omega)
  · have e : madd m n = (m.1, true) := by simp [madd, hc]
    rw [e]
    refine post_fin0 ret_ok (hset (m.1, true)) (by simp) ?_ ?_
    · simp -implicitDefEqProofs (disch := first | omega | (simp only [go_sem, ↓reduceIte, reduceCtorEq]; first | done | omega)) only [go_sem, ↓reduceIte, Nat.reduceLT, Nat.reduceEqDiff, Nat.reduceAdd, Nat.reduceSub, Nat.reduceMul, Nat.reduceLeDiff, reduceCtorEq, Int.reduceLE, Int.reduceLT, Int.reduceNeg, Int.reduceToNat, Nat.reduceSubDiff, Nat.reducePow]
      rfl
    · (simp only [go_sem, ↓reduceIte, Nat.reduceLT, Nat.reduceEqDiff, Nat.reduceAdd, Nat.reduceSub, Nat.reduceMul, Nat.reduceLeDiff, reduceCtorEq, Int.reduceLE, Int.reduceLT, Int.reduceNeg, Int.reduceToNat, Nat.reduceSubDiff, Nat.reducePow] <;> first | done | omega)
  · rename_i hf
    have e : madd m n = (m.1 + n, false) := by simp [madd, hc, hf]
    rw [e, hf]
    refine post_fin0 normal_ok (hset (m.1 + n, false)) (by simp) ?_ ?_
    · simp -implicitDefEqProofs (disch := first | omega | (simp only [go_sem, ↓reduceIte, reduceCtorEq]; first | done | omega)) only [go_sem, ↓reduceIte, Nat.reduceLT, Nat.reduceEqDiff, Nat.reduceAdd, Nat.reduceSub, Nat.reduceMul, Nat.reduceLeDiff, reduceCtorEq, Int.reduceLE, Int.reduceLT, Int.reduceNeg, Int.reduceToNat, Nat.reduceSubDiff, Nat.reducePow]
      rfl
    · (simp only [go_sem, ↓reduceIte, Nat.reduceLT, Nat.reduceEqDiff, Nat.reduceAdd, Nat.reduceSub, Nat.reduceMul, Nat.reduceLeDiff, reduceCtorEq, Int.reduceLE, Int.reduceLT, Int.reduceNeg, Int.reduceToNat, Nat.reduceSubDiff, Nat.reducePow] <;> first | done | omega)
theorem get_set_app {M N : List Blk} {i : Nat} {b : Blk} (h : i < M.length) : (M.set i b ++ N)[i]? = some b := by
  rw [List.getElem?_append_left (by simpa using h), List.getElem?_set_self h]
theorem set_set_app {M N : List Blk} {i : Nat} {b c : Blk} (h : i < M.length) : (M.set i b ++ N).set i c = M.set i c ++ N := by
  rw [List.set_append_left _ _ (by simpa using h), List.set_set]
theorem q_meter_result {M : List Blk} {i v : Nat} {m : Int × Bool} (hi : M[i]? = some (mRow v m)) :
    ACall F X (.fn 69) [.op i v 0 0] M (.tup [.I (mres m).1, .I (mres m).2]) M := by
  unfold mRow at *
  (refine ACall_fn (cf := L2.c69) rfl rfl fun hM hA => ?_; simp only [L2.c69]; rw [mk1 _ (by decide)]; simp -implicitDefEqProofs (disch := first | omega | (simp only [go_sem, ↓reduceIte, reduceCtorEq, hi]; first | done | omega)) only [go_sem, ↓reduceIte, Nat.reduceLT, Nat.reduceEqDiff, Nat.reduceAdd, Nat.reduceSub, Nat.reduceMul, Nat.reduceLeDiff, reduceCtorEq, Int.reduceLE, Int.reduceLT, Int.reduceNeg, Int.reduceToNat, Nat.reduceSubDiff, Nat.reducePow, hi])
  repeat' (first | (refine cK_cases ?_ ?_ <;> intro hc <;> (try simp only [decide_eq_true_eq, decide_eq_false_iff_not, Classical.not_not, Bool.not_eq_true, Bool.not_eq_true', Bool.not_eq_false', Bool.false_or, Bool.or_false, Bool.true_or, Bool.or_true, Bool.false_and, Bool.and_false, Bool.true_and, Bool.and_true] at hc) <;> (try simp -implicitDefEqProofs (disch := first | omega | (simp only [go_sem, ↓reduceIte, reduceCtorEq, hi, hc]; first | done | omega)) only [go_sem, ↓reduceIte, Nat.reduceLT, Nat.reduceEqDiff, Nat.reduceAdd, Nat.reduceSub, Nat.reduceMul, Nat.reduceLeDiff, reduceCtorEq, Int.reduceLE, Int.reduceLT, Int.reduceNeg, Int.reduceToNat, Nat.reduceSubDiff, Nat.reducePow, hi, hc])) | (refine gK_cases ?_ ?_ <;> intro hc <;> (try simp only [decide_eq_true_eq, decide_eq_false_iff_not, Classical.not_not, Bool.not_eq_true, Bool.not_eq_true', Bool.not_eq_false', Bool.false_or, Bool.or_false, Bool.true_or, Bool.or_true, Bool.false_and, Bool.and_false, Bool.true_and, Bool.and_true] at hc) <;> (try simp -implicitDefEqProofs (disch := first | omega | (simp only [go_sem, ↓reduceIte, reduceCtorEq, hi, hc]; first | done | omega)) only [go_sem, ↓reduceIte, Nat.reduceLT, Nat.reduceEqDiff, Nat.reduceAdd, Nat.reduceSub, Nat.reduceMul, Nat.reduceLeDiff, reduceCtorEq, Int.reduceLE, Int.reduceLT, Int.reduceNeg, Int.reduceToNat, Nat.reduceSubDiff, Nat.reducePow, hi, hc])))
  · (first | refine post_fin ret_ok hM rfl ?_ ?_ | refine post_fin0 ret_ok hM rfl ?_ ?_ | refine post_fin normal_ok hM rfl ?_ ?_ | refine post_fin0 normal_ok hM rfl ?_ ?_)
    · simp -implicitDefEqProofs (disch := first | omega | (simp only [go_sem, ↓reduceIte, reduceCtorEq]; first | done | omega)) only [go_sem, ↓reduceIte, Nat.reduceLT, Nat.reduceEqDiff, Nat.reduceAdd, Nat.reduceSub, Nat.reduceMul, Nat.reduceLeDiff, reduceCtorEq, Int.reduceLE, Int.reduceLT, Int.reduceNeg, Int.reduceToNat, Nat.reduceSubDiff, Nat.reducePow]
      simp [mres, hc]
    · (simp only [go_sem, ↓reduceIte, Nat.reduceLT, Nat.reduceEqDiff, Nat.reduceAdd, Nat.reduceSub, Nat.reduceMul, Nat.reduceLeDiff, reduceCtorEq, Int.reduceLE, Int.reduceLT, Int.reduceNeg, Int.reduceToNat, Nat.reduceSubDiff, Nat.reducePow] <;> first | done | omega)
  · (first | refine post_fin ret_ok hM rfl ?_ ?_ | refine post_fin0 ret_ok hM rfl ?_ ?_ | refine post_fin normal_ok hM rfl ?_ ?_ | refine post_fin0 normal_ok hM rfl ?_ ?_)
    · simp -implicitDefEqProofs (disch := first | omega | (simp only [go_sem, ↓reduceIte, reduceCtorEq]; first | done | omega)) only [go_sem, ↓reduceIte, Nat.reduceLT, Nat.reduceEqDiff, Nat.reduceAdd, Nat.reduceSub, Nat.reduceMul, Nat.reduceLeDiff, reduceCtorEq, Int.reduceLE, Int.reduceLT, Int.reduceNeg, Int.reduceToNat, Nat.reduceSubDiff, Nat.reducePow]
      simp [mres, hc]
    · (simp only [go_sem, ↓reduceIte, Nat.reduceLT, Nat.reduceEqDiff, Nat.reduceAdd, Nat.reduceSub, Nat.reduceMul, Nat.reduceLeDiff, reduceCtorEq, Int.reduceLE, Int.reduceLT, Int.reduceNeg, Int.reduceToNat, Nat.reduceSubDiff, Nat.reducePow] <;> first | done | omega)
theorem cycDmg_snoc {l : List Cyc} {k : Nat} {x : Cyc} (e times : Int) (m : Int × Bool) (h : l[k]? = some x) : cycDmg e times m (l.take (k + 1)) = madd (cycDmg e times m (l.take k)) (times * powW (x.hi - x.lo) e.toNat) := by
  obtain ⟨h1, h2⟩ := List.getElem?_eq_some_iff.1 h
  unfold cycDmg
  rw [List.take_succ_eq_append_getElem h1, h2, List.foldl_append]; rfl
theorem q_meter_cycles {M : List Blk} {i v : Nat} {m : Int × Bool} {l : List Cyc} {e times : Int} (hi : M[i]? = some (mRow v m)) (hm : mOk m) (hl : l.length ≤ 1048576) (hs : ∀ c ∈ l, smallC c) (he : 1 ≤ e ∧ e ≤ 3) (ht : 0 ≤ times ∧ times ≤ 2) :
    ACall F X (.fn 68) [.op i v 0 0, .fs (l.map encCyc), .I e, .I times] M (.tup []) (M.set i (mRow v (cycDmg e times m l))) := by
  have hlt : i < M.length := (List.getElem?_eq_some_iff.1 hi).1
  (refine ACall_fn (cf := L2.c68) rfl rfl fun hM hA => ?_; simp only [L2.c68]; rw [mk4 _ (by decide)]; simp -implicitDefEqProofs (disch := first | omega | (simp only [go_sem, ↓reduceIte, reduceCtorEq]; first | done | omega)) only [go_sem, ↓reduceIte, Nat.reduceLT, Nat.reduceEqDiff, Nat.reduceAdd, Nat.reduceSub, Nat.reduceMul, Nat.reduceLeDiff, reduceCtorEq, Int.reduceLE, Int.reduceLT, Int.reduceNeg, Int.reduceToNat, Nat.reduceSubDiff, Nat.reducePow])
  have hset : ∀ m' : Int × Bool, lowM (M.set i (mRow v m')).length (M.set i (mRow v m')) := by
    intro m' b hb
    rw [List.length_set]
    rcases List.mem_or_eq_of_mem_set hb with h | rfl
    · exact hM b h
    · unfold mRow; (simp only [go_sem, ↓reduceIte, Nat.reduceLT, Nat.reduceEqDiff, Nat.reduceAdd, Nat.reduceSub, Nat.reduceMul, Nat.reduceLeDiff, reduceCtorEq, Int.reduceLE, Int.reduceLT, Int.reduceNeg, Int.reduceToNat, Nat.reduceSubDiff, Nat.reducePow] <;> first | done | omega)
  refine loop_mk (α := Nat) 0 (fun k => k ≤ l.length ∧ mOk (cycDmg e times m (l.take k))) (fun k => M.set i (mRow v (cycDmg e times m (l.take k)))) (fun k => [(0, .op i v 0 0), (2, .I e), (3, .I times), (10, .fs (l.map encCyc)), (11, .I l.length), (12, .I k)]) (fun k => l.length - k) ⟨Nat.zero_le _, hm⟩ ?_ rfl ?_
  · simp only [List.take_zero, cycDmg, List.foldl_nil]
    apply List.ext_getElem?
    intro j
    by_cases e : j = i
    · subst e; rw [List.getElem?_set_self hlt]; exact hi
    · rw [List.getElem?_set_ne (Ne.symm e)]
  rintro k ⟨hk, hmk⟩
  by_cases hlt2 : k < l.length
  · obtain ⟨x, h1⟩ : ∃ x, l[k]? = some x := ⟨_, List.getElem?_eq_getElem hlt2⟩
    have hsn := cycDmg_snoc e times m h1
    have hx := hs x (List.mem_of_getElem? h1)
    unfold smallC at hx
    have hp := pow_bd he hx.1 hx.2.1
    generalize cycDmg e times m (l.take k) = mk at hsn hmk ⊢
    generalize hpw : powW (x.hi - x.lo) e.toNat = pw at hp hsn
    simp -implicitDefEqProofs (disch := first | omega | (simp only [go_sem, ↓reduceIte, reduceCtorEq, hlt2, h1, encCyc_cells]; first | done | omega)) only [go_sem, ↓reduceIte, Nat.reduceLT, Nat.reduceEqDiff, Nat.reduceAdd, Nat.reduceSub, Nat.reduceMul, Nat.reduceLeDiff, reduceCtorEq, Int.reduceLE, Int.reduceLT, Int.reduceNeg, Int.reduceToNat, Nat.reduceSubDiff, Nat.reducePow, hlt2, h1, encCyc_cells]
    refine callP_q (q_load_power _ _ (by omega) _) ?_
    rw [hpw]
    have hm2 : 0 ≤ times * pw ∧ times * pw ≤ 2 * 281474976710656 := ⟨Int.mul_nonneg ht.1 hp.1, Int.mul_le_mul ht.2 hp.2 hp.1 (by omega)⟩
    simp -implicitDefEqProofs (disch := first | omega | (simp only [go_sem, ↓reduceIte, reduceCtorEq]; first | done | omega)) only [go_sem, ↓reduceIte, Nat.reduceLT, Nat.reduceEqDiff, Nat.reduceAdd, Nat.reduceSub, Nat.reduceMul, Nat.reduceLeDiff, reduceCtorEq, Int.reduceLE, Int.reduceLT, Int.reduceNeg, Int.reduceToNat, Nat.reduceSubDiff, Nat.reducePow]
    refine callP_l (q_meter_add (get_set_app hlt) hmk (by omega)) ?_
    rw [set_set_app hlt]
    simp -implicitDefEqProofs (disch := first | omega | (simp only [go_sem, ↓reduceIte, reduceCtorEq]; first | done | omega)) only [go_sem, ↓reduceIte, Nat.reduceLT, Nat.reduceEqDiff, Nat.reduceAdd, Nat.reduceSub, Nat.reduceMul, Nat.reduceLeDiff, reduceCtorEq, Int.reduceLE, Int.reduceLT, Int.reduceNeg, Int.reduceToNat, Nat.reduceSubDiff, Nat.reducePow]
    refine Wp_cut_at (hset _) (by simp) 0 (by simp) lowM_nil (lowL_mk ?_) ?_
    · have : i < (M.set i (mRow v (madd mk (times * pw)))).length + 0 := by simpa using hlt
      simp only [go_sem, ↓reduceIte, Nat.reduceLT, Nat.reduceEqDiff, Nat.reduceAdd, Nat.reduceSub, Nat.reduceMul, Nat.reduceLeDiff, reduceCtorEq, Int.reduceLE, Int.reduceLT, Int.reduceNeg, Int.reduceToNat, Nat.reduceSubDiff, Nat.reducePow, encCyc_low]
      simpa using hlt
    · simp -implicitDefEqProofs (disch := first | omega | (simp only [go_sem, ↓reduceIte, reduceCtorEq]; first | done | omega)) only [go_sem, ↓reduceIte, Nat.reduceLT, Nat.reduceEqDiff, Nat.reduceAdd, Nat.reduceSub, Nat.reduceMul, Nat.reduceLeDiff, reduceCtorEq, Int.reduceLE, Int.reduceLT, Int.reduceNeg, Int.reduceToNat, Nat.reduceSubDiff, Nat.reducePow]
      exact again' (k + 1) ⟨by omega, by rw [hsn]; exact madd_ok hmk hm2.1⟩ (by omega) (by rw [hsn]) rfl
  · simp -implicitDefEqProofs (disch := first | omega | (simp only [go_sem, ↓reduceIte, reduceCtorEq, hlt2]; first | done | omega)) only [go_sem, ↓reduceIte, Nat.reduceLT, Nat.reduceEqDiff, Nat.reduceAdd, Nat.reduceSub, Nat.reduceMul, Nat.reduceLeDiff, reduceCtorEq, Int.reduceLE, Int.reduceLT, Int.reduceNeg, Int.reduceToNat, Nat.reduceSubDiff, Nat.reducePow, hlt2]
    rw [List.take_of_length_le (by omega)]
    refine post_fin0 normal_ok (hset _) (by simp) ?_ ?_
    · simp -implicitDefEqProofs (disch := first | omega | (simp only [go_sem, ↓reduceIte, reduceCtorEq]; first | done | omega)) only [go_sem, ↓reduceIte, Nat.reduceLT, Nat.reduceEqDiff, Nat.reduceAdd, Nat.reduceSub, Nat.reduceMul, Nat.reduceLeDiff, reduceCtorEq, Int.reduceLE, Int.reduceLT, Int.reduceNeg, Int.reduceToNat, Nat.reduceSubDiff, Nat.reducePow]
      rfl
    · (simp only [go_sem, ↓reduceIte, Nat.reduceLT, Nat.reduceEqDiff, Nat.reduceAdd, Nat.reduceSub, Nat.reduceMul, Nat.reduceLeDiff, reduceCtorEq, Int.reduceLE, Int.reduceLT, Int.reduceNeg, Int.reduceToNat, Nat.reduceSubDiff, Nat.reducePow] <;> first | done | omega)
end
end Go.Nac.L2
set_option linter.unusedSimpArgs false
set_option linter.unusedVariables false
set_option linter.unnecessarySimpa false
set_option maxRecDepth 10000
namespace Go.Nac.L2
attribute [local congr] b1_congr b2_congr Wp_congr wpOps_congr thenK_congr blockK_congr gK_congr cK_congr
section
variable {X : FuncId → List PV → PV → Prop}
def hd (e : Int) (m : Int × Bool) (l : List Rev) (k : Nat) : Int × Bool := ((halfs l).take k).foldl (fun m x => madd m (powW x e.toNat)) m
theorem hd_snoc {l : List Rev} {k : Nat} {p q : Rev} (e : Int) (m : Int × Bool) (h : l[k]? = some p) (h' : l[k + 1]? = some q) : hd e m l (k + 1) = madd (hd e m l k) (powW (apartI p q) e.toNat) := by
  obtain ⟨h1, h2⟩ := List.getElem?_eq_some_iff.1 (halfs_get l k p q h h')
  unfold hd
  rw [List.take_succ_eq_append_getElem h1, h2, List.foldl_append]; rfl
theorem apart_bd {p q : Rev} (hp : smallR p) (hq : smallR q) : 0 ≤ apartI p q ∧ apartI p q ≤ 65536 := by unfold smallR at hp hq; unfold apartI; omega
theorem q_meter_halves {M : List Blk} {i v : Nat} {m : Int × Bool} {l : List Rev} {e : Int} (hi : M[i]? = some (mRow v m)) (hm : mOk m) (hl : l.length ≤ 1048576) (hs : ∀ c ∈ l, smallR c) (he : 1 ≤ e ∧ e ≤ 3) :
    ACall F X (.fn 70) [.op i v 0 0, .fs (l.map encRev), .I e] M (.tup []) (M.set i (mRow v (halfDmg e m l))) := by
  have hlt : i < M.length := (List.getElem?_eq_some_iff.1 hi).1
  have hself : M.set i (mRow v m) = M := by
    apply List.ext_getElem?
    intro j
    by_cases e : j = i
    · subst e; rw [List.getElem?_set_self hlt]; exact hi.symm
    · rw [List.getElem?_set_ne (Ne.symm e)]
  cases l with
  | nil =>
    simp only [halfDmg, halfs, List.foldl_nil]
    rw [hself]
    (refine ACall_fn (cf := L2.c70) rfl rfl fun hM hA => ?_; simp only [L2.c70]; rw [mk3 _ (by decide)]; simp -implicitDefEqProofs (disch := first | omega | (simp only [go_sem, ↓reduceIte, reduceCtorEq]; first | done | omega)) only [go_sem, ↓reduceIte, Nat.reduceLT, Nat.reduceEqDiff, Nat.reduceAdd, Nat.reduceSub, Nat.reduceMul, Nat.reduceLeDiff, reduceCtorEq, Int.reduceLE, Int.reduceLT, Int.reduceNeg, Int.reduceToNat, Nat.reduceSubDiff, Nat.reducePow])
    refine loop_mk (α := Unit) () (fun _ => True) (fun _ => M) (fun _ => [(0, .op i v 0 0), (1, .fs []), (2, .I e), (12, .fs []), (13, .I 0), (14, .I 0)]) (fun _ => 0) trivial rfl rfl ?_
    intro _ _
    simp -implicitDefEqProofs (disch := first | omega | (simp only [go_sem, ↓reduceIte, reduceCtorEq, Int.lt_irrefl]; first | done | omega)) only [go_sem, ↓reduceIte, Nat.reduceLT, Nat.reduceEqDiff, Nat.reduceAdd, Nat.reduceSub, Nat.reduceMul, Nat.reduceLeDiff, reduceCtorEq, Int.reduceLE, Int.reduceLT, Int.reduceNeg, Int.reduceToNat, Nat.reduceSubDiff, Nat.reducePow, Int.lt_irrefl]
    refine post_fin0 normal_ok hM rfl ?_ ?_
    · simp -implicitDefEqProofs (disch := first | omega | (simp only [go_sem, ↓reduceIte, reduceCtorEq]; first | done | omega)) only [go_sem, ↓reduceIte, Nat.reduceLT, Nat.reduceEqDiff, Nat.reduceAdd, Nat.reduceSub, Nat.reduceMul, Nat.reduceLeDiff, reduceCtorEq, Int.reduceLE, Int.reduceLT, Int.reduceNeg, Int.reduceToNat, Nat.reduceSubDiff, Nat.reducePow]
      rfl
    · (simp only [go_sem, ↓reduceIte, Nat.reduceLT, Nat.reduceEqDiff, Nat.reduceAdd, Nat.reduceSub, Nat.reduceMul, Nat.reduceLeDiff, reduceCtorEq, Int.reduceLE, Int.reduceLT, Int.reduceNeg, Int.reduceToNat, Nat.reduceSubDiff, Nat.reducePow] <;> first | done | omega)
  | cons a r =>
    have hl' : r.length ≤ 1048576 := by simp at hl; omega
    have hsz : sized 2 (encRev a :: r.map encRev) = true := encRev_sized (a :: r)
    have htk : List.take r.length (r.map encRev) = r.map encRev := List.take_of_length_le (by simp)
    have hmin : min (1 : Int) ((r.length + 1 : Nat) : Int) = 1 := by omega
    have hset : lowM M.length M → ∀ m' : Int × Bool, lowM (M.set i (mRow v m')).length (M.set i (mRow v m')) := by
      intro hM m' b hb
      rw [List.length_set]
      rcases List.mem_or_eq_of_mem_set hb with h | rfl
      · exact hM b h
      · unfold mRow; (simp only [go_sem, ↓reduceIte, Nat.reduceLT, Nat.reduceEqDiff, Nat.reduceAdd, Nat.reduceSub, Nat.reduceMul, Nat.reduceLeDiff, reduceCtorEq, Int.reduceLE, Int.reduceLT, Int.reduceNeg, Int.reduceToNat, Nat.reduceSubDiff, Nat.reducePow] <;> first | done | omega)
    (refine ACall_fn (cf := L2.c70) rfl rfl fun hM hA => ?_; simp only [L2.c70]; rw [mk3 _ (by decide)]; simp -implicitDefEqProofs (disch := first | omega | (simp only [go_sem, ↓reduceIte, reduceCtorEq, hsz, htk, hmin]; first | done | omega)) only [go_sem, ↓reduceIte, Nat.reduceLT, Nat.reduceEqDiff, Nat.reduceAdd, Nat.reduceSub, Nat.reduceMul, Nat.reduceLeDiff, reduceCtorEq, Int.reduceLE, Int.reduceLT, Int.reduceNeg, Int.reduceToNat, Nat.reduceSubDiff, Nat.reducePow, hsz, htk, hmin])
    have hset := hset hM
    have hsR : ∀ c ∈ a :: r, smallR c := hs
    refine loop_mk (α := Nat) 0 (fun k => k ≤ r.length ∧ mOk (hd e m (a :: r) k)) (fun k => M.set i (mRow v (hd e m (a :: r) k))) (fun k => [(0, .op i v 0 0), (1, .fs (encRev a :: r.map encRev)), (2, .I e), (12, .fs (r.map encRev)), (13, .I r.length), (14, .I k)]) (fun k => r.length - k) ⟨Nat.zero_le _, hm⟩ hself.symm rfl ?_
    rintro k ⟨hk, hmk⟩
    by_cases hlt2 : k < r.length
    · obtain ⟨q, h1⟩ : ∃ x, r[k]? = some x := ⟨_, List.getElem?_eq_getElem hlt2⟩
      obtain ⟨p, h2⟩ : ∃ x, (a :: r)[k]? = some x := ⟨_, List.getElem?_eq_getElem (by simp; omega)⟩
      have h2' : (encRev a :: r.map encRev)[k]? = some (encRev p) := by rw [← List.map_cons, List.getElem?_map, h2]; rfl
      have hsn := hd_snoc e m h2 (show (a :: r)[k + 1]? = some q from h1)
      have hp := hsR p (List.mem_of_getElem? h2)
      have hq := hsR q (List.mem_cons_of_mem _ (List.mem_of_getElem? h1))
      have hap := apart_bd hp hq
      have hpw := pow_bd he hap.1 hap.2
      generalize hd e m (a :: r) k = mk at hsn hmk ⊢
      simp -implicitDefEqProofs (disch := first | omega | (simp only [go_sem, ↓reduceIte, reduceCtorEq, hlt2, h1, h2', encRev_cells]; first | done | omega)) only [go_sem, ↓reduceIte, Nat.reduceLT, Nat.reduceEqDiff, Nat.reduceAdd, Nat.reduceSub, Nat.reduceMul, Nat.reduceLeDiff, reduceCtorEq, Int.reduceLE, Int.reduceLT, Int.reduceNeg, Int.reduceToNat, Nat.reduceSubDiff, Nat.reducePow, hlt2, h1, h2', encRev_cells]
      refine callP_q (q_load_apart p q hp hq _) ?_
      simp -implicitDefEqProofs (disch := first | omega | (simp only [go_sem, ↓reduceIte, reduceCtorEq]; first | done | omega)) only [go_sem, ↓reduceIte, Nat.reduceLT, Nat.reduceEqDiff, Nat.reduceAdd, Nat.reduceSub, Nat.reduceMul, Nat.reduceLeDiff, reduceCtorEq, Int.reduceLE, Int.reduceLT, Int.reduceNeg, Int.reduceToNat, Nat.reduceSubDiff, Nat.reducePow]
      refine callP_q (q_load_power _ _ (by omega) _) ?_
      simp -implicitDefEqProofs (disch := first | omega | (simp only [go_sem, ↓reduceIte, reduceCtorEq]; first | done | omega)) only [go_sem, ↓reduceIte, Nat.reduceLT, Nat.reduceEqDiff, Nat.reduceAdd, Nat.reduceSub, Nat.reduceMul, Nat.reduceLeDiff, reduceCtorEq, Int.reduceLE, Int.reduceLT, Int.reduceNeg, Int.reduceToNat, Nat.reduceSubDiff, Nat.reducePow]
      refine callP_l (q_meter_add (get_set_app hlt) hmk (by omega)) ?_
      rw [set_set_app hlt]
      simp -implicitDefEqProofs (disch := first | omega | (simp only [go_sem, ↓reduceIte, reduceCtorEq]; first | done | omega)) only [go_sem, ↓reduceIte, Nat.reduceLT, Nat.reduceEqDiff, Nat.reduceAdd, Nat.reduceSub, Nat.reduceMul, Nat.reduceLeDiff, reduceCtorEq, Int.reduceLE, Int.reduceLT, Int.reduceNeg, Int.reduceToNat, Nat.reduceSubDiff, Nat.reducePow]
      refine Wp_cut_at (hset _) (by simp) 0 (by simp) lowM_nil (lowL_mk ?_) ?_
      · have : i < (M.set i (mRow v (madd mk (powW (apartI p q) e.toNat)))).length + 0 := by simpa using hlt
        simp only [go_sem, ↓reduceIte, Nat.reduceLT, Nat.reduceEqDiff, Nat.reduceAdd, Nat.reduceSub, Nat.reduceMul, Nat.reduceLeDiff, reduceCtorEq, Int.reduceLE, Int.reduceLT, Int.reduceNeg, Int.reduceToNat, Nat.reduceSubDiff, Nat.reducePow, encRev_low]
        simpa using hlt
      · simp -implicitDefEqProofs (disch := first | omega | (simp only [go_sem, ↓reduceIte, reduceCtorEq]; first | done | omega)) only [go_sem, ↓reduceIte, Nat.reduceLT, Nat.reduceEqDiff, Nat.reduceAdd, Nat.reduceSub, Nat.reduceMul, Nat.reduceLeDiff, reduceCtorEq, Int.reduceLE, Int.reduceLT, Int.reduceNeg, Int.reduceToNat, Nat.reduceSubDiff, Nat.reducePow]
        exact again' (k + 1) ⟨by omega, by rw [hsn]; exact madd_ok hmk hpw.1⟩ (by omega) (by rw [hsn]) rfl
    · simp -implicitDefEqProofs (disch := first | omega | (simp only [go_sem, ↓reduceIte, reduceCtorEq, hlt2]; first | done | omega)) only [go_sem, ↓reduceIte, Nat.reduceLT, Nat.reduceEqDiff, Nat.reduceAdd, Nat.reduceSub, Nat.reduceMul, Nat.reduceLeDiff, reduceCtorEq, Int.reduceLE, Int.reduceLT, Int.reduceNeg, Int.reduceToNat, Nat.reduceSubDiff, Nat.reducePow, hlt2]
      have e1 : hd e m (a :: r) k = halfDmg e m (a :: r) := by
        unfold hd halfDmg
        rw [List.take_of_length_le (by rw [halfs_len]; simp; omega)]
      rw [e1]
      refine post_fin0 normal_ok (hset _) (by simp) ?_ ?_
      · simp -implicitDefEqProofs (disch := first | omega | (simp only [go_sem, ↓reduceIte, reduceCtorEq]; first | done | omega)) only [go_sem, ↓reduceIte, Nat.reduceLT, Nat.reduceEqDiff, Nat.reduceAdd, Nat.reduceSub, Nat.reduceMul, Nat.reduceLeDiff, reduceCtorEq, Int.reduceLE, Int.reduceLT, Int.reduceNeg, Int.reduceToNat, Nat.reduceSubDiff, Nat.reducePow]
        rfl
      · (simp only [go_sem, ↓reduceIte, Nat.reduceLT, Nat.reduceEqDiff, Nat.reduceAdd, Nat.reduceSub, Nat.reduceMul, Nat.reduceLeDiff, reduceCtorEq, Int.reduceLE, Int.reduceLT, Int.reduceNeg, Int.reduceToNat, Nat.reduceSubDiff, Nat.reducePow] <;> first | done | omega)
end
end Go.Nac.L2
set_option linter.unusedSimpArgs false
set_option linter.unusedVariables false
set_option linter.unnecessarySimpa false
set_option maxRecDepth 10000
namespace Go.Nac.L2
attribute [local congr] b1_congr b2_congr Wp_congr wpOps_congr thenK_congr blockK_congr gK_congr cK_congr
section
variable {X : FuncId → List PV → PV → Prop}
theorem smallC_of {l : List Cyc} (h : chkCycs l = 0) : ∀ c ∈ l, smallC c := fun c hc => by
  have := (chkCycs_zero.1 h).2 c hc
  unfold goodC at this; unfold smallC; omega
theorem smallR_of {l : List Rev} (h : chkRevs l = 0) : ∀ c ∈ l, smallR c := fun c hc => by
  have := turns_good _ _ _ (chkRevs_zero.1 h).2 c hc
  exact this.2
theorem q_load_Damage (l : List Cyc) (e : Int) (hl : l.length ≤ 1048576) : Q X 32 [.fs (l.map encCyc), .I e] (.tup [.I (dmgRes l e).1, .I (dmgRes l e).2]) := by
  intro M
  (refine ACall_fn (cf := L2.c32) rfl rfl fun hM hA => ?_; simp only [L2.c32]; rw [mk2 _ (by decide)]; simp -implicitDefEqProofs (disch := first | omega | (simp only [go_sem, ↓reduceIte, reduceCtorEq]; first | done | omega)) only [go_sem, ↓reduceIte, Nat.reduceLT, Nat.reduceEqDiff, Nat.reduceAdd, Nat.reduceSub, Nat.reduceMul, Nat.reduceLeDiff, reduceCtorEq, Int.reduceLE, Int.reduceLT, Int.reduceNeg, Int.reduceToNat, Nat.reduceSubDiff, Nat.reducePow])
  refine callP_q (q_load_CheckCycles l hl _) ?_
  simp -implicitDefEqProofs (disch := first | omega | (simp only [go_sem, ↓reduceIte, reduceCtorEq]; first | done | omega)) only [go_sem, ↓reduceIte, Nat.reduceLT, Nat.reduceEqDiff, Nat.reduceAdd, Nat.reduceSub, Nat.reduceMul, Nat.reduceLeDiff, reduceCtorEq, Int.reduceLE, Int.reduceLT, Int.reduceNeg, Int.reduceToNat, Nat.reduceSubDiff, Nat.reducePow]
  repeat' (first | (refine callP_q (q_load_checkExponent _ _) ?_; (try simp -implicitDefEqProofs (disch := first | omega | (simp only [go_sem, ↓reduceIte, reduceCtorEq]; first | done | omega)) only [go_sem, ↓reduceIte, Nat.reduceLT, Nat.reduceEqDiff, Nat.reduceAdd, Nat.reduceSub, Nat.reduceMul, Nat.reduceLeDiff, reduceCtorEq, Int.reduceLE, Int.reduceLT, Int.reduceNeg, Int.reduceToNat, Nat.reduceSubDiff, Nat.reducePow])) | (refine callP_q (q_load_first [_, _] (by simp) _) ?_; (try simp -implicitDefEqProofs (disch := first | omega | (simp only [go_sem, ↓reduceIte, reduceCtorEq]; first | done | omega)) only [go_sem, ↓reduceIte, Nat.reduceLT, Nat.reduceEqDiff, Nat.reduceAdd, Nat.reduceSub, Nat.reduceMul, Nat.reduceLeDiff, reduceCtorEq, Int.reduceLE, Int.reduceLT, Int.reduceNeg, Int.reduceToNat, Nat.reduceSubDiff, Nat.reducePow])) | (refine cK_cases ?_ ?_ <;> intro hc <;> (try simp only [decide_eq_true_eq, decide_eq_false_iff_not, Classical.not_not, Bool.not_eq_true, Bool.not_eq_true', Bool.not_eq_false', Bool.false_or, Bool.or_false, Bool.true_or, Bool.or_true, Bool.false_and, Bool.and_false, Bool.true_and, Bool.and_true] at hc) <;> (try simp -implicitDefEqProofs (disch := first | omega | (simp only [go_sem, ↓reduceIte, reduceCtorEq, hc]; first | done | omega)) only [go_sem, ↓reduceIte, Nat.reduceLT, Nat.reduceEqDiff, Nat.reduceAdd, Nat.reduceSub, Nat.reduceMul, Nat.reduceLeDiff, reduceCtorEq, Int.reduceLE, Int.reduceLT, Int.reduceNeg, Int.reduceToNat, Nat.reduceSubDiff, Nat.reducePow, hc])) | (refine gK_cases ?_ ?_ <;> intro hc <;> (try simp only [decide_eq_true_eq, decide_eq_false_iff_not, Classical.not_not, Bool.not_eq_true, Bool.not_eq_true', Bool.not_eq_false', Bool.false_or, Bool.or_false, Bool.true_or, Bool.or_true, Bool.false_and, Bool.and_false, Bool.true_and, Bool.and_true] at hc) <;> (try simp -implicitDefEqProofs (disch := first | omega | (simp only [go_sem, ↓reduceIte, reduceCtorEq, hc]; first | done | omega)) only [go_sem, ↓reduceIte, Nat.reduceLT, Nat.reduceEqDiff, Nat.reduceAdd, Nat.reduceSub, Nat.reduceMul, Nat.reduceLeDiff, reduceCtorEq, Int.reduceLE, Int.reduceLT, Int.reduceNeg, Int.reduceToNat, Nat.reduceSubDiff, Nat.reducePow, hc])))
  · (first | refine post_fin ret_ok hM rfl ?_ ?_ | refine post_fin0 ret_ok hM rfl ?_ ?_ | refine post_fin normal_ok hM rfl ?_ ?_ | refine post_fin0 normal_ok hM rfl ?_ ?_)
    · simp -implicitDefEqProofs (disch := first | omega | (simp only [go_sem, ↓reduceIte, reduceCtorEq]; first | done | omega)) only [go_sem, ↓reduceIte, Nat.reduceLT, Nat.reduceEqDiff, Nat.reduceAdd, Nat.reduceSub, Nat.reduceMul, Nat.reduceLeDiff, reduceCtorEq, Int.reduceLE, Int.reduceLT, Int.reduceNeg, Int.reduceToNat, Nat.reduceSubDiff, Nat.reducePow]
      simp [dmgRes, hc]
    · (simp only [go_sem, ↓reduceIte, Nat.reduceLT, Nat.reduceEqDiff, Nat.reduceAdd, Nat.reduceSub, Nat.reduceMul, Nat.reduceLeDiff, reduceCtorEq, Int.reduceLE, Int.reduceLT, Int.reduceNeg, Int.reduceToNat, Nat.reduceSubDiff, Nat.reducePow] <;> first | done | omega)
  · have he := fst0_two hc
    have hr := rng_zero.1 he.2
    have hself : (M ++ [mRow 0 (0, false)])[M.length]? = some (mRow 0 (0, false)) := by rw [getM0]; rfl
    refine callP_l (q_meter_cycles hself ⟨by decide, by decide⟩ hl (smallC_of he.1) hr (by omega)) ?_
    rw [setM0]
    simp -implicitDefEqProofs (disch := first | omega | (simp only [go_sem, ↓reduceIte, reduceCtorEq]; first | done | omega)) only [go_sem, ↓reduceIte, Nat.reduceLT, Nat.reduceEqDiff, Nat.reduceAdd, Nat.reduceSub, Nat.reduceMul, Nat.reduceLeDiff, reduceCtorEq, Int.reduceLE, Int.reduceLT, Int.reduceNeg, Int.reduceToNat, Nat.reduceSubDiff, Nat.reducePow]
    refine callP_q (q_meter_result (m := cycDmg e 1 (0, false) l) (v := 0) (by rw [getM0]; rfl)) ?_
    simp -implicitDefEqProofs (disch := first | omega | (simp only [go_sem, ↓reduceIte, reduceCtorEq]; first | done | omega)) only [go_sem, ↓reduceIte, Nat.reduceLT, Nat.reduceEqDiff, Nat.reduceAdd, Nat.reduceSub, Nat.reduceMul, Nat.reduceLeDiff, reduceCtorEq, Int.reduceLE, Int.reduceLT, Int.reduceNeg, Int.reduceToNat, Nat.reduceSubDiff, Nat.reducePow]
    (first | refine post_fin ret_ok hM rfl ?_ ?_ | refine post_fin0 ret_ok hM rfl ?_ ?_ | refine post_fin normal_ok hM rfl ?_ ?_ | refine post_fin0 normal_ok hM rfl ?_ ?_)
    · simp -implicitDefEqProofs (disch := first | omega | (simp only [go_sem, ↓reduceIte, reduceCtorEq]; first | done | omega)) only [go_sem, ↓reduceIte, Nat.reduceLT, Nat.reduceEqDiff, Nat.reduceAdd, Nat.reduceSub, Nat.reduceMul, Nat.reduceLeDiff, reduceCtorEq, Int.reduceLE, Int.reduceLT, Int.reduceNeg, Int.reduceToNat, Nat.reduceSubDiff, Nat.reducePow]
      simp [dmgRes, hc]
    · (simp only [go_sem, ↓reduceIte, Nat.reduceLT, Nat.reduceEqDiff, Nat.reduceAdd, Nat.reduceSub, Nat.reduceMul, Nat.reduceLeDiff, reduceCtorEq, Int.reduceLE, Int.reduceLT, Int.reduceNeg, Int.reduceToNat, Nat.reduceSubDiff, Nat.reducePow] <;> first | done | omega)
theorem q_load_Half (l : List Rev) (e : Int) (hl : l.length ≤ 1048576) : Q X 33 [.fs (l.map encRev), .I e] (.tup [.I (halfRes l e).1, .I (halfRes l e).2]) := by
  intro M
  (refine ACall_fn (cf := L2.c33) rfl rfl fun hM hA => ?_; simp only [L2.c33]; rw [mk2 _ (by decide)]; simp -implicitDefEqProofs (disch := first | omega | (simp only [go_sem, ↓reduceIte, reduceCtorEq]; first | done | omega)) only [go_sem, ↓reduceIte, Nat.reduceLT, Nat.reduceEqDiff, Nat.reduceAdd, Nat.reduceSub, Nat.reduceMul, Nat.reduceLeDiff, reduceCtorEq, Int.reduceLE, Int.reduceLT, Int.reduceNeg, Int.reduceToNat, Nat.reduceSubDiff, Nat.reducePow])
  refine callP_q (q_load_CheckReversals l hl _) ?_
  simp -implicitDefEqProofs (disch := first | omega | (simp only [go_sem, ↓reduceIte, reduceCtorEq]; first | done | omega)) only [go_sem, ↓reduceIte, Nat.reduceLT, Nat.reduceEqDiff, Nat.reduceAdd, Nat.reduceSub, Nat.reduceMul, Nat.reduceLeDiff, reduceCtorEq, Int.reduceLE, Int.reduceLT, Int.reduceNeg, Int.reduceToNat, Nat.reduceSubDiff, Nat.reducePow]
  repeat' (first | (refine callP_q (q_load_checkExponent _ _) ?_; (try simp -implicitDefEqProofs (disch := first | omega | (simp only [go_sem, ↓reduceIte, reduceCtorEq]; first | done | omega)) only [go_sem, ↓reduceIte, Nat.reduceLT, Nat.reduceEqDiff, Nat.reduceAdd, Nat.reduceSub, Nat.reduceMul, Nat.reduceLeDiff, reduceCtorEq, Int.reduceLE, Int.reduceLT, Int.reduceNeg, Int.reduceToNat, Nat.reduceSubDiff, Nat.reducePow])) | (refine callP_q (q_load_first [_, _] (by simp) _) ?_; (try simp -implicitDefEqProofs (disch := first | omega | (simp only [go_sem, ↓reduceIte, reduceCtorEq]; first | done | omega)) only [go_sem, ↓reduceIte, Nat.reduceLT, Nat.reduceEqDiff, Nat.reduceAdd, Nat.reduceSub, Nat.reduceMul, Nat.reduceLeDiff, reduceCtorEq, Int.reduceLE, Int.reduceLT, Int.reduceNeg, Int.reduceToNat, Nat.reduceSubDiff, Nat.reducePow])) | (refine cK_cases ?_ ?_ <;> intro hc <;> (try simp only [decide_eq_true_eq, decide_eq_false_iff_not, Classical.not_not, Bool.not_eq_true, Bool.not_eq_true', Bool.not_eq_false', Bool.false_or, Bool.or_false, Bool.true_or, Bool.or_true, Bool.false_and, Bool.and_false, Bool.true_and, Bool.and_true] at hc) <;> (try simp -implicitDefEqProofs (disch := first | omega | (simp only [go_sem, ↓reduceIte, reduceCtorEq, hc]; first | done | omega)) only [go_sem, ↓reduceIte, Nat.reduceLT, Nat.reduceEqDiff, Nat.reduceAdd, Nat.reduceSub, Nat.reduceMul, Nat.reduceLeDiff, reduceCtorEq, Int.reduceLE, Int.reduceLT, Int.reduceNeg, Int.reduceToNat, Nat.reduceSubDiff, Nat.reducePow, hc])) | (refine gK_cases ?_ ?_ <;> intro hc <;> (try simp only [decide_eq_true_eq, decide_eq_false_iff_not, Classical.not_not, Bool.not_eq_true, Bool.not_eq_true', Bool.not_eq_false', Bool.false_or, Bool.or_false, Bool.true_or, Bool.or_true, Bool.false_and, Bool.and_false, Bool.true_and, Bool.and_true] at hc) <;> (try simp -implicitDefEqProofs (disch := first | omega | (simp only [go_sem, ↓reduceIte, reduceCtorEq, hc]; first | done | omega)) only [go_sem, ↓reduceIte, Nat.reduceLT, Nat.reduceEqDiff, Nat.reduceAdd, Nat.reduceSub, Nat.reduceMul, Nat.reduceLeDiff, reduceCtorEq, Int.reduceLE, Int.reduceLT, Int.reduceNeg, Int.reduceToNat, Nat.reduceSubDiff, Nat.reducePow, hc])))
  · (first | refine post_fin ret_ok hM rfl ?_ ?_ | refine post_fin0 ret_ok hM rfl ?_ ?_ | refine post_fin normal_ok hM rfl ?_ ?_ | refine post_fin0 normal_ok hM rfl ?_ ?_)
    · simp -implicitDefEqProofs (disch := first | omega | (simp only [go_sem, ↓reduceIte, reduceCtorEq]; first | done | omega)) only [go_sem, ↓reduceIte, Nat.reduceLT, Nat.reduceEqDiff, Nat.reduceAdd, Nat.reduceSub, Nat.reduceMul, Nat.reduceLeDiff, reduceCtorEq, Int.reduceLE, Int.reduceLT, Int.reduceNeg, Int.reduceToNat, Nat.reduceSubDiff, Nat.reducePow]
      simp [halfRes, hc]
    · (simp only [go_sem, ↓reduceIte, Nat.reduceLT, Nat.reduceEqDiff, Nat.reduceAdd, Nat.reduceSub, Nat.reduceMul, Nat.reduceLeDiff, reduceCtorEq, Int.reduceLE, Int.reduceLT, Int.reduceNeg, Int.reduceToNat, Nat.reduceSubDiff, Nat.reducePow] <;> first | done | omega)
  · have he := fst0_two hc
    have hr := rng_zero.1 he.2
    have hself : (M ++ [mRow 0 (0, false)])[M.length]? = some (mRow 0 (0, false)) := by rw [getM0]; rfl
    refine callP_l (q_meter_halves hself ⟨by decide, by decide⟩ hl (smallR_of he.1) hr) ?_
    rw [setM0]
    simp -implicitDefEqProofs (disch := first | omega | (simp only [go_sem, ↓reduceIte, reduceCtorEq]; first | done | omega)) only [go_sem, ↓reduceIte, Nat.reduceLT, Nat.reduceEqDiff, Nat.reduceAdd, Nat.reduceSub, Nat.reduceMul, Nat.reduceLeDiff, reduceCtorEq, Int.reduceLE, Int.reduceLT, Int.reduceNeg, Int.reduceToNat, Nat.reduceSubDiff, Nat.reducePow]
    refine callP_q (q_meter_result (m := halfDmg e (0, false) l) (v := 0) (by rw [getM0]; rfl)) ?_
    simp -implicitDefEqProofs (disch := first | omega | (simp only [go_sem, ↓reduceIte, reduceCtorEq]; first | done | omega)) only [go_sem, ↓reduceIte, Nat.reduceLT, Nat.reduceEqDiff, Nat.reduceAdd, Nat.reduceSub, Nat.reduceMul, Nat.reduceLeDiff, reduceCtorEq, Int.reduceLE, Int.reduceLT, Int.reduceNeg, Int.reduceToNat, Nat.reduceSubDiff, Nat.reducePow]
    (first | refine post_fin ret_ok hM rfl ?_ ?_ | refine post_fin0 ret_ok hM rfl ?_ ?_ | refine post_fin normal_ok hM rfl ?_ ?_ | refine post_fin0 normal_ok hM rfl ?_ ?_)
    · simp -implicitDefEqProofs (disch := first | omega | (simp only [go_sem, ↓reduceIte, reduceCtorEq]; first | done | omega)) only [go_sem, ↓reduceIte, Nat.reduceLT, Nat.reduceEqDiff, Nat.reduceAdd, Nat.reduceSub, Nat.reduceMul, Nat.reduceLeDiff, reduceCtorEq, Int.reduceLE, Int.reduceLT, Int.reduceNeg, Int.reduceToNat, Nat.reduceSubDiff, Nat.reducePow]
      simp [halfRes, hc]
    · (simp only [go_sem, ↓reduceIte, Nat.reduceLT, Nat.reduceEqDiff, Nat.reduceAdd, Nat.reduceSub, Nat.reduceMul, Nat.reduceLeDiff, reduceCtorEq, Int.reduceLE, Int.reduceLT, Int.reduceNeg, Int.reduceToNat, Nat.reduceSubDiff, Nat.reducePow] <;> first | done | omega)
end
end Go.Nac.L2
set_option linter.unusedSimpArgs false
set_option linter.unusedVariables false
set_option linter.unnecessarySimpa false
set_option maxRecDepth 10000
namespace Go.Nac.L2
attribute [local congr] b1_congr b2_congr Wp_congr wpOps_congr thenK_congr blockK_congr gK_congr cK_congr
section
variable {X : FuncId → List PV → PV → Prop}
end
end Go.Nac.L2
set_option linter.unusedSimpArgs false
set_option linter.unusedVariables false
set_option linter.unnecessarySimpa false
set_option maxRecDepth 10000
namespace Go.Nac.L2
attribute [local congr] b1_congr b2_congr Wp_congr wpOps_congr thenK_congr blockK_congr gK_congr cK_congr
section
variable {X : FuncId → List PV → PV → Prop}
theorem small_take {l : List Rev} {k : Nat} (h : ∀ c ∈ l, smallR c) : ∀ c ∈ (countOf (l.take k)).2, smallR c := fun c hc => h c (List.mem_of_mem_take (count_mem _ c hc))
end
end Go.Nac.L2
set_option linter.unusedSimpArgs false
set_option linter.unusedVariables false
set_option linter.unnecessarySimpa false
set_option maxRecDepth 10000
namespace Go.Nac.L2
attribute [local congr] b1_congr b2_congr Wp_congr wpOps_congr thenK_congr blockK_congr gK_congr cK_congr
section
variable {X : FuncId → List PV → PV → Prop}
theorem q_load_count (l : List Rev) (hl : l.length ≤ 1000000) (hs : ∀ c ∈ l, smallR c) : Q X 63 [.fs (l.map encRev)] (.tup [.fs ((countOf l).1.map encCyc), .fs ((countOf l).2.reverse.map encRev)]) := by
  intro M
  (refine ACall_fn (cf := L2.c63) rfl rfl fun hM hA => ?_; simp only [L2.c63]; rw [mk1 _ (by decide)]; simp -implicitDefEqProofs (disch := first | omega | (simp only [go_sem, ↓reduceIte, reduceCtorEq]; first | done | omega)) only [go_sem, ↓reduceIte, Nat.reduceLT, Nat.reduceEqDiff, Nat.reduceAdd, Nat.reduceSub, Nat.reduceMul, Nat.reduceLeDiff, reduceCtorEq, Int.reduceLE, Int.reduceLT, Int.reduceNeg, Int.reduceToNat, Nat.reduceSubDiff, Nat.reducePow])
  refine loop_mk (α := Nat × Nat) (0, 0) (fun q => q.1 ≤ l.length) (fun q => M ++ [.row true 4 (countOf (l.take q.1)).1.length ((countOf (l.take q.1)).1.map encCyc), .row true 2 q.2 ((countOf (l.take q.1)).2.reverse.map encRev)])
    (fun q => [(4, .os M.length (countOf (l.take q.1)).1.length 0 (countOf (l.take q.1)).1.length), (5, .os (M.length + 1) q.2 0 (countOf (l.take q.1)).2.length), (13, .fs (l.map encRev)), (14, .I l.length), (15, .I q.1)]) (fun q => l.length - q.1) (Nat.zero_le _) rfl rfl ?_
  rintro ⟨k, v⟩ hk
  simp only at hk ⊢
  have hclen := count_len (l.take k)
  rw [List.length_take] at hclen
  by_cases hlt : k < l.length
  · obtain ⟨x, h1⟩ : ∃ x, l[k]? = some x := ⟨_, List.getElem?_eq_getElem hlt⟩
    have hs1 := count_snoc h1
    have hsm := small_take (k := k) hs
    generalize countOf (l.take k) = s at hs1 hsm hclen ⊢
    obtain ⟨cs, st⟩ := s
    simp only at hs1 hsm hclen ⊢
    have hx : (st.reverse.map encRev ++ [PV.agg [.I x.at_, .I x.ld]]) = ((x :: st).reverse.map encRev) := by simp [encRev]
    have hsx : ∀ c ∈ x :: st, smallR c := fun c hc => by
      rcases List.mem_cons.1 hc with rfl | hc
      · exact hs c (List.mem_of_getElem? h1)
      · exact hsm c hc
    simp -implicitDefEqProofs (disch := first | omega | (simp only [go_sem, ↓reduceIte, reduceCtorEq, hlt, h1, encRev_cells, hx]; first | done | omega)) only [go_sem, ↓reduceIte, Nat.reduceLT, Nat.reduceEqDiff, Nat.reduceAdd, Nat.reduceSub, Nat.reduceMul, Nat.reduceLeDiff, reduceCtorEq, Int.reduceLE, Int.reduceLT, Int.reduceNeg, Int.reduceToNat, Nat.reduceSubDiff, Nat.reducePow, hlt, h1, encRev_cells, hx]
    generalize hJ : Blk.row true 2 0 [PV.agg [.I x.at_, .I x.ld]] = J
    have hJl : ∀ n, J.low n := by intro n; rw [← hJ]; (simp only [go_sem, ↓reduceIte, Nat.reduceLT, Nat.reduceEqDiff, Nat.reduceAdd, Nat.reduceSub, Nat.reduceMul, Nat.reduceLeDiff, reduceCtorEq, Int.reduceLE, Int.reduceLT, Int.reduceNeg, Int.reduceToNat, Nat.reduceSubDiff, Nat.reducePow, encRev_low] <;> first | done | omega)
    refine loop_mk (α := List Cyc × List Rev × Nat) (cs, x :: st, v + 1) (fun p => 2 * p.1.length + p.2.1.length = 2 * cs.length + st.length + 1 ∧ (∀ c ∈ p.2.1, smallR c) ∧ countStep (cs, st) x = (p.1 ++ (drain p.2.1).1, (drain p.2.1).2))
      (fun p => M ++ [.row true 4 p.1.length (p.1.map encCyc), .row true 2 p.2.2 (p.2.1.reverse.map encRev), J]) (fun p => [(4, .os M.length p.1.length 0 p.1.length), (5, .os (M.length + 1) p.2.2 0 p.2.1.length), (13, .fs (l.map encRev)), (14, .I l.length), (15, .I k)]) (fun p => p.2.1.length) ⟨by simp; omega, hsx, rfl⟩ rfl rfl ?_
    rintro ⟨acc, s, u⟩ ⟨hlen, hsm2, hcs⟩
    simp only at hlen hsm2 hcs ⊢
    clear hsx hx hJ
    by_cases h4 : 4 ≤ s.length
    · have f4 : (4 : Int) ≤ s.length := by omega
      obtain ⟨p, a, b, c, d, hp⟩ := last4 (l := s.reverse) (by simpa using h4)
      obtain ⟨r, hr⟩ : ∃ r, s = d :: c :: b :: a :: r := ⟨p.reverse, by have := congrArg List.reverse hp; simpa using this⟩
      have hpr : p = r.reverse := by rw [hr] at hp; simpa using hp.symm
      subst hpr
      obtain ⟨g1, g2, g3, g4⟩ := get4 r.reverse a b c d
      rw [← hp, List.length_reverse] at g1 g2 g3 g4
      have hsl : s.length = r.length + 4 := by rw [hr]; simp
      have e4 : (s.length : Int) - 4 = (r.length : Int) := by omega
      have e3 : (s.length : Int) - 3 = ((r.length + 1 : Nat) : Int) := by omega
      have hsub : s.length - r.length = 4 := by omega
      have hle : r.length ≤ s.length := by omega
      have hle1 : r.length + 1 ≤ s.length := by omega
      have ha := hsm2 a (by rw [hr]; simp)
      have hb := hsm2 b (by rw [hr]; simp)
      have hcc := hsm2 c (by rw [hr]; simp)
      have hd := hsm2 d (by rw [hr]; simp)
      have hcell : cellsE (s.reverse.map encRev) r.length 0 8 (some (encRev a)) = some [.I a.at_, .I a.ld, .I b.at_, .I b.ld, .I c.at_, .I c.ld, .I d.at_, .I d.ld] := by
        have e : (s.reverse.map encRev).drop r.length = [encRev a, encRev b, encRev c, encRev d] := by rw [hp]; simp
        simp only [cellsE]
        rw [if_neg (by simp [encRev_cells]), e]
        simp [encRev_cells]
      simp -implicitDefEqProofs (disch := first | omega | (simp only [go_sem, ↓reduceIte, reduceCtorEq, f4, h1, g1, g2, g3, g4, e4, e3, hsub, hle, hle1, hcell, encRev_cells]; first | done | omega)) only [go_sem, ↓reduceIte, Nat.reduceLT, Nat.reduceEqDiff, Nat.reduceAdd, Nat.reduceSub, Nat.reduceMul, Nat.reduceLeDiff, reduceCtorEq, Int.reduceLE, Int.reduceLT, Int.reduceNeg, Int.reduceToNat, Nat.reduceSubDiff, Nat.reducePow, f4, h1, g1, g2, g3, g4, e4, e3, hsub, hle, hle1, hcell, encRev_cells]
      refine ⟨by simp [pairsOk, okPair, apartL], ?_⟩
      have ht : List.take (r.length + 1) (s.reverse.map encRev) = (a :: r).reverse.map encRev := by rw [hp]; simp [List.take_append]; rw [List.take_of_length_le (by simp)]
      have hx2 : (a :: r).reverse.map encRev ++ [PV.agg [.I d.at_, .I d.ld]] = (d :: a :: r).reverse.map encRev := by simp [encRev]
      have hnl : (s.reverse.map encRev).length = r.length + 4 := by simp; omega
      have hns : closesB a b c d = false → countStep (cs, st) x = (acc, s) := by
        intro h; rw [hcs, hr, drain_no h, List.append_nil]
      have hgo : closesB a b c d = true → countStep (cs, st) x = ((acc ++ [mkCyc b c]) ++ (drain (d :: a :: r)).1, (drain (d :: a :: r)).2) := by
        intro h; rw [hcs, hr, drain_yes h]; simp
      repeat' (first | (refine callP_q (q_load_apart b c hb hcc _) ?_; (try simp -implicitDefEqProofs (disch := first | omega | (simp only [go_sem, ↓reduceIte, reduceCtorEq, encRev_cells, e3, hle1, appR_cut, ht, hx2]; first | done | omega)) only [go_sem, ↓reduceIte, Nat.reduceLT, Nat.reduceEqDiff, Nat.reduceAdd, Nat.reduceSub, Nat.reduceMul, Nat.reduceLeDiff, reduceCtorEq, Int.reduceLE, Int.reduceLT, Int.reduceNeg, Int.reduceToNat, Nat.reduceSubDiff, Nat.reducePow, encRev_cells, e3, hle1, appR_cut, ht, hx2])) | (refine callP_q (q_load_apart a b ha hb _) ?_; (try simp -implicitDefEqProofs (disch := first | omega | (simp only [go_sem, ↓reduceIte, reduceCtorEq, encRev_cells, e3, hle1, appR_cut, ht, hx2]; first | done | omega)) only [go_sem, ↓reduceIte, Nat.reduceLT, Nat.reduceEqDiff, Nat.reduceAdd, Nat.reduceSub, Nat.reduceMul, Nat.reduceLeDiff, reduceCtorEq, Int.reduceLE, Int.reduceLT, Int.reduceNeg, Int.reduceToNat, Nat.reduceSubDiff, Nat.reducePow, encRev_cells, e3, hle1, appR_cut, ht, hx2])) | (refine callP_q (q_load_apart c d hcc hd _) ?_; (try simp -implicitDefEqProofs (disch := first | omega | (simp only [go_sem, ↓reduceIte, reduceCtorEq, encRev_cells, e3, hle1, appR_cut, ht, hx2]; first | done | omega)) only [go_sem, ↓reduceIte, Nat.reduceLT, Nat.reduceEqDiff, Nat.reduceAdd, Nat.reduceSub, Nat.reduceMul, Nat.reduceLeDiff, reduceCtorEq, Int.reduceLE, Int.reduceLT, Int.reduceNeg, Int.reduceToNat, Nat.reduceSubDiff, Nat.reducePow, encRev_cells, e3, hle1, appR_cut, ht, hx2])) | (refine cK_cases ?_ ?_ <;> intro hc <;> (try simp only [decide_eq_true_eq, decide_eq_false_iff_not, Classical.not_not, Bool.not_eq_true, Bool.not_eq_true', Bool.not_eq_false', Bool.false_or, Bool.or_false, Bool.true_or, Bool.or_true, Bool.false_and, Bool.and_false, Bool.true_and, Bool.and_true] at hc) <;> (try simp -implicitDefEqProofs (disch := first | omega | (simp only [go_sem, ↓reduceIte, reduceCtorEq, encRev_cells, e3, hle1, appR_cut, ht, hx2, hc]; first | done | omega)) only [go_sem, ↓reduceIte, Nat.reduceLT, Nat.reduceEqDiff, Nat.reduceAdd, Nat.reduceSub, Nat.reduceMul, Nat.reduceLeDiff, reduceCtorEq, Int.reduceLE, Int.reduceLT, Int.reduceNeg, Int.reduceToNat, Nat.reduceSubDiff, Nat.reducePow, encRev_cells, e3, hle1, appR_cut, ht, hx2, hc])) | (refine gK_cases ?_ ?_ <;> intro hc <;> (try simp only [decide_eq_true_eq, decide_eq_false_iff_not, Classical.not_not, Bool.not_eq_true, Bool.not_eq_true', Bool.not_eq_false', Bool.false_or, Bool.or_false, Bool.true_or, Bool.or_true, Bool.false_and, Bool.and_false, Bool.true_and, Bool.and_true] at hc) <;> (try simp -implicitDefEqProofs (disch := first | omega | (simp only [go_sem, ↓reduceIte, reduceCtorEq, encRev_cells, e3, hle1, appR_cut, ht, hx2, hc]; first | done | omega)) only [go_sem, ↓reduceIte, Nat.reduceLT, Nat.reduceEqDiff, Nat.reduceAdd, Nat.reduceSub, Nat.reduceMul, Nat.reduceLeDiff, reduceCtorEq, Int.reduceLE, Int.reduceLT, Int.reduceNeg, Int.reduceToNat, Nat.reduceSubDiff, Nat.reducePow, encRev_cells, e3, hle1, appR_cut, ht, hx2, hc])))
      · have hcs := hns (by simp [closesB]; omega)
        refine Wp_cut_at hM rfl 2 (by simp) (by first | done | (simp only [go_sem, ↓reduceIte, Nat.reduceLT, Nat.reduceEqDiff, Nat.reduceAdd, Nat.reduceSub, Nat.reduceMul, Nat.reduceLeDiff, reduceCtorEq, Int.reduceLE, Int.reduceLT, Int.reduceNeg, Int.reduceToNat, Nat.reduceSubDiff, Nat.reducePow, encRev_low, encCyc_low] <;> first | done | (refine ⟨?_, ?_⟩ <;> omega) | omega)) (lowL_mk (by first | done | (simp only [go_sem, ↓reduceIte, Nat.reduceLT, Nat.reduceEqDiff, Nat.reduceAdd, Nat.reduceSub, Nat.reduceMul, Nat.reduceLeDiff, reduceCtorEq, Int.reduceLE, Int.reduceLT, Int.reduceNeg, Int.reduceToNat, Nat.reduceSubDiff, Nat.reducePow, encRev_low, encCyc_low] <;> first | done | (refine ⟨?_, ?_⟩ <;> omega) | omega))) ?_
        simp -implicitDefEqProofs (disch := first | omega | (simp only [go_sem, ↓reduceIte, reduceCtorEq]; first | done | omega)) only [go_sem, ↓reduceIte, Nat.reduceLT, Nat.reduceEqDiff, Nat.reduceAdd, Nat.reduceSub, Nat.reduceMul, Nat.reduceLeDiff, reduceCtorEq, Int.reduceLE, Int.reduceLT, Int.reduceNeg, Int.reduceToNat, Nat.reduceSubDiff, Nat.reducePow]
        exact again' (k + 1, u) (by simp; omega) (by simp; omega) (by simp only [hs1, hcs]) (by simp only [hs1, hcs]; rfl)
      · have hcs := hns (by simp [closesB]; omega)
        refine Wp_cut_at hM rfl 2 (by simp) (by first | done | (simp only [go_sem, ↓reduceIte, Nat.reduceLT, Nat.reduceEqDiff, Nat.reduceAdd, Nat.reduceSub, Nat.reduceMul, Nat.reduceLeDiff, reduceCtorEq, Int.reduceLE, Int.reduceLT, Int.reduceNeg, Int.reduceToNat, Nat.reduceSubDiff, Nat.reducePow, encRev_low, encCyc_low] <;> first | done | (refine ⟨?_, ?_⟩ <;> omega) | omega)) (lowL_mk (by first | done | (simp only [go_sem, ↓reduceIte, Nat.reduceLT, Nat.reduceEqDiff, Nat.reduceAdd, Nat.reduceSub, Nat.reduceMul, Nat.reduceLeDiff, reduceCtorEq, Int.reduceLE, Int.reduceLT, Int.reduceNeg, Int.reduceToNat, Nat.reduceSubDiff, Nat.reducePow, encRev_low, encCyc_low] <;> first | done | (refine ⟨?_, ?_⟩ <;> omega) | omega))) ?_
        simp -implicitDefEqProofs (disch := first | omega | (simp only [go_sem, ↓reduceIte, reduceCtorEq]; first | done | omega)) only [go_sem, ↓reduceIte, Nat.reduceLT, Nat.reduceEqDiff, Nat.reduceAdd, Nat.reduceSub, Nat.reduceMul, Nat.reduceLeDiff, reduceCtorEq, Int.reduceLE, Int.reduceLT, Int.reduceNeg, Int.reduceToNat, Nat.reduceSubDiff, Nat.reducePow]
        exact again' (k + 1, u) (by simp; omega) (by simp; omega) (by simp only [hs1, hcs]) (by simp only [hs1, hcs]; rfl)
      · have hcs := hgo (by simp [closesB]; omega)
        have htc : (acc.map encCyc).take acc.length = acc.map encCyc := List.take_of_length_le (by simp)
        rw [htc]
        refine Wp_cut_at hM rfl 3 (by simp) (by first | done | (simp only [go_sem, ↓reduceIte, Nat.reduceLT, Nat.reduceEqDiff, Nat.reduceAdd, Nat.reduceSub, Nat.reduceMul, Nat.reduceLeDiff, reduceCtorEq, Int.reduceLE, Int.reduceLT, Int.reduceNeg, Int.reduceToNat, Nat.reduceSubDiff, Nat.reducePow, encRev_low, encCyc_low, hJl] <;> first | done | (refine ⟨?_, ?_⟩ <;> omega) | omega)) (lowL_mk (by first | done | (simp only [go_sem, ↓reduceIte, Nat.reduceLT, Nat.reduceEqDiff, Nat.reduceAdd, Nat.reduceSub, Nat.reduceMul, Nat.reduceLeDiff, reduceCtorEq, Int.reduceLE, Int.reduceLT, Int.reduceNeg, Int.reduceToNat, Nat.reduceSubDiff, Nat.reducePow, encRev_low, encCyc_low, hJl] <;> first | done | (refine ⟨?_, ?_⟩ <;> omega) | omega))) ?_
        simp -implicitDefEqProofs (disch := first | omega | (simp only [go_sem, ↓reduceIte, reduceCtorEq]; first | done | omega)) only [go_sem, ↓reduceIte, Nat.reduceLT, Nat.reduceEqDiff, Nat.reduceAdd, Nat.reduceSub, Nat.reduceMul, Nat.reduceLeDiff, reduceCtorEq, Int.reduceLE, Int.reduceLT, Int.reduceNeg, Int.reduceToNat, Nat.reduceSubDiff, Nat.reducePow]
        refine again' (acc ++ [mkCyc b c], d :: a :: r, u + 1) ⟨?_, ?_, hcs⟩ ?_ ?_ ?_
        · simp at hlen ⊢; omega
        · intro y hy; refine hsm2 y ?_; rw [hr]; simp only [List.mem_cons] at hy ⊢; rcases hy with h | h | h <;> simp [h]
        · simp; omega
        · simp [encCyc, mkCyc, List.take_of_length_le]
        · simp
    · have f4 : ¬ (4 : Int) ≤ s.length := by omega
      rw [drain_short (by omega), List.append_nil] at hcs
      simp -implicitDefEqProofs (disch := first | omega | (simp only [go_sem, ↓reduceIte, reduceCtorEq, f4]; first | done | omega)) only [go_sem, ↓reduceIte, Nat.reduceLT, Nat.reduceEqDiff, Nat.reduceAdd, Nat.reduceSub, Nat.reduceMul, Nat.reduceLeDiff, reduceCtorEq, Int.reduceLE, Int.reduceLT, Int.reduceNeg, Int.reduceToNat, Nat.reduceSubDiff, Nat.reducePow, f4]
      refine Wp_cut_at hM rfl 2 (by simp) (by first | done | (simp only [go_sem, ↓reduceIte, Nat.reduceLT, Nat.reduceEqDiff, Nat.reduceAdd, Nat.reduceSub, Nat.reduceMul, Nat.reduceLeDiff, reduceCtorEq, Int.reduceLE, Int.reduceLT, Int.reduceNeg, Int.reduceToNat, Nat.reduceSubDiff, Nat.reducePow, encRev_low, encCyc_low] <;> first | done | (refine ⟨?_, ?_⟩ <;> omega) | omega)) (lowL_mk (by first | done | (simp only [go_sem, ↓reduceIte, Nat.reduceLT, Nat.reduceEqDiff, Nat.reduceAdd, Nat.reduceSub, Nat.reduceMul, Nat.reduceLeDiff, reduceCtorEq, Int.reduceLE, Int.reduceLT, Int.reduceNeg, Int.reduceToNat, Nat.reduceSubDiff, Nat.reducePow, encRev_low, encCyc_low] <;> first | done | (refine ⟨?_, ?_⟩ <;> omega) | omega))) ?_
      simp -implicitDefEqProofs (disch := first | omega | (simp only [go_sem, ↓reduceIte, reduceCtorEq]; first | done | omega)) only [go_sem, ↓reduceIte, Nat.reduceLT, Nat.reduceEqDiff, Nat.reduceAdd, Nat.reduceSub, Nat.reduceMul, Nat.reduceLeDiff, reduceCtorEq, Int.reduceLE, Int.reduceLT, Int.reduceNeg, Int.reduceToNat, Nat.reduceSubDiff, Nat.reducePow]
      exact again' (k + 1, u) (by simp; omega) (by simp; omega) (by simp only [hs1, hcs]) (by simp only [hs1, hcs]; rfl)
  · simp -implicitDefEqProofs (disch := first | omega | (simp only [go_sem, ↓reduceIte, reduceCtorEq, hlt]; first | done | omega)) only [go_sem, ↓reduceIte, Nat.reduceLT, Nat.reduceEqDiff, Nat.reduceAdd, Nat.reduceSub, Nat.reduceMul, Nat.reduceLeDiff, reduceCtorEq, Int.reduceLE, Int.reduceLT, Int.reduceNeg, Int.reduceToNat, Nat.reduceSubDiff, Nat.reducePow, hlt]
    (first | refine post_fin ret_ok hM rfl ?_ ?_ | refine post_fin0 ret_ok hM rfl ?_ ?_ | refine post_fin normal_ok hM rfl ?_ ?_ | refine post_fin0 normal_ok hM rfl ?_ ?_)
    · simp -implicitDefEqProofs (disch := first | omega | (simp only [go_sem, ↓reduceIte, reduceCtorEq]; first | done | omega)) only [go_sem, ↓reduceIte, Nat.reduceLT, Nat.reduceEqDiff, Nat.reduceAdd, Nat.reduceSub, Nat.reduceMul, Nat.reduceLeDiff, reduceCtorEq, Int.reduceLE, Int.reduceLT, Int.reduceNeg, Int.reduceToNat, Nat.reduceSubDiff, Nat.reducePow]
      rw [List.take_of_length_le (by omega)]
    · (simp only [go_sem, ↓reduceIte, Nat.reduceLT, Nat.reduceEqDiff, Nat.reduceAdd, Nat.reduceSub, Nat.reduceMul, Nat.reduceLeDiff, reduceCtorEq, Int.reduceLE, Int.reduceLT, Int.reduceNeg, Int.reduceToNat, Nat.reduceSubDiff, Nat.reducePow, encRev_low, encCyc_low] <;> first | done | omega)
end
end Go.Nac.L2
set_option linter.unusedSimpArgs false
set_option linter.unusedVariables false
set_option linter.unnecessarySimpa false
set_option maxRecDepth 10000
namespace Go.Nac.L2
attribute [local congr] b1_congr b2_congr Wp_congr wpOps_congr thenK_congr blockK_congr gK_congr cK_congr
section
variable {X : FuncId → List PV → PV → Prop}
theorem q_load_Count (l : List Rev) (hl : l.length ≤ 1000000) : Q X 29 [.fs (l.map encRev)] (.tup [.fs ((cntRes l).1.map encCyc), .fs ((cntRes l).2.reverse.map encRev), .I (chkRevs l)]) := by
  intro M
  (refine ACall_fn (cf := L2.c29) rfl rfl fun hM hA => ?_; simp only [L2.c29]; rw [mk1 _ (by decide)]; simp -implicitDefEqProofs (disch := first | omega | (simp only [go_sem, ↓reduceIte, reduceCtorEq]; first | done | omega)) only [go_sem, ↓reduceIte, Nat.reduceLT, Nat.reduceEqDiff, Nat.reduceAdd, Nat.reduceSub, Nat.reduceMul, Nat.reduceLeDiff, reduceCtorEq, Int.reduceLE, Int.reduceLT, Int.reduceNeg, Int.reduceToNat, Nat.reduceSubDiff, Nat.reducePow])
  refine callP_q (q_load_CheckReversals l (by omega) _) ?_
  simp -implicitDefEqProofs (disch := first | omega | (simp only [go_sem, ↓reduceIte, reduceCtorEq]; first | done | omega)) only [go_sem, ↓reduceIte, Nat.reduceLT, Nat.reduceEqDiff, Nat.reduceAdd, Nat.reduceSub, Nat.reduceMul, Nat.reduceLeDiff, reduceCtorEq, Int.reduceLE, Int.reduceLT, Int.reduceNeg, Int.reduceToNat, Nat.reduceSubDiff, Nat.reducePow]
  refine cK_cases ?_ ?_ <;> intro hc <;> (try simp only [decide_eq_true_eq, decide_eq_false_iff_not, Classical.not_not, Bool.not_eq_true, Bool.not_eq_true', Bool.not_eq_false', Bool.false_or, Bool.or_false, Bool.true_or, Bool.or_true, Bool.false_and, Bool.and_false, Bool.true_and, Bool.and_true] at hc) <;> simp -implicitDefEqProofs (disch := first | omega | (simp only [go_sem, ↓reduceIte, reduceCtorEq, hc]; first | done | omega)) only [go_sem, ↓reduceIte, Nat.reduceLT, Nat.reduceEqDiff, Nat.reduceAdd, Nat.reduceSub, Nat.reduceMul, Nat.reduceLeDiff, reduceCtorEq, Int.reduceLE, Int.reduceLT, Int.reduceNeg, Int.reduceToNat, Nat.reduceSubDiff, Nat.reducePow, hc]
  · (first | refine post_fin ret_ok hM rfl ?_ ?_ | refine post_fin0 ret_ok hM rfl ?_ ?_ | refine post_fin normal_ok hM rfl ?_ ?_ | refine post_fin0 normal_ok hM rfl ?_ ?_)
    · simp -implicitDefEqProofs (disch := first | omega | (simp only [go_sem, ↓reduceIte, reduceCtorEq]; first | done | omega)) only [go_sem, ↓reduceIte, Nat.reduceLT, Nat.reduceEqDiff, Nat.reduceAdd, Nat.reduceSub, Nat.reduceMul, Nat.reduceLeDiff, reduceCtorEq, Int.reduceLE, Int.reduceLT, Int.reduceNeg, Int.reduceToNat, Nat.reduceSubDiff, Nat.reducePow]
      simp [cntRes, hc]
    · (simp only [go_sem, ↓reduceIte, Nat.reduceLT, Nat.reduceEqDiff, Nat.reduceAdd, Nat.reduceSub, Nat.reduceMul, Nat.reduceLeDiff, reduceCtorEq, Int.reduceLE, Int.reduceLT, Int.reduceNeg, Int.reduceToNat, Nat.reduceSubDiff, Nat.reducePow, encRev_low, encCyc_low] <;> first | done | omega)
  · refine callP_q (q_load_count l hl (smallR_of hc) _) ?_
    simp -implicitDefEqProofs (disch := first | omega | (simp only [go_sem, ↓reduceIte, reduceCtorEq]; first | done | omega)) only [go_sem, ↓reduceIte, Nat.reduceLT, Nat.reduceEqDiff, Nat.reduceAdd, Nat.reduceSub, Nat.reduceMul, Nat.reduceLeDiff, reduceCtorEq, Int.reduceLE, Int.reduceLT, Int.reduceNeg, Int.reduceToNat, Nat.reduceSubDiff, Nat.reducePow]
    (first | refine post_fin ret_ok hM rfl ?_ ?_ | refine post_fin0 ret_ok hM rfl ?_ ?_ | refine post_fin normal_ok hM rfl ?_ ?_ | refine post_fin0 normal_ok hM rfl ?_ ?_)
    · simp -implicitDefEqProofs (disch := first | omega | (simp only [go_sem, ↓reduceIte, reduceCtorEq]; first | done | omega)) only [go_sem, ↓reduceIte, Nat.reduceLT, Nat.reduceEqDiff, Nat.reduceAdd, Nat.reduceSub, Nat.reduceMul, Nat.reduceLeDiff, reduceCtorEq, Int.reduceLE, Int.reduceLT, Int.reduceNeg, Int.reduceToNat, Nat.reduceSubDiff, Nat.reducePow]
      simp [cntRes, hc]
    · (simp only [go_sem, ↓reduceIte, Nat.reduceLT, Nat.reduceEqDiff, Nat.reduceAdd, Nat.reduceSub, Nat.reduceMul, Nat.reduceLeDiff, reduceCtorEq, Int.reduceLE, Int.reduceLT, Int.reduceNeg, Int.reduceToNat, Nat.reduceSubDiff, Nat.reducePow, encRev_low, encCyc_low] <;> first | done | omega)
theorem small_revs {l : List Int} (h : chkLoads l = 0) : ∀ r ∈ revsOf (points l), smallR r := fun r hr => (chkLoads_zero.1 h).2 _ (points_mem (revs_mem _ r hr)).1
theorem q_load_twice (l : List Int) (e : Int) (h : chkLoads l = 0) (he : 1 ≤ e ∧ e ≤ 3) : Q X 71 [.fs (l.map .I), .I e] (.tup [.I (twRes l e).1, .I (twRes l e).2]) := by
  intro M
  have hl := (chkLoads_zero.1 h).1
  have hrl : (revsOf (points l)).length ≤ l.length := Nat.le_trans (revs_len _) (by simp [points])
  have hsr := small_revs h
  (refine ACall_fn (cf := L2.c71) rfl rfl fun hM hA => ?_; simp only [L2.c71]; rw [mk2 _ (by decide)]; simp -implicitDefEqProofs (disch := first | omega | (simp only [go_sem, ↓reduceIte, reduceCtorEq]; first | done | omega)) only [go_sem, ↓reduceIte, Nat.reduceLT, Nat.reduceEqDiff, Nat.reduceAdd, Nat.reduceSub, Nat.reduceMul, Nat.reduceLeDiff, reduceCtorEq, Int.reduceLE, Int.reduceLT, Int.reduceNeg, Int.reduceToNat, Nat.reduceSubDiff, Nat.reducePow])
  refine callP_q (q_load_ofLoads l (by omega) _) ?_
  simp -implicitDefEqProofs (disch := first | omega | (simp only [go_sem, ↓reduceIte, reduceCtorEq]; first | done | omega)) only [go_sem, ↓reduceIte, Nat.reduceLT, Nat.reduceEqDiff, Nat.reduceAdd, Nat.reduceSub, Nat.reduceMul, Nat.reduceLeDiff, reduceCtorEq, Int.reduceLE, Int.reduceLT, Int.reduceNeg, Int.reduceToNat, Nat.reduceSubDiff, Nat.reducePow]
  refine callP_q (q_load_count _ (by omega) hsr _) ?_
  simp -implicitDefEqProofs (disch := first | omega | (simp only [go_sem, ↓reduceIte, reduceCtorEq]; first | done | omega)) only [go_sem, ↓reduceIte, Nat.reduceLT, Nat.reduceEqDiff, Nat.reduceAdd, Nat.reduceSub, Nat.reduceMul, Nat.reduceLeDiff, reduceCtorEq, Int.reduceLE, Int.reduceLT, Int.reduceNeg, Int.reduceToNat, Nat.reduceSubDiff, Nat.reducePow]
  have hself : (M ++ [mRow 0 (0, false)])[M.length]? = some (mRow 0 (0, false)) := by rw [getM0]; rfl
  have hcl := count_len (revsOf (points l))
  have hsc := count_small hsr
  have hm1 : mOk (cycDmg e 2 (0, false) (countOf (revsOf (points l))).1) := cycDmg_ok (by omega) he ⟨by decide, by decide⟩ hsc
  refine callP_l (q_meter_cycles hself ⟨by decide, by decide⟩ (by omega) hsc he (by omega)) ?_
  rw [setM0]
  simp -implicitDefEqProofs (disch := first | omega | (simp only [go_sem, ↓reduceIte, reduceCtorEq]; first | done | omega)) only [go_sem, ↓reduceIte, Nat.reduceLT, Nat.reduceEqDiff, Nat.reduceAdd, Nat.reduceSub, Nat.reduceMul, Nat.reduceLeDiff, reduceCtorEq, Int.reduceLE, Int.reduceLT, Int.reduceNeg, Int.reduceToNat, Nat.reduceSubDiff, Nat.reducePow]
  refine callP_l (q_meter_halves (v := 0) (by rw [getM0]; rfl) hm1 (by simp; omega) (fun c hc => hsr c (count_mem _ c (by simpa using hc))) he) ?_
  rw [setM0]
  simp -implicitDefEqProofs (disch := first | omega | (simp only [go_sem, ↓reduceIte, reduceCtorEq]; first | done | omega)) only [go_sem, ↓reduceIte, Nat.reduceLT, Nat.reduceEqDiff, Nat.reduceAdd, Nat.reduceSub, Nat.reduceMul, Nat.reduceLeDiff, reduceCtorEq, Int.reduceLE, Int.reduceLT, Int.reduceNeg, Int.reduceToNat, Nat.reduceSubDiff, Nat.reducePow]
  refine callP_q (q_meter_result (m := halfDmg e (cycDmg e 2 (0, false) (countOf (revsOf (points l))).1) (countOf (revsOf (points l))).2.reverse) (v := 0) (by rw [getM0]; rfl)) ?_
  simp -implicitDefEqProofs (disch := first | omega | (simp only [go_sem, ↓reduceIte, reduceCtorEq]; first | done | omega)) only [go_sem, ↓reduceIte, Nat.reduceLT, Nat.reduceEqDiff, Nat.reduceAdd, Nat.reduceSub, Nat.reduceMul, Nat.reduceLeDiff, reduceCtorEq, Int.reduceLE, Int.reduceLT, Int.reduceNeg, Int.reduceToNat, Nat.reduceSubDiff, Nat.reducePow]
  (first | refine post_fin ret_ok hM rfl ?_ ?_ | refine post_fin0 ret_ok hM rfl ?_ ?_ | refine post_fin normal_ok hM rfl ?_ ?_ | refine post_fin0 normal_ok hM rfl ?_ ?_)
  · simp -implicitDefEqProofs (disch := first | omega | (simp only [go_sem, ↓reduceIte, reduceCtorEq]; first | done | omega)) only [go_sem, ↓reduceIte, Nat.reduceLT, Nat.reduceEqDiff, Nat.reduceAdd, Nat.reduceSub, Nat.reduceMul, Nat.reduceLeDiff, reduceCtorEq, Int.reduceLE, Int.reduceLT, Int.reduceNeg, Int.reduceToNat, Nat.reduceSubDiff, Nat.reducePow]
    rfl
  · (simp only [go_sem, ↓reduceIte, Nat.reduceLT, Nat.reduceEqDiff, Nat.reduceAdd, Nat.reduceSub, Nat.reduceMul, Nat.reduceLeDiff, reduceCtorEq, Int.reduceLE, Int.reduceLT, Int.reduceNeg, Int.reduceToNat, Nat.reduceSubDiff, Nat.reducePow] <;> first | done | omega)
theorem q_load_Twice (l : List Int) (e : Int) (hl : l.length ≤ 1048576) : Q X 34 [.fs (l.map .I), .I e] (.tup [.I (twiceRes l e).1, .I (twiceRes l e).2]) := by
  intro M
  (refine ACall_fn (cf := L2.c34) rfl rfl fun hM hA => ?_; simp only [L2.c34]; rw [mk2 _ (by decide)]; simp -implicitDefEqProofs (disch := first | omega | (simp only [go_sem, ↓reduceIte, reduceCtorEq]; first | done | omega)) only [go_sem, ↓reduceIte, Nat.reduceLT, Nat.reduceEqDiff, Nat.reduceAdd, Nat.reduceSub, Nat.reduceMul, Nat.reduceLeDiff, reduceCtorEq, Int.reduceLE, Int.reduceLT, Int.reduceNeg, Int.reduceToNat, Nat.reduceSubDiff, Nat.reducePow])
  refine callP_q (q_load_CheckLoads l hl _) ?_
  simp -implicitDefEqProofs (disch := first | omega | (simp only [go_sem, ↓reduceIte, reduceCtorEq]; first | done | omega)) only [go_sem, ↓reduceIte, Nat.reduceLT, Nat.reduceEqDiff, Nat.reduceAdd, Nat.reduceSub, Nat.reduceMul, Nat.reduceLeDiff, reduceCtorEq, Int.reduceLE, Int.reduceLT, Int.reduceNeg, Int.reduceToNat, Nat.reduceSubDiff, Nat.reducePow]
  repeat' (first | (refine callP_q (q_load_checkExponent _ _) ?_; (try simp -implicitDefEqProofs (disch := first | omega | (simp only [go_sem, ↓reduceIte, reduceCtorEq]; first | done | omega)) only [go_sem, ↓reduceIte, Nat.reduceLT, Nat.reduceEqDiff, Nat.reduceAdd, Nat.reduceSub, Nat.reduceMul, Nat.reduceLeDiff, reduceCtorEq, Int.reduceLE, Int.reduceLT, Int.reduceNeg, Int.reduceToNat, Nat.reduceSubDiff, Nat.reducePow])) | (refine callP_q (q_load_first [_, _] (by simp) _) ?_; (try simp -implicitDefEqProofs (disch := first | omega | (simp only [go_sem, ↓reduceIte, reduceCtorEq]; first | done | omega)) only [go_sem, ↓reduceIte, Nat.reduceLT, Nat.reduceEqDiff, Nat.reduceAdd, Nat.reduceSub, Nat.reduceMul, Nat.reduceLeDiff, reduceCtorEq, Int.reduceLE, Int.reduceLT, Int.reduceNeg, Int.reduceToNat, Nat.reduceSubDiff, Nat.reducePow])) | (refine cK_cases ?_ ?_ <;> intro hc <;> (try simp only [decide_eq_true_eq, decide_eq_false_iff_not, Classical.not_not, Bool.not_eq_true, Bool.not_eq_true', Bool.not_eq_false', Bool.false_or, Bool.or_false, Bool.true_or, Bool.or_true, Bool.false_and, Bool.and_false, Bool.true_and, Bool.and_true] at hc) <;> (try simp -implicitDefEqProofs (disch := first | omega | (simp only [go_sem, ↓reduceIte, reduceCtorEq, hc]; first | done | omega)) only [go_sem, ↓reduceIte, Nat.reduceLT, Nat.reduceEqDiff, Nat.reduceAdd, Nat.reduceSub, Nat.reduceMul, Nat.reduceLeDiff, reduceCtorEq, Int.reduceLE, Int.reduceLT, Int.reduceNeg, Int.reduceToNat, Nat.reduceSubDiff, Nat.reducePow, hc])) | (refine gK_cases ?_ ?_ <;> intro hc <;> (try simp only [decide_eq_true_eq, decide_eq_false_iff_not, Classical.not_not, Bool.not_eq_true, Bool.not_eq_true', Bool.not_eq_false', Bool.false_or, Bool.or_false, Bool.true_or, Bool.or_true, Bool.false_and, Bool.and_false, Bool.true_and, Bool.and_true] at hc) <;> (try simp -implicitDefEqProofs (disch := first | omega | (simp only [go_sem, ↓reduceIte, reduceCtorEq, hc]; first | done | omega)) only [go_sem, ↓reduceIte, Nat.reduceLT, Nat.reduceEqDiff, Nat.reduceAdd, Nat.reduceSub, Nat.reduceMul, Nat.reduceLeDiff, reduceCtorEq, Int.reduceLE, Int.reduceLT, Int.reduceNeg, Int.reduceToNat, Nat.reduceSubDiff, Nat.reducePow, hc])))
  · (first | refine post_fin ret_ok hM rfl ?_ ?_ | refine post_fin0 ret_ok hM rfl ?_ ?_ | refine post_fin normal_ok hM rfl ?_ ?_ | refine post_fin0 normal_ok hM rfl ?_ ?_)
    · simp -implicitDefEqProofs (disch := first | omega | (simp only [go_sem, ↓reduceIte, reduceCtorEq]; first | done | omega)) only [go_sem, ↓reduceIte, Nat.reduceLT, Nat.reduceEqDiff, Nat.reduceAdd, Nat.reduceSub, Nat.reduceMul, Nat.reduceLeDiff, reduceCtorEq, Int.reduceLE, Int.reduceLT, Int.reduceNeg, Int.reduceToNat, Nat.reduceSubDiff, Nat.reducePow]
      simp [twiceRes, hc]
    · (simp only [go_sem, ↓reduceIte, Nat.reduceLT, Nat.reduceEqDiff, Nat.reduceAdd, Nat.reduceSub, Nat.reduceMul, Nat.reduceLeDiff, reduceCtorEq, Int.reduceLE, Int.reduceLT, Int.reduceNeg, Int.reduceToNat, Nat.reduceSubDiff, Nat.reducePow] <;> first | done | omega)
  · have he := fst0_two hc
    refine callP_q (q_load_twice l e he.1 (rng_zero.1 he.2) _) ?_
    simp -implicitDefEqProofs (disch := first | omega | (simp only [go_sem, ↓reduceIte, reduceCtorEq]; first | done | omega)) only [go_sem, ↓reduceIte, Nat.reduceLT, Nat.reduceEqDiff, Nat.reduceAdd, Nat.reduceSub, Nat.reduceMul, Nat.reduceLeDiff, reduceCtorEq, Int.reduceLE, Int.reduceLT, Int.reduceNeg, Int.reduceToNat, Nat.reduceSubDiff, Nat.reducePow]
    (first | refine post_fin ret_ok hM rfl ?_ ?_ | refine post_fin0 ret_ok hM rfl ?_ ?_ | refine post_fin normal_ok hM rfl ?_ ?_ | refine post_fin0 normal_ok hM rfl ?_ ?_)
    · simp -implicitDefEqProofs (disch := first | omega | (simp only [go_sem, ↓reduceIte, reduceCtorEq]; first | done | omega)) only [go_sem, ↓reduceIte, Nat.reduceLT, Nat.reduceEqDiff, Nat.reduceAdd, Nat.reduceSub, Nat.reduceMul, Nat.reduceLeDiff, reduceCtorEq, Int.reduceLE, Int.reduceLT, Int.reduceNeg, Int.reduceToNat, Nat.reduceSubDiff, Nat.reducePow]
      simp [twiceRes, hc]
    · (simp only [go_sem, ↓reduceIte, Nat.reduceLT, Nat.reduceEqDiff, Nat.reduceAdd, Nat.reduceSub, Nat.reduceMul, Nat.reduceLeDiff, reduceCtorEq, Int.reduceLE, Int.reduceLT, Int.reduceNeg, Int.reduceToNat, Nat.reduceSubDiff, Nat.reducePow] <;> first | done | omega)
end
end Go.Nac.L2

