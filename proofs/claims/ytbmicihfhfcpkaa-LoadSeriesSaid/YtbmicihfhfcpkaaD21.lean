import Derived.Test.YtbmicihfhfcpkaaD19
import Derived.Test.YtbmicihfhfcpkaaK24
import Derived.Test.YtbmicihfhfcpkaaK17
set_option linter.unusedSimpArgs false
set_option linter.unusedVariables false
set_option linter.unnecessarySimpa false
set_option maxRecDepth 10000
namespace Go.Nac.L2
attribute [local congr] b1_congr b2_congr Wp_congr wpOps_congr thenK_congr blockK_congr gK_congr cK_congr
section
variable {X : FuncId → List PV → PV → Prop}
theorem q_ref01_IsName (s : ByteArray) : Q X 45 [.s (.string s)] (.B (nameOk s)) := by
  intro M
  by_cases h0 : s.size = 0
  · have f0 : ((s.size : Int) = 0) = True := eq_true (by omega)
    (refine ACall_fn (cf := L2.c45) rfl rfl fun hM hA => ?_; simp only [L2.c45]; rw [mk1 _ (by decide)]; simp -implicitDefEqProofs (disch := first | omega | (simp only [go_sem, ↓reduceIte, reduceCtorEq, f0]; first | done | omega)) only [go_sem, ↓reduceIte, Nat.reduceLT, Nat.reduceEqDiff, Nat.reduceAdd, Nat.reduceSub, Nat.reduceMul, Nat.reduceLeDiff, reduceCtorEq, Int.reduceLE, Int.reduceLT, Int.reduceNeg, Int.reduceToNat, Nat.reduceSubDiff, Nat.reducePow, f0])
    (first | refine post_fin ret_ok hM rfl ?_ ?_ | refine post_fin0 ret_ok hM rfl ?_ ?_ | refine post_fin normal_ok hM rfl ?_ ?_ | refine post_fin0 normal_ok hM rfl ?_ ?_)
    · simp -implicitDefEqProofs (disch := first | omega | (simp only [go_sem, ↓reduceIte, reduceCtorEq]; first | done | omega)) only [go_sem, ↓reduceIte, Nat.reduceLT, Nat.reduceEqDiff, Nat.reduceAdd, Nat.reduceSub, Nat.reduceMul, Nat.reduceLeDiff, reduceCtorEq, Int.reduceLE, Int.reduceLT, Int.reduceNeg, Int.reduceToNat, Nat.reduceSubDiff, Nat.reducePow]
      rw [nameOk_zero h0]
    · (simp only [go_sem, ↓reduceIte, Nat.reduceLT, Nat.reduceEqDiff, Nat.reduceAdd, Nat.reduceSub, Nat.reduceMul, Nat.reduceLeDiff, reduceCtorEq, Int.reduceLE, Int.reduceLT, Int.reduceNeg, Int.reduceToNat, Nat.reduceSubDiff, Nat.reducePow] <;> first | done | omega)
  have f0 : ((s.size : Int) = 0) = False := eq_false (by omega)
  by_cases h24 : 24 < s.size
  · have f1 : ((24 : Int) < s.size) = True := eq_true (by omega)
    (refine ACall_fn (cf := L2.c45) rfl rfl fun hM hA => ?_; simp only [L2.c45]; rw [mk1 _ (by decide)]; simp -implicitDefEqProofs (disch := first | omega | (simp only [go_sem, ↓reduceIte, reduceCtorEq, f0, f1]; first | done | omega)) only [go_sem, ↓reduceIte, Nat.reduceLT, Nat.reduceEqDiff, Nat.reduceAdd, Nat.reduceSub, Nat.reduceMul, Nat.reduceLeDiff, reduceCtorEq, Int.reduceLE, Int.reduceLT, Int.reduceNeg, Int.reduceToNat, Nat.reduceSubDiff, Nat.reducePow, f0, f1])
    (first | refine post_fin ret_ok hM rfl ?_ ?_ | refine post_fin0 ret_ok hM rfl ?_ ?_ | refine post_fin normal_ok hM rfl ?_ ?_ | refine post_fin0 normal_ok hM rfl ?_ ?_)
    · simp -implicitDefEqProofs (disch := first | omega | (simp only [go_sem, ↓reduceIte, reduceCtorEq]; first | done | omega)) only [go_sem, ↓reduceIte, Nat.reduceLT, Nat.reduceEqDiff, Nat.reduceAdd, Nat.reduceSub, Nat.reduceMul, Nat.reduceLeDiff, reduceCtorEq, Int.reduceLE, Int.reduceLT, Int.reduceNeg, Int.reduceToNat, Nat.reduceSubDiff, Nat.reducePow]
      rw [nameOk_long h24]
    · (simp only [go_sem, ↓reduceIte, Nat.reduceLT, Nat.reduceEqDiff, Nat.reduceAdd, Nat.reduceSub, Nat.reduceMul, Nat.reduceLeDiff, reduceCtorEq, Int.reduceLE, Int.reduceLT, Int.reduceNeg, Int.reduceToNat, Nat.reduceSubDiff, Nat.reducePow] <;> first | done | omega)
  have f1 : ((24 : Int) < s.size) = False := eq_false (by omega)
  (refine ACall_fn (cf := L2.c45) rfl rfl fun hM hA => ?_; simp only [L2.c45]; rw [mk1 _ (by decide)]; simp -implicitDefEqProofs (disch := first | omega | (simp only [go_sem, ↓reduceIte, reduceCtorEq, f0, f1]; first | done | omega)) only [go_sem, ↓reduceIte, Nat.reduceLT, Nat.reduceEqDiff, Nat.reduceAdd, Nat.reduceSub, Nat.reduceMul, Nat.reduceLeDiff, reduceCtorEq, Int.reduceLE, Int.reduceLT, Int.reduceNeg, Int.reduceToNat, Nat.reduceSubDiff, Nat.reducePow, f0, f1])
  refine loop_mk (α := Nat) 0 (fun k => k ≤ s.size ∧ ∀ i, i < k → chOk i (chAt s i) = true) (fun k => M) (fun k => [(0, .s (.string s)), (3, .I k)]) (fun k => s.size - k) ⟨Nat.zero_le _, fun i h => absurd h (by omega)⟩ rfl rfl ?_
  rintro k ⟨hk, hs⟩
  by_cases hlt : k < s.size
  · obtain ⟨u, h1⟩ := get_some hlt
    have hch := chAt_some h1
    have h1 := idxsV_some h1
    have inv : chOk k u.toNat = true → ∀ i, i < k + 1 → chOk i (chAt s i) = true := by
      intro hx i hi
      rcases Nat.lt_or_ge i k with h | h
      · exact hs i h
      · have : i = k := by omega
        subst this; rw [hch]; exact hx
    rcases (by omega : (u.toNat < 48) ∨ (48 ≤ u.toNat ∧ u.toNat ≤ 57) ∨ (57 < u.toNat ∧ u.toNat < 65) ∨ (65 ≤ u.toNat ∧ u.toNat ≤ 90) ∨ (90 < u.toNat ∧ u.toNat < 95) ∨ (u.toNat = 95) ∨ (u.toNat = 96) ∨ (97 ≤ u.toNat ∧ u.toNat ≤ 122) ∨ (122 < u.toNat)) with hc | hc | hc | hc | hc | hc | hc | hc | hc
    · have A1 : ((97 : Int) ≤ (u.toNat : Int)) = False := eq_false (by omega)
      have A2 : ((u.toNat : Int) ≤ 122) = True := eq_true (by omega)
      have A3 : ((65 : Int) ≤ (u.toNat : Int)) = False := eq_false (by omega)
      have A4 : ((u.toNat : Int) ≤ 90) = True := eq_true (by omega)
      have A5 : ((u.toNat : Int) = 95) = False := eq_false (by omega)
      have A6 : ((u.toNat : Int) < 48) = True := eq_true (by omega)
      have A7 : ((57 : Int) < (u.toNat : Int)) = False := eq_false (by omega)
      by_cases hk0 : k = 0
      · have B : ((k : Int) = 0) = True := eq_true (by omega)
        simp -implicitDefEqProofs (disch := first | omega | (simp only [go_sem, ↓reduceIte, reduceCtorEq, hlt, h1, A1, A2, A3, A4, A5, A6, A7, B]; first | done | omega)) only [go_sem, ↓reduceIte, Nat.reduceLT, Nat.reduceEqDiff, Nat.reduceAdd, Nat.reduceSub, Nat.reduceMul, Nat.reduceLeDiff, reduceCtorEq, Int.reduceLE, Int.reduceLT, Int.reduceNeg, Int.reduceToNat, Nat.reduceSubDiff, Nat.reducePow, hlt, h1, A1, A2, A3, A4, A5, A6, A7, B]
        (first | refine post_fin ret_ok hM rfl ?_ ?_ | refine post_fin0 ret_ok hM rfl ?_ ?_ | refine post_fin normal_ok hM rfl ?_ ?_ | refine post_fin0 normal_ok hM rfl ?_ ?_)
        · simp -implicitDefEqProofs (disch := first | omega | (simp only [go_sem, ↓reduceIte, reduceCtorEq]; first | done | omega)) only [go_sem, ↓reduceIte, Nat.reduceLT, Nat.reduceEqDiff, Nat.reduceAdd, Nat.reduceSub, Nat.reduceMul, Nat.reduceLeDiff, reduceCtorEq, Int.reduceLE, Int.reduceLT, Int.reduceNeg, Int.reduceToNat, Nat.reduceSubDiff, Nat.reducePow]
          rw [nameOk_bad hlt (by rw [hch]; simp [chOk, letterB]; omega)]
        · (simp only [go_sem, ↓reduceIte, Nat.reduceLT, Nat.reduceEqDiff, Nat.reduceAdd, Nat.reduceSub, Nat.reduceMul, Nat.reduceLeDiff, reduceCtorEq, Int.reduceLE, Int.reduceLT, Int.reduceNeg, Int.reduceToNat, Nat.reduceSubDiff, Nat.reducePow] <;> first | done | omega)
      · have B : ((k : Int) = 0) = False := eq_false (by omega)
        simp -implicitDefEqProofs (disch := first | omega | (simp only [go_sem, ↓reduceIte, reduceCtorEq, hlt, h1, A1, A2, A3, A4, A5, A6, A7, B]; first | done | omega)) only [go_sem, ↓reduceIte, Nat.reduceLT, Nat.reduceEqDiff, Nat.reduceAdd, Nat.reduceSub, Nat.reduceMul, Nat.reduceLeDiff, reduceCtorEq, Int.reduceLE, Int.reduceLT, Int.reduceNeg, Int.reduceToNat, Nat.reduceSubDiff, Nat.reducePow, hlt, h1, A1, A2, A3, A4, A5, A6, A7, B]
        (first | refine post_fin ret_ok hM rfl ?_ ?_ | refine post_fin0 ret_ok hM rfl ?_ ?_ | refine post_fin normal_ok hM rfl ?_ ?_ | refine post_fin0 normal_ok hM rfl ?_ ?_)
        · simp -implicitDefEqProofs (disch := first | omega | (simp only [go_sem, ↓reduceIte, reduceCtorEq]; first | done | omega)) only [go_sem, ↓reduceIte, Nat.reduceLT, Nat.reduceEqDiff, Nat.reduceAdd, Nat.reduceSub, Nat.reduceMul, Nat.reduceLeDiff, reduceCtorEq, Int.reduceLE, Int.reduceLT, Int.reduceNeg, Int.reduceToNat, Nat.reduceSubDiff, Nat.reducePow]
          rw [nameOk_bad hlt (by rw [hch]; simp [chOk, letterB]; omega)]
        · (simp only [go_sem, ↓reduceIte, Nat.reduceLT, Nat.reduceEqDiff, Nat.reduceAdd, Nat.reduceSub, Nat.reduceMul, Nat.reduceLeDiff, reduceCtorEq, Int.reduceLE, Int.reduceLT, Int.reduceNeg, Int.reduceToNat, Nat.reduceSubDiff, Nat.reducePow] <;> first | done | omega)
    · have A1 : ((97 : Int) ≤ (u.toNat : Int)) = False := eq_false (by omega)
      have A2 : ((u.toNat : Int) ≤ 122) = True := eq_true (by omega)
      have A3 : ((65 : Int) ≤ (u.toNat : Int)) = False := eq_false (by omega)
      have A4 : ((u.toNat : Int) ≤ 90) = True := eq_true (by omega)
      have A5 : ((u.toNat : Int) = 95) = False := eq_false (by omega)
      have A6 : ((u.toNat : Int) < 48) = False := eq_false (by omega)
      have A7 : ((57 : Int) < (u.toNat : Int)) = False := eq_false (by omega)
      by_cases hk0 : k = 0
      · have B : ((k : Int) = 0) = True := eq_true (by omega)
        simp -implicitDefEqProofs (disch := first | omega | (simp only [go_sem, ↓reduceIte, reduceCtorEq, hlt, h1, A1, A2, A3, A4, A5, A6, A7, B]; first | done | omega)) only [go_sem, ↓reduceIte, Nat.reduceLT, Nat.reduceEqDiff, Nat.reduceAdd, Nat.reduceSub, Nat.reduceMul, Nat.reduceLeDiff, reduceCtorEq, Int.reduceLE, Int.reduceLT, Int.reduceNeg, Int.reduceToNat, Nat.reduceSubDiff, Nat.reducePow, hlt, h1, A1, A2, A3, A4, A5, A6, A7, B]
        (first | refine post_fin ret_ok hM rfl ?_ ?_ | refine post_fin0 ret_ok hM rfl ?_ ?_ | refine post_fin normal_ok hM rfl ?_ ?_ | refine post_fin0 normal_ok hM rfl ?_ ?_)
        · simp -implicitDefEqProofs (disch := first | omega | (simp only [go_sem, ↓reduceIte, reduceCtorEq]; first | done | omega)) only [go_sem, ↓reduceIte, Nat.reduceLT, Nat.reduceEqDiff, Nat.reduceAdd, Nat.reduceSub, Nat.reduceMul, Nat.reduceLeDiff, reduceCtorEq, Int.reduceLE, Int.reduceLT, Int.reduceNeg, Int.reduceToNat, Nat.reduceSubDiff, Nat.reducePow]
          rw [nameOk_bad hlt (by rw [hch]; simp [chOk, letterB]; omega)]
        · (simp only [go_sem, ↓reduceIte, Nat.reduceLT, Nat.reduceEqDiff, Nat.reduceAdd, Nat.reduceSub, Nat.reduceMul, Nat.reduceLeDiff, reduceCtorEq, Int.reduceLE, Int.reduceLT, Int.reduceNeg, Int.reduceToNat, Nat.reduceSubDiff, Nat.reducePow] <;> first | done | omega)
      · have B : ((k : Int) = 0) = False := eq_false (by omega)
        simp -implicitDefEqProofs (disch := first | omega | (simp only [go_sem, ↓reduceIte, reduceCtorEq, hlt, h1, A1, A2, A3, A4, A5, A6, A7, B]; first | done | omega)) only [go_sem, ↓reduceIte, Nat.reduceLT, Nat.reduceEqDiff, Nat.reduceAdd, Nat.reduceSub, Nat.reduceMul, Nat.reduceLeDiff, reduceCtorEq, Int.reduceLE, Int.reduceLT, Int.reduceNeg, Int.reduceToNat, Nat.reduceSubDiff, Nat.reducePow, hlt, h1, A1, A2, A3, A4, A5, A6, A7, B]
        exact again' (k + 1) ⟨by omega, inv (by simp [chOk, letterB]; omega)⟩ (by omega) rfl rfl
    · have A1 : ((97 : Int) ≤ (u.toNat : Int)) = False := eq_false (by omega)
      have A2 : ((u.toNat : Int) ≤ 122) = True := eq_true (by omega)
      have A3 : ((65 : Int) ≤ (u.toNat : Int)) = False := eq_false (by omega)
      have A4 : ((u.toNat : Int) ≤ 90) = True := eq_true (by omega)
      have A5 : ((u.toNat : Int) = 95) = False := eq_false (by omega)
      have A6 : ((u.toNat : Int) < 48) = False := eq_false (by omega)
      have A7 : ((57 : Int) < (u.toNat : Int)) = True := eq_true (by omega)
      by_cases hk0 : k = 0
      · have B : ((k : Int) = 0) = True := eq_true (by omega)
        simp -implicitDefEqProofs (disch := first | omega | (simp only [go_sem, ↓reduceIte, reduceCtorEq, hlt, h1, A1, A2, A3, A4, A5, A6, A7, B]; first | done | omega)) only [go_sem, ↓reduceIte, Nat.reduceLT, Nat.reduceEqDiff, Nat.reduceAdd, Nat.reduceSub, Nat.reduceMul, Nat.reduceLeDiff, reduceCtorEq, Int.reduceLE, Int.reduceLT, Int.reduceNeg, Int.reduceToNat, Nat.reduceSubDiff, Nat.reducePow, hlt, h1, A1, A2, A3, A4, A5, A6, A7, B]
        (first | refine post_fin ret_ok hM rfl ?_ ?_ | refine post_fin0 ret_ok hM rfl ?_ ?_ | refine post_fin normal_ok hM rfl ?_ ?_ | refine post_fin0 normal_ok hM rfl ?_ ?_)
        · simp -implicitDefEqProofs (disch := first | omega | (simp only [go_sem, ↓reduceIte, reduceCtorEq]; first | done | omega)) only [go_sem, ↓reduceIte, Nat.reduceLT, Nat.reduceEqDiff, Nat.reduceAdd, Nat.reduceSub, Nat.reduceMul, Nat.reduceLeDiff, reduceCtorEq, Int.reduceLE, Int.reduceLT, Int.reduceNeg, Int.reduceToNat, Nat.reduceSubDiff, Nat.reducePow]
          rw [nameOk_bad hlt (by rw [hch]; simp [chOk, letterB]; omega)]
        · (simp only [go_sem, ↓reduceIte, Nat.reduceLT, Nat.reduceEqDiff, Nat.reduceAdd, Nat.reduceSub, Nat.reduceMul, Nat.reduceLeDiff, reduceCtorEq, Int.reduceLE, Int.reduceLT, Int.reduceNeg, Int.reduceToNat, Nat.reduceSubDiff, Nat.reducePow] <;> first | done | omega)
      · have B : ((k : Int) = 0) = False := eq_false (by omega)
        simp -implicitDefEqProofs (disch := first | omega | (simp only [go_sem, ↓reduceIte, reduceCtorEq, hlt, h1, A1, A2, A3, A4, A5, A6, A7, B]; first | done | omega)) only [go_sem, ↓reduceIte, Nat.reduceLT, Nat.reduceEqDiff, Nat.reduceAdd, Nat.reduceSub, Nat.reduceMul, Nat.reduceLeDiff, reduceCtorEq, Int.reduceLE, Int.reduceLT, Int.reduceNeg, Int.reduceToNat, Nat.reduceSubDiff, Nat.reducePow, hlt, h1, A1, A2, A3, A4, A5, A6, A7, B]
        (first | refine post_fin ret_ok hM rfl ?_ ?_ | refine post_fin0 ret_ok hM rfl ?_ ?_ | refine post_fin normal_ok hM rfl ?_ ?_ | refine post_fin0 normal_ok hM rfl ?_ ?_)
        · simp -implicitDefEqProofs (disch := first | omega | (simp only [go_sem, ↓reduceIte, reduceCtorEq]; first | done | omega)) only [go_sem, ↓reduceIte, Nat.reduceLT, Nat.reduceEqDiff, Nat.reduceAdd, Nat.reduceSub, Nat.reduceMul, Nat.reduceLeDiff, reduceCtorEq, Int.reduceLE, Int.reduceLT, Int.reduceNeg, Int.reduceToNat, Nat.reduceSubDiff, Nat.reducePow]
          rw [nameOk_bad hlt (by rw [hch]; simp [chOk, letterB]; omega)]
        · (simp only [go_sem, ↓reduceIte, Nat.reduceLT, Nat.reduceEqDiff, Nat.reduceAdd, Nat.reduceSub, Nat.reduceMul, Nat.reduceLeDiff, reduceCtorEq, Int.reduceLE, Int.reduceLT, Int.reduceNeg, Int.reduceToNat, Nat.reduceSubDiff, Nat.reducePow] <;> first | done | omega)
    · have A1 : ((97 : Int) ≤ (u.toNat : Int)) = False := eq_false (by omega)
      have A2 : ((u.toNat : Int) ≤ 122) = True := eq_true (by omega)
      have A3 : ((65 : Int) ≤ (u.toNat : Int)) = True := eq_true (by omega)
      have A4 : ((u.toNat : Int) ≤ 90) = True := eq_true (by omega)
      have A5 : ((u.toNat : Int) = 95) = False := eq_false (by omega)
      have A6 : ((u.toNat : Int) < 48) = False := eq_false (by omega)
      have A7 : ((57 : Int) < (u.toNat : Int)) = True := eq_true (by omega)
      simp -implicitDefEqProofs (disch := first | omega | (simp only [go_sem, ↓reduceIte, reduceCtorEq, hlt, h1, A1, A2, A3, A4, A5, A6, A7]; first | done | omega)) only [go_sem, ↓reduceIte, Nat.reduceLT, Nat.reduceEqDiff, Nat.reduceAdd, Nat.reduceSub, Nat.reduceMul, Nat.reduceLeDiff, reduceCtorEq, Int.reduceLE, Int.reduceLT, Int.reduceNeg, Int.reduceToNat, Nat.reduceSubDiff, Nat.reducePow, hlt, h1, A1, A2, A3, A4, A5, A6, A7]
      exact again' (k + 1) ⟨by omega, inv (by simp [chOk, letterB]; omega)⟩ (by omega) rfl rfl
    · have A1 : ((97 : Int) ≤ (u.toNat : Int)) = False := eq_false (by omega)
      have A2 : ((u.toNat : Int) ≤ 122) = True := eq_true (by omega)
      have A3 : ((65 : Int) ≤ (u.toNat : Int)) = True := eq_true (by omega)
      have A4 : ((u.toNat : Int) ≤ 90) = False := eq_false (by omega)
      have A5 : ((u.toNat : Int) = 95) = False := eq_false (by omega)
      have A6 : ((u.toNat : Int) < 48) = False := eq_false (by omega)
      have A7 : ((57 : Int) < (u.toNat : Int)) = True := eq_true (by omega)
      by_cases hk0 : k = 0
      · have B : ((k : Int) = 0) = True := eq_true (by omega)
        simp -implicitDefEqProofs (disch := first | omega | (simp only [go_sem, ↓reduceIte, reduceCtorEq, hlt, h1, A1, A2, A3, A4, A5, A6, A7, B]; first | done | omega)) only [go_sem, ↓reduceIte, Nat.reduceLT, Nat.reduceEqDiff, Nat.reduceAdd, Nat.reduceSub, Nat.reduceMul, Nat.reduceLeDiff, reduceCtorEq, Int.reduceLE, Int.reduceLT, Int.reduceNeg, Int.reduceToNat, Nat.reduceSubDiff, Nat.reducePow, hlt, h1, A1, A2, A3, A4, A5, A6, A7, B]
        (first | refine post_fin ret_ok hM rfl ?_ ?_ | refine post_fin0 ret_ok hM rfl ?_ ?_ | refine post_fin normal_ok hM rfl ?_ ?_ | refine post_fin0 normal_ok hM rfl ?_ ?_)
        · simp -implicitDefEqProofs (disch := first | omega | (simp only [go_sem, ↓reduceIte, reduceCtorEq]; first | done | omega)) only [go_sem, ↓reduceIte, Nat.reduceLT, Nat.reduceEqDiff, Nat.reduceAdd, Nat.reduceSub, Nat.reduceMul, Nat.reduceLeDiff, reduceCtorEq, Int.reduceLE, Int.reduceLT, Int.reduceNeg, Int.reduceToNat, Nat.reduceSubDiff, Nat.reducePow]
          rw [nameOk_bad hlt (by rw [hch]; simp [chOk, letterB]; omega)]
        · (simp only [go_sem, ↓reduceIte, Nat.reduceLT, Nat.reduceEqDiff, Nat.reduceAdd, Nat.reduceSub, Nat.reduceMul, Nat.reduceLeDiff, reduceCtorEq, Int.reduceLE, Int.reduceLT, Int.reduceNeg, Int.reduceToNat, Nat.reduceSubDiff, Nat.reducePow] <;> first | done | omega)
      · have B : ((k : Int) = 0) = False := eq_false (by omega)
        simp -implicitDefEqProofs (disch := first | omega | (simp only [go_sem, ↓reduceIte, reduceCtorEq, hlt, h1, A1, A2, A3, A4, A5, A6, A7, B]; first | done | omega)) only [go_sem, ↓reduceIte, Nat.reduceLT, Nat.reduceEqDiff, Nat.reduceAdd, Nat.reduceSub, Nat.reduceMul, Nat.reduceLeDiff, reduceCtorEq, Int.reduceLE, Int.reduceLT, Int.reduceNeg, Int.reduceToNat, Nat.reduceSubDiff, Nat.reducePow, hlt, h1, A1, A2, A3, A4, A5, A6, A7, B]
        (first | refine post_fin ret_ok hM rfl ?_ ?_ | refine post_fin0 ret_ok hM rfl ?_ ?_ | refine post_fin normal_ok hM rfl ?_ ?_ | refine post_fin0 normal_ok hM rfl ?_ ?_)
        · simp -implicitDefEqProofs (disch := first | omega | (simp only [go_sem, ↓reduceIte, reduceCtorEq]; first | done | omega)) only [go_sem, ↓reduceIte, Nat.reduceLT, Nat.reduceEqDiff, Nat.reduceAdd, Nat.reduceSub, Nat.reduceMul, Nat.reduceLeDiff, reduceCtorEq, Int.reduceLE, Int.reduceLT, Int.reduceNeg, Int.reduceToNat, Nat.reduceSubDiff, Nat.reducePow]
          rw [nameOk_bad hlt (by rw [hch]; simp [chOk, letterB]; omega)]
        · (simp only [go_sem, ↓reduceIte, Nat.reduceLT, Nat.reduceEqDiff, Nat.reduceAdd, Nat.reduceSub, Nat.reduceMul, Nat.reduceLeDiff, reduceCtorEq, Int.reduceLE, Int.reduceLT, Int.reduceNeg, Int.reduceToNat, Nat.reduceSubDiff, Nat.reducePow] <;> first | done | omega)
    · have A1 : ((97 : Int) ≤ (u.toNat : Int)) = False := eq_false (by omega)
      have A2 : ((u.toNat : Int) ≤ 122) = True := eq_true (by omega)
      have A3 : ((65 : Int) ≤ (u.toNat : Int)) = True := eq_true (by omega)
      have A4 : ((u.toNat : Int) ≤ 90) = False := eq_false (by omega)
      have A5 : ((u.toNat : Int) = 95) = True := eq_true (by omega)
      have A6 : ((u.toNat : Int) < 48) = False := eq_false (by omega)
      have A7 : ((57 : Int) < (u.toNat : Int)) = True := eq_true (by omega)
      by_cases hk0 : k = 0
      · have B : ((k : Int) = 0) = True := eq_true (by omega)
        simp -implicitDefEqProofs (disch := first | omega | (simp only [go_sem, ↓reduceIte, reduceCtorEq, hlt, h1, A1, A2, A3, A4, A5, A6, A7, B]; first | done | omega)) only [go_sem, ↓reduceIte, Nat.reduceLT, Nat.reduceEqDiff, Nat.reduceAdd, Nat.reduceSub, Nat.reduceMul, Nat.reduceLeDiff, reduceCtorEq, Int.reduceLE, Int.reduceLT, Int.reduceNeg, Int.reduceToNat, Nat.reduceSubDiff, Nat.reducePow, hlt, h1, A1, A2, A3, A4, A5, A6, A7, B]
        (first | refine post_fin ret_ok hM rfl ?_ ?_ | refine post_fin0 ret_ok hM rfl ?_ ?_ | refine post_fin normal_ok hM rfl ?_ ?_ | refine post_fin0 normal_ok hM rfl ?_ ?_)
        · simp -implicitDefEqProofs (disch := first | omega | (simp only [go_sem, ↓reduceIte, reduceCtorEq]; first | done | omega)) only [go_sem, ↓reduceIte, Nat.reduceLT, Nat.reduceEqDiff, Nat.reduceAdd, Nat.reduceSub, Nat.reduceMul, Nat.reduceLeDiff, reduceCtorEq, Int.reduceLE, Int.reduceLT, Int.reduceNeg, Int.reduceToNat, Nat.reduceSubDiff, Nat.reducePow]
          rw [nameOk_bad hlt (by rw [hch]; simp [chOk, letterB]; omega)]
        · (simp only [go_sem, ↓reduceIte, Nat.reduceLT, Nat.reduceEqDiff, Nat.reduceAdd, Nat.reduceSub, Nat.reduceMul, Nat.reduceLeDiff, reduceCtorEq, Int.reduceLE, Int.reduceLT, Int.reduceNeg, Int.reduceToNat, Nat.reduceSubDiff, Nat.reducePow] <;> first | done | omega)
      · have B : ((k : Int) = 0) = False := eq_false (by omega)
        simp -implicitDefEqProofs (disch := first | omega | (simp only [go_sem, ↓reduceIte, reduceCtorEq, hlt, h1, A1, A2, A3, A4, A5, A6, A7, B]; first | done | omega)) only [go_sem, ↓reduceIte, Nat.reduceLT, Nat.reduceEqDiff, Nat.reduceAdd, Nat.reduceSub, Nat.reduceMul, Nat.reduceLeDiff, reduceCtorEq, Int.reduceLE, Int.reduceLT, Int.reduceNeg, Int.reduceToNat, Nat.reduceSubDiff, Nat.reducePow, hlt, h1, A1, A2, A3, A4, A5, A6, A7, B]
        exact again' (k + 1) ⟨by omega, inv (by simp [chOk, letterB]; omega)⟩ (by omega) rfl rfl
    · have A1 : ((97 : Int) ≤ (u.toNat : Int)) = False := eq_false (by omega)
      have A2 : ((u.toNat : Int) ≤ 122) = True := eq_true (by omega)
      have A3 : ((65 : Int) ≤ (u.toNat : Int)) = True := eq_true (by omega)
      have A4 : ((u.toNat : Int) ≤ 90) = False := eq_false (by omega)
      have A5 : ((u.toNat : Int) = 95) = False := eq_false (by omega)
      have A6 : ((u.toNat : Int) < 48) = False := eq_false (by omega)
      have A7 : ((57 : Int) < (u.toNat : Int)) = True := eq_true (by omega)
      by_cases hk0 : k = 0
      · have B : ((k : Int) = 0) = True := eq_true (by omega)
        simp -implicitDefEqProofs (disch := first | omega | (simp only [go_sem, ↓reduceIte, reduceCtorEq, hlt, h1, A1, A2, A3, A4, A5, A6, A7, B]; first | done | omega)) only [go_sem, ↓reduceIte, Nat.reduceLT, Nat.reduceEqDiff, Nat.reduceAdd, Nat.reduceSub, Nat.reduceMul, Nat.reduceLeDiff, reduceCtorEq, Int.reduceLE, Int.reduceLT, Int.reduceNeg, Int.reduceToNat, Nat.reduceSubDiff, Nat.reducePow, hlt, h1, A1, A2, A3, A4, A5, A6, A7, B]
        (first | refine post_fin ret_ok hM rfl ?_ ?_ | refine post_fin0 ret_ok hM rfl ?_ ?_ | refine post_fin normal_ok hM rfl ?_ ?_ | refine post_fin0 normal_ok hM rfl ?_ ?_)
        · simp -implicitDefEqProofs (disch := first | omega | (simp only [go_sem, ↓reduceIte, reduceCtorEq]; first | done | omega)) only [go_sem, ↓reduceIte, Nat.reduceLT, Nat.reduceEqDiff, Nat.reduceAdd, Nat.reduceSub, Nat.reduceMul, Nat.reduceLeDiff, reduceCtorEq, Int.reduceLE, Int.reduceLT, Int.reduceNeg, Int.reduceToNat, Nat.reduceSubDiff, Nat.reducePow]
          rw [nameOk_bad hlt (by rw [hch]; simp [chOk, letterB]; omega)]
        · (simp only [go_sem, ↓reduceIte, Nat.reduceLT, Nat.reduceEqDiff, Nat.reduceAdd, Nat.reduceSub, Nat.reduceMul, Nat.reduceLeDiff, reduceCtorEq, Int.reduceLE, Int.reduceLT, Int.reduceNeg, Int.reduceToNat, Nat.reduceSubDiff, Nat.reducePow] <;> first | done | omega)
      · have B : ((k : Int) = 0) = False := eq_false (by omega)
        simp -implicitDefEqProofs (disch := first | omega | (simp only [go_sem, ↓reduceIte, reduceCtorEq, hlt, h1, A1, A2, A3, A4, A5, A6, A7, B]; first | done | omega)) only [go_sem, ↓reduceIte, Nat.reduceLT, Nat.reduceEqDiff, Nat.reduceAdd, Nat.reduceSub, Nat.reduceMul, Nat.reduceLeDiff, reduceCtorEq, Int.reduceLE, Int.reduceLT, Int.reduceNeg, Int.reduceToNat, Nat.reduceSubDiff, Nat.reducePow, hlt, h1, A1, A2, A3, A4, A5, A6, A7, B]
        (first | refine post_fin ret_ok hM rfl ?_ ?_ | refine post_fin0 ret_ok hM rfl ?_ ?_ | refine post_fin normal_ok hM rfl ?_ ?_ | refine post_fin0 normal_ok hM rfl ?_ ?_)
        · simp -implicitDefEqProofs (disch := first | omega | (simp only [go_sem, ↓reduceIte, reduceCtorEq]; first | done | omega)) only [go_sem, ↓reduceIte, Nat.reduceLT, Nat.reduceEqDiff, Nat.reduceAdd, Nat.reduceSub, Nat.reduceMul, Nat.reduceLeDiff, reduceCtorEq, Int.reduceLE, Int.reduceLT, Int.reduceNeg, Int.reduceToNat, Nat.reduceSubDiff, Nat.reducePow]
          rw [nameOk_bad hlt (by rw [hch]; simp [chOk, letterB]; omega)]
        · (simp only [go_sem, ↓reduceIte, Nat.reduceLT, Nat.reduceEqDiff, Nat.reduceAdd, Nat.reduceSub, Nat.reduceMul, Nat.reduceLeDiff, reduceCtorEq, Int.reduceLE, Int.reduceLT, Int.reduceNeg, Int.reduceToNat, Nat.reduceSubDiff, Nat.reducePow] <;> first | done | omega)
    · have A1 : ((97 : Int) ≤ (u.toNat : Int)) = True := eq_true (by omega)
      have A2 : ((u.toNat : Int) ≤ 122) = True := eq_true (by omega)
      have A3 : ((65 : Int) ≤ (u.toNat : Int)) = True := eq_true (by omega)
      have A4 : ((u.toNat : Int) ≤ 90) = False := eq_false (by omega)
      have A5 : ((u.toNat : Int) = 95) = False := eq_false (by omega)
      have A6 : ((u.toNat : Int) < 48) = False := eq_false (by omega)
      have A7 : ((57 : Int) < (u.toNat : Int)) = True := eq_true (by omega)
      simp -implicitDefEqProofs (disch := first | omega | (simp only [go_sem, ↓reduceIte, reduceCtorEq, hlt, h1, A1, A2, A3, A4, A5, A6, A7]; first | done | omega)) only [go_sem, ↓reduceIte, Nat.reduceLT, Nat.reduceEqDiff, Nat.reduceAdd, Nat.reduceSub, Nat.reduceMul, Nat.reduceLeDiff, reduceCtorEq, Int.reduceLE, Int.reduceLT, Int.reduceNeg, Int.reduceToNat, Nat.reduceSubDiff, Nat.reducePow, hlt, h1, A1, A2, A3, A4, A5, A6, A7]
      exact again' (k + 1) ⟨by omega, inv (by simp [chOk, letterB]; omega)⟩ (by omega) rfl rfl
    · have A1 : ((97 : Int) ≤ (u.toNat : Int)) = True := eq_true (by omega)
      have A2 : ((u.toNat : Int) ≤ 122) = False := eq_false (by omega)
      have A3 : ((65 : Int) ≤ (u.toNat : Int)) = True := eq_true (by omega)
      have A4 : ((u.toNat : Int) ≤ 90) = False := eq_false (by omega)
      have A5 : ((u.toNat : Int) = 95) = False := eq_false (by omega)
      have A6 : ((u.toNat : Int) < 48) = False := eq_false (by omega)
      have A7 : ((57 : Int) < (u.toNat : Int)) = True := eq_true (by omega)
      by_cases hk0 : k = 0
      · have B : ((k : Int) = 0) = True := eq_true (by omega)
        simp -implicitDefEqProofs (disch := first | omega | (simp only [go_sem, ↓reduceIte, reduceCtorEq, hlt, h1, A1, A2, A3, A4, A5, A6, A7, B]; first | done | omega)) only [go_sem, ↓reduceIte, Nat.reduceLT, Nat.reduceEqDiff, Nat.reduceAdd, Nat.reduceSub, Nat.reduceMul, Nat.reduceLeDiff, reduceCtorEq, Int.reduceLE, Int.reduceLT, Int.reduceNeg, Int.reduceToNat, Nat.reduceSubDiff, Nat.reducePow, hlt, h1, A1, A2, A3, A4, A5, A6, A7, B]
        (first | refine post_fin ret_ok hM rfl ?_ ?_ | refine post_fin0 ret_ok hM rfl ?_ ?_ | refine post_fin normal_ok hM rfl ?_ ?_ | refine post_fin0 normal_ok hM rfl ?_ ?_)
        · simp -implicitDefEqProofs (disch := first | omega | (simp only [go_sem, ↓reduceIte, reduceCtorEq]; first | done | omega)) only [go_sem, ↓reduceIte, Nat.reduceLT, Nat.reduceEqDiff, Nat.reduceAdd, Nat.reduceSub, Nat.reduceMul, Nat.reduceLeDiff, reduceCtorEq, Int.reduceLE, Int.reduceLT, Int.reduceNeg, Int.reduceToNat, Nat.reduceSubDiff, Nat.reducePow]
          rw [nameOk_bad hlt (by rw [hch]; simp [chOk, letterB]; omega)]
        · (simp only [go_sem, ↓reduceIte, Nat.reduceLT, Nat.reduceEqDiff, Nat.reduceAdd, Nat.reduceSub, Nat.reduceMul, Nat.reduceLeDiff, reduceCtorEq, Int.reduceLE, Int.reduceLT, Int.reduceNeg, Int.reduceToNat, Nat.reduceSubDiff, Nat.reducePow] <;> first | done | omega)
      · have B : ((k : Int) = 0) = False := eq_false (by omega)
        simp -implicitDefEqProofs (disch := first | omega | (simp only [go_sem, ↓reduceIte, reduceCtorEq, hlt, h1, A1, A2, A3, A4, A5, A6, A7, B]; first | done | omega)) only [go_sem, ↓reduceIte, Nat.reduceLT, Nat.reduceEqDiff, Nat.reduceAdd, Nat.reduceSub, Nat.reduceMul, Nat.reduceLeDiff, reduceCtorEq, Int.reduceLE, Int.reduceLT, Int.reduceNeg, Int.reduceToNat, Nat.reduceSubDiff, Nat.reducePow, hlt, h1, A1, A2, A3, A4, A5, A6, A7, B]
        (first | refine post_fin ret_ok hM rfl ?_ ?_ | refine post_fin0 ret_ok hM rfl ?_ ?_ | refine post_fin normal_ok hM rfl ?_ ?_ | refine post_fin0 normal_ok hM rfl ?_ ?_)
        · simp -implicitDefEqProofs (disch := first | omega | (simp only [go_sem, ↓reduceIte, reduceCtorEq]; first | done | omega)) only [go_sem, ↓reduceIte, Nat.reduceLT, Nat.reduceEqDiff, Nat.reduceAdd, Nat.reduceSub, Nat.reduceMul, Nat.reduceLeDiff, reduceCtorEq, Int.reduceLE, Int.reduceLT, Int.reduceNeg, Int.reduceToNat, Nat.reduceSubDiff, Nat.reducePow]
          rw [nameOk_bad hlt (by rw [hch]; simp [chOk, letterB]; omega)]
        · (simp only [go_sem, ↓reduceIte, Nat.reduceLT, Nat.reduceEqDiff, Nat.reduceAdd, Nat.reduceSub, Nat.reduceMul, Nat.reduceLeDiff, reduceCtorEq, Int.reduceLE, Int.reduceLT, Int.reduceNeg, Int.reduceToNat, Nat.reduceSubDiff, Nat.reducePow] <;> first | done | omega)
  · simp -implicitDefEqProofs (disch := first | omega | (simp only [go_sem, ↓reduceIte, reduceCtorEq, hlt]; first | done | omega)) only [go_sem, ↓reduceIte, Nat.reduceLT, Nat.reduceEqDiff, Nat.reduceAdd, Nat.reduceSub, Nat.reduceMul, Nat.reduceLeDiff, reduceCtorEq, Int.reduceLE, Int.reduceLT, Int.reduceNeg, Int.reduceToNat, Nat.reduceSubDiff, Nat.reducePow, hlt]
    (first | refine post_fin ret_ok hM rfl ?_ ?_ | refine post_fin0 ret_ok hM rfl ?_ ?_ | refine post_fin normal_ok hM rfl ?_ ?_ | refine post_fin0 normal_ok hM rfl ?_ ?_)
    · simp -implicitDefEqProofs (disch := first | omega | (simp only [go_sem, ↓reduceIte, reduceCtorEq]; first | done | omega)) only [go_sem, ↓reduceIte, Nat.reduceLT, Nat.reduceEqDiff, Nat.reduceAdd, Nat.reduceSub, Nat.reduceMul, Nat.reduceLeDiff, reduceCtorEq, Int.reduceLE, Int.reduceLT, Int.reduceNeg, Int.reduceToNat, Nat.reduceSubDiff, Nat.reducePow]
      rw [nameOk_good h0 (by omega) (fun i hi => hs i (by omega))]
    · (simp only [go_sem, ↓reduceIte, Nat.reduceLT, Nat.reduceEqDiff, Nat.reduceAdd, Nat.reduceSub, Nat.reduceMul, Nat.reduceLeDiff, reduceCtorEq, Int.reduceLE, Int.reduceLT, Int.reduceNeg, Int.reduceToNat, Nat.reduceSubDiff, Nat.reducePow] <;> first | done | omega)
theorem q_site_IsName (s : ByteArray) : Q X 96 [.s (.string s)] (.B (nameOk s)) := by
  intro M
  by_cases h24 : 24 < s.size
  · have f1 : ((24 : Int) < s.size) = True := eq_true (by omega)
    (refine ACall_fn (cf := L2.c96) rfl rfl fun hM hA => ?_; simp only [L2.c96]; rw [mk1 _ (by decide)]; simp -implicitDefEqProofs (disch := first | omega | (simp only [go_sem, ↓reduceIte, reduceCtorEq, f1]; first | done | omega)) only [go_sem, ↓reduceIte, Nat.reduceLT, Nat.reduceEqDiff, Nat.reduceAdd, Nat.reduceSub, Nat.reduceMul, Nat.reduceLeDiff, reduceCtorEq, Int.reduceLE, Int.reduceLT, Int.reduceNeg, Int.reduceToNat, Nat.reduceSubDiff, Nat.reducePow, f1])
    (first | refine post_fin ret_ok hM rfl ?_ ?_ | refine post_fin0 ret_ok hM rfl ?_ ?_ | refine post_fin normal_ok hM rfl ?_ ?_ | refine post_fin0 normal_ok hM rfl ?_ ?_)
    · simp -implicitDefEqProofs (disch := first | omega | (simp only [go_sem, ↓reduceIte, reduceCtorEq]; first | done | omega)) only [go_sem, ↓reduceIte, Nat.reduceLT, Nat.reduceEqDiff, Nat.reduceAdd, Nat.reduceSub, Nat.reduceMul, Nat.reduceLeDiff, reduceCtorEq, Int.reduceLE, Int.reduceLT, Int.reduceNeg, Int.reduceToNat, Nat.reduceSubDiff, Nat.reducePow]
      rw [nameOk_long h24]
    · (simp only [go_sem, ↓reduceIte, Nat.reduceLT, Nat.reduceEqDiff, Nat.reduceAdd, Nat.reduceSub, Nat.reduceMul, Nat.reduceLeDiff, reduceCtorEq, Int.reduceLE, Int.reduceLT, Int.reduceNeg, Int.reduceToNat, Nat.reduceSubDiff, Nat.reducePow] <;> first | done | omega)
  have f1 : ((24 : Int) < s.size) = False := eq_false (by omega)
  (refine ACall_fn (cf := L2.c96) rfl rfl fun hM hA => ?_; simp only [L2.c96]; rw [mk1 _ (by decide)]; simp -implicitDefEqProofs (disch := first | omega | (simp only [go_sem, ↓reduceIte, reduceCtorEq, f1]; first | done | omega)) only [go_sem, ↓reduceIte, Nat.reduceLT, Nat.reduceEqDiff, Nat.reduceAdd, Nat.reduceSub, Nat.reduceMul, Nat.reduceLeDiff, reduceCtorEq, Int.reduceLE, Int.reduceLT, Int.reduceNeg, Int.reduceToNat, Nat.reduceSubDiff, Nat.reducePow, f1])
  refine loop_mk (α := Nat) 0 (fun k => k ≤ s.size ∧ ∀ i, i < k → chOk i (chAt s i) = true) (fun k => M ++ [.siter s k]) (fun k => [(0, .s (.string s)), (10, .oi M.length)]) (fun k => s.size - k) ⟨Nat.zero_le _, fun i h => absurd h (by omega)⟩ rfl rfl ?_
  rintro k ⟨hk, hs⟩
  by_cases hlt : k < s.size
  · obtain ⟨u, h1⟩ := get_some hlt
    have hch := chAt_some h1
    have inv : chOk k u.toNat = true → ∀ i, i < k + 1 → chOk i (chAt s i) = true := by
      intro hx i hi
      rcases Nat.lt_or_ge i k with h | h
      · exact hs i h
      · have : i = k := by omega
        subst this; rw [hch]; exact hx
    by_cases hu : u.toNat < 128
    · have d1 : (Utf8.decode s k).1 = u.toNat := by rw [dec_lo h1 hu]
      have d2 : (Utf8.decode s k).2 = 1 := by rw [dec_lo h1 hu]
      rcases (by omega : (u.toNat < 48) ∨ (48 ≤ u.toNat ∧ u.toNat ≤ 57) ∨ (57 < u.toNat ∧ u.toNat < 65) ∨ (65 ≤ u.toNat ∧ u.toNat ≤ 90) ∨ (90 < u.toNat ∧ u.toNat < 95) ∨ (u.toNat = 95) ∨ (u.toNat = 96) ∨ (97 ≤ u.toNat ∧ u.toNat ≤ 122) ∨ (122 < u.toNat)) with hc | hc | hc | hc | hc | hc | hc | hc | hc
      · have A1 : ((97 : Int) ≤ (u.toNat : Int)) = False := eq_false (by omega)
        have A2 : ((u.toNat : Int) ≤ 122) = True := eq_true (by omega)
        have A3 : ((65 : Int) ≤ (u.toNat : Int)) = False := eq_false (by omega)
        have A4 : ((u.toNat : Int) ≤ 90) = True := eq_true (by omega)
        have A5 : ((u.toNat : Int) = 95) = False := eq_false (by omega)
        have A6 : ((u.toNat : Int) < 48) = True := eq_true (by omega)
        have A7 : ((57 : Int) < (u.toNat : Int)) = False := eq_false (by omega)
        by_cases hk0 : k = 0
        · have B : ((k : Int) = 0) = True := eq_true (by omega)
          simp -implicitDefEqProofs (disch := first | omega | (simp only [go_sem, ↓reduceIte, reduceCtorEq, hlt, h1, A1, A2, A3, A4, A5, A6, A7, B, d1, d2]; first | done | omega)) only [go_sem, ↓reduceIte, Nat.reduceLT, Nat.reduceEqDiff, Nat.reduceAdd, Nat.reduceSub, Nat.reduceMul, Nat.reduceLeDiff, reduceCtorEq, Int.reduceLE, Int.reduceLT, Int.reduceNeg, Int.reduceToNat, Nat.reduceSubDiff, Nat.reducePow, hlt, h1, A1, A2, A3, A4, A5, A6, A7, B, d1, d2]
          (first | refine post_fin ret_ok hM rfl ?_ ?_ | refine post_fin0 ret_ok hM rfl ?_ ?_ | refine post_fin normal_ok hM rfl ?_ ?_ | refine post_fin0 normal_ok hM rfl ?_ ?_)
          · simp -implicitDefEqProofs (disch := first | omega | (simp only [go_sem, ↓reduceIte, reduceCtorEq]; first | done | omega)) only [go_sem, ↓reduceIte, Nat.reduceLT, Nat.reduceEqDiff, Nat.reduceAdd, Nat.reduceSub, Nat.reduceMul, Nat.reduceLeDiff, reduceCtorEq, Int.reduceLE, Int.reduceLT, Int.reduceNeg, Int.reduceToNat, Nat.reduceSubDiff, Nat.reducePow]
            rw [nameOk_bad hlt (by rw [hch]; simp [chOk, letterB]; omega)]
          · (simp only [go_sem, ↓reduceIte, Nat.reduceLT, Nat.reduceEqDiff, Nat.reduceAdd, Nat.reduceSub, Nat.reduceMul, Nat.reduceLeDiff, reduceCtorEq, Int.reduceLE, Int.reduceLT, Int.reduceNeg, Int.reduceToNat, Nat.reduceSubDiff, Nat.reducePow] <;> first | done | omega)
        · have B : ((k : Int) = 0) = False := eq_false (by omega)
          simp -implicitDefEqProofs (disch := first | omega | (simp only [go_sem, ↓reduceIte, reduceCtorEq, hlt, h1, A1, A2, A3, A4, A5, A6, A7, B, d1, d2]; first | done | omega)) only [go_sem, ↓reduceIte, Nat.reduceLT, Nat.reduceEqDiff, Nat.reduceAdd, Nat.reduceSub, Nat.reduceMul, Nat.reduceLeDiff, reduceCtorEq, Int.reduceLE, Int.reduceLT, Int.reduceNeg, Int.reduceToNat, Nat.reduceSubDiff, Nat.reducePow, hlt, h1, A1, A2, A3, A4, A5, A6, A7, B, d1, d2]
          (first | refine post_fin ret_ok hM rfl ?_ ?_ | refine post_fin0 ret_ok hM rfl ?_ ?_ | refine post_fin normal_ok hM rfl ?_ ?_ | refine post_fin0 normal_ok hM rfl ?_ ?_)
          · simp -implicitDefEqProofs (disch := first | omega | (simp only [go_sem, ↓reduceIte, reduceCtorEq]; first | done | omega)) only [go_sem, ↓reduceIte, Nat.reduceLT, Nat.reduceEqDiff, Nat.reduceAdd, Nat.reduceSub, Nat.reduceMul, Nat.reduceLeDiff, reduceCtorEq, Int.reduceLE, Int.reduceLT, Int.reduceNeg, Int.reduceToNat, Nat.reduceSubDiff, Nat.reducePow]
            rw [nameOk_bad hlt (by rw [hch]; simp [chOk, letterB]; omega)]
          · (simp only [go_sem, ↓reduceIte, Nat.reduceLT, Nat.reduceEqDiff, Nat.reduceAdd, Nat.reduceSub, Nat.reduceMul, Nat.reduceLeDiff, reduceCtorEq, Int.reduceLE, Int.reduceLT, Int.reduceNeg, Int.reduceToNat, Nat.reduceSubDiff, Nat.reducePow] <;> first | done | omega)
      · have A1 : ((97 : Int) ≤ (u.toNat : Int)) = False := eq_false (by omega)
        have A2 : ((u.toNat : Int) ≤ 122) = True := eq_true (by omega)
        have A3 : ((65 : Int) ≤ (u.toNat : Int)) = False := eq_false (by omega)
        have A4 : ((u.toNat : Int) ≤ 90) = True := eq_true (by omega)
        have A5 : ((u.toNat : Int) = 95) = False := eq_false (by omega)
        have A6 : ((u.toNat : Int) < 48) = False := eq_false (by omega)
        have A7 : ((57 : Int) < (u.toNat : Int)) = False := eq_false (by omega)
        by_cases hk0 : k = 0
        · have B : ((k : Int) = 0) = True := eq_true (by omega)
          simp -implicitDefEqProofs (disch := first | omega | (simp only [go_sem, ↓reduceIte, reduceCtorEq, hlt, h1, A1, A2, A3, A4, A5, A6, A7, B, d1, d2]; first | done | omega)) only [go_sem, ↓reduceIte, Nat.reduceLT, Nat.reduceEqDiff, Nat.reduceAdd, Nat.reduceSub, Nat.reduceMul, Nat.reduceLeDiff, reduceCtorEq, Int.reduceLE, Int.reduceLT, Int.reduceNeg, Int.reduceToNat, Nat.reduceSubDiff, Nat.reducePow, hlt, h1, A1, A2, A3, A4, A5, A6, A7, B, d1, d2]
          (first | refine post_fin ret_ok hM rfl ?_ ?_ | refine post_fin0 ret_ok hM rfl ?_ ?_ | refine post_fin normal_ok hM rfl ?_ ?_ | refine post_fin0 normal_ok hM rfl ?_ ?_)
          · simp -implicitDefEqProofs (disch := first | omega | (simp only [go_sem, ↓reduceIte, reduceCtorEq]; first | done | omega)) only [go_sem, ↓reduceIte, Nat.reduceLT, Nat.reduceEqDiff, Nat.reduceAdd, Nat.reduceSub, Nat.reduceMul, Nat.reduceLeDiff, reduceCtorEq, Int.reduceLE, Int.reduceLT, Int.reduceNeg, Int.reduceToNat, Nat.reduceSubDiff, Nat.reducePow]
            rw [nameOk_bad hlt (by rw [hch]; simp [chOk, letterB]; omega)]
          · (simp only [go_sem, ↓reduceIte, Nat.reduceLT, Nat.reduceEqDiff, Nat.reduceAdd, Nat.reduceSub, Nat.reduceMul, Nat.reduceLeDiff, reduceCtorEq, Int.reduceLE, Int.reduceLT, Int.reduceNeg, Int.reduceToNat, Nat.reduceSubDiff, Nat.reducePow] <;> first | done | omega)
        · have B : ((k : Int) = 0) = False := eq_false (by omega)
          simp -implicitDefEqProofs (disch := first | omega | (simp only [go_sem, ↓reduceIte, reduceCtorEq, hlt, h1, A1, A2, A3, A4, A5, A6, A7, B, d1, d2]; first | done | omega)) only [go_sem, ↓reduceIte, Nat.reduceLT, Nat.reduceEqDiff, Nat.reduceAdd, Nat.reduceSub, Nat.reduceMul, Nat.reduceLeDiff, reduceCtorEq, Int.reduceLE, Int.reduceLT, Int.reduceNeg, Int.reduceToNat, Nat.reduceSubDiff, Nat.reducePow, hlt, h1, A1, A2, A3, A4, A5, A6, A7, B, d1, d2]
          exact again' (k + 1) ⟨by omega, inv (by simp [chOk, letterB]; omega)⟩ (by omega) rfl rfl
      · have A1 : ((97 : Int) ≤ (u.toNat : Int)) = False := eq_false (by omega)
        have A2 : ((u.toNat : Int) ≤ 122) = True := eq_true (by omega)
        have A3 : ((65 : Int) ≤ (u.toNat : Int)) = False := eq_false (by omega)
        have A4 : ((u.toNat : Int) ≤ 90) = True := eq_true (by omega)
        have A5 : ((u.toNat : Int) = 95) = False := eq_false (by omega)
        have A6 : ((u.toNat : Int) < 48) = False := eq_false (by omega)
        have A7 : ((57 : Int) < (u.toNat : Int)) = True := eq_true (by omega)
        by_cases hk0 : k = 0
        · have B : ((k : Int) = 0) = True := eq_true (by omega)
          simp -implicitDefEqProofs (disch := first | omega | (simp only [go_sem, ↓reduceIte, reduceCtorEq, hlt, h1, A1, A2, A3, A4, A5, A6, A7, B, d1, d2]; first | done | omega)) only [go_sem, ↓reduceIte, Nat.reduceLT, Nat.reduceEqDiff, Nat.reduceAdd, Nat.reduceSub, Nat.reduceMul, Nat.reduceLeDiff, reduceCtorEq, Int.reduceLE, Int.reduceLT, Int.reduceNeg, Int.reduceToNat, Nat.reduceSubDiff, Nat.reducePow, hlt, h1, A1, A2, A3, A4, A5, A6, A7, B, d1, d2]
          (first | refine post_fin ret_ok hM rfl ?_ ?_ | refine post_fin0 ret_ok hM rfl ?_ ?_ | refine post_fin normal_ok hM rfl ?_ ?_ | refine post_fin0 normal_ok hM rfl ?_ ?_)
          · simp -implicitDefEqProofs (disch := first | omega | (simp only [go_sem, ↓reduceIte, reduceCtorEq]; first | done | omega)) only [go_sem, ↓reduceIte, Nat.reduceLT, Nat.reduceEqDiff, Nat.reduceAdd, Nat.reduceSub, Nat.reduceMul, Nat.reduceLeDiff, reduceCtorEq, Int.reduceLE, Int.reduceLT, Int.reduceNeg, Int.reduceToNat, Nat.reduceSubDiff, Nat.reducePow]
            rw [nameOk_bad hlt (by rw [hch]; simp [chOk, letterB]; omega)]
          · (simp only [go_sem, ↓reduceIte, Nat.reduceLT, Nat.reduceEqDiff, Nat.reduceAdd, Nat.reduceSub, Nat.reduceMul, Nat.reduceLeDiff, reduceCtorEq, Int.reduceLE, Int.reduceLT, Int.reduceNeg, Int.reduceToNat, Nat.reduceSubDiff, Nat.reducePow] <;> first | done | omega)
        · have B : ((k : Int) = 0) = False := eq_false (by omega)
          simp -implicitDefEqProofs (disch := first | omega | (simp only [go_sem, ↓reduceIte, reduceCtorEq, hlt, h1, A1, A2, A3, A4, A5, A6, A7, B, d1, d2]; first | done | omega)) only [go_sem, ↓reduceIte, Nat.reduceLT, Nat.reduceEqDiff, Nat.reduceAdd, Nat.reduceSub, Nat.reduceMul, Nat.reduceLeDiff, reduceCtorEq, Int.reduceLE, Int.reduceLT, Int.reduceNeg, Int.reduceToNat, Nat.reduceSubDiff, Nat.reducePow, hlt, h1, A1, A2, A3, A4, A5, A6, A7, B, d1, d2]
          (first | refine post_fin ret_ok hM rfl ?_ ?_ | refine post_fin0 ret_ok hM rfl ?_ ?_ | refine post_fin normal_ok hM rfl ?_ ?_ | refine post_fin0 normal_ok hM rfl ?_ ?_)
          · simp -implicitDefEqProofs (disch := first | omega | (simp only [go_sem, ↓reduceIte, reduceCtorEq]; first | done | omega)) only [go_sem, ↓reduceIte, Nat.reduceLT, Nat.reduceEqDiff, Nat.reduceAdd, Nat.reduceSub, Nat.reduceMul, Nat.reduceLeDiff, reduceCtorEq, Int.reduceLE, Int.reduceLT, Int.reduceNeg, Int.reduceToNat, Nat.reduceSubDiff, Nat.reducePow]
            rw [nameOk_bad hlt (by rw [hch]; simp [chOk, letterB]; omega)]
          · (simp only [go_sem, ↓reduceIte, Nat.reduceLT, Nat.reduceEqDiff, Nat.reduceAdd, Nat.reduceSub, Nat.reduceMul, Nat.reduceLeDiff, reduceCtorEq, Int.reduceLE, Int.reduceLT, Int.reduceNeg, Int.reduceToNat, Nat.reduceSubDiff, Nat.reducePow] <;> first | done | omega)
      · have A1 : ((97 : Int) ≤ (u.toNat : Int)) = False := eq_false (by omega)
        have A2 : ((u.toNat : Int) ≤ 122) = True := eq_true (by omega)
        have A3 : ((65 : Int) ≤ (u.toNat : Int)) = True := eq_true (by omega)
        have A4 : ((u.toNat : Int) ≤ 90) = True := eq_true (by omega)
        have A5 : ((u.toNat : Int) = 95) = False := eq_false (by omega)
        have A6 : ((u.toNat : Int) < 48) = False := eq_false (by omega)
        have A7 : ((57 : Int) < (u.toNat : Int)) = True := eq_true (by omega)
        simp -implicitDefEqProofs (disch := first | omega | (simp only [go_sem, ↓reduceIte, reduceCtorEq, hlt, h1, A1, A2, A3, A4, A5, A6, A7, d1, d2]; first | done | omega)) only [go_sem, ↓reduceIte, Nat.reduceLT, Nat.reduceEqDiff, Nat.reduceAdd, Nat.reduceSub, Nat.reduceMul, Nat.reduceLeDiff, reduceCtorEq, Int.reduceLE, Int.reduceLT, Int.reduceNeg, Int.reduceToNat, Nat.reduceSubDiff, Nat.reducePow, hlt, h1, A1, A2, A3, A4, A5, A6, A7, d1, d2]
        exact again' (k + 1) ⟨by omega, inv (by simp [chOk, letterB]; omega)⟩ (by omega) rfl rfl
      · have A1 : ((97 : Int) ≤ (u.toNat : Int)) = False := eq_false (by omega)
        have A2 : ((u.toNat : Int) ≤ 122) = True := eq_true (by omega)
        have A3 : ((65 : Int) ≤ (u.toNat : Int)) = True := eq_true (by omega)
        have A4 : ((u.toNat : Int) ≤ 90) = False := eq_false (by omega)
        have A5 : ((u.toNat : Int) = 95) = False := eq_false (by omega)
        have A6 : ((u.toNat : Int) < 48) = False := eq_false (by omega)
        have A7 : ((57 : Int) < (u.toNat : Int)) = True := eq_true (by omega)
        by_cases hk0 : k = 0
        · have B : ((k : Int) = 0) = True := eq_true (by omega)
          simp -implicitDefEqProofs (disch := first | omega | (simp only [go_sem, ↓reduceIte, reduceCtorEq, hlt, h1, A1, A2, A3, A4, A5, A6, A7, B, d1, d2]; first | done | omega)) only [go_sem, ↓reduceIte, Nat.reduceLT, Nat.reduceEqDiff, Nat.reduceAdd, Nat.reduceSub, Nat.reduceMul, Nat.reduceLeDiff, reduceCtorEq, Int.reduceLE, Int.reduceLT, Int.reduceNeg, Int.reduceToNat, Nat.reduceSubDiff, Nat.reducePow, hlt, h1, A1, A2, A3, A4, A5, A6, A7, B, d1, d2]
          (first | refine post_fin ret_ok hM rfl ?_ ?_ | refine post_fin0 ret_ok hM rfl ?_ ?_ | refine post_fin normal_ok hM rfl ?_ ?_ | refine post_fin0 normal_ok hM rfl ?_ ?_)
          · simp -implicitDefEqProofs (disch := first | omega | (simp only [go_sem, ↓reduceIte, reduceCtorEq]; first | done | omega)) only [go_sem, ↓reduceIte, Nat.reduceLT, Nat.reduceEqDiff, Nat.reduceAdd, Nat.reduceSub, Nat.reduceMul, Nat.reduceLeDiff, reduceCtorEq, Int.reduceLE, Int.reduceLT, Int.reduceNeg, Int.reduceToNat, Nat.reduceSubDiff, Nat.reducePow]
            rw [nameOk_bad hlt (by rw [hch]; simp [chOk, letterB]; omega)]
          · (simp only [go_sem, ↓reduceIte, Nat.reduceLT, Nat.reduceEqDiff, Nat.reduceAdd, Nat.reduceSub, Nat.reduceMul, Nat.reduceLeDiff, reduceCtorEq, Int.reduceLE, Int.reduceLT, Int.reduceNeg, Int.reduceToNat, Nat.reduceSubDiff, Nat.reducePow] <;> first | done | omega)
        · have B : ((k : Int) = 0) = False := eq_false (by omega)
          simp -implicitDefEqProofs (disch := first | omega | (simp only [go_sem, ↓reduceIte, reduceCtorEq, hlt, h1, A1, A2, A3, A4, A5, A6, A7, B, d1, d2]; first | done | omega)) only [go_sem, ↓reduceIte, Nat.reduceLT, Nat.reduceEqDiff, Nat.reduceAdd, Nat.reduceSub, Nat.reduceMul, Nat.reduceLeDiff, reduceCtorEq, Int.reduceLE, Int.reduceLT, Int.reduceNeg, Int.reduceToNat, Nat.reduceSubDiff, Nat.reducePow, hlt, h1, A1, A2, A3, A4, A5, A6, A7, B, d1, d2]
          (first | refine post_fin ret_ok hM rfl ?_ ?_ | refine post_fin0 ret_ok hM rfl ?_ ?_ | refine post_fin normal_ok hM rfl ?_ ?_ | refine post_fin0 normal_ok hM rfl ?_ ?_)
          · simp -implicitDefEqProofs (disch := first | omega | (simp only [go_sem, ↓reduceIte, reduceCtorEq]; first | done | omega)) only [go_sem, ↓reduceIte, Nat.reduceLT, Nat.reduceEqDiff, Nat.reduceAdd, Nat.reduceSub, Nat.reduceMul, Nat.reduceLeDiff, reduceCtorEq, Int.reduceLE, Int.reduceLT, Int.reduceNeg, Int.reduceToNat, Nat.reduceSubDiff, Nat.reducePow]
            rw [nameOk_bad hlt (by rw [hch]; simp [chOk, letterB]; omega)]
          · (simp only [go_sem, ↓reduceIte, Nat.reduceLT, Nat.reduceEqDiff, Nat.reduceAdd, Nat.reduceSub, Nat.reduceMul, Nat.reduceLeDiff, reduceCtorEq, Int.reduceLE, Int.reduceLT, Int.reduceNeg, Int.reduceToNat, Nat.reduceSubDiff, Nat.reducePow] <;> first | done | omega)
      · have A1 : ((97 : Int) ≤ (u.toNat : Int)) = False := eq_false (by omega)
        have A2 : ((u.toNat : Int) ≤ 122) = True := eq_true (by omega)
        have A3 : ((65 : Int) ≤ (u.toNat : Int)) = True := eq_true (by omega)
        have A4 : ((u.toNat : Int) ≤ 90) = False := eq_false (by omega)
        have A5 : ((u.toNat : Int) = 95) = True := eq_true (by omega)
        have A6 : ((u.toNat : Int) < 48) = False := eq_false (by omega)
        have A7 : ((57 : Int) < (u.toNat : Int)) = True := eq_true (by omega)
        by_cases hk0 : k = 0
        · have B : ((k : Int) = 0) = True := eq_true (by omega)
          simp -implicitDefEqProofs (disch := first | omega | (simp only [go_sem, ↓reduceIte, reduceCtorEq, hlt, h1, A1, A2, A3, A4, A5, A6, A7, B, d1, d2]; first | done | omega)) only [go_sem, ↓reduceIte, Nat.reduceLT, Nat.reduceEqDiff, Nat.reduceAdd, Nat.reduceSub, Nat.reduceMul, Nat.reduceLeDiff, reduceCtorEq, Int.reduceLE, Int.reduceLT, Int.reduceNeg, Int.reduceToNat, Nat.reduceSubDiff, Nat.reducePow, hlt, h1, A1, A2, A3, A4, A5, A6, A7, B, d1, d2]
          (first | refine post_fin ret_ok hM rfl ?_ ?_ | refine post_fin0 ret_ok hM rfl ?_ ?_ | refine post_fin normal_ok hM rfl ?_ ?_ | refine post_fin0 normal_ok hM rfl ?_ ?_)
          · simp -implicitDefEqProofs (disch := first | omega | (simp only [go_sem, ↓reduceIte, reduceCtorEq]; first | done | omega)) only [go_sem, ↓reduceIte, Nat.reduceLT, Nat.reduceEqDiff, Nat.reduceAdd, Nat.reduceSub, Nat.reduceMul, Nat.reduceLeDiff, reduceCtorEq, Int.reduceLE, Int.reduceLT, Int.reduceNeg, Int.reduceToNat, Nat.reduceSubDiff, Nat.reducePow]
            rw [nameOk_bad hlt (by rw [hch]; simp [chOk, letterB]; omega)]
          · (simp only [go_sem, ↓reduceIte, Nat.reduceLT, Nat.reduceEqDiff, Nat.reduceAdd, Nat.reduceSub, Nat.reduceMul, Nat.reduceLeDiff, reduceCtorEq, Int.reduceLE, Int.reduceLT, Int.reduceNeg, Int.reduceToNat, Nat.reduceSubDiff, Nat.reducePow] <;> first | done | omega)
        · have B : ((k : Int) = 0) = False := eq_false (by omega)
          simp -implicitDefEqProofs (disch := first | omega | (simp only [go_sem, ↓reduceIte, reduceCtorEq, hlt, h1, A1, A2, A3, A4, A5, A6, A7, B, d1, d2]; first | done | omega)) only [go_sem, ↓reduceIte, Nat.reduceLT, Nat.reduceEqDiff, Nat.reduceAdd, Nat.reduceSub, Nat.reduceMul, Nat.reduceLeDiff, reduceCtorEq, Int.reduceLE, Int.reduceLT, Int.reduceNeg, Int.reduceToNat, Nat.reduceSubDiff, Nat.reducePow, hlt, h1, A1, A2, A3, A4, A5, A6, A7, B, d1, d2]
          exact again' (k + 1) ⟨by omega, inv (by simp [chOk, letterB]; omega)⟩ (by omega) rfl rfl
      · have A1 : ((97 : Int) ≤ (u.toNat : Int)) = False := eq_false (by omega)
        have A2 : ((u.toNat : Int) ≤ 122) = True := eq_true (by omega)
        have A3 : ((65 : Int) ≤ (u.toNat : Int)) = True := eq_true (by omega)
        have A4 : ((u.toNat : Int) ≤ 90) = False := eq_false (by omega)
        have A5 : ((u.toNat : Int) = 95) = False := eq_false (by omega)
        have A6 : ((u.toNat : Int) < 48) = False := eq_false (by omega)
        have A7 : ((57 : Int) < (u.toNat : Int)) = True := eq_true (by omega)
        by_cases hk0 : k = 0
        · have B : ((k : Int) = 0) = True := eq_true (by omega)
          simp -implicitDefEqProofs (disch := first | omega | (simp only [go_sem, ↓reduceIte, reduceCtorEq, hlt, h1, A1, A2, A3, A4, A5, A6, A7, B, d1, d2]; first | done | omega)) only [go_sem, ↓reduceIte, Nat.reduceLT, Nat.reduceEqDiff, Nat.reduceAdd, Nat.reduceSub, Nat.reduceMul, Nat.reduceLeDiff, reduceCtorEq, Int.reduceLE, Int.reduceLT, Int.reduceNeg, Int.reduceToNat, Nat.reduceSubDiff, Nat.reducePow, hlt, h1, A1, A2, A3, A4, A5, A6, A7, B, d1, d2]
          (first | refine post_fin ret_ok hM rfl ?_ ?_ | refine post_fin0 ret_ok hM rfl ?_ ?_ | refine post_fin normal_ok hM rfl ?_ ?_ | refine post_fin0 normal_ok hM rfl ?_ ?_)
          · simp -implicitDefEqProofs (disch := first | omega | (simp only [go_sem, ↓reduceIte, reduceCtorEq]; first | done | omega)) only [go_sem, ↓reduceIte, Nat.reduceLT, Nat.reduceEqDiff, Nat.reduceAdd, Nat.reduceSub, Nat.reduceMul, Nat.reduceLeDiff, reduceCtorEq, Int.reduceLE, Int.reduceLT, Int.reduceNeg, Int.reduceToNat, Nat.reduceSubDiff, Nat.reducePow]
            rw [nameOk_bad hlt (by rw [hch]; simp [chOk, letterB]; omega)]
          · (simp only [go_sem, ↓reduceIte, Nat.reduceLT, Nat.reduceEqDiff, Nat.reduceAdd, Nat.reduceSub, Nat.reduceMul, Nat.reduceLeDiff, reduceCtorEq, Int.reduceLE, Int.reduceLT, Int.reduceNeg, Int.reduceToNat, Nat.reduceSubDiff, Nat.reducePow] <;> first | done | omega)
        · have B : ((k : Int) = 0) = False := eq_false (by omega)
          simp -implicitDefEqProofs (disch := first | omega | (simp only [go_sem, ↓reduceIte, reduceCtorEq, hlt, h1, A1, A2, A3, A4, A5, A6, A7, B, d1, d2]; first | done | omega)) only [go_sem, ↓reduceIte, Nat.reduceLT, Nat.reduceEqDiff, Nat.reduceAdd, Nat.reduceSub, Nat.reduceMul, Nat.reduceLeDiff, reduceCtorEq, Int.reduceLE, Int.reduceLT, Int.reduceNeg, Int.reduceToNat, Nat.reduceSubDiff, Nat.reducePow, hlt, h1, A1, A2, A3, A4, A5, A6, A7, B, d1, d2]
          (first | refine post_fin ret_ok hM rfl ?_ ?_ | refine post_fin0 ret_ok hM rfl ?_ ?_ | refine post_fin normal_ok hM rfl ?_ ?_ | refine post_fin0 normal_ok hM rfl ?_ ?_)
          · simp -implicitDefEqProofs (disch := first | omega | (simp only [go_sem, ↓reduceIte, reduceCtorEq]; first | done | omega)) only [go_sem, ↓reduceIte, Nat.reduceLT, Nat.reduceEqDiff, Nat.reduceAdd, Nat.reduceSub, Nat.reduceMul, Nat.reduceLeDiff, reduceCtorEq, Int.reduceLE, Int.reduceLT, Int.reduceNeg, Int.reduceToNat, Nat.reduceSubDiff, Nat.reducePow]
            rw [nameOk_bad hlt (by rw [hch]; simp [chOk, letterB]; omega)]
          · (simp only [go_sem, ↓reduceIte, Nat.reduceLT, Nat.reduceEqDiff, Nat.reduceAdd, Nat.reduceSub, Nat.reduceMul, Nat.reduceLeDiff, reduceCtorEq, Int.reduceLE, Int.reduceLT, Int.reduceNeg, Int.reduceToNat, Nat.reduceSubDiff, Nat.reducePow] <;> first | done | omega)
      · have A1 : ((97 : Int) ≤ (u.toNat : Int)) = True := eq_true (by omega)
        have A2 : ((u.toNat : Int) ≤ 122) = True := eq_true (by omega)
        have A3 : ((65 : Int) ≤ (u.toNat : Int)) = True := eq_true (by omega)
        have A4 : ((u.toNat : Int) ≤ 90) = False := eq_false (by omega)
        have A5 : ((u.toNat : Int) = 95) = False := eq_false (by omega)
        have A6 : ((u.toNat : Int) < 48) = False := eq_false (by omega)
        have A7 : ((57 : Int) < (u.toNat : Int)) = True := eq_true (by omega)
        simp -implicitDefEqProofs (disch := first | omega | (simp only [go_sem, ↓reduceIte, reduceCtorEq, hlt, h1, A1, A2, A3, A4, A5, A6, A7, d1, d2]; first | done | omega)) only [go_sem, ↓reduceIte, Nat.reduceLT, Nat.reduceEqDiff, Nat.reduceAdd, Nat.reduceSub, Nat.reduceMul, Nat.reduceLeDiff, reduceCtorEq, Int.reduceLE, Int.reduceLT, Int.reduceNeg, Int.reduceToNat, Nat.reduceSubDiff, Nat.reducePow, hlt, h1, A1, A2, A3, A4, A5, A6, A7, d1, d2]
        exact again' (k + 1) ⟨by omega, inv (by simp [chOk, letterB]; omega)⟩ (by omega) rfl rfl
      · have A1 : ((97 : Int) ≤ (u.toNat : Int)) = True := eq_true (by omega)
        have A2 : ((u.toNat : Int) ≤ 122) = False := eq_false (by omega)
        have A3 : ((65 : Int) ≤ (u.toNat : Int)) = True := eq_true (by omega)
        have A4 : ((u.toNat : Int) ≤ 90) = False := eq_false (by omega)
        have A5 : ((u.toNat : Int) = 95) = False := eq_false (by omega)
        have A6 : ((u.toNat : Int) < 48) = False := eq_false (by omega)
        have A7 : ((57 : Int) < (u.toNat : Int)) = True := eq_true (by omega)
        by_cases hk0 : k = 0
        · have B : ((k : Int) = 0) = True := eq_true (by omega)
          simp -implicitDefEqProofs (disch := first | omega | (simp only [go_sem, ↓reduceIte, reduceCtorEq, hlt, h1, A1, A2, A3, A4, A5, A6, A7, B, d1, d2]; first | done | omega)) only [go_sem, ↓reduceIte, Nat.reduceLT, Nat.reduceEqDiff, Nat.reduceAdd, Nat.reduceSub, Nat.reduceMul, Nat.reduceLeDiff, reduceCtorEq, Int.reduceLE, Int.reduceLT, Int.reduceNeg, Int.reduceToNat, Nat.reduceSubDiff, Nat.reducePow, hlt, h1, A1, A2, A3, A4, A5, A6, A7, B, d1, d2]
          (first | refine post_fin ret_ok hM rfl ?_ ?_ | refine post_fin0 ret_ok hM rfl ?_ ?_ | refine post_fin normal_ok hM rfl ?_ ?_ | refine post_fin0 normal_ok hM rfl ?_ ?_)
          · simp -implicitDefEqProofs (disch := first | omega | (simp only [go_sem, ↓reduceIte, reduceCtorEq]; first | done | omega)) only [go_sem, ↓reduceIte, Nat.reduceLT, Nat.reduceEqDiff, Nat.reduceAdd, Nat.reduceSub, Nat.reduceMul, Nat.reduceLeDiff, reduceCtorEq, Int.reduceLE, Int.reduceLT, Int.reduceNeg, Int.reduceToNat, Nat.reduceSubDiff, Nat.reducePow]
            rw [nameOk_bad hlt (by rw [hch]; simp [chOk, letterB]; omega)]
          · (simp only [go_sem, ↓reduceIte, Nat.reduceLT, Nat.reduceEqDiff, Nat.reduceAdd, Nat.reduceSub, Nat.reduceMul, Nat.reduceLeDiff, reduceCtorEq, Int.reduceLE, Int.reduceLT, Int.reduceNeg, Int.reduceToNat, Nat.reduceSubDiff, Nat.reducePow] <;> first | done | omega)
        · have B : ((k : Int) = 0) = False := eq_false (by omega)
          simp -implicitDefEqProofs (disch := first | omega | (simp only [go_sem, ↓reduceIte, reduceCtorEq, hlt, h1, A1, A2, A3, A4, A5, A6, A7, B, d1, d2]; first | done | omega)) only [go_sem, ↓reduceIte, Nat.reduceLT, Nat.reduceEqDiff, Nat.reduceAdd, Nat.reduceSub, Nat.reduceMul, Nat.reduceLeDiff, reduceCtorEq, Int.reduceLE, Int.reduceLT, Int.reduceNeg, Int.reduceToNat, Nat.reduceSubDiff, Nat.reducePow, hlt, h1, A1, A2, A3, A4, A5, A6, A7, B, d1, d2]
          (first | refine post_fin ret_ok hM rfl ?_ ?_ | refine post_fin0 ret_ok hM rfl ?_ ?_ | refine post_fin normal_ok hM rfl ?_ ?_ | refine post_fin0 normal_ok hM rfl ?_ ?_)
          · simp -implicitDefEqProofs (disch := first | omega | (simp only [go_sem, ↓reduceIte, reduceCtorEq]; first | done | omega)) only [go_sem, ↓reduceIte, Nat.reduceLT, Nat.reduceEqDiff, Nat.reduceAdd, Nat.reduceSub, Nat.reduceMul, Nat.reduceLeDiff, reduceCtorEq, Int.reduceLE, Int.reduceLT, Int.reduceNeg, Int.reduceToNat, Nat.reduceSubDiff, Nat.reducePow]
            rw [nameOk_bad hlt (by rw [hch]; simp [chOk, letterB]; omega)]
          · (simp only [go_sem, ↓reduceIte, Nat.reduceLT, Nat.reduceEqDiff, Nat.reduceAdd, Nat.reduceSub, Nat.reduceMul, Nat.reduceLeDiff, reduceCtorEq, Int.reduceLE, Int.reduceLT, Int.reduceNeg, Int.reduceToNat, Nat.reduceSubDiff, Nat.reducePow] <;> first | done | omega)
    · have hr := dec_hi h1 hu
      have A1 : ((97 : Int) ≤ ((Utf8.decode s k).1 : Int)) = True := eq_true (by omega)
      have A2 : (((Utf8.decode s k).1 : Int) ≤ 122) = False := eq_false (by omega)
      have A3 : ((65 : Int) ≤ ((Utf8.decode s k).1 : Int)) = True := eq_true (by omega)
      have A4 : (((Utf8.decode s k).1 : Int) ≤ 90) = False := eq_false (by omega)
      have A5 : (((Utf8.decode s k).1 : Int) = 95) = False := eq_false (by omega)
      have A6 : (((Utf8.decode s k).1 : Int) < 48) = False := eq_false (by omega)
      have A7 : ((57 : Int) < ((Utf8.decode s k).1 : Int)) = True := eq_true (by omega)
      by_cases hk0 : k = 0
      · have B : ((k : Int) = 0) = True := eq_true (by omega)
        simp -implicitDefEqProofs (disch := first | omega | (simp only [go_sem, ↓reduceIte, reduceCtorEq, hlt, A1, A2, A3, A4, A5, A6, A7, B]; first | done | omega)) only [go_sem, ↓reduceIte, Nat.reduceLT, Nat.reduceEqDiff, Nat.reduceAdd, Nat.reduceSub, Nat.reduceMul, Nat.reduceLeDiff, reduceCtorEq, Int.reduceLE, Int.reduceLT, Int.reduceNeg, Int.reduceToNat, Nat.reduceSubDiff, Nat.reducePow, hlt, A1, A2, A3, A4, A5, A6, A7, B]
        (first | refine post_fin ret_ok hM rfl ?_ ?_ | refine post_fin0 ret_ok hM rfl ?_ ?_ | refine post_fin normal_ok hM rfl ?_ ?_ | refine post_fin0 normal_ok hM rfl ?_ ?_)
        · simp -implicitDefEqProofs (disch := first | omega | (simp only [go_sem, ↓reduceIte, reduceCtorEq]; first | done | omega)) only [go_sem, ↓reduceIte, Nat.reduceLT, Nat.reduceEqDiff, Nat.reduceAdd, Nat.reduceSub, Nat.reduceMul, Nat.reduceLeDiff, reduceCtorEq, Int.reduceLE, Int.reduceLT, Int.reduceNeg, Int.reduceToNat, Nat.reduceSubDiff, Nat.reducePow]
          rw [nameOk_bad hlt (by rw [hch]; simp [chOk, letterB]; omega)]
        · (simp only [go_sem, ↓reduceIte, Nat.reduceLT, Nat.reduceEqDiff, Nat.reduceAdd, Nat.reduceSub, Nat.reduceMul, Nat.reduceLeDiff, reduceCtorEq, Int.reduceLE, Int.reduceLT, Int.reduceNeg, Int.reduceToNat, Nat.reduceSubDiff, Nat.reducePow] <;> first | done | omega)
      · have B : ((k : Int) = 0) = False := eq_false (by omega)
        simp -implicitDefEqProofs (disch := first | omega | (simp only [go_sem, ↓reduceIte, reduceCtorEq, hlt, A1, A2, A3, A4, A5, A6, A7, B]; first | done | omega)) only [go_sem, ↓reduceIte, Nat.reduceLT, Nat.reduceEqDiff, Nat.reduceAdd, Nat.reduceSub, Nat.reduceMul, Nat.reduceLeDiff, reduceCtorEq, Int.reduceLE, Int.reduceLT, Int.reduceNeg, Int.reduceToNat, Nat.reduceSubDiff, Nat.reducePow, hlt, A1, A2, A3, A4, A5, A6, A7, B]
        (first | refine post_fin ret_ok hM rfl ?_ ?_ | refine post_fin0 ret_ok hM rfl ?_ ?_ | refine post_fin normal_ok hM rfl ?_ ?_ | refine post_fin0 normal_ok hM rfl ?_ ?_)
        · simp -implicitDefEqProofs (disch := first | omega | (simp only [go_sem, ↓reduceIte, reduceCtorEq]; first | done | omega)) only [go_sem, ↓reduceIte, Nat.reduceLT, Nat.reduceEqDiff, Nat.reduceAdd, Nat.reduceSub, Nat.reduceMul, Nat.reduceLeDiff, reduceCtorEq, Int.reduceLE, Int.reduceLT, Int.reduceNeg, Int.reduceToNat, Nat.reduceSubDiff, Nat.reducePow]
          rw [nameOk_bad hlt (by rw [hch]; simp [chOk, letterB]; omega)]
        · (simp only [go_sem, ↓reduceIte, Nat.reduceLT, Nat.reduceEqDiff, Nat.reduceAdd, Nat.reduceSub, Nat.reduceMul, Nat.reduceLeDiff, reduceCtorEq, Int.reduceLE, Int.reduceLT, Int.reduceNeg, Int.reduceToNat, Nat.reduceSubDiff, Nat.reducePow] <;> first | done | omega)
  · simp -implicitDefEqProofs (disch := first | omega | (simp only [go_sem, ↓reduceIte, reduceCtorEq, hlt, bin_neq_empty]; first | done | omega)) only [go_sem, ↓reduceIte, Nat.reduceLT, Nat.reduceEqDiff, Nat.reduceAdd, Nat.reduceSub, Nat.reduceMul, Nat.reduceLeDiff, reduceCtorEq, Int.reduceLE, Int.reduceLT, Int.reduceNeg, Int.reduceToNat, Nat.reduceSubDiff, Nat.reducePow, hlt, bin_neq_empty]
    (first | refine post_fin ret_ok hM rfl ?_ ?_ | refine post_fin0 ret_ok hM rfl ?_ ?_ | refine post_fin normal_ok hM rfl ?_ ?_ | refine post_fin0 normal_ok hM rfl ?_ ?_)
    · simp -implicitDefEqProofs (disch := first | omega | (simp only [go_sem, ↓reduceIte, reduceCtorEq]; first | done | omega)) only [go_sem, ↓reduceIte, Nat.reduceLT, Nat.reduceEqDiff, Nat.reduceAdd, Nat.reduceSub, Nat.reduceMul, Nat.reduceLeDiff, reduceCtorEq, Int.reduceLE, Int.reduceLT, Int.reduceNeg, Int.reduceToNat, Nat.reduceSubDiff, Nat.reducePow]
      by_cases h0 : s.size = 0
      · rw [nameOk_zero h0]; simp [h0]
      · rw [nameOk_good h0 (by omega) (fun i hi => hs i (by omega))]; simp [h0]
    · (simp only [go_sem, ↓reduceIte, Nat.reduceLT, Nat.reduceEqDiff, Nat.reduceAdd, Nat.reduceSub, Nat.reduceMul, Nat.reduceLeDiff, reduceCtorEq, Int.reduceLE, Int.reduceLT, Int.reduceNeg, Int.reduceToNat, Nat.reduceSubDiff, Nat.reducePow] <;> first | done | omega)
end
end Go.Nac.L2
set_option linter.unusedSimpArgs false
set_option linter.unusedVariables false
set_option linter.unnecessarySimpa false
set_option maxRecDepth 10000
namespace Go.Nac.L2
attribute [local congr] b1_congr b2_congr Wp_congr wpOps_congr thenK_congr blockK_congr gK_congr cK_congr
section
variable {X : FuncId → List PV → PV → Prop}
open Ieee
/-- Math's floor, which has no body. -/
def FloorX (X : FuncId → List PV → PV → Prop) : Prop := ∀ (x : Nat) (s : Bool) (m : Nat) (l : Int), double.read x = .number s m l → X 113 [.s (.float .f64 x)] (.s (.float .f64 (double.write ((double.read x).integral .down))))
theorem q_math_Floor (hX : FloorX X) {x : Nat} {s : Bool} {m : Nat} {l : Int} (h : double.read x = .number s m l) : Q X 99 [.s (.float .f64 x)] (.s (.float .f64 (double.write ((double.read x).integral .down)))) := by
  intro M
  (refine ACall_fn (cf := L2.c99) rfl rfl fun hM hA => ?_; simp only [L2.c99]; rw [mk1 _ (by decide)]; simp -implicitDefEqProofs (disch := first | omega | (simp only [go_sem, ↓reduceIte, reduceCtorEq]; first | done | omega)) only [go_sem, ↓reduceIte, Nat.reduceLT, Nat.reduceEqDiff, Nat.reduceAdd, Nat.reduceSub, Nat.reduceMul, Nat.reduceLeDiff, reduceCtorEq, Int.reduceLE, Int.reduceLT, Int.reduceNeg, Int.reduceToNat, Nat.reduceSubDiff, Nat.reducePow])
  refine callP_q (ACall_ext (hX x s m l h) _) ?_
  simp -implicitDefEqProofs (disch := first | omega | (simp only [go_sem, ↓reduceIte, reduceCtorEq]; first | done | omega)) only [go_sem, ↓reduceIte, Nat.reduceLT, Nat.reduceEqDiff, Nat.reduceAdd, Nat.reduceSub, Nat.reduceMul, Nat.reduceLeDiff, reduceCtorEq, Int.reduceLE, Int.reduceLT, Int.reduceNeg, Int.reduceToNat, Nat.reduceSubDiff, Nat.reducePow]
  (all_goals (first | refine post_fin ret_ok hM rfl ?_ ?_ | refine post_fin0 ret_ok hM rfl ?_ ?_ | refine post_fin normal_ok hM rfl ?_ ?_ | refine post_fin0 normal_ok hM rfl ?_ ?_); all_goals first | (simp only [go_sem, ↓reduceIte, Nat.reduceLT, Nat.reduceEqDiff, Nat.reduceAdd, Nat.reduceSub, Nat.reduceMul, Nat.reduceLeDiff, reduceCtorEq, Int.reduceLE, Int.reduceLT, Int.reduceNeg, Int.reduceToNat, Nat.reduceSubDiff, Nat.reducePow] <;> first | done | omega) | skip; all_goals (try simp -implicitDefEqProofs (disch := first | omega | (simp only [go_sem, ↓reduceIte, reduceCtorEq]; first | done | omega)) only [go_sem, ↓reduceIte, Nat.reduceLT, Nat.reduceEqDiff, Nat.reduceAdd, Nat.reduceSub, Nat.reduceMul, Nat.reduceLeDiff, reduceCtorEq, Int.reduceLE, Int.reduceLT, Int.reduceNeg, Int.reduceToNat, Nat.reduceSubDiff, Nat.reducePow]))
theorem q_site_when (b : Bool) (e : Int) : Q X 77 [.B b, .I e] (.I (if b = true then e else 0)) := by
  intro M
  (refine ACall_fn (cf := L2.c77) rfl rfl fun hM hA => ?_; simp only [L2.c77]; rw [mk2 _ (by decide)]; simp -implicitDefEqProofs (disch := first | omega | (simp only [go_sem, ↓reduceIte, reduceCtorEq]; first | done | omega)) only [go_sem, ↓reduceIte, Nat.reduceLT, Nat.reduceEqDiff, Nat.reduceAdd, Nat.reduceSub, Nat.reduceMul, Nat.reduceLeDiff, reduceCtorEq, Int.reduceLE, Int.reduceLT, Int.reduceNeg, Int.reduceToNat, Nat.reduceSubDiff, Nat.reducePow])
  repeat' (first | (refine cK_cases ?_ ?_ <;> intro hc <;> (try simp only [decide_eq_true_eq, decide_eq_false_iff_not, Classical.not_not, Bool.not_eq_true, Bool.not_eq_true', Bool.not_eq_false', Bool.false_or, Bool.or_false, Bool.true_or, Bool.or_true, Bool.false_and, Bool.and_false, Bool.true_and, Bool.and_true] at hc) <;> (try simp -implicitDefEqProofs (disch := first | omega | (simp only [go_sem, ↓reduceIte, reduceCtorEq, hc]; first | done | omega)) only [go_sem, ↓reduceIte, Nat.reduceLT, Nat.reduceEqDiff, Nat.reduceAdd, Nat.reduceSub, Nat.reduceMul, Nat.reduceLeDiff, reduceCtorEq, Int.reduceLE, Int.reduceLT, Int.reduceNeg, Int.reduceToNat, Nat.reduceSubDiff, Nat.reducePow, hc])) | (refine gK_cases ?_ ?_ <;> intro hc <;> (try simp only [decide_eq_true_eq, decide_eq_false_iff_not, Classical.not_not, Bool.not_eq_true, Bool.not_eq_true', Bool.not_eq_false', Bool.false_or, Bool.or_false, Bool.true_or, Bool.or_true, Bool.false_and, Bool.and_false, Bool.true_and, Bool.and_true] at hc) <;> (try simp -implicitDefEqProofs (disch := first | omega | (simp only [go_sem, ↓reduceIte, reduceCtorEq, hc]; first | done | omega)) only [go_sem, ↓reduceIte, Nat.reduceLT, Nat.reduceEqDiff, Nat.reduceAdd, Nat.reduceSub, Nat.reduceMul, Nat.reduceLeDiff, reduceCtorEq, Int.reduceLE, Int.reduceLT, Int.reduceNeg, Int.reduceToNat, Nat.reduceSubDiff, Nat.reducePow, hc])))
  (all_goals (first | refine post_fin ret_ok hM rfl ?_ ?_ | refine post_fin0 ret_ok hM rfl ?_ ?_ | refine post_fin normal_ok hM rfl ?_ ?_ | refine post_fin0 normal_ok hM rfl ?_ ?_); all_goals first | (simp only [go_sem, ↓reduceIte, Nat.reduceLT, Nat.reduceEqDiff, Nat.reduceAdd, Nat.reduceSub, Nat.reduceMul, Nat.reduceLeDiff, reduceCtorEq, Int.reduceLE, Int.reduceLT, Int.reduceNeg, Int.reduceToNat, Nat.reduceSubDiff, Nat.reducePow] <;> first | done | omega) | skip; all_goals (try simp -implicitDefEqProofs (disch := first | omega | (simp only [go_sem, ↓reduceIte, reduceCtorEq]; first | done | omega)) only [go_sem, ↓reduceIte, Nat.reduceLT, Nat.reduceEqDiff, Nat.reduceAdd, Nat.reduceSub, Nat.reduceMul, Nat.reduceLeDiff, reduceCtorEq, Int.reduceLE, Int.reduceLT, Int.reduceNeg, Int.reduceToNat, Nat.reduceSubDiff, Nat.reducePow]))
theorem q_site_within (n a b : Int) : Q X 76 [.I n, .I a, .I b] (.I (rng n a b)) := by
  intro M
  (refine ACall_fn (cf := L2.c76) rfl rfl fun hM hA => ?_; simp only [L2.c76]; rw [mk3 _ (by decide)]; simp -implicitDefEqProofs (disch := first | omega | (simp only [go_sem, ↓reduceIte, reduceCtorEq]; first | done | omega)) only [go_sem, ↓reduceIte, Nat.reduceLT, Nat.reduceEqDiff, Nat.reduceAdd, Nat.reduceSub, Nat.reduceMul, Nat.reduceLeDiff, reduceCtorEq, Int.reduceLE, Int.reduceLT, Int.reduceNeg, Int.reduceToNat, Nat.reduceSubDiff, Nat.reducePow])
  repeat' (first | (refine callP_q (q_site_when _ _ _) ?_; (try simp -implicitDefEqProofs (disch := first | omega | (simp only [go_sem, ↓reduceIte, reduceCtorEq]; first | done | omega)) only [go_sem, ↓reduceIte, Nat.reduceLT, Nat.reduceEqDiff, Nat.reduceAdd, Nat.reduceSub, Nat.reduceMul, Nat.reduceLeDiff, reduceCtorEq, Int.reduceLE, Int.reduceLT, Int.reduceNeg, Int.reduceToNat, Nat.reduceSubDiff, Nat.reducePow])) | (refine cK_cases ?_ ?_ <;> intro hc <;> (try simp only [decide_eq_true_eq, decide_eq_false_iff_not, Classical.not_not, Bool.not_eq_true, Bool.not_eq_true', Bool.not_eq_false', Bool.false_or, Bool.or_false, Bool.true_or, Bool.or_true, Bool.false_and, Bool.and_false, Bool.true_and, Bool.and_true] at hc) <;> (try simp -implicitDefEqProofs (disch := first | omega | (simp only [go_sem, ↓reduceIte, reduceCtorEq, hc]; first | done | omega)) only [go_sem, ↓reduceIte, Nat.reduceLT, Nat.reduceEqDiff, Nat.reduceAdd, Nat.reduceSub, Nat.reduceMul, Nat.reduceLeDiff, reduceCtorEq, Int.reduceLE, Int.reduceLT, Int.reduceNeg, Int.reduceToNat, Nat.reduceSubDiff, Nat.reducePow, hc])) | (refine gK_cases ?_ ?_ <;> intro hc <;> (try simp only [decide_eq_true_eq, decide_eq_false_iff_not, Classical.not_not, Bool.not_eq_true, Bool.not_eq_true', Bool.not_eq_false', Bool.false_or, Bool.or_false, Bool.true_or, Bool.or_true, Bool.false_and, Bool.and_false, Bool.true_and, Bool.and_true] at hc) <;> (try simp -implicitDefEqProofs (disch := first | omega | (simp only [go_sem, ↓reduceIte, reduceCtorEq, hc]; first | done | omega)) only [go_sem, ↓reduceIte, Nat.reduceLT, Nat.reduceEqDiff, Nat.reduceAdd, Nat.reduceSub, Nat.reduceMul, Nat.reduceLeDiff, reduceCtorEq, Int.reduceLE, Int.reduceLT, Int.reduceNeg, Int.reduceToNat, Nat.reduceSubDiff, Nat.reducePow, hc])))
  (all_goals (first | refine post_fin ret_ok hM rfl ?_ ?_ | refine post_fin0 ret_ok hM rfl ?_ ?_ | refine post_fin normal_ok hM rfl ?_ ?_ | refine post_fin0 normal_ok hM rfl ?_ ?_); all_goals first | (simp only [go_sem, ↓reduceIte, Nat.reduceLT, Nat.reduceEqDiff, Nat.reduceAdd, Nat.reduceSub, Nat.reduceMul, Nat.reduceLeDiff, reduceCtorEq, Int.reduceLE, Int.reduceLT, Int.reduceNeg, Int.reduceToNat, Nat.reduceSubDiff, Nat.reducePow] <;> first | done | omega) | skip; all_goals (try simp -implicitDefEqProofs (disch := first | omega | (simp only [go_sem, ↓reduceIte, reduceCtorEq]; first | done | omega)) only [go_sem, ↓reduceIte, Nat.reduceLT, Nat.reduceEqDiff, Nat.reduceAdd, Nat.reduceSub, Nat.reduceMul, Nat.reduceLeDiff, reduceCtorEq, Int.reduceLE, Int.reduceLT, Int.reduceNeg, Int.reduceToNat, Nat.reduceSubDiff, Nat.reducePow]))
  all_goals simp [rng, *]
section
variable {x : Nat} {s : Bool} {m : Nat} {e : Int}
theorem q_site_units (hr : single.read x = .number s m e) (hb : -9223372036854775808 ≤ fTr s m (e + 4) ∧ fTr s m (e + 4) ≤ 9223372036854775807) : Q X 97 [encF x] (.I (fTr s m (e + 4))) := by
  intro M
  obtain ⟨b1, b2, b3⟩ := read_single hr
  have F1 := s_ff hr
  have F2 := s_mul' (s := s) b1 (show -1074 ≤ e by omega) (show e ≤ 966 by omega)
  have F3 := s_fi (s := s) b1 (show -1070 ≤ e + 4 by omega) (show e + 4 ≤ 966 by omega) hb
  (refine ACall_fn (cf := L2.c97) rfl rfl fun hM hA => ?_; simp only [L2.c97]; rw [mk1 _ (by decide)]; simp -implicitDefEqProofs (disch := first | omega | (simp only [go_sem, ↓reduceIte, reduceCtorEq, F1, F2, F3]; first | done | omega)) only [go_sem, ↓reduceIte, Nat.reduceLT, Nat.reduceEqDiff, Nat.reduceAdd, Nat.reduceSub, Nat.reduceMul, Nat.reduceLeDiff, reduceCtorEq, Int.reduceLE, Int.reduceLT, Int.reduceNeg, Int.reduceToNat, Nat.reduceSubDiff, Nat.reducePow, F1, F2, F3])
  (all_goals (first | refine post_fin ret_ok hM rfl ?_ ?_ | refine post_fin0 ret_ok hM rfl ?_ ?_ | refine post_fin normal_ok hM rfl ?_ ?_ | refine post_fin0 normal_ok hM rfl ?_ ?_); all_goals first | (simp only [go_sem, ↓reduceIte, Nat.reduceLT, Nat.reduceEqDiff, Nat.reduceAdd, Nat.reduceSub, Nat.reduceMul, Nat.reduceLeDiff, reduceCtorEq, Int.reduceLE, Int.reduceLT, Int.reduceNeg, Int.reduceToNat, Nat.reduceSubDiff, Nat.reducePow] <;> first | done | omega) | skip; all_goals (try simp -implicitDefEqProofs (disch := first | omega | (simp only [go_sem, ↓reduceIte, reduceCtorEq]; first | done | omega)) only [go_sem, ↓reduceIte, Nat.reduceLT, Nat.reduceEqDiff, Nat.reduceAdd, Nat.reduceSub, Nat.reduceMul, Nat.reduceLeDiff, reduceCtorEq, Int.reduceLE, Int.reduceLT, Int.reduceNeg, Int.reduceToNat, Nat.reduceSubDiff, Nat.reducePow]))
theorem q_ref01_Sixteenths (hr : single.read x = .number s m e) (hb : -9223372036854775808 ≤ fTr s m (e + 4) ∧ fTr s m (e + 4) ≤ 9223372036854775807) : Q X 49 [encF x] (.I (fTr s m (e + 4))) := by
  intro M
  obtain ⟨b1, b2, b3⟩ := read_single hr
  have F1 := s_ff hr
  have F2 := s_mul (s := s) b1 (show -1074 ≤ e by omega) (show e ≤ 966 by omega)
  have F3 := s_fi (s := s) b1 (show -1070 ≤ e + 4 by omega) (show e + 4 ≤ 966 by omega) hb
  (refine ACall_fn (cf := L2.c49) rfl rfl fun hM hA => ?_; simp only [L2.c49]; rw [mk1 _ (by decide)]; simp -implicitDefEqProofs (disch := first | omega | (simp only [go_sem, ↓reduceIte, reduceCtorEq, F1, F2, F3]; first | done | omega)) only [go_sem, ↓reduceIte, Nat.reduceLT, Nat.reduceEqDiff, Nat.reduceAdd, Nat.reduceSub, Nat.reduceMul, Nat.reduceLeDiff, reduceCtorEq, Int.reduceLE, Int.reduceLT, Int.reduceNeg, Int.reduceToNat, Nat.reduceSubDiff, Nat.reducePow, F1, F2, F3])
  (all_goals (first | refine post_fin ret_ok hM rfl ?_ ?_ | refine post_fin0 ret_ok hM rfl ?_ ?_ | refine post_fin normal_ok hM rfl ?_ ?_ | refine post_fin0 normal_ok hM rfl ?_ ?_); all_goals first | (simp only [go_sem, ↓reduceIte, Nat.reduceLT, Nat.reduceEqDiff, Nat.reduceAdd, Nat.reduceSub, Nat.reduceMul, Nat.reduceLeDiff, reduceCtorEq, Int.reduceLE, Int.reduceLT, Int.reduceNeg, Int.reduceToNat, Nat.reduceSubDiff, Nat.reducePow] <;> first | done | omega) | skip; all_goals (try simp -implicitDefEqProofs (disch := first | omega | (simp only [go_sem, ↓reduceIte, reduceCtorEq]; first | done | omega)) only [go_sem, ↓reduceIte, Nat.reduceLT, Nat.reduceEqDiff, Nat.reduceAdd, Nat.reduceSub, Nat.reduceMul, Nat.reduceLeDiff, reduceCtorEq, Int.reduceLE, Int.reduceLT, Int.reduceNeg, Int.reduceToNat, Nat.reduceSubDiff, Nat.reducePow]))
theorem tr_small (h0 : -1100 ≤ e + 4) (h1 : ¬ fV s m (e + 4) < fV true 32768 0) (h2 : ¬ fV false 32768 0 < fV s m (e + 4)) : (fTr s m (e + 4)).natAbs ≤ 32768 := by
  rw [natAbs_fTr]; exact (fV_le h0 h1 h2).1
theorem q_site_CheckSample (x : Nat) : Q X 78 [encF x] (.I (smpE x)) := by
  intro M
  cases hr : single.read x with
  | nan s t =>
    have F1 := s_ff_nan hr
    (refine ACall_fn (cf := L2.c78) rfl rfl fun hM hA => ?_; simp only [L2.c78]; rw [mk1 _ (by decide)]; simp -implicitDefEqProofs (disch := first | omega | (simp only [go_sem, ↓reduceIte, reduceCtorEq, F1, s_nan_sub, s_nan_neq]; first | done | omega)) only [go_sem, ↓reduceIte, Nat.reduceLT, Nat.reduceEqDiff, Nat.reduceAdd, Nat.reduceSub, Nat.reduceMul, Nat.reduceLeDiff, reduceCtorEq, Int.reduceLE, Int.reduceLT, Int.reduceNeg, Int.reduceToNat, Nat.reduceSubDiff, Nat.reducePow, F1, s_nan_sub, s_nan_neq])
    (first | refine post_fin ret_ok hM rfl ?_ ?_ | refine post_fin0 ret_ok hM rfl ?_ ?_ | refine post_fin normal_ok hM rfl ?_ ?_ | refine post_fin0 normal_ok hM rfl ?_ ?_)
    · simp -implicitDefEqProofs (disch := first | omega | (simp only [go_sem, ↓reduceIte, reduceCtorEq]; first | done | omega)) only [go_sem, ↓reduceIte, Nat.reduceLT, Nat.reduceEqDiff, Nat.reduceAdd, Nat.reduceSub, Nat.reduceMul, Nat.reduceLeDiff, reduceCtorEq, Int.reduceLE, Int.reduceLT, Int.reduceNeg, Int.reduceToNat, Nat.reduceSubDiff, Nat.reducePow]
      unfold smpE; rw [hr]
    · (simp only [go_sem, ↓reduceIte, Nat.reduceLT, Nat.reduceEqDiff, Nat.reduceAdd, Nat.reduceSub, Nat.reduceMul, Nat.reduceLeDiff, reduceCtorEq, Int.reduceLE, Int.reduceLT, Int.reduceNeg, Int.reduceToNat, Nat.reduceSubDiff, Nat.reducePow] <;> first | done | omega)
  | infinity s =>
    have F1 := s_ff_inf hr
    have F2 := s_inf_sub s
    (refine ACall_fn (cf := L2.c78) rfl rfl fun hM hA => ?_; simp only [L2.c78]; rw [mk1 _ (by decide)]; simp -implicitDefEqProofs (disch := first | omega | (simp only [go_sem, ↓reduceIte, reduceCtorEq, F1, F2, s_nan_neq]; first | done | omega)) only [go_sem, ↓reduceIte, Nat.reduceLT, Nat.reduceEqDiff, Nat.reduceAdd, Nat.reduceSub, Nat.reduceMul, Nat.reduceLeDiff, reduceCtorEq, Int.reduceLE, Int.reduceLT, Int.reduceNeg, Int.reduceToNat, Nat.reduceSubDiff, Nat.reducePow, F1, F2, s_nan_neq])
    (first | refine post_fin ret_ok hM rfl ?_ ?_ | refine post_fin0 ret_ok hM rfl ?_ ?_ | refine post_fin normal_ok hM rfl ?_ ?_ | refine post_fin0 normal_ok hM rfl ?_ ?_)
    · simp -implicitDefEqProofs (disch := first | omega | (simp only [go_sem, ↓reduceIte, reduceCtorEq]; first | done | omega)) only [go_sem, ↓reduceIte, Nat.reduceLT, Nat.reduceEqDiff, Nat.reduceAdd, Nat.reduceSub, Nat.reduceMul, Nat.reduceLeDiff, reduceCtorEq, Int.reduceLE, Int.reduceLT, Int.reduceNeg, Int.reduceToNat, Nat.reduceSubDiff, Nat.reducePow]
      unfold smpE; rw [hr]
    · (simp only [go_sem, ↓reduceIte, Nat.reduceLT, Nat.reduceEqDiff, Nat.reduceAdd, Nat.reduceSub, Nat.reduceMul, Nat.reduceLeDiff, reduceCtorEq, Int.reduceLE, Int.reduceLT, Int.reduceNeg, Int.reduceToNat, Nat.reduceSubDiff, Nat.reducePow] <;> first | done | omega)
  | number s m e =>
    obtain ⟨b1, b2, b3⟩ := read_single hr
    have F1 := s_ff hr
    have F2 := s_sub (s := s) b1 (show -1074 ≤ e by omega) (show e ≤ 970 by omega)
    have F3 := s_lo' (s := s) b1 (show -1070 ≤ e by omega) (show e ≤ 966 by omega)
    have F4 := s_hi' (s := s) b1 (show -1070 ≤ e by omega) (show e ≤ 966 by omega)
    have F5 := s_mul' (s := s) b1 (show -1074 ≤ e by omega) (show e ≤ 966 by omega)
    have hE : smpE x = if fV s m (e + 4) < fV true 32768 0 ∨ fV false 32768 0 < fV s m (e + 4) ∨ fWhole s m (e + 4) = false then 3 else 0 := by unfold smpE; rw [hr]
    by_cases h1 : fV s m (e + 4) < fV true 32768 0
    · have G1 := eq_true h1
      (refine ACall_fn (cf := L2.c78) rfl rfl fun hM hA => ?_; simp only [L2.c78]; rw [mk1 _ (by decide)]; simp -implicitDefEqProofs (disch := first | omega | (simp only [go_sem, ↓reduceIte, reduceCtorEq, F1, F2, s_neq0, F3, G1]; first | done | omega)) only [go_sem, ↓reduceIte, Nat.reduceLT, Nat.reduceEqDiff, Nat.reduceAdd, Nat.reduceSub, Nat.reduceMul, Nat.reduceLeDiff, reduceCtorEq, Int.reduceLE, Int.reduceLT, Int.reduceNeg, Int.reduceToNat, Nat.reduceSubDiff, Nat.reducePow, F1, F2, s_neq0, F3, G1])
      (first | refine post_fin ret_ok hM rfl ?_ ?_ | refine post_fin0 ret_ok hM rfl ?_ ?_ | refine post_fin normal_ok hM rfl ?_ ?_ | refine post_fin0 normal_ok hM rfl ?_ ?_)
      · simp -implicitDefEqProofs (disch := first | omega | (simp only [go_sem, ↓reduceIte, reduceCtorEq]; first | done | omega)) only [go_sem, ↓reduceIte, Nat.reduceLT, Nat.reduceEqDiff, Nat.reduceAdd, Nat.reduceSub, Nat.reduceMul, Nat.reduceLeDiff, reduceCtorEq, Int.reduceLE, Int.reduceLT, Int.reduceNeg, Int.reduceToNat, Nat.reduceSubDiff, Nat.reducePow]
        rw [hE, if_pos (.inl h1)]
      · (simp only [go_sem, ↓reduceIte, Nat.reduceLT, Nat.reduceEqDiff, Nat.reduceAdd, Nat.reduceSub, Nat.reduceMul, Nat.reduceLeDiff, reduceCtorEq, Int.reduceLE, Int.reduceLT, Int.reduceNeg, Int.reduceToNat, Nat.reduceSubDiff, Nat.reducePow] <;> first | done | omega)
    have G1 := eq_false h1
    by_cases h2 : fV false 32768 0 < fV s m (e + 4)
    · have G2 := eq_true h2
      (refine ACall_fn (cf := L2.c78) rfl rfl fun hM hA => ?_; simp only [L2.c78]; rw [mk1 _ (by decide)]; simp -implicitDefEqProofs (disch := first | omega | (simp only [go_sem, ↓reduceIte, reduceCtorEq, F1, F2, s_neq0, F3, G1, F4, G2]; first | done | omega)) only [go_sem, ↓reduceIte, Nat.reduceLT, Nat.reduceEqDiff, Nat.reduceAdd, Nat.reduceSub, Nat.reduceMul, Nat.reduceLeDiff, reduceCtorEq, Int.reduceLE, Int.reduceLT, Int.reduceNeg, Int.reduceToNat, Nat.reduceSubDiff, Nat.reducePow, F1, F2, s_neq0, F3, G1, F4, G2])
      (first | refine post_fin ret_ok hM rfl ?_ ?_ | refine post_fin0 ret_ok hM rfl ?_ ?_ | refine post_fin normal_ok hM rfl ?_ ?_ | refine post_fin0 normal_ok hM rfl ?_ ?_)
      · simp -implicitDefEqProofs (disch := first | omega | (simp only [go_sem, ↓reduceIte, reduceCtorEq]; first | done | omega)) only [go_sem, ↓reduceIte, Nat.reduceLT, Nat.reduceEqDiff, Nat.reduceAdd, Nat.reduceSub, Nat.reduceMul, Nat.reduceLeDiff, reduceCtorEq, Int.reduceLE, Int.reduceLT, Int.reduceNeg, Int.reduceToNat, Nat.reduceSubDiff, Nat.reducePow]
        rw [hE, if_pos (.inr (.inl h2))]
      · (simp only [go_sem, ↓reduceIte, Nat.reduceLT, Nat.reduceEqDiff, Nat.reduceAdd, Nat.reduceSub, Nat.reduceMul, Nat.reduceLeDiff, reduceCtorEq, Int.reduceLE, Int.reduceLT, Int.reduceNeg, Int.reduceToNat, Nat.reduceSubDiff, Nat.reducePow] <;> first | done | omega)
    have G2 := eq_false h2
    have ht := tr_small (by omega) h1 h2
    have F6 := s_eqi (s := s) b1 (show -1070 ≤ e + 4 by omega) (show e + 4 ≤ 966 by omega) rfl (by omega)
    (refine ACall_fn (cf := L2.c78) rfl rfl fun hM hA => ?_; simp only [L2.c78]; rw [mk1 _ (by decide)]; simp -implicitDefEqProofs (disch := first | omega | (simp only [go_sem, ↓reduceIte, reduceCtorEq, F1, F2, s_neq0, F3, G1, F4, G2]; first | done | omega)) only [go_sem, ↓reduceIte, Nat.reduceLT, Nat.reduceEqDiff, Nat.reduceAdd, Nat.reduceSub, Nat.reduceMul, Nat.reduceLeDiff, reduceCtorEq, Int.reduceLE, Int.reduceLT, Int.reduceNeg, Int.reduceToNat, Nat.reduceSubDiff, Nat.reducePow, F1, F2, s_neq0, F3, G1, F4, G2])
    refine callP_q (q_site_units hr (by omega) _) ?_
    by_cases h3 : fWhole s m (e + 4) = true
    · simp -implicitDefEqProofs (disch := first | omega | (simp only [go_sem, ↓reduceIte, reduceCtorEq, F5, F6, h3]; first | done | omega)) only [go_sem, ↓reduceIte, Nat.reduceLT, Nat.reduceEqDiff, Nat.reduceAdd, Nat.reduceSub, Nat.reduceMul, Nat.reduceLeDiff, reduceCtorEq, Int.reduceLE, Int.reduceLT, Int.reduceNeg, Int.reduceToNat, Nat.reduceSubDiff, Nat.reducePow, F5, F6, h3]
      (first | refine post_fin ret_ok hM rfl ?_ ?_ | refine post_fin0 ret_ok hM rfl ?_ ?_ | refine post_fin normal_ok hM rfl ?_ ?_ | refine post_fin0 normal_ok hM rfl ?_ ?_)
      · simp -implicitDefEqProofs (disch := first | omega | (simp only [go_sem, ↓reduceIte, reduceCtorEq]; first | done | omega)) only [go_sem, ↓reduceIte, Nat.reduceLT, Nat.reduceEqDiff, Nat.reduceAdd, Nat.reduceSub, Nat.reduceMul, Nat.reduceLeDiff, reduceCtorEq, Int.reduceLE, Int.reduceLT, Int.reduceNeg, Int.reduceToNat, Nat.reduceSubDiff, Nat.reducePow]
        rw [hE, if_neg (by simp [h1, h2, h3])]
      · (simp only [go_sem, ↓reduceIte, Nat.reduceLT, Nat.reduceEqDiff, Nat.reduceAdd, Nat.reduceSub, Nat.reduceMul, Nat.reduceLeDiff, reduceCtorEq, Int.reduceLE, Int.reduceLT, Int.reduceNeg, Int.reduceToNat, Nat.reduceSubDiff, Nat.reducePow] <;> first | done | omega)
    · have h3 : fWhole s m (e + 4) = false := by simpa using h3
      simp -implicitDefEqProofs (disch := first | omega | (simp only [go_sem, ↓reduceIte, reduceCtorEq, F5, F6, h3]; first | done | omega)) only [go_sem, ↓reduceIte, Nat.reduceLT, Nat.reduceEqDiff, Nat.reduceAdd, Nat.reduceSub, Nat.reduceMul, Nat.reduceLeDiff, reduceCtorEq, Int.reduceLE, Int.reduceLT, Int.reduceNeg, Int.reduceToNat, Nat.reduceSubDiff, Nat.reducePow, F5, F6, h3]
      (first | refine post_fin ret_ok hM rfl ?_ ?_ | refine post_fin0 ret_ok hM rfl ?_ ?_ | refine post_fin normal_ok hM rfl ?_ ?_ | refine post_fin0 normal_ok hM rfl ?_ ?_)
      · simp -implicitDefEqProofs (disch := first | omega | (simp only [go_sem, ↓reduceIte, reduceCtorEq]; first | done | omega)) only [go_sem, ↓reduceIte, Nat.reduceLT, Nat.reduceEqDiff, Nat.reduceAdd, Nat.reduceSub, Nat.reduceMul, Nat.reduceLeDiff, reduceCtorEq, Int.reduceLE, Int.reduceLT, Int.reduceNeg, Int.reduceToNat, Nat.reduceSubDiff, Nat.reducePow]
        rw [hE, if_pos (.inr (.inr h3))]
      · (simp only [go_sem, ↓reduceIte, Nat.reduceLT, Nat.reduceEqDiff, Nat.reduceAdd, Nat.reduceSub, Nat.reduceMul, Nat.reduceLeDiff, reduceCtorEq, Int.reduceLE, Int.reduceLT, Int.reduceNeg, Int.reduceToNat, Nat.reduceSubDiff, Nat.reducePow] <;> first | done | omega)
theorem q_ref01_CheckSample (hX : FloorX X) (x : Nat) : Q X 81 [encF x] (.I (smpE x)) := by
  intro M
  cases hr : single.read x with
  | nan s t =>
    have F1 := s_ff_nan hr
    (refine ACall_fn (cf := L2.c81) rfl rfl fun hM hA => ?_; simp only [L2.c81]; rw [mk1 _ (by decide)]; simp -implicitDefEqProofs (disch := first | omega | (simp only [go_sem, ↓reduceIte, reduceCtorEq, F1, s_nan_mul, s_nan_sub, s_nan_neq]; first | done | omega)) only [go_sem, ↓reduceIte, Nat.reduceLT, Nat.reduceEqDiff, Nat.reduceAdd, Nat.reduceSub, Nat.reduceMul, Nat.reduceLeDiff, reduceCtorEq, Int.reduceLE, Int.reduceLT, Int.reduceNeg, Int.reduceToNat, Nat.reduceSubDiff, Nat.reducePow, F1, s_nan_mul, s_nan_sub, s_nan_neq])
    (first | refine post_fin ret_ok hM rfl ?_ ?_ | refine post_fin0 ret_ok hM rfl ?_ ?_ | refine post_fin normal_ok hM rfl ?_ ?_ | refine post_fin0 normal_ok hM rfl ?_ ?_)
    · simp -implicitDefEqProofs (disch := first | omega | (simp only [go_sem, ↓reduceIte, reduceCtorEq]; first | done | omega)) only [go_sem, ↓reduceIte, Nat.reduceLT, Nat.reduceEqDiff, Nat.reduceAdd, Nat.reduceSub, Nat.reduceMul, Nat.reduceLeDiff, reduceCtorEq, Int.reduceLE, Int.reduceLT, Int.reduceNeg, Int.reduceToNat, Nat.reduceSubDiff, Nat.reducePow]
      unfold smpE; rw [hr]
    · (simp only [go_sem, ↓reduceIte, Nat.reduceLT, Nat.reduceEqDiff, Nat.reduceAdd, Nat.reduceSub, Nat.reduceMul, Nat.reduceLeDiff, reduceCtorEq, Int.reduceLE, Int.reduceLT, Int.reduceNeg, Int.reduceToNat, Nat.reduceSubDiff, Nat.reducePow] <;> first | done | omega)
  | infinity s =>
    have F1 := s_ff_inf hr
    have F2 := s_inf_sub s
    have F3 := s_inf_mul s
    (refine ACall_fn (cf := L2.c81) rfl rfl fun hM hA => ?_; simp only [L2.c81]; rw [mk1 _ (by decide)]; simp -implicitDefEqProofs (disch := first | omega | (simp only [go_sem, ↓reduceIte, reduceCtorEq, F1, F3, F2, s_nan_neq]; first | done | omega)) only [go_sem, ↓reduceIte, Nat.reduceLT, Nat.reduceEqDiff, Nat.reduceAdd, Nat.reduceSub, Nat.reduceMul, Nat.reduceLeDiff, reduceCtorEq, Int.reduceLE, Int.reduceLT, Int.reduceNeg, Int.reduceToNat, Nat.reduceSubDiff, Nat.reducePow, F1, F3, F2, s_nan_neq])
    (first | refine post_fin ret_ok hM rfl ?_ ?_ | refine post_fin0 ret_ok hM rfl ?_ ?_ | refine post_fin normal_ok hM rfl ?_ ?_ | refine post_fin0 normal_ok hM rfl ?_ ?_)
    · simp -implicitDefEqProofs (disch := first | omega | (simp only [go_sem, ↓reduceIte, reduceCtorEq]; first | done | omega)) only [go_sem, ↓reduceIte, Nat.reduceLT, Nat.reduceEqDiff, Nat.reduceAdd, Nat.reduceSub, Nat.reduceMul, Nat.reduceLeDiff, reduceCtorEq, Int.reduceLE, Int.reduceLT, Int.reduceNeg, Int.reduceToNat, Nat.reduceSubDiff, Nat.reducePow]
      unfold smpE; rw [hr]
    · (simp only [go_sem, ↓reduceIte, Nat.reduceLT, Nat.reduceEqDiff, Nat.reduceAdd, Nat.reduceSub, Nat.reduceMul, Nat.reduceLeDiff, reduceCtorEq, Int.reduceLE, Int.reduceLT, Int.reduceNeg, Int.reduceToNat, Nat.reduceSubDiff, Nat.reducePow] <;> first | done | omega)
  | number s m e =>
    obtain ⟨b1, b2, b3⟩ := read_single hr
    have F1 := s_ff hr
    have F2 := s_sub (s := s) b1 (show -1074 ≤ e + 4 by omega) (show e + 4 ≤ 970 by omega)
    have F3 := s_lo (s := s) b1 (show -1070 ≤ e + 4 by omega) (show e + 4 ≤ 966 by omega)
    have F4 := s_hi (s := s) b1 (show -1070 ≤ e + 4 by omega) (show e + 4 ≤ 966 by omega)
    have F5 := s_mul (s := s) b1 (show -1074 ≤ e by omega) (show e ≤ 966 by omega)
    have hE : smpE x = if fV s m (e + 4) < fV true 32768 0 ∨ fV false 32768 0 < fV s m (e + 4) ∨ fWhole s m (e + 4) = false then 3 else 0 := by unfold smpE; rw [hr]
    by_cases h1 : fV s m (e + 4) < fV true 32768 0
    · have G1 := eq_true h1
      (refine ACall_fn (cf := L2.c81) rfl rfl fun hM hA => ?_; simp only [L2.c81]; rw [mk1 _ (by decide)]; simp -implicitDefEqProofs (disch := first | omega | (simp only [go_sem, ↓reduceIte, reduceCtorEq, F1, F5, F2, s_neq0, F3, G1]; first | done | omega)) only [go_sem, ↓reduceIte, Nat.reduceLT, Nat.reduceEqDiff, Nat.reduceAdd, Nat.reduceSub, Nat.reduceMul, Nat.reduceLeDiff, reduceCtorEq, Int.reduceLE, Int.reduceLT, Int.reduceNeg, Int.reduceToNat, Nat.reduceSubDiff, Nat.reducePow, F1, F5, F2, s_neq0, F3, G1])
      (first | refine post_fin ret_ok hM rfl ?_ ?_ | refine post_fin0 ret_ok hM rfl ?_ ?_ | refine post_fin normal_ok hM rfl ?_ ?_ | refine post_fin0 normal_ok hM rfl ?_ ?_)
      · simp -implicitDefEqProofs (disch := first | omega | (simp only [go_sem, ↓reduceIte, reduceCtorEq]; first | done | omega)) only [go_sem, ↓reduceIte, Nat.reduceLT, Nat.reduceEqDiff, Nat.reduceAdd, Nat.reduceSub, Nat.reduceMul, Nat.reduceLeDiff, reduceCtorEq, Int.reduceLE, Int.reduceLT, Int.reduceNeg, Int.reduceToNat, Nat.reduceSubDiff, Nat.reducePow]
        rw [hE, if_pos (.inl h1)]
      · (simp only [go_sem, ↓reduceIte, Nat.reduceLT, Nat.reduceEqDiff, Nat.reduceAdd, Nat.reduceSub, Nat.reduceMul, Nat.reduceLeDiff, reduceCtorEq, Int.reduceLE, Int.reduceLT, Int.reduceNeg, Int.reduceToNat, Nat.reduceSubDiff, Nat.reducePow] <;> first | done | omega)
    have G1 := eq_false h1
    by_cases h2 : fV false 32768 0 < fV s m (e + 4)
    · have G2 := eq_true h2
      (refine ACall_fn (cf := L2.c81) rfl rfl fun hM hA => ?_; simp only [L2.c81]; rw [mk1 _ (by decide)]; simp -implicitDefEqProofs (disch := first | omega | (simp only [go_sem, ↓reduceIte, reduceCtorEq, F1, F5, F2, s_neq0, F3, G1, F4, G2]; first | done | omega)) only [go_sem, ↓reduceIte, Nat.reduceLT, Nat.reduceEqDiff, Nat.reduceAdd, Nat.reduceSub, Nat.reduceMul, Nat.reduceLeDiff, reduceCtorEq, Int.reduceLE, Int.reduceLT, Int.reduceNeg, Int.reduceToNat, Nat.reduceSubDiff, Nat.reducePow, F1, F5, F2, s_neq0, F3, G1, F4, G2])
      (first | refine post_fin ret_ok hM rfl ?_ ?_ | refine post_fin0 ret_ok hM rfl ?_ ?_ | refine post_fin normal_ok hM rfl ?_ ?_ | refine post_fin0 normal_ok hM rfl ?_ ?_)
      · simp -implicitDefEqProofs (disch := first | omega | (simp only [go_sem, ↓reduceIte, reduceCtorEq]; first | done | omega)) only [go_sem, ↓reduceIte, Nat.reduceLT, Nat.reduceEqDiff, Nat.reduceAdd, Nat.reduceSub, Nat.reduceMul, Nat.reduceLeDiff, reduceCtorEq, Int.reduceLE, Int.reduceLT, Int.reduceNeg, Int.reduceToNat, Nat.reduceSubDiff, Nat.reducePow]
        rw [hE, if_pos (.inr (.inl h2))]
      · (simp only [go_sem, ↓reduceIte, Nat.reduceLT, Nat.reduceEqDiff, Nat.reduceAdd, Nat.reduceSub, Nat.reduceMul, Nat.reduceLeDiff, reduceCtorEq, Int.reduceLE, Int.reduceLT, Int.reduceNeg, Int.reduceToNat, Nat.reduceSubDiff, Nat.reducePow] <;> first | done | omega)
    have G2 := eq_false h2
    have ht := tr_small (by omega) h1 h2
    obtain ⟨k0, l0, r1, r2, r3⟩ := read_nearest s b1 (show -1074 ≤ e + 4 by omega) (show e + 4 ≤ 970 by omega)
    obtain ⟨k, l, g1, g2, g3⟩ := floor_nearest (s := s) b1 (show -1074 ≤ e + 4 by omega) (show e + 4 ≤ 970 by omega)
    have hf : fFl s (m * 2 ^ k) l < 2 ^ 53 := by
      have h3 := natAbs_fTr s (m * 2 ^ k) l
      rw [tr_pow s m k g1] at h3
      have h4 : ∀ b : Bool, b.toNat ≤ 1 := by decide
      have h5 := h4 (s && m * 2 ^ k * 2 ^ l.toNat % 2 ^ (-l).toNat != 0)
      unfold fFl
      omega
    have F6 := s_eqf (s := s) b1 (show -1070 ≤ e + 4 by omega) (show e + 4 ≤ 966 by omega) g1 g2 hf
    (refine ACall_fn (cf := L2.c81) rfl rfl fun hM hA => ?_; simp only [L2.c81]; rw [mk1 _ (by decide)]; simp -implicitDefEqProofs (disch := first | omega | (simp only [go_sem, ↓reduceIte, reduceCtorEq, F1, F5, F2, s_neq0, F3, G1, F4, G2]; first | done | omega)) only [go_sem, ↓reduceIte, Nat.reduceLT, Nat.reduceEqDiff, Nat.reduceAdd, Nat.reduceSub, Nat.reduceMul, Nat.reduceLeDiff, reduceCtorEq, Int.reduceLE, Int.reduceLT, Int.reduceNeg, Int.reduceToNat, Nat.reduceSubDiff, Nat.reducePow, F1, F5, F2, s_neq0, F3, G1, F4, G2])
    refine callP_q (q_math_Floor hX r1 _) ?_
    by_cases h3 : fWhole s m (e + 4) = true
    · simp -implicitDefEqProofs (disch := first | omega | (simp only [go_sem, ↓reduceIte, reduceCtorEq, g3, F6, h3]; first | done | omega)) only [go_sem, ↓reduceIte, Nat.reduceLT, Nat.reduceEqDiff, Nat.reduceAdd, Nat.reduceSub, Nat.reduceMul, Nat.reduceLeDiff, reduceCtorEq, Int.reduceLE, Int.reduceLT, Int.reduceNeg, Int.reduceToNat, Nat.reduceSubDiff, Nat.reducePow, g3, F6, h3]
      (first | refine post_fin ret_ok hM rfl ?_ ?_ | refine post_fin0 ret_ok hM rfl ?_ ?_ | refine post_fin normal_ok hM rfl ?_ ?_ | refine post_fin0 normal_ok hM rfl ?_ ?_)
      · simp -implicitDefEqProofs (disch := first | omega | (simp only [go_sem, ↓reduceIte, reduceCtorEq]; first | done | omega)) only [go_sem, ↓reduceIte, Nat.reduceLT, Nat.reduceEqDiff, Nat.reduceAdd, Nat.reduceSub, Nat.reduceMul, Nat.reduceLeDiff, reduceCtorEq, Int.reduceLE, Int.reduceLT, Int.reduceNeg, Int.reduceToNat, Nat.reduceSubDiff, Nat.reducePow]
        rw [hE, if_neg (by simp [h1, h2, h3])]
      · (simp only [go_sem, ↓reduceIte, Nat.reduceLT, Nat.reduceEqDiff, Nat.reduceAdd, Nat.reduceSub, Nat.reduceMul, Nat.reduceLeDiff, reduceCtorEq, Int.reduceLE, Int.reduceLT, Int.reduceNeg, Int.reduceToNat, Nat.reduceSubDiff, Nat.reducePow] <;> first | done | omega)
    · have h3 : fWhole s m (e + 4) = false := by simpa using h3
      simp -implicitDefEqProofs (disch := first | omega | (simp only [go_sem, ↓reduceIte, reduceCtorEq, g3, F6, h3]; first | done | omega)) only [go_sem, ↓reduceIte, Nat.reduceLT, Nat.reduceEqDiff, Nat.reduceAdd, Nat.reduceSub, Nat.reduceMul, Nat.reduceLeDiff, reduceCtorEq, Int.reduceLE, Int.reduceLT, Int.reduceNeg, Int.reduceToNat, Nat.reduceSubDiff, Nat.reducePow, g3, F6, h3]
      (first | refine post_fin ret_ok hM rfl ?_ ?_ | refine post_fin0 ret_ok hM rfl ?_ ?_ | refine post_fin normal_ok hM rfl ?_ ?_ | refine post_fin0 normal_ok hM rfl ?_ ?_)
      · simp -implicitDefEqProofs (disch := first | omega | (simp only [go_sem, ↓reduceIte, reduceCtorEq]; first | done | omega)) only [go_sem, ↓reduceIte, Nat.reduceLT, Nat.reduceEqDiff, Nat.reduceAdd, Nat.reduceSub, Nat.reduceMul, Nat.reduceLeDiff, reduceCtorEq, Int.reduceLE, Int.reduceLT, Int.reduceNeg, Int.reduceToNat, Nat.reduceSubDiff, Nat.reducePow]
        rw [hE, if_pos (.inr (.inr h3))]
      · (simp only [go_sem, ↓reduceIte, Nat.reduceLT, Nat.reduceEqDiff, Nat.reduceAdd, Nat.reduceSub, Nat.reduceMul, Nat.reduceLeDiff, reduceCtorEq, Int.reduceLE, Int.reduceLT, Int.reduceNeg, Int.reduceToNat, Nat.reduceSubDiff, Nat.reducePow] <;> first | done | omega)
end
end
end Go.Nac.L2

