import Derived.Test.YtdlngmbgalmdeaaC32
import Derived.Test.YtdlngmbgalmdeaaKA
set_option linter.unusedSimpArgs false
set_option linter.unusedVariables false
set_option linter.unnecessarySimpa false
set_option maxRecDepth 10000
namespace Go.Nac.L1
attribute [local congr] b1_congr b2_congr Wp_congr wpOps_congr thenK_congr blockK_congr gK_congr cK_congr
section
variable {X : FuncId → List PV → PV → Prop}
theorem q_law07_LoadSpent (l : List Int) (x : Life) (n : Int) (hn : 0 ≤ n ∧ n ≤ 255) : Q X 12 [.fs (l.map .I), encLife x, .s (.int .u8 n)] (.B true) := by
  intro M
  (refine ACall_fn (cf := L1.c12) rfl rfl fun hM hA => ?_; simp only [L1.c12]; rw [mk3 _ (by decide)]; simp -implicitDefEqProofs (disch := first | omega | (simp only [go_sem, ↓reduceIte, Nat.reduceLT, Nat.reduceEqDiff, Nat.reduceAdd, Nat.reduceSub, Nat.reduceMul, Nat.reduceLeDiff, reduceCtorEq, Int.reduceLE, Int.reduceLT, Int.reduceNeg, Int.reduceToNat, Nat.reduceSubDiff, Nat.reducePow, encLife_eq, encLife_cells]; first | done | omega)) only [go_sem, ↓reduceIte, Nat.reduceLT, Nat.reduceEqDiff, Nat.reduceAdd, Nat.reduceSub, Nat.reduceMul, Nat.reduceLeDiff, reduceCtorEq, Int.reduceLE, Int.reduceLT, Int.reduceNeg, Int.reduceToNat, Nat.reduceSubDiff, Nat.reducePow, encLife_eq, encLife_cells])
  refine callP_q (q_law07_awake _) ?_
  by_cases h1 : l.length ≤ 12
  · have f1 : ((12 : Int) < l.length) = False := eq_false (by omega)
    simp -implicitDefEqProofs (disch := first | omega | (simp only [go_sem, ↓reduceIte, Nat.reduceLT, Nat.reduceEqDiff, Nat.reduceAdd, Nat.reduceSub, Nat.reduceMul, Nat.reduceLeDiff, reduceCtorEq, Int.reduceLE, Int.reduceLT, Int.reduceNeg, Int.reduceToNat, Nat.reduceSubDiff, Nat.reducePow, f1]; first | done | omega)) only [go_sem, ↓reduceIte, Nat.reduceLT, Nat.reduceEqDiff, Nat.reduceAdd, Nat.reduceSub, Nat.reduceMul, Nat.reduceLeDiff, reduceCtorEq, Int.reduceLE, Int.reduceLT, Int.reduceNeg, Int.reduceToNat, Nat.reduceSubDiff, Nat.reducePow, f1]
    refine callP_q (q_ref07_CheckLoads l (by omega) _) ?_
    by_cases h2 : chkLoads l = 0
    · simp -implicitDefEqProofs (disch := first | omega | (simp only [go_sem, ↓reduceIte, Nat.reduceLT, Nat.reduceEqDiff, Nat.reduceAdd, Nat.reduceSub, Nat.reduceMul, Nat.reduceLeDiff, reduceCtorEq, Int.reduceLE, Int.reduceLT, Int.reduceNeg, Int.reduceToNat, Nat.reduceSubDiff, Nat.reducePow, h2]; first | done | omega)) only [go_sem, ↓reduceIte, Nat.reduceLT, Nat.reduceEqDiff, Nat.reduceAdd, Nat.reduceSub, Nat.reduceMul, Nat.reduceLeDiff, reduceCtorEq, Int.reduceLE, Int.reduceLT, Int.reduceNeg, Int.reduceToNat, Nat.reduceSubDiff, Nat.reducePow, h2]
      refine callP_q (q_ref07_CheckLife x _) ?_
      by_cases h3 : lifeErr x = 0
      · by_cases h4 : x.cap ≤ 1000000
        · have f4 : ((1000000 : Int) < x.cap) = False := eq_false (by omega)
          simp -implicitDefEqProofs (disch := first | omega | (simp only [go_sem, ↓reduceIte, Nat.reduceLT, Nat.reduceEqDiff, Nat.reduceAdd, Nat.reduceSub, Nat.reduceMul, Nat.reduceLeDiff, reduceCtorEq, Int.reduceLE, Int.reduceLT, Int.reduceNeg, Int.reduceToNat, Nat.reduceSubDiff, Nat.reducePow, h3, f4]; first | done | omega)) only [go_sem, ↓reduceIte, Nat.reduceLT, Nat.reduceEqDiff, Nat.reduceAdd, Nat.reduceSub, Nat.reduceMul, Nat.reduceLeDiff, reduceCtorEq, Int.reduceLE, Int.reduceLT, Int.reduceNeg, Int.reduceToNat, Nat.reduceSubDiff, Nat.reducePow, h3, f4]
          refine loop_mk (α := Nat) 0 (fun k => k ≤ l.length ∧ ∀ r ∈ l.take k, -500 ≤ r ∧ r ≤ 500) (fun k => M) (fun k => [(0, .fs (l.map .I)), (2, .s (.int .u8 n)), (4, .fp [.I x.cap, .I x.exp]), (51, .fs (l.map .I)), (52, .I l.length), (53, .I k)]) (fun k => l.length - k) ⟨Nat.zero_le _, by simp⟩ rfl rfl ?_
          rintro k ⟨hk, hks⟩
          by_cases hlt : k < l.length
          · obtain ⟨r, g1⟩ : ∃ x, l[k]? = some x := ⟨_, List.getElem?_eq_getElem hlt⟩
            by_cases h5 : -500 ≤ r ∧ r ≤ 500
            · have f5 : ((500 : Int) < r) = False := eq_false (by omega)
              have f6 : (r < (-500 : Int)) = False := eq_false (by omega)
              simp -implicitDefEqProofs (disch := first | omega | (simp only [go_sem, ↓reduceIte, Nat.reduceLT, Nat.reduceEqDiff, Nat.reduceAdd, Nat.reduceSub, Nat.reduceMul, Nat.reduceLeDiff, reduceCtorEq, Int.reduceLE, Int.reduceLT, Int.reduceNeg, Int.reduceToNat, Nat.reduceSubDiff, Nat.reducePow, hlt, g1, f5, f6]; first | done | omega)) only [go_sem, ↓reduceIte, Nat.reduceLT, Nat.reduceEqDiff, Nat.reduceAdd, Nat.reduceSub, Nat.reduceMul, Nat.reduceLeDiff, reduceCtorEq, Int.reduceLE, Int.reduceLT, Int.reduceNeg, Int.reduceToNat, Nat.reduceSubDiff, Nat.reducePow, hlt, g1, f5, f6]
              refine again' (k + 1) ⟨by omega, fun y hy => ?_⟩ (by omega) rfl rfl
              obtain ⟨g2, g3⟩ := List.getElem?_eq_some_iff.1 g1
              rw [List.take_succ_eq_append_getElem g2, g3] at hy
              rcases List.mem_append.1 hy with hy | hy
              · exact hks y hy
              · simp at hy; subst hy; exact h5
            · by_cases h6 : (500 : Int) < r
              · simp -implicitDefEqProofs (disch := first | omega | (simp only [go_sem, ↓reduceIte, Nat.reduceLT, Nat.reduceEqDiff, Nat.reduceAdd, Nat.reduceSub, Nat.reduceMul, Nat.reduceLeDiff, reduceCtorEq, Int.reduceLE, Int.reduceLT, Int.reduceNeg, Int.reduceToNat, Nat.reduceSubDiff, Nat.reducePow, hlt, g1, h6]; first | done | omega)) only [go_sem, ↓reduceIte, Nat.reduceLT, Nat.reduceEqDiff, Nat.reduceAdd, Nat.reduceSub, Nat.reduceMul, Nat.reduceLeDiff, reduceCtorEq, Int.reduceLE, Int.reduceLT, Int.reduceNeg, Int.reduceToNat, Nat.reduceSubDiff, Nat.reducePow, hlt, g1, h6]
                refine callP_q (q_law07_awake _) ?_
                simp -implicitDefEqProofs (disch := first | omega | (simp only [go_sem, ↓reduceIte, Nat.reduceLT, Nat.reduceEqDiff, Nat.reduceAdd, Nat.reduceSub, Nat.reduceMul, Nat.reduceLeDiff, reduceCtorEq, Int.reduceLE, Int.reduceLT, Int.reduceNeg, Int.reduceToNat, Nat.reduceSubDiff, Nat.reducePow]; first | done | omega)) only [go_sem, ↓reduceIte, Nat.reduceLT, Nat.reduceEqDiff, Nat.reduceAdd, Nat.reduceSub, Nat.reduceMul, Nat.reduceLeDiff, reduceCtorEq, Int.reduceLE, Int.reduceLT, Int.reduceNeg, Int.reduceToNat, Nat.reduceSubDiff, Nat.reducePow]
                (all_goals (first | refine post_fin ret_ok hM rfl ?_ ?_ | refine post_fin0 ret_ok hM rfl ?_ ?_ | refine post_fin normal_ok hM rfl ?_ ?_ | refine post_fin0 normal_ok hM rfl ?_ ?_); all_goals first | (simp only [go_sem, ↓reduceIte, Nat.reduceLT, Nat.reduceEqDiff, Nat.reduceAdd, Nat.reduceSub, Nat.reduceMul, Nat.reduceLeDiff, reduceCtorEq, Int.reduceLE, Int.reduceLT, Int.reduceNeg, Int.reduceToNat, Nat.reduceSubDiff, Nat.reducePow] <;> first | done | omega) | skip; all_goals (try simp -implicitDefEqProofs (disch := first | omega | (simp only [go_sem, ↓reduceIte, Nat.reduceLT, Nat.reduceEqDiff, Nat.reduceAdd, Nat.reduceSub, Nat.reduceMul, Nat.reduceLeDiff, reduceCtorEq, Int.reduceLE, Int.reduceLT, Int.reduceNeg, Int.reduceToNat, Nat.reduceSubDiff, Nat.reducePow]; first | done | omega)) only [go_sem, ↓reduceIte, Nat.reduceLT, Nat.reduceEqDiff, Nat.reduceAdd, Nat.reduceSub, Nat.reduceMul, Nat.reduceLeDiff, reduceCtorEq, Int.reduceLE, Int.reduceLT, Int.reduceNeg, Int.reduceToNat, Nat.reduceSubDiff, Nat.reducePow]))
              · have f6 : (r < (-500 : Int)) = True := eq_true (by omega)
                simp -implicitDefEqProofs (disch := first | omega | (simp only [go_sem, ↓reduceIte, Nat.reduceLT, Nat.reduceEqDiff, Nat.reduceAdd, Nat.reduceSub, Nat.reduceMul, Nat.reduceLeDiff, reduceCtorEq, Int.reduceLE, Int.reduceLT, Int.reduceNeg, Int.reduceToNat, Nat.reduceSubDiff, Nat.reducePow, hlt, g1, h6, f6]; first | done | omega)) only [go_sem, ↓reduceIte, Nat.reduceLT, Nat.reduceEqDiff, Nat.reduceAdd, Nat.reduceSub, Nat.reduceMul, Nat.reduceLeDiff, reduceCtorEq, Int.reduceLE, Int.reduceLT, Int.reduceNeg, Int.reduceToNat, Nat.reduceSubDiff, Nat.reducePow, hlt, g1, h6, f6]
                refine callP_q (q_law07_awake _) ?_
                simp -implicitDefEqProofs (disch := first | omega | (simp only [go_sem, ↓reduceIte, Nat.reduceLT, Nat.reduceEqDiff, Nat.reduceAdd, Nat.reduceSub, Nat.reduceMul, Nat.reduceLeDiff, reduceCtorEq, Int.reduceLE, Int.reduceLT, Int.reduceNeg, Int.reduceToNat, Nat.reduceSubDiff, Nat.reducePow]; first | done | omega)) only [go_sem, ↓reduceIte, Nat.reduceLT, Nat.reduceEqDiff, Nat.reduceAdd, Nat.reduceSub, Nat.reduceMul, Nat.reduceLeDiff, reduceCtorEq, Int.reduceLE, Int.reduceLT, Int.reduceNeg, Int.reduceToNat, Nat.reduceSubDiff, Nat.reducePow]
                (all_goals (first | refine post_fin ret_ok hM rfl ?_ ?_ | refine post_fin0 ret_ok hM rfl ?_ ?_ | refine post_fin normal_ok hM rfl ?_ ?_ | refine post_fin0 normal_ok hM rfl ?_ ?_); all_goals first | (simp only [go_sem, ↓reduceIte, Nat.reduceLT, Nat.reduceEqDiff, Nat.reduceAdd, Nat.reduceSub, Nat.reduceMul, Nat.reduceLeDiff, reduceCtorEq, Int.reduceLE, Int.reduceLT, Int.reduceNeg, Int.reduceToNat, Nat.reduceSubDiff, Nat.reducePow] <;> first | done | omega) | skip; all_goals (try simp -implicitDefEqProofs (disch := first | omega | (simp only [go_sem, ↓reduceIte, Nat.reduceLT, Nat.reduceEqDiff, Nat.reduceAdd, Nat.reduceSub, Nat.reduceMul, Nat.reduceLeDiff, reduceCtorEq, Int.reduceLE, Int.reduceLT, Int.reduceNeg, Int.reduceToNat, Nat.reduceSubDiff, Nat.reducePow]; first | done | omega)) only [go_sem, ↓reduceIte, Nat.reduceLT, Nat.reduceEqDiff, Nat.reduceAdd, Nat.reduceSub, Nat.reduceMul, Nat.reduceLeDiff, reduceCtorEq, Int.reduceLE, Int.reduceLT, Int.reduceNeg, Int.reduceToNat, Nat.reduceSubDiff, Nat.reducePow]))
          · rw [List.take_of_length_le (by omega)] at hks
            have hlf := fst0_two h3
            have he := rng_zero.1 hlf.2
            have hcp := rng_zero.1 hlf.1
            have hT := sumT_bd h2 he (by omega)
            have hC := sumC_bd h2 he (by omega)
            have htw : twRes l x.exp = (sumT l x.exp, 0) := by rw [tw_chk h2 he]; unfold chkM; rw [if_neg (by omega)]
            have htwr : twiceRes l x.exp = (sumT l x.exp, 0) := by unfold twiceRes; rw [if_pos (by rw [h2, hlf.2]; rfl), htw]
            have hlc : (rs3 : List (List Int)) → rs3 = [l, l, l] → spendRes x rs3 = ((bear (2 * x.cap) [sumT l x.exp, sumT l x.exp, sumT l x.exp]).1, (bear (2 * x.cap) [sumT l x.exp, sumT l x.exp, sumT l x.exp]).2, 0) := by
              rintro _ rfl
              unfold spendRes
              rw [if_pos (by rw [h3]; simp [chkRecs, fst0, h2]), if_pos (by simp [twE, htw, fst0])]
              simp only [twL, htw, List.map_cons, List.map_nil]
            simp -implicitDefEqProofs (disch := first | omega | (simp only [go_sem, ↓reduceIte, Nat.reduceLT, Nat.reduceEqDiff, Nat.reduceAdd, Nat.reduceSub, Nat.reduceMul, Nat.reduceLeDiff, reduceCtorEq, Int.reduceLE, Int.reduceLT, Int.reduceNeg, Int.reduceToNat, Nat.reduceSubDiff, Nat.reducePow, hlt]; first | done | omega)) only [go_sem, ↓reduceIte, Nat.reduceLT, Nat.reduceEqDiff, Nat.reduceAdd, Nat.reduceSub, Nat.reduceMul, Nat.reduceLeDiff, reduceCtorEq, Int.reduceLE, Int.reduceLT, Int.reduceNeg, Int.reduceToNat, Nat.reduceSubDiff, Nat.reducePow, hlt]
            refine callP_q (q_law07_copied l (by omega) _) ?_
            simp -implicitDefEqProofs (disch := first | omega | (simp only [go_sem, ↓reduceIte, Nat.reduceLT, Nat.reduceEqDiff, Nat.reduceAdd, Nat.reduceSub, Nat.reduceMul, Nat.reduceLeDiff, reduceCtorEq, Int.reduceLE, Int.reduceLT, Int.reduceNeg, Int.reduceToNat, Nat.reduceSubDiff, Nat.reducePow]; first | done | omega)) only [go_sem, ↓reduceIte, Nat.reduceLT, Nat.reduceEqDiff, Nat.reduceAdd, Nat.reduceSub, Nat.reduceMul, Nat.reduceLeDiff, reduceCtorEq, Int.reduceLE, Int.reduceLT, Int.reduceNeg, Int.reduceToNat, Nat.reduceSubDiff, Nat.reducePow]
            refine callP_q (q_load_Twice l x.exp (by omega) _) ?_
            rw [htwr]
            simp -implicitDefEqProofs (disch := first | omega | (simp only [go_sem, ↓reduceIte, Nat.reduceLT, Nat.reduceEqDiff, Nat.reduceAdd, Nat.reduceSub, Nat.reduceMul, Nat.reduceLeDiff, reduceCtorEq, Int.reduceLE, Int.reduceLT, Int.reduceNeg, Int.reduceToNat, Nat.reduceSubDiff, Nat.reducePow]; first | done | omega)) only [go_sem, ↓reduceIte, Nat.reduceLT, Nat.reduceEqDiff, Nat.reduceAdd, Nat.reduceSub, Nat.reduceMul, Nat.reduceLeDiff, reduceCtorEq, Int.reduceLE, Int.reduceLT, Int.reduceNeg, Int.reduceToNat, Nat.reduceSubDiff, Nat.reducePow]
            refine callP_q (q_law07_copied l (by omega) _) ?_
            simp -implicitDefEqProofs (disch := first | omega | (simp only [go_sem, ↓reduceIte, Nat.reduceLT, Nat.reduceEqDiff, Nat.reduceAdd, Nat.reduceSub, Nat.reduceMul, Nat.reduceLeDiff, reduceCtorEq, Int.reduceLE, Int.reduceLT, Int.reduceNeg, Int.reduceToNat, Nat.reduceSubDiff, Nat.reducePow]; first | done | omega)) only [go_sem, ↓reduceIte, Nat.reduceLT, Nat.reduceEqDiff, Nat.reduceAdd, Nat.reduceSub, Nat.reduceMul, Nat.reduceLeDiff, reduceCtorEq, Int.reduceLE, Int.reduceLT, Int.reduceNeg, Int.reduceToNat, Nat.reduceSubDiff, Nat.reducePow]
            refine callP_q (q_law07_copied l (by omega) _) ?_
            simp -implicitDefEqProofs (disch := first | omega | (simp only [go_sem, ↓reduceIte, Nat.reduceLT, Nat.reduceEqDiff, Nat.reduceAdd, Nat.reduceSub, Nat.reduceMul, Nat.reduceLeDiff, reduceCtorEq, Int.reduceLE, Int.reduceLT, Int.reduceNeg, Int.reduceToNat, Nat.reduceSubDiff, Nat.reducePow]; first | done | omega)) only [go_sem, ↓reduceIte, Nat.reduceLT, Nat.reduceEqDiff, Nat.reduceAdd, Nat.reduceSub, Nat.reduceMul, Nat.reduceLeDiff, reduceCtorEq, Int.reduceLE, Int.reduceLT, Int.reduceNeg, Int.reduceToNat, Nat.reduceSubDiff, Nat.reducePow]
            refine callP_q (q_law07_copied l (by omega) _) ?_
            simp -implicitDefEqProofs (disch := first | omega | (simp only [go_sem, ↓reduceIte, Nat.reduceLT, Nat.reduceEqDiff, Nat.reduceAdd, Nat.reduceSub, Nat.reduceMul, Nat.reduceLeDiff, reduceCtorEq, Int.reduceLE, Int.reduceLT, Int.reduceNeg, Int.reduceToNat, Nat.reduceSubDiff, Nat.reducePow]; first | done | omega)) only [go_sem, ↓reduceIte, Nat.reduceLT, Nat.reduceEqDiff, Nat.reduceAdd, Nat.reduceSub, Nat.reduceMul, Nat.reduceLeDiff, reduceCtorEq, Int.reduceLE, Int.reduceLT, Int.reduceNeg, Int.reduceToNat, Nat.reduceSubDiff, Nat.reducePow]
            refine callP_q (q_load_Spend x [l, l, l] (by simp) (by simp; omega) _) ?_
            rw [hlc _ rfl]
            have hb3 := bear3 (C := 2 * x.cap) (t := sumT l x.exp) (by omega) hT.1
            generalize bear (2 * x.cap) [sumT l x.exp, sumT l x.exp, sumT l x.exp] = B3 at hb3 ⊢
            obtain ⟨k3, l3⟩ := B3
            simp only [] at hb3 ⊢
            simp -implicitDefEqProofs (disch := first | omega | (simp only [go_sem, ↓reduceIte, Nat.reduceLT, Nat.reduceEqDiff, Nat.reduceAdd, Nat.reduceSub, Nat.reduceMul, Nat.reduceLeDiff, reduceCtorEq, Int.reduceLE, Int.reduceLT, Int.reduceNeg, Int.reduceToNat, Nat.reduceSubDiff, Nat.reducePow]; first | done | omega)) only [go_sem, ↓reduceIte, Nat.reduceLT, Nat.reduceEqDiff, Nat.reduceAdd, Nat.reduceSub, Nat.reduceMul, Nat.reduceLeDiff, reduceCtorEq, Int.reduceLE, Int.reduceLT, Int.reduceNeg, Int.reduceToNat, Nat.reduceSubDiff, Nat.reducePow]
            have hcy := (count_chk (revs_chk h2)).2
            have hln := cntC_len l
            have e1 : (countOf (revsOf (points l))).1 = cntC l := rfl
            rw [e1] at hcy
            have hrep : repRes x l = if sumT l x.exp = 0 then (0, 7) else (2 * x.cap / sumT l x.exp, 0) := by
              unfold repRes; rw [if_pos (by rw [h3, h2]; rfl), htw]
              by_cases h : sumT l x.exp = 0 <;> simp [fst0, h]
            have hrep2 : repRes ⟨x.cap + 1, x.exp⟩ l = if sumT l x.exp = 0 then (0, 7) else (2 * (x.cap + 1) / sumT l x.exp, 0) := by
              have h3' : lifeErr ⟨x.cap + 1, x.exp⟩ = 0 := by
                unfold lifeErr; simp only []
                rw [rng_zero.2 (by omega), hlf.2]; rfl
              unfold repRes; rw [if_pos (by rw [h3', h2]; rfl)]; simp only [htw]
              by_cases h : sumT l x.exp = 0 <;> simp [fst0, h]
            have hpr : 0 ≤ k3 * sumT l x.exp := Int.mul_nonneg hb3.1 hT.1
            obtain ⟨b1, b2, rfl, b4, b5, b6⟩ := hb3
            have hm : 1 ≤ 1 + n % 20 ∧ 1 + n % 20 ≤ 20 := by omega
            have hrt := root_small h2 he h1 hks hm
            have hD : dmgRes (cntC l) x.exp = (sumC x.exp (cntC l), 0) := by
              rw [dmgRes_eq, if_pos (by rw [hcy, hlf.2]; rfl)]; unfold chkM; rw [if_neg (by omega)]
            have hE : eqvRes (cntC l) x.exp (1 + n % 20) = (rootOf (sumC x.exp (cntC l) / (1 + n % 20)) x.exp, 0) := by
              have hch : chkM (sumC x.exp (cntC l)) = (sumC x.exp (cntC l), 0) := by unfold chkM; rw [if_neg (by omega)]
              rw [eqvRes_eq, if_pos (by rw [hcy, hlf.2, rng_zero.2 (by omega)]; rfl), hch]; simp
            refine callP_q (q_law07_copied l (by omega) _) ?_
            simp -implicitDefEqProofs (disch := first | omega | (simp only [go_sem, ↓reduceIte, Nat.reduceLT, Nat.reduceEqDiff, Nat.reduceAdd, Nat.reduceSub, Nat.reduceMul, Nat.reduceLeDiff, reduceCtorEq, Int.reduceLE, Int.reduceLT, Int.reduceNeg, Int.reduceToNat, Nat.reduceSubDiff, Nat.reducePow]; first | done | omega)) only [go_sem, ↓reduceIte, Nat.reduceLT, Nat.reduceEqDiff, Nat.reduceAdd, Nat.reduceSub, Nat.reduceMul, Nat.reduceLeDiff, reduceCtorEq, Int.reduceLE, Int.reduceLT, Int.reduceNeg, Int.reduceToNat, Nat.reduceSubDiff, Nat.reducePow]
            refine callP_q (q_load_Repeats x l (by omega) _) ?_
            rw [hrep]
            simp -implicitDefEqProofs (disch := first | omega | (simp only [go_sem, ↓reduceIte, Nat.reduceLT, Nat.reduceEqDiff, Nat.reduceAdd, Nat.reduceSub, Nat.reduceMul, Nat.reduceLeDiff, reduceCtorEq, Int.reduceLE, Int.reduceLT, Int.reduceNeg, Int.reduceToNat, Nat.reduceSubDiff, Nat.reducePow]; first | done | omega)) only [go_sem, ↓reduceIte, Nat.reduceLT, Nat.reduceEqDiff, Nat.reduceAdd, Nat.reduceSub, Nat.reduceMul, Nat.reduceLeDiff, reduceCtorEq, Int.reduceLE, Int.reduceLT, Int.reduceNeg, Int.reduceToNat, Nat.reduceSubDiff, Nat.reducePow]
            refine callP_q (q_law07_copied l (by omega) _) ?_
            simp -implicitDefEqProofs (disch := first | omega | (simp only [go_sem, ↓reduceIte, Nat.reduceLT, Nat.reduceEqDiff, Nat.reduceAdd, Nat.reduceSub, Nat.reduceMul, Nat.reduceLeDiff, reduceCtorEq, Int.reduceLE, Int.reduceLT, Int.reduceNeg, Int.reduceToNat, Nat.reduceSubDiff, Nat.reducePow]; first | done | omega)) only [go_sem, ↓reduceIte, Nat.reduceLT, Nat.reduceEqDiff, Nat.reduceAdd, Nat.reduceSub, Nat.reduceMul, Nat.reduceLeDiff, reduceCtorEq, Int.reduceLE, Int.reduceLT, Int.reduceNeg, Int.reduceToNat, Nat.reduceSubDiff, Nat.reducePow]
            refine callP_q (q_load_Repeats ⟨x.cap + 1, x.exp⟩ l (by omega) _) ?_
            rw [hrep2]
            have g1 : (sumT l x.exp < 0) = False := eq_false (by omega)
            have g2 : (k3 < 0) = False := eq_false (by omega)
            have g3 : ((3 : Int) < k3) = False := eq_false (by omega)
            have g4 : (2 * x.cap - k3 * sumT l x.exp < 0) = False := eq_false (by omega)
            by_cases h0 : sumT l x.exp = 0
            have b5' := b5 h0
            have g7 : (2 * x.cap - 3 * 0 < 0) = False := eq_false (by omega)
            simp only [if_pos h0]
            simp -implicitDefEqProofs (disch := first | omega | (simp only [go_sem, ↓reduceIte, Nat.reduceLT, Nat.reduceEqDiff, Nat.reduceAdd, Nat.reduceSub, Nat.reduceMul, Nat.reduceLeDiff, reduceCtorEq, Int.reduceLE, Int.reduceLT, Int.reduceNeg, Int.reduceToNat, Nat.reduceSubDiff, Nat.reducePow, h0, b5', g7]; first | done | omega)) only [go_sem, ↓reduceIte, Nat.reduceLT, Nat.reduceEqDiff, Nat.reduceAdd, Nat.reduceSub, Nat.reduceMul, Nat.reduceLeDiff, reduceCtorEq, Int.reduceLE, Int.reduceLT, Int.reduceNeg, Int.reduceToNat, Nat.reduceSubDiff, Nat.reducePow, h0, b5', g7]
            rotate_left
            have b6' := (b6 (by omega)).symm
            have g5 := rep_more (C := x.cap) (t := sumT l x.exp) (by omega)
            have g6 : (2 * (x.cap + 1) / sumT l x.exp < 2 * x.cap / sumT l x.exp) = False := eq_false (by omega)
            simp only [if_neg h0]
            simp -implicitDefEqProofs (disch := first | omega | (simp only [go_sem, ↓reduceIte, Nat.reduceLT, Nat.reduceEqDiff, Nat.reduceAdd, Nat.reduceSub, Nat.reduceMul, Nat.reduceLeDiff, reduceCtorEq, Int.reduceLE, Int.reduceLT, Int.reduceNeg, Int.reduceToNat, Nat.reduceSubDiff, Nat.reducePow, g1, g2, g3, g4, h0, g6, b6']; first | done | omega)) only [go_sem, ↓reduceIte, Nat.reduceLT, Nat.reduceEqDiff, Nat.reduceAdd, Nat.reduceSub, Nat.reduceMul, Nat.reduceLeDiff, reduceCtorEq, Int.reduceLE, Int.reduceLT, Int.reduceNeg, Int.reduceToNat, Nat.reduceSubDiff, Nat.reducePow, g1, g2, g3, g4, h0, g6, b6']
            rotate_left
            all_goals (
              refine callP_q (q_law07_counted l h2 _) ?_
              simp -implicitDefEqProofs (disch := first | omega | (simp only [go_sem, ↓reduceIte, Nat.reduceLT, Nat.reduceEqDiff, Nat.reduceAdd, Nat.reduceSub, Nat.reduceMul, Nat.reduceLeDiff, reduceCtorEq, Int.reduceLE, Int.reduceLT, Int.reduceNeg, Int.reduceToNat, Nat.reduceSubDiff, Nat.reducePow]; first | done | omega)) only [go_sem, ↓reduceIte, Nat.reduceLT, Nat.reduceEqDiff, Nat.reduceAdd, Nat.reduceSub, Nat.reduceMul, Nat.reduceLeDiff, reduceCtorEq, Int.reduceLE, Int.reduceLT, Int.reduceNeg, Int.reduceToNat, Nat.reduceSubDiff, Nat.reducePow]
              refine callP_q (q_law07_cycles (cntC l) (by omega) _) ?_
              simp -implicitDefEqProofs (disch := first | omega | (simp only [go_sem, ↓reduceIte, Nat.reduceLT, Nat.reduceEqDiff, Nat.reduceAdd, Nat.reduceSub, Nat.reduceMul, Nat.reduceLeDiff, reduceCtorEq, Int.reduceLE, Int.reduceLT, Int.reduceNeg, Int.reduceToNat, Nat.reduceSubDiff, Nat.reducePow]; first | done | omega)) only [go_sem, ↓reduceIte, Nat.reduceLT, Nat.reduceEqDiff, Nat.reduceAdd, Nat.reduceSub, Nat.reduceMul, Nat.reduceLeDiff, reduceCtorEq, Int.reduceLE, Int.reduceLT, Int.reduceNeg, Int.reduceToNat, Nat.reduceSubDiff, Nat.reducePow]
              refine callP_q (q_load_Damage (cntC l) x.exp (by omega) _) ?_
              rw [hD]
              have f20 : ((20 : Int) = 0) = False := by simp
              have hmod : n.tmod 20 = n % 20 := Int.tmod_eq_emod_of_nonneg hn.1
              have hmr : 0 ≤ n % 20 ∧ n % 20 ≤ 19 := by omega
              simp -implicitDefEqProofs (disch := first | omega | (simp only [go_sem, ↓reduceIte, Nat.reduceLT, Nat.reduceEqDiff, Nat.reduceAdd, Nat.reduceSub, Nat.reduceMul, Nat.reduceLeDiff, reduceCtorEq, Int.reduceLE, Int.reduceLT, Int.reduceNeg, Int.reduceToNat, Nat.reduceSubDiff, Nat.reducePow, f20, hmod]; first | done | omega)) only [go_sem, ↓reduceIte, Nat.reduceLT, Nat.reduceEqDiff, Nat.reduceAdd, Nat.reduceSub, Nat.reduceMul, Nat.reduceLeDiff, reduceCtorEq, Int.reduceLE, Int.reduceLT, Int.reduceNeg, Int.reduceToNat, Nat.reduceSubDiff, Nat.reducePow, f20, hmod]
              refine callP_q (q_law07_cycles (cntC l) (by omega) _) ?_
              simp -implicitDefEqProofs (disch := first | omega | (simp only [go_sem, ↓reduceIte, Nat.reduceLT, Nat.reduceEqDiff, Nat.reduceAdd, Nat.reduceSub, Nat.reduceMul, Nat.reduceLeDiff, reduceCtorEq, Int.reduceLE, Int.reduceLT, Int.reduceNeg, Int.reduceToNat, Nat.reduceSubDiff, Nat.reducePow]; first | done | omega)) only [go_sem, ↓reduceIte, Nat.reduceLT, Nat.reduceEqDiff, Nat.reduceAdd, Nat.reduceSub, Nat.reduceMul, Nat.reduceLeDiff, reduceCtorEq, Int.reduceLE, Int.reduceLT, Int.reduceNeg, Int.reduceToNat, Nat.reduceSubDiff, Nat.reducePow]
              refine callP_q (q_load_Equivalent (cntC l) x.exp (1 + n % 20) (by omega) _) ?_
              rw [hE]
              have hr2 : pwI (rootOf (sumC x.exp (cntC l) / (1 + n % 20)) x.exp + 1) x.exp ≤ pwI 6001 x.exp := pwI_mono (by omega) (by omega)
              have hr3 : pwI 6001 x.exp ≤ 300000000000 := by rcases (by omega : x.exp = 1 ∨ x.exp = 2 ∨ x.exp = 3) with h | h | h <;> rw [h] <;> decide
              have hr5 := pwI_mono (e := x.exp) (Int.le_refl 0) hrt.1
              have hr6 : pwI 0 x.exp = 0 := by rcases (by omega : x.exp = 1 ∨ x.exp = 2 ∨ x.exp = 3) with h | h | h <;> rw [h] <;> decide
              have hr7 := pwI_lt he hrt.1
              have hr4 : (1 + n % 20) * pwI (rootOf (sumC x.exp (cntC l) / (1 + n % 20)) x.exp + 1) x.exp ≤ 20 * 300000000000 := Int.mul_le_mul (by omega) (by omega) (by omega) (by omega)
              have hr8 : 0 ≤ (1 + n % 20) * pwI (rootOf (sumC x.exp (cntC l) / (1 + n % 20)) x.exp) x.exp := Int.mul_nonneg (by omega) (by omega)
              generalize rootOf (sumC x.exp (cntC l) / (1 + n % 20)) x.exp = r at hrt hr2 hr4 hr5 hr7 hr8 ⊢
              obtain ⟨t1, t2, t3, t4⟩ := hrt
              have q1 : (r < 0) = False := eq_false (by omega)
              have q2 : ((100000 : Int) < r) = False := eq_false (by omega)
              simp -implicitDefEqProofs (disch := first | omega | (simp only [go_sem, ↓reduceIte, Nat.reduceLT, Nat.reduceEqDiff, Nat.reduceAdd, Nat.reduceSub, Nat.reduceMul, Nat.reduceLeDiff, reduceCtorEq, Int.reduceLE, Int.reduceLT, Int.reduceNeg, Int.reduceToNat, Nat.reduceSubDiff, Nat.reducePow, q1, q2]; first | done | omega)) only [go_sem, ↓reduceIte, Nat.reduceLT, Nat.reduceEqDiff, Nat.reduceAdd, Nat.reduceSub, Nat.reduceMul, Nat.reduceLeDiff, reduceCtorEq, Int.reduceLE, Int.reduceLT, Int.reduceNeg, Int.reduceToNat, Nat.reduceSubDiff, Nat.reducePow, q1, q2]
              refine loop_mk (α := Nat) 0 (fun k => k ≤ x.exp.toNat) (fun k => M) (fun k => [(21, .I (sumC x.exp (cntC l))), (23, .I (1 + n % 20)), (24, .I r), (26, .I (powW r k)), (27, .I (powW (r + 1) k)), (213, .I x.exp), (214, .I k)]) (fun k => x.exp.toNat - k) (Nat.zero_le _) rfl rfl ?_
              intro k hk
              by_cases hlt : k < x.exp.toNat
              · have u1 : (k : Int) < x.exp := by omega
                simp -implicitDefEqProofs (disch := first | omega | (simp only [go_sem, ↓reduceIte, Nat.reduceLT, Nat.reduceEqDiff, Nat.reduceAdd, Nat.reduceSub, Nat.reduceMul, Nat.reduceLeDiff, reduceCtorEq, Int.reduceLE, Int.reduceLT, Int.reduceNeg, Int.reduceToNat, Nat.reduceSubDiff, Nat.reducePow, u1]; first | done | omega)) only [go_sem, ↓reduceIte, Nat.reduceLT, Nat.reduceEqDiff, Nat.reduceAdd, Nat.reduceSub, Nat.reduceMul, Nat.reduceLeDiff, reduceCtorEq, Int.reduceLE, Int.reduceLT, Int.reduceNeg, Int.reduceToNat, Nat.reduceSubDiff, Nat.reducePow, u1]
                exact again' (k + 1) (by omega) (by omega) rfl rfl
              · have u1 : ¬ (k : Int) < x.exp := by omega
                have u2 : k = x.exp.toNat := by omega
                subst u2
                rw [powW_pwI he (by omega) (by omega), powW_pwI he (by omega) (by omega)]
                have u3 : ((1 + n % 20) * pwI r x.exp ≤ sumC x.exp (cntC l)) = True := eq_true t3
                have u4 : (sumC x.exp (cntC l) < (1 + n % 20) * pwI (r + 1) x.exp) = True := eq_true t4
                simp -implicitDefEqProofs (disch := first | omega | (simp only [go_sem, ↓reduceIte, Nat.reduceLT, Nat.reduceEqDiff, Nat.reduceAdd, Nat.reduceSub, Nat.reduceMul, Nat.reduceLeDiff, reduceCtorEq, Int.reduceLE, Int.reduceLT, Int.reduceNeg, Int.reduceToNat, Nat.reduceSubDiff, Nat.reducePow, u1, u3, u4]; first | done | omega)) only [go_sem, ↓reduceIte, Nat.reduceLT, Nat.reduceEqDiff, Nat.reduceAdd, Nat.reduceSub, Nat.reduceMul, Nat.reduceLeDiff, reduceCtorEq, Int.reduceLE, Int.reduceLT, Int.reduceNeg, Int.reduceToNat, Nat.reduceSubDiff, Nat.reducePow, u1, u3, u4]
                (all_goals (first | refine post_fin ret_ok hM rfl ?_ ?_ | refine post_fin0 ret_ok hM rfl ?_ ?_ | refine post_fin normal_ok hM rfl ?_ ?_ | refine post_fin0 normal_ok hM rfl ?_ ?_); all_goals first | (simp only [go_sem, ↓reduceIte, Nat.reduceLT, Nat.reduceEqDiff, Nat.reduceAdd, Nat.reduceSub, Nat.reduceMul, Nat.reduceLeDiff, reduceCtorEq, Int.reduceLE, Int.reduceLT, Int.reduceNeg, Int.reduceToNat, Nat.reduceSubDiff, Nat.reducePow] <;> first | done | omega) | skip; all_goals (try simp -implicitDefEqProofs (disch := first | omega | (simp only [go_sem, ↓reduceIte, Nat.reduceLT, Nat.reduceEqDiff, Nat.reduceAdd, Nat.reduceSub, Nat.reduceMul, Nat.reduceLeDiff, reduceCtorEq, Int.reduceLE, Int.reduceLT, Int.reduceNeg, Int.reduceToNat, Nat.reduceSubDiff, Nat.reducePow]; first | done | omega)) only [go_sem, ↓reduceIte, Nat.reduceLT, Nat.reduceEqDiff, Nat.reduceAdd, Nat.reduceSub, Nat.reduceMul, Nat.reduceLeDiff, reduceCtorEq, Int.reduceLE, Int.reduceLT, Int.reduceNeg, Int.reduceToNat, Nat.reduceSubDiff, Nat.reducePow])))
        · have f4 : ((1000000 : Int) < x.cap) = True := eq_true (by omega)
          simp -implicitDefEqProofs (disch := first | omega | (simp only [go_sem, ↓reduceIte, Nat.reduceLT, Nat.reduceEqDiff, Nat.reduceAdd, Nat.reduceSub, Nat.reduceMul, Nat.reduceLeDiff, reduceCtorEq, Int.reduceLE, Int.reduceLT, Int.reduceNeg, Int.reduceToNat, Nat.reduceSubDiff, Nat.reducePow, h3, f4]; first | done | omega)) only [go_sem, ↓reduceIte, Nat.reduceLT, Nat.reduceEqDiff, Nat.reduceAdd, Nat.reduceSub, Nat.reduceMul, Nat.reduceLeDiff, reduceCtorEq, Int.reduceLE, Int.reduceLT, Int.reduceNeg, Int.reduceToNat, Nat.reduceSubDiff, Nat.reducePow, h3, f4]
          refine callP_q (q_law07_awake _) ?_
          simp -implicitDefEqProofs (disch := first | omega | (simp only [go_sem, ↓reduceIte, Nat.reduceLT, Nat.reduceEqDiff, Nat.reduceAdd, Nat.reduceSub, Nat.reduceMul, Nat.reduceLeDiff, reduceCtorEq, Int.reduceLE, Int.reduceLT, Int.reduceNeg, Int.reduceToNat, Nat.reduceSubDiff, Nat.reducePow]; first | done | omega)) only [go_sem, ↓reduceIte, Nat.reduceLT, Nat.reduceEqDiff, Nat.reduceAdd, Nat.reduceSub, Nat.reduceMul, Nat.reduceLeDiff, reduceCtorEq, Int.reduceLE, Int.reduceLT, Int.reduceNeg, Int.reduceToNat, Nat.reduceSubDiff, Nat.reducePow]
          (all_goals (first | refine post_fin ret_ok hM rfl ?_ ?_ | refine post_fin0 ret_ok hM rfl ?_ ?_ | refine post_fin normal_ok hM rfl ?_ ?_ | refine post_fin0 normal_ok hM rfl ?_ ?_); all_goals first | (simp only [go_sem, ↓reduceIte, Nat.reduceLT, Nat.reduceEqDiff, Nat.reduceAdd, Nat.reduceSub, Nat.reduceMul, Nat.reduceLeDiff, reduceCtorEq, Int.reduceLE, Int.reduceLT, Int.reduceNeg, Int.reduceToNat, Nat.reduceSubDiff, Nat.reducePow] <;> first | done | omega) | skip; all_goals (try simp -implicitDefEqProofs (disch := first | omega | (simp only [go_sem, ↓reduceIte, Nat.reduceLT, Nat.reduceEqDiff, Nat.reduceAdd, Nat.reduceSub, Nat.reduceMul, Nat.reduceLeDiff, reduceCtorEq, Int.reduceLE, Int.reduceLT, Int.reduceNeg, Int.reduceToNat, Nat.reduceSubDiff, Nat.reducePow]; first | done | omega)) only [go_sem, ↓reduceIte, Nat.reduceLT, Nat.reduceEqDiff, Nat.reduceAdd, Nat.reduceSub, Nat.reduceMul, Nat.reduceLeDiff, reduceCtorEq, Int.reduceLE, Int.reduceLT, Int.reduceNeg, Int.reduceToNat, Nat.reduceSubDiff, Nat.reducePow]))
      · simp -implicitDefEqProofs (disch := first | omega | (simp only [go_sem, ↓reduceIte, Nat.reduceLT, Nat.reduceEqDiff, Nat.reduceAdd, Nat.reduceSub, Nat.reduceMul, Nat.reduceLeDiff, reduceCtorEq, Int.reduceLE, Int.reduceLT, Int.reduceNeg, Int.reduceToNat, Nat.reduceSubDiff, Nat.reducePow, h3]; first | done | omega)) only [go_sem, ↓reduceIte, Nat.reduceLT, Nat.reduceEqDiff, Nat.reduceAdd, Nat.reduceSub, Nat.reduceMul, Nat.reduceLeDiff, reduceCtorEq, Int.reduceLE, Int.reduceLT, Int.reduceNeg, Int.reduceToNat, Nat.reduceSubDiff, Nat.reducePow, h3]
        refine callP_q (q_law07_awake _) ?_
        simp -implicitDefEqProofs (disch := first | omega | (simp only [go_sem, ↓reduceIte, Nat.reduceLT, Nat.reduceEqDiff, Nat.reduceAdd, Nat.reduceSub, Nat.reduceMul, Nat.reduceLeDiff, reduceCtorEq, Int.reduceLE, Int.reduceLT, Int.reduceNeg, Int.reduceToNat, Nat.reduceSubDiff, Nat.reducePow]; first | done | omega)) only [go_sem, ↓reduceIte, Nat.reduceLT, Nat.reduceEqDiff, Nat.reduceAdd, Nat.reduceSub, Nat.reduceMul, Nat.reduceLeDiff, reduceCtorEq, Int.reduceLE, Int.reduceLT, Int.reduceNeg, Int.reduceToNat, Nat.reduceSubDiff, Nat.reducePow]
        (all_goals (first | refine post_fin ret_ok hM rfl ?_ ?_ | refine post_fin0 ret_ok hM rfl ?_ ?_ | refine post_fin normal_ok hM rfl ?_ ?_ | refine post_fin0 normal_ok hM rfl ?_ ?_); all_goals first | (simp only [go_sem, ↓reduceIte, Nat.reduceLT, Nat.reduceEqDiff, Nat.reduceAdd, Nat.reduceSub, Nat.reduceMul, Nat.reduceLeDiff, reduceCtorEq, Int.reduceLE, Int.reduceLT, Int.reduceNeg, Int.reduceToNat, Nat.reduceSubDiff, Nat.reducePow] <;> first | done | omega) | skip; all_goals (try simp -implicitDefEqProofs (disch := first | omega | (simp only [go_sem, ↓reduceIte, Nat.reduceLT, Nat.reduceEqDiff, Nat.reduceAdd, Nat.reduceSub, Nat.reduceMul, Nat.reduceLeDiff, reduceCtorEq, Int.reduceLE, Int.reduceLT, Int.reduceNeg, Int.reduceToNat, Nat.reduceSubDiff, Nat.reducePow]; first | done | omega)) only [go_sem, ↓reduceIte, Nat.reduceLT, Nat.reduceEqDiff, Nat.reduceAdd, Nat.reduceSub, Nat.reduceMul, Nat.reduceLeDiff, reduceCtorEq, Int.reduceLE, Int.reduceLT, Int.reduceNeg, Int.reduceToNat, Nat.reduceSubDiff, Nat.reducePow]))
    · simp -implicitDefEqProofs (disch := first | omega | (simp only [go_sem, ↓reduceIte, Nat.reduceLT, Nat.reduceEqDiff, Nat.reduceAdd, Nat.reduceSub, Nat.reduceMul, Nat.reduceLeDiff, reduceCtorEq, Int.reduceLE, Int.reduceLT, Int.reduceNeg, Int.reduceToNat, Nat.reduceSubDiff, Nat.reducePow, h2]; first | done | omega)) only [go_sem, ↓reduceIte, Nat.reduceLT, Nat.reduceEqDiff, Nat.reduceAdd, Nat.reduceSub, Nat.reduceMul, Nat.reduceLeDiff, reduceCtorEq, Int.reduceLE, Int.reduceLT, Int.reduceNeg, Int.reduceToNat, Nat.reduceSubDiff, Nat.reducePow, h2]
      refine callP_q (q_law07_awake _) ?_
      simp -implicitDefEqProofs (disch := first | omega | (simp only [go_sem, ↓reduceIte, Nat.reduceLT, Nat.reduceEqDiff, Nat.reduceAdd, Nat.reduceSub, Nat.reduceMul, Nat.reduceLeDiff, reduceCtorEq, Int.reduceLE, Int.reduceLT, Int.reduceNeg, Int.reduceToNat, Nat.reduceSubDiff, Nat.reducePow]; first | done | omega)) only [go_sem, ↓reduceIte, Nat.reduceLT, Nat.reduceEqDiff, Nat.reduceAdd, Nat.reduceSub, Nat.reduceMul, Nat.reduceLeDiff, reduceCtorEq, Int.reduceLE, Int.reduceLT, Int.reduceNeg, Int.reduceToNat, Nat.reduceSubDiff, Nat.reducePow]
      (all_goals (first | refine post_fin ret_ok hM rfl ?_ ?_ | refine post_fin0 ret_ok hM rfl ?_ ?_ | refine post_fin normal_ok hM rfl ?_ ?_ | refine post_fin0 normal_ok hM rfl ?_ ?_); all_goals first | (simp only [go_sem, ↓reduceIte, Nat.reduceLT, Nat.reduceEqDiff, Nat.reduceAdd, Nat.reduceSub, Nat.reduceMul, Nat.reduceLeDiff, reduceCtorEq, Int.reduceLE, Int.reduceLT, Int.reduceNeg, Int.reduceToNat, Nat.reduceSubDiff, Nat.reducePow] <;> first | done | omega) | skip; all_goals (try simp -implicitDefEqProofs (disch := first | omega | (simp only [go_sem, ↓reduceIte, Nat.reduceLT, Nat.reduceEqDiff, Nat.reduceAdd, Nat.reduceSub, Nat.reduceMul, Nat.reduceLeDiff, reduceCtorEq, Int.reduceLE, Int.reduceLT, Int.reduceNeg, Int.reduceToNat, Nat.reduceSubDiff, Nat.reducePow]; first | done | omega)) only [go_sem, ↓reduceIte, Nat.reduceLT, Nat.reduceEqDiff, Nat.reduceAdd, Nat.reduceSub, Nat.reduceMul, Nat.reduceLeDiff, reduceCtorEq, Int.reduceLE, Int.reduceLT, Int.reduceNeg, Int.reduceToNat, Nat.reduceSubDiff, Nat.reducePow]))
  · have f1 : ((12 : Int) < l.length) = True := eq_true (by omega)
    simp -implicitDefEqProofs (disch := first | omega | (simp only [go_sem, ↓reduceIte, Nat.reduceLT, Nat.reduceEqDiff, Nat.reduceAdd, Nat.reduceSub, Nat.reduceMul, Nat.reduceLeDiff, reduceCtorEq, Int.reduceLE, Int.reduceLT, Int.reduceNeg, Int.reduceToNat, Nat.reduceSubDiff, Nat.reducePow, f1]; first | done | omega)) only [go_sem, ↓reduceIte, Nat.reduceLT, Nat.reduceEqDiff, Nat.reduceAdd, Nat.reduceSub, Nat.reduceMul, Nat.reduceLeDiff, reduceCtorEq, Int.reduceLE, Int.reduceLT, Int.reduceNeg, Int.reduceToNat, Nat.reduceSubDiff, Nat.reducePow, f1]
    refine callP_q (q_law07_awake _) ?_
    simp -implicitDefEqProofs (disch := first | omega | (simp only [go_sem, ↓reduceIte, Nat.reduceLT, Nat.reduceEqDiff, Nat.reduceAdd, Nat.reduceSub, Nat.reduceMul, Nat.reduceLeDiff, reduceCtorEq, Int.reduceLE, Int.reduceLT, Int.reduceNeg, Int.reduceToNat, Nat.reduceSubDiff, Nat.reducePow]; first | done | omega)) only [go_sem, ↓reduceIte, Nat.reduceLT, Nat.reduceEqDiff, Nat.reduceAdd, Nat.reduceSub, Nat.reduceMul, Nat.reduceLeDiff, reduceCtorEq, Int.reduceLE, Int.reduceLT, Int.reduceNeg, Int.reduceToNat, Nat.reduceSubDiff, Nat.reducePow]
    (all_goals (first | refine post_fin ret_ok hM rfl ?_ ?_ | refine post_fin0 ret_ok hM rfl ?_ ?_ | refine post_fin normal_ok hM rfl ?_ ?_ | refine post_fin0 normal_ok hM rfl ?_ ?_); all_goals first | (simp only [go_sem, ↓reduceIte, Nat.reduceLT, Nat.reduceEqDiff, Nat.reduceAdd, Nat.reduceSub, Nat.reduceMul, Nat.reduceLeDiff, reduceCtorEq, Int.reduceLE, Int.reduceLT, Int.reduceNeg, Int.reduceToNat, Nat.reduceSubDiff, Nat.reducePow] <;> first | done | omega) | skip; all_goals (try simp -implicitDefEqProofs (disch := first | omega | (simp only [go_sem, ↓reduceIte, Nat.reduceLT, Nat.reduceEqDiff, Nat.reduceAdd, Nat.reduceSub, Nat.reduceMul, Nat.reduceLeDiff, reduceCtorEq, Int.reduceLE, Int.reduceLT, Int.reduceNeg, Int.reduceToNat, Nat.reduceSubDiff, Nat.reducePow]; first | done | omega)) only [go_sem, ↓reduceIte, Nat.reduceLT, Nat.reduceEqDiff, Nat.reduceAdd, Nat.reduceSub, Nat.reduceMul, Nat.reduceLeDiff, reduceCtorEq, Int.reduceLE, Int.reduceLT, Int.reduceNeg, Int.reduceToNat, Nat.reduceSubDiff, Nat.reducePow]))
end
end Go.Nac.L1

