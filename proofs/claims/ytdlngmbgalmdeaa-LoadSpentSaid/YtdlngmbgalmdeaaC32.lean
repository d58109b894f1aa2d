import Derived.Test.YtdlngmbgalmdeaaC22
import Derived.Test.YtdlngmbgalmdeaaP14
import Derived.Test.YtdlngmbgalmdeaaKA
set_option linter.unusedSimpArgs false
set_option linter.unusedVariables false
set_option linter.unnecessarySimpa false
set_option maxRecDepth 10000
namespace Go.Nac.L1
attribute [local congr] b1_congr b2_congr Wp_congr wpOps_congr thenK_congr blockK_congr gK_congr cK_congr
section
variable {X : FuncId → List PV → PV → Prop}
theorem q_ref07_CheckLife (x : Life) : Q X 62 [encLife x] (.I (lifeErr x)) := by
  intro M
  (refine ACall_fn (cf := L1.c62) rfl rfl fun hM hA => ?_; simp only [L1.c62]; rw [mk1 _ (by decide)]; simp -implicitDefEqProofs (disch := first | omega | (simp only [go_sem, ↓reduceIte, Nat.reduceLT, Nat.reduceEqDiff, Nat.reduceAdd, Nat.reduceSub, Nat.reduceMul, Nat.reduceLeDiff, reduceCtorEq, Int.reduceLE, Int.reduceLT, Int.reduceNeg, Int.reduceToNat, Nat.reduceSubDiff, Nat.reducePow, encLife_eq, encLife_cells]; first | done | omega)) only [go_sem, ↓reduceIte, Nat.reduceLT, Nat.reduceEqDiff, Nat.reduceAdd, Nat.reduceSub, Nat.reduceMul, Nat.reduceLeDiff, reduceCtorEq, Int.reduceLE, Int.reduceLT, Int.reduceNeg, Int.reduceToNat, Nat.reduceSubDiff, Nat.reducePow, encLife_eq, encLife_cells])
  repeat' (first | (refine callP_q (q_ref01_CheckRange _ _ _ _) ?_; (try simp -implicitDefEqProofs (disch := first | omega | (simp only [go_sem, ↓reduceIte, Nat.reduceLT, Nat.reduceEqDiff, Nat.reduceAdd, Nat.reduceSub, Nat.reduceMul, Nat.reduceLeDiff, reduceCtorEq, Int.reduceLE, Int.reduceLT, Int.reduceNeg, Int.reduceToNat, Nat.reduceSubDiff, Nat.reducePow]; first | done | omega)) only [go_sem, ↓reduceIte, Nat.reduceLT, Nat.reduceEqDiff, Nat.reduceAdd, Nat.reduceSub, Nat.reduceMul, Nat.reduceLeDiff, reduceCtorEq, Int.reduceLE, Int.reduceLT, Int.reduceNeg, Int.reduceToNat, Nat.reduceSubDiff, Nat.reducePow])) | (refine callP_q (q_ref07_CheckExponent _ _) ?_; (try simp -implicitDefEqProofs (disch := first | omega | (simp only [go_sem, ↓reduceIte, Nat.reduceLT, Nat.reduceEqDiff, Nat.reduceAdd, Nat.reduceSub, Nat.reduceMul, Nat.reduceLeDiff, reduceCtorEq, Int.reduceLE, Int.reduceLT, Int.reduceNeg, Int.reduceToNat, Nat.reduceSubDiff, Nat.reducePow]; first | done | omega)) only [go_sem, ↓reduceIte, Nat.reduceLT, Nat.reduceEqDiff, Nat.reduceAdd, Nat.reduceSub, Nat.reduceMul, Nat.reduceLeDiff, reduceCtorEq, Int.reduceLE, Int.reduceLT, Int.reduceNeg, Int.reduceToNat, Nat.reduceSubDiff, Nat.reducePow])) | (refine callP_q (q_ref01_First [_, _] (by simp) _) ?_; (try simp -implicitDefEqProofs (disch := first | omega | (simp only [go_sem, ↓reduceIte, Nat.reduceLT, Nat.reduceEqDiff, Nat.reduceAdd, Nat.reduceSub, Nat.reduceMul, Nat.reduceLeDiff, reduceCtorEq, Int.reduceLE, Int.reduceLT, Int.reduceNeg, Int.reduceToNat, Nat.reduceSubDiff, Nat.reducePow]; first | done | omega)) only [go_sem, ↓reduceIte, Nat.reduceLT, Nat.reduceEqDiff, Nat.reduceAdd, Nat.reduceSub, Nat.reduceMul, Nat.reduceLeDiff, reduceCtorEq, Int.reduceLE, Int.reduceLT, Int.reduceNeg, Int.reduceToNat, Nat.reduceSubDiff, Nat.reducePow])) | (refine cK_cases ?_ ?_ <;> intro hc <;> (try simp only [decide_eq_true_eq, decide_eq_false_iff_not, Classical.not_not, Bool.not_eq_true, Bool.not_eq_true', Bool.not_eq_false', Bool.false_or, Bool.or_false, Bool.true_or, Bool.or_true, Bool.false_and, Bool.and_false, Bool.true_and, Bool.and_true] at hc) <;> (try simp -implicitDefEqProofs (disch := first | omega | (simp only [go_sem, ↓reduceIte, Nat.reduceLT, Nat.reduceEqDiff, Nat.reduceAdd, Nat.reduceSub, Nat.reduceMul, Nat.reduceLeDiff, reduceCtorEq, Int.reduceLE, Int.reduceLT, Int.reduceNeg, Int.reduceToNat, Nat.reduceSubDiff, Nat.reducePow, hc]; first | done | omega)) only [go_sem, ↓reduceIte, Nat.reduceLT, Nat.reduceEqDiff, Nat.reduceAdd, Nat.reduceSub, Nat.reduceMul, Nat.reduceLeDiff, reduceCtorEq, Int.reduceLE, Int.reduceLT, Int.reduceNeg, Int.reduceToNat, Nat.reduceSubDiff, Nat.reducePow, hc])) | (refine gK_cases ?_ ?_ <;> intro hc <;> (try simp only [decide_eq_true_eq, decide_eq_false_iff_not, Classical.not_not, Bool.not_eq_true, Bool.not_eq_true', Bool.not_eq_false', Bool.false_or, Bool.or_false, Bool.true_or, Bool.or_true, Bool.false_and, Bool.and_false, Bool.true_and, Bool.and_true] at hc) <;> (try simp -implicitDefEqProofs (disch := first | omega | (simp only [go_sem, ↓reduceIte, Nat.reduceLT, Nat.reduceEqDiff, Nat.reduceAdd, Nat.reduceSub, Nat.reduceMul, Nat.reduceLeDiff, reduceCtorEq, Int.reduceLE, Int.reduceLT, Int.reduceNeg, Int.reduceToNat, Nat.reduceSubDiff, Nat.reducePow, hc]; first | done | omega)) only [go_sem, ↓reduceIte, Nat.reduceLT, Nat.reduceEqDiff, Nat.reduceAdd, Nat.reduceSub, Nat.reduceMul, Nat.reduceLeDiff, reduceCtorEq, Int.reduceLE, Int.reduceLT, Int.reduceNeg, Int.reduceToNat, Nat.reduceSubDiff, Nat.reducePow, hc])))
  (all_goals (first | refine post_fin ret_ok hM rfl ?_ ?_ | refine post_fin0 ret_ok hM rfl ?_ ?_ | refine post_fin normal_ok hM rfl ?_ ?_ | refine post_fin0 normal_ok hM rfl ?_ ?_); all_goals first | (simp only [go_sem, ↓reduceIte, Nat.reduceLT, Nat.reduceEqDiff, Nat.reduceAdd, Nat.reduceSub, Nat.reduceMul, Nat.reduceLeDiff, reduceCtorEq, Int.reduceLE, Int.reduceLT, Int.reduceNeg, Int.reduceToNat, Nat.reduceSubDiff, Nat.reducePow, encLife_low] <;> first | done | omega) | skip; all_goals (try simp -implicitDefEqProofs (disch := first | omega | (simp only [go_sem, ↓reduceIte, Nat.reduceLT, Nat.reduceEqDiff, Nat.reduceAdd, Nat.reduceSub, Nat.reduceMul, Nat.reduceLeDiff, reduceCtorEq, Int.reduceLE, Int.reduceLT, Int.reduceNeg, Int.reduceToNat, Nat.reduceSubDiff, Nat.reducePow, lifeErr]; first | done | omega)) only [go_sem, ↓reduceIte, Nat.reduceLT, Nat.reduceEqDiff, Nat.reduceAdd, Nat.reduceSub, Nat.reduceMul, Nat.reduceLeDiff, reduceCtorEq, Int.reduceLE, Int.reduceLT, Int.reduceNeg, Int.reduceToNat, Nat.reduceSubDiff, Nat.reducePow, lifeErr]))
theorem q_load_Spend (x : Life) (l : List (List Int)) (hl : l.length ≤ 1048576) (hs : ∀ r ∈ l, r.length ≤ 1048576) : Q X 60 [encLife x, .fs (l.map fun r => .fs (r.map .I))] (.tup [.I (spendRes x l).1, .I (spendRes x l).2.1, .I (spendRes x l).2.2]) := by
  intro M
  (refine ACall_fn (cf := L1.c60) rfl rfl fun hM hA => ?_; simp only [L1.c60]; rw [mk2 _ (by decide)]; simp -implicitDefEqProofs (disch := first | omega | (simp only [go_sem, ↓reduceIte, Nat.reduceLT, Nat.reduceEqDiff, Nat.reduceAdd, Nat.reduceSub, Nat.reduceMul, Nat.reduceLeDiff, reduceCtorEq, Int.reduceLE, Int.reduceLT, Int.reduceNeg, Int.reduceToNat, Nat.reduceSubDiff, Nat.reducePow, encLife_eq, encLife_cells]; first | done | omega)) only [go_sem, ↓reduceIte, Nat.reduceLT, Nat.reduceEqDiff, Nat.reduceAdd, Nat.reduceSub, Nat.reduceMul, Nat.reduceLeDiff, reduceCtorEq, Int.reduceLE, Int.reduceLT, Int.reduceNeg, Int.reduceToNat, Nat.reduceSubDiff, Nat.reducePow, encLife_eq, encLife_cells])
  refine callP_q (q_load_checkLife x _) ?_
  simp -implicitDefEqProofs (disch := first | omega | (simp only [go_sem, ↓reduceIte, Nat.reduceLT, Nat.reduceEqDiff, Nat.reduceAdd, Nat.reduceSub, Nat.reduceMul, Nat.reduceLeDiff, reduceCtorEq, Int.reduceLE, Int.reduceLT, Int.reduceNeg, Int.reduceToNat, Nat.reduceSubDiff, Nat.reducePow, encLife_eq, encLife_cells]; first | done | omega)) only [go_sem, ↓reduceIte, Nat.reduceLT, Nat.reduceEqDiff, Nat.reduceAdd, Nat.reduceSub, Nat.reduceMul, Nat.reduceLeDiff, reduceCtorEq, Int.reduceLE, Int.reduceLT, Int.reduceNeg, Int.reduceToNat, Nat.reduceSubDiff, Nat.reducePow, encLife_eq, encLife_cells]
  refine callP_q (q_load_when _ _ _) ?_
  simp -implicitDefEqProofs (disch := first | omega | (simp only [go_sem, ↓reduceIte, Nat.reduceLT, Nat.reduceEqDiff, Nat.reduceAdd, Nat.reduceSub, Nat.reduceMul, Nat.reduceLeDiff, reduceCtorEq, Int.reduceLE, Int.reduceLT, Int.reduceNeg, Int.reduceToNat, Nat.reduceSubDiff, Nat.reducePow]; first | done | omega)) only [go_sem, ↓reduceIte, Nat.reduceLT, Nat.reduceEqDiff, Nat.reduceAdd, Nat.reduceSub, Nat.reduceMul, Nat.reduceLeDiff, reduceCtorEq, Int.reduceLE, Int.reduceLT, Int.reduceNeg, Int.reduceToNat, Nat.reduceSubDiff, Nat.reducePow]
  refine callP_q (q_load_first [_, _] (by simp) _) ?_
  have e0 : (if (256 : Int) < l.length then (5 : Int) else 0) = if 256 < l.length then 5 else 0 := by
    by_cases h : 256 < l.length
    · rw [if_pos h, if_pos (by omega)]
    · rw [if_neg h, if_neg (by omega)]
  simp -implicitDefEqProofs (disch := first | omega | (simp only [go_sem, ↓reduceIte, Nat.reduceLT, Nat.reduceEqDiff, Nat.reduceAdd, Nat.reduceSub, Nat.reduceMul, Nat.reduceLeDiff, reduceCtorEq, Int.reduceLE, Int.reduceLT, Int.reduceNeg, Int.reduceToNat, Nat.reduceSubDiff, Nat.reducePow, e0]; first | done | omega)) only [go_sem, ↓reduceIte, Nat.reduceLT, Nat.reduceEqDiff, Nat.reduceAdd, Nat.reduceSub, Nat.reduceMul, Nat.reduceLeDiff, reduceCtorEq, Int.reduceLE, Int.reduceLT, Int.reduceNeg, Int.reduceToNat, Nat.reduceSubDiff, Nat.reducePow, e0]
  refine cK_cases ?_ ?_ <;> intro hc <;> (try simp only [decide_eq_true_eq, decide_eq_false_iff_not, Classical.not_not, Bool.not_eq_true, Bool.not_eq_true', Bool.not_eq_false', Bool.false_or, Bool.or_false, Bool.true_or, Bool.or_true, Bool.false_and, Bool.and_false, Bool.true_and, Bool.and_true] at hc) <;> simp -implicitDefEqProofs (disch := first | omega | (simp only [go_sem, ↓reduceIte, Nat.reduceLT, Nat.reduceEqDiff, Nat.reduceAdd, Nat.reduceSub, Nat.reduceMul, Nat.reduceLeDiff, reduceCtorEq, Int.reduceLE, Int.reduceLT, Int.reduceNeg, Int.reduceToNat, Nat.reduceSubDiff, Nat.reducePow, hc]; first | done | omega)) only [go_sem, ↓reduceIte, Nat.reduceLT, Nat.reduceEqDiff, Nat.reduceAdd, Nat.reduceSub, Nat.reduceMul, Nat.reduceLeDiff, reduceCtorEq, Int.reduceLE, Int.reduceLT, Int.reduceNeg, Int.reduceToNat, Nat.reduceSubDiff, Nat.reducePow, hc]
  · have hx := spend_1 hc
    (first | refine post_fin ret_ok hM rfl ?_ ?_ | refine post_fin0 ret_ok hM rfl ?_ ?_ | refine post_fin normal_ok hM rfl ?_ ?_ | refine post_fin0 normal_ok hM rfl ?_ ?_)
    · simp -implicitDefEqProofs (disch := first | omega | (simp only [go_sem, ↓reduceIte, Nat.reduceLT, Nat.reduceEqDiff, Nat.reduceAdd, Nat.reduceSub, Nat.reduceMul, Nat.reduceLeDiff, reduceCtorEq, Int.reduceLE, Int.reduceLT, Int.reduceNeg, Int.reduceToNat, Nat.reduceSubDiff, Nat.reducePow, hx]; first | done | omega)) only [go_sem, ↓reduceIte, Nat.reduceLT, Nat.reduceEqDiff, Nat.reduceAdd, Nat.reduceSub, Nat.reduceMul, Nat.reduceLeDiff, reduceCtorEq, Int.reduceLE, Int.reduceLT, Int.reduceNeg, Int.reduceToNat, Nat.reduceSubDiff, Nat.reducePow, hx]
    · (simp only [go_sem, ↓reduceIte, Nat.reduceLT, Nat.reduceEqDiff, Nat.reduceAdd, Nat.reduceSub, Nat.reduceMul, Nat.reduceLeDiff, reduceCtorEq, Int.reduceLE, Int.reduceLT, Int.reduceNeg, Int.reduceToNat, Nat.reduceSubDiff, Nat.reducePow] <;> first | done | omega)
  · have h0 := hc
    clear hc
    refine loop_mk (α := Nat) 0 (fun k => k ≤ l.length ∧ fst0 (l.map chkLoads) = fst0 ((l.map chkLoads).drop k)) (fun k => M) (fun k => [(1, .fs (l.map fun r => .fs (r.map .I))), (2, .fp [.I x.cap, .I x.exp]), (29, .fs (l.map fun r => .fs (r.map .I))), (30, .I l.length), (31, .I k)]) (fun k => l.length - k) ⟨Nat.zero_le _, rfl⟩ rfl rfl ?_
    rintro k ⟨hk, he⟩
    by_cases hlt : k < l.length
    · obtain ⟨r, h1⟩ : ∃ x, l[k]? = some x := ⟨_, List.getElem?_eq_getElem hlt⟩
      have hd := fst0_map_drop chkLoads h1
      simp -implicitDefEqProofs (disch := first | omega | (simp only [go_sem, ↓reduceIte, Nat.reduceLT, Nat.reduceEqDiff, Nat.reduceAdd, Nat.reduceSub, Nat.reduceMul, Nat.reduceLeDiff, reduceCtorEq, Int.reduceLE, Int.reduceLT, Int.reduceNeg, Int.reduceToNat, Nat.reduceSubDiff, Nat.reducePow, hlt, h1]; first | done | omega)) only [go_sem, ↓reduceIte, Nat.reduceLT, Nat.reduceEqDiff, Nat.reduceAdd, Nat.reduceSub, Nat.reduceMul, Nat.reduceLeDiff, reduceCtorEq, Int.reduceLE, Int.reduceLT, Int.reduceNeg, Int.reduceToNat, Nat.reduceSubDiff, Nat.reducePow, hlt, h1]
      refine callP_q (q_load_CheckLoads r (hs r (List.mem_of_getElem? h1)) _) ?_
      simp -implicitDefEqProofs (disch := first | omega | (simp only [go_sem, ↓reduceIte, Nat.reduceLT, Nat.reduceEqDiff, Nat.reduceAdd, Nat.reduceSub, Nat.reduceMul, Nat.reduceLeDiff, reduceCtorEq, Int.reduceLE, Int.reduceLT, Int.reduceNeg, Int.reduceToNat, Nat.reduceSubDiff, Nat.reducePow]; first | done | omega)) only [go_sem, ↓reduceIte, Nat.reduceLT, Nat.reduceEqDiff, Nat.reduceAdd, Nat.reduceSub, Nat.reduceMul, Nat.reduceLeDiff, reduceCtorEq, Int.reduceLE, Int.reduceLT, Int.reduceNeg, Int.reduceToNat, Nat.reduceSubDiff, Nat.reducePow]
      refine cK_cases ?_ ?_ <;> intro hc <;> (try simp only [decide_eq_true_eq, decide_eq_false_iff_not, Classical.not_not, Bool.not_eq_true, Bool.not_eq_true', Bool.not_eq_false', Bool.false_or, Bool.or_false, Bool.true_or, Bool.or_true, Bool.false_and, Bool.and_false, Bool.true_and, Bool.and_true] at hc) <;> simp -implicitDefEqProofs (disch := first | omega | (simp only [go_sem, ↓reduceIte, Nat.reduceLT, Nat.reduceEqDiff, Nat.reduceAdd, Nat.reduceSub, Nat.reduceMul, Nat.reduceLeDiff, reduceCtorEq, Int.reduceLE, Int.reduceLT, Int.reduceNeg, Int.reduceToNat, Nat.reduceSubDiff, Nat.reducePow, hc]; first | done | omega)) only [go_sem, ↓reduceIte, Nat.reduceLT, Nat.reduceEqDiff, Nat.reduceAdd, Nat.reduceSub, Nat.reduceMul, Nat.reduceLeDiff, reduceCtorEq, Int.reduceLE, Int.reduceLT, Int.reduceNeg, Int.reduceToNat, Nat.reduceSubDiff, Nat.reducePow, hc]
      · rw [if_neg hc] at hd
        have hx := spend_2 h0 (by rw [he, hd]; exact hc)
        rw [he, hd] at hx
        (first | refine post_fin ret_ok hM rfl ?_ ?_ | refine post_fin0 ret_ok hM rfl ?_ ?_ | refine post_fin normal_ok hM rfl ?_ ?_ | refine post_fin0 normal_ok hM rfl ?_ ?_)
        · simp -implicitDefEqProofs (disch := first | omega | (simp only [go_sem, ↓reduceIte, Nat.reduceLT, Nat.reduceEqDiff, Nat.reduceAdd, Nat.reduceSub, Nat.reduceMul, Nat.reduceLeDiff, reduceCtorEq, Int.reduceLE, Int.reduceLT, Int.reduceNeg, Int.reduceToNat, Nat.reduceSubDiff, Nat.reducePow, hx]; first | done | omega)) only [go_sem, ↓reduceIte, Nat.reduceLT, Nat.reduceEqDiff, Nat.reduceAdd, Nat.reduceSub, Nat.reduceMul, Nat.reduceLeDiff, reduceCtorEq, Int.reduceLE, Int.reduceLT, Int.reduceNeg, Int.reduceToNat, Nat.reduceSubDiff, Nat.reducePow, hx]
        · (simp only [go_sem, ↓reduceIte, Nat.reduceLT, Nat.reduceEqDiff, Nat.reduceAdd, Nat.reduceSub, Nat.reduceMul, Nat.reduceLeDiff, reduceCtorEq, Int.reduceLE, Int.reduceLT, Int.reduceNeg, Int.reduceToNat, Nat.reduceSubDiff, Nat.reducePow] <;> first | done | omega)
      · rw [if_pos hc] at hd
        exact again' (k + 1) ⟨by omega, by rw [he, hd]⟩ (by omega) rfl rfl
    · rw [List.drop_eq_nil_of_le (by simp; omega)] at he
      have hz := fst0_two h0
      have hlf := fst0_two hz.1
      have he3 := rng_zero.1 hlf.2
      have hcp := rng_zero.1 hlf.1
      have hok : ∀ r ∈ l, chkLoads r = 0 := fun r hr => (fst0_zero _).1 he _ (List.mem_map_of_mem hr)
      have hx : spendRes x l = if fst0 (twE x l) = 0 then ((bear (2 * x.cap) (twL x l)).1, (bear (2 * x.cap) (twL x l)).2, 0) else (0, 0, fst0 (twE x l)) := by
        unfold spendRes; rw [if_pos (spend_ok h0 he)]
      clear he hk
      simp -implicitDefEqProofs (disch := first | omega | (simp only [go_sem, ↓reduceIte, Nat.reduceLT, Nat.reduceEqDiff, Nat.reduceAdd, Nat.reduceSub, Nat.reduceMul, Nat.reduceLeDiff, reduceCtorEq, Int.reduceLE, Int.reduceLT, Int.reduceNeg, Int.reduceToNat, Nat.reduceSubDiff, Nat.reducePow, hlt]; first | done | omega)) only [go_sem, ↓reduceIte, Nat.reduceLT, Nat.reduceEqDiff, Nat.reduceAdd, Nat.reduceSub, Nat.reduceMul, Nat.reduceLeDiff, reduceCtorEq, Int.reduceLE, Int.reduceLT, Int.reduceNeg, Int.reduceToNat, Nat.reduceSubDiff, Nat.reducePow, hlt]
      have hnn : ∀ n ∈ twL x l, 0 ≤ n ∧ n ≤ 1152921504606846976 := fun n hn => by
        obtain ⟨r, hr, rfl⟩ := List.mem_map.1 hn
        exact twRes_ok (hok r hr) he3
      have hbd := fun k => sp_bd ((twL x l).take k) 0 (2 * x.cap) (2 * x.cap) (fun n hn => (hnn n (List.mem_of_mem_take hn)).1) (by omega) (by omega) false
      refine loop_mk (α := Nat) 0 (fun k => k ≤ l.length ∧ fst0 (twE x l) = fst0 ((twE x l).drop k)) (fun k => M) (fun k => [(2, .fp [.I x.cap, .I x.exp]), (11, .I (((twL x l).take k).foldl spStep (0, 2 * x.cap, false)).1), (12, .I (((twL x l).take k).foldl spStep (0, 2 * x.cap, false)).2.1), (13, .B (((twL x l).take k).foldl spStep (0, 2 * x.cap, false)).2.2), (44, .fs (l.map fun r => .fs (r.map .I))), (45, .I l.length), (46, .I k)]) (fun k => l.length - k) ⟨Nat.zero_le _, rfl⟩ rfl rfl ?_
      clear hlt
      rintro k ⟨hk, he⟩
      have hb := hbd k
      rw [List.length_take] at hb
      by_cases hlt : k < l.length
      · obtain ⟨r, h1⟩ : ∃ x, l[k]? = some x := ⟨_, List.getElem?_eq_getElem hlt⟩
        have hd := fst0_map_drop (fun r => (twRes r x.exp).2) h1
        have hcr := hok r (List.mem_of_getElem? h1)
        have hbr := twRes_ok hcr he3
        have hst : ((twL x l).take (k + 1)).foldl spStep (0, 2 * x.cap, false) = spStep (((twL x l).take k).foldl spStep (0, 2 * x.cap, false)) (twRes r x.exp).1 := by
          have hg : (twL x l)[k]? = some (twRes r x.exp).1 := by unfold twL; rw [List.getElem?_map, h1]; rfl
          obtain ⟨g1, g2⟩ := List.getElem?_eq_some_iff.1 hg
          rw [List.take_succ_eq_append_getElem g1, g2, List.foldl_append]; rfl
        generalize ((twL x l).take k).foldl spStep (0, 2 * x.cap, false) = st at hst hb ⊢
        obtain ⟨bo, le, ov⟩ := st
        simp only [] at hb hst ⊢
        simp -implicitDefEqProofs (disch := first | omega | (simp only [go_sem, ↓reduceIte, Nat.reduceLT, Nat.reduceEqDiff, Nat.reduceAdd, Nat.reduceSub, Nat.reduceMul, Nat.reduceLeDiff, reduceCtorEq, Int.reduceLE, Int.reduceLT, Int.reduceNeg, Int.reduceToNat, Nat.reduceSubDiff, Nat.reducePow, hlt, h1]; first | done | omega)) only [go_sem, ↓reduceIte, Nat.reduceLT, Nat.reduceEqDiff, Nat.reduceAdd, Nat.reduceSub, Nat.reduceMul, Nat.reduceLeDiff, reduceCtorEq, Int.reduceLE, Int.reduceLT, Int.reduceNeg, Int.reduceToNat, Nat.reduceSubDiff, Nat.reducePow, hlt, h1]
        refine callP_q (q_load_twice r x.exp hcr he3 _) ?_
        simp -implicitDefEqProofs (disch := first | omega | (simp only [go_sem, ↓reduceIte, Nat.reduceLT, Nat.reduceEqDiff, Nat.reduceAdd, Nat.reduceSub, Nat.reduceMul, Nat.reduceLeDiff, reduceCtorEq, Int.reduceLE, Int.reduceLT, Int.reduceNeg, Int.reduceToNat, Nat.reduceSubDiff, Nat.reducePow]; first | done | omega)) only [go_sem, ↓reduceIte, Nat.reduceLT, Nat.reduceEqDiff, Nat.reduceAdd, Nat.reduceSub, Nat.reduceMul, Nat.reduceLeDiff, reduceCtorEq, Int.reduceLE, Int.reduceLT, Int.reduceNeg, Int.reduceToNat, Nat.reduceSubDiff, Nat.reducePow]
        refine cK_cases ?_ ?_ <;> intro hc <;> (try simp only [decide_eq_true_eq, decide_eq_false_iff_not, Classical.not_not, Bool.not_eq_true, Bool.not_eq_true', Bool.not_eq_false', Bool.false_or, Bool.or_false, Bool.true_or, Bool.or_true, Bool.false_and, Bool.and_false, Bool.true_and, Bool.and_true] at hc) <;> simp -implicitDefEqProofs (disch := first | omega | (simp only [go_sem, ↓reduceIte, Nat.reduceLT, Nat.reduceEqDiff, Nat.reduceAdd, Nat.reduceSub, Nat.reduceMul, Nat.reduceLeDiff, reduceCtorEq, Int.reduceLE, Int.reduceLT, Int.reduceNeg, Int.reduceToNat, Nat.reduceSubDiff, Nat.reducePow, hc]; first | done | omega)) only [go_sem, ↓reduceIte, Nat.reduceLT, Nat.reduceEqDiff, Nat.reduceAdd, Nat.reduceSub, Nat.reduceMul, Nat.reduceLeDiff, reduceCtorEq, Int.reduceLE, Int.reduceLT, Int.reduceNeg, Int.reduceToNat, Nat.reduceSubDiff, Nat.reducePow, hc]
        · rw [if_neg hc] at hd
          rw [show fst0 (twE x l) = (twRes r x.exp).2 from he.trans hd, if_neg hc] at hx
          (first | refine post_fin ret_ok hM rfl ?_ ?_ | refine post_fin0 ret_ok hM rfl ?_ ?_ | refine post_fin normal_ok hM rfl ?_ ?_ | refine post_fin0 normal_ok hM rfl ?_ ?_)
          · simp -implicitDefEqProofs (disch := first | omega | (simp only [go_sem, ↓reduceIte, Nat.reduceLT, Nat.reduceEqDiff, Nat.reduceAdd, Nat.reduceSub, Nat.reduceMul, Nat.reduceLeDiff, reduceCtorEq, Int.reduceLE, Int.reduceLT, Int.reduceNeg, Int.reduceToNat, Nat.reduceSubDiff, Nat.reducePow, hx]; first | done | omega)) only [go_sem, ↓reduceIte, Nat.reduceLT, Nat.reduceEqDiff, Nat.reduceAdd, Nat.reduceSub, Nat.reduceMul, Nat.reduceLeDiff, reduceCtorEq, Int.reduceLE, Int.reduceLT, Int.reduceNeg, Int.reduceToNat, Nat.reduceSubDiff, Nat.reducePow, hx]
          · (simp only [go_sem, ↓reduceIte, Nat.reduceLT, Nat.reduceEqDiff, Nat.reduceAdd, Nat.reduceSub, Nat.reduceMul, Nat.reduceLeDiff, reduceCtorEq, Int.reduceLE, Int.reduceLT, Int.reduceNeg, Int.reduceToNat, Nat.reduceSubDiff, Nat.reducePow] <;> first | done | omega)
        · rw [if_pos hc] at hd
          have he2 := he.trans hd
          cases ov
          · by_cases hlt2 : le < (twRes r x.exp).1
            · have e : spStep (bo, le, false) (twRes r x.exp).1 = (bo, le, true) := by unfold spStep; rw [if_pos (.inr hlt2)]
              rw [e] at hst
              simp -implicitDefEqProofs (disch := first | omega | (simp only [go_sem, ↓reduceIte, Nat.reduceLT, Nat.reduceEqDiff, Nat.reduceAdd, Nat.reduceSub, Nat.reduceMul, Nat.reduceLeDiff, reduceCtorEq, Int.reduceLE, Int.reduceLT, Int.reduceNeg, Int.reduceToNat, Nat.reduceSubDiff, Nat.reducePow, hlt2]; first | done | omega)) only [go_sem, ↓reduceIte, Nat.reduceLT, Nat.reduceEqDiff, Nat.reduceAdd, Nat.reduceSub, Nat.reduceMul, Nat.reduceLeDiff, reduceCtorEq, Int.reduceLE, Int.reduceLT, Int.reduceNeg, Int.reduceToNat, Nat.reduceSubDiff, Nat.reducePow, hlt2]
              exact again' (k + 1) ⟨by omega, he2⟩ (by omega) rfl (by rw [hst]; rfl)
            · have e : spStep (bo, le, false) (twRes r x.exp).1 = (bo + 1, le - (twRes r x.exp).1, false) := by unfold spStep; rw [if_neg (by simp; omega)]
              rw [e] at hst
              simp -implicitDefEqProofs (disch := first | omega | (simp only [go_sem, ↓reduceIte, Nat.reduceLT, Nat.reduceEqDiff, Nat.reduceAdd, Nat.reduceSub, Nat.reduceMul, Nat.reduceLeDiff, reduceCtorEq, Int.reduceLE, Int.reduceLT, Int.reduceNeg, Int.reduceToNat, Nat.reduceSubDiff, Nat.reducePow, hlt2]; first | done | omega)) only [go_sem, ↓reduceIte, Nat.reduceLT, Nat.reduceEqDiff, Nat.reduceAdd, Nat.reduceSub, Nat.reduceMul, Nat.reduceLeDiff, reduceCtorEq, Int.reduceLE, Int.reduceLT, Int.reduceNeg, Int.reduceToNat, Nat.reduceSubDiff, Nat.reducePow, hlt2]
              exact again' (k + 1) ⟨by omega, he2⟩ (by omega) rfl (by rw [hst]; rfl)
          · have e : spStep (bo, le, true) (twRes r x.exp).1 = (bo, le, true) := by unfold spStep; rw [if_pos (.inl rfl)]
            rw [e] at hst
            simp -implicitDefEqProofs (disch := first | omega | (simp only [go_sem, ↓reduceIte, Nat.reduceLT, Nat.reduceEqDiff, Nat.reduceAdd, Nat.reduceSub, Nat.reduceMul, Nat.reduceLeDiff, reduceCtorEq, Int.reduceLE, Int.reduceLT, Int.reduceNeg, Int.reduceToNat, Nat.reduceSubDiff, Nat.reducePow]; first | done | omega)) only [go_sem, ↓reduceIte, Nat.reduceLT, Nat.reduceEqDiff, Nat.reduceAdd, Nat.reduceSub, Nat.reduceMul, Nat.reduceLeDiff, reduceCtorEq, Int.reduceLE, Int.reduceLT, Int.reduceNeg, Int.reduceToNat, Nat.reduceSubDiff, Nat.reducePow]
            exact again' (k + 1) ⟨by omega, he2⟩ (by omega) rfl (by rw [hst]; rfl)
      · rw [List.drop_eq_nil_of_le (by simp [twE]; omega)] at he
        rw [if_pos (show fst0 (twE x l) = 0 from he)] at hx
        have hbe := sp_bear (twL x l) 0 (2 * x.cap)
        have ht : (twL x l).take k = twL x l := List.take_of_length_le (by simp [twL]; omega)
        rw [ht]
        simp -implicitDefEqProofs (disch := first | omega | (simp only [go_sem, ↓reduceIte, Nat.reduceLT, Nat.reduceEqDiff, Nat.reduceAdd, Nat.reduceSub, Nat.reduceMul, Nat.reduceLeDiff, reduceCtorEq, Int.reduceLE, Int.reduceLT, Int.reduceNeg, Int.reduceToNat, Nat.reduceSubDiff, Nat.reducePow, hlt]; first | done | omega)) only [go_sem, ↓reduceIte, Nat.reduceLT, Nat.reduceEqDiff, Nat.reduceAdd, Nat.reduceSub, Nat.reduceMul, Nat.reduceLeDiff, reduceCtorEq, Int.reduceLE, Int.reduceLT, Int.reduceNeg, Int.reduceToNat, Nat.reduceSubDiff, Nat.reducePow, hlt]
        (first | refine post_fin ret_ok hM rfl ?_ ?_ | refine post_fin0 ret_ok hM rfl ?_ ?_ | refine post_fin normal_ok hM rfl ?_ ?_ | refine post_fin0 normal_ok hM rfl ?_ ?_)
        · simp -implicitDefEqProofs (disch := first | omega | (simp only [go_sem, ↓reduceIte, Nat.reduceLT, Nat.reduceEqDiff, Nat.reduceAdd, Nat.reduceSub, Nat.reduceMul, Nat.reduceLeDiff, reduceCtorEq, Int.reduceLE, Int.reduceLT, Int.reduceNeg, Int.reduceToNat, Nat.reduceSubDiff, Nat.reducePow]; first | done | omega)) only [go_sem, ↓reduceIte, Nat.reduceLT, Nat.reduceEqDiff, Nat.reduceAdd, Nat.reduceSub, Nat.reduceMul, Nat.reduceLeDiff, reduceCtorEq, Int.reduceLE, Int.reduceLT, Int.reduceNeg, Int.reduceToNat, Nat.reduceSubDiff, Nat.reducePow]
          rw [hx, hbe.1, hbe.2, Int.zero_add]
        · (simp only [go_sem, ↓reduceIte, Nat.reduceLT, Nat.reduceEqDiff, Nat.reduceAdd, Nat.reduceSub, Nat.reduceMul, Nat.reduceLeDiff, reduceCtorEq, Int.reduceLE, Int.reduceLT, Int.reduceNeg, Int.reduceToNat, Nat.reduceSubDiff, Nat.reducePow] <;> first | done | omega)
end
end Go.Nac.L1
set_option linter.unusedSimpArgs false
set_option linter.unusedVariables false
set_option linter.unnecessarySimpa false
set_option maxRecDepth 10000
namespace Go.Nac.L1
attribute [local congr] b1_congr b2_congr Wp_congr wpOps_congr thenK_congr blockK_congr gK_congr cK_congr
section
variable {X : FuncId → List PV → PV → Prop}
end
end Go.Nac.L1
set_option linter.unusedSimpArgs false
set_option linter.unusedVariables false
set_option linter.unnecessarySimpa false
set_option maxRecDepth 10000
namespace Go.Nac.L1
attribute [local congr] b1_congr b2_congr Wp_congr wpOps_congr thenK_congr blockK_congr gK_congr cK_congr
section
variable {X : FuncId → List PV → PV → Prop}
theorem q_law07_counted (l : List Int) (h : chkLoads l = 0) : Q X 40 [.fs (l.map .I)] (.tup [.fs ((cntC l).map encCyc), .fs ((cntR l).map encRev), .B true]) := by
  intro M
  have hl := (chkLoads_zero.1 h).1
  have hrv := revs_chk h
  obtain ⟨hk1, hk2⟩ := count_chk hrv
  have hc : cntRes (revsOf (points l)) = countOf (revsOf (points l)) := by unfold cntRes; rw [if_pos hrv]
  have hln := cntC_len l
  have hrl : (revsOf (points l)).length ≤ 1000000 := by have := count_len (revsOf (points l)); unfold cntC cntR at hln; simp at hln; have := chk_zig.1 hrv; omega
  have e1 : (countOf (revsOf (points l))).1 = cntC l := rfl
  have e2 : (countOf (revsOf (points l))).2.reverse = cntR l := rfl
  rw [e1] at hk2
  rw [e2] at hk1
  (refine ACall_fn (cf := L1.c40) rfl rfl fun hM hA => ?_; simp only [L1.c40]; rw [mk1 _ (by decide)]; simp -implicitDefEqProofs (disch := first | omega | (simp only [go_sem, ↓reduceIte, Nat.reduceLT, Nat.reduceEqDiff, Nat.reduceAdd, Nat.reduceSub, Nat.reduceMul, Nat.reduceLeDiff, reduceCtorEq, Int.reduceLE, Int.reduceLT, Int.reduceNeg, Int.reduceToNat, Nat.reduceSubDiff, Nat.reducePow]; first | done | omega)) only [go_sem, ↓reduceIte, Nat.reduceLT, Nat.reduceEqDiff, Nat.reduceAdd, Nat.reduceSub, Nat.reduceMul, Nat.reduceLeDiff, reduceCtorEq, Int.reduceLE, Int.reduceLT, Int.reduceNeg, Int.reduceToNat, Nat.reduceSubDiff, Nat.reducePow])
  refine callP_q (q_law07_copied l (by omega) _) ?_
  simp -implicitDefEqProofs (disch := first | omega | (simp only [go_sem, ↓reduceIte, Nat.reduceLT, Nat.reduceEqDiff, Nat.reduceAdd, Nat.reduceSub, Nat.reduceMul, Nat.reduceLeDiff, reduceCtorEq, Int.reduceLE, Int.reduceLT, Int.reduceNeg, Int.reduceToNat, Nat.reduceSubDiff, Nat.reducePow]; first | done | omega)) only [go_sem, ↓reduceIte, Nat.reduceLT, Nat.reduceEqDiff, Nat.reduceAdd, Nat.reduceSub, Nat.reduceMul, Nat.reduceLeDiff, reduceCtorEq, Int.reduceLE, Int.reduceLT, Int.reduceNeg, Int.reduceToNat, Nat.reduceSubDiff, Nat.reducePow]
  refine callP_q (q_load_Reversals l (by omega) _) ?_
  simp -implicitDefEqProofs (disch := first | omega | (simp only [go_sem, ↓reduceIte, Nat.reduceLT, Nat.reduceEqDiff, Nat.reduceAdd, Nat.reduceSub, Nat.reduceMul, Nat.reduceLeDiff, reduceCtorEq, Int.reduceLE, Int.reduceLT, Int.reduceNeg, Int.reduceToNat, Nat.reduceSubDiff, Nat.reducePow, h]; first | done | omega)) only [go_sem, ↓reduceIte, Nat.reduceLT, Nat.reduceEqDiff, Nat.reduceAdd, Nat.reduceSub, Nat.reduceMul, Nat.reduceLeDiff, reduceCtorEq, Int.reduceLE, Int.reduceLT, Int.reduceNeg, Int.reduceToNat, Nat.reduceSubDiff, Nat.reducePow, h]
  refine callP_q (q_load_Count (revsOf (points l)) hrl _) ?_
  rw [hc, e1, e2, hrv]
  simp -implicitDefEqProofs (disch := first | omega | (simp only [go_sem, ↓reduceIte, Nat.reduceLT, Nat.reduceEqDiff, Nat.reduceAdd, Nat.reduceSub, Nat.reduceMul, Nat.reduceLeDiff, reduceCtorEq, Int.reduceLE, Int.reduceLT, Int.reduceNeg, Int.reduceToNat, Nat.reduceSubDiff, Nat.reducePow]; first | done | omega)) only [go_sem, ↓reduceIte, Nat.reduceLT, Nat.reduceEqDiff, Nat.reduceAdd, Nat.reduceSub, Nat.reduceMul, Nat.reduceLeDiff, reduceCtorEq, Int.reduceLE, Int.reduceLT, Int.reduceNeg, Int.reduceToNat, Nat.reduceSubDiff, Nat.reducePow]
  refine callP_q (q_law07_cycled _ (by omega) _) ?_
  simp -implicitDefEqProofs (disch := first | omega | (simp only [go_sem, ↓reduceIte, Nat.reduceLT, Nat.reduceEqDiff, Nat.reduceAdd, Nat.reduceSub, Nat.reduceMul, Nat.reduceLeDiff, reduceCtorEq, Int.reduceLE, Int.reduceLT, Int.reduceNeg, Int.reduceToNat, Nat.reduceSubDiff, Nat.reducePow]; first | done | omega)) only [go_sem, ↓reduceIte, Nat.reduceLT, Nat.reduceEqDiff, Nat.reduceAdd, Nat.reduceSub, Nat.reduceMul, Nat.reduceLeDiff, reduceCtorEq, Int.reduceLE, Int.reduceLT, Int.reduceNeg, Int.reduceToNat, Nat.reduceSubDiff, Nat.reducePow]
  refine callP_q (q_law07_told _ (by omega) _) ?_
  have f1 : ((cntC l).length : Int) ≤ l.length := by omega
  have f2 : ((cntR l).length : Int) ≤ l.length := by omega
  simp -implicitDefEqProofs (disch := first | omega | (simp only [go_sem, ↓reduceIte, Nat.reduceLT, Nat.reduceEqDiff, Nat.reduceAdd, Nat.reduceSub, Nat.reduceMul, Nat.reduceLeDiff, reduceCtorEq, Int.reduceLE, Int.reduceLT, Int.reduceNeg, Int.reduceToNat, Nat.reduceSubDiff, Nat.reducePow, f1, f2]; first | done | omega)) only [go_sem, ↓reduceIte, Nat.reduceLT, Nat.reduceEqDiff, Nat.reduceAdd, Nat.reduceSub, Nat.reduceMul, Nat.reduceLeDiff, reduceCtorEq, Int.reduceLE, Int.reduceLT, Int.reduceNeg, Int.reduceToNat, Nat.reduceSubDiff, Nat.reducePow, f1, f2]
  refine callP_q (q_law07_cycled _ (by omega) _) ?_
  simp -implicitDefEqProofs (disch := first | omega | (simp only [go_sem, ↓reduceIte, Nat.reduceLT, Nat.reduceEqDiff, Nat.reduceAdd, Nat.reduceSub, Nat.reduceMul, Nat.reduceLeDiff, reduceCtorEq, Int.reduceLE, Int.reduceLT, Int.reduceNeg, Int.reduceToNat, Nat.reduceSubDiff, Nat.reducePow, f1, f2]; first | done | omega)) only [go_sem, ↓reduceIte, Nat.reduceLT, Nat.reduceEqDiff, Nat.reduceAdd, Nat.reduceSub, Nat.reduceMul, Nat.reduceLeDiff, reduceCtorEq, Int.reduceLE, Int.reduceLT, Int.reduceNeg, Int.reduceToNat, Nat.reduceSubDiff, Nat.reducePow, f1, f2]
  refine callP_q (q_ref07_CheckCycles _ (by omega) _) ?_
  rw [hk2]
  simp -implicitDefEqProofs (disch := first | omega | (simp only [go_sem, ↓reduceIte, Nat.reduceLT, Nat.reduceEqDiff, Nat.reduceAdd, Nat.reduceSub, Nat.reduceMul, Nat.reduceLeDiff, reduceCtorEq, Int.reduceLE, Int.reduceLT, Int.reduceNeg, Int.reduceToNat, Nat.reduceSubDiff, Nat.reducePow, f1, f2]; first | done | omega)) only [go_sem, ↓reduceIte, Nat.reduceLT, Nat.reduceEqDiff, Nat.reduceAdd, Nat.reduceSub, Nat.reduceMul, Nat.reduceLeDiff, reduceCtorEq, Int.reduceLE, Int.reduceLT, Int.reduceNeg, Int.reduceToNat, Nat.reduceSubDiff, Nat.reducePow, f1, f2]
  refine callP_q (q_law07_told _ (by omega) _) ?_
  simp -implicitDefEqProofs (disch := first | omega | (simp only [go_sem, ↓reduceIte, Nat.reduceLT, Nat.reduceEqDiff, Nat.reduceAdd, Nat.reduceSub, Nat.reduceMul, Nat.reduceLeDiff, reduceCtorEq, Int.reduceLE, Int.reduceLT, Int.reduceNeg, Int.reduceToNat, Nat.reduceSubDiff, Nat.reducePow]; first | done | omega)) only [go_sem, ↓reduceIte, Nat.reduceLT, Nat.reduceEqDiff, Nat.reduceAdd, Nat.reduceSub, Nat.reduceMul, Nat.reduceLeDiff, reduceCtorEq, Int.reduceLE, Int.reduceLT, Int.reduceNeg, Int.reduceToNat, Nat.reduceSubDiff, Nat.reducePow]
  refine callP_q (q_ref07_CheckReversals _ (by omega) _) ?_
  rw [hk1]
  simp -implicitDefEqProofs (disch := first | omega | (simp only [go_sem, ↓reduceIte, Nat.reduceLT, Nat.reduceEqDiff, Nat.reduceAdd, Nat.reduceSub, Nat.reduceMul, Nat.reduceLeDiff, reduceCtorEq, Int.reduceLE, Int.reduceLT, Int.reduceNeg, Int.reduceToNat, Nat.reduceSubDiff, Nat.reducePow]; first | done | omega)) only [go_sem, ↓reduceIte, Nat.reduceLT, Nat.reduceEqDiff, Nat.reduceAdd, Nat.reduceSub, Nat.reduceMul, Nat.reduceLeDiff, reduceCtorEq, Int.reduceLE, Int.reduceLT, Int.reduceNeg, Int.reduceToNat, Nat.reduceSubDiff, Nat.reducePow]
  (all_goals (first | refine post_fin ret_ok hM rfl ?_ ?_ | refine post_fin0 ret_ok hM rfl ?_ ?_ | refine post_fin normal_ok hM rfl ?_ ?_ | refine post_fin0 normal_ok hM rfl ?_ ?_); all_goals first | (simp only [go_sem, ↓reduceIte, Nat.reduceLT, Nat.reduceEqDiff, Nat.reduceAdd, Nat.reduceSub, Nat.reduceMul, Nat.reduceLeDiff, reduceCtorEq, Int.reduceLE, Int.reduceLT, Int.reduceNeg, Int.reduceToNat, Nat.reduceSubDiff, Nat.reducePow, encRev_low, encCyc_low] <;> first | done | omega) | skip; all_goals (try simp -implicitDefEqProofs (disch := first | omega | (simp only [go_sem, ↓reduceIte, Nat.reduceLT, Nat.reduceEqDiff, Nat.reduceAdd, Nat.reduceSub, Nat.reduceMul, Nat.reduceLeDiff, reduceCtorEq, Int.reduceLE, Int.reduceLT, Int.reduceNeg, Int.reduceToNat, Nat.reduceSubDiff, Nat.reducePow]; first | done | omega)) only [go_sem, ↓reduceIte, Nat.reduceLT, Nat.reduceEqDiff, Nat.reduceAdd, Nat.reduceSub, Nat.reduceMul, Nat.reduceLeDiff, reduceCtorEq, Int.reduceLE, Int.reduceLT, Int.reduceNeg, Int.reduceToNat, Nat.reduceSubDiff, Nat.reducePow]))
end
end Go.Nac.L1

