import Derived.Test.YtbmicihfhfcpkaaD7
import Derived.Test.YtbmicihfhfcpkaaK17
import Derived.Test.YtbmicihfhfcpkaaP
set_option linter.unusedSimpArgs false
set_option linter.unusedVariables false
set_option linter.unnecessarySimpa false
set_option maxRecDepth 10000
namespace Go.Nac.L2
attribute [local congr] b1_congr b2_congr Wp_congr wpOps_congr thenK_congr blockK_congr gK_congr cK_congr
section
variable {X : FuncId → List PV → PV → Prop}
theorem q_load_Crossings (l : List Rev) (lv : Int) (hl : l.length ≤ 1048576) : Q X 16 [.fs (l.map encRev), .I lv] (.tup [.I (crossRes l lv).1, .I (crossRes l lv).2]) := by
  intro M
  (refine ACall_fn (cf := L2.c16) rfl rfl fun hM hA => ?_; simp only [L2.c16]; rw [mk2 _ (by decide)]; simp -implicitDefEqProofs (disch := first | omega | (simp only [go_sem, ↓reduceIte, reduceCtorEq]; first | done | omega)) only [go_sem, ↓reduceIte, Nat.reduceLT, Nat.reduceEqDiff, Nat.reduceAdd, Nat.reduceSub, Nat.reduceMul, Nat.reduceLeDiff, reduceCtorEq, Int.reduceLE, Int.reduceLT, Int.reduceNeg, Int.reduceToNat, Nat.reduceSubDiff, Nat.reducePow])
  refine callP_q (q_load_CheckReversals l hl _) ?_
  simp -implicitDefEqProofs (disch := first | omega | (simp only [go_sem, ↓reduceIte, reduceCtorEq]; first | done | omega)) only [go_sem, ↓reduceIte, Nat.reduceLT, Nat.reduceEqDiff, Nat.reduceAdd, Nat.reduceSub, Nat.reduceMul, Nat.reduceLeDiff, reduceCtorEq, Int.reduceLE, Int.reduceLT, Int.reduceNeg, Int.reduceToNat, Nat.reduceSubDiff, Nat.reducePow]
  repeat' (first | (refine callP_q (q_load_checkAny _ _) ?_; (try simp -implicitDefEqProofs (disch := first | omega | (simp only [go_sem, ↓reduceIte, reduceCtorEq]; first | done | omega)) only [go_sem, ↓reduceIte, Nat.reduceLT, Nat.reduceEqDiff, Nat.reduceAdd, Nat.reduceSub, Nat.reduceMul, Nat.reduceLeDiff, reduceCtorEq, Int.reduceLE, Int.reduceLT, Int.reduceNeg, Int.reduceToNat, Nat.reduceSubDiff, Nat.reducePow])) | (refine callP_q (q_load_first [_, _] (by simp) _) ?_; (try simp -implicitDefEqProofs (disch := first | omega | (simp only [go_sem, ↓reduceIte, reduceCtorEq]; first | done | omega)) only [go_sem, ↓reduceIte, Nat.reduceLT, Nat.reduceEqDiff, Nat.reduceAdd, Nat.reduceSub, Nat.reduceMul, Nat.reduceLeDiff, reduceCtorEq, Int.reduceLE, Int.reduceLT, Int.reduceNeg, Int.reduceToNat, Nat.reduceSubDiff, Nat.reducePow])) | (refine cK_cases ?_ ?_ <;> intro hc <;> (try simp only [decide_eq_true_eq, decide_eq_false_iff_not, Classical.not_not, Bool.not_eq_true, Bool.not_eq_true', Bool.not_eq_false', Bool.false_or, Bool.or_false, Bool.true_or, Bool.or_true, Bool.false_and, Bool.and_false, Bool.true_and, Bool.and_true] at hc) <;> (try simp -implicitDefEqProofs (disch := first | omega | (simp only [go_sem, ↓reduceIte, reduceCtorEq, hc]; first | done | omega)) only [go_sem, ↓reduceIte, Nat.reduceLT, Nat.reduceEqDiff, Nat.reduceAdd, Nat.reduceSub, Nat.reduceMul, Nat.reduceLeDiff, reduceCtorEq, Int.reduceLE, Int.reduceLT, Int.reduceNeg, Int.reduceToNat, Nat.reduceSubDiff, Nat.reducePow, hc])) | (refine gK_cases ?_ ?_ <;> intro hc <;> (try simp only [decide_eq_true_eq, decide_eq_false_iff_not, Classical.not_not, Bool.not_eq_true, Bool.not_eq_true', Bool.not_eq_false', Bool.false_or, Bool.or_false, Bool.true_or, Bool.or_true, Bool.false_and, Bool.and_false, Bool.true_and, Bool.and_true] at hc) <;> (try simp -implicitDefEqProofs (disch := first | omega | (simp only [go_sem, ↓reduceIte, reduceCtorEq, hc]; first | done | omega)) only [go_sem, ↓reduceIte, Nat.reduceLT, Nat.reduceEqDiff, Nat.reduceAdd, Nat.reduceSub, Nat.reduceMul, Nat.reduceLeDiff, reduceCtorEq, Int.reduceLE, Int.reduceLT, Int.reduceNeg, Int.reduceToNat, Nat.reduceSubDiff, Nat.reducePow, hc])))
  · (first | refine post_fin ret_ok hM rfl ?_ ?_ | refine post_fin0 ret_ok hM rfl ?_ ?_ | refine post_fin normal_ok hM rfl ?_ ?_ | refine post_fin0 normal_ok hM rfl ?_ ?_)
    · simp -implicitDefEqProofs (disch := first | omega | (simp only [go_sem, ↓reduceIte, reduceCtorEq]; first | done | omega)) only [go_sem, ↓reduceIte, Nat.reduceLT, Nat.reduceEqDiff, Nat.reduceAdd, Nat.reduceSub, Nat.reduceMul, Nat.reduceLeDiff, reduceCtorEq, Int.reduceLE, Int.reduceLT, Int.reduceNeg, Int.reduceToNat, Nat.reduceSubDiff, Nat.reducePow]
      simp [crossRes, hc]
    · (simp only [go_sem, ↓reduceIte, Nat.reduceLT, Nat.reduceEqDiff, Nat.reduceAdd, Nat.reduceSub, Nat.reduceMul, Nat.reduceLeDiff, reduceCtorEq, Int.reduceLE, Int.reduceLT, Int.reduceNeg, Int.reduceToNat, Nat.reduceSubDiff, Nat.reducePow] <;> first | done | omega)
  · cases l with
    | nil =>
      simp only [List.map_nil, List.length_nil] at *
      simp -implicitDefEqProofs (disch := first | omega | (simp only [go_sem, ↓reduceIte, reduceCtorEq]; first | done | omega)) only [go_sem, ↓reduceIte, Nat.reduceLT, Nat.reduceEqDiff, Nat.reduceAdd, Nat.reduceSub, Nat.reduceMul, Nat.reduceLeDiff, reduceCtorEq, Int.reduceLE, Int.reduceLT, Int.reduceNeg, Int.reduceToNat, Nat.reduceSubDiff, Nat.reducePow]
      refine loop_mk (α := Unit) () (fun _ => True) (fun _ => M) (fun _ => [(0, .fs []), (1, .I lv), (7, .I 0), (23, .fs []), (24, .I 0), (25, .I 0)]) (fun _ => 0) trivial rfl rfl ?_
      intro _ _
      simp -implicitDefEqProofs (disch := first | omega | (simp only [go_sem, ↓reduceIte, reduceCtorEq, Int.lt_irrefl]; first | done | omega)) only [go_sem, ↓reduceIte, Nat.reduceLT, Nat.reduceEqDiff, Nat.reduceAdd, Nat.reduceSub, Nat.reduceMul, Nat.reduceLeDiff, reduceCtorEq, Int.reduceLE, Int.reduceLT, Int.reduceNeg, Int.reduceToNat, Nat.reduceSubDiff, Nat.reducePow, Int.lt_irrefl]
      (first | refine post_fin ret_ok hM rfl ?_ ?_ | refine post_fin0 ret_ok hM rfl ?_ ?_ | refine post_fin normal_ok hM rfl ?_ ?_ | refine post_fin0 normal_ok hM rfl ?_ ?_)
      · simp -implicitDefEqProofs (disch := first | omega | (simp only [go_sem, ↓reduceIte, reduceCtorEq]; first | done | omega)) only [go_sem, ↓reduceIte, Nat.reduceLT, Nat.reduceEqDiff, Nat.reduceAdd, Nat.reduceSub, Nat.reduceMul, Nat.reduceLeDiff, reduceCtorEq, Int.reduceLE, Int.reduceLT, Int.reduceNeg, Int.reduceToNat, Nat.reduceSubDiff, Nat.reducePow]
        simp [crossRes, hc, crossN]
      · (simp only [go_sem, ↓reduceIte, Nat.reduceLT, Nat.reduceEqDiff, Nat.reduceAdd, Nat.reduceSub, Nat.reduceMul, Nat.reduceLeDiff, reduceCtorEq, Int.reduceLE, Int.reduceLT, Int.reduceNeg, Int.reduceToNat, Nat.reduceSubDiff, Nat.reducePow] <;> first | done | omega)
    | cons a r =>
      have hsz : sized 2 (encRev a :: r.map encRev) = true := encRev_sized (a :: r)
      have htk : List.take r.length (r.map encRev) = r.map encRev := List.take_of_length_le (by simp)
      have hmin : min (1 : Int) ((r.length + 1 : Nat) : Int) = 1 := by omega
      have hl' : r.length ≤ 1048576 := by simp at hl; omega
      simp -implicitDefEqProofs (disch := first | omega | (simp only [go_sem, ↓reduceIte, reduceCtorEq, hsz, htk, hmin]; first | done | omega)) only [go_sem, ↓reduceIte, Nat.reduceLT, Nat.reduceEqDiff, Nat.reduceAdd, Nat.reduceSub, Nat.reduceMul, Nat.reduceLeDiff, reduceCtorEq, Int.reduceLE, Int.reduceLT, Int.reduceNeg, Int.reduceToNat, Nat.reduceSubDiff, Nat.reducePow, hsz, htk, hmin]
      refine loop_mk (α := Nat) 0 (fun k => k ≤ r.length) (fun _ => M) (fun k => [(0, .fs (encRev a :: r.map encRev)), (1, .I lv), (7, .I ((((a :: r).zip (a :: r).tail).take k).filter (crosses lv)).length), (23, .fs (r.map encRev)), (24, .I r.length), (25, .I k)]) (fun k => r.length - k) (Nat.zero_le _) rfl rfl ?_
      intro k hk
      by_cases hlt2 : k < r.length
      · obtain ⟨q, h1⟩ : ∃ x, r[k]? = some x := ⟨_, List.getElem?_eq_getElem hlt2⟩
        obtain ⟨p, h2⟩ : ∃ x, (a :: r)[k]? = some x := ⟨_, List.getElem?_eq_getElem (by simp; omega)⟩
        have h2' : (encRev a :: r.map encRev)[k]? = some (encRev p) := by rw [← List.map_cons, List.getElem?_map, h2]; rfl
        have hf := filter_snoc (crosses lv) (zip_tail_get (a :: r) k p q h2 h1)
        have hfl : ((((a :: r).zip (a :: r).tail).take k).filter (crosses lv)).length ≤ k := Nat.le_trans (List.length_filter_le _ _) (by simp; omega)
        generalize (((a :: r).zip (a :: r).tail).take k).filter (crosses lv) = o at hf hfl ⊢
        have hcr : crosses lv (p, q) = (decide (p.ld ≤ lv) && decide (lv < q.ld)) := rfl
        clear hc
        simp -implicitDefEqProofs (disch := first | omega | (simp only [go_sem, ↓reduceIte, reduceCtorEq, hlt2, h1, h2', encRev_cells]; first | done | omega)) only [go_sem, ↓reduceIte, Nat.reduceLT, Nat.reduceEqDiff, Nat.reduceAdd, Nat.reduceSub, Nat.reduceMul, Nat.reduceLeDiff, reduceCtorEq, Int.reduceLE, Int.reduceLT, Int.reduceNeg, Int.reduceToNat, Nat.reduceSubDiff, Nat.reducePow, hlt2, h1, h2', encRev_cells]
        repeat' (first | (refine cK_cases ?_ ?_ <;> intro hc <;> (try simp only [decide_eq_true_eq, decide_eq_false_iff_not, Classical.not_not, Bool.not_eq_true, Bool.not_eq_true', Bool.not_eq_false', Bool.false_or, Bool.or_false, Bool.true_or, Bool.or_true, Bool.false_and, Bool.and_false, Bool.true_and, Bool.and_true] at hc) <;> (try simp -implicitDefEqProofs (disch := first | omega | (simp only [go_sem, ↓reduceIte, reduceCtorEq, h1, h2', encRev_cells, hc]; first | done | omega)) only [go_sem, ↓reduceIte, Nat.reduceLT, Nat.reduceEqDiff, Nat.reduceAdd, Nat.reduceSub, Nat.reduceMul, Nat.reduceLeDiff, reduceCtorEq, Int.reduceLE, Int.reduceLT, Int.reduceNeg, Int.reduceToNat, Nat.reduceSubDiff, Nat.reducePow, h1, h2', encRev_cells, hc])) | (refine gK_cases ?_ ?_ <;> intro hc <;> (try simp only [decide_eq_true_eq, decide_eq_false_iff_not, Classical.not_not, Bool.not_eq_true, Bool.not_eq_true', Bool.not_eq_false', Bool.false_or, Bool.or_false, Bool.true_or, Bool.or_true, Bool.false_and, Bool.and_false, Bool.true_and, Bool.and_true] at hc) <;> (try simp -implicitDefEqProofs (disch := first | omega | (simp only [go_sem, ↓reduceIte, reduceCtorEq, h1, h2', encRev_cells, hc]; first | done | omega)) only [go_sem, ↓reduceIte, Nat.reduceLT, Nat.reduceEqDiff, Nat.reduceAdd, Nat.reduceSub, Nat.reduceMul, Nat.reduceLeDiff, reduceCtorEq, Int.reduceLE, Int.reduceLT, Int.reduceNeg, Int.reduceToNat, Nat.reduceSubDiff, Nat.reducePow, h1, h2', encRev_cells, hc])))
        · rename_i hc0
          rw [if_pos (by simp [hcr, hc, hc0])] at hf
          refine Wp_cut_at hM rfl 0 (by simp) (by first | done | (simp only [go_sem, ↓reduceIte, Nat.reduceLT, Nat.reduceEqDiff, Nat.reduceAdd, Nat.reduceSub, Nat.reduceMul, Nat.reduceLeDiff, reduceCtorEq, Int.reduceLE, Int.reduceLT, Int.reduceNeg, Int.reduceToNat, Nat.reduceSubDiff, Nat.reducePow, encRev_low, encRev_low1] <;> first | done | (refine ⟨?_, ?_⟩ <;> omega) | omega)) (lowL_mk (by first | done | (simp only [go_sem, ↓reduceIte, Nat.reduceLT, Nat.reduceEqDiff, Nat.reduceAdd, Nat.reduceSub, Nat.reduceMul, Nat.reduceLeDiff, reduceCtorEq, Int.reduceLE, Int.reduceLT, Int.reduceNeg, Int.reduceToNat, Nat.reduceSubDiff, Nat.reducePow, encRev_low, encRev_low1] <;> first | done | (refine ⟨?_, ?_⟩ <;> omega) | omega))) ?_
          simp -implicitDefEqProofs (disch := first | omega | (simp only [go_sem, ↓reduceIte, reduceCtorEq]; first | done | omega)) only [go_sem, ↓reduceIte, Nat.reduceLT, Nat.reduceEqDiff, Nat.reduceAdd, Nat.reduceSub, Nat.reduceMul, Nat.reduceLeDiff, reduceCtorEq, Int.reduceLE, Int.reduceLT, Int.reduceNeg, Int.reduceToNat, Nat.reduceSubDiff, Nat.reducePow]
          exact again' (k + 1) (by omega) (by omega) rfl (by rw [hf]; simp)
        · rename_i hc0
          rw [if_neg (by simp [hcr, hc, hc0])] at hf
          refine Wp_cut_at hM rfl 0 (by simp) (by first | done | (simp only [go_sem, ↓reduceIte, Nat.reduceLT, Nat.reduceEqDiff, Nat.reduceAdd, Nat.reduceSub, Nat.reduceMul, Nat.reduceLeDiff, reduceCtorEq, Int.reduceLE, Int.reduceLT, Int.reduceNeg, Int.reduceToNat, Nat.reduceSubDiff, Nat.reducePow, encRev_low, encRev_low1] <;> first | done | (refine ⟨?_, ?_⟩ <;> omega) | omega)) (lowL_mk (by first | done | (simp only [go_sem, ↓reduceIte, Nat.reduceLT, Nat.reduceEqDiff, Nat.reduceAdd, Nat.reduceSub, Nat.reduceMul, Nat.reduceLeDiff, reduceCtorEq, Int.reduceLE, Int.reduceLT, Int.reduceNeg, Int.reduceToNat, Nat.reduceSubDiff, Nat.reducePow, encRev_low, encRev_low1] <;> first | done | (refine ⟨?_, ?_⟩ <;> omega) | omega))) ?_
          simp -implicitDefEqProofs (disch := first | omega | (simp only [go_sem, ↓reduceIte, reduceCtorEq]; first | done | omega)) only [go_sem, ↓reduceIte, Nat.reduceLT, Nat.reduceEqDiff, Nat.reduceAdd, Nat.reduceSub, Nat.reduceMul, Nat.reduceLeDiff, reduceCtorEq, Int.reduceLE, Int.reduceLT, Int.reduceNeg, Int.reduceToNat, Nat.reduceSubDiff, Nat.reducePow]
          exact again' (k + 1) (by omega) (by omega) rfl (by rw [hf]; simp)
        · rw [if_neg (by simp [hcr, hc])] at hf
          refine Wp_cut_at hM rfl 0 (by simp) (by first | done | (simp only [go_sem, ↓reduceIte, Nat.reduceLT, Nat.reduceEqDiff, Nat.reduceAdd, Nat.reduceSub, Nat.reduceMul, Nat.reduceLeDiff, reduceCtorEq, Int.reduceLE, Int.reduceLT, Int.reduceNeg, Int.reduceToNat, Nat.reduceSubDiff, Nat.reducePow, encRev_low, encRev_low1] <;> first | done | (refine ⟨?_, ?_⟩ <;> omega) | omega)) (lowL_mk (by first | done | (simp only [go_sem, ↓reduceIte, Nat.reduceLT, Nat.reduceEqDiff, Nat.reduceAdd, Nat.reduceSub, Nat.reduceMul, Nat.reduceLeDiff, reduceCtorEq, Int.reduceLE, Int.reduceLT, Int.reduceNeg, Int.reduceToNat, Nat.reduceSubDiff, Nat.reducePow, encRev_low, encRev_low1] <;> first | done | (refine ⟨?_, ?_⟩ <;> omega) | omega))) ?_
          simp -implicitDefEqProofs (disch := first | omega | (simp only [go_sem, ↓reduceIte, reduceCtorEq]; first | done | omega)) only [go_sem, ↓reduceIte, Nat.reduceLT, Nat.reduceEqDiff, Nat.reduceAdd, Nat.reduceSub, Nat.reduceMul, Nat.reduceLeDiff, reduceCtorEq, Int.reduceLE, Int.reduceLT, Int.reduceNeg, Int.reduceToNat, Nat.reduceSubDiff, Nat.reducePow]
          exact again' (k + 1) (by omega) (by omega) rfl (by rw [hf]; simp)
      · simp -implicitDefEqProofs (disch := first | omega | (simp only [go_sem, ↓reduceIte, reduceCtorEq, hlt2]; first | done | omega)) only [go_sem, ↓reduceIte, Nat.reduceLT, Nat.reduceEqDiff, Nat.reduceAdd, Nat.reduceSub, Nat.reduceMul, Nat.reduceLeDiff, reduceCtorEq, Int.reduceLE, Int.reduceLT, Int.reduceNeg, Int.reduceToNat, Nat.reduceSubDiff, Nat.reducePow, hlt2]
        have e1 : ((a :: r).zip (a :: r).tail).take k = (a :: r).zip (a :: r).tail := List.take_of_length_le (by rw [zip_tail_len]; simp; omega)
        rw [e1]
        (first | refine post_fin ret_ok hM rfl ?_ ?_ | refine post_fin0 ret_ok hM rfl ?_ ?_ | refine post_fin normal_ok hM rfl ?_ ?_ | refine post_fin0 normal_ok hM rfl ?_ ?_)
        · simp -implicitDefEqProofs (disch := first | omega | (simp only [go_sem, ↓reduceIte, reduceCtorEq]; first | done | omega)) only [go_sem, ↓reduceIte, Nat.reduceLT, Nat.reduceEqDiff, Nat.reduceAdd, Nat.reduceSub, Nat.reduceMul, Nat.reduceLeDiff, reduceCtorEq, Int.reduceLE, Int.reduceLT, Int.reduceNeg, Int.reduceToNat, Nat.reduceSubDiff, Nat.reducePow]
          simp [crossRes, hc, crossN]
        · (simp only [go_sem, ↓reduceIte, Nat.reduceLT, Nat.reduceEqDiff, Nat.reduceAdd, Nat.reduceSub, Nat.reduceMul, Nat.reduceLeDiff, reduceCtorEq, Int.reduceLE, Int.reduceLT, Int.reduceNeg, Int.reduceToNat, Nat.reduceSubDiff, Nat.reducePow] <;> first | done | omega)
theorem fold_snoc {α β : Type} {l : List α} {k : Nat} {x : α} (f : β → α → β) (b : β) (h : l[k]? = some x) : (l.take (k + 1)).foldl f b = f ((l.take k).foldl f b) x := by
  obtain ⟨h1, h2⟩ := List.getElem?_eq_some_iff.1 h
  rw [List.take_succ_eq_append_getElem h1, h2, List.foldl_append]; rfl
theorem max_bd {l : List Rev} {a : Int} (ha : -32768 ≤ a ∧ a ≤ 32768) (hs : ∀ r ∈ l, smallR r) : -32768 ≤ l.foldl (fun m r => max m r.ld) a ∧ l.foldl (fun m r => max m r.ld) a ≤ 32768 := by
  induction l generalizing a with
  | nil => exact ha
  | cons r l ih =>
    have := hs r (by simp)
    unfold smallR at this
    exact ih (a := max a r.ld) (by omega) fun c hc => hs c (by simp [hc])
theorem min_bd {l : List Rev} {a : Int} (ha : -32768 ≤ a ∧ a ≤ 32768) (hs : ∀ r ∈ l, smallR r) : -32768 ≤ l.foldl (fun m r => min m r.ld) a ∧ l.foldl (fun m r => min m r.ld) a ≤ 32768 := by
  induction l generalizing a with
  | nil => exact ha
  | cons r l ih =>
    have := hs r (by simp)
    unfold smallR at this
    exact ih (a := min a r.ld) (by omega) fun c hc => hs c (by simp [hc])
theorem q_load_Greatest (l : List Rev) (hl : l.length ≤ 1048576) : Q X 14 [.fs (l.map encRev)] (.tup [.I (grRes l).1, .I (grRes l).2]) := by
  intro M
  (refine ACall_fn (cf := L2.c14) rfl rfl fun hM hA => ?_; simp only [L2.c14]; rw [mk1 _ (by decide)]; simp -implicitDefEqProofs (disch := first | omega | (simp only [go_sem, ↓reduceIte, reduceCtorEq]; first | done | omega)) only [go_sem, ↓reduceIte, Nat.reduceLT, Nat.reduceEqDiff, Nat.reduceAdd, Nat.reduceSub, Nat.reduceMul, Nat.reduceLeDiff, reduceCtorEq, Int.reduceLE, Int.reduceLT, Int.reduceNeg, Int.reduceToNat, Nat.reduceSubDiff, Nat.reducePow])
  refine callP_q (q_load_CheckReversals l hl _) ?_
  simp -implicitDefEqProofs (disch := first | omega | (simp only [go_sem, ↓reduceIte, reduceCtorEq]; first | done | omega)) only [go_sem, ↓reduceIte, Nat.reduceLT, Nat.reduceEqDiff, Nat.reduceAdd, Nat.reduceSub, Nat.reduceMul, Nat.reduceLeDiff, reduceCtorEq, Int.reduceLE, Int.reduceLT, Int.reduceNeg, Int.reduceToNat, Nat.reduceSubDiff, Nat.reducePow]
  refine callP_q (q_load_when _ _ _) ?_
  have hw : (if decide ((l.length : Int) < 2) = true then (7 : Int) else 0) = if l.length < 2 then 7 else 0 := by
    by_cases h : l.length < 2
    · have : (l.length : Int) < 2 := by omega
      simp [h, this]
    · have : ¬ (l.length : Int) < 2 := by omega
      simp [h, this]
  rw [hw]
  simp -implicitDefEqProofs (disch := first | omega | (simp only [go_sem, ↓reduceIte, reduceCtorEq]; first | done | omega)) only [go_sem, ↓reduceIte, Nat.reduceLT, Nat.reduceEqDiff, Nat.reduceAdd, Nat.reduceSub, Nat.reduceMul, Nat.reduceLeDiff, reduceCtorEq, Int.reduceLE, Int.reduceLT, Int.reduceNeg, Int.reduceToNat, Nat.reduceSubDiff, Nat.reducePow]
  refine callP_q (q_load_first [_, _] (by simp) _) ?_
  simp -implicitDefEqProofs (disch := first | omega | (simp only [go_sem, ↓reduceIte, reduceCtorEq]; first | done | omega)) only [go_sem, ↓reduceIte, Nat.reduceLT, Nat.reduceEqDiff, Nat.reduceAdd, Nat.reduceSub, Nat.reduceMul, Nat.reduceLeDiff, reduceCtorEq, Int.reduceLE, Int.reduceLT, Int.reduceNeg, Int.reduceToNat, Nat.reduceSubDiff, Nat.reducePow]
  refine cK_cases ?_ ?_ <;> intro hc <;> (try simp only [decide_eq_true_eq, decide_eq_false_iff_not, Classical.not_not, Bool.not_eq_true, Bool.not_eq_true', Bool.not_eq_false', Bool.false_or, Bool.or_false, Bool.true_or, Bool.or_true, Bool.false_and, Bool.and_false, Bool.true_and, Bool.and_true] at hc) <;> simp -implicitDefEqProofs (disch := first | omega | (simp only [go_sem, ↓reduceIte, reduceCtorEq, hc]; first | done | omega)) only [go_sem, ↓reduceIte, Nat.reduceLT, Nat.reduceEqDiff, Nat.reduceAdd, Nat.reduceSub, Nat.reduceMul, Nat.reduceLeDiff, reduceCtorEq, Int.reduceLE, Int.reduceLT, Int.reduceNeg, Int.reduceToNat, Nat.reduceSubDiff, Nat.reducePow, hc]
  · (first | refine post_fin ret_ok hM rfl ?_ ?_ | refine post_fin0 ret_ok hM rfl ?_ ?_ | refine post_fin normal_ok hM rfl ?_ ?_ | refine post_fin0 normal_ok hM rfl ?_ ?_)
    · simp -implicitDefEqProofs (disch := first | omega | (simp only [go_sem, ↓reduceIte, reduceCtorEq]; first | done | omega)) only [go_sem, ↓reduceIte, Nat.reduceLT, Nat.reduceEqDiff, Nat.reduceAdd, Nat.reduceSub, Nat.reduceMul, Nat.reduceLeDiff, reduceCtorEq, Int.reduceLE, Int.reduceLT, Int.reduceNeg, Int.reduceToNat, Nat.reduceSubDiff, Nat.reducePow]
      simp [grRes, hc]
    · (simp only [go_sem, ↓reduceIte, Nat.reduceLT, Nat.reduceEqDiff, Nat.reduceAdd, Nat.reduceSub, Nat.reduceMul, Nat.reduceLeDiff, reduceCtorEq, Int.reduceLE, Int.reduceLT, Int.reduceNeg, Int.reduceToNat, Nat.reduceSubDiff, Nat.reducePow] <;> first | done | omega)
  · have hz := fst0_two hc
    have hlen : ¬ l.length < 2 := by intro h; rw [if_pos h] at hz; simp at hz
    obtain ⟨a, h0⟩ : ∃ x, l[0]? = some x := ⟨_, List.getElem?_eq_getElem (by omega)⟩
    have hs := smallR_of hz.1
    have ha := hs a (List.mem_of_getElem? h0)
    unfold smallR at ha
    have hsp : spread l = l.foldl (fun m r => max m r.ld) a.ld - l.foldl (fun m r => min m r.ld) a.ld := by
      cases l with
      | nil => simp at h0
      | cons b l => simp at h0; subst h0; rfl
    simp -implicitDefEqProofs (disch := first | omega | (simp only [go_sem, ↓reduceIte, reduceCtorEq, h0, encRev_cells]; first | done | omega)) only [go_sem, ↓reduceIte, Nat.reduceLT, Nat.reduceEqDiff, Nat.reduceAdd, Nat.reduceSub, Nat.reduceMul, Nat.reduceLeDiff, reduceCtorEq, Int.reduceLE, Int.reduceLT, Int.reduceNeg, Int.reduceToNat, Nat.reduceSubDiff, Nat.reducePow, h0, encRev_cells]
    refine loop_mk (α := Nat) 0 (fun k => k ≤ l.length) (fun _ => M) (fun k => [(5, .I ((l.take k).foldl (fun m r => min m r.ld) a.ld)), (6, .I ((l.take k).foldl (fun m r => max m r.ld) a.ld)), (28, .fs (l.map encRev)), (29, .I l.length), (30, .I k)]) (fun k => l.length - k) (Nat.zero_le _) rfl rfl ?_
    intro k hk
    by_cases hlt : k < l.length
    · obtain ⟨x, h1⟩ : ∃ x, l[k]? = some x := ⟨_, List.getElem?_eq_getElem hlt⟩
      have g1 := fold_snoc (fun m (r : Rev) => min m r.ld) a.ld h1
      have g2 := fold_snoc (fun m (r : Rev) => max m r.ld) a.ld h1
      simp -implicitDefEqProofs (disch := first | omega | (simp only [go_sem, ↓reduceIte, reduceCtorEq, hlt, h1, encRev_cells]; first | done | omega)) only [go_sem, ↓reduceIte, Nat.reduceLT, Nat.reduceEqDiff, Nat.reduceAdd, Nat.reduceSub, Nat.reduceMul, Nat.reduceLeDiff, reduceCtorEq, Int.reduceLE, Int.reduceLT, Int.reduceNeg, Int.reduceToNat, Nat.reduceSubDiff, Nat.reducePow, hlt, h1, encRev_cells]
      refine Wp_cut_at hM rfl 0 (by simp) (by first | done | (simp only [go_sem, ↓reduceIte, Nat.reduceLT, Nat.reduceEqDiff, Nat.reduceAdd, Nat.reduceSub, Nat.reduceMul, Nat.reduceLeDiff, reduceCtorEq, Int.reduceLE, Int.reduceLT, Int.reduceNeg, Int.reduceToNat, Nat.reduceSubDiff, Nat.reducePow, encRev_low, encRev_low1] <;> first | done | (refine ⟨?_, ?_⟩ <;> omega) | omega)) (lowL_mk (by first | done | (simp only [go_sem, ↓reduceIte, Nat.reduceLT, Nat.reduceEqDiff, Nat.reduceAdd, Nat.reduceSub, Nat.reduceMul, Nat.reduceLeDiff, reduceCtorEq, Int.reduceLE, Int.reduceLT, Int.reduceNeg, Int.reduceToNat, Nat.reduceSubDiff, Nat.reducePow, encRev_low, encRev_low1] <;> first | done | (refine ⟨?_, ?_⟩ <;> omega) | omega))) ?_
      simp -implicitDefEqProofs (disch := first | omega | (simp only [go_sem, ↓reduceIte, reduceCtorEq]; first | done | omega)) only [go_sem, ↓reduceIte, Nat.reduceLT, Nat.reduceEqDiff, Nat.reduceAdd, Nat.reduceSub, Nat.reduceMul, Nat.reduceLeDiff, reduceCtorEq, Int.reduceLE, Int.reduceLT, Int.reduceNeg, Int.reduceToNat, Nat.reduceSubDiff, Nat.reducePow]
      exact again' (k + 1) (by omega) (by omega) rfl (by rw [g1, g2]; rfl)
    · have hmx := max_bd ha hs
      have hmn := min_bd ha hs
      rw [List.take_of_length_le (by omega)]
      simp -implicitDefEqProofs (disch := first | omega | (simp only [go_sem, ↓reduceIte, reduceCtorEq, hlt]; first | done | omega)) only [go_sem, ↓reduceIte, Nat.reduceLT, Nat.reduceEqDiff, Nat.reduceAdd, Nat.reduceSub, Nat.reduceMul, Nat.reduceLeDiff, reduceCtorEq, Int.reduceLE, Int.reduceLT, Int.reduceNeg, Int.reduceToNat, Nat.reduceSubDiff, Nat.reducePow, hlt]
      (first | refine post_fin ret_ok hM rfl ?_ ?_ | refine post_fin0 ret_ok hM rfl ?_ ?_ | refine post_fin normal_ok hM rfl ?_ ?_ | refine post_fin0 normal_ok hM rfl ?_ ?_)
      · simp -implicitDefEqProofs (disch := first | omega | (simp only [go_sem, ↓reduceIte, reduceCtorEq]; first | done | omega)) only [go_sem, ↓reduceIte, Nat.reduceLT, Nat.reduceEqDiff, Nat.reduceAdd, Nat.reduceSub, Nat.reduceMul, Nat.reduceLeDiff, reduceCtorEq, Int.reduceLE, Int.reduceLT, Int.reduceNeg, Int.reduceToNat, Nat.reduceSubDiff, Nat.reducePow]
        simp [grRes, hc, hsp]
      · (simp only [go_sem, ↓reduceIte, Nat.reduceLT, Nat.reduceEqDiff, Nat.reduceAdd, Nat.reduceSub, Nat.reduceMul, Nat.reduceLeDiff, reduceCtorEq, Int.reduceLE, Int.reduceLT, Int.reduceNeg, Int.reduceToNat, Nat.reduceSubDiff, Nat.reducePow] <;> first | done | omega)
end
end Go.Nac.L2
set_option linter.unusedSimpArgs false
set_option linter.unusedVariables false
set_option linter.unnecessarySimpa false
set_option maxRecDepth 10000
namespace Go.Nac.L2
attribute [local congr] b1_congr b2_congr Wp_congr wpOps_congr thenK_congr blockK_congr gK_congr cK_congr
section
variable {X : FuncId → List PV → PV → Prop}
theorem q_load_kept_Rev {p : Rev → Bool} {g : FuncId} {cap : List PV} {l : List Rev} {M : List Blk} (hl : l.length ≤ 1048576) (hg : ∀ n N, ACall F X (.fn g) (encRev n :: cap) (M ++ N) (.B (p n)) (M ++ N)) :
    ACall F X (.fn 64) [.fs (l.map encRev), .fn (.func g) [] cap] M (.fs ((l.filter p).map encRev)) M := by
  (refine ACall_fn (cf := L2.c64) rfl rfl fun hM hA => ?_; simp only [L2.c64]; rw [mk2 _ (by decide)]; simp -implicitDefEqProofs (disch := first | omega | (simp only [go_sem, ↓reduceIte, reduceCtorEq]; first | done | omega)) only [go_sem, ↓reduceIte, Nat.reduceLT, Nat.reduceEqDiff, Nat.reduceAdd, Nat.reduceSub, Nat.reduceMul, Nat.reduceLeDiff, reduceCtorEq, Int.reduceLE, Int.reduceLT, Int.reduceNeg, Int.reduceToNat, Nat.reduceSubDiff, Nat.reducePow])
  have hcap : lowL M.length cap := by simp only [lowL, PV.low] at hA; exact hA.2.1.2
  refine loop_mk (α := Nat) 0 (fun k => k ≤ l.length) (fun k => M ++ [.row true 2 ((l.take k).filter p).length (((l.take k).filter p).map encRev)])
    (fun k => [(1, .fn (.func g) [] cap), (5, .os M.length ((l.take k).filter p).length 0 ((l.take k).filter p).length), (8, .fs (l.map encRev)), (9, .I l.length), (10, .I k)]) (fun k => l.length - k) (Nat.zero_le _) rfl rfl ?_
  intro k hk
  by_cases hlt : k < l.length
  · obtain ⟨x, h1⟩ : ∃ x, l[k]? = some x := ⟨_, List.getElem?_eq_getElem hlt⟩
    have hf := filter_snoc p h1
    have hfl : ((l.take k).filter p).length ≤ k := Nat.le_trans (List.length_filter_le _ _) (by simp; omega)
    have hcap1 := lowL_mono (Nat.le_add_right M.length 1) cap hcap
    simp -implicitDefEqProofs (disch := first | omega | (simp only [go_sem, ↓reduceIte, reduceCtorEq, hlt, h1, encRev_cells]; first | done | omega)) only [go_sem, ↓reduceIte, Nat.reduceLT, Nat.reduceEqDiff, Nat.reduceAdd, Nat.reduceSub, Nat.reduceMul, Nat.reduceLeDiff, reduceCtorEq, Int.reduceLE, Int.reduceLT, Int.reduceNeg, Int.reduceToNat, Nat.reduceSubDiff, Nat.reducePow, hlt, h1, encRev_cells]
    refine callP_q (hg x _) ?_
    simp -implicitDefEqProofs (disch := first | omega | (simp only [go_sem, ↓reduceIte, reduceCtorEq]; first | done | omega)) only [go_sem, ↓reduceIte, Nat.reduceLT, Nat.reduceEqDiff, Nat.reduceAdd, Nat.reduceSub, Nat.reduceMul, Nat.reduceLeDiff, reduceCtorEq, Int.reduceLE, Int.reduceLT, Int.reduceNeg, Int.reduceToNat, Nat.reduceSubDiff, Nat.reducePow]
    refine cK_cases ?_ ?_ <;> intro hc <;> (try simp only [decide_eq_true_eq, decide_eq_false_iff_not, Classical.not_not, Bool.not_eq_true, Bool.not_eq_true', Bool.not_eq_false', Bool.false_or, Bool.or_false, Bool.true_or, Bool.or_true, Bool.false_and, Bool.and_false, Bool.true_and, Bool.and_true] at hc) <;> simp -implicitDefEqProofs (disch := first | omega | (simp only [go_sem, ↓reduceIte, reduceCtorEq, h1, hc]; first | done | omega)) only [go_sem, ↓reduceIte, Nat.reduceLT, Nat.reduceEqDiff, Nat.reduceAdd, Nat.reduceSub, Nat.reduceMul, Nat.reduceLeDiff, reduceCtorEq, Int.reduceLE, Int.reduceLT, Int.reduceNeg, Int.reduceToNat, Nat.reduceSubDiff, Nat.reducePow, h1, hc]
    · rw [if_pos hc] at hf
      refine Wp_cut_at hM rfl 1 (by simp) (by first | done | (simp only [go_sem, ↓reduceIte, Nat.reduceLT, Nat.reduceEqDiff, Nat.reduceAdd, Nat.reduceSub, Nat.reduceMul, Nat.reduceLeDiff, reduceCtorEq, Int.reduceLE, Int.reduceLT, Int.reduceNeg, Int.reduceToNat, Nat.reduceSubDiff, Nat.reducePow, encRev_low, hcap1] <;> first | done | (refine ⟨?_, ?_⟩ <;> omega) | omega)) (lowL_mk (by first | done | (simp only [go_sem, ↓reduceIte, Nat.reduceLT, Nat.reduceEqDiff, Nat.reduceAdd, Nat.reduceSub, Nat.reduceMul, Nat.reduceLeDiff, reduceCtorEq, Int.reduceLE, Int.reduceLT, Int.reduceNeg, Int.reduceToNat, Nat.reduceSubDiff, Nat.reducePow, encRev_low, hcap1] <;> first | done | (refine ⟨?_, ?_⟩ <;> omega) | omega))) ?_
      simp -implicitDefEqProofs (disch := first | omega | (simp only [go_sem, ↓reduceIte, reduceCtorEq]; first | done | omega)) only [go_sem, ↓reduceIte, Nat.reduceLT, Nat.reduceEqDiff, Nat.reduceAdd, Nat.reduceSub, Nat.reduceMul, Nat.reduceLeDiff, reduceCtorEq, Int.reduceLE, Int.reduceLT, Int.reduceNeg, Int.reduceToNat, Nat.reduceSubDiff, Nat.reducePow]
      exact again' (k + 1) (by omega) (by omega) (by rw [hf]; simp [encRev]) (by rw [hf]; simp)
    · rw [if_neg (by simp [hc]), List.append_nil] at hf
      refine Wp_cut_at hM rfl 1 (by simp) (by first | done | (simp only [go_sem, ↓reduceIte, Nat.reduceLT, Nat.reduceEqDiff, Nat.reduceAdd, Nat.reduceSub, Nat.reduceMul, Nat.reduceLeDiff, reduceCtorEq, Int.reduceLE, Int.reduceLT, Int.reduceNeg, Int.reduceToNat, Nat.reduceSubDiff, Nat.reducePow, encRev_low, hcap1] <;> first | done | (refine ⟨?_, ?_⟩ <;> omega) | omega)) (lowL_mk (by first | done | (simp only [go_sem, ↓reduceIte, Nat.reduceLT, Nat.reduceEqDiff, Nat.reduceAdd, Nat.reduceSub, Nat.reduceMul, Nat.reduceLeDiff, reduceCtorEq, Int.reduceLE, Int.reduceLT, Int.reduceNeg, Int.reduceToNat, Nat.reduceSubDiff, Nat.reducePow, encRev_low, hcap1] <;> first | done | (refine ⟨?_, ?_⟩ <;> omega) | omega))) ?_
      simp -implicitDefEqProofs (disch := first | omega | (simp only [go_sem, ↓reduceIte, reduceCtorEq]; first | done | omega)) only [go_sem, ↓reduceIte, Nat.reduceLT, Nat.reduceEqDiff, Nat.reduceAdd, Nat.reduceSub, Nat.reduceMul, Nat.reduceLeDiff, reduceCtorEq, Int.reduceLE, Int.reduceLT, Int.reduceNeg, Int.reduceToNat, Nat.reduceSubDiff, Nat.reducePow]
      exact again' (k + 1) (by omega) (by omega) (by rw [hf]) (by rw [hf]; rfl)
  · simp -implicitDefEqProofs (disch := first | omega | (simp only [go_sem, ↓reduceIte, reduceCtorEq, hlt]; first | done | omega)) only [go_sem, ↓reduceIte, Nat.reduceLT, Nat.reduceEqDiff, Nat.reduceAdd, Nat.reduceSub, Nat.reduceMul, Nat.reduceLeDiff, reduceCtorEq, Int.reduceLE, Int.reduceLT, Int.reduceNeg, Int.reduceToNat, Nat.reduceSubDiff, Nat.reducePow, hlt]
    (first | refine post_fin ret_ok hM rfl ?_ ?_ | refine post_fin0 ret_ok hM rfl ?_ ?_ | refine post_fin normal_ok hM rfl ?_ ?_ | refine post_fin0 normal_ok hM rfl ?_ ?_)
    · simp -implicitDefEqProofs (disch := first | omega | (simp only [go_sem, ↓reduceIte, reduceCtorEq]; first | done | omega)) only [go_sem, ↓reduceIte, Nat.reduceLT, Nat.reduceEqDiff, Nat.reduceAdd, Nat.reduceSub, Nat.reduceMul, Nat.reduceLeDiff, reduceCtorEq, Int.reduceLE, Int.reduceLT, Int.reduceNeg, Int.reduceToNat, Nat.reduceSubDiff, Nat.reducePow]
      rw [List.take_of_length_le (by omega)]
    · (simp only [go_sem, ↓reduceIte, Nat.reduceLT, Nat.reduceEqDiff, Nat.reduceAdd, Nat.reduceSub, Nat.reduceMul, Nat.reduceLeDiff, reduceCtorEq, Int.reduceLE, Int.reduceLT, Int.reduceNeg, Int.reduceToNat, Nat.reduceSubDiff, Nat.reducePow, encRev_low] <;> first | done | omega)
theorem q_load_Filter_1 (M N : List Blk) (least : Int) (cs : List Cyc) (r : Rev) :
    ACall F X (.fn 65) (encRev r :: [.op (M.length + 1) 0 0 0]) (M ++ .map (smallM least cs) :: .row true 1 0 [.om M.length] :: N) (.B (!inSmall least cs r.at_)) (M ++ .map (smallM least cs) :: .row true 1 0 [.om M.length] :: N) := by
  have hk := (smallM_int least cs).like r.at_
  have hf := smallM_find least cs r.at_
  generalize smallM least cs = es at hk hf ⊢
  (refine ACall_fn (cf := L2.c65) rfl rfl fun hM hA => ?_; simp only [L2.c65]; rw [mk2 _ (by decide)]; simp -implicitDefEqProofs (disch := first | omega | (simp only [go_sem, ↓reduceIte, reduceCtorEq, encRev_cells, encRev_eq, lookV_om, lookB_no, lookB_ok, mupdO_om, mupdB_map, keyOk_int, keyOk_str, oneB_mapn, hk, hf]; first | done | omega)) only [go_sem, ↓reduceIte, Nat.reduceLT, Nat.reduceEqDiff, Nat.reduceAdd, Nat.reduceSub, Nat.reduceMul, Nat.reduceLeDiff, reduceCtorEq, Int.reduceLE, Int.reduceLT, Int.reduceNeg, Int.reduceToNat, Nat.reduceSubDiff, Nat.reducePow, encRev_cells, encRev_eq, lookV_om, lookB_no, lookB_ok, mupdO_om, mupdB_map, keyOk_int, keyOk_str, oneB_mapn, hk, hf])
  refine post_fin0 ret_ok hM (by simp) ?_ ?_
  · simp -implicitDefEqProofs (disch := first | omega | (simp only [go_sem, ↓reduceIte, reduceCtorEq]; first | done | omega)) only [go_sem, ↓reduceIte, Nat.reduceLT, Nat.reduceEqDiff, Nat.reduceAdd, Nat.reduceSub, Nat.reduceMul, Nat.reduceLeDiff, reduceCtorEq, Int.reduceLE, Int.reduceLT, Int.reduceNeg, Int.reduceToNat, Nat.reduceSubDiff, Nat.reducePow]
  · (simp only [go_sem, ↓reduceIte, Nat.reduceLT, Nat.reduceEqDiff, Nat.reduceAdd, Nat.reduceSub, Nat.reduceMul, Nat.reduceLeDiff, reduceCtorEq, Int.reduceLE, Int.reduceLT, Int.reduceNeg, Int.reduceToNat, Nat.reduceSubDiff, Nat.reducePow] <;> first | done | omega)
theorem q_load_Filter (l : List Rev) (least : Int) (hl : l.length ≤ 1000000) : Q X 30 [.fs (l.map encRev), .I least] (.tup [.fs ((if filtErr l least = 0 then filt l least else []).map encRev), .I (filtErr l least)]) := by
  intro M
  (refine ACall_fn (cf := L2.c30) rfl rfl fun hM hA => ?_; simp only [L2.c30]; rw [mk2 _ (by decide)]; simp -implicitDefEqProofs (disch := first | omega | (simp only [go_sem, ↓reduceIte, reduceCtorEq]; first | done | omega)) only [go_sem, ↓reduceIte, Nat.reduceLT, Nat.reduceEqDiff, Nat.reduceAdd, Nat.reduceSub, Nat.reduceMul, Nat.reduceLeDiff, reduceCtorEq, Int.reduceLE, Int.reduceLT, Int.reduceNeg, Int.reduceToNat, Nat.reduceSubDiff, Nat.reducePow])
  refine callP_q (q_load_CheckReversals l (by omega) _) ?_
  simp -implicitDefEqProofs (disch := first | omega | (simp only [go_sem, ↓reduceIte, reduceCtorEq]; first | done | omega)) only [go_sem, ↓reduceIte, Nat.reduceLT, Nat.reduceEqDiff, Nat.reduceAdd, Nat.reduceSub, Nat.reduceMul, Nat.reduceLeDiff, reduceCtorEq, Int.reduceLE, Int.reduceLT, Int.reduceNeg, Int.reduceToNat, Nat.reduceSubDiff, Nat.reducePow]
  repeat' (first | (refine callP_q (q_load_checkAny _ _) ?_; (try simp -implicitDefEqProofs (disch := first | omega | (simp only [go_sem, ↓reduceIte, reduceCtorEq]; first | done | omega)) only [go_sem, ↓reduceIte, Nat.reduceLT, Nat.reduceEqDiff, Nat.reduceAdd, Nat.reduceSub, Nat.reduceMul, Nat.reduceLeDiff, reduceCtorEq, Int.reduceLE, Int.reduceLT, Int.reduceNeg, Int.reduceToNat, Nat.reduceSubDiff, Nat.reducePow])) | (refine callP_q (q_load_first [_, _] (by simp) _) ?_; (try simp -implicitDefEqProofs (disch := first | omega | (simp only [go_sem, ↓reduceIte, reduceCtorEq]; first | done | omega)) only [go_sem, ↓reduceIte, Nat.reduceLT, Nat.reduceEqDiff, Nat.reduceAdd, Nat.reduceSub, Nat.reduceMul, Nat.reduceLeDiff, reduceCtorEq, Int.reduceLE, Int.reduceLT, Int.reduceNeg, Int.reduceToNat, Nat.reduceSubDiff, Nat.reducePow])) | (refine cK_cases ?_ ?_ <;> intro hc <;> (try simp only [decide_eq_true_eq, decide_eq_false_iff_not, Classical.not_not, Bool.not_eq_true, Bool.not_eq_true', Bool.not_eq_false', Bool.false_or, Bool.or_false, Bool.true_or, Bool.or_true, Bool.false_and, Bool.and_false, Bool.true_and, Bool.and_true] at hc) <;> (try simp -implicitDefEqProofs (disch := first | omega | (simp only [go_sem, ↓reduceIte, reduceCtorEq, hc]; first | done | omega)) only [go_sem, ↓reduceIte, Nat.reduceLT, Nat.reduceEqDiff, Nat.reduceAdd, Nat.reduceSub, Nat.reduceMul, Nat.reduceLeDiff, reduceCtorEq, Int.reduceLE, Int.reduceLT, Int.reduceNeg, Int.reduceToNat, Nat.reduceSubDiff, Nat.reducePow, hc])) | (refine gK_cases ?_ ?_ <;> intro hc <;> (try simp only [decide_eq_true_eq, decide_eq_false_iff_not, Classical.not_not, Bool.not_eq_true, Bool.not_eq_true', Bool.not_eq_false', Bool.false_or, Bool.or_false, Bool.true_or, Bool.or_true, Bool.false_and, Bool.and_false, Bool.true_and, Bool.and_true] at hc) <;> (try simp -implicitDefEqProofs (disch := first | omega | (simp only [go_sem, ↓reduceIte, reduceCtorEq, hc]; first | done | omega)) only [go_sem, ↓reduceIte, Nat.reduceLT, Nat.reduceEqDiff, Nat.reduceAdd, Nat.reduceSub, Nat.reduceMul, Nat.reduceLeDiff, reduceCtorEq, Int.reduceLE, Int.reduceLT, Int.reduceNeg, Int.reduceToNat, Nat.reduceSubDiff, Nat.reducePow, hc])))
  · (first | refine post_fin ret_ok hM rfl ?_ ?_ | refine post_fin0 ret_ok hM rfl ?_ ?_ | refine post_fin normal_ok hM rfl ?_ ?_ | refine post_fin0 normal_ok hM rfl ?_ ?_)
    · simp -implicitDefEqProofs (disch := first | omega | (simp only [go_sem, ↓reduceIte, reduceCtorEq]; first | done | omega)) only [go_sem, ↓reduceIte, Nat.reduceLT, Nat.reduceEqDiff, Nat.reduceAdd, Nat.reduceSub, Nat.reduceMul, Nat.reduceLeDiff, reduceCtorEq, Int.reduceLE, Int.reduceLT, Int.reduceNeg, Int.reduceToNat, Nat.reduceSubDiff, Nat.reducePow]
      simp [filtErr, hc]
    · (simp only [go_sem, ↓reduceIte, Nat.reduceLT, Nat.reduceEqDiff, Nat.reduceAdd, Nat.reduceSub, Nat.reduceMul, Nat.reduceLeDiff, reduceCtorEq, Int.reduceLE, Int.reduceLT, Int.reduceNeg, Int.reduceToNat, Nat.reduceSubDiff, Nat.reducePow] <;> first | done | omega)
  · have hz := fst0_two hc
    have hs := smallR_of hz.1
    have hsc := count_small hs
    have hcl := count_len l
    refine callP_q (q_load_count l hl hs _) ?_
    simp -implicitDefEqProofs (disch := first | omega | (simp only [go_sem, ↓reduceIte, reduceCtorEq, lookV_om, lookB_no, lookB_ok, mupdO_om, mupdB_map, keyOk_int, keyOk_str, oneB_mapn]; first | done | omega)) only [go_sem, ↓reduceIte, Nat.reduceLT, Nat.reduceEqDiff, Nat.reduceAdd, Nat.reduceSub, Nat.reduceMul, Nat.reduceLeDiff, reduceCtorEq, Int.reduceLE, Int.reduceLT, Int.reduceNeg, Int.reduceToNat, Nat.reduceSubDiff, Nat.reducePow, lookV_om, lookB_no, lookB_ok, mupdO_om, mupdB_map, keyOk_int, keyOk_str, oneB_mapn]
    have hft : filt l least = l.filter fun r => !inSmall least (countOf l).1 r.at_ := rfl
    generalize (countOf l).1 = cs at hsc hcl hft ⊢
    refine loop_mk (α := Nat) 0 (fun k => k ≤ cs.length) (fun k => M ++ [.map (smallM least (cs.take k)), .row true 1 0 [.om M.length]])
      (fun k => [(0, .fs (l.map encRev)), (1, .I least), (9, .op (M.length + 1) 0 0 0), (27, .fs (cs.map encCyc)), (28, .I cs.length), (29, .I k)]) (fun k => cs.length - k) (Nat.zero_le _) rfl rfl ?_
    intro k hk
    by_cases hlt : k < cs.length
    · obtain ⟨x, h1⟩ : ∃ x, cs[k]? = some x := ⟨_, List.getElem?_eq_getElem hlt⟩
      have hsn := smallM_snoc (least := least) h1
      have hai := smallM_int least (cs.take k)
      have hx := hsc x (List.mem_of_getElem? h1)
      unfold smallC at hx
      generalize smallM least (cs.take k) = es at hsn hai ⊢
      have hk1 := hai.like x.from_
      have hk2 := (hai.upd x.from_ (.bool true)).like x.to_
      clear hc
      simp -implicitDefEqProofs (disch := first | omega | (simp only [go_sem, ↓reduceIte, reduceCtorEq, hlt, h1, encCyc_cells]; first | done | omega)) only [go_sem, ↓reduceIte, Nat.reduceLT, Nat.reduceEqDiff, Nat.reduceAdd, Nat.reduceSub, Nat.reduceMul, Nat.reduceLeDiff, reduceCtorEq, Int.reduceLE, Int.reduceLT, Int.reduceNeg, Int.reduceToNat, Nat.reduceSubDiff, Nat.reducePow, hlt, h1, encCyc_cells]
      refine cK_cases ?_ ?_ <;> intro hc <;> (try simp only [decide_eq_true_eq, decide_eq_false_iff_not, Classical.not_not, Bool.not_eq_true, Bool.not_eq_true', Bool.not_eq_false', Bool.false_or, Bool.or_false, Bool.true_or, Bool.or_true, Bool.false_and, Bool.and_false, Bool.true_and, Bool.and_true] at hc) <;> simp -implicitDefEqProofs (disch := first | omega | (simp only [go_sem, ↓reduceIte, reduceCtorEq, h1, encCyc_cells, lookV_om, lookB_no, lookB_ok, mupdO_om, mupdB_map, keyOk_int, keyOk_str, oneB_mapn, hk1, hk2, hc]; first | done | omega)) only [go_sem, ↓reduceIte, Nat.reduceLT, Nat.reduceEqDiff, Nat.reduceAdd, Nat.reduceSub, Nat.reduceMul, Nat.reduceLeDiff, reduceCtorEq, Int.reduceLE, Int.reduceLT, Int.reduceNeg, Int.reduceToNat, Nat.reduceSubDiff, Nat.reducePow, h1, encCyc_cells, lookV_om, lookB_no, lookB_ok, mupdO_om, mupdB_map, keyOk_int, keyOk_str, oneB_mapn, hk1, hk2, hc]
      · simp only [smallE, if_pos hc] at hsn
        refine ⟨by simp [pairsOk, okPair, apartL], ?_⟩
        refine Wp_cut_at hM rfl 2 (by simp) (by first | done | (simp only [go_sem, ↓reduceIte, Nat.reduceLT, Nat.reduceEqDiff, Nat.reduceAdd, Nat.reduceSub, Nat.reduceMul, Nat.reduceLeDiff, reduceCtorEq, Int.reduceLE, Int.reduceLT, Int.reduceNeg, Int.reduceToNat, Nat.reduceSubDiff, Nat.reducePow, encRev_low] <;> first | done | (refine ⟨?_, ?_⟩ <;> omega) | omega)) (lowL_mk (by first | done | (simp only [go_sem, ↓reduceIte, Nat.reduceLT, Nat.reduceEqDiff, Nat.reduceAdd, Nat.reduceSub, Nat.reduceMul, Nat.reduceLeDiff, reduceCtorEq, Int.reduceLE, Int.reduceLT, Int.reduceNeg, Int.reduceToNat, Nat.reduceSubDiff, Nat.reducePow, encRev_low] <;> first | done | (refine ⟨?_, ?_⟩ <;> omega) | omega))) ?_
        simp -implicitDefEqProofs (disch := first | omega | (simp only [go_sem, ↓reduceIte, reduceCtorEq]; first | done | omega)) only [go_sem, ↓reduceIte, Nat.reduceLT, Nat.reduceEqDiff, Nat.reduceAdd, Nat.reduceSub, Nat.reduceMul, Nat.reduceLeDiff, reduceCtorEq, Int.reduceLE, Int.reduceLT, Int.reduceNeg, Int.reduceToNat, Nat.reduceSubDiff, Nat.reducePow]
        exact again' (k + 1) (by omega) (by omega) (by rw [hsn]) rfl
      · simp only [smallE, if_neg hc] at hsn
        refine Wp_cut_at hM rfl 2 (by simp) (by first | done | (simp only [go_sem, ↓reduceIte, Nat.reduceLT, Nat.reduceEqDiff, Nat.reduceAdd, Nat.reduceSub, Nat.reduceMul, Nat.reduceLeDiff, reduceCtorEq, Int.reduceLE, Int.reduceLT, Int.reduceNeg, Int.reduceToNat, Nat.reduceSubDiff, Nat.reducePow, encRev_low] <;> first | done | (refine ⟨?_, ?_⟩ <;> omega) | omega)) (lowL_mk (by first | done | (simp only [go_sem, ↓reduceIte, Nat.reduceLT, Nat.reduceEqDiff, Nat.reduceAdd, Nat.reduceSub, Nat.reduceMul, Nat.reduceLeDiff, reduceCtorEq, Int.reduceLE, Int.reduceLT, Int.reduceNeg, Int.reduceToNat, Nat.reduceSubDiff, Nat.reducePow, encRev_low] <;> first | done | (refine ⟨?_, ?_⟩ <;> omega) | omega))) ?_
        simp -implicitDefEqProofs (disch := first | omega | (simp only [go_sem, ↓reduceIte, reduceCtorEq]; first | done | omega)) only [go_sem, ↓reduceIte, Nat.reduceLT, Nat.reduceEqDiff, Nat.reduceAdd, Nat.reduceSub, Nat.reduceMul, Nat.reduceLeDiff, reduceCtorEq, Int.reduceLE, Int.reduceLT, Int.reduceNeg, Int.reduceToNat, Nat.reduceSubDiff, Nat.reducePow]
        exact again' (k + 1) (by omega) (by omega) (by rw [hsn]) rfl
    · simp -implicitDefEqProofs (disch := first | omega | (simp only [go_sem, ↓reduceIte, reduceCtorEq, hlt]; first | done | omega)) only [go_sem, ↓reduceIte, Nat.reduceLT, Nat.reduceEqDiff, Nat.reduceAdd, Nat.reduceSub, Nat.reduceMul, Nat.reduceLeDiff, reduceCtorEq, Int.reduceLE, Int.reduceLT, Int.reduceNeg, Int.reduceToNat, Nat.reduceSubDiff, Nat.reducePow, hlt]
      rw [List.take_of_length_le (by omega)]
      refine callP_q (q_load_kept_Rev (p := fun r => !inSmall least cs r.at_) (by omega) fun n N => by rw [List.append_assoc]; exact q_load_Filter_1 M N least cs n) ?_
      simp -implicitDefEqProofs (disch := first | omega | (simp only [go_sem, ↓reduceIte, reduceCtorEq]; first | done | omega)) only [go_sem, ↓reduceIte, Nat.reduceLT, Nat.reduceEqDiff, Nat.reduceAdd, Nat.reduceSub, Nat.reduceMul, Nat.reduceLeDiff, reduceCtorEq, Int.reduceLE, Int.reduceLT, Int.reduceNeg, Int.reduceToNat, Nat.reduceSubDiff, Nat.reducePow]
      (first | refine post_fin ret_ok hM rfl ?_ ?_ | refine post_fin0 ret_ok hM rfl ?_ ?_ | refine post_fin normal_ok hM rfl ?_ ?_ | refine post_fin0 normal_ok hM rfl ?_ ?_)
      · simp -implicitDefEqProofs (disch := first | omega | (simp only [go_sem, ↓reduceIte, reduceCtorEq]; first | done | omega)) only [go_sem, ↓reduceIte, Nat.reduceLT, Nat.reduceEqDiff, Nat.reduceAdd, Nat.reduceSub, Nat.reduceMul, Nat.reduceLeDiff, reduceCtorEq, Int.reduceLE, Int.reduceLT, Int.reduceNeg, Int.reduceToNat, Nat.reduceSubDiff, Nat.reducePow]
        simp [filtErr, hc, hft]
      · (simp only [go_sem, ↓reduceIte, Nat.reduceLT, Nat.reduceEqDiff, Nat.reduceAdd, Nat.reduceSub, Nat.reduceMul, Nat.reduceLeDiff, reduceCtorEq, Int.reduceLE, Int.reduceLT, Int.reduceNeg, Int.reduceToNat, Nat.reduceSubDiff, Nat.reducePow, encRev_low] <;> first | done | omega)
end
end Go.Nac.L2
set_option linter.unusedSimpArgs false
set_option linter.unusedVariables false
set_option linter.unnecessarySimpa false
set_option maxRecDepth 10000
namespace Go.Nac.L2
attribute [local congr] b1_congr b2_congr Wp_congr wpOps_congr thenK_congr blockK_congr gK_congr cK_congr
section
variable {X : FuncId → List PV → PV → Prop}
def zRev : PV := .agg [.I 0, .I 0]
theorem q_slices_Grow_nil (M : List Blk) : ACall F X (.fn 112) [PV.nilS, .I 0] M PV.nilS M := by
  (refine ACall_fn (cf := L2.c112) rfl rfl fun hM hA => ?_; simp only [L2.c112]; rw [mk2 _ (by decide)]; simp -implicitDefEqProofs (disch := first | omega | (simp only [go_sem, ↓reduceIte, reduceCtorEq, r_capn, capnV_nil, r_appz, appzO_some, r_copy, copyO_os, copyR_all]; first | done | omega)) only [go_sem, ↓reduceIte, Nat.reduceLT, Nat.reduceEqDiff, Nat.reduceAdd, Nat.reduceSub, Nat.reduceMul, Nat.reduceLeDiff, reduceCtorEq, Int.reduceLE, Int.reduceLT, Int.reduceNeg, Int.reduceToNat, Nat.reduceSubDiff, Nat.reducePow, r_capn, capnV_nil, r_appz, appzO_some, r_copy, copyO_os, copyR_all])
  have hres : ∀ N : List Blk, bodyPost M.length [(4, none)] PV.nilS M .ret (M ++ N) (mk 27 [(4, PV.nilS)]) := fun N => post_nil ret_ok hM rfl (by simp -implicitDefEqProofs (disch := first | omega | (simp only [go_sem, ↓reduceIte, reduceCtorEq]; first | done | omega)) only [go_sem, ↓reduceIte, Nat.reduceLT, Nat.reduceEqDiff, Nat.reduceAdd, Nat.reduceSub, Nat.reduceMul, Nat.reduceLeDiff, reduceCtorEq, Int.reduceLE, Int.reduceLT, Int.reduceNeg, Int.reduceToNat, Nat.reduceSubDiff, Nat.reducePow])
  exact hres _
theorem q_slices_Grow (n : Nat) (h : 1 ≤ n) (hn : n ≤ 1048576) (M : List Blk) : ACall F X (.fn 112) [PV.nilS, .I n] M (.os M.length 0 0 0) (M ++ [.row true 2 0 (List.replicate n zRev)]) := by
  refine ACall_own (cf := c112) rfl rfl fun hM hA => ?_
  simp only [c112]
  rw [mk2 _ (by decide)]
  have h1 : ¬ (n : Int) < 0 := by omega
  have h2 : (0 : Int) < n := by omega
  have h3 : ((0 : Int) ≤ 0) = True := eq_true (by omega)
  have e1 : (n : Int) - 0 = n := by omega
  have e2 : (0 : Int) - 0 = 0 := by omega
  simp -implicitDefEqProofs (disch := first | omega | (simp only [go_sem, ↓reduceIte, reduceCtorEq, r_capn, capnV_nil, r_appz, appzO_some, r_copy, copyO_os, copyR_all, h1, h2, h3, e1, e2, natZ]; first | done | omega)) only [go_sem, ↓reduceIte, Nat.reduceLT, Nat.reduceEqDiff, Nat.reduceAdd, Nat.reduceSub, Nat.reduceMul, Nat.reduceLeDiff, reduceCtorEq, Int.reduceLE, Int.reduceLT, Int.reduceNeg, Int.reduceToNat, Nat.reduceSubDiff, Nat.reducePow, r_capn, capnV_nil, r_appz, appzO_some, r_copy, copyO_os, copyR_all, h1, h2, h3, e1, e2, natZ]
  refine own_fin ret_ok hM (j := 1) rfl rfl ?_
  · rw [lowL_iff]
    intro x hx
    rw [List.eq_of_mem_replicate hx]
    unfold zRev
    (simp only [go_sem, ↓reduceIte, Nat.reduceLT, Nat.reduceEqDiff, Nat.reduceAdd, Nat.reduceSub, Nat.reduceMul, Nat.reduceLeDiff, reduceCtorEq, Int.reduceLE, Int.reduceLT, Int.reduceNeg, Int.reduceToNat, Nat.reduceSubDiff, Nat.reducePow] <;> first | done | omega)
theorem q_slices_Values (l : List Rev) : Q X 92 [.fs (l.map encRev)] (.fn (.func 111) [] [.fp [.fs (l.map encRev)]]) := by
  intro M
  (refine ACall_fn (cf := L2.c92) rfl rfl fun hM hA => ?_; simp only [L2.c92]; rw [mk1 _ (by decide)]; simp -implicitDefEqProofs (disch := first | omega | (simp only [go_sem, ↓reduceIte, reduceCtorEq]; first | done | omega)) only [go_sem, ↓reduceIte, Nat.reduceLT, Nat.reduceEqDiff, Nat.reduceAdd, Nat.reduceSub, Nat.reduceMul, Nat.reduceLeDiff, reduceCtorEq, Int.reduceLE, Int.reduceLT, Int.reduceNeg, Int.reduceToNat, Nat.reduceSubDiff, Nat.reducePow])
  (all_goals (first | refine post_fin ret_ok hM rfl ?_ ?_ | refine post_fin0 ret_ok hM rfl ?_ ?_ | refine post_fin normal_ok hM rfl ?_ ?_ | refine post_fin0 normal_ok hM rfl ?_ ?_); all_goals first | (simp only [go_sem, ↓reduceIte, Nat.reduceLT, Nat.reduceEqDiff, Nat.reduceAdd, Nat.reduceSub, Nat.reduceMul, Nat.reduceLeDiff, reduceCtorEq, Int.reduceLE, Int.reduceLT, Int.reduceNeg, Int.reduceToNat, Nat.reduceSubDiff, Nat.reducePow, encRev_low] <;> first | done | omega) | skip; all_goals (try simp -implicitDefEqProofs (disch := first | omega | (simp only [go_sem, ↓reduceIte, reduceCtorEq]; first | done | omega)) only [go_sem, ↓reduceIte, Nat.reduceLT, Nat.reduceEqDiff, Nat.reduceAdd, Nat.reduceSub, Nat.reduceMul, Nat.reduceLeDiff, reduceCtorEq, Int.reduceLE, Int.reduceLT, Int.reduceNeg, Int.reduceToNat, Nat.reduceSubDiff, Nat.reducePow]))
theorem appO_nil0 {M : List Blk} : appO M 2 16 (.s (.slice none 0 0)) (some []) = some (.os M.length 0 0 0, M ++ [.row true 2 0 []]) := appO_nil (by rfl) (by decide) (by decide) (by decide)
theorem appR_nil0 {M : List Blk} {i v : Nat} : appR M 2 16 i v 0 0 [] (some (.row true 2 v [])) = some (.os i (v + 1) 0 0, M.set i (.row true 2 (v + 1) [])) := appR_own (xs := []) (ys := []) rfl (by rfl) (by decide) (by decide) (by decide)
theorem q_slices_Concat (a b : List Rev) (hl : a.length + b.length ≤ 1000000) : Q X 93 [.fs [.fs (a.map encRev), .fs (b.map encRev)]] (.fs ((a ++ b).map encRev)) := by
  intro M
  (refine ACall_fn (cf := L2.c93) rfl rfl fun hM hA => ?_; simp only [L2.c93]; rw [mk1 _ (by decide)]; simp -implicitDefEqProofs (disch := first | omega | (simp only [go_sem, ↓reduceIte, reduceCtorEq]; first | done | omega)) only [go_sem, ↓reduceIte, Nat.reduceLT, Nat.reduceEqDiff, Nat.reduceAdd, Nat.reduceSub, Nat.reduceMul, Nat.reduceLeDiff, reduceCtorEq, Int.reduceLE, Int.reduceLT, Int.reduceNeg, Int.reduceToNat, Nat.reduceSubDiff, Nat.reducePow])
  refine loop_mk (α := Nat) 0 (fun k => k ≤ 2) (fun _ => M) (fun k => [(0, .fs [.fs (a.map encRev), .fs (b.map encRev)]), (3, .I (if k = 0 then 0 else if k = 1 then a.length else a.length + b.length)), (9, .fs [.fs (a.map encRev), .fs (b.map encRev)]), (10, .I 2), (11, .I k)]) (fun k => 2 - k) (by omega) rfl rfl ?_
  intro k hk
  rcases (by omega : k = 0 ∨ k = 1 ∨ k = 2) with rfl | rfl | rfl
  · have f1 : ¬ (a.length : Int) < 0 := by omega
    simp -implicitDefEqProofs (disch := first | omega | (simp only [go_sem, ↓reduceIte, reduceCtorEq, f1]; first | done | omega)) only [go_sem, ↓reduceIte, Nat.reduceLT, Nat.reduceEqDiff, Nat.reduceAdd, Nat.reduceSub, Nat.reduceMul, Nat.reduceLeDiff, reduceCtorEq, Int.reduceLE, Int.reduceLT, Int.reduceNeg, Int.reduceToNat, Nat.reduceSubDiff, Nat.reducePow, f1]
    exact again' (α := Nat) 1 (by decide) (by decide) rfl rfl
  · have f1 : ¬ (a.length : Int) + (b.length : Int) < 0 := by omega
    simp -implicitDefEqProofs (disch := first | omega | (simp only [go_sem, ↓reduceIte, reduceCtorEq, f1]; first | done | omega)) only [go_sem, ↓reduceIte, Nat.reduceLT, Nat.reduceEqDiff, Nat.reduceAdd, Nat.reduceSub, Nat.reduceMul, Nat.reduceLeDiff, reduceCtorEq, Int.reduceLE, Int.reduceLT, Int.reduceNeg, Int.reduceToNat, Nat.reduceSubDiff, Nat.reducePow, f1]
    exact again' (α := Nat) 2 (by decide) (by decide) rfl rfl
  · simp -implicitDefEqProofs (disch := first | omega | (simp only [go_sem, ↓reduceIte, reduceCtorEq, Int.lt_irrefl]; first | done | omega)) only [go_sem, ↓reduceIte, Nat.reduceLT, Nat.reduceEqDiff, Nat.reduceAdd, Nat.reduceSub, Nat.reduceMul, Nat.reduceLeDiff, reduceCtorEq, Int.reduceLE, Int.reduceLT, Int.reduceNeg, Int.reduceToNat, Nat.reduceSubDiff, Nat.reducePow, Int.lt_irrefl]
    rcases (by omega : a.length + b.length = 0 ∨ 1 ≤ a.length + b.length) with h0 | h0
    · have ha : a = [] := List.eq_nil_of_length_eq_zero (by omega)
      have hb : b = [] := List.eq_nil_of_length_eq_zero (by omega)
      subst ha; subst hb
      simp -implicitDefEqProofs (disch := first | omega | (simp only [go_sem, ↓reduceIte, reduceCtorEq]; first | done | omega)) only [go_sem, ↓reduceIte, Nat.reduceLT, Nat.reduceEqDiff, Nat.reduceAdd, Nat.reduceSub, Nat.reduceMul, Nat.reduceLeDiff, reduceCtorEq, Int.reduceLE, Int.reduceLT, Int.reduceNeg, Int.reduceToNat, Nat.reduceSubDiff, Nat.reducePow]
      refine callP_q (q_slices_Grow_nil M) ?_
      simp -implicitDefEqProofs (disch := first | omega | (simp only [go_sem, ↓reduceIte, reduceCtorEq]; first | done | omega)) only [go_sem, ↓reduceIte, Nat.reduceLT, Nat.reduceEqDiff, Nat.reduceAdd, Nat.reduceSub, Nat.reduceMul, Nat.reduceLeDiff, reduceCtorEq, Int.reduceLE, Int.reduceLT, Int.reduceNeg, Int.reduceToNat, Nat.reduceSubDiff, Nat.reducePow]
      refine loop_mk (α := Nat) 0 (fun k => k ≤ 2) (fun k => if k = 0 then M else M ++ [.row true 2 (k - 1) []]) (fun k => [(6, if k = 0 then PV.nilS else .os M.length (k - 1) 0 0), (25, .fs [.fs [], .fs []]), (26, .I 2), (27, .I k)]) (fun k => 2 - k) (by omega) rfl rfl ?_
      intro k hk
      rcases (by omega : k = 0 ∨ k = 1 ∨ k = 2) with rfl | rfl | rfl
      · simp -implicitDefEqProofs (disch := first | omega | (simp only [go_sem, ↓reduceIte, reduceCtorEq, appO_nil0]; first | done | omega)) only [go_sem, ↓reduceIte, Nat.reduceLT, Nat.reduceEqDiff, Nat.reduceAdd, Nat.reduceSub, Nat.reduceMul, Nat.reduceLeDiff, reduceCtorEq, Int.reduceLE, Int.reduceLT, Int.reduceNeg, Int.reduceToNat, Nat.reduceSubDiff, Nat.reducePow, appO_nil0]
        exact again' (α := Nat) 1 (by decide) (by decide) rfl rfl
      · simp -implicitDefEqProofs (disch := first | omega | (simp only [go_sem, ↓reduceIte, reduceCtorEq, appR_nil0]; first | done | omega)) only [go_sem, ↓reduceIte, Nat.reduceLT, Nat.reduceEqDiff, Nat.reduceAdd, Nat.reduceSub, Nat.reduceMul, Nat.reduceLeDiff, reduceCtorEq, Int.reduceLE, Int.reduceLT, Int.reduceNeg, Int.reduceToNat, Nat.reduceSubDiff, Nat.reducePow, appR_nil0]
        exact again' (α := Nat) 2 (by decide) (by decide) rfl rfl
      · simp -implicitDefEqProofs (disch := first | omega | (simp only [go_sem, ↓reduceIte, reduceCtorEq]; first | done | omega)) only [go_sem, ↓reduceIte, Nat.reduceLT, Nat.reduceEqDiff, Nat.reduceAdd, Nat.reduceSub, Nat.reduceMul, Nat.reduceLeDiff, reduceCtorEq, Int.reduceLE, Int.reduceLT, Int.reduceNeg, Int.reduceToNat, Nat.reduceSubDiff, Nat.reducePow]
        (first | refine post_fin ret_ok hM rfl ?_ ?_ | refine post_fin0 ret_ok hM rfl ?_ ?_ | refine post_fin normal_ok hM rfl ?_ ?_ | refine post_fin0 normal_ok hM rfl ?_ ?_)
        · simp -implicitDefEqProofs (disch := first | omega | (simp only [go_sem, ↓reduceIte, reduceCtorEq]; first | done | omega)) only [go_sem, ↓reduceIte, Nat.reduceLT, Nat.reduceEqDiff, Nat.reduceAdd, Nat.reduceSub, Nat.reduceMul, Nat.reduceLeDiff, reduceCtorEq, Int.reduceLE, Int.reduceLT, Int.reduceNeg, Int.reduceToNat, Nat.reduceSubDiff, Nat.reducePow]
        · (simp only [go_sem, ↓reduceIte, Nat.reduceLT, Nat.reduceEqDiff, Nat.reduceAdd, Nat.reduceSub, Nat.reduceMul, Nat.reduceLeDiff, reduceCtorEq, Int.reduceLE, Int.reduceLT, Int.reduceNeg, Int.reduceToNat, Nat.reduceSubDiff, Nat.reducePow] <;> first | done | omega)
    · have e1 : (a.length : Int) + (b.length : Int) = ((a.length + b.length : Nat) : Int) := by omega
      rw [e1]
      refine callP_l (q_slices_Grow _ h0 (by omega) M) ?_
      have oka := encRev_ok a
      have okb := encRev_ok b
      simp -implicitDefEqProofs (disch := first | omega | (simp only [go_sem, ↓reduceIte, reduceCtorEq]; first | done | omega)) only [go_sem, ↓reduceIte, Nat.reduceLT, Nat.reduceEqDiff, Nat.reduceAdd, Nat.reduceSub, Nat.reduceMul, Nat.reduceLeDiff, reduceCtorEq, Int.reduceLE, Int.reduceLT, Int.reduceNeg, Int.reduceToNat, Nat.reduceSubDiff, Nat.reducePow]
      refine loop_mk (α := Nat) 0 (fun k => k ≤ 2) (fun k => M ++ [.row true 2 k (if k = 0 then List.replicate (a.length + b.length) zRev else if k = 1 then a.map encRev else a.map encRev ++ b.map encRev)]) (fun k => [(6, .os M.length k 0 (if k = 0 then 0 else if k = 1 then a.length else a.length + b.length)), (25, .fs [.fs (a.map encRev), .fs (b.map encRev)]), (26, .I 2), (27, .I k)]) (fun k => 2 - k) (by omega) rfl rfl ?_
      intro k hk
      rcases (by omega : k = 0 ∨ k = 1 ∨ k = 2) with rfl | rfl | rfl
      · have hc := appR_cut (M := M ++ [.row true 2 0 (List.replicate (a.length + b.length) zRev)]) (k := 2) (bytes := 16) (i := M.length) (ver := 0) (len := 0) (xs := List.replicate (a.length + b.length) zRev) (ys := a.map encRev) (by omega) oka (by omega) (by omega) (by simp; omega)
        simp only [List.take_zero, List.nil_append, List.length_map, Nat.zero_add] at hc
        simp -implicitDefEqProofs (disch := first | omega | (simp only [go_sem, ↓reduceIte, reduceCtorEq, hc]; first | done | omega)) only [go_sem, ↓reduceIte, Nat.reduceLT, Nat.reduceEqDiff, Nat.reduceAdd, Nat.reduceSub, Nat.reduceMul, Nat.reduceLeDiff, reduceCtorEq, Int.reduceLE, Int.reduceLT, Int.reduceNeg, Int.reduceToNat, Nat.reduceSubDiff, Nat.reducePow, hc]
        refine again' (α := Nat) 1 ?_ ?_ ?_ ?_
        · decide
        · decide
        · rfl
        · rfl
      · simp -implicitDefEqProofs (disch := first | omega | (simp only [go_sem, ↓reduceIte, reduceCtorEq, oka, okb]; first | done | omega)) only [go_sem, ↓reduceIte, Nat.reduceLT, Nat.reduceEqDiff, Nat.reduceAdd, Nat.reduceSub, Nat.reduceMul, Nat.reduceLeDiff, reduceCtorEq, Int.reduceLE, Int.reduceLT, Int.reduceNeg, Int.reduceToNat, Nat.reduceSubDiff, Nat.reducePow, oka, okb]
        refine again' (α := Nat) 2 ?_ ?_ ?_ ?_
        · decide
        · decide
        · rfl
        · rfl
      · simp -implicitDefEqProofs (disch := first | omega | (simp only [go_sem, ↓reduceIte, reduceCtorEq, oka, okb]; first | done | omega)) only [go_sem, ↓reduceIte, Nat.reduceLT, Nat.reduceEqDiff, Nat.reduceAdd, Nat.reduceSub, Nat.reduceMul, Nat.reduceLeDiff, reduceCtorEq, Int.reduceLE, Int.reduceLT, Int.reduceNeg, Int.reduceToNat, Nat.reduceSubDiff, Nat.reducePow, oka, okb]
        (first | refine post_fin ret_ok hM rfl ?_ ?_ | refine post_fin0 ret_ok hM rfl ?_ ?_ | refine post_fin normal_ok hM rfl ?_ ?_ | refine post_fin0 normal_ok hM rfl ?_ ?_)
        · simp -implicitDefEqProofs (disch := first | omega | (simp only [go_sem, ↓reduceIte, reduceCtorEq]; first | done | omega)) only [go_sem, ↓reduceIte, Nat.reduceLT, Nat.reduceEqDiff, Nat.reduceAdd, Nat.reduceSub, Nat.reduceMul, Nat.reduceLeDiff, reduceCtorEq, Int.reduceLE, Int.reduceLT, Int.reduceNeg, Int.reduceToNat, Nat.reduceSubDiff, Nat.reducePow]
          simp
        · (simp only [go_sem, ↓reduceIte, Nat.reduceLT, Nat.reduceEqDiff, Nat.reduceAdd, Nat.reduceSub, Nat.reduceMul, Nat.reduceLeDiff, reduceCtorEq, Int.reduceLE, Int.reduceLT, Int.reduceNeg, Int.reduceToNat, Nat.reduceSubDiff, Nat.reducePow, encRev_low] <;> first | done | omega)
end
end Go.Nac.L2
set_option linter.unusedSimpArgs false
set_option linter.unusedVariables false
set_option linter.unnecessarySimpa false
set_option maxRecDepth 10000
namespace Go.Nac.L2
attribute [local congr] b1_congr b2_congr Wp_congr wpOps_congr thenK_congr blockK_congr gK_congr cK_congr
section
variable {X : FuncId → List PV → PV → Prop}
theorem shR_at (s : Int) (r : Rev) : (shR s r).at_ = r.at_ + s := rfl
theorem shR_ld (s : Int) (r : Rev) : (shR s r).ld = r.ld := rfl
theorem q_load_joined (a b : List Rev) (s : Int) (ha : chkRevs a = 0) (hb : chkRevs b = 0) (hs : 0 ≤ s ∧ s ≤ 40000) : Q X 66 [.fs (a.map encRev), .fs (b.map encRev), .I s] (.tup [.fs ((joinRes a b s).map encRev), .I (joinErr a b s)]) := by
  intro M
  have hal := (chkRevs_zero.1 ha).1
  have hbl := (chkRevs_zero.1 hb).1
  have hag := turns_good _ _ _ (chkRevs_zero.1 ha).2
  have hbg := turns_good _ _ _ (chkRevs_zero.1 hb).2
  have okb := encRev_ok b
  (refine ACall_fn (cf := L2.c66) rfl rfl fun hM hA => ?_; simp only [L2.c66]; rw [mk3 _ (by decide)]; simp -implicitDefEqProofs (disch := first | omega | (simp only [go_sem, ↓reduceIte, reduceCtorEq, r_capn, capnV_nil, r_appz, appzO_some, r_copy, copyO_os, copyR_all, okb]; first | done | omega)) only [go_sem, ↓reduceIte, Nat.reduceLT, Nat.reduceEqDiff, Nat.reduceAdd, Nat.reduceSub, Nat.reduceMul, Nat.reduceLeDiff, reduceCtorEq, Int.reduceLE, Int.reduceLT, Int.reduceNeg, Int.reduceToNat, Nat.reduceSubDiff, Nat.reducePow, r_capn, capnV_nil, r_appz, appzO_some, r_copy, copyO_os, copyR_all, okb])
  have hfar : ∀ k, k ≤ b.length → farB b s = ((b.take k).any (fun r => decide (¬ rng (r.at_ + s) 0 39999 = 0)) || (b.drop k).any (fun r => decide (¬ rng (r.at_ + s) 0 39999 = 0))) := by
    intro k _
    rw [← List.any_append, List.take_append_drop]; rfl
  refine loop_mk (α := Nat) 0 (fun k => k ≤ b.length ∧ (b.take k).any (fun r => decide (¬ rng (r.at_ + s) 0 39999 = 0)) = false) (fun k => M ++ [.row true 2 0 ((shK b s k).map encRev)])
    (fun k => [(0, .fs (a.map encRev)), (2, .I s), (8, .os M.length 0 0 b.length), (17, .I b.length), (18, .I k)]) (fun k => b.length - k) ⟨Nat.zero_le _, rfl⟩ (by simp [shK]) rfl ?_
  rintro k ⟨hk, hno⟩
  have hlk := shK_len b s k
  by_cases hlt : k < b.length
  · obtain ⟨x, h1⟩ : ∃ x, b[k]? = some x := ⟨_, List.getElem?_eq_getElem hlt⟩
    have h2 := shK_get (s := s) h1
    have h3 := shK_set (s := s) h1
    have hx := (hbg x (List.mem_of_getElem? h1)).1
    have h4 : (shK b s k).length ≤ 1048576 := by omega
    have h5 := hfar k hk
    rw [hno, Bool.false_or, List.drop_eq_getElem_cons hlt, (List.getElem?_eq_some_iff.1 h1).2, List.any_cons] at h5
    have h6 : (b.take (k + 1)).any (fun r => decide (¬ rng (r.at_ + s) 0 39999 = 0)) = decide (¬ rng (x.at_ + s) 0 39999 = 0) := by
      have := take_snoc (f := id) h1
      simp only [List.map_id] at this
      rw [this, List.any_append, hno]; simp
    generalize shK b s k = o at h2 h3 hlk h4 ⊢
    have h7 : ((o.map encRev).set k (PV.agg [.I (x.at_ + s), .I x.ld]))[k]? = some (PV.agg [.I (x.at_ + s), .I x.ld]) := by rw [List.getElem?_set_self (by simp; omega)]
    simp -implicitDefEqProofs (disch := first | omega | (simp only [go_sem, ↓reduceIte, reduceCtorEq, hlt, h1, h2, hlk, encRev_cells, encRev_eq, h7, List.length_set]; first | done | omega)) only [go_sem, ↓reduceIte, Nat.reduceLT, Nat.reduceEqDiff, Nat.reduceAdd, Nat.reduceSub, Nat.reduceMul, Nat.reduceLeDiff, reduceCtorEq, Int.reduceLE, Int.reduceLT, Int.reduceNeg, Int.reduceToNat, Nat.reduceSubDiff, Nat.reducePow, hlt, h1, h2, hlk, encRev_cells, encRev_eq, h7, List.length_set]
    refine callP_q (q_load_checkIndex _ _) ?_
    simp -implicitDefEqProofs (disch := first | omega | (simp only [go_sem, ↓reduceIte, reduceCtorEq, hlk]; first | done | omega)) only [go_sem, ↓reduceIte, Nat.reduceLT, Nat.reduceEqDiff, Nat.reduceAdd, Nat.reduceSub, Nat.reduceMul, Nat.reduceLeDiff, reduceCtorEq, Int.reduceLE, Int.reduceLT, Int.reduceNeg, Int.reduceToNat, Nat.reduceSubDiff, Nat.reducePow, hlk]
    clear ha hb
    refine cK_cases ?_ ?_ <;> intro hc <;> (try simp only [decide_eq_true_eq, decide_eq_false_iff_not, Classical.not_not, Bool.not_eq_true, Bool.not_eq_true', Bool.not_eq_false', Bool.false_or, Bool.or_false, Bool.true_or, Bool.or_true, Bool.false_and, Bool.and_false, Bool.true_and, Bool.and_true] at hc) <;> simp -implicitDefEqProofs (disch := first | omega | (simp only [go_sem, ↓reduceIte, reduceCtorEq, hlk, hc]; first | done | omega)) only [go_sem, ↓reduceIte, Nat.reduceLT, Nat.reduceEqDiff, Nat.reduceAdd, Nat.reduceSub, Nat.reduceMul, Nat.reduceLeDiff, reduceCtorEq, Int.reduceLE, Int.reduceLT, Int.reduceNeg, Int.reduceToNat, Nat.reduceSubDiff, Nat.reducePow, hlk, hc]
    · rw [decide_eq_true hc, Bool.true_or] at h5
      (first | refine post_fin ret_ok hM rfl ?_ ?_ | refine post_fin0 ret_ok hM rfl ?_ ?_ | refine post_fin normal_ok hM rfl ?_ ?_ | refine post_fin0 normal_ok hM rfl ?_ ?_)
      · simp -implicitDefEqProofs (disch := first | omega | (simp only [go_sem, ↓reduceIte, reduceCtorEq]; first | done | omega)) only [go_sem, ↓reduceIte, Nat.reduceLT, Nat.reduceEqDiff, Nat.reduceAdd, Nat.reduceSub, Nat.reduceMul, Nat.reduceLeDiff, reduceCtorEq, Int.reduceLE, Int.reduceLT, Int.reduceNeg, Int.reduceToNat, Nat.reduceSubDiff, Nat.reducePow]
        simp [joinRes, joinErr, h5]
      · (simp only [go_sem, ↓reduceIte, Nat.reduceLT, Nat.reduceEqDiff, Nat.reduceAdd, Nat.reduceSub, Nat.reduceMul, Nat.reduceLeDiff, reduceCtorEq, Int.reduceLE, Int.reduceLT, Int.reduceNeg, Int.reduceToNat, Nat.reduceSubDiff, Nat.reducePow, encRev_low] <;> first | done | omega)
    · exact again' (k + 1) ⟨by omega, by rw [h6]; simp [hc]⟩ (by omega) (by rw [← h3]; simp [List.map_set, encRev, shR]) (by rfl)
  · have hkb : k = b.length := by omega
    subst hkb
    have hf : farB b s = false := by rw [hfar _ (Nat.le_refl _), hno]; simp
    rw [shK_all] at hlk ⊢
    rcases (by omega : a.length = 0 ∨ 1 ≤ a.length) with h0 | h0
    · have f1 : ¬ (0 : Int) < a.length := by omega
      have hn : nearB a b s = false := by rw [List.eq_nil_of_length_eq_zero h0]; rfl
      have hj : joinErr a b s = 0 := by simp [joinErr, hf, hn]
      simp -implicitDefEqProofs (disch := first | omega | (simp only [go_sem, ↓reduceIte, reduceCtorEq, hlt, f1, hlk]; first | done | omega)) only [go_sem, ↓reduceIte, Nat.reduceLT, Nat.reduceEqDiff, Nat.reduceAdd, Nat.reduceSub, Nat.reduceMul, Nat.reduceLeDiff, reduceCtorEq, Int.reduceLE, Int.reduceLT, Int.reduceNeg, Int.reduceToNat, Nat.reduceSubDiff, Nat.reducePow, hlt, f1, hlk]
      ((have hmm : List.map (fun x => encRev (shR s x)) b = (b.map (shR s)).map encRev := (by simp)); rw [hmm]; refine callP_q (q_slices_Concat a (b.map (shR s)) (by simp; omega) _) ?_; simp -implicitDefEqProofs (disch := first | omega | (simp only [go_sem, ↓reduceIte, reduceCtorEq]; first | done | omega)) only [go_sem, ↓reduceIte, Nat.reduceLT, Nat.reduceEqDiff, Nat.reduceAdd, Nat.reduceSub, Nat.reduceMul, Nat.reduceLeDiff, reduceCtorEq, Int.reduceLE, Int.reduceLT, Int.reduceNeg, Int.reduceToNat, Nat.reduceSubDiff, Nat.reducePow]; refine callP_q (q_slices_Values _ _) ?_; simp -implicitDefEqProofs (disch := first | omega | (simp only [go_sem, ↓reduceIte, reduceCtorEq]; first | done | omega)) only [go_sem, ↓reduceIte, Nat.reduceLT, Nat.reduceEqDiff, Nat.reduceAdd, Nat.reduceSub, Nat.reduceMul, Nat.reduceLeDiff, reduceCtorEq, Int.reduceLE, Int.reduceLT, Int.reduceNeg, Int.reduceToNat, Nat.reduceSubDiff, Nat.reducePow]; refine callP_q (q_load_reversals (by simp; omega) (y_slices_Values _ (by simp; omega)) _) ?_; simp -implicitDefEqProofs (disch := first | omega | (simp only [go_sem, ↓reduceIte, reduceCtorEq]; first | done | omega)) only [go_sem, ↓reduceIte, Nat.reduceLT, Nat.reduceEqDiff, Nat.reduceAdd, Nat.reduceSub, Nat.reduceMul, Nat.reduceLeDiff, reduceCtorEq, Int.reduceLE, Int.reduceLT, Int.reduceNeg, Int.reduceToNat, Nat.reduceSubDiff, Nat.reducePow]; ((first | refine post_fin ret_ok hM rfl ?_ ?_ | refine post_fin0 ret_ok hM rfl ?_ ?_ | refine post_fin normal_ok hM rfl ?_ ?_ | refine post_fin0 normal_ok hM rfl ?_ ?_) <;> first | (simp only [go_sem, ↓reduceIte, Nat.reduceLT, Nat.reduceEqDiff, Nat.reduceAdd, Nat.reduceSub, Nat.reduceMul, Nat.reduceLeDiff, reduceCtorEq, Int.reduceLE, Int.reduceLT, Int.reduceNeg, Int.reduceToNat, Nat.reduceSubDiff, Nat.reducePow, encRev_low] <;> first | done | omega) | (simp -implicitDefEqProofs (disch := first | omega | (simp only [go_sem, ↓reduceIte, reduceCtorEq]; first | done | omega)) only [go_sem, ↓reduceIte, Nat.reduceLT, Nat.reduceEqDiff, Nat.reduceAdd, Nat.reduceSub, Nat.reduceMul, Nat.reduceLeDiff, reduceCtorEq, Int.reduceLE, Int.reduceLT, Int.reduceNeg, Int.reduceToNat, Nat.reduceSubDiff, Nat.reducePow]; simp [joinRes, hj])))
    · have f1 : (0 : Int) < a.length := by omega
      rcases (by omega : b.length = 0 ∨ 1 ≤ b.length) with h0b | h0b
      · have f2 : ¬ (0 : Int) < b.length := by omega
        have hn : nearB a b s = false := by rw [List.eq_nil_of_length_eq_zero h0b]; unfold nearB; cases a.getLast? <;> rfl
        have hj : joinErr a b s = 0 := by simp [joinErr, hf, hn]
        simp -implicitDefEqProofs (disch := first | omega | (simp only [go_sem, ↓reduceIte, reduceCtorEq, hlt, f1, f2, hlk]; first | done | omega)) only [go_sem, ↓reduceIte, Nat.reduceLT, Nat.reduceEqDiff, Nat.reduceAdd, Nat.reduceSub, Nat.reduceMul, Nat.reduceLeDiff, reduceCtorEq, Int.reduceLE, Int.reduceLT, Int.reduceNeg, Int.reduceToNat, Nat.reduceSubDiff, Nat.reducePow, hlt, f1, f2, hlk]
        ((have hmm : List.map (fun x => encRev (shR s x)) b = (b.map (shR s)).map encRev := (by simp)); rw [hmm]; refine callP_q (q_slices_Concat a (b.map (shR s)) (by simp; omega) _) ?_; simp -implicitDefEqProofs (disch := first | omega | (simp only [go_sem, ↓reduceIte, reduceCtorEq]; first | done | omega)) only [go_sem, ↓reduceIte, Nat.reduceLT, Nat.reduceEqDiff, Nat.reduceAdd, Nat.reduceSub, Nat.reduceMul, Nat.reduceLeDiff, reduceCtorEq, Int.reduceLE, Int.reduceLT, Int.reduceNeg, Int.reduceToNat, Nat.reduceSubDiff, Nat.reducePow]; refine callP_q (q_slices_Values _ _) ?_; simp -implicitDefEqProofs (disch := first | omega | (simp only [go_sem, ↓reduceIte, reduceCtorEq]; first | done | omega)) only [go_sem, ↓reduceIte, Nat.reduceLT, Nat.reduceEqDiff, Nat.reduceAdd, Nat.reduceSub, Nat.reduceMul, Nat.reduceLeDiff, reduceCtorEq, Int.reduceLE, Int.reduceLT, Int.reduceNeg, Int.reduceToNat, Nat.reduceSubDiff, Nat.reducePow]; refine callP_q (q_load_reversals (by simp; omega) (y_slices_Values _ (by simp; omega)) _) ?_; simp -implicitDefEqProofs (disch := first | omega | (simp only [go_sem, ↓reduceIte, reduceCtorEq]; first | done | omega)) only [go_sem, ↓reduceIte, Nat.reduceLT, Nat.reduceEqDiff, Nat.reduceAdd, Nat.reduceSub, Nat.reduceMul, Nat.reduceLeDiff, reduceCtorEq, Int.reduceLE, Int.reduceLT, Int.reduceNeg, Int.reduceToNat, Nat.reduceSubDiff, Nat.reducePow]; ((first | refine post_fin ret_ok hM rfl ?_ ?_ | refine post_fin0 ret_ok hM rfl ?_ ?_ | refine post_fin normal_ok hM rfl ?_ ?_ | refine post_fin0 normal_ok hM rfl ?_ ?_) <;> first | (simp only [go_sem, ↓reduceIte, Nat.reduceLT, Nat.reduceEqDiff, Nat.reduceAdd, Nat.reduceSub, Nat.reduceMul, Nat.reduceLeDiff, reduceCtorEq, Int.reduceLE, Int.reduceLT, Int.reduceNeg, Int.reduceToNat, Nat.reduceSubDiff, Nat.reducePow, encRev_low] <;> first | done | omega) | (simp -implicitDefEqProofs (disch := first | omega | (simp only [go_sem, ↓reduceIte, reduceCtorEq]; first | done | omega)) only [go_sem, ↓reduceIte, Nat.reduceLT, Nat.reduceEqDiff, Nat.reduceAdd, Nat.reduceSub, Nat.reduceMul, Nat.reduceLeDiff, reduceCtorEq, Int.reduceLE, Int.reduceLT, Int.reduceNeg, Int.reduceToNat, Nat.reduceSubDiff, Nat.reducePow]; simp [joinRes, hj])))
      · have f2 : (0 : Int) < b.length := by omega
        have e1 : (a.length : Int) - 1 = ((a.length - 1 : Nat) : Int) := by omega
        obtain ⟨p, g1⟩ : ∃ x, a[a.length - 1]? = some x := ⟨_, List.getElem?_eq_getElem (by omega)⟩
        obtain ⟨q, g2⟩ : ∃ x, b[0]? = some x := ⟨_, List.getElem?_eq_getElem (by omega)⟩
        have hnb : nearB a b s = decide (q.at_ + s ≤ p.at_) := by
          unfold nearB
          rw [List.getLast?_eq_getElem?, g1, List.head?_eq_getElem?, g2]
        have hb0 : 0 < b.length := h0b
        simp -implicitDefEqProofs (disch := first | omega | (simp only [go_sem, ↓reduceIte, reduceCtorEq, hlt, f1, f2, hlk, e1, g1, g2, encRev_cells, shR_at, shR_ld, hb0]; first | done | omega)) only [go_sem, ↓reduceIte, Nat.reduceLT, Nat.reduceEqDiff, Nat.reduceAdd, Nat.reduceSub, Nat.reduceMul, Nat.reduceLeDiff, reduceCtorEq, Int.reduceLE, Int.reduceLT, Int.reduceNeg, Int.reduceToNat, Nat.reduceSubDiff, Nat.reducePow, hlt, f1, f2, hlk, e1, g1, g2, encRev_cells, shR_at, shR_ld, hb0]
        refine cK_cases ?_ ?_ <;> intro hc <;> (try simp only [decide_eq_true_eq, decide_eq_false_iff_not, Classical.not_not, Bool.not_eq_true, Bool.not_eq_true', Bool.not_eq_false', Bool.false_or, Bool.or_false, Bool.true_or, Bool.or_true, Bool.false_and, Bool.and_false, Bool.true_and, Bool.and_true] at hc) <;> simp -implicitDefEqProofs (disch := first | omega | (simp only [go_sem, ↓reduceIte, reduceCtorEq, hlt, f1, f2, hlk, e1, g1, g2, encRev_cells, shR_at, shR_ld, hb0, hc]; first | done | omega)) only [go_sem, ↓reduceIte, Nat.reduceLT, Nat.reduceEqDiff, Nat.reduceAdd, Nat.reduceSub, Nat.reduceMul, Nat.reduceLeDiff, reduceCtorEq, Int.reduceLE, Int.reduceLT, Int.reduceNeg, Int.reduceToNat, Nat.reduceSubDiff, Nat.reducePow, hlt, f1, f2, hlk, e1, g1, g2, encRev_cells, shR_at, shR_ld, hb0, hc]
        · have hn : nearB a b s = true := by rw [hnb]; simp [hc]
          have hj : joinErr a b s = 11 := by simp [joinErr, hf, hn]
          (first | refine post_fin ret_ok hM rfl ?_ ?_ | refine post_fin0 ret_ok hM rfl ?_ ?_ | refine post_fin normal_ok hM rfl ?_ ?_ | refine post_fin0 normal_ok hM rfl ?_ ?_)
          · simp -implicitDefEqProofs (disch := first | omega | (simp only [go_sem, ↓reduceIte, reduceCtorEq]; first | done | omega)) only [go_sem, ↓reduceIte, Nat.reduceLT, Nat.reduceEqDiff, Nat.reduceAdd, Nat.reduceSub, Nat.reduceMul, Nat.reduceLeDiff, reduceCtorEq, Int.reduceLE, Int.reduceLT, Int.reduceNeg, Int.reduceToNat, Nat.reduceSubDiff, Nat.reducePow]
            simp [joinRes, hj]
          · (simp only [go_sem, ↓reduceIte, Nat.reduceLT, Nat.reduceEqDiff, Nat.reduceAdd, Nat.reduceSub, Nat.reduceMul, Nat.reduceLeDiff, reduceCtorEq, Int.reduceLE, Int.reduceLT, Int.reduceNeg, Int.reduceToNat, Nat.reduceSubDiff, Nat.reducePow, encRev_low] <;> first | done | omega)
        · have hn : nearB a b s = false := by rw [hnb]; simp [hc]
          have hj : joinErr a b s = 0 := by simp [joinErr, hf, hn]
          ((have hmm : List.map (fun x => encRev (shR s x)) b = (b.map (shR s)).map encRev := (by simp)); rw [hmm]; refine callP_q (q_slices_Concat a (b.map (shR s)) (by simp; omega) _) ?_; simp -implicitDefEqProofs (disch := first | omega | (simp only [go_sem, ↓reduceIte, reduceCtorEq]; first | done | omega)) only [go_sem, ↓reduceIte, Nat.reduceLT, Nat.reduceEqDiff, Nat.reduceAdd, Nat.reduceSub, Nat.reduceMul, Nat.reduceLeDiff, reduceCtorEq, Int.reduceLE, Int.reduceLT, Int.reduceNeg, Int.reduceToNat, Nat.reduceSubDiff, Nat.reducePow]; refine callP_q (q_slices_Values _ _) ?_; simp -implicitDefEqProofs (disch := first | omega | (simp only [go_sem, ↓reduceIte, reduceCtorEq]; first | done | omega)) only [go_sem, ↓reduceIte, Nat.reduceLT, Nat.reduceEqDiff, Nat.reduceAdd, Nat.reduceSub, Nat.reduceMul, Nat.reduceLeDiff, reduceCtorEq, Int.reduceLE, Int.reduceLT, Int.reduceNeg, Int.reduceToNat, Nat.reduceSubDiff, Nat.reducePow]; refine callP_q (q_load_reversals (by simp; omega) (y_slices_Values _ (by simp; omega)) _) ?_; simp -implicitDefEqProofs (disch := first | omega | (simp only [go_sem, ↓reduceIte, reduceCtorEq]; first | done | omega)) only [go_sem, ↓reduceIte, Nat.reduceLT, Nat.reduceEqDiff, Nat.reduceAdd, Nat.reduceSub, Nat.reduceMul, Nat.reduceLeDiff, reduceCtorEq, Int.reduceLE, Int.reduceLT, Int.reduceNeg, Int.reduceToNat, Nat.reduceSubDiff, Nat.reducePow]; ((first | refine post_fin ret_ok hM rfl ?_ ?_ | refine post_fin0 ret_ok hM rfl ?_ ?_ | refine post_fin normal_ok hM rfl ?_ ?_ | refine post_fin0 normal_ok hM rfl ?_ ?_) <;> first | (simp only [go_sem, ↓reduceIte, Nat.reduceLT, Nat.reduceEqDiff, Nat.reduceAdd, Nat.reduceSub, Nat.reduceMul, Nat.reduceLeDiff, reduceCtorEq, Int.reduceLE, Int.reduceLT, Int.reduceNeg, Int.reduceToNat, Nat.reduceSubDiff, Nat.reducePow, encRev_low] <;> first | done | omega) | (simp -implicitDefEqProofs (disch := first | omega | (simp only [go_sem, ↓reduceIte, reduceCtorEq]; first | done | omega)) only [go_sem, ↓reduceIte, Nat.reduceLT, Nat.reduceEqDiff, Nat.reduceAdd, Nat.reduceSub, Nat.reduceMul, Nat.reduceLeDiff, reduceCtorEq, Int.reduceLE, Int.reduceLT, Int.reduceNeg, Int.reduceToNat, Nat.reduceSubDiff, Nat.reducePow]; simp [joinRes, hj])))
theorem at_mono : ∀ (l : List Rev) (pp p : Option Rev), turnsFrom pp p l → ∀ a z, l.head? = some a → l.getLast? = some z → a.at_ ≤ z.at_
  | [], _, _, _, a, z, h, _ => by simp at h
  | [x], _, _, _, a, z, h, h' => by simp at h h'; subst h; subst h'; omega
  | x :: y :: r, pp, p, ht, a, z, h, h' => by
    simp at h; subst h
    have h2 := at_mono (y :: r) _ _ ht.2.2 y z rfl (by simpa using h')
    have h3 := (ht.2.2.2.1 x rfl).1
    omega
theorem q_load_Closed (l : List Rev) (hl : l.length ≤ 400000) : Q X 31 [.fs (l.map encRev)] (.tup [.fs ((closeRes l).map encCyc), .I (closeErr l)]) := by
  intro M
  (refine ACall_fn (cf := L2.c31) rfl rfl fun hM hA => ?_; simp only [L2.c31]; rw [mk1 _ (by decide)]; simp -implicitDefEqProofs (disch := first | omega | (simp only [go_sem, ↓reduceIte, reduceCtorEq]; first | done | omega)) only [go_sem, ↓reduceIte, Nat.reduceLT, Nat.reduceEqDiff, Nat.reduceAdd, Nat.reduceSub, Nat.reduceMul, Nat.reduceLeDiff, reduceCtorEq, Int.reduceLE, Int.reduceLT, Int.reduceNeg, Int.reduceToNat, Nat.reduceSubDiff, Nat.reducePow])
  refine callP_q (q_load_CheckReversals l (by omega) _) ?_
  simp -implicitDefEqProofs (disch := first | omega | (simp only [go_sem, ↓reduceIte, reduceCtorEq]; first | done | omega)) only [go_sem, ↓reduceIte, Nat.reduceLT, Nat.reduceEqDiff, Nat.reduceAdd, Nat.reduceSub, Nat.reduceMul, Nat.reduceLeDiff, reduceCtorEq, Int.reduceLE, Int.reduceLT, Int.reduceNeg, Int.reduceToNat, Nat.reduceSubDiff, Nat.reducePow]
  refine cK_cases ?_ ?_ <;> intro hc <;> (try simp only [decide_eq_true_eq, decide_eq_false_iff_not, Classical.not_not, Bool.not_eq_true, Bool.not_eq_true', Bool.not_eq_false', Bool.false_or, Bool.or_false, Bool.true_or, Bool.or_true, Bool.false_and, Bool.and_false, Bool.true_and, Bool.and_true] at hc) <;> simp -implicitDefEqProofs (disch := first | omega | (simp only [go_sem, ↓reduceIte, reduceCtorEq, hc]; first | done | omega)) only [go_sem, ↓reduceIte, Nat.reduceLT, Nat.reduceEqDiff, Nat.reduceAdd, Nat.reduceSub, Nat.reduceMul, Nat.reduceLeDiff, reduceCtorEq, Int.reduceLE, Int.reduceLT, Int.reduceNeg, Int.reduceToNat, Nat.reduceSubDiff, Nat.reducePow, hc]
  · (first | refine post_fin ret_ok hM rfl ?_ ?_ | refine post_fin0 ret_ok hM rfl ?_ ?_ | refine post_fin normal_ok hM rfl ?_ ?_ | refine post_fin0 normal_ok hM rfl ?_ ?_)
    · simp -implicitDefEqProofs (disch := first | omega | (simp only [go_sem, ↓reduceIte, reduceCtorEq]; first | done | omega)) only [go_sem, ↓reduceIte, Nat.reduceLT, Nat.reduceEqDiff, Nat.reduceAdd, Nat.reduceSub, Nat.reduceMul, Nat.reduceLeDiff, reduceCtorEq, Int.reduceLE, Int.reduceLT, Int.reduceNeg, Int.reduceToNat, Nat.reduceSubDiff, Nat.reducePow]
      simp [closeRes, closeErr, hc]
    · (simp only [go_sem, ↓reduceIte, Nat.reduceLT, Nat.reduceEqDiff, Nat.reduceAdd, Nat.reduceSub, Nat.reduceMul, Nat.reduceLeDiff, reduceCtorEq, Int.reduceLE, Int.reduceLT, Int.reduceNeg, Int.reduceToNat, Nat.reduceSubDiff, Nat.reducePow, encCyc_low] <;> first | done | omega)
  · by_cases h0 : l = []
    · subst h0
      simp -implicitDefEqProofs (disch := first | omega | (simp only [go_sem, ↓reduceIte, reduceCtorEq]; first | done | omega)) only [go_sem, ↓reduceIte, Nat.reduceLT, Nat.reduceEqDiff, Nat.reduceAdd, Nat.reduceSub, Nat.reduceMul, Nat.reduceLeDiff, reduceCtorEq, Int.reduceLE, Int.reduceLT, Int.reduceNeg, Int.reduceToNat, Nat.reduceSubDiff, Nat.reducePow]
      (first | refine post_fin ret_ok hM rfl ?_ ?_ | refine post_fin0 ret_ok hM rfl ?_ ?_ | refine post_fin normal_ok hM rfl ?_ ?_ | refine post_fin0 normal_ok hM rfl ?_ ?_)
      · simp -implicitDefEqProofs (disch := first | omega | (simp only [go_sem, ↓reduceIte, reduceCtorEq]; first | done | omega)) only [go_sem, ↓reduceIte, Nat.reduceLT, Nat.reduceEqDiff, Nat.reduceAdd, Nat.reduceSub, Nat.reduceMul, Nat.reduceLeDiff, reduceCtorEq, Int.reduceLE, Int.reduceLT, Int.reduceNeg, Int.reduceToNat, Nat.reduceSubDiff, Nat.reducePow]
        simp [closeRes, closeErr, hc]
      · (simp only [go_sem, ↓reduceIte, Nat.reduceLT, Nat.reduceEqDiff, Nat.reduceAdd, Nat.reduceSub, Nat.reduceMul, Nat.reduceLeDiff, reduceCtorEq, Int.reduceLE, Int.reduceLT, Int.reduceNeg, Int.reduceToNat, Nat.reduceSubDiff, Nat.reducePow, encCyc_low] <;> first | done | omega)
    · have hlen : 1 ≤ l.length := by cases l <;> simp_all
      have f0 : ¬ (l.length : Int) = 0 := by omega
      have e1 : (l.length : Int) - 1 = ((l.length - 1 : Nat) : Int) := by omega
      obtain ⟨p, g1⟩ : ∃ x, l[l.length - 1]? = some x := ⟨_, List.getElem?_eq_getElem (by omega)⟩
      obtain ⟨q, g2⟩ : ∃ x, l[0]? = some x := ⟨_, List.getElem?_eq_getElem (by omega)⟩
      have hcs : closeShift l = p.at_ - q.at_ + 1 := by
        unfold closeShift
        rw [List.getLast?_eq_getElem?, g1, List.head?_eq_getElem?, g2]
      have hch := chkRevs_zero.1 hc
      have hpg := turns_good _ _ _ hch.2 p (List.mem_of_getElem? g1)
      have hqg := turns_good _ _ _ hch.2 q (List.mem_of_getElem? g2)
      have hmon := at_mono _ _ _ hch.2 q p (by rw [List.head?_eq_getElem?, g2]) (by rw [List.getLast?_eq_getElem?, g1])
      unfold goodR at hpg hqg
      simp -implicitDefEqProofs (disch := first | omega | (simp only [go_sem, ↓reduceIte, reduceCtorEq, f0, e1, g1, g2, encRev_cells]; first | done | omega)) only [go_sem, ↓reduceIte, Nat.reduceLT, Nat.reduceEqDiff, Nat.reduceAdd, Nat.reduceSub, Nat.reduceMul, Nat.reduceLeDiff, reduceCtorEq, Int.reduceLE, Int.reduceLT, Int.reduceNeg, Int.reduceToNat, Nat.reduceSubDiff, Nat.reducePow, f0, e1, g1, g2, encRev_cells]
      refine callP_q (q_load_joined l l _ hc hc (by omega) _) ?_
      rw [← hcs]
      clear f0 e1
      simp -implicitDefEqProofs (disch := first | omega | (simp only [go_sem, ↓reduceIte, reduceCtorEq]; first | done | omega)) only [go_sem, ↓reduceIte, Nat.reduceLT, Nat.reduceEqDiff, Nat.reduceAdd, Nat.reduceSub, Nat.reduceMul, Nat.reduceLeDiff, reduceCtorEq, Int.reduceLE, Int.reduceLT, Int.reduceNeg, Int.reduceToNat, Nat.reduceSubDiff, Nat.reducePow]
      have hce : closeErr l = joinErr l l (closeShift l) := by simp [closeErr, hc, h0]
      have hcr : joinErr l l (closeShift l) = 0 → closeRes l = (countOf (joinRes l l (closeShift l))).1 := by intro h; simp [closeRes, hce, h, h0]
      have hcn : ¬ joinErr l l (closeShift l) = 0 → closeRes l = [] := by intro h; simp [closeRes, hce, h]
      have hjl : joinErr l l (closeShift l) = 0 → joinRes l l (closeShift l) = revsOf (l ++ l.map (shR (closeShift l))) := by intro h; simp [joinRes, h]
      refine cK_cases ?_ ?_ <;> intro hc <;> (try simp only [decide_eq_true_eq, decide_eq_false_iff_not, Classical.not_not, Bool.not_eq_true, Bool.not_eq_true', Bool.not_eq_false', Bool.false_or, Bool.or_false, Bool.true_or, Bool.or_true, Bool.false_and, Bool.and_false, Bool.true_and, Bool.and_true] at hc) <;> simp -implicitDefEqProofs (disch := first | omega | (simp only [go_sem, ↓reduceIte, reduceCtorEq, hc]; first | done | omega)) only [go_sem, ↓reduceIte, Nat.reduceLT, Nat.reduceEqDiff, Nat.reduceAdd, Nat.reduceSub, Nat.reduceMul, Nat.reduceLeDiff, reduceCtorEq, Int.reduceLE, Int.reduceLT, Int.reduceNeg, Int.reduceToNat, Nat.reduceSubDiff, Nat.reducePow, hc]
      · (first | refine post_fin ret_ok hM rfl ?_ ?_ | refine post_fin0 ret_ok hM rfl ?_ ?_ | refine post_fin normal_ok hM rfl ?_ ?_ | refine post_fin0 normal_ok hM rfl ?_ ?_)
        · simp -implicitDefEqProofs (disch := first | omega | (simp only [go_sem, ↓reduceIte, reduceCtorEq]; first | done | omega)) only [go_sem, ↓reduceIte, Nat.reduceLT, Nat.reduceEqDiff, Nat.reduceAdd, Nat.reduceSub, Nat.reduceMul, Nat.reduceLeDiff, reduceCtorEq, Int.reduceLE, Int.reduceLT, Int.reduceNeg, Int.reduceToNat, Nat.reduceSubDiff, Nat.reducePow]
          simp [hce, hcn hc]
        · (simp only [go_sem, ↓reduceIte, Nat.reduceLT, Nat.reduceEqDiff, Nat.reduceAdd, Nat.reduceSub, Nat.reduceMul, Nat.reduceLeDiff, reduceCtorEq, Int.reduceLE, Int.reduceLT, Int.reduceNeg, Int.reduceToNat, Nat.reduceSubDiff, Nat.reducePow, encCyc_low] <;> first | done | omega)
      · have hsm : ∀ r ∈ joinRes l l (closeShift l), smallR r := by
          rw [hjl hc]
          intro r hr
          rcases List.mem_append.1 (revs_mem _ r hr) with h | h
          · exact (turns_good _ _ _ hch.2 r h).2
          · obtain ⟨y, hy, rfl⟩ := List.mem_map.1 h
            exact (turns_good _ _ _ hch.2 y hy).2
        have hln : (joinRes l l (closeShift l)).length ≤ 1000000 := by
          rw [hjl hc]
          exact Nat.le_trans (revs_len _) (by simp; omega)
        refine callP_q (q_load_count _ hln hsm _) ?_
        simp -implicitDefEqProofs (disch := first | omega | (simp only [go_sem, ↓reduceIte, reduceCtorEq]; first | done | omega)) only [go_sem, ↓reduceIte, Nat.reduceLT, Nat.reduceEqDiff, Nat.reduceAdd, Nat.reduceSub, Nat.reduceMul, Nat.reduceLeDiff, reduceCtorEq, Int.reduceLE, Int.reduceLT, Int.reduceNeg, Int.reduceToNat, Nat.reduceSubDiff, Nat.reducePow]
        (first | refine post_fin ret_ok hM rfl ?_ ?_ | refine post_fin0 ret_ok hM rfl ?_ ?_ | refine post_fin normal_ok hM rfl ?_ ?_ | refine post_fin0 normal_ok hM rfl ?_ ?_)
        · simp -implicitDefEqProofs (disch := first | omega | (simp only [go_sem, ↓reduceIte, reduceCtorEq]; first | done | omega)) only [go_sem, ↓reduceIte, Nat.reduceLT, Nat.reduceEqDiff, Nat.reduceAdd, Nat.reduceSub, Nat.reduceMul, Nat.reduceLeDiff, reduceCtorEq, Int.reduceLE, Int.reduceLT, Int.reduceNeg, Int.reduceToNat, Nat.reduceSubDiff, Nat.reducePow]
          simp [hce, hcr hc, hc]
        · (simp only [go_sem, ↓reduceIte, Nat.reduceLT, Nat.reduceEqDiff, Nat.reduceAdd, Nat.reduceSub, Nat.reduceMul, Nat.reduceLeDiff, reduceCtorEq, Int.reduceLE, Int.reduceLT, Int.reduceNeg, Int.reduceToNat, Nat.reduceSubDiff, Nat.reducePow, encCyc_low] <;> first | done | omega)
end
end Go.Nac.L2

