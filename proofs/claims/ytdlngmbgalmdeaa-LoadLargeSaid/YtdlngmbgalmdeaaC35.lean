import Derived.Test.YtdlngmbgalmdeaaC32
import Derived.Test.YtdlngmbgalmdeaaKA
import Derived.Test.YtdlngmbgalmdeaaC22
import Derived.Test.YtdlngmbgalmdeaaP14
set_option linter.unusedSimpArgs false
set_option linter.unusedVariables false
set_option linter.unnecessarySimpa false
set_option maxRecDepth 10000
namespace Go.Nac.L1
attribute [local congr] b1_congr b2_congr Wp_congr wpOps_congr thenK_congr blockK_congr gK_congr cK_congr
section
variable {X : FuncId → List PV → PV → Prop}
end
end Go.Nac.L1
set_option linter.unusedSimpArgs false
set_option linter.unusedVariables false
set_option linter.unnecessarySimpa false
set_option maxRecDepth 10000
namespace Go.Nac.L1
attribute [local congr] b1_congr b2_congr Wp_congr wpOps_congr thenK_congr blockK_congr gK_congr cK_congr
section
variable {X : FuncId → List PV → PV → Prop}
def ValCut (t3 : PV) (s : List Pnt) (x : Cyc) (j : Int) : Prop := ∃ (A B : List Pnt) (u1 u2 : PV), A.length + B.length = s.length ∧ (∀ M', sliceV M' 2 t3 none (some (.I j)) = some u1) ∧ (∀ M', sliceV M' 2 t3 (some (.I j)) none = some u2) ∧ (∀ M', held M' u1 = some (A.map encPnt)) ∧ (∀ M', held M' u2 = some (B.map encPnt)) ∧ refs u1 = [] ∧ refs u2 = [] ∧ (insP s (pntOf x)).map encPnt = A.map encPnt ++ [.agg [.I x.lo, .I x.hi]] ++ B.map encPnt
theorem q_ref07_Values (l : List Cyc) (hl : l.length ≤ 1000000) : Q X 46 [.fs (l.map encCyc)] (.fs ((valS l).map encPnt)) := by
  intro M
  (refine ACall_fn (cf := L1.c46) rfl rfl fun hM hA => ?_; simp only [L1.c46]; rw [mk1 _ (by decide)]; simp -implicitDefEqProofs (disch := first | omega | (simp only [go_sem, ↓reduceIte, Nat.reduceLT, Nat.reduceEqDiff, Nat.reduceAdd, Nat.reduceSub, Nat.reduceMul, Nat.reduceLeDiff, reduceCtorEq, Int.reduceLE, Int.reduceLT, Int.reduceNeg, Int.reduceToNat, Nat.reduceSubDiff, Nat.reducePow]; first | done | omega)) only [go_sem, ↓reduceIte, Nat.reduceLT, Nat.reduceEqDiff, Nat.reduceAdd, Nat.reduceSub, Nat.reduceMul, Nat.reduceLeDiff, reduceCtorEq, Int.reduceLE, Int.reduceLT, Int.reduceNeg, Int.reduceToNat, Nat.reduceSubDiff, Nat.reducePow])
  refine loop_mk (α := Nat) 0 (fun k => k ≤ l.length) (fun k => M)
    (fun k => [(0, .fs (l.map encCyc)), (3, if k = 0 then PV.nilS else .fs ((valS (l.take k)).map encPnt)), (4, .I k)]) (fun k => l.length - k) (Nat.zero_le _) rfl rfl ?_
  intro k hk
  have hvl := valS_len (l.take k)
  rw [List.length_take] at hvl
  by_cases hlt : k < l.length
  · obtain ⟨x, h1⟩ : ∃ x, l[k]? = some x := ⟨_, List.getElem?_eq_getElem hlt⟩
    have hs1 := valS_snoc h1
    have hst : ∀ M' : List Blk, held M' (if k = 0 then PV.nilS else .fs ((valS (l.take k)).map encPnt)) = some ((valS (l.take k)).map encPnt) := by
      intro M'
      by_cases h0 : k = 0
      · subst h0; rfl
      · rw [if_neg h0]; rfl
    have hln : lenOf (if k = 0 then PV.nilS else .fs ((valS (l.take k)).map encPnt)) = some (valS (l.take k)).length := by
      by_cases h0 : k = 0
      · subst h0; rfl
      · rw [if_neg h0]; simp [lenOf]
    have hia : ∀ (M' : List Blk) (m : Nat) (q : Pnt), (valS (l.take k))[m]? = some q → iaddrV M' 2 (if k = 0 then PV.nilS else .fs ((valS (l.take k)).map encPnt)) (some m) = some (.fp [.I q.x, .I q.y]) := by
      intro M' m q hq
      by_cases h0 : k = 0
      · subst h0; simp [valS] at hq
      · rw [if_neg h0, iaddrV_fs, List.getElem?_map, hq]; rfl
    have hsl : ∀ (n : Nat), n ≤ (valS (l.take k)).length → (∃ u, (∀ M' : List Blk, sliceV M' 2 (if k = 0 then PV.nilS else .fs ((valS (l.take k)).map encPnt)) none (some (.I n)) = some u) ∧ (∀ M' : List Blk, held M' u = some (((valS (l.take k)).take n).map encPnt)) ∧ refs u = []) ∧ (∃ u, (∀ M' : List Blk, sliceV M' 2 (if k = 0 then PV.nilS else .fs ((valS (l.take k)).map encPnt)) (some (.I n)) none = some u) ∧ (∀ M' : List Blk, held M' u = some (((valS (l.take k)).drop n).map encPnt)) ∧ refs u = []) := by
      intro n hn
      by_cases h0 : k = 0
      · subst h0
        have : n = 0 := by simpa [valS] using hn
        subst this
        exact ⟨⟨PV.nilS, fun _ => rfl, fun _ => rfl, rfl⟩, ⟨PV.nilS, fun _ => rfl, fun _ => rfl, rfl⟩⟩
      · rw [if_neg h0]
        refine ⟨⟨.fs (((valS (l.take k)).take n).map encPnt), fun M' => ?_, fun _ => rfl, rfl⟩, ⟨.fs (((valS (l.take k)).drop n).map encPnt), fun M' => ?_, fun _ => rfl, rfl⟩⟩
        · rw [sliceV_fs (encPnt_sized _)]
          simp [bounds_eq, hiN, loN, asNat_int, List.length_map, hn]
        · rw [sliceV_fs (encPnt_sized _)]
          simp [bounds_eq, hiN, loN, asNat_int, List.length_map, hn]
          rw [List.take_of_length_le (by simp)]
    have href : refs (if k = 0 then PV.nilS else .fs ((valS (l.take k)).map encPnt)) = [] := by split <;> rfl
    generalize (if k = 0 then PV.nilS else .fs ((valS (l.take k)).map encPnt)) = t3 at hst hln href hia hsl ⊢
    generalize valS (l.take k) = s at hs1 hst hln hvl hia hsl ⊢
    simp -implicitDefEqProofs (disch := first | omega | (simp only [go_sem, ↓reduceIte, Nat.reduceLT, Nat.reduceEqDiff, Nat.reduceAdd, Nat.reduceSub, Nat.reduceMul, Nat.reduceLeDiff, reduceCtorEq, Int.reduceLE, Int.reduceLT, Int.reduceNeg, Int.reduceToNat, Nat.reduceSubDiff, Nat.reducePow, hlt, h1, encCyc_cells]; first | done | omega)) only [go_sem, ↓reduceIte, Nat.reduceLT, Nat.reduceEqDiff, Nat.reduceAdd, Nat.reduceSub, Nat.reduceMul, Nat.reduceLeDiff, reduceCtorEq, Int.reduceLE, Int.reduceLT, Int.reduceNeg, Int.reduceToNat, Nat.reduceSubDiff, Nat.reducePow, hlt, h1, encCyc_cells]
    refine ⟨by simp [pairsOk, okPair, apartL, refs, refs1, href], ?_⟩
    simp -implicitDefEqProofs (disch := first | omega | (simp only [go_sem, ↓reduceIte, Nat.reduceLT, Nat.reduceEqDiff, Nat.reduceAdd, Nat.reduceSub, Nat.reduceMul, Nat.reduceLeDiff, reduceCtorEq, Int.reduceLE, Int.reduceLT, Int.reduceNeg, Int.reduceToNat, Nat.reduceSubDiff, Nat.reducePow, hln]; first | done | omega)) only [go_sem, ↓reduceIte, Nat.reduceLT, Nat.reduceEqDiff, Nat.reduceAdd, Nat.reduceSub, Nat.reduceMul, Nat.reduceLeDiff, reduceCtorEq, Int.reduceLE, Int.reduceLT, Int.reduceNeg, Int.reduceToNat, Nat.reduceSubDiff, Nat.reducePow, hln]
    refine loop_mk (α := Nat) s.length (fun j => j ≤ s.length ∧ posP (pntOf x) s s.length = posP (pntOf x) s j) (fun j => M ++ [.row true 2 1 [.agg [.I x.lo, .I x.hi]]])
      (fun j => [(0, .fs (l.map encCyc)), (3, t3), (4, .I k), (5, .op M.length 1 0 0), (6, .I j)]) (fun j => j) ⟨Nat.le_refl _, rfl⟩ rfl rfl ?_
    rintro j ⟨hj, hp⟩
    have stop : posP (pntOf x) s s.length = j → (insP s (pntOf x)).map encPnt = (s.take j).map encPnt ++ [.agg [.I x.lo, .I x.hi]] ++ (s.drop j).map encPnt := by
      intro e; unfold insP; rw [e]; simp [encPnt, pntOf]
    have hsl2 : posP (pntOf x) s s.length = j → ValCut t3 s x j := by
      intro e
      obtain ⟨⟨u1, a1, a2, a3⟩, ⟨u2, b1, b2, b3⟩⟩ := hsl j hj
      exact ⟨_, _, u1, u2, by simp; omega, a1, b1, a2, b2, a3, b3, stop e⟩
    by_cases hj0 : j = 0
    · subst hj0
      simp -implicitDefEqProofs (disch := first | omega | (simp only [go_sem, ↓reduceIte, Nat.reduceLT, Nat.reduceEqDiff, Nat.reduceAdd, Nat.reduceSub, Nat.reduceMul, Nat.reduceLeDiff, reduceCtorEq, Int.reduceLE, Int.reduceLT, Int.reduceNeg, Int.reduceToNat, Nat.reduceSubDiff, Nat.reducePow]; first | done | omega)) only [go_sem, ↓reduceIte, Nat.reduceLT, Nat.reduceEqDiff, Nat.reduceAdd, Nat.reduceSub, Nat.reduceMul, Nat.reduceLeDiff, reduceCtorEq, Int.reduceLE, Int.reduceLT, Int.reduceNeg, Int.reduceToNat, Nat.reduceSubDiff, Nat.reducePow]
      have hsl2 : ValCut t3 s x 0 := by
        obtain ⟨⟨u1, a1, a2, a3⟩, ⟨u2, b1, b2, b3⟩⟩ := hsl 0 hj
        exact ⟨_, _, u1, u2, by simp, a1, b1, a2, b2, a3, b3, stop hp⟩
      (obtain ⟨A, B, u1, u2, hAB, a1, b1, a2, b2, a3, b3, stop⟩ := hsl2; have hokA := encPnt_ok A; have hokB := encPnt_ok B; simp -implicitDefEqProofs (disch := first | omega | (simp only [go_sem, ↓reduceIte, Nat.reduceLT, Nat.reduceEqDiff, Nat.reduceAdd, Nat.reduceSub, Nat.reduceMul, Nat.reduceLeDiff, reduceCtorEq, Int.reduceLE, Int.reduceLT, Int.reduceNeg, Int.reduceToNat, Nat.reduceSubDiff, Nat.reducePow, a1, a2, b1, b2, hokA, hokB]; first | done | omega)) only [go_sem, ↓reduceIte, Nat.reduceLT, Nat.reduceEqDiff, Nat.reduceAdd, Nat.reduceSub, Nat.reduceMul, Nat.reduceLeDiff, reduceCtorEq, Int.reduceLE, Int.reduceLT, Int.reduceNeg, Int.reduceToNat, Nat.reduceSubDiff, Nat.reducePow, a1, a2, b1, b2, hokA, hokB]; (refine ⟨by (try simp only [href, a3, b3]); simp [pairsOk, okPair, apartL, refs, refs1], ?_⟩); (try simp -implicitDefEqProofs (disch := first | omega | (simp only [go_sem, ↓reduceIte, Nat.reduceLT, Nat.reduceEqDiff, Nat.reduceAdd, Nat.reduceSub, Nat.reduceMul, Nat.reduceLeDiff, reduceCtorEq, Int.reduceLE, Int.reduceLT, Int.reduceNeg, Int.reduceToNat, Nat.reduceSubDiff, Nat.reducePow]; first | done | omega)) only [go_sem, ↓reduceIte, Nat.reduceLT, Nat.reduceEqDiff, Nat.reduceAdd, Nat.reduceSub, Nat.reduceMul, Nat.reduceLeDiff, reduceCtorEq, Int.reduceLE, Int.reduceLT, Int.reduceNeg, Int.reduceToNat, Nat.reduceSubDiff, Nat.reducePow]); refine Wp_cut_at hM rfl 0 (by simp) (by first | done | (simp only [go_sem, ↓reduceIte, Nat.reduceLT, Nat.reduceEqDiff, Nat.reduceAdd, Nat.reduceSub, Nat.reduceMul, Nat.reduceLeDiff, reduceCtorEq, Int.reduceLE, Int.reduceLT, Int.reduceNeg, Int.reduceToNat, Nat.reduceSubDiff, Nat.reducePow, encPnt_low] <;> first | done | (refine ⟨?_, ?_⟩ <;> omega) | omega)) (lowL_mk (by first | done | (simp only [go_sem, ↓reduceIte, Nat.reduceLT, Nat.reduceEqDiff, Nat.reduceAdd, Nat.reduceSub, Nat.reduceMul, Nat.reduceLeDiff, reduceCtorEq, Int.reduceLE, Int.reduceLT, Int.reduceNeg, Int.reduceToNat, Nat.reduceSubDiff, Nat.reducePow, encPnt_low] <;> first | done | (refine ⟨?_, ?_⟩ <;> omega) | omega))) ?_; simp -implicitDefEqProofs (disch := first | omega | (simp only [go_sem, ↓reduceIte, Nat.reduceLT, Nat.reduceEqDiff, Nat.reduceAdd, Nat.reduceSub, Nat.reduceMul, Nat.reduceLeDiff, reduceCtorEq, Int.reduceLE, Int.reduceLT, Int.reduceNeg, Int.reduceToNat, Nat.reduceSubDiff, Nat.reducePow]; first | done | omega)) only [go_sem, ↓reduceIte, Nat.reduceLT, Nat.reduceEqDiff, Nat.reduceAdd, Nat.reduceSub, Nat.reduceMul, Nat.reduceLeDiff, reduceCtorEq, Int.reduceLE, Int.reduceLT, Int.reduceNeg, Int.reduceToNat, Nat.reduceSubDiff, Nat.reducePow]; exact again' (k + 1) (by omega) (by omega) rfl (by rw [hs1, if_neg (by omega), stop]; simp))
    · have f0 : ((0 : Int) < j) = True := eq_true (by omega)
      have e1 : (j : Int) - 1 = ((j - 1 : Nat) : Int) := by omega
      obtain ⟨q, hq⟩ : ∃ q, s[j - 1]? = some q := ⟨_, List.getElem?_eq_getElem (by omega)⟩
      have hq2 := hia (M ++ [.row true 2 1 [.agg [.I x.lo, .I x.hi]]]) (j - 1) q hq
      have hstep : posP (pntOf x) s j = if gtP q (pntOf x) = true then posP (pntOf x) s (j - 1) else j := by
        obtain ⟨i, rfl⟩ : ∃ i, j = i + 1 := ⟨j - 1, by omega⟩
        simp only [Nat.add_sub_cancel] at hq ⊢
        simp only [posP, hq]
      by_cases hg : gtP q (pntOf x) = true
      · rw [if_pos hg] at hstep
        by_cases hx1 : x.lo < q.x
        · have f1 := eq_true hx1
          simp -implicitDefEqProofs (disch := first | omega | (simp only [go_sem, ↓reduceIte, Nat.reduceLT, Nat.reduceEqDiff, Nat.reduceAdd, Nat.reduceSub, Nat.reduceMul, Nat.reduceLeDiff, reduceCtorEq, Int.reduceLE, Int.reduceLT, Int.reduceNeg, Int.reduceToNat, Nat.reduceSubDiff, Nat.reducePow, f0, e1, hq2, f1]; first | done | omega)) only [go_sem, ↓reduceIte, Nat.reduceLT, Nat.reduceEqDiff, Nat.reduceAdd, Nat.reduceSub, Nat.reduceMul, Nat.reduceLeDiff, reduceCtorEq, Int.reduceLE, Int.reduceLT, Int.reduceNeg, Int.reduceToNat, Nat.reduceSubDiff, Nat.reducePow, f0, e1, hq2, f1]
          exact again' (j - 1) ⟨by omega, by rw [hp, hstep]⟩ (by omega) rfl rfl
        · have hx2 : q.x = x.lo ∧ x.hi < q.y := by unfold gtP pntOf at hg; simp at hg; omega
          have f1 := eq_false hx1
          have f2 := eq_true hx2.1
          have f3 := eq_true hx2.2
          simp -implicitDefEqProofs (disch := first | omega | (simp only [go_sem, ↓reduceIte, Nat.reduceLT, Nat.reduceEqDiff, Nat.reduceAdd, Nat.reduceSub, Nat.reduceMul, Nat.reduceLeDiff, reduceCtorEq, Int.reduceLE, Int.reduceLT, Int.reduceNeg, Int.reduceToNat, Nat.reduceSubDiff, Nat.reducePow, f0, e1, hq2, f1, f2, f3]; first | done | omega)) only [go_sem, ↓reduceIte, Nat.reduceLT, Nat.reduceEqDiff, Nat.reduceAdd, Nat.reduceSub, Nat.reduceMul, Nat.reduceLeDiff, reduceCtorEq, Int.reduceLE, Int.reduceLT, Int.reduceNeg, Int.reduceToNat, Nat.reduceSubDiff, Nat.reducePow, f0, e1, hq2, f1, f2, f3]
          exact again' (j - 1) ⟨by omega, by rw [hp, hstep]⟩ (by omega) rfl rfl
      · rw [if_neg hg] at hstep
        have hx1 : ¬ x.lo < q.x ∧ (¬ q.x = x.lo ∨ ¬ x.hi < q.y) := by unfold gtP pntOf at hg; simp at hg; omega
        have f1 := eq_false hx1.1
        by_cases hx2 : q.x = x.lo
        · have f2 := eq_true hx2
          have f3 : (x.hi < q.y) = False := eq_false (by omega)
          simp -implicitDefEqProofs (disch := first | omega | (simp only [go_sem, ↓reduceIte, Nat.reduceLT, Nat.reduceEqDiff, Nat.reduceAdd, Nat.reduceSub, Nat.reduceMul, Nat.reduceLeDiff, reduceCtorEq, Int.reduceLE, Int.reduceLT, Int.reduceNeg, Int.reduceToNat, Nat.reduceSubDiff, Nat.reducePow, f0, e1, hq2, f1, f2, f3]; first | done | omega)) only [go_sem, ↓reduceIte, Nat.reduceLT, Nat.reduceEqDiff, Nat.reduceAdd, Nat.reduceSub, Nat.reduceMul, Nat.reduceLeDiff, reduceCtorEq, Int.reduceLE, Int.reduceLT, Int.reduceNeg, Int.reduceToNat, Nat.reduceSubDiff, Nat.reducePow, f0, e1, hq2, f1, f2, f3]
          have hsl2 := hsl2 (hp.trans hstep)
          (obtain ⟨A, B, u1, u2, hAB, a1, b1, a2, b2, a3, b3, stop⟩ := hsl2; have hokA := encPnt_ok A; have hokB := encPnt_ok B; simp -implicitDefEqProofs (disch := first | omega | (simp only [go_sem, ↓reduceIte, Nat.reduceLT, Nat.reduceEqDiff, Nat.reduceAdd, Nat.reduceSub, Nat.reduceMul, Nat.reduceLeDiff, reduceCtorEq, Int.reduceLE, Int.reduceLT, Int.reduceNeg, Int.reduceToNat, Nat.reduceSubDiff, Nat.reducePow, a1, a2, b1, b2, hokA, hokB]; first | done | omega)) only [go_sem, ↓reduceIte, Nat.reduceLT, Nat.reduceEqDiff, Nat.reduceAdd, Nat.reduceSub, Nat.reduceMul, Nat.reduceLeDiff, reduceCtorEq, Int.reduceLE, Int.reduceLT, Int.reduceNeg, Int.reduceToNat, Nat.reduceSubDiff, Nat.reducePow, a1, a2, b1, b2, hokA, hokB]; (refine ⟨by (try simp only [href, a3, b3]); simp [pairsOk, okPair, apartL, refs, refs1], ?_⟩); (try simp -implicitDefEqProofs (disch := first | omega | (simp only [go_sem, ↓reduceIte, Nat.reduceLT, Nat.reduceEqDiff, Nat.reduceAdd, Nat.reduceSub, Nat.reduceMul, Nat.reduceLeDiff, reduceCtorEq, Int.reduceLE, Int.reduceLT, Int.reduceNeg, Int.reduceToNat, Nat.reduceSubDiff, Nat.reducePow]; first | done | omega)) only [go_sem, ↓reduceIte, Nat.reduceLT, Nat.reduceEqDiff, Nat.reduceAdd, Nat.reduceSub, Nat.reduceMul, Nat.reduceLeDiff, reduceCtorEq, Int.reduceLE, Int.reduceLT, Int.reduceNeg, Int.reduceToNat, Nat.reduceSubDiff, Nat.reducePow]); refine Wp_cut_at hM rfl 0 (by simp) (by first | done | (simp only [go_sem, ↓reduceIte, Nat.reduceLT, Nat.reduceEqDiff, Nat.reduceAdd, Nat.reduceSub, Nat.reduceMul, Nat.reduceLeDiff, reduceCtorEq, Int.reduceLE, Int.reduceLT, Int.reduceNeg, Int.reduceToNat, Nat.reduceSubDiff, Nat.reducePow, encPnt_low] <;> first | done | (refine ⟨?_, ?_⟩ <;> omega) | omega)) (lowL_mk (by first | done | (simp only [go_sem, ↓reduceIte, Nat.reduceLT, Nat.reduceEqDiff, Nat.reduceAdd, Nat.reduceSub, Nat.reduceMul, Nat.reduceLeDiff, reduceCtorEq, Int.reduceLE, Int.reduceLT, Int.reduceNeg, Int.reduceToNat, Nat.reduceSubDiff, Nat.reducePow, encPnt_low] <;> first | done | (refine ⟨?_, ?_⟩ <;> omega) | omega))) ?_; simp -implicitDefEqProofs (disch := first | omega | (simp only [go_sem, ↓reduceIte, Nat.reduceLT, Nat.reduceEqDiff, Nat.reduceAdd, Nat.reduceSub, Nat.reduceMul, Nat.reduceLeDiff, reduceCtorEq, Int.reduceLE, Int.reduceLT, Int.reduceNeg, Int.reduceToNat, Nat.reduceSubDiff, Nat.reducePow]; first | done | omega)) only [go_sem, ↓reduceIte, Nat.reduceLT, Nat.reduceEqDiff, Nat.reduceAdd, Nat.reduceSub, Nat.reduceMul, Nat.reduceLeDiff, reduceCtorEq, Int.reduceLE, Int.reduceLT, Int.reduceNeg, Int.reduceToNat, Nat.reduceSubDiff, Nat.reducePow]; exact again' (k + 1) (by omega) (by omega) rfl (by rw [hs1, if_neg (by omega), stop]; simp))
        · have f2 := eq_false hx2
          simp -implicitDefEqProofs (disch := first | omega | (simp only [go_sem, ↓reduceIte, Nat.reduceLT, Nat.reduceEqDiff, Nat.reduceAdd, Nat.reduceSub, Nat.reduceMul, Nat.reduceLeDiff, reduceCtorEq, Int.reduceLE, Int.reduceLT, Int.reduceNeg, Int.reduceToNat, Nat.reduceSubDiff, Nat.reducePow, f0, e1, hq2, f1, f2]; first | done | omega)) only [go_sem, ↓reduceIte, Nat.reduceLT, Nat.reduceEqDiff, Nat.reduceAdd, Nat.reduceSub, Nat.reduceMul, Nat.reduceLeDiff, reduceCtorEq, Int.reduceLE, Int.reduceLT, Int.reduceNeg, Int.reduceToNat, Nat.reduceSubDiff, Nat.reducePow, f0, e1, hq2, f1, f2]
          have hsl2 := hsl2 (hp.trans hstep)
          (obtain ⟨A, B, u1, u2, hAB, a1, b1, a2, b2, a3, b3, stop⟩ := hsl2; have hokA := encPnt_ok A; have hokB := encPnt_ok B; simp -implicitDefEqProofs (disch := first | omega | (simp only [go_sem, ↓reduceIte, Nat.reduceLT, Nat.reduceEqDiff, Nat.reduceAdd, Nat.reduceSub, Nat.reduceMul, Nat.reduceLeDiff, reduceCtorEq, Int.reduceLE, Int.reduceLT, Int.reduceNeg, Int.reduceToNat, Nat.reduceSubDiff, Nat.reducePow, a1, a2, b1, b2, hokA, hokB]; first | done | omega)) only [go_sem, ↓reduceIte, Nat.reduceLT, Nat.reduceEqDiff, Nat.reduceAdd, Nat.reduceSub, Nat.reduceMul, Nat.reduceLeDiff, reduceCtorEq, Int.reduceLE, Int.reduceLT, Int.reduceNeg, Int.reduceToNat, Nat.reduceSubDiff, Nat.reducePow, a1, a2, b1, b2, hokA, hokB]; (refine ⟨by (try simp only [href, a3, b3]); simp [pairsOk, okPair, apartL, refs, refs1], ?_⟩); (try simp -implicitDefEqProofs (disch := first | omega | (simp only [go_sem, ↓reduceIte, Nat.reduceLT, Nat.reduceEqDiff, Nat.reduceAdd, Nat.reduceSub, Nat.reduceMul, Nat.reduceLeDiff, reduceCtorEq, Int.reduceLE, Int.reduceLT, Int.reduceNeg, Int.reduceToNat, Nat.reduceSubDiff, Nat.reducePow]; first | done | omega)) only [go_sem, ↓reduceIte, Nat.reduceLT, Nat.reduceEqDiff, Nat.reduceAdd, Nat.reduceSub, Nat.reduceMul, Nat.reduceLeDiff, reduceCtorEq, Int.reduceLE, Int.reduceLT, Int.reduceNeg, Int.reduceToNat, Nat.reduceSubDiff, Nat.reducePow]); refine Wp_cut_at hM rfl 0 (by simp) (by first | done | (simp only [go_sem, ↓reduceIte, Nat.reduceLT, Nat.reduceEqDiff, Nat.reduceAdd, Nat.reduceSub, Nat.reduceMul, Nat.reduceLeDiff, reduceCtorEq, Int.reduceLE, Int.reduceLT, Int.reduceNeg, Int.reduceToNat, Nat.reduceSubDiff, Nat.reducePow, encPnt_low] <;> first | done | (refine ⟨?_, ?_⟩ <;> omega) | omega)) (lowL_mk (by first | done | (simp only [go_sem, ↓reduceIte, Nat.reduceLT, Nat.reduceEqDiff, Nat.reduceAdd, Nat.reduceSub, Nat.reduceMul, Nat.reduceLeDiff, reduceCtorEq, Int.reduceLE, Int.reduceLT, Int.reduceNeg, Int.reduceToNat, Nat.reduceSubDiff, Nat.reducePow, encPnt_low] <;> first | done | (refine ⟨?_, ?_⟩ <;> omega) | omega))) ?_; simp -implicitDefEqProofs (disch := first | omega | (simp only [go_sem, ↓reduceIte, Nat.reduceLT, Nat.reduceEqDiff, Nat.reduceAdd, Nat.reduceSub, Nat.reduceMul, Nat.reduceLeDiff, reduceCtorEq, Int.reduceLE, Int.reduceLT, Int.reduceNeg, Int.reduceToNat, Nat.reduceSubDiff, Nat.reducePow]; first | done | omega)) only [go_sem, ↓reduceIte, Nat.reduceLT, Nat.reduceEqDiff, Nat.reduceAdd, Nat.reduceSub, Nat.reduceMul, Nat.reduceLeDiff, reduceCtorEq, Int.reduceLE, Int.reduceLT, Int.reduceNeg, Int.reduceToNat, Nat.reduceSubDiff, Nat.reducePow]; exact again' (k + 1) (by omega) (by omega) rfl (by rw [hs1, if_neg (by omega), stop]; simp))
  · simp -implicitDefEqProofs (disch := first | omega | (simp only [go_sem, ↓reduceIte, Nat.reduceLT, Nat.reduceEqDiff, Nat.reduceAdd, Nat.reduceSub, Nat.reduceMul, Nat.reduceLeDiff, reduceCtorEq, Int.reduceLE, Int.reduceLT, Int.reduceNeg, Int.reduceToNat, Nat.reduceSubDiff, Nat.reducePow, hlt]; first | done | omega)) only [go_sem, ↓reduceIte, Nat.reduceLT, Nat.reduceEqDiff, Nat.reduceAdd, Nat.reduceSub, Nat.reduceMul, Nat.reduceLeDiff, reduceCtorEq, Int.reduceLE, Int.reduceLT, Int.reduceNeg, Int.reduceToNat, Nat.reduceSubDiff, Nat.reducePow, hlt]
    rw [List.take_of_length_le (by omega)]
    (first | refine post_fin ret_ok hM rfl ?_ ?_ | refine post_fin0 ret_ok hM rfl ?_ ?_ | refine post_fin normal_ok hM rfl ?_ ?_ | refine post_fin0 normal_ok hM rfl ?_ ?_)
    · by_cases h0 : k = 0
      · subst h0
        have : l = [] := List.eq_nil_of_length_eq_zero (by omega)
        subst this; rfl
      · rw [if_neg h0]; rfl
    · (simp only [go_sem, ↓reduceIte, Nat.reduceLT, Nat.reduceEqDiff, Nat.reduceAdd, Nat.reduceSub, Nat.reduceMul, Nat.reduceLeDiff, reduceCtorEq, Int.reduceLE, Int.reduceLT, Int.reduceNeg, Int.reduceToNat, Nat.reduceSubDiff, Nat.reducePow, encPnt_low] <;> first | done | omega)
end
end Go.Nac.L1
set_option linter.unusedSimpArgs false
set_option linter.unusedVariables false
set_option linter.unnecessarySimpa false
set_option maxRecDepth 10000
namespace Go.Nac.L1
attribute [local congr] b1_congr b2_congr Wp_congr wpOps_congr thenK_congr blockK_congr gK_congr cK_congr
section
variable {X : FuncId → List PV → PV → Prop}
end
end Go.Nac.L1

