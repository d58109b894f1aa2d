import Derived.Test.YtdlngmbgalmdeaaC32
import Derived.Test.YtdlngmbgalmdeaaKA
import Derived.Test.YtdlngmbgalmdeaaC22
import Derived.Test.YtdlngmbgalmdeaaP14
set_option linter.unusedSimpArgs false
set_option linter.unusedVariables false
set_option linter.unnecessarySimpa false
set_option maxRecDepth 10000
namespace Go.Nac.L1
attribute [local congr] b1_congr b2_congr Wp_congr wpOps_congr thenK_congr blockK_congr gK_congr cK_congr
section
variable {X : FuncId → List PV → PV → Prop}
end
end Go.Nac.L1
set_option linter.unusedSimpArgs false
set_option linter.unusedVariables false
set_option linter.unnecessarySimpa false
set_option maxRecDepth 10000
namespace Go.Nac.L1
attribute [local congr] b1_congr b2_congr Wp_congr wpOps_congr thenK_congr blockK_congr gK_congr cK_congr
section
variable {X : FuncId → List PV → PV → Prop}
def ValCut (t3 : PV) (s : List Pnt) (x : Cyc) (j : Int) : Prop := ∃ (A B : List Pnt) (u1 u2 : PV), A.length + B.length = s.length ∧ (∀ M', sliceV M' 2 t3 none (some (.I j)) = some u1) ∧ (∀ M', sliceV M' 2 t3 (some (.I j)) none = some u2) ∧ (∀ M', held M' u1 = some (A.map encPnt)) ∧ (∀ M', held M' u2 = some (B.map encPnt)) ∧ refs u1 = [] ∧ refs u2 = [] ∧ (insP s (pntOf x)).map encPnt = A.map encPnt ++ [.agg [.I x.lo, .I x.hi]] ++ B.map encPnt
theorem q_ref07_Values (l : List Cyc) (hl : l.length ≤ 1000000) : Q X 46 [.fs (l.map encCyc)] (.fs ((valS l).map encPnt)) := by
  intro M
  (refine ACall_fn (cf := L1.c46) rfl rfl fun hM hA => ?_; simp only [L1.c46]; rw [mk1 _ (by decide)]; simp -implicitDefEqProofs (disch := first | omega | (simp only [go_sem, ↓reduceIte, Nat.reduceLT, Nat.reduceEqDiff, Nat.reduceAdd, Nat.reduceSub, Nat.reduceMul, Nat.reduceLeDiff, reduceCtorEq, Int.reduceLE, Int.reduceLT, Int.reduceNeg, Int.reduceToNat, Nat.reduceSubDiff, Nat.reducePow]; first | done | omega)) only [go_sem, ↓reduceIte, Nat.reduceLT, Nat.reduceEqDiff, Nat.reduceAdd, Nat.reduceSub, Nat.reduceMul, Nat.reduceLeDiff, reduceCtorEq, Int.reduceLE, Int.reduceLT, Int.reduceNeg, Int.reduceToNat, Nat.reduceSubDiff, Nat.reducePow])
  refine loop_mk (α := Nat) 0 (fun k => k ≤ l.length) (fun k => M)
    (fun k => [(0, .fs (l.map encCyc)), (3, if k = 0 then PV.nilS else .fs ((valS (l.take k)).map encPnt)), (4, .I k)]) (fun k => l.length - k) (Nat.zero_le _) rfl rfl ?_
  intro k hk
  have hvl := valS_len (l.take k)
  rw [List.length_take] at hvl
  by_cases hlt : k < l.length
  · obtain ⟨x, h1⟩ : ∃ x, l[k]? = some x := ⟨_, List.getElem?_eq_getElem hlt⟩
    have hs1 := valS_snoc h1
    have hst : ∀ M' : List Blk, held M' (if k = 0 then PV.nilS else .fs ((valS (l.take k)).map encPnt)) = some ((valS (l.take k)).map encPnt) := by
      intro M'
      by_cases h0 : k = 0
      · subst h0; rfl
      · rw [if_neg h0]; rfl
    have hln : lenOf (if k = 0 then PV.nilS else .fs ((valS (l.take k)).map encPnt)) = some (valS (l.take k)).length := by
      by_cases h0 : k = 0
      · subst h0; rfl
      · rw [if_neg h0]; simp [lenOf]
    have hia : ∀ (M' : List Blk) (m : Nat) (q : Pnt), (valS (l.take k))[m]? = some q → iaddrV M' 2 (if k = 0 then PV.nilS else .fs ((valS (l.take k)).map encPnt)) (some m) = some (.fp [.I q.x, .I q.y]) := by
      intro M' m q hq
      by_cases h0 : k = 0
      · subst h0; simp [valS] at hq
      · rw [if_neg h0, iaddrV_fs, List.getElem?_map, hq]; rfl
    have hsl : ∀ (n : Nat), n ≤ (valS (l.take k)).length → (∃ u, (∀ M' : List Blk, sliceV M' 2 (if k = 0 then PV.nilS else .fs ((valS (l.take k)).map encPnt)) none (some (.I n)) = some u) ∧ (∀ M' : List Blk, held M' u = some (((valS (l.take k)).take n).map encPnt)) ∧ refs u = []) ∧ (∃ u, (∀ M' : List Blk, sliceV M' 2 (if k = 0 then PV.nilS else .fs ((valS (l.take k)).map encPnt)) (some (.I n)) none = some u) ∧ (∀ M' : List Blk, held M' u = some (((valS (l.take k)).drop n).map encPnt)) ∧ refs u = []) := by
      intro n hn
      by_cases h0 : k = 0
      · subst h0
        have : n = 0 := by simpa [valS] using hn
        subst this
        exact ⟨⟨PV.nilS, fun _ => rfl, fun _ => rfl, rfl⟩, ⟨PV.nilS, fun _ => rfl, fun _ => rfl, rfl⟩⟩
      · rw [if_neg h0]
        refine ⟨⟨.fs (((valS (l.take k)).take n).map encPnt), fun M' => ?_, fun _ => rfl, rfl⟩, ⟨.fs (((valS (l.take k)).drop n).map encPnt), fun M' => ?_, fun _ => rfl, rfl⟩⟩
        · rw [sliceV_fs (encPnt_sized _)]
          simp [bounds_eq, hiN, loN, asNat_int, List.length_map, hn]
        · rw [sliceV_fs (encPnt_sized _)]
          simp [bounds_eq, hiN, loN, asNat_int, List.length_map, hn]
          rw [List.take_of_length_le (by simp)]
    have href : refs (if k = 0 then PV.nilS else .fs ((valS (l.take k)).map encPnt)) = [] := by split <;> rfl
    generalize (if k = 0 then PV.nilS else .fs ((valS (l.take k)).map encPnt)) = t3 at hst hln href hia hsl ⊢
    generalize valS (l.take k) = s at hs1 hst hln hvl hia hsl ⊢
    simp -implicitDefEqProofs (disch := first | omega | (simp only [go_sem, ↓reduceIte, Nat.reduceLT, Nat.reduceEqDiff, Nat.reduceAdd, Nat.reduceSub, Nat.reduceMul, Nat.reduceLeDiff, reduceCtorEq, Int.reduceLE, Int.reduceLT, Int.reduceNeg, Int.reduceToNat, Nat.reduceSubDiff, Nat.reducePow, hlt, h1, encCyc_cells]; first | done | omega)) only [go_sem, ↓reduceIte, Nat.reduceLT, Nat.reduceEqDiff, Nat.reduceAdd, Nat.reduceSub, Nat.reduceMul, Nat.reduceLeDiff, reduceCtorEq, Int.reduceLE, Int.reduceLT, Int.reduceNeg, Int.reduceToNat, Nat.reduceSubDiff, Nat.reducePow, hlt, h1, encCyc_cells]
    refine ⟨by simp [pairsOk, okPair, apartL, refs, refs1, href], ?_⟩
    simp -implicitDefEqProofs (disch := first | omega | (simp only [go_sem, ↓reduceIte, Nat.reduceLT, Nat.reduceEqDiff, Nat.reduceAdd, Nat.reduceSub, Nat.reduceMul, Nat.reduceLeDiff, reduceCtorEq, Int.reduceLE, Int.reduceLT, Int.reduceNeg, Int.reduceToNat, Nat.reduceSubDiff, Nat.reducePow, hln]; first | done | omega)) only [go_sem, ↓reduceIte, Nat.reduceLT, Nat.reduceEqDiff, Nat.reduceAdd, Nat.reduceSub, Nat.reduceMul, Nat.reduceLeDiff, reduceCtorEq, Int.reduceLE, Int.reduceLT, Int.reduceNeg, Int.reduceToNat, Nat.reduceSubDiff, Nat.reducePow, hln]
    refine loop_mk (α := Nat) s.length (fun j => j ≤ s.length ∧ posP (pntOf x) s s.length = posP (pntOf x) s j) (fun j => M ++ [.row true 2 1 [.agg [.I x.lo, .I x.hi]]])
      (fun j => [(0, .fs (l.map encCyc)), (3, t3), (4, .I k), (5, .op M.length 1 0 0), (6, .I j)]) (fun j => j) ⟨Nat.le_refl _, rfl⟩ rfl rfl ?_
    rintro j ⟨hj, hp⟩
    have stop : posP (pntOf x) s s.length = j → (insP s (pntOf x)).map encPnt = (s.take j).map encPnt ++ [.agg [.I x.lo, .I x.hi]] ++ (s.drop j).map encPnt := by
      intro e; unfold insP; rw [e]; simp [encPnt, pntOf]
    have hsl2 : posP (pntOf x) s s.length = j → ValCut t3 s x j := by
      intro e
      obtain ⟨⟨u1, a1, a2, a3⟩, ⟨u2, b1, b2, b3⟩⟩ := hsl j hj
      exact ⟨_, _, u1, u2, by simp; omega, a1, b1, a2, b2, a3, b3, stop e⟩
    by_cases hj0 : j = 0
    · subst hj0
      simp -implicitDefEqProofs (disch := first | omega | (simp only [go_sem, ↓reduceIte, Nat.reduceLT, Nat.reduceEqDiff, Nat.reduceAdd, Nat.reduceSub, Nat.reduceMul, Nat.reduceLeDiff, reduceCtorEq, Int.reduceLE, Int.reduceLT, Int.reduceNeg, Int.reduceToNat, Nat.reduceSubDiff, Nat.reducePow]; first | done | omega)) only [go_sem, ↓reduceIte, Nat.reduceLT, Nat.reduceEqDiff, Nat.reduceAdd, Nat.reduceSub, Nat.reduceMul, Nat.reduceLeDiff, reduceCtorEq, Int.reduceLE, Int.reduceLT, Int.reduceNeg, Int.reduceToNat, Nat.reduceSubDiff, Nat.reducePow]
      have hsl2 : ValCut t3 s x 0 := by
        obtain ⟨⟨u1, a1, a2, a3⟩, ⟨u2, b1, b2, b3⟩⟩ := hsl 0 hj
        exact ⟨_, _, u1, u2, by simp, a1, b1, a2, b2, a3, b3, stop hp⟩
      (obtain ⟨A, B, u1, u2, hAB, a1, b1, a2, b2, a3, b3, stop⟩ := hsl2; have hokA := encPnt_ok A; have hokB := encPnt_ok B; simp -implicitDefEqProofs (disch := first | omega | (simp only [go_sem, ↓reduceIte, Nat.reduceLT, Nat.reduceEqDiff, Nat.reduceAdd, Nat.reduceSub, Nat.reduceMul, Nat.reduceLeDiff, reduceCtorEq, Int.reduceLE, Int.reduceLT, Int.reduceNeg, Int.reduceToNat, Nat.reduceSubDiff, Nat.reducePow, a1, a2, b1, b2, hokA, hokB]; first | done | omega)) only [go_sem, ↓reduceIte, Nat.reduceLT, Nat.reduceEqDiff, Nat.reduceAdd, Nat.reduceSub, Nat.reduceMul, Nat.reduceLeDiff, reduceCtorEq, Int.reduceLE, Int.reduceLT, Int.reduceNeg, Int.reduceToNat, Nat.reduceSubDiff, Nat.reducePow, a1, a2, b1, b2, hokA, hokB]; (refine ⟨by (try simp only [href, a3, b3]); simp [pairsOk, okPair, apartL, refs, refs1], ?_⟩); (try simp -implicitDefEqProofs (disch := first | omega | (simp only [go_sem, ↓reduceIte, Nat.reduceLT, Nat.reduceEqDiff, Nat.reduceAdd, Nat.reduceSub, Nat.reduceMul, Nat.reduceLeDiff, reduceCtorEq, Int.reduceLE, Int.reduceLT, Int.reduceNeg, Int.reduceToNat, Nat.reduceSubDiff, Nat.reducePow]; first | done | omega)) only [go_sem, ↓reduceIte, Nat.reduceLT, Nat.reduceEqDiff, Nat.reduceAdd, Nat.reduceSub, Nat.reduceMul, Nat.reduceLeDiff, reduceCtorEq, Int.reduceLE, Int.reduceLT, Int.reduceNeg, Int.reduceToNat, Nat.reduceSubDiff, Nat.reducePow]); refine Wp_cut_at hM rfl 0 (by simp) (by first | done | (simp only [go_sem, ↓reduceIte, Nat.reduceLT, Nat.reduceEqDiff, Nat.reduceAdd, Nat.reduceSub, Nat.reduceMul, Nat.reduceLeDiff, reduceCtorEq, Int.reduceLE, Int.reduceLT, Int.reduceNeg, Int.reduceToNat, Nat.reduceSubDiff, Nat.reducePow, encPnt_low] <;> first | done | (refine ⟨?_, ?_⟩ <;> omega) | omega)) (lowL_mk (by first | done | (simp only [go_sem, ↓reduceIte, Nat.reduceLT, Nat.reduceEqDiff, Nat.reduceAdd, Nat.reduceSub, Nat.reduceMul, Nat.reduceLeDiff, reduceCtorEq, Int.reduceLE, Int.reduceLT, Int.reduceNeg, Int.reduceToNat, Nat.reduceSubDiff, Nat.reducePow, encPnt_low] <;> first | done | (refine ⟨?_, ?_⟩ <;> omega) | omega))) ?_; simp -implicitDefEqProofs (disch := first | omega | (simp only [go_sem, ↓reduceIte, Nat.reduceLT, Nat.reduceEqDiff, Nat.reduceAdd, Nat.reduceSub, Nat.reduceMul, Nat.reduceLeDiff, reduceCtorEq, Int.reduceLE, Int.reduceLT, Int.reduceNeg, Int.reduceToNat, Nat.reduceSubDiff, Nat.reducePow]; first | done | omega)) only [go_sem, ↓reduceIte, Nat.reduceLT, Nat.reduceEqDiff, Nat.reduceAdd, Nat.reduceSub, Nat.reduceMul, Nat.reduceLeDiff, reduceCtorEq, Int.reduceLE, Int.reduceLT, Int.reduceNeg, Int.reduceToNat, Nat.reduceSubDiff, Nat.reducePow]; exact again' (k + 1) (by omega) (by omega) rfl (by rw [hs1, if_neg (by omega), stop]; simp))
    · have f0 : ((0 : Int) < j) = True := eq_true (by omega)
      have e1 : (j : Int) - 1 = ((j - 1 : Nat) : Int) := by omega
      obtain ⟨q, hq⟩ : ∃ q, s[j - 1]? = some q := ⟨_, List.getElem?_eq_getElem (by omega)⟩
      have hq2 := hia (M ++ [.row true 2 1 [.agg [.I x.lo, .I x.hi]]]) (j - 1) q hq
      have hstep : posP (pntOf x) s j = if gtP q (pntOf x) = true then posP (pntOf x) s (j - 1) else j := by
        obtain ⟨i, rfl⟩ : ∃ i, j = i + 1 := ⟨j - 1, by omega⟩
        simp only [Nat.add_sub_cancel] at hq ⊢
        simp only [posP, hq]
      by_cases hg : gtP q (pntOf x) = true
      · rw [if_pos hg] at hstep
        by_cases hx1 : x.lo < q.x
        · have f1 := eq_true hx1
          simp -implicitDefEqProofs (disch := first | omega | (simp only [go_sem, ↓reduceIte, Nat.reduceLT, Nat.reduceEqDiff, Nat.reduceAdd, Nat.reduceSub, Nat.reduceMul, Nat.reduceLeDiff, reduceCtorEq, Int.reduceLE, Int.reduceLT, Int.reduceNeg, Int.reduceToNat, Nat.reduceSubDiff, Nat.reducePow, f0, e1, hq2, f1]; first | done | omega)) only [go_sem, ↓reduceIte, Nat.reduceLT, Nat.reduceEqDiff, Nat.reduceAdd, Nat.reduceSub, Nat.reduceMul, Nat.reduceLeDiff, reduceCtorEq, Int.reduceLE, Int.reduceLT, Int.reduceNeg, Int.reduceToNat, Nat.reduceSubDiff, Nat.reducePow, f0, e1, hq2, f1]
          exact again' (j - 1) ⟨by omega, by rw [hp, hstep]⟩ (by omega) rfl rfl
        · have hx2 : q.x = x.lo ∧ x.hi < q.y := by unfold gtP pntOf at hg; simp at hg; omega
          have f1 := eq_false hx1
          have f2 := eq_true hx2.1
          have f3 := eq_true hx2.2
          simp -implicitDefEqProofs (disch := first | omega | (simp only [go_sem, ↓reduceIte, Nat.reduceLT, Nat.reduceEqDiff, Nat.reduceAdd, Nat.reduceSub, Nat.reduceMul, Nat.reduceLeDiff, reduceCtorEq, Int.reduceLE, Int.reduceLT, Int.reduceNeg, Int.reduceToNat, Nat.reduceSubDiff, Nat.reducePow, f0, e1, hq2, f1, f2, f3]; first | done | omega)) only [go_sem, ↓reduceIte, Nat.reduceLT, Nat.reduceEqDiff, Nat.reduceAdd, Nat.reduceSub, Nat.reduceMul, Nat.reduceLeDiff, reduceCtorEq, Int.reduceLE, Int.reduceLT, Int.reduceNeg, Int.reduceToNat, Nat.reduceSubDiff, Nat.reducePow, f0, e1, hq2, f1, f2, f3]
          exact again' (j - 1) ⟨by omega, by rw [hp, hstep]⟩ (by omega) rfl rfl
      · rw [if_neg hg] at hstep
        have hx1 : ¬ x.lo < q.x ∧ (¬ q.x = x.lo ∨ ¬ x.hi < q.y) := by unfold gtP pntOf at hg; simp at hg; omega
        have f1 := eq_false hx1.1
        by_cases hx2 : q.x = x.lo
        · have f2 := eq_true hx2
          have f3 : (x.hi < q.y) = False := eq_false (by omega)
          simp -implicitDefEqProofs (disch := first | omega | (simp only [go_sem, ↓reduceIte, Nat.reduceLT, Nat.reduceEqDiff, Nat.reduceAdd, Nat.reduceSub, Nat.reduceMul, Nat.reduceLeDiff, reduceCtorEq, Int.reduceLE, Int.reduceLT, Int.reduceNeg, Int.reduceToNat, Nat.reduceSubDiff, Nat.reducePow, f0, e1, hq2, f1, f2, f3]; first | done | omega)) only [go_sem, ↓reduceIte, Nat.reduceLT, Nat.reduceEqDiff, Nat.reduceAdd, Nat.reduceSub, Nat.reduceMul, Nat.reduceLeDiff, reduceCtorEq, Int.reduceLE, Int.reduceLT, Int.reduceNeg, Int.reduceToNat, Nat.reduceSubDiff, Nat.reducePow, f0, e1, hq2, f1, f2, f3]
          have hsl2 := hsl2 (hp.trans hstep)
          (obtain ⟨A, B, u1, u2, hAB, a1, b1, a2, b2, a3, b3, stop⟩ := hsl2; have hokA := encPnt_ok A; have hokB := encPnt_ok B; simp -implicitDefEqProofs (disch := first | omega | (simp only [go_sem, ↓reduceIte, Nat.reduceLT, Nat.reduceEqDiff, Nat.reduceAdd, Nat.reduceSub, Nat.reduceMul, Nat.reduceLeDiff, reduceCtorEq, Int.reduceLE, Int.reduceLT, Int.reduceNeg, Int.reduceToNat, Nat.reduceSubDiff, Nat.reducePow, a1, a2, b1, b2, hokA, hokB]; first | done | omega)) only [go_sem, ↓reduceIte, Nat.reduceLT, Nat.reduceEqDiff, Nat.reduceAdd, Nat.reduceSub, Nat.reduceMul, Nat.reduceLeDiff, reduceCtorEq, Int.reduceLE, Int.reduceLT, Int.reduceNeg, Int.reduceToNat, Nat.reduceSubDiff, Nat.reducePow, a1, a2, b1, b2, hokA, hokB]; (refine ⟨by (try simp only [href, a3, b3]); simp [pairsOk, okPair, apartL, refs, refs1], ?_⟩); (try simp -implicitDefEqProofs (disch := first | omega | (simp only [go_sem, ↓reduceIte, Nat.reduceLT, Nat.reduceEqDiff, Nat.reduceAdd, Nat.reduceSub, Nat.reduceMul, Nat.reduceLeDiff, reduceCtorEq, Int.reduceLE, Int.reduceLT, Int.reduceNeg, Int.reduceToNat, Nat.reduceSubDiff, Nat.reducePow]; first | done | omega)) only [go_sem, ↓reduceIte, Nat.reduceLT, Nat.reduceEqDiff, Nat.reduceAdd, Nat.reduceSub, Nat.reduceMul, Nat.reduceLeDiff, reduceCtorEq, Int.reduceLE, Int.reduceLT, Int.reduceNeg, Int.reduceToNat, Nat.reduceSubDiff, Nat.reducePow]); refine Wp_cut_at hM rfl 0 (by simp) (by first | done | (simp only [go_sem, ↓reduceIte, Nat.reduceLT, Nat.reduceEqDiff, Nat.reduceAdd, Nat.reduceSub, Nat.reduceMul, Nat.reduceLeDiff, reduceCtorEq, Int.reduceLE, Int.reduceLT, Int.reduceNeg, Int.reduceToNat, Nat.reduceSubDiff, Nat.reducePow, encPnt_low] <;> first | done | (refine ⟨?_, ?_⟩ <;> omega) | omega)) (lowL_mk (by first | done | (simp only [go_sem, ↓reduceIte, Nat.reduceLT, Nat.reduceEqDiff, Nat.reduceAdd, Nat.reduceSub, Nat.reduceMul, Nat.reduceLeDiff, reduceCtorEq, Int.reduceLE, Int.reduceLT, Int.reduceNeg, Int.reduceToNat, Nat.reduceSubDiff, Nat.reducePow, encPnt_low] <;> first | done | (refine ⟨?_, ?_⟩ <;> omega) | omega))) ?_; simp -implicitDefEqProofs (disch := first | omega | (simp only [go_sem, ↓reduceIte, Nat.reduceLT, Nat.reduceEqDiff, Nat.reduceAdd, Nat.reduceSub, Nat.reduceMul, Nat.reduceLeDiff, reduceCtorEq, Int.reduceLE, Int.reduceLT, Int.reduceNeg, Int.reduceToNat, Nat.reduceSubDiff, Nat.reducePow]; first | done | omega)) only [go_sem, ↓reduceIte, Nat.reduceLT, Nat.reduceEqDiff, Nat.reduceAdd, Nat.reduceSub, Nat.reduceMul, Nat.reduceLeDiff, reduceCtorEq, Int.reduceLE, Int.reduceLT, Int.reduceNeg, Int.reduceToNat, Nat.reduceSubDiff, Nat.reducePow]; exact again' (k + 1) (by omega) (by omega) rfl (by rw [hs1, if_neg (by omega), stop]; simp))
        · have f2 := eq_false hx2
          simp -implicitDefEqProofs (disch := first | omega | (simp only [go_sem, ↓reduceIte, Nat.reduceLT, Nat.reduceEqDiff, Nat.reduceAdd, Nat.reduceSub, Nat.reduceMul, Nat.reduceLeDiff, reduceCtorEq, Int.reduceLE, Int.reduceLT, Int.reduceNeg, Int.reduceToNat, Nat.reduceSubDiff, Nat.reducePow, f0, e1, hq2, f1, f2]; first | done | omega)) only [go_sem, ↓reduceIte, Nat.reduceLT, Nat.reduceEqDiff, Nat.reduceAdd, Nat.reduceSub, Nat.reduceMul, Nat.reduceLeDiff, reduceCtorEq, Int.reduceLE, Int.reduceLT, Int.reduceNeg, Int.reduceToNat, Nat.reduceSubDiff, Nat.reducePow, f0, e1, hq2, f1, f2]
          have hsl2 := hsl2 (hp.trans hstep)
          (obtain ⟨A, B, u1, u2, hAB, a1, b1, a2, b2, a3, b3, stop⟩ := hsl2; have hokA := encPnt_ok A; have hokB := encPnt_ok B; simp -implicitDefEqProofs (disch := first | omega | (simp only [go_sem, ↓reduceIte, Nat.reduceLT, Nat.reduceEqDiff, Nat.reduceAdd, Nat.reduceSub, Nat.reduceMul, Nat.reduceLeDiff, reduceCtorEq, Int.reduceLE, Int.reduceLT, Int.reduceNeg, Int.reduceToNat, Nat.reduceSubDiff, Nat.reducePow, a1, a2, b1, b2, hokA, hokB]; first | done | omega)) only [go_sem, ↓reduceIte, Nat.reduceLT, Nat.reduceEqDiff, Nat.reduceAdd, Nat.reduceSub, Nat.reduceMul, Nat.reduceLeDiff, reduceCtorEq, Int.reduceLE, Int.reduceLT, Int.reduceNeg, Int.reduceToNat, Nat.reduceSubDiff, Nat.reducePow, a1, a2, b1, b2, hokA, hokB]; (refine ⟨by (try simp only [href, a3, b3]); simp [pairsOk, okPair, apartL, refs, refs1], ?_⟩); (try simp -implicitDefEqProofs (disch := first | omega | (simp only [go_sem, ↓reduceIte, Nat.reduceLT, Nat.reduceEqDiff, Nat.reduceAdd, Nat.reduceSub, Nat.reduceMul, Nat.reduceLeDiff, reduceCtorEq, Int.reduceLE, Int.reduceLT, Int.reduceNeg, Int.reduceToNat, Nat.reduceSubDiff, Nat.reducePow]; first | done | omega)) only [go_sem, ↓reduceIte, Nat.reduceLT, Nat.reduceEqDiff, Nat.reduceAdd, Nat.reduceSub, Nat.reduceMul, Nat.reduceLeDiff, reduceCtorEq, Int.reduceLE, Int.reduceLT, Int.reduceNeg, Int.reduceToNat, Nat.reduceSubDiff, Nat.reducePow]); refine Wp_cut_at hM rfl 0 (by simp) (by first | done | (simp only [go_sem, ↓reduceIte, Nat.reduceLT, Nat.reduceEqDiff, Nat.reduceAdd, Nat.reduceSub, Nat.reduceMul, Nat.reduceLeDiff, reduceCtorEq, Int.reduceLE, Int.reduceLT, Int.reduceNeg, Int.reduceToNat, Nat.reduceSubDiff, Nat.reducePow, encPnt_low] <;> first | done | (refine ⟨?_, ?_⟩ <;> omega) | omega)) (lowL_mk (by first | done | (simp only [go_sem, ↓reduceIte, Nat.reduceLT, Nat.reduceEqDiff, Nat.reduceAdd, Nat.reduceSub, Nat.reduceMul, Nat.reduceLeDiff, reduceCtorEq, Int.reduceLE, Int.reduceLT, Int.reduceNeg, Int.reduceToNat, Nat.reduceSubDiff, Nat.reducePow, encPnt_low] <;> first | done | (refine ⟨?_, ?_⟩ <;> omega) | omega))) ?_; simp -implicitDefEqProofs (disch := first | omega | (simp only [go_sem, ↓reduceIte, Nat.reduceLT, Nat.reduceEqDiff, Nat.reduceAdd, Nat.reduceSub, Nat.reduceMul, Nat.reduceLeDiff, reduceCtorEq, Int.reduceLE, Int.reduceLT, Int.reduceNeg, Int.reduceToNat, Nat.reduceSubDiff, Nat.reducePow]; first | done | omega)) only [go_sem, ↓reduceIte, Nat.reduceLT, Nat.reduceEqDiff, Nat.reduceAdd, Nat.reduceSub, Nat.reduceMul, Nat.reduceLeDiff, reduceCtorEq, Int.reduceLE, Int.reduceLT, Int.reduceNeg, Int.reduceToNat, Nat.reduceSubDiff, Nat.reducePow]; exact again' (k + 1) (by omega) (by omega) rfl (by rw [hs1, if_neg (by omega), stop]; simp))
  · simp -implicitDefEqProofs (disch := first | omega | (simp only [go_sem, ↓reduceIte, Nat.reduceLT, Nat.reduceEqDiff, Nat.reduceAdd, Nat.reduceSub, Nat.reduceMul, Nat.reduceLeDiff, reduceCtorEq, Int.reduceLE, Int.reduceLT, Int.reduceNeg, Int.reduceToNat, Nat.reduceSubDiff, Nat.reducePow, hlt]; first | done | omega)) only [go_sem, ↓reduceIte, Nat.reduceLT, Nat.reduceEqDiff, Nat.reduceAdd, Nat.reduceSub, Nat.reduceMul, Nat.reduceLeDiff, reduceCtorEq, Int.reduceLE, Int.reduceLT, Int.reduceNeg, Int.reduceToNat, Nat.reduceSubDiff, Nat.reducePow, hlt]
    rw [List.take_of_length_le (by omega)]
    (first | refine post_fin ret_ok hM rfl ?_ ?_ | refine post_fin0 ret_ok hM rfl ?_ ?_ | refine post_fin normal_ok hM rfl ?_ ?_ | refine post_fin0 normal_ok hM rfl ?_ ?_)
    · by_cases h0 : k = 0
      · subst h0
        have : l = [] := List.eq_nil_of_length_eq_zero (by omega)
        subst this; rfl
      · rw [if_neg h0]; rfl
    · (simp only [go_sem, ↓reduceIte, Nat.reduceLT, Nat.reduceEqDiff, Nat.reduceAdd, Nat.reduceSub, Nat.reduceMul, Nat.reduceLeDiff, reduceCtorEq, Int.reduceLE, Int.reduceLT, Int.reduceNeg, Int.reduceToNat, Nat.reduceSubDiff, Nat.reducePow, encPnt_low] <;> first | done | omega)
end
end Go.Nac.L1
set_option linter.unusedSimpArgs false
set_option linter.unusedVariables false
set_option linter.unnecessarySimpa false
set_option maxRecDepth 10000
namespace Go.Nac.L1
attribute [local congr] b1_congr b2_congr Wp_congr wpOps_congr thenK_congr blockK_congr gK_congr cK_congr
section
variable {X : FuncId → List PV → PV → Prop}
theorem neg_chk {l : List Int} (h : chkLoads l = 0) : chkLoads (l.map fun x => -x) = 0 := by
  have := chkLoads_zero.1 h
  refine chkLoads_zero.2 ⟨by simpa using this.1, fun x hx => ?_⟩
  obtain ⟨y, hy, rfl⟩ := List.mem_map.1 hx
  have := this.2 y hy; omega
theorem q_law07_LoadMirrors (l : List Int) : Q X 7 [.fs (l.map .I)] (.B true) := by
  intro M
  (refine ACall_fn (cf := L1.c7) rfl rfl fun hM hA => ?_; simp only [L1.c7]; rw [mk1 _ (by decide)]; simp -implicitDefEqProofs (disch := first | omega | (simp only [go_sem, ↓reduceIte, Nat.reduceLT, Nat.reduceEqDiff, Nat.reduceAdd, Nat.reduceSub, Nat.reduceMul, Nat.reduceLeDiff, reduceCtorEq, Int.reduceLE, Int.reduceLT, Int.reduceNeg, Int.reduceToNat, Nat.reduceSubDiff, Nat.reducePow]; first | done | omega)) only [go_sem, ↓reduceIte, Nat.reduceLT, Nat.reduceEqDiff, Nat.reduceAdd, Nat.reduceSub, Nat.reduceMul, Nat.reduceLeDiff, reduceCtorEq, Int.reduceLE, Int.reduceLT, Int.reduceNeg, Int.reduceToNat, Nat.reduceSubDiff, Nat.reducePow])
  refine callP_q (q_law07_awake _) ?_
  by_cases h1 : l.length ≤ 24
  · have f1 : ((24 : Int) < l.length) = False := eq_false (by omega)
    simp -implicitDefEqProofs (disch := first | omega | (simp only [go_sem, ↓reduceIte, Nat.reduceLT, Nat.reduceEqDiff, Nat.reduceAdd, Nat.reduceSub, Nat.reduceMul, Nat.reduceLeDiff, reduceCtorEq, Int.reduceLE, Int.reduceLT, Int.reduceNeg, Int.reduceToNat, Nat.reduceSubDiff, Nat.reducePow, f1]; first | done | omega)) only [go_sem, ↓reduceIte, Nat.reduceLT, Nat.reduceEqDiff, Nat.reduceAdd, Nat.reduceSub, Nat.reduceMul, Nat.reduceLeDiff, reduceCtorEq, Int.reduceLE, Int.reduceLT, Int.reduceNeg, Int.reduceToNat, Nat.reduceSubDiff, Nat.reducePow, f1]
    refine callP_q (q_ref07_CheckLoads l (by omega) _) ?_
    by_cases h2 : chkLoads l = 0
    · simp -implicitDefEqProofs (disch := first | omega | (simp only [go_sem, ↓reduceIte, Nat.reduceLT, Nat.reduceEqDiff, Nat.reduceAdd, Nat.reduceSub, Nat.reduceMul, Nat.reduceLeDiff, reduceCtorEq, Int.reduceLE, Int.reduceLT, Int.reduceNeg, Int.reduceToNat, Nat.reduceSubDiff, Nat.reducePow, h2]; first | done | omega)) only [go_sem, ↓reduceIte, Nat.reduceLT, Nat.reduceEqDiff, Nat.reduceAdd, Nat.reduceSub, Nat.reduceMul, Nat.reduceLeDiff, reduceCtorEq, Int.reduceLE, Int.reduceLT, Int.reduceNeg, Int.reduceToNat, Nat.reduceSubDiff, Nat.reducePow, h2]
      refine loop_mk (α := Nat) 0 (fun k => k ≤ l.length ∧ ∀ r ∈ l.take k, -16384 ≤ r ∧ r ≤ 16384) (fun k => M ++ [.row true 1 k ((l.reverse.take k).map .I), .row true 1 k (((l.take k).map fun x => -x).map .I), .row true 1 k (((l.take k).map fun x => 2 * x).map .I)])
        (fun k => [(0, .fs (l.map .I)), (3, .os M.length k 0 k), (4, .os (M.length + 1) k 0 k), (5, .os (M.length + 2) k 0 k), (44, .fs (l.map .I)), (45, .I l.length), (46, .I k)]) (fun k => l.length - k) ⟨Nat.zero_le _, by simp⟩ rfl rfl ?_
      rintro k ⟨hk, hks⟩
      by_cases hlt : k < l.length
      · obtain ⟨r, g1⟩ : ∃ x, l[k]? = some x := ⟨_, List.getElem?_eq_getElem hlt⟩
        obtain ⟨y, g2⟩ : ∃ x, l[l.length - 1 - k]? = some x := ⟨_, List.getElem?_eq_getElem (by omega)⟩
        have g3 : l.reverse[k]? = some y := by rw [List.getElem?_reverse hlt]; exact g2
        have h24 : (k : Int) ≤ 24 := by omega
        by_cases h5 : -16384 ≤ r ∧ r ≤ 16384
        · have f5 : ((16384 : Int) < r) = False := eq_false (by omega)
          have f6 : (r < (-16384 : Int)) = False := eq_false (by omega)
          have e1 : (l.length : Int) - 1 - k = ((l.length - 1 - k : Nat) : Int) := by omega
          have hr1 : k = ((l.reverse.take k).map PV.I).length := by simp; omega
          have hr2 : k = (((l.take k).map fun x => -x).map PV.I).length := by simp; omega
          have hr3 : k = (((l.take k).map fun x => 2 * x).map PV.I).length := by simp; omega
          simp -implicitDefEqProofs (disch := first | omega | (simp only [go_sem, ↓reduceIte, Nat.reduceLT, Nat.reduceEqDiff, Nat.reduceAdd, Nat.reduceSub, Nat.reduceMul, Nat.reduceLeDiff, reduceCtorEq, Int.reduceLE, Int.reduceLT, Int.reduceNeg, Int.reduceToNat, Nat.reduceSubDiff, Nat.reducePow, hlt, g1, g2, f5, f6, e1]; first | done | omega)) only [go_sem, ↓reduceIte, Nat.reduceLT, Nat.reduceEqDiff, Nat.reduceAdd, Nat.reduceSub, Nat.reduceMul, Nat.reduceLeDiff, reduceCtorEq, Int.reduceLE, Int.reduceLT, Int.reduceNeg, Int.reduceToNat, Nat.reduceSubDiff, Nat.reducePow, hlt, g1, g2, f5, f6, e1]
          refine again' (k + 1) ⟨by omega, fun y hy => ?_⟩ (by omega) ?_ rfl
          · obtain ⟨q2, q3⟩ := List.getElem?_eq_some_iff.1 g1
            rw [List.take_succ_eq_append_getElem q2, q3] at hy
            rcases List.mem_append.1 hy with hy | hy
            · exact hks y hy
            · simp at hy; subst hy; exact h5
          · have e2 := take_snoc (f := fun x : Int => PV.I (-x)) g1
            have e3 := take_snoc (f := fun x : Int => PV.I (2 * x)) g1
            rw [take_snoc g3, e2, e3]
        · by_cases h6 : (16384 : Int) < r
          · simp -implicitDefEqProofs (disch := first | omega | (simp only [go_sem, ↓reduceIte, Nat.reduceLT, Nat.reduceEqDiff, Nat.reduceAdd, Nat.reduceSub, Nat.reduceMul, Nat.reduceLeDiff, reduceCtorEq, Int.reduceLE, Int.reduceLT, Int.reduceNeg, Int.reduceToNat, Nat.reduceSubDiff, Nat.reducePow, hlt, g1, h6]; first | done | omega)) only [go_sem, ↓reduceIte, Nat.reduceLT, Nat.reduceEqDiff, Nat.reduceAdd, Nat.reduceSub, Nat.reduceMul, Nat.reduceLeDiff, reduceCtorEq, Int.reduceLE, Int.reduceLT, Int.reduceNeg, Int.reduceToNat, Nat.reduceSubDiff, Nat.reducePow, hlt, g1, h6]
            refine callP_q (q_law07_awake _) ?_
            simp -implicitDefEqProofs (disch := first | omega | (simp only [go_sem, ↓reduceIte, Nat.reduceLT, Nat.reduceEqDiff, Nat.reduceAdd, Nat.reduceSub, Nat.reduceMul, Nat.reduceLeDiff, reduceCtorEq, Int.reduceLE, Int.reduceLT, Int.reduceNeg, Int.reduceToNat, Nat.reduceSubDiff, Nat.reducePow]; first | done | omega)) only [go_sem, ↓reduceIte, Nat.reduceLT, Nat.reduceEqDiff, Nat.reduceAdd, Nat.reduceSub, Nat.reduceMul, Nat.reduceLeDiff, reduceCtorEq, Int.reduceLE, Int.reduceLT, Int.reduceNeg, Int.reduceToNat, Nat.reduceSubDiff, Nat.reducePow]
            (all_goals (first | refine post_fin ret_ok hM rfl ?_ ?_ | refine post_fin0 ret_ok hM rfl ?_ ?_ | refine post_fin normal_ok hM rfl ?_ ?_ | refine post_fin0 normal_ok hM rfl ?_ ?_); all_goals first | (simp only [go_sem, ↓reduceIte, Nat.reduceLT, Nat.reduceEqDiff, Nat.reduceAdd, Nat.reduceSub, Nat.reduceMul, Nat.reduceLeDiff, reduceCtorEq, Int.reduceLE, Int.reduceLT, Int.reduceNeg, Int.reduceToNat, Nat.reduceSubDiff, Nat.reducePow, encI_low] <;> first | done | omega) | skip; all_goals (try simp -implicitDefEqProofs (disch := first | omega | (simp only [go_sem, ↓reduceIte, Nat.reduceLT, Nat.reduceEqDiff, Nat.reduceAdd, Nat.reduceSub, Nat.reduceMul, Nat.reduceLeDiff, reduceCtorEq, Int.reduceLE, Int.reduceLT, Int.reduceNeg, Int.reduceToNat, Nat.reduceSubDiff, Nat.reducePow]; first | done | omega)) only [go_sem, ↓reduceIte, Nat.reduceLT, Nat.reduceEqDiff, Nat.reduceAdd, Nat.reduceSub, Nat.reduceMul, Nat.reduceLeDiff, reduceCtorEq, Int.reduceLE, Int.reduceLT, Int.reduceNeg, Int.reduceToNat, Nat.reduceSubDiff, Nat.reducePow]))
          · have f6 : (r < (-16384 : Int)) = True := eq_true (by omega)
            simp -implicitDefEqProofs (disch := first | omega | (simp only [go_sem, ↓reduceIte, Nat.reduceLT, Nat.reduceEqDiff, Nat.reduceAdd, Nat.reduceSub, Nat.reduceMul, Nat.reduceLeDiff, reduceCtorEq, Int.reduceLE, Int.reduceLT, Int.reduceNeg, Int.reduceToNat, Nat.reduceSubDiff, Nat.reducePow, hlt, g1, h6, f6]; first | done | omega)) only [go_sem, ↓reduceIte, Nat.reduceLT, Nat.reduceEqDiff, Nat.reduceAdd, Nat.reduceSub, Nat.reduceMul, Nat.reduceLeDiff, reduceCtorEq, Int.reduceLE, Int.reduceLT, Int.reduceNeg, Int.reduceToNat, Nat.reduceSubDiff, Nat.reducePow, hlt, g1, h6, f6]
            refine callP_q (q_law07_awake _) ?_
            simp -implicitDefEqProofs (disch := first | omega | (simp only [go_sem, ↓reduceIte, Nat.reduceLT, Nat.reduceEqDiff, Nat.reduceAdd, Nat.reduceSub, Nat.reduceMul, Nat.reduceLeDiff, reduceCtorEq, Int.reduceLE, Int.reduceLT, Int.reduceNeg, Int.reduceToNat, Nat.reduceSubDiff, Nat.reducePow]; first | done | omega)) only [go_sem, ↓reduceIte, Nat.reduceLT, Nat.reduceEqDiff, Nat.reduceAdd, Nat.reduceSub, Nat.reduceMul, Nat.reduceLeDiff, reduceCtorEq, Int.reduceLE, Int.reduceLT, Int.reduceNeg, Int.reduceToNat, Nat.reduceSubDiff, Nat.reducePow]
            (all_goals (first | refine post_fin ret_ok hM rfl ?_ ?_ | refine post_fin0 ret_ok hM rfl ?_ ?_ | refine post_fin normal_ok hM rfl ?_ ?_ | refine post_fin0 normal_ok hM rfl ?_ ?_); all_goals first | (simp only [go_sem, ↓reduceIte, Nat.reduceLT, Nat.reduceEqDiff, Nat.reduceAdd, Nat.reduceSub, Nat.reduceMul, Nat.reduceLeDiff, reduceCtorEq, Int.reduceLE, Int.reduceLT, Int.reduceNeg, Int.reduceToNat, Nat.reduceSubDiff, Nat.reducePow, encI_low] <;> first | done | omega) | skip; all_goals (try simp -implicitDefEqProofs (disch := first | omega | (simp only [go_sem, ↓reduceIte, Nat.reduceLT, Nat.reduceEqDiff, Nat.reduceAdd, Nat.reduceSub, Nat.reduceMul, Nat.reduceLeDiff, reduceCtorEq, Int.reduceLE, Int.reduceLT, Int.reduceNeg, Int.reduceToNat, Nat.reduceSubDiff, Nat.reducePow]; first | done | omega)) only [go_sem, ↓reduceIte, Nat.reduceLT, Nat.reduceEqDiff, Nat.reduceAdd, Nat.reduceSub, Nat.reduceMul, Nat.reduceLeDiff, reduceCtorEq, Int.reduceLE, Int.reduceLT, Int.reduceNeg, Int.reduceToNat, Nat.reduceSubDiff, Nat.reducePow]))
      · rw [List.take_of_length_le (by omega)] at hks
        have hkl : k = l.length := by omega
        rw [List.take_of_length_le (by simp; omega : l.reverse.length ≤ k), List.take_of_length_le (by omega : l.length ≤ k)]
        subst hkl
        clear hk
        have cb : chkLoads l.reverse = 0 := by
          have := chkLoads_zero.1 h2
          exact chkLoads_zero.2 ⟨by simpa using this.1, fun x hx => this.2 x (by simpa using hx)⟩
        have cn := neg_chk h2
        have cd : chkLoads (l.map fun x => 2 * x) = 0 := by
          refine chkLoads_zero.2 ⟨by simp; omega, fun x hx => ?_⟩
          obtain ⟨y, hy, rfl⟩ := List.mem_map.1 hx
          have := hks y hy; omega
        obtain ⟨bk1, bk2⟩ := cnt_back h2
        obtain ⟨ng1, ng2⟩ := cnt_neg l
        obtain ⟨db1, db2⟩ := cnt_dbl l
        have qn := q_law07_counted (X := X) _ cn
        have qd := q_law07_counted (X := X) _ cd
        rw [ng1, ng2] at qn
        rw [db1, db2] at qd
        have hln := cntC_len l
        have hlb := cntC_len l.reverse
        rw [List.length_reverse] at hlb
        have hbl : (cntR l.reverse).length = (cntR l).length := by have := congrArg List.length bk2; simpa [lds] using this
        simp -implicitDefEqProofs (disch := first | omega | (simp only [go_sem, ↓reduceIte, Nat.reduceLT, Nat.reduceEqDiff, Nat.reduceAdd, Nat.reduceSub, Nat.reduceMul, Nat.reduceLeDiff, reduceCtorEq, Int.reduceLE, Int.reduceLT, Int.reduceNeg, Int.reduceToNat, Nat.reduceSubDiff, Nat.reducePow, hlt]; first | done | omega)) only [go_sem, ↓reduceIte, Nat.reduceLT, Nat.reduceEqDiff, Nat.reduceAdd, Nat.reduceSub, Nat.reduceMul, Nat.reduceLeDiff, reduceCtorEq, Int.reduceLE, Int.reduceLT, Int.reduceNeg, Int.reduceToNat, Nat.reduceSubDiff, Nat.reducePow, hlt]
        refine callP_q (q_law07_counted l h2 _) ?_
        simp -implicitDefEqProofs (disch := first | omega | (simp only [go_sem, ↓reduceIte, Nat.reduceLT, Nat.reduceEqDiff, Nat.reduceAdd, Nat.reduceSub, Nat.reduceMul, Nat.reduceLeDiff, reduceCtorEq, Int.reduceLE, Int.reduceLT, Int.reduceNeg, Int.reduceToNat, Nat.reduceSubDiff, Nat.reducePow]; first | done | omega)) only [go_sem, ↓reduceIte, Nat.reduceLT, Nat.reduceEqDiff, Nat.reduceAdd, Nat.reduceSub, Nat.reduceMul, Nat.reduceLeDiff, reduceCtorEq, Int.reduceLE, Int.reduceLT, Int.reduceNeg, Int.reduceToNat, Nat.reduceSubDiff, Nat.reducePow]
        refine callP_q (q_law07_counted _ cb _) ?_
        simp -implicitDefEqProofs (disch := first | omega | (simp only [go_sem, ↓reduceIte, Nat.reduceLT, Nat.reduceEqDiff, Nat.reduceAdd, Nat.reduceSub, Nat.reduceMul, Nat.reduceLeDiff, reduceCtorEq, Int.reduceLE, Int.reduceLT, Int.reduceNeg, Int.reduceToNat, Nat.reduceSubDiff, Nat.reducePow]; first | done | omega)) only [go_sem, ↓reduceIte, Nat.reduceLT, Nat.reduceEqDiff, Nat.reduceAdd, Nat.reduceSub, Nat.reduceMul, Nat.reduceLeDiff, reduceCtorEq, Int.reduceLE, Int.reduceLT, Int.reduceNeg, Int.reduceToNat, Nat.reduceSubDiff, Nat.reducePow]
        simp only [List.map_map] at qn qd ⊢
        refine callP_q (qn _) ?_
        simp -implicitDefEqProofs (disch := first | omega | (simp only [go_sem, ↓reduceIte, Nat.reduceLT, Nat.reduceEqDiff, Nat.reduceAdd, Nat.reduceSub, Nat.reduceMul, Nat.reduceLeDiff, reduceCtorEq, Int.reduceLE, Int.reduceLT, Int.reduceNeg, Int.reduceToNat, Nat.reduceSubDiff, Nat.reducePow]; first | done | omega)) only [go_sem, ↓reduceIte, Nat.reduceLT, Nat.reduceEqDiff, Nat.reduceAdd, Nat.reduceSub, Nat.reduceMul, Nat.reduceLeDiff, reduceCtorEq, Int.reduceLE, Int.reduceLT, Int.reduceNeg, Int.reduceToNat, Nat.reduceSubDiff, Nat.reducePow]
        refine callP_q (qd _) ?_
        simp -implicitDefEqProofs (disch := first | omega | (simp only [go_sem, ↓reduceIte, Nat.reduceLT, Nat.reduceEqDiff, Nat.reduceAdd, Nat.reduceSub, Nat.reduceMul, Nat.reduceLeDiff, reduceCtorEq, Int.reduceLE, Int.reduceLT, Int.reduceNeg, Int.reduceToNat, Nat.reduceSubDiff, Nat.reducePow]; first | done | omega)) only [go_sem, ↓reduceIte, Nat.reduceLT, Nat.reduceEqDiff, Nat.reduceAdd, Nat.reduceSub, Nat.reduceMul, Nat.reduceLeDiff, reduceCtorEq, Int.reduceLE, Int.reduceLT, Int.reduceNeg, Int.reduceToNat, Nat.reduceSubDiff, Nat.reducePow]
        refine callP_q (q_ref07_Values _ (by omega) _) ?_
        simp -implicitDefEqProofs (disch := first | omega | (simp only [go_sem, ↓reduceIte, Nat.reduceLT, Nat.reduceEqDiff, Nat.reduceAdd, Nat.reduceSub, Nat.reduceMul, Nat.reduceLeDiff, reduceCtorEq, Int.reduceLE, Int.reduceLT, Int.reduceNeg, Int.reduceToNat, Nat.reduceSubDiff, Nat.reducePow]; first | done | omega)) only [go_sem, ↓reduceIte, Nat.reduceLT, Nat.reduceEqDiff, Nat.reduceAdd, Nat.reduceSub, Nat.reduceMul, Nat.reduceLeDiff, reduceCtorEq, Int.reduceLE, Int.reduceLT, Int.reduceNeg, Int.reduceToNat, Nat.reduceSubDiff, Nat.reducePow]
        refine callP_q (q_ref07_Values _ (by omega) _) ?_
        simp -implicitDefEqProofs (disch := first | omega | (simp only [go_sem, ↓reduceIte, Nat.reduceLT, Nat.reduceEqDiff, Nat.reduceAdd, Nat.reduceSub, Nat.reduceMul, Nat.reduceLeDiff, reduceCtorEq, Int.reduceLE, Int.reduceLT, Int.reduceNeg, Int.reduceToNat, Nat.reduceSubDiff, Nat.reducePow]; first | done | omega)) only [go_sem, ↓reduceIte, Nat.reduceLT, Nat.reduceEqDiff, Nat.reduceAdd, Nat.reduceSub, Nat.reduceMul, Nat.reduceLeDiff, reduceCtorEq, Int.reduceLE, Int.reduceLT, Int.reduceNeg, Int.reduceToNat, Nat.reduceSubDiff, Nat.reducePow]
        have hve : valS (cntC l.reverse) = valS (cntC l) := valS_eq bk1
        rw [hve]
        refine callP_q (q_ref07_SamePoints _ _ (by rw [valS_len]; omega) _) ?_
        simp -implicitDefEqProofs (disch := first | omega | (simp only [go_sem, ↓reduceIte, Nat.reduceLT, Nat.reduceEqDiff, Nat.reduceAdd, Nat.reduceSub, Nat.reduceMul, Nat.reduceLeDiff, reduceCtorEq, Int.reduceLE, Int.reduceLT, Int.reduceNeg, Int.reduceToNat, Nat.reduceSubDiff, Nat.reducePow, hbl]; first | done | omega)) only [go_sem, ↓reduceIte, Nat.reduceLT, Nat.reduceEqDiff, Nat.reduceAdd, Nat.reduceSub, Nat.reduceMul, Nat.reduceLeDiff, reduceCtorEq, Int.reduceLE, Int.reduceLT, Int.reduceNeg, Int.reduceToNat, Nat.reduceSubDiff, Nat.reducePow, hbl]
        have hJl1 : ∀ n, (Blk.row false 1 l.length (List.map PV.I l.reverse)).low n := by intro n; (simp only [go_sem, ↓reduceIte, Nat.reduceLT, Nat.reduceEqDiff, Nat.reduceAdd, Nat.reduceSub, Nat.reduceMul, Nat.reduceLeDiff, reduceCtorEq, Int.reduceLE, Int.reduceLT, Int.reduceNeg, Int.reduceToNat, Nat.reduceSubDiff, Nat.reducePow, encI_low] <;> first | done | omega)
        have hJl2 : ∀ n, (Blk.row false 1 l.length (List.map (fun x => PV.I (-x)) l)).low n := by intro n; simp only [Blk.low]; exact lowL_map _ _ fun r => by simp [PV.low]
        have hJl3 : ∀ n, (Blk.row false 1 l.length (List.map (fun x => PV.I (2 * x)) l)).low n := by intro n; simp only [Blk.low]; exact lowL_map _ _ fun r => by simp [PV.low]
        generalize Blk.row false 1 l.length (List.map PV.I l.reverse) = J1 at hJl1 ⊢
        generalize Blk.row false 1 l.length (List.map (fun x => PV.I (-x)) l) = J2 at hJl2 ⊢
        generalize Blk.row false 1 l.length (List.map (fun x => PV.I (2 * x)) l) = J3 at hJl3 ⊢
        refine loop_mk (α := Nat) 0 (fun k => k ≤ (cntR l).length) (fun k => M ++ [J1, J2, J3]) (fun k => [(0, .fs (l.map .I)), (8, .fs ((cntC l).map encCyc)), (9, .fs ((cntR l).map encRev)), (12, .fs ((cntR l.reverse).map encRev)), (14, .fs ((cntC l).map fun c => encCyc (negC c))), (15, .fs ((cntR l).map fun r => encRev (mapR (fun x => -x) r))), (17, .fs ((cntC l).map fun c => encCyc (dblC c))), (18, .fs ((cntR l).map fun r => encRev (mapR (fun x => 2 * x) r))), (148, .I (cntR l).length), (149, .I k)]) (fun k => (cntR l).length - k) (Nat.zero_le _) rfl rfl ?_
        intro k hk
        by_cases hlt : k < (cntR l).length
        · obtain ⟨x, g1⟩ : ∃ x, (cntR l)[k]? = some x := ⟨_, List.getElem?_eq_getElem hlt⟩
          obtain ⟨y, g2⟩ : ∃ y, (cntR l.reverse)[(cntR l).length - 1 - k]? = some y := ⟨_, List.getElem?_eq_getElem (by omega)⟩
          have hxy : y.ld = x.ld := by
            have q1 : (lds (cntR l.reverse))[(cntR l).length - 1 - k]? = some y.ld := by unfold lds; rw [List.getElem?_map, g2]; rfl
            rw [bk2, List.getElem?_reverse (by simp [lds]; omega)] at q1
            have q2 : (lds (cntR l))[k]? = some x.ld := by unfold lds; rw [List.getElem?_map, g1]; rfl
            rw [show (lds (cntR l)).length - 1 - ((cntR l).length - 1 - k) = k by simp [lds]; omega, q2] at q1
            exact (Option.some.inj q1).symm
          have hx := cntR_at x (List.mem_of_getElem? g1)
          have hx2 := hks _ hx.2.2
          have e1 : ((cntR l).length : Int) - 1 - k = (((cntR l).length - 1 - k : Nat) : Int) := by omega
          have e2 : encRev (mapR (fun x => -x) x) = .agg [.I x.at_, .I (-x.ld)] := rfl
          have e3 : encRev (mapR (fun x => 2 * x) x) = .agg [.I x.at_, .I (2 * x.ld)] := rfl
          simp -implicitDefEqProofs (disch := first | omega | (simp only [go_sem, ↓reduceIte, Nat.reduceLT, Nat.reduceEqDiff, Nat.reduceAdd, Nat.reduceSub, Nat.reduceMul, Nat.reduceLeDiff, reduceCtorEq, Int.reduceLE, Int.reduceLT, Int.reduceNeg, Int.reduceToNat, Nat.reduceSubDiff, Nat.reducePow, hlt, g1, g2, hbl, e1, e2, e3, hxy, encRev_cells]; first | done | omega)) only [go_sem, ↓reduceIte, Nat.reduceLT, Nat.reduceEqDiff, Nat.reduceAdd, Nat.reduceSub, Nat.reduceMul, Nat.reduceLeDiff, reduceCtorEq, Int.reduceLE, Int.reduceLT, Int.reduceNeg, Int.reduceToNat, Nat.reduceSubDiff, Nat.reducePow, hlt, g1, g2, hbl, e1, e2, e3, hxy, encRev_cells]
          exact again' (k + 1) (by omega) (by omega) rfl rfl
        · simp -implicitDefEqProofs (disch := first | omega | (simp only [go_sem, ↓reduceIte, Nat.reduceLT, Nat.reduceEqDiff, Nat.reduceAdd, Nat.reduceSub, Nat.reduceMul, Nat.reduceLeDiff, reduceCtorEq, Int.reduceLE, Int.reduceLT, Int.reduceNeg, Int.reduceToNat, Nat.reduceSubDiff, Nat.reducePow, hlt]; first | done | omega)) only [go_sem, ↓reduceIte, Nat.reduceLT, Nat.reduceEqDiff, Nat.reduceAdd, Nat.reduceSub, Nat.reduceMul, Nat.reduceLeDiff, reduceCtorEq, Int.reduceLE, Int.reduceLT, Int.reduceNeg, Int.reduceToNat, Nat.reduceSubDiff, Nat.reducePow, hlt]
          refine loop_mk (α := Nat) 0 (fun k => k ≤ (cntC l).length) (fun k => M ++ [J1, J2, J3]) (fun k => [(0, .fs (l.map .I)), (9, .fs ((cntR l).map encRev)), (14, .fs ((cntC l).map fun c => encCyc (negC c))), (17, .fs ((cntC l).map fun c => encCyc (dblC c))), (234, .fs ((cntC l).map encCyc)), (235, .I (cntC l).length), (236, .I k)]) (fun k => (cntC l).length - k) (Nat.zero_le _) rfl rfl ?_
          clear hlt
          intro k hk
          by_cases hlt : k < (cntC l).length
          · obtain ⟨x, g1⟩ : ∃ x, (cntC l)[k]? = some x := ⟨_, List.getElem?_eq_getElem hlt⟩
            have hx := (chkCycs_zero.1 (cntR_chk h2).2).2 x (List.mem_of_getElem? g1)
            unfold goodC at hx
            have e2 : encCyc (negC x) = .agg [.I x.from_, .I x.to_, .I (-x.hi), .I (-x.lo)] := rfl
            have e3 : encCyc (dblC x) = .agg [.I x.from_, .I x.to_, .I (2 * x.lo), .I (2 * x.hi)] := rfl
            simp -implicitDefEqProofs (disch := first | omega | (simp only [go_sem, ↓reduceIte, Nat.reduceLT, Nat.reduceEqDiff, Nat.reduceAdd, Nat.reduceSub, Nat.reduceMul, Nat.reduceLeDiff, reduceCtorEq, Int.reduceLE, Int.reduceLT, Int.reduceNeg, Int.reduceToNat, Nat.reduceSubDiff, Nat.reducePow, hlt, g1, e2, e3, encCyc_cells]; first | done | omega)) only [go_sem, ↓reduceIte, Nat.reduceLT, Nat.reduceEqDiff, Nat.reduceAdd, Nat.reduceSub, Nat.reduceMul, Nat.reduceLeDiff, reduceCtorEq, Int.reduceLE, Int.reduceLT, Int.reduceNeg, Int.reduceToNat, Nat.reduceSubDiff, Nat.reducePow, hlt, g1, e2, e3, encCyc_cells]
            refine Wp_cut_at hM rfl 3 (by simp) (by first | done | (simp only [go_sem, ↓reduceIte, Nat.reduceLT, Nat.reduceEqDiff, Nat.reduceAdd, Nat.reduceSub, Nat.reduceMul, Nat.reduceLeDiff, reduceCtorEq, Int.reduceLE, Int.reduceLT, Int.reduceNeg, Int.reduceToNat, Nat.reduceSubDiff, Nat.reducePow, hJl1, hJl2, hJl3, encRev_low, encCyc_low] <;> first | done | (refine ⟨?_, ?_⟩ <;> omega) | omega)) (lowL_mk (by first | done | (simp only [go_sem, ↓reduceIte, Nat.reduceLT, Nat.reduceEqDiff, Nat.reduceAdd, Nat.reduceSub, Nat.reduceMul, Nat.reduceLeDiff, reduceCtorEq, Int.reduceLE, Int.reduceLT, Int.reduceNeg, Int.reduceToNat, Nat.reduceSubDiff, Nat.reducePow, hJl1, hJl2, hJl3, encRev_low, encCyc_low] <;> first | done | (refine ⟨?_, ?_⟩ <;> omega) | omega))) ?_
            simp -implicitDefEqProofs (disch := first | omega | (simp only [go_sem, ↓reduceIte, Nat.reduceLT, Nat.reduceEqDiff, Nat.reduceAdd, Nat.reduceSub, Nat.reduceMul, Nat.reduceLeDiff, reduceCtorEq, Int.reduceLE, Int.reduceLT, Int.reduceNeg, Int.reduceToNat, Nat.reduceSubDiff, Nat.reducePow]; first | done | omega)) only [go_sem, ↓reduceIte, Nat.reduceLT, Nat.reduceEqDiff, Nat.reduceAdd, Nat.reduceSub, Nat.reduceMul, Nat.reduceLeDiff, reduceCtorEq, Int.reduceLE, Int.reduceLT, Int.reduceNeg, Int.reduceToNat, Nat.reduceSubDiff, Nat.reducePow]
            exact again' (k + 1) (by omega) (by omega) rfl rfl
          · simp -implicitDefEqProofs (disch := first | omega | (simp only [go_sem, ↓reduceIte, Nat.reduceLT, Nat.reduceEqDiff, Nat.reduceAdd, Nat.reduceSub, Nat.reduceMul, Nat.reduceLeDiff, reduceCtorEq, Int.reduceLE, Int.reduceLT, Int.reduceNeg, Int.reduceToNat, Nat.reduceSubDiff, Nat.reducePow, hlt]; first | done | omega)) only [go_sem, ↓reduceIte, Nat.reduceLT, Nat.reduceEqDiff, Nat.reduceAdd, Nat.reduceSub, Nat.reduceMul, Nat.reduceLeDiff, reduceCtorEq, Int.reduceLE, Int.reduceLT, Int.reduceNeg, Int.reduceToNat, Nat.reduceSubDiff, Nat.reducePow, hlt]
            by_cases hd : (cntR l).length < 2
            · have f1 : ((cntR l).length : Int) < 2 := by omega
              simp -implicitDefEqProofs (disch := first | omega | (simp only [go_sem, ↓reduceIte, Nat.reduceLT, Nat.reduceEqDiff, Nat.reduceAdd, Nat.reduceSub, Nat.reduceMul, Nat.reduceLeDiff, reduceCtorEq, Int.reduceLE, Int.reduceLT, Int.reduceNeg, Int.reduceToNat, Nat.reduceSubDiff, Nat.reducePow, f1]; first | done | omega)) only [go_sem, ↓reduceIte, Nat.reduceLT, Nat.reduceEqDiff, Nat.reduceAdd, Nat.reduceSub, Nat.reduceMul, Nat.reduceLeDiff, reduceCtorEq, Int.reduceLE, Int.reduceLT, Int.reduceNeg, Int.reduceToNat, Nat.reduceSubDiff, Nat.reducePow, f1]
              (all_goals (first | refine post_fin ret_ok hM rfl ?_ ?_ | refine post_fin0 ret_ok hM rfl ?_ ?_ | refine post_fin normal_ok hM rfl ?_ ?_ | refine post_fin0 normal_ok hM rfl ?_ ?_); all_goals first | (simp only [go_sem, ↓reduceIte, Nat.reduceLT, Nat.reduceEqDiff, Nat.reduceAdd, Nat.reduceSub, Nat.reduceMul, Nat.reduceLeDiff, reduceCtorEq, Int.reduceLE, Int.reduceLT, Int.reduceNeg, Int.reduceToNat, Nat.reduceSubDiff, Nat.reducePow, hJl1, hJl2, hJl3] <;> first | done | omega) | skip; all_goals (try simp -implicitDefEqProofs (disch := first | omega | (simp only [go_sem, ↓reduceIte, Nat.reduceLT, Nat.reduceEqDiff, Nat.reduceAdd, Nat.reduceSub, Nat.reduceMul, Nat.reduceLeDiff, reduceCtorEq, Int.reduceLE, Int.reduceLT, Int.reduceNeg, Int.reduceToNat, Nat.reduceSubDiff, Nat.reducePow]; first | done | omega)) only [go_sem, ↓reduceIte, Nat.reduceLT, Nat.reduceEqDiff, Nat.reduceAdd, Nat.reduceSub, Nat.reduceMul, Nat.reduceLeDiff, reduceCtorEq, Int.reduceLE, Int.reduceLT, Int.reduceNeg, Int.reduceToNat, Nat.reduceSubDiff, Nat.reducePow]))
            · have f1 : ¬ ((cntR l).length : Int) < 2 := by omega
              obtain ⟨m1, m2, m3⟩ := mirror_close h2 h1 (by omega)
              have hrl := revs_ne (l := l)
              simp -implicitDefEqProofs (disch := first | omega | (simp only [go_sem, ↓reduceIte, Nat.reduceLT, Nat.reduceEqDiff, Nat.reduceAdd, Nat.reduceSub, Nat.reduceMul, Nat.reduceLeDiff, reduceCtorEq, Int.reduceLE, Int.reduceLT, Int.reduceNeg, Int.reduceToNat, Nat.reduceSubDiff, Nat.reducePow, f1]; first | done | omega)) only [go_sem, ↓reduceIte, Nat.reduceLT, Nat.reduceEqDiff, Nat.reduceAdd, Nat.reduceSub, Nat.reduceMul, Nat.reduceLeDiff, reduceCtorEq, Int.reduceLE, Int.reduceLT, Int.reduceNeg, Int.reduceToNat, Nat.reduceSubDiff, Nat.reducePow, f1]
              refine callP_q (q_law07_own _ (by omega) _) ?_
              simp -implicitDefEqProofs (disch := first | omega | (simp only [go_sem, ↓reduceIte, Nat.reduceLT, Nat.reduceEqDiff, Nat.reduceAdd, Nat.reduceSub, Nat.reduceMul, Nat.reduceLeDiff, reduceCtorEq, Int.reduceLE, Int.reduceLT, Int.reduceNeg, Int.reduceToNat, Nat.reduceSubDiff, Nat.reducePow]; first | done | omega)) only [go_sem, ↓reduceIte, Nat.reduceLT, Nat.reduceEqDiff, Nat.reduceAdd, Nat.reduceSub, Nat.reduceMul, Nat.reduceLeDiff, reduceCtorEq, Int.reduceLE, Int.reduceLT, Int.reduceNeg, Int.reduceToNat, Nat.reduceSubDiff, Nat.reducePow]
              refine callP_q (q_load_Closed _ (by omega) _) ?_
              rw [m1]
              simp -implicitDefEqProofs (disch := first | omega | (simp only [go_sem, ↓reduceIte, Nat.reduceLT, Nat.reduceEqDiff, Nat.reduceAdd, Nat.reduceSub, Nat.reduceMul, Nat.reduceLeDiff, reduceCtorEq, Int.reduceLE, Int.reduceLT, Int.reduceNeg, Int.reduceToNat, Nat.reduceSubDiff, Nat.reducePow]; first | done | omega)) only [go_sem, ↓reduceIte, Nat.reduceLT, Nat.reduceEqDiff, Nat.reduceAdd, Nat.reduceSub, Nat.reduceMul, Nat.reduceLeDiff, reduceCtorEq, Int.reduceLE, Int.reduceLT, Int.reduceNeg, Int.reduceToNat, Nat.reduceSubDiff, Nat.reducePow]
              refine callP_q (q_law07_copied l (by omega) _) ?_
              simp -implicitDefEqProofs (disch := first | omega | (simp only [go_sem, ↓reduceIte, Nat.reduceLT, Nat.reduceEqDiff, Nat.reduceAdd, Nat.reduceSub, Nat.reduceMul, Nat.reduceLeDiff, reduceCtorEq, Int.reduceLE, Int.reduceLT, Int.reduceNeg, Int.reduceToNat, Nat.reduceSubDiff, Nat.reducePow]; first | done | omega)) only [go_sem, ↓reduceIte, Nat.reduceLT, Nat.reduceEqDiff, Nat.reduceAdd, Nat.reduceSub, Nat.reduceMul, Nat.reduceLeDiff, reduceCtorEq, Int.reduceLE, Int.reduceLT, Int.reduceNeg, Int.reduceToNat, Nat.reduceSubDiff, Nat.reducePow]
              refine callP_q (q_load_Reversals l (by omega) _) ?_
              simp -implicitDefEqProofs (disch := first | omega | (simp only [go_sem, ↓reduceIte, Nat.reduceLT, Nat.reduceEqDiff, Nat.reduceAdd, Nat.reduceSub, Nat.reduceMul, Nat.reduceLeDiff, reduceCtorEq, Int.reduceLE, Int.reduceLT, Int.reduceNeg, Int.reduceToNat, Nat.reduceSubDiff, Nat.reducePow, h2]; first | done | omega)) only [go_sem, ↓reduceIte, Nat.reduceLT, Nat.reduceEqDiff, Nat.reduceAdd, Nat.reduceSub, Nat.reduceMul, Nat.reduceLeDiff, reduceCtorEq, Int.reduceLE, Int.reduceLT, Int.reduceNeg, Int.reduceToNat, Nat.reduceSubDiff, Nat.reducePow, h2]
              refine callP_q (q_load_Greatest _ (by omega) _) ?_
              rw [m2]
              simp -implicitDefEqProofs (disch := first | omega | (simp only [go_sem, ↓reduceIte, Nat.reduceLT, Nat.reduceEqDiff, Nat.reduceAdd, Nat.reduceSub, Nat.reduceMul, Nat.reduceLeDiff, reduceCtorEq, Int.reduceLE, Int.reduceLT, Int.reduceNeg, Int.reduceToNat, Nat.reduceSubDiff, Nat.reducePow]; first | done | omega)) only [go_sem, ↓reduceIte, Nat.reduceLT, Nat.reduceEqDiff, Nat.reduceAdd, Nat.reduceSub, Nat.reduceMul, Nat.reduceLeDiff, reduceCtorEq, Int.reduceLE, Int.reduceLT, Int.reduceNeg, Int.reduceToNat, Nat.reduceSubDiff, Nat.reducePow]
              have hcl : (closeRes (cntR l)).length ≤ 1000 := by
                unfold closeRes joinRes
                rw [if_pos m1, if_neg (by intro e; rw [e] at hd; simp at hd)]
                split
                · have q1 := count_len (revsOf (cntR l ++ List.map (shR (closeShift (cntR l))) (cntR l)))
                  have q2 := revs_len (cntR l ++ List.map (shR (closeShift (cntR l))) (cntR l))
                  simp at q2; omega
                · exact Nat.zero_le _
              have hcb : ∀ c ∈ closeRes (cntR l), -32768 ≤ c.lo ∧ c.lo ≤ 32768 ∧ -32768 ≤ c.hi ∧ c.hi ≤ 32768 := by
                intro c hc
                unfold closeRes joinRes at hc
                rw [if_pos m1, if_neg (by intro e; rw [e] at hd; simp at hd)] at hc
                split at hc
                · obtain ⟨b, hb, d, hd2, rfl⟩ := count_cyc _ c hc
                  have hmem : ∀ b ∈ revsOf (cntR l ++ List.map (shR (closeShift (cntR l))) (cntR l)), -32768 ≤ b.ld ∧ b.ld ≤ 32768 := by
                    intro b hb
                    rcases List.mem_append.1 (revs_mem _ b hb) with hb | hb
                    · exact (chkLoads_zero.1 h2).2 _ (cntR_at b hb).2.2
                    · obtain ⟨z, hz, rfl⟩ := List.mem_map.1 hb
                      exact (chkLoads_zero.1 h2).2 _ (cntR_at z hz).2.2
                  have q1 := hmem b hb; have q2 := hmem d hd2
                  unfold mkCyc; simp only []; omega
                · simp [countOf] at hc
              generalize closeRes (cntR l) = cs at m3 hcl hcb ⊢
              generalize spread (revsOf (points l)) = sp at m3 ⊢
              refine loop_mk (α := Nat) 0 (fun k => k ≤ cs.length ∧ ∀ c ∈ cs.take k, c.hi - c.lo ≠ sp) (fun k => M ++ [J1, J2, J3]) (fun k => [(27, .I sp), (306, .fs (cs.map encCyc)), (307, .I cs.length), (308, .I k)]) (fun k => cs.length - k) ⟨Nat.zero_le _, by simp⟩ rfl rfl ?_
              clear hlt
              rintro k ⟨hk, hno⟩
              by_cases hlt : k < cs.length
              · obtain ⟨x, g1⟩ : ∃ x, cs[k]? = some x := ⟨_, List.getElem?_eq_getElem hlt⟩
                have hxb := hcb x (List.mem_of_getElem? g1)
                by_cases he : x.hi - x.lo = sp
                · simp -implicitDefEqProofs (disch := first | omega | (simp only [go_sem, ↓reduceIte, Nat.reduceLT, Nat.reduceEqDiff, Nat.reduceAdd, Nat.reduceSub, Nat.reduceMul, Nat.reduceLeDiff, reduceCtorEq, Int.reduceLE, Int.reduceLT, Int.reduceNeg, Int.reduceToNat, Nat.reduceSubDiff, Nat.reducePow, hlt, g1, encCyc_cells, he]; first | done | omega)) only [go_sem, ↓reduceIte, Nat.reduceLT, Nat.reduceEqDiff, Nat.reduceAdd, Nat.reduceSub, Nat.reduceMul, Nat.reduceLeDiff, reduceCtorEq, Int.reduceLE, Int.reduceLT, Int.reduceNeg, Int.reduceToNat, Nat.reduceSubDiff, Nat.reducePow, hlt, g1, encCyc_cells, he]
                  (all_goals (first | refine post_fin ret_ok hM rfl ?_ ?_ | refine post_fin0 ret_ok hM rfl ?_ ?_ | refine post_fin normal_ok hM rfl ?_ ?_ | refine post_fin0 normal_ok hM rfl ?_ ?_); all_goals first | (simp only [go_sem, ↓reduceIte, Nat.reduceLT, Nat.reduceEqDiff, Nat.reduceAdd, Nat.reduceSub, Nat.reduceMul, Nat.reduceLeDiff, reduceCtorEq, Int.reduceLE, Int.reduceLT, Int.reduceNeg, Int.reduceToNat, Nat.reduceSubDiff, Nat.reducePow, hJl1, hJl2, hJl3] <;> first | done | omega) | skip; all_goals (try simp -implicitDefEqProofs (disch := first | omega | (simp only [go_sem, ↓reduceIte, Nat.reduceLT, Nat.reduceEqDiff, Nat.reduceAdd, Nat.reduceSub, Nat.reduceMul, Nat.reduceLeDiff, reduceCtorEq, Int.reduceLE, Int.reduceLT, Int.reduceNeg, Int.reduceToNat, Nat.reduceSubDiff, Nat.reducePow]; first | done | omega)) only [go_sem, ↓reduceIte, Nat.reduceLT, Nat.reduceEqDiff, Nat.reduceAdd, Nat.reduceSub, Nat.reduceMul, Nat.reduceLeDiff, reduceCtorEq, Int.reduceLE, Int.reduceLT, Int.reduceNeg, Int.reduceToNat, Nat.reduceSubDiff, Nat.reducePow]))
                · simp -implicitDefEqProofs (disch := first | omega | (simp only [go_sem, ↓reduceIte, Nat.reduceLT, Nat.reduceEqDiff, Nat.reduceAdd, Nat.reduceSub, Nat.reduceMul, Nat.reduceLeDiff, reduceCtorEq, Int.reduceLE, Int.reduceLT, Int.reduceNeg, Int.reduceToNat, Nat.reduceSubDiff, Nat.reducePow, hlt, g1, encCyc_cells, he]; first | done | omega)) only [go_sem, ↓reduceIte, Nat.reduceLT, Nat.reduceEqDiff, Nat.reduceAdd, Nat.reduceSub, Nat.reduceMul, Nat.reduceLeDiff, reduceCtorEq, Int.reduceLE, Int.reduceLT, Int.reduceNeg, Int.reduceToNat, Nat.reduceSubDiff, Nat.reducePow, hlt, g1, encCyc_cells, he]
                  refine Wp_cut_at hM rfl 3 (by simp) (by first | done | (simp only [go_sem, ↓reduceIte, Nat.reduceLT, Nat.reduceEqDiff, Nat.reduceAdd, Nat.reduceSub, Nat.reduceMul, Nat.reduceLeDiff, reduceCtorEq, Int.reduceLE, Int.reduceLT, Int.reduceNeg, Int.reduceToNat, Nat.reduceSubDiff, Nat.reducePow, hJl1, hJl2, hJl3, encCyc_low] <;> first | done | (refine ⟨?_, ?_⟩ <;> omega) | omega)) (lowL_mk (by first | done | (simp only [go_sem, ↓reduceIte, Nat.reduceLT, Nat.reduceEqDiff, Nat.reduceAdd, Nat.reduceSub, Nat.reduceMul, Nat.reduceLeDiff, reduceCtorEq, Int.reduceLE, Int.reduceLT, Int.reduceNeg, Int.reduceToNat, Nat.reduceSubDiff, Nat.reducePow, hJl1, hJl2, hJl3, encCyc_low] <;> first | done | (refine ⟨?_, ?_⟩ <;> omega) | omega))) ?_
                  simp -implicitDefEqProofs (disch := first | omega | (simp only [go_sem, ↓reduceIte, Nat.reduceLT, Nat.reduceEqDiff, Nat.reduceAdd, Nat.reduceSub, Nat.reduceMul, Nat.reduceLeDiff, reduceCtorEq, Int.reduceLE, Int.reduceLT, Int.reduceNeg, Int.reduceToNat, Nat.reduceSubDiff, Nat.reducePow]; first | done | omega)) only [go_sem, ↓reduceIte, Nat.reduceLT, Nat.reduceEqDiff, Nat.reduceAdd, Nat.reduceSub, Nat.reduceMul, Nat.reduceLeDiff, reduceCtorEq, Int.reduceLE, Int.reduceLT, Int.reduceNeg, Int.reduceToNat, Nat.reduceSubDiff, Nat.reducePow]
                  refine again' (k + 1) ⟨by omega, fun c hc => ?_⟩ (by omega) rfl rfl
                  obtain ⟨q2, q3⟩ := List.getElem?_eq_some_iff.1 g1
                  rw [List.take_succ_eq_append_getElem q2, q3] at hc
                  rcases List.mem_append.1 hc with hc | hc
                  · exact hno c hc
                  · simp at hc; subst hc; exact he
              · rw [List.take_of_length_le (by omega)] at hno
                obtain ⟨c, q1, q2⟩ := m3
                exact absurd q2 (hno c q1)
    · simp -implicitDefEqProofs (disch := first | omega | (simp only [go_sem, ↓reduceIte, Nat.reduceLT, Nat.reduceEqDiff, Nat.reduceAdd, Nat.reduceSub, Nat.reduceMul, Nat.reduceLeDiff, reduceCtorEq, Int.reduceLE, Int.reduceLT, Int.reduceNeg, Int.reduceToNat, Nat.reduceSubDiff, Nat.reducePow, h2]; first | done | omega)) only [go_sem, ↓reduceIte, Nat.reduceLT, Nat.reduceEqDiff, Nat.reduceAdd, Nat.reduceSub, Nat.reduceMul, Nat.reduceLeDiff, reduceCtorEq, Int.reduceLE, Int.reduceLT, Int.reduceNeg, Int.reduceToNat, Nat.reduceSubDiff, Nat.reducePow, h2]
      refine callP_q (q_law07_awake _) ?_
      simp -implicitDefEqProofs (disch := first | omega | (simp only [go_sem, ↓reduceIte, Nat.reduceLT, Nat.reduceEqDiff, Nat.reduceAdd, Nat.reduceSub, Nat.reduceMul, Nat.reduceLeDiff, reduceCtorEq, Int.reduceLE, Int.reduceLT, Int.reduceNeg, Int.reduceToNat, Nat.reduceSubDiff, Nat.reducePow]; first | done | omega)) only [go_sem, ↓reduceIte, Nat.reduceLT, Nat.reduceEqDiff, Nat.reduceAdd, Nat.reduceSub, Nat.reduceMul, Nat.reduceLeDiff, reduceCtorEq, Int.reduceLE, Int.reduceLT, Int.reduceNeg, Int.reduceToNat, Nat.reduceSubDiff, Nat.reducePow]
      (all_goals (first | refine post_fin ret_ok hM rfl ?_ ?_ | refine post_fin0 ret_ok hM rfl ?_ ?_ | refine post_fin normal_ok hM rfl ?_ ?_ | refine post_fin0 normal_ok hM rfl ?_ ?_); all_goals first | (simp only [go_sem, ↓reduceIte, Nat.reduceLT, Nat.reduceEqDiff, Nat.reduceAdd, Nat.reduceSub, Nat.reduceMul, Nat.reduceLeDiff, reduceCtorEq, Int.reduceLE, Int.reduceLT, Int.reduceNeg, Int.reduceToNat, Nat.reduceSubDiff, Nat.reducePow] <;> first | done | omega) | skip; all_goals (try simp -implicitDefEqProofs (disch := first | omega | (simp only [go_sem, ↓reduceIte, Nat.reduceLT, Nat.reduceEqDiff, Nat.reduceAdd, Nat.reduceSub, Nat.reduceMul, Nat.reduceLeDiff, reduceCtorEq, Int.reduceLE, Int.reduceLT, Int.reduceNeg, Int.reduceToNat, Nat.reduceSubDiff, Nat.reducePow]; first | done | omega)) only [go_sem, ↓reduceIte, Nat.reduceLT, Nat.reduceEqDiff, Nat.reduceAdd, Nat.reduceSub, Nat.reduceMul, Nat.reduceLeDiff, reduceCtorEq, Int.reduceLE, Int.reduceLT, Int.reduceNeg, Int.reduceToNat, Nat.reduceSubDiff, Nat.reducePow]))
  · have f1 : ((24 : Int) < l.length) = True := eq_true (by omega)
    simp -implicitDefEqProofs (disch := first | omega | (simp only [go_sem, ↓reduceIte, Nat.reduceLT, Nat.reduceEqDiff, Nat.reduceAdd, Nat.reduceSub, Nat.reduceMul, Nat.reduceLeDiff, reduceCtorEq, Int.reduceLE, Int.reduceLT, Int.reduceNeg, Int.reduceToNat, Nat.reduceSubDiff, Nat.reducePow, f1]; first | done | omega)) only [go_sem, ↓reduceIte, Nat.reduceLT, Nat.reduceEqDiff, Nat.reduceAdd, Nat.reduceSub, Nat.reduceMul, Nat.reduceLeDiff, reduceCtorEq, Int.reduceLE, Int.reduceLT, Int.reduceNeg, Int.reduceToNat, Nat.reduceSubDiff, Nat.reducePow, f1]
    refine callP_q (q_law07_awake _) ?_
    simp -implicitDefEqProofs (disch := first | omega | (simp only [go_sem, ↓reduceIte, Nat.reduceLT, Nat.reduceEqDiff, Nat.reduceAdd, Nat.reduceSub, Nat.reduceMul, Nat.reduceLeDiff, reduceCtorEq, Int.reduceLE, Int.reduceLT, Int.reduceNeg, Int.reduceToNat, Nat.reduceSubDiff, Nat.reducePow]; first | done | omega)) only [go_sem, ↓reduceIte, Nat.reduceLT, Nat.reduceEqDiff, Nat.reduceAdd, Nat.reduceSub, Nat.reduceMul, Nat.reduceLeDiff, reduceCtorEq, Int.reduceLE, Int.reduceLT, Int.reduceNeg, Int.reduceToNat, Nat.reduceSubDiff, Nat.reducePow]
    (all_goals (first | refine post_fin ret_ok hM rfl ?_ ?_ | refine post_fin0 ret_ok hM rfl ?_ ?_ | refine post_fin normal_ok hM rfl ?_ ?_ | refine post_fin0 normal_ok hM rfl ?_ ?_); all_goals first | (simp only [go_sem, ↓reduceIte, Nat.reduceLT, Nat.reduceEqDiff, Nat.reduceAdd, Nat.reduceSub, Nat.reduceMul, Nat.reduceLeDiff, reduceCtorEq, Int.reduceLE, Int.reduceLT, Int.reduceNeg, Int.reduceToNat, Nat.reduceSubDiff, Nat.reducePow] <;> first | done | omega) | skip; all_goals (try simp -implicitDefEqProofs (disch := first | omega | (simp only [go_sem, ↓reduceIte, Nat.reduceLT, Nat.reduceEqDiff, Nat.reduceAdd, Nat.reduceSub, Nat.reduceMul, Nat.reduceLeDiff, reduceCtorEq, Int.reduceLE, Int.reduceLT, Int.reduceNeg, Int.reduceToNat, Nat.reduceSubDiff, Nat.reducePow]; first | done | omega)) only [go_sem, ↓reduceIte, Nat.reduceLT, Nat.reduceEqDiff, Nat.reduceAdd, Nat.reduceSub, Nat.reduceMul, Nat.reduceLeDiff, reduceCtorEq, Int.reduceLE, Int.reduceLT, Int.reduceNeg, Int.reduceToNat, Nat.reduceSubDiff, Nat.reducePow]))
end
end Go.Nac.L1

