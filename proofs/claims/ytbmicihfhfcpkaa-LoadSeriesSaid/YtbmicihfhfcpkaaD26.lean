import Derived.Test.YtbmicihfhfcpkaaD23
import Derived.Test.YtbmicihfhfcpkaaK17
set_option linter.unusedSimpArgs false
set_option linter.unusedVariables false
set_option linter.unnecessarySimpa false
set_option maxRecDepth 10000
namespace Go.Nac.L2
attribute [local congr] b1_congr b2_congr Wp_congr wpOps_congr thenK_congr blockK_congr gK_congr cK_congr
section
variable {X : FuncId → List PV → PV → Prop}
open Ieee
theorem ser_sample {l : List Nat} (h : fst0 (l.map smpE) = 0) {k x : Nat} (h1 : l[k]? = some x) : smpE x = 0 :=
  fst0_all h _ (List.mem_map.2 ⟨x, List.mem_of_getElem? h1, rfl⟩)
theorem smp_number {x : Nat} (h : smpE x = 0) : ∃ s m e, single.read x = .number s m e ∧ six x = fTr s m (e + 4) := by
  unfold smpE at h
  cases hr : single.read x with
  | number s m e => exact ⟨s, m, e, rfl, by unfold six; rw [hr]⟩
  | infinity s => rw [hr] at h; cases h
  | nan s t => rw [hr] at h; cases h
theorem ser_zero {s : Ser} (h : chkSer s = 0) : s.samples.length ≤ 40000 ∧ fst0 (s.samples.map smpE) = 0 ∧ s.gaps.length ≤ 1024 ∧ ∀ x : Spn, x ∈ s.gaps → 0 ≤ x.fr ∧ x.fr < x.to_ ∧ x.to_ ≤ s.samples.length := by
  rw [chkSer_eq] at h
  split at h
  · rename_i hA
    obtain ⟨_, _, h3⟩ := serA_zero hA
    unfold serB at h
    split at h
    · rename_i h1; exact absurd h h1
    · rename_i h1
      split at h
      · rename_i h2; exact absurd h h2
      · rename_i h2
        split at h
        · cases h
        · rename_i h4
          have h1 : fst0 (s.samples.map smpE) = 0 := by simpa using h1
          have h2 : chkSpns s.gaps = 0 := by simpa using h2
          refine ⟨h3, h1, ?_, gaps_in h2 (by simpa using h4)⟩
          unfold chkSpns at h2; split at h2
          · cases h2
          · omega
  · rename_i hA; exact absurd h hA
theorem q_load_OfSeries_bad (s : Ser) (hl : s.samples.length ≤ 1048576) (hgl : s.gaps.length ≤ 1048576) (h : ¬ chkSer s = 0) : Q X 7 [encSer s] (.tup [.fs [], .I (chkSer s)]) := by
  intro M
  have hq := q_site_CheckSeries (X := X) s hl hgl
  have G := eq_false h
  generalize chkSer s = e at hq G ⊢
  obtain ⟨nm, st, l, g⟩ := s
  (refine ACall_fn (cf := L2.c7) rfl rfl fun hM hA => ?_; simp only [L2.c7]; rw [mk1 _ (by decide)]; simp -implicitDefEqProofs (disch := first | omega | (simp only [go_sem, ↓reduceIte, reduceCtorEq, encSer_eq]; first | done | omega)) only [go_sem, ↓reduceIte, Nat.reduceLT, Nat.reduceEqDiff, Nat.reduceAdd, Nat.reduceSub, Nat.reduceMul, Nat.reduceLeDiff, reduceCtorEq, Int.reduceLE, Int.reduceLT, Int.reduceNeg, Int.reduceToNat, Nat.reduceSubDiff, Nat.reducePow, encSer_eq])
  rw [encSer_eq] at hq
  refine callP_q (hq _) ?_
  simp -implicitDefEqProofs (disch := first | omega | (simp only [go_sem, ↓reduceIte, reduceCtorEq, G]; first | done | omega)) only [go_sem, ↓reduceIte, Nat.reduceLT, Nat.reduceEqDiff, Nat.reduceAdd, Nat.reduceSub, Nat.reduceMul, Nat.reduceLeDiff, reduceCtorEq, Int.reduceLE, Int.reduceLT, Int.reduceNeg, Int.reduceToNat, Nat.reduceSubDiff, Nat.reducePow, G]
  (all_goals (first | refine post_fin ret_ok hM rfl ?_ ?_ | refine post_fin0 ret_ok hM rfl ?_ ?_ | refine post_fin normal_ok hM rfl ?_ ?_ | refine post_fin0 normal_ok hM rfl ?_ ?_); all_goals first | (simp only [go_sem, ↓reduceIte, Nat.reduceLT, Nat.reduceEqDiff, Nat.reduceAdd, Nat.reduceSub, Nat.reduceMul, Nat.reduceLeDiff, reduceCtorEq, Int.reduceLE, Int.reduceLT, Int.reduceNeg, Int.reduceToNat, Nat.reduceSubDiff, Nat.reducePow] <;> first | done | omega) | skip; all_goals (try simp -implicitDefEqProofs (disch := first | omega | (simp only [go_sem, ↓reduceIte, reduceCtorEq]; first | done | omega)) only [go_sem, ↓reduceIte, Nat.reduceLT, Nat.reduceEqDiff, Nat.reduceAdd, Nat.reduceSub, Nat.reduceMul, Nat.reduceLeDiff, reduceCtorEq, Int.reduceLE, Int.reduceLT, Int.reduceNeg, Int.reduceToNat, Nat.reduceSubDiff, Nat.reducePow]))
theorem q_load_OfSeries (s : Ser) (h : chkSer s = 0) : Q X 7 [encSer s] (.tup [.fs ((loadsK s.samples s.gaps s.samples.length).map .I), .I 0]) := by
  intro M
  obtain ⟨h1, h2, h3, hg⟩ := ser_zero h
  have hq := q_site_CheckSeries (X := X) s (by omega) (by omega)
  rw [h] at hq
  obtain ⟨nm, st, l, g⟩ := s
  simp only at h1 h2 h3 hg ⊢
  rw [encSer_eq] at hq ⊢
  simp only at hq ⊢
  have hrep := gone_zero l.length g
  (refine ACall_fn (cf := L2.c7) rfl rfl fun hM hA => ?_; simp only [L2.c7]; rw [mk1 _ (by decide)]; simp -implicitDefEqProofs (disch := first | omega | (simp only [go_sem, ↓reduceIte, reduceCtorEq]; first | done | omega)) only [go_sem, ↓reduceIte, Nat.reduceLT, Nat.reduceEqDiff, Nat.reduceAdd, Nat.reduceSub, Nat.reduceMul, Nat.reduceLeDiff, reduceCtorEq, Int.reduceLE, Int.reduceLT, Int.reduceNeg, Int.reduceToNat, Nat.reduceSubDiff, Nat.reducePow])
  refine callP_q (hq _) ?_
  simp -implicitDefEqProofs (disch := first | omega | (simp only [go_sem, ↓reduceIte, reduceCtorEq, hrep.symm]; first | done | omega)) only [go_sem, ↓reduceIte, Nat.reduceLT, Nat.reduceEqDiff, Nat.reduceAdd, Nat.reduceSub, Nat.reduceMul, Nat.reduceLeDiff, reduceCtorEq, Int.reduceLE, Int.reduceLT, Int.reduceNeg, Int.reduceToNat, Nat.reduceSubDiff, Nat.reducePow, hrep.symm]
  refine loop_mk (α := Nat) 0 (fun k => k ≤ g.length) (fun k => M ++ [.row true 1 0 (goneRow l.length g k)]) (fun k => [(1, .fp [.s (.string nm), .I st, .fs (l.map encF), .fs (g.map encSpn)]), (5, .os M.length 0 0 l.length), (23, .fs (g.map encSpn)), (24, .I g.length), (25, .I k)]) (fun k => g.length - k) (Nat.zero_le _) (by rw [hrep]) rfl ?_
  intro k hk
  by_cases hlt : k < g.length
  · obtain ⟨x, h1⟩ : ∃ x, g[k]? = some x := ⟨_, List.getElem?_eq_getElem hlt⟩
    have hx := hg x (List.mem_of_getElem? h1)
    obtain ⟨a, ha⟩ : ∃ a : Nat, x.fr = a := ⟨x.fr.toNat, by omega⟩
    obtain ⟨b, hb⟩ : ∃ b : Nat, x.to_ = b := ⟨x.to_.toNat, by omega⟩
    simp -implicitDefEqProofs (disch := first | omega | (simp only [go_sem, ↓reduceIte, reduceCtorEq, hlt, h1, encSpn_eq, ha, hb]; first | done | omega)) only [go_sem, ↓reduceIte, Nat.reduceLT, Nat.reduceEqDiff, Nat.reduceAdd, Nat.reduceSub, Nat.reduceMul, Nat.reduceLeDiff, reduceCtorEq, Int.reduceLE, Int.reduceLT, Int.reduceNeg, Int.reduceToNat, Nat.reduceSubDiff, Nat.reducePow, hlt, h1, encSpn_eq, ha, hb]
    refine loop_mk (α := Nat) a (fun j => a ≤ j ∧ j ≤ b) (fun j => M ++ [.row true 1 0 (innRow l.length g k x j), .row true 2 0 [.agg [.I a, .I b]]]) (fun j => [(1, .fp [.s (.string nm), .I st, .fs (l.map encF), .fs (g.map encSpn)]), (5, .os M.length 0 0 l.length), (7, .op (M.length + 1) 0 0 0), (8, .I j), (23, .fs (g.map encSpn)), (24, .I g.length), (25, .I k)]) (fun j => b - j) ⟨Nat.le_refl _, by omega⟩ (by rw [inn_start ha]) rfl ?_
    rintro j ⟨hj1, hj2⟩
    by_cases hj : j < b
    · have hget := inn_get (n := l.length) (g := g) (k := k) (x := x) (j := j) (i := j) (by omega)
      have hset := inn_set (n := l.length) (g := g) (k := k) (x := x) (j := j) (by omega) (by omega)
      have hjl : j < l.length := by omega
      have hlen := innRow_len l.length g k x j
      simp -implicitDefEqProofs (disch := first | omega | (simp only [go_sem, ↓reduceIte, reduceCtorEq, hj, hget, hset, hjl, hlen]; first | done | omega)) only [go_sem, ↓reduceIte, Nat.reduceLT, Nat.reduceEqDiff, Nat.reduceAdd, Nat.reduceSub, Nat.reduceMul, Nat.reduceLeDiff, reduceCtorEq, Int.reduceLE, Int.reduceLT, Int.reduceNeg, Int.reduceToNat, Nat.reduceSubDiff, Nat.reducePow, hj, hget, hset, hjl, hlen]
      exact again' (j + 1) ⟨by omega, by omega⟩ (by omega) rfl rfl
    · simp -implicitDefEqProofs (disch := first | omega | (simp only [go_sem, ↓reduceIte, reduceCtorEq, hj]; first | done | omega)) only [go_sem, ↓reduceIte, Nat.reduceLT, Nat.reduceEqDiff, Nat.reduceAdd, Nat.reduceSub, Nat.reduceMul, Nat.reduceLeDiff, reduceCtorEq, Int.reduceLE, Int.reduceLT, Int.reduceNeg, Int.reduceToNat, Nat.reduceSubDiff, Nat.reducePow, hj]
      have hjb : j = b := by omega
      have hend := inn_end h1 (n := l.length) hb
      subst hjb
      rw [hend]
      refine Wp_cut_at hM rfl 1 (by simp) (by first | done | (simp only [go_sem, ↓reduceIte, Nat.reduceLT, Nat.reduceEqDiff, Nat.reduceAdd, Nat.reduceSub, Nat.reduceMul, Nat.reduceLeDiff, reduceCtorEq, Int.reduceLE, Int.reduceLT, Int.reduceNeg, Int.reduceToNat, Nat.reduceSubDiff, Nat.reducePow, goneRow_low, encSpn_low, encF_low] <;> first | done | (refine ⟨?_, ?_⟩ <;> omega) | omega)) (lowL_mk (by first | done | (simp only [go_sem, ↓reduceIte, Nat.reduceLT, Nat.reduceEqDiff, Nat.reduceAdd, Nat.reduceSub, Nat.reduceMul, Nat.reduceLeDiff, reduceCtorEq, Int.reduceLE, Int.reduceLT, Int.reduceNeg, Int.reduceToNat, Nat.reduceSubDiff, Nat.reducePow, goneRow_low, encSpn_low, encF_low] <;> first | done | (refine ⟨?_, ?_⟩ <;> omega) | omega))) ?_
      simp -implicitDefEqProofs (disch := first | omega | (simp only [go_sem, ↓reduceIte, reduceCtorEq]; first | done | omega)) only [go_sem, ↓reduceIte, Nat.reduceLT, Nat.reduceEqDiff, Nat.reduceAdd, Nat.reduceSub, Nat.reduceMul, Nat.reduceLeDiff, reduceCtorEq, Int.reduceLE, Int.reduceLT, Int.reduceNeg, Int.reduceToNat, Nat.reduceSubDiff, Nat.reducePow]
      exact again' (k + 1) (by omega) (by omega) rfl rfl
  have hk : k = g.length := by omega
  subst hk
  have hlen := goneRow_len l.length g g.length
  simp -implicitDefEqProofs (disch := first | omega | (simp only [go_sem, ↓reduceIte, reduceCtorEq, hlen]; first | done | omega)) only [go_sem, ↓reduceIte, Nat.reduceLT, Nat.reduceEqDiff, Nat.reduceAdd, Nat.reduceSub, Nat.reduceMul, Nat.reduceLeDiff, reduceCtorEq, Int.reduceLE, Int.reduceLT, Int.reduceNeg, Int.reduceToNat, Nat.reduceSubDiff, Nat.reducePow, hlen]
  refine loop_mk (α := Nat) 0 (fun k => k ≤ l.length) (fun k => M ++ [.row true 1 0 (goneRow l.length g g.length), .row true 1 (loadsK l g k).length ((loadsK l g k).map .I)])
    (fun k => [(5, .os M.length 0 0 l.length), (9, .os (M.length + 1) (loadsK l g k).length 0 (loadsK l g k).length), (42, .fs (l.map encF)), (43, .I l.length), (44, .I k)]) (fun k => l.length - k) (Nat.zero_le _) rfl rfl ?_
  intro k hk
  by_cases hlt2 : k < l.length
  · obtain ⟨x, h4⟩ : ∃ x, l[k]? = some x := ⟨_, List.getElem?_eq_getElem hlt2⟩
    have hx0 := ser_sample h2 h4
    obtain ⟨s, m, e, hr, h6⟩ := smp_number hx0
    have hsm := six_small hx0
    have hrng : rng (fTr s m (e + 4)) (-32768) 32768 = 0 := by rw [← h6]; simp [rng]; omega
    rw [h6] at hsm
    obtain ⟨b1, b2, b3⟩ := read_single hr
    have F1 := s_ff hr
    have F2 := s_mul' (s := s) b1 (show -1074 ≤ e by omega) (show e ≤ 966 by omega)
    have F3 := s_fi (s := s) b1 (show -1070 ≤ e + 4 by omega) (show e + 4 ≤ 966 by omega) (by omega)
    have hget := gone_get (n := l.length) (g := g) (k := g.length) (i := k) hlt2
    rw [List.take_length] at hget
    have hs := loadsK_snoc (g := g) h4
    have hll := loadsK_len l g k
    rw [h6] at hs
    generalize loadsK l g k = L at hs hll ⊢
    have hLl : L.length = (L.map PV.I).length := by simp
    by_cases hga : gapAt g k = true
    · rw [if_pos hga, List.append_nil] at hs
      simp -implicitDefEqProofs (disch := first | omega | (simp only [go_sem, ↓reduceIte, reduceCtorEq, hlt2, h4, F1, F2, F3, hlen, hget, hga]; first | done | omega)) only [go_sem, ↓reduceIte, Nat.reduceLT, Nat.reduceEqDiff, Nat.reduceAdd, Nat.reduceSub, Nat.reduceMul, Nat.reduceLeDiff, reduceCtorEq, Int.reduceLE, Int.reduceLT, Int.reduceNeg, Int.reduceToNat, Nat.reduceSubDiff, Nat.reducePow, hlt2, h4, F1, F2, F3, hlen, hget, hga]
      exact again' (k + 1) (by omega) (by omega) (by rw [hs]) (by rw [hs]; rfl)
    · rw [if_neg hga] at hs
      have hga : gapAt g k = false := by simpa using hga
      simp -implicitDefEqProofs (disch := first | omega | (simp only [go_sem, ↓reduceIte, reduceCtorEq, hlt2, h4, F1, F2, F3, hlen, hget, hga]; first | done | omega)) only [go_sem, ↓reduceIte, Nat.reduceLT, Nat.reduceEqDiff, Nat.reduceAdd, Nat.reduceSub, Nat.reduceMul, Nat.reduceLeDiff, reduceCtorEq, Int.reduceLE, Int.reduceLT, Int.reduceNeg, Int.reduceToNat, Nat.reduceSubDiff, Nat.reducePow, hlt2, h4, F1, F2, F3, hlen, hget, hga]
      refine callP_q (q_load_checkLoad _ _) ?_
      have G := eq_true hrng
      simp -implicitDefEqProofs (disch := first | omega | (simp only [go_sem, ↓reduceIte, reduceCtorEq, G]; first | done | omega)) only [go_sem, ↓reduceIte, Nat.reduceLT, Nat.reduceEqDiff, Nat.reduceAdd, Nat.reduceSub, Nat.reduceMul, Nat.reduceLeDiff, reduceCtorEq, Int.reduceLE, Int.reduceLT, Int.reduceNeg, Int.reduceToNat, Nat.reduceSubDiff, Nat.reducePow, G]
      exact again' (k + 1) (by omega) (by omega) (by rw [hs]; simp) (by rw [hs]; simp)
  · have hk : k = l.length := by omega
    subst hk
    simp -implicitDefEqProofs (disch := first | omega | (simp only [go_sem, ↓reduceIte, reduceCtorEq, hlt2, hlen]; first | done | omega)) only [go_sem, ↓reduceIte, Nat.reduceLT, Nat.reduceEqDiff, Nat.reduceAdd, Nat.reduceSub, Nat.reduceMul, Nat.reduceLeDiff, reduceCtorEq, Int.reduceLE, Int.reduceLT, Int.reduceNeg, Int.reduceToNat, Nat.reduceSubDiff, Nat.reducePow, hlt2, hlen]
    (first | refine post_fin ret_ok hM rfl ?_ ?_ | refine post_fin0 ret_ok hM rfl ?_ ?_ | refine post_fin normal_ok hM rfl ?_ ?_ | refine post_fin0 normal_ok hM rfl ?_ ?_)
    · simp -implicitDefEqProofs (disch := first | omega | (simp only [go_sem, ↓reduceIte, reduceCtorEq]; first | done | omega)) only [go_sem, ↓reduceIte, Nat.reduceLT, Nat.reduceEqDiff, Nat.reduceAdd, Nat.reduceSub, Nat.reduceMul, Nat.reduceLeDiff, reduceCtorEq, Int.reduceLE, Int.reduceLT, Int.reduceNeg, Int.reduceToNat, Nat.reduceSubDiff, Nat.reducePow]
    · (simp only [go_sem, ↓reduceIte, Nat.reduceLT, Nat.reduceEqDiff, Nat.reduceAdd, Nat.reduceSub, Nat.reduceMul, Nat.reduceLeDiff, reduceCtorEq, Int.reduceLE, Int.reduceLT, Int.reduceNeg, Int.reduceToNat, Nat.reduceSubDiff, Nat.reducePow, goneRow_low, encI_low] <;> first | done | omega)
theorem q_ref07_OfSeries (s : Ser) (h : chkSer s = 0) : Q X 9 [encSer s] (.tup [.fs ((loadsK s.samples s.gaps s.samples.length).map .I), .I 0]) := by
  intro M
  obtain ⟨h1, h2, h3, hg⟩ := ser_zero h
  obtain ⟨nm, st, l, g⟩ := s
  simp only at h1 h2 h3 hg ⊢
  (refine ACall_fn (cf := L2.c9) rfl rfl fun hM hA => ?_; simp only [L2.c9]; rw [mk1 _ (by decide)]; simp -implicitDefEqProofs (disch := first | omega | (simp only [go_sem, ↓reduceIte, reduceCtorEq, encSer_eq]; first | done | omega)) only [go_sem, ↓reduceIte, Nat.reduceLT, Nat.reduceEqDiff, Nat.reduceAdd, Nat.reduceSub, Nat.reduceMul, Nat.reduceLeDiff, reduceCtorEq, Int.reduceLE, Int.reduceLT, Int.reduceNeg, Int.reduceToNat, Nat.reduceSubDiff, Nat.reducePow, encSer_eq])
  refine loop_mk (α := Nat) 0 (fun k => k ≤ l.length) (fun k => M ++ [.row true 1 (loadsK l g k).length ((loadsK l g k).map .I)])
    (fun k => [(1, .fp [.s (.string nm), .I st, .fs (l.map encF), .fs (g.map encSpn)]), (4, .os M.length (loadsK l g k).length 0 (loadsK l g k).length), (5, .I k)]) (fun k => l.length - k) (Nat.zero_le _) rfl rfl ?_
  intro k hk
  by_cases hlt2 : k < l.length
  · obtain ⟨x, h4⟩ : ∃ x, l[k]? = some x := ⟨_, List.getElem?_eq_getElem hlt2⟩
    have hx0 := ser_sample h2 h4
    obtain ⟨s, m, e, hr, h6⟩ := smp_number hx0
    have hsm := six_small hx0
    have hrng : rng (fTr s m (e + 4)) (-32768) 32768 = 0 := by rw [← h6]; simp [rng]; omega
    rw [h6] at hsm
    have hs := loadsK_snoc (g := g) h4
    have hll := loadsK_len l g k
    rw [h6] at hs
    generalize loadsK l g k = L at hs hll ⊢
    have hLl : L.length = (L.map PV.I).length := by simp
    simp -implicitDefEqProofs (disch := first | omega | (simp only [go_sem, ↓reduceIte, reduceCtorEq, hlt2, h4]; first | done | omega)) only [go_sem, ↓reduceIte, Nat.reduceLT, Nat.reduceEqDiff, Nat.reduceAdd, Nat.reduceSub, Nat.reduceMul, Nat.reduceLeDiff, reduceCtorEq, Int.reduceLE, Int.reduceLT, Int.reduceNeg, Int.reduceToNat, Nat.reduceSubDiff, Nat.reducePow, hlt2, h4]
    refine callP_q (q_ref01_Has g k (by omega) _) ?_
    by_cases hga : gapAt g k = true
    · rw [if_pos hga, List.append_nil] at hs
      simp -implicitDefEqProofs (disch := first | omega | (simp only [go_sem, ↓reduceIte, reduceCtorEq, hga]; first | done | omega)) only [go_sem, ↓reduceIte, Nat.reduceLT, Nat.reduceEqDiff, Nat.reduceAdd, Nat.reduceSub, Nat.reduceMul, Nat.reduceLeDiff, reduceCtorEq, Int.reduceLE, Int.reduceLT, Int.reduceNeg, Int.reduceToNat, Nat.reduceSubDiff, Nat.reducePow, hga]
      exact again' (k + 1) (by omega) (by omega) (by rw [hs]) (by rw [hs]; rfl)
    · rw [if_neg hga] at hs
      have hga : gapAt g k = false := by simpa using hga
      simp -implicitDefEqProofs (disch := first | omega | (simp only [go_sem, ↓reduceIte, reduceCtorEq, hga, h4]; first | done | omega)) only [go_sem, ↓reduceIte, Nat.reduceLT, Nat.reduceEqDiff, Nat.reduceAdd, Nat.reduceSub, Nat.reduceMul, Nat.reduceLeDiff, reduceCtorEq, Int.reduceLE, Int.reduceLT, Int.reduceNeg, Int.reduceToNat, Nat.reduceSubDiff, Nat.reducePow, hga, h4]
      refine callP_q (q_ref01_Sixteenths hr (by omega) _) ?_
      simp -implicitDefEqProofs (disch := first | omega | (simp only [go_sem, ↓reduceIte, reduceCtorEq]; first | done | omega)) only [go_sem, ↓reduceIte, Nat.reduceLT, Nat.reduceEqDiff, Nat.reduceAdd, Nat.reduceSub, Nat.reduceMul, Nat.reduceLeDiff, reduceCtorEq, Int.reduceLE, Int.reduceLT, Int.reduceNeg, Int.reduceToNat, Nat.reduceSubDiff, Nat.reducePow]
      refine callP_q (q_ref07_CheckLoad _ _) ?_
      have G := eq_true hrng
      simp -implicitDefEqProofs (disch := first | omega | (simp only [go_sem, ↓reduceIte, reduceCtorEq, G]; first | done | omega)) only [go_sem, ↓reduceIte, Nat.reduceLT, Nat.reduceEqDiff, Nat.reduceAdd, Nat.reduceSub, Nat.reduceMul, Nat.reduceLeDiff, reduceCtorEq, Int.reduceLE, Int.reduceLT, Int.reduceNeg, Int.reduceToNat, Nat.reduceSubDiff, Nat.reducePow, G]
      exact again' (k + 1) (by omega) (by omega) (by rw [hs]; simp) (by rw [hs]; simp)
  · have hk : k = l.length := by omega
    subst hk
    simp -implicitDefEqProofs (disch := first | omega | (simp only [go_sem, ↓reduceIte, reduceCtorEq, hlt2]; first | done | omega)) only [go_sem, ↓reduceIte, Nat.reduceLT, Nat.reduceEqDiff, Nat.reduceAdd, Nat.reduceSub, Nat.reduceMul, Nat.reduceLeDiff, reduceCtorEq, Int.reduceLE, Int.reduceLT, Int.reduceNeg, Int.reduceToNat, Nat.reduceSubDiff, Nat.reducePow, hlt2]
    (first | refine post_fin ret_ok hM rfl ?_ ?_ | refine post_fin0 ret_ok hM rfl ?_ ?_ | refine post_fin normal_ok hM rfl ?_ ?_ | refine post_fin0 normal_ok hM rfl ?_ ?_)
    · simp -implicitDefEqProofs (disch := first | omega | (simp only [go_sem, ↓reduceIte, reduceCtorEq]; first | done | omega)) only [go_sem, ↓reduceIte, Nat.reduceLT, Nat.reduceEqDiff, Nat.reduceAdd, Nat.reduceSub, Nat.reduceMul, Nat.reduceLeDiff, reduceCtorEq, Int.reduceLE, Int.reduceLT, Int.reduceNeg, Int.reduceToNat, Nat.reduceSubDiff, Nat.reducePow]
    · (simp only [go_sem, ↓reduceIte, Nat.reduceLT, Nat.reduceEqDiff, Nat.reduceAdd, Nat.reduceSub, Nat.reduceMul, Nat.reduceLeDiff, reduceCtorEq, Int.reduceLE, Int.reduceLT, Int.reduceNeg, Int.reduceToNat, Nat.reduceSubDiff, Nat.reducePow, encI_low] <;> first | done | omega)
end
end Go.Nac.L2
set_option linter.unusedSimpArgs false
set_option linter.unusedVariables false
set_option linter.unnecessarySimpa false
set_option maxRecDepth 10000
namespace Go.Nac.L2
attribute [local congr] b1_congr b2_congr Wp_congr wpOps_congr thenK_congr blockK_congr gK_congr cK_congr
section
variable {X : FuncId → List PV → PV → Prop}
theorem q_law07_LoadSeries (hX : FloorX X) (s : Ser) : Q X 3 [encSer s] (.B true) := by
  intro M
  have hsh := q_ref01_Short (X := X) s
  have hch := fun a b => q_ref01_CheckSeries (X := X) hX s a b
  have hog := fun h => q_load_OfSeries (X := X) s h
  have hob := fun a b h => q_load_OfSeries_bad (X := X) s a b h
  have hor := fun h => q_ref07_OfSeries (X := X) s h
  have hgl : shortB s = true → s.samples.length ≤ 40001 ∧ s.gaps.length ≤ 1025 := by
    unfold shortB; simp only [Bool.and_eq_true, Bool.or_eq_true, decide_eq_true_eq]; omega
  have h40 := loadsK_len s.samples s.gaps s.samples.length
  obtain ⟨nm, st, l, g⟩ := s
  simp only at hgl h40 hch hog hob hor ⊢
  rw [encSer_eq] at hsh hch hog hob hor ⊢
  simp only at hsh hch hog hob hor ⊢
  have ok1 := encF_ok l
  have ok2 := encSpn_ok g
  have ln1 : (l.map encF).length = l.length := by simp
  have ln2 : (g.map encSpn).length = g.length := by simp
  (refine ACall_fn (cf := L2.c3) rfl rfl fun hM hA => ?_; simp only [L2.c3]; rw [mk1 _ (by decide)]; simp -implicitDefEqProofs (disch := first | omega | (simp only [go_sem, ↓reduceIte, reduceCtorEq]; first | done | omega)) only [go_sem, ↓reduceIte, Nat.reduceLT, Nat.reduceEqDiff, Nat.reduceAdd, Nat.reduceSub, Nat.reduceMul, Nat.reduceLeDiff, reduceCtorEq, Int.reduceLE, Int.reduceLT, Int.reduceNeg, Int.reduceToNat, Nat.reduceSubDiff, Nat.reducePow])
  refine callP_q (q_law07_awake _) ?_
  simp -implicitDefEqProofs (disch := first | omega | (simp only [go_sem, ↓reduceIte, reduceCtorEq]; first | done | omega)) only [go_sem, ↓reduceIte, Nat.reduceLT, Nat.reduceEqDiff, Nat.reduceAdd, Nat.reduceSub, Nat.reduceMul, Nat.reduceLeDiff, reduceCtorEq, Int.reduceLE, Int.reduceLT, Int.reduceNeg, Int.reduceToNat, Nat.reduceSubDiff, Nat.reducePow]
  refine callP_q (hsh _) ?_
  by_cases hs : shortB ⟨nm, st, l, g⟩ = true
  · obtain ⟨hl, hg⟩ := hgl hs
    clear hgl
    simp -implicitDefEqProofs (disch := first | omega | (simp only [go_sem, ↓reduceIte, reduceCtorEq, hs, ok1, ok2, r_fzbuild, fzs_os, fzs_s, fzs_nil]; first | done | omega)) only [go_sem, ↓reduceIte, Nat.reduceLT, Nat.reduceEqDiff, Nat.reduceAdd, Nat.reduceSub, Nat.reduceMul, Nat.reduceLeDiff, reduceCtorEq, Int.reduceLE, Int.reduceLT, Int.reduceNeg, Int.reduceToNat, Nat.reduceSubDiff, Nat.reducePow, hs, ok1, ok2, r_fzbuild, fzs_os, fzs_s, fzs_nil]
    by_cases hz : chkSer ⟨nm, st, l, g⟩ = 0
    · have Z := hch (by omega) (by omega)
      rw [hz] at Z
      refine callP_q (hog hz _) ?_
      simp -implicitDefEqProofs (disch := first | omega | (simp only [go_sem, ↓reduceIte, reduceCtorEq]; first | done | omega)) only [go_sem, ↓reduceIte, Nat.reduceLT, Nat.reduceEqDiff, Nat.reduceAdd, Nat.reduceSub, Nat.reduceMul, Nat.reduceLeDiff, reduceCtorEq, Int.reduceLE, Int.reduceLT, Int.reduceNeg, Int.reduceToNat, Nat.reduceSubDiff, Nat.reducePow]
      refine ⟨by simp [pairsOk, okPair, apartL, refs, refs1], ?_⟩
      refine callP_q (Z _) ?_
      simp -implicitDefEqProofs (disch := first | omega | (simp only [go_sem, ↓reduceIte, reduceCtorEq]; first | done | omega)) only [go_sem, ↓reduceIte, Nat.reduceLT, Nat.reduceEqDiff, Nat.reduceAdd, Nat.reduceSub, Nat.reduceMul, Nat.reduceLeDiff, reduceCtorEq, Int.reduceLE, Int.reduceLT, Int.reduceNeg, Int.reduceToNat, Nat.reduceSubDiff, Nat.reducePow]
      refine callP_q (hor hz _) ?_
      simp -implicitDefEqProofs (disch := first | omega | (simp only [go_sem, ↓reduceIte, reduceCtorEq]; first | done | omega)) only [go_sem, ↓reduceIte, Nat.reduceLT, Nat.reduceEqDiff, Nat.reduceAdd, Nat.reduceSub, Nat.reduceMul, Nat.reduceLeDiff, reduceCtorEq, Int.reduceLE, Int.reduceLT, Int.reduceNeg, Int.reduceToNat, Nat.reduceSubDiff, Nat.reducePow]
      refine callP_q (q_ref01_SameInts _ _ (by have := (ser_zero hz).1; simp only at this; omega) _) ?_
      simp -implicitDefEqProofs (disch := first | omega | (simp only [go_sem, ↓reduceIte, reduceCtorEq]; first | done | omega)) only [go_sem, ↓reduceIte, Nat.reduceLT, Nat.reduceEqDiff, Nat.reduceAdd, Nat.reduceSub, Nat.reduceMul, Nat.reduceLeDiff, reduceCtorEq, Int.reduceLE, Int.reduceLT, Int.reduceNeg, Int.reduceToNat, Nat.reduceSubDiff, Nat.reducePow]
      (all_goals (first | refine post_fin ret_ok hM rfl ?_ ?_ | refine post_fin0 ret_ok hM rfl ?_ ?_ | refine post_fin normal_ok hM rfl ?_ ?_ | refine post_fin0 normal_ok hM rfl ?_ ?_); all_goals first | (simp only [go_sem, ↓reduceIte, Nat.reduceLT, Nat.reduceEqDiff, Nat.reduceAdd, Nat.reduceSub, Nat.reduceMul, Nat.reduceLeDiff, reduceCtorEq, Int.reduceLE, Int.reduceLT, Int.reduceNeg, Int.reduceToNat, Nat.reduceSubDiff, Nat.reducePow] <;> first | done | omega) | skip; all_goals (try simp -implicitDefEqProofs (disch := first | omega | (simp only [go_sem, ↓reduceIte, reduceCtorEq]; first | done | omega)) only [go_sem, ↓reduceIte, Nat.reduceLT, Nat.reduceEqDiff, Nat.reduceAdd, Nat.reduceSub, Nat.reduceMul, Nat.reduceLeDiff, reduceCtorEq, Int.reduceLE, Int.reduceLT, Int.reduceNeg, Int.reduceToNat, Nat.reduceSubDiff, Nat.reducePow]))
    · have Z := hch (by omega) (by omega)
      have O := hob (by omega) (by omega) hz
      have G := eq_false hz
      generalize chkSer ⟨nm, st, l, g⟩ = e at Z O G
      refine callP_q (O _) ?_
      simp -implicitDefEqProofs (disch := first | omega | (simp only [go_sem, ↓reduceIte, reduceCtorEq]; first | done | omega)) only [go_sem, ↓reduceIte, Nat.reduceLT, Nat.reduceEqDiff, Nat.reduceAdd, Nat.reduceSub, Nat.reduceMul, Nat.reduceLeDiff, reduceCtorEq, Int.reduceLE, Int.reduceLT, Int.reduceNeg, Int.reduceToNat, Nat.reduceSubDiff, Nat.reducePow]
      refine ⟨by simp [pairsOk, okPair, apartL, refs, refs1], ?_⟩
      refine callP_q (Z _) ?_
      simp -implicitDefEqProofs (disch := first | omega | (simp only [go_sem, ↓reduceIte, reduceCtorEq, G]; first | done | omega)) only [go_sem, ↓reduceIte, Nat.reduceLT, Nat.reduceEqDiff, Nat.reduceAdd, Nat.reduceSub, Nat.reduceMul, Nat.reduceLeDiff, reduceCtorEq, Int.reduceLE, Int.reduceLT, Int.reduceNeg, Int.reduceToNat, Nat.reduceSubDiff, Nat.reducePow, G]
      refine callP_q (q_ref01_SameInts [] [] (by simp) _) ?_
      simp -implicitDefEqProofs (disch := first | omega | (simp only [go_sem, ↓reduceIte, reduceCtorEq]; first | done | omega)) only [go_sem, ↓reduceIte, Nat.reduceLT, Nat.reduceEqDiff, Nat.reduceAdd, Nat.reduceSub, Nat.reduceMul, Nat.reduceLeDiff, reduceCtorEq, Int.reduceLE, Int.reduceLT, Int.reduceNeg, Int.reduceToNat, Nat.reduceSubDiff, Nat.reducePow]
      (all_goals (first | refine post_fin ret_ok hM rfl ?_ ?_ | refine post_fin0 ret_ok hM rfl ?_ ?_ | refine post_fin normal_ok hM rfl ?_ ?_ | refine post_fin0 normal_ok hM rfl ?_ ?_); all_goals first | (simp only [go_sem, ↓reduceIte, Nat.reduceLT, Nat.reduceEqDiff, Nat.reduceAdd, Nat.reduceSub, Nat.reduceMul, Nat.reduceLeDiff, reduceCtorEq, Int.reduceLE, Int.reduceLT, Int.reduceNeg, Int.reduceToNat, Nat.reduceSubDiff, Nat.reducePow] <;> first | done | omega) | skip; all_goals (try simp -implicitDefEqProofs (disch := first | omega | (simp only [go_sem, ↓reduceIte, reduceCtorEq]; first | done | omega)) only [go_sem, ↓reduceIte, Nat.reduceLT, Nat.reduceEqDiff, Nat.reduceAdd, Nat.reduceSub, Nat.reduceMul, Nat.reduceLeDiff, reduceCtorEq, Int.reduceLE, Int.reduceLT, Int.reduceNeg, Int.reduceToNat, Nat.reduceSubDiff, Nat.reducePow]))
  · have hs : shortB ⟨nm, st, l, g⟩ = false := by simpa using hs
    simp -implicitDefEqProofs (disch := first | omega | (simp only [go_sem, ↓reduceIte, reduceCtorEq, hs]; first | done | omega)) only [go_sem, ↓reduceIte, Nat.reduceLT, Nat.reduceEqDiff, Nat.reduceAdd, Nat.reduceSub, Nat.reduceMul, Nat.reduceLeDiff, reduceCtorEq, Int.reduceLE, Int.reduceLT, Int.reduceNeg, Int.reduceToNat, Nat.reduceSubDiff, Nat.reducePow, hs]
    refine callP_q (q_law07_awake _) ?_
    simp -implicitDefEqProofs (disch := first | omega | (simp only [go_sem, ↓reduceIte, reduceCtorEq]; first | done | omega)) only [go_sem, ↓reduceIte, Nat.reduceLT, Nat.reduceEqDiff, Nat.reduceAdd, Nat.reduceSub, Nat.reduceMul, Nat.reduceLeDiff, reduceCtorEq, Int.reduceLE, Int.reduceLT, Int.reduceNeg, Int.reduceToNat, Nat.reduceSubDiff, Nat.reducePow]
    (all_goals (first | refine post_fin ret_ok hM rfl ?_ ?_ | refine post_fin0 ret_ok hM rfl ?_ ?_ | refine post_fin normal_ok hM rfl ?_ ?_ | refine post_fin0 normal_ok hM rfl ?_ ?_); all_goals first | (simp only [go_sem, ↓reduceIte, Nat.reduceLT, Nat.reduceEqDiff, Nat.reduceAdd, Nat.reduceSub, Nat.reduceMul, Nat.reduceLeDiff, reduceCtorEq, Int.reduceLE, Int.reduceLT, Int.reduceNeg, Int.reduceToNat, Nat.reduceSubDiff, Nat.reducePow] <;> first | done | omega) | skip; all_goals (try simp -implicitDefEqProofs (disch := first | omega | (simp only [go_sem, ↓reduceIte, reduceCtorEq]; first | done | omega)) only [go_sem, ↓reduceIte, Nat.reduceLT, Nat.reduceEqDiff, Nat.reduceAdd, Nat.reduceSub, Nat.reduceMul, Nat.reduceLeDiff, reduceCtorEq, Int.reduceLE, Int.reduceLT, Int.reduceNeg, Int.reduceToNat, Nat.reduceSubDiff, Nat.reducePow]))
end
end Go.Nac.L2

