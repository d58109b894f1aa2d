import Derived.Test.YtdlngmbgalmdeaaP
/- Damage that is added up with a limit, by the reference and by the meter. -/
set_option linter.unusedVariables false
namespace Go.Nac
def sumI : List Int → Int
  | [] => 0
  | x :: r => x + sumI r
theorem sumI_append (a b : List Int) : sumI (a ++ b) = sumI a + sumI b := by
  induction a with
  | nil => simp [sumI]
  | cons x a ih => simp only [List.cons_append, sumI, ih]; omega
theorem sumI_nonneg {l : List Int} (h : ∀ x ∈ l, 0 ≤ x) : 0 ≤ sumI l := by
  induction l with
  | nil => simp [sumI]
  | cons x l ih => simp only [sumI]; have := h x (by simp); have := ih fun y hy => h y (by simp [hy]); omega
theorem sumI_snoc {l : List Int} {k : Nat} {x : Int} (h : l[k]? = some x) : sumI (l.take (k + 1)) = sumI (l.take k) + x := by
  obtain ⟨h1, h2⟩ := List.getElem?_eq_some_iff.1 h
  rw [List.take_succ_eq_append_getElem h1, h2, sumI_append]; simp [sumI]
def sat (x : Int) : Int := if 1152921504606846976 < x then 1152921504606846977 else x
theorem sat_bd {x : Int} (h : 0 ≤ x) : 0 ≤ sat x ∧ sat x ≤ 1152921504606846977 := by unfold sat; split <;> omega
theorem sat_add {x y : Int} (hx : 0 ≤ x) (hy : 0 ≤ y) : sat (sat x + sat y) = sat (x + y) := by
  unfold sat; repeat' split
  all_goals omega
theorem sat_id {x : Int} (h : x ≤ 1152921504606846976) : sat x = x := by unfold sat; rw [if_neg (by omega)]
/-- A total, or none above the limit. -/
def chkM (x : Int) : Int × Int := if 1152921504606846976 < x then (0, 4) else (x, 0)
theorem chk_sat {x : Int} : chkM (sat x) = chkM x := by
  unfold chkM sat
  by_cases h : 1152921504606846976 < x
  · simp [h]
  · simp [h]
def MRel (m : Int × Bool) (t : Int) : Prop := (m.2 = true ∧ 1152921504606846976 < t) ∨ (m.2 = false ∧ m.1 = t ∧ t ≤ 1152921504606846976)
theorem MRel.add {m : Int × Bool} {t x : Int} (h : MRel m t) (hx : 0 ≤ x) : MRel (madd m x) (t + x) := by
  unfold madd
  rcases h with ⟨h1, h2⟩ | ⟨h1, h2, h3⟩
  · rw [if_pos (.inl h1)]; exact .inl ⟨rfl, by omega⟩
  · by_cases hf : 1152921504606846976 - m.1 < x
    · rw [if_pos (.inr hf)]; exact .inl ⟨rfl, by omega⟩
    · rw [if_neg (by simp [h1, hf])]; exact .inr ⟨rfl, by simp only []; omega, by omega⟩
theorem MRel.fold {xs : List Int} : ∀ {m : Int × Bool} {t : Int}, MRel m t → (∀ x ∈ xs, 0 ≤ x) → MRel (xs.foldl madd m) (t + sumI xs) := by
  induction xs with
  | nil => intro m t h _; simpa [sumI] using h
  | cons x xs ih =>
    intro m t h hx
    have := ih (h.add (hx x (by simp))) fun y hy => hx y (by simp [hy])
    simpa [sumI, Int.add_assoc] using this
theorem MRel.res {m : Int × Bool} {t : Int} (h : MRel m t) : mres m = chkM t := by
  unfold mres chkM
  rcases h with ⟨h1, h2⟩ | ⟨h1, h2, h3⟩
  · rw [if_pos h1, if_pos h2]
  · rw [if_neg (by simp [h1]), if_neg (by omega), h2]
theorem MRel.zero : MRel (0, false) 0 := .inr ⟨rfl, rfl, by decide⟩
def powC (e : Int) (l : List Cyc) : List Int := l.map fun c => powW (c.hi - c.lo) e.toNat
def powH (e : Int) (l : List Rev) : List Int := (halfs l).map fun x => powW x e.toNat
def sumC (e : Int) (l : List Cyc) : Int := sumI (powC e l)
def sumH (e : Int) (l : List Rev) : Int := sumI (powH e l)
theorem powC_nn {e : Int} {l : List Cyc} (he : 1 ≤ e ∧ e ≤ 3) (hs : ∀ c ∈ l, smallC c) : ∀ x ∈ powC e l, 0 ≤ x ∧ x ≤ 281474976710656 := by
  intro x hx
  obtain ⟨c, hc, rfl⟩ := List.mem_map.1 hx
  exact pow_bd he (hs c hc).1 (hs c hc).2.1
theorem powH_nn {e : Int} {l : List Rev} (he : 1 ≤ e ∧ e ≤ 3) (hs : ∀ r ∈ l, smallR r) : ∀ x ∈ powH e l, 0 ≤ x ∧ x ≤ 281474976710656 := by
  intro x hx
  obtain ⟨c, hc, rfl⟩ := List.mem_map.1 hx
  exact pow_bd he (halfs_bd l hs c hc).1 (halfs_bd l hs c hc).2
theorem sumI_scale (t : Int) (l : List Int) : sumI (l.map (t * ·)) = t * sumI l := by
  induction l with
  | nil => simp [sumI]
  | cons x l ih => simp only [List.map_cons, sumI, ih, Int.mul_add]
theorem cycDmg_rel {e times : Int} {l : List Cyc} (ht : 0 ≤ times) (he : 1 ≤ e ∧ e ≤ 3) (hs : ∀ c ∈ l, smallC c) {m : Int × Bool} {t : Int} (hm : MRel m t) : MRel (cycDmg e times m l) (t + times * sumC e l) := by
  have := MRel.fold (xs := (powC e l).map (times * ·)) hm fun x hx => by
    obtain ⟨y, hy, rfl⟩ := List.mem_map.1 hx
    exact Int.mul_nonneg ht (powC_nn he hs y hy).1
  rw [sumI_scale] at this
  have e1 : ((powC e l).map (times * ·)).foldl madd m = cycDmg e times m l := by
    unfold cycDmg powC
    rw [List.map_map, List.foldl_map]; rfl
  rw [e1] at this
  exact this
theorem halfDmg_rel {e : Int} {l : List Rev} (he : 1 ≤ e ∧ e ≤ 3) (hs : ∀ r ∈ l, smallR r) {m : Int × Bool} {t : Int} (hm : MRel m t) : MRel (halfDmg e m l) (t + sumH e l) := by
  have := MRel.fold (xs := powH e l) hm fun x hx => (powH_nn he hs x hx).1
  have e1 : (powH e l).foldl madd m = halfDmg e m l := by
    unfold halfDmg powH
    rw [List.foldl_map]
  rw [e1] at this
  exact this
theorem sumC_nn {e : Int} {l : List Cyc} (he : 1 ≤ e ∧ e ≤ 3) (hs : ∀ c ∈ l, smallC c) : 0 ≤ sumC e l := sumI_nonneg fun x hx => (powC_nn he hs x hx).1
theorem sumH_nn {e : Int} {l : List Rev} (he : 1 ≤ e ∧ e ≤ 3) (hs : ∀ r ∈ l, smallR r) : 0 ≤ sumH e l := sumI_nonneg fun x hx => (powH_nn he hs x hx).1
theorem dmg_chk {l : List Cyc} {e : Int} (he : 1 ≤ e ∧ e ≤ 3) (hs : ∀ c ∈ l, smallC c) : mres (cycDmg e 1 (0, false) l) = chkM (sumC e l) := by
  rw [(cycDmg_rel (by omega) he hs MRel.zero).res]; congr 1; omega
theorem half_chk {l : List Rev} {e : Int} (he : 1 ≤ e ∧ e ≤ 3) (hs : ∀ r ∈ l, smallR r) : mres (halfDmg e (0, false) l) = chkM (sumH e l) := by
  rw [(halfDmg_rel he hs MRel.zero).res]; congr 1; omega
/-- Twice the damage of loads. -/
def sumT (l : List Int) (e : Int) : Int := 2 * sumC e (countOf (revsOf (points l))).1 + sumH e (countOf (revsOf (points l))).2.reverse
theorem tw_chk {l : List Int} {e : Int} (h : chkLoads l = 0) (he : 1 ≤ e ∧ e ≤ 3) : twRes l e = chkM (sumT l e) := by
  have hsr := small_revs' h
  have hs2 : ∀ r ∈ (countOf (revsOf (points l))).2.reverse, smallR r := fun c hc => hsr c (count_mem _ c (by simpa using hc))
  unfold twRes
  rw [(halfDmg_rel he hs2 (cycDmg_rel (by omega) he (count_small hsr) MRel.zero)).res]
  congr 1; unfold sumT; omega
end Go.Nac

/- Roots by bits. -/
set_option linter.unusedVariables false
namespace Go.Nac
def wq (n q : Int) : Nat → Int
  | 0 => q
  | k + 1 => wq n q k / n
theorem wq_bd {n q : Int} (hn : 1 ≤ n) (hq : 0 ≤ q) (k : Nat) : 0 ≤ wq n q k ∧ wq n q k ≤ q := by
  induction k with
  | zero => exact ⟨hq, Int.le_refl _⟩
  | succ k ih => exact ⟨Int.ediv_nonneg ih.1 (by omega), Int.le_trans (Int.ediv_le_self _ ih.1) ih.2⟩
theorem wq_iff {n q e : Int} (hn : 1 ≤ n) (he : 1 ≤ e ∧ e ≤ 3) : (1 ≤ wq n q e.toNat) ↔ pwI n e ≤ q := by
  rcases (by omega : e = 1 ∨ e = 2 ∨ e = 3) with rfl | rfl | rfl
  · show 1 ≤ q / n ↔ n ≤ q
    rw [Int.le_ediv_iff_mul_le (by omega), Int.one_mul]
  · show 1 ≤ q / n / n ↔ n * n ≤ q
    rw [Int.le_ediv_iff_mul_le (by omega), Int.one_mul, Int.le_ediv_iff_mul_le (by omega)]
  · show 1 ≤ q / n / n / n ↔ n * n * n ≤ q
    rw [Int.le_ediv_iff_mul_le (by omega), Int.one_mul, Int.le_ediv_iff_mul_le (by omega), Int.le_ediv_iff_mul_le (by omega)]
theorem two_bd {k : Nat} (h : k ≤ 61) : 1 ≤ (2 : Int) ^ k ∧ (2 : Int) ^ k ≤ 2305843009213693952 := by
  have h1 : (2 : Nat) ^ k ≤ 2 ^ 61 := Nat.pow_le_pow_right (by decide) h
  have h2 : 1 ≤ (2 : Nat) ^ k := Nat.one_le_two_pow
  have e : (2 : Int) ^ k = ((2 ^ k : Nat) : Int) := by simp
  rw [e]
  have : (2 : Nat) ^ 61 = 2305843009213693952 := by decide
  omega
theorem powW_two {k : Nat} (h : k ≤ 61) : powW 2 k = 2 ^ k := by
  induction k with
  | zero => rfl
  | succ k ih =>
    have := two_bd h
    rw [powW, ih (by omega), wrap_id (by rw [← Int.pow_succ]; omega), Int.pow_succ]
end Go.Nac

/- Damages, equivalent ranges: the program's results as the reference tells them. -/
set_option linter.unusedVariables false
namespace Go.Nac
theorem dmgRes_eq (l : List Cyc) (e : Int) : dmgRes l e = if fst0 [chkCycs l, rng e 1 3] = 0 then chkM (sumC e l) else (0, fst0 [chkCycs l, rng e 1 3]) := by
  unfold dmgRes
  split
  · rename_i h
    exact dmg_chk (rng_zero.1 (fst0_two h).2) (chkCycs_small (fst0_two h).1)
  · rfl
theorem smallR_of {l : List Rev} (h : chkRevs l = 0) : ∀ r ∈ l, smallR r := fun r hr => (turns_good _ _ _ (chkRevs_zero.1 h).2 r hr).2
theorem halfRes_eq (l : List Rev) (e : Int) : halfRes l e = if fst0 [chkRevs l, rng e 1 3] = 0 then chkM (sumH e l) else (0, fst0 [chkRevs l, rng e 1 3]) := by
  unfold halfRes
  split
  · rename_i h
    exact half_chk (rng_zero.1 (fst0_two h).2) (smallR_of (fst0_two h).1)
  · rfl
theorem twiceRes_eq (l : List Int) (e : Int) : twiceRes l e = if fst0 [chkLoads l, rng e 1 3] = 0 then chkM (sumT l e) else (0, fst0 [chkLoads l, rng e 1 3]) := by
  unfold twiceRes
  split
  · rename_i h
    exact tw_chk (fst0_two h).1 (rng_zero.1 (fst0_two h).2)
  · rfl
theorem eqvRes_eq (l : List Cyc) (e n : Int) : eqvRes l e n = if fst0 [fst0 [chkCycs l, rng e 1 3], rng n 1 999999999] = 0 then (if (chkM (sumC e l)).2 = 0 then rootOf (sumC e l / n) e else 0, (chkM (sumC e l)).2) else (0, fst0 [fst0 [chkCycs l, rng e 1 3], rng n 1 999999999]) := by
  unfold eqvRes
  rw [dmgRes_eq]
  have h4 : ¬ fst0 [chkCycs l, rng e 1 3] = 4 := by
    have h1 := chkCycs_val l
    have h2 := rng_val e 1 3
    simp only [fst0]
    split
    · split <;> omega
    · omega
  generalize fst0 [chkCycs l, rng e 1 3] = o at h4 ⊢
  by_cases h : o = 0
  · subst h
    have hr := rng_val n 1 999999999
    have hc : chkM (sumC e l) = (0, 4) ∨ chkM (sumC e l) = (sumC e l, 0) := by unfold chkM; split <;> simp
    rcases hr with hr | hr <;> rcases hc with hc | hc <;> simp [fst0, hr, hc]
  · simp [fst0, h, h4]
theorem chkM_zero {x : Int} (h : ¬ (chkM x).2 = 0) : (chkM x).1 = 0 := by
  unfold chkM at *; split <;> simp_all
theorem dmgRes_zero {l : List Cyc} {e : Int} (h : ¬ (dmgRes l e).2 = 0) : (dmgRes l e).1 = 0 := by
  rw [dmgRes_eq] at *; split at h
  · rename_i h2; rw [if_pos h2]; exact chkM_zero h
  · rename_i h2; rw [if_neg h2]
theorem halfRes_zero {l : List Rev} {e : Int} (h : ¬ (halfRes l e).2 = 0) : (halfRes l e).1 = 0 := by
  rw [halfRes_eq] at *; split at h
  · rename_i h2; rw [if_pos h2]; exact chkM_zero h
  · rename_i h2; rw [if_neg h2]
theorem twiceRes_zero {l : List Int} {e : Int} (h : ¬ (twiceRes l e).2 = 0) : (twiceRes l e).1 = 0 := by
  rw [twiceRes_eq] at *; split at h
  · rename_i h2; rw [if_pos h2]; exact chkM_zero h
  · rename_i h2; rw [if_neg h2]
theorem eqvRes_zero {l : List Cyc} {e n : Int} (h : ¬ (eqvRes l e n).2 = 0) : (eqvRes l e n).1 = 0 := by
  rw [eqvRes_eq] at *; split at h
  · rename_i h2; rw [if_pos h2]; simp only [] at h ⊢; rw [if_neg h]
  · rename_i h2; rw [if_neg h2]
end Go.Nac
