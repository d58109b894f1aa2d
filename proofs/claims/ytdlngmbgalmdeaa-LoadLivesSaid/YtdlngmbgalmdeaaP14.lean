import Derived.Test.YtdlngmbgalmdeaaP
set_option linter.unusedVariables false
namespace Go.Nac
def sumI : List Int → Int
  | [] => 0
  | x :: r => x + sumI r
theorem sumI_append (a b : List Int) : sumI (a ++ b) = sumI a + sumI b := by
  induction a with
  | nil => simp [sumI]
  | cons x a ih => simp only [List.cons_append, sumI, ih]; omega
theorem sumI_nonneg {l : List Int} (h : ∀ x ∈ l, 0 ≤ x) : 0 ≤ sumI l := by
  induction l with
  | nil => simp [sumI]
  | cons x l ih => simp only [sumI]; have := h x (by simp); have := ih fun y hy => h y (by simp [hy]); omega
theorem sumI_snoc {l : List Int} {k : Nat} {x : Int} (h : l[k]? = some x) : sumI (l.take (k + 1)) = sumI (l.take k) + x := by
  obtain ⟨h1, h2⟩ := List.getElem?_eq_some_iff.1 h
  rw [List.take_succ_eq_append_getElem h1, h2, sumI_append]; simp [sumI]
def sat (x : Int) : Int := if 1152921504606846976 < x then 1152921504606846977 else x
theorem sat_bd {x : Int} (h : 0 ≤ x) : 0 ≤ sat x ∧ sat x ≤ 1152921504606846977 := by unfold sat; split <;> omega
theorem sat_add {x y : Int} (hx : 0 ≤ x) (hy : 0 ≤ y) : sat (sat x + sat y) = sat (x + y) := by
  unfold sat; repeat' split
  all_goals omega
theorem sat_id {x : Int} (h : x ≤ 1152921504606846976) : sat x = x := by unfold sat; rw [if_neg (by omega)]
/-- A total, or none above the limit. -/
def chkM (x : Int) : Int × Int := if 1152921504606846976 < x then (0, 4) else (x, 0)
theorem chk_sat {x : Int} : chkM (sat x) = chkM x := by
  unfold chkM sat
  by_cases h : 1152921504606846976 < x
  · simp [h]
  · simp [h]
def MRel (m : Int × Bool) (t : Int) : Prop := (m.2 = true ∧ 1152921504606846976 < t) ∨ (m.2 = false ∧ m.1 = t ∧ t ≤ 1152921504606846976)
theorem MRel.add {m : Int × Bool} {t x : Int} (h : MRel m t) (hx : 0 ≤ x) : MRel (madd m x) (t + x) := by
  unfold madd
  rcases h with ⟨h1, h2⟩ | ⟨h1, h2, h3⟩
  · rw [if_pos (.inl h1)]; exact .inl ⟨rfl, by omega⟩
  · by_cases hf : 1152921504606846976 - m.1 < x
    · rw [if_pos (.inr hf)]; exact .inl ⟨rfl, by omega⟩
    · rw [if_neg (by simp [h1, hf])]; exact .inr ⟨rfl, by simp only []; omega, by omega⟩
theorem MRel.fold {xs : List Int} : ∀ {m : Int × Bool} {t : Int}, MRel m t → (∀ x ∈ xs, 0 ≤ x) → MRel (xs.foldl madd m) (t + sumI xs) := by
  induction xs with
  | nil => intro m t h _; simpa [sumI] using h
  | cons x xs ih =>
    intro m t h hx
    have := ih (h.add (hx x (by simp))) fun y hy => hx y (by simp [hy])
    simpa [sumI, Int.add_assoc] using this
theorem MRel.res {m : Int × Bool} {t : Int} (h : MRel m t) : mres m = chkM t := by
  unfold mres chkM
  rcases h with ⟨h1, h2⟩ | ⟨h1, h2, h3⟩
  · rw [if_pos h1, if_pos h2]
  · rw [if_neg (by simp [h1]), if_neg (by omega), h2]
theorem MRel.zero : MRel (0, false) 0 := .inr ⟨rfl, rfl, by decide⟩
def powC (e : Int) (l : List Cyc) : List Int := l.map fun c => powW (c.hi - c.lo) e.toNat
def powH (e : Int) (l : List Rev) : List Int := (halfs l).map fun x => powW x e.toNat
def sumC (e : Int) (l : List Cyc) : Int := sumI (powC e l)
def sumH (e : Int) (l : List Rev) : Int := sumI (powH e l)
theorem powC_nn {e : Int} {l : List Cyc} (he : 1 ≤ e ∧ e ≤ 3) (hs : ∀ c ∈ l, smallC c) : ∀ x ∈ powC e l, 0 ≤ x ∧ x ≤ 281474976710656 := by
  intro x hx
  obtain ⟨c, hc, rfl⟩ := List.mem_map.1 hx
  exact pow_bd he (hs c hc).1 (hs c hc).2.1
theorem powH_nn {e : Int} {l : List Rev} (he : 1 ≤ e ∧ e ≤ 3) (hs : ∀ r ∈ l, smallR r) : ∀ x ∈ powH e l, 0 ≤ x ∧ x ≤ 281474976710656 := by
  intro x hx
  obtain ⟨c, hc, rfl⟩ := List.mem_map.1 hx
  exact pow_bd he (halfs_bd l hs c hc).1 (halfs_bd l hs c hc).2
theorem sumI_scale (t : Int) (l : List Int) : sumI (l.map (t * ·)) = t * sumI l := by
  induction l with
  | nil => simp [sumI]
  | cons x l ih => simp only [List.map_cons, sumI, ih, Int.mul_add]
theorem cycDmg_rel {e times : Int} {l : List Cyc} (ht : 0 ≤ times) (he : 1 ≤ e ∧ e ≤ 3) (hs : ∀ c ∈ l, smallC c) {m : Int × Bool} {t : Int} (hm : MRel m t) : MRel (cycDmg e times m l) (t + times * sumC e l) := by
  have := MRel.fold (xs := (powC e l).map (times * ·)) hm fun x hx => by
    obtain ⟨y, hy, rfl⟩ := List.mem_map.1 hx
    exact Int.mul_nonneg ht (powC_nn he hs y hy).1
  rw [sumI_scale] at this
  have e1 : ((powC e l).map (times * ·)).foldl madd m = cycDmg e times m l := by
    unfold cycDmg powC
    rw [List.map_map, List.foldl_map]; rfl
  rw [e1] at this
  exact this
theorem halfDmg_rel {e : Int} {l : List Rev} (he : 1 ≤ e ∧ e ≤ 3) (hs : ∀ r ∈ l, smallR r) {m : Int × Bool} {t : Int} (hm : MRel m t) : MRel (halfDmg e m l) (t + sumH e l) := by
  have := MRel.fold (xs := powH e l) hm fun x hx => (powH_nn he hs x hx).1
  have e1 : (powH e l).foldl madd m = halfDmg e m l := by
    unfold halfDmg powH
    rw [List.foldl_map]
  rw [e1] at this
  exact this
theorem sumC_nn {e : Int} {l : List Cyc} (he : 1 ≤ e ∧ e ≤ 3) (hs : ∀ c ∈ l, smallC c) : 0 ≤ sumC e l := sumI_nonneg fun x hx => (powC_nn he hs x hx).1
theorem sumH_nn {e : Int} {l : List Rev} (he : 1 ≤ e ∧ e ≤ 3) (hs : ∀ r ∈ l, smallR r) : 0 ≤ sumH e l := sumI_nonneg fun x hx => (powH_nn he hs x hx).1
/-- Twice the damage of loads. -/
def sumT (l : List Int) (e : Int) : Int := 2 * sumC e (countOf (revsOf (points l))).1 + sumH e (countOf (revsOf (points l))).2.reverse
theorem tw_chk {l : List Int} {e : Int} (h : chkLoads l = 0) (he : 1 ≤ e ∧ e ≤ 3) : twRes l e = chkM (sumT l e) := by
  have hsr := small_revs' h
  have hs2 : ∀ r ∈ (countOf (revsOf (points l))).2.reverse, smallR r := fun c hc => hsr c (count_mem _ c (by simpa using hc))
  unfold twRes
  rw [(halfDmg_rel he hs2 (cycDmg_rel (by omega) he (count_small hsr) MRel.zero)).res]
  congr 1; unfold sumT; omega
end Go.Nac
set_option linter.unusedVariables false
namespace Go.Nac
def wq (n q : Int) : Nat → Int
  | 0 => q
  | k + 1 => wq n q k / n
end Go.Nac
set_option linter.unusedVariables false
namespace Go.Nac
theorem smallR_of {l : List Rev} (h : chkRevs l = 0) : ∀ r ∈ l, smallR r := fun r hr => (turns_good _ _ _ (chkRevs_zero.1 h).2 r hr).2
end Go.Nac
set_option linter.unusedVariables false
namespace Go.Nac
end Go.Nac
set_option linter.unusedVariables false
namespace Go.Nac
def chkRecs (l : List (List Int)) : Int := if 256 < l.length then 5 else fst0 (l.map chkLoads)
def spStep (s : Int × Int × Bool) (n : Int) : Int × Int × Bool := if s.2.2 = true ∨ s.2.1 < n then (s.1, s.2.1, true) else (s.1 + 1, s.2.1 - n, false)
def bear (left : Int) : List Int → Int × Int
  | [] => (0, left)
  | n :: r => if left < n then (0, left) else ((bear (left - n) r).1 + 1, (bear (left - n) r).2)
theorem sp_full : ∀ (l : List Int) (b left : Int), l.foldl spStep (b, left, true) = (b, left, true)
  | [], _, _ => rfl
  | n :: r, b, left => by rw [List.foldl_cons]; unfold spStep; simp only [true_or, if_true]; exact sp_full r b left
theorem sp_bear : ∀ (l : List Int) (b left : Int), (l.foldl spStep (b, left, false)).1 = b + (bear left l).1 ∧ (l.foldl spStep (b, left, false)).2.1 = (bear left l).2
  | [], b, left => by simp [bear]
  | n :: r, b, left => by
    rw [List.foldl_cons]
    by_cases h : left < n
    · have e : spStep (b, left, false) n = (b, left, true) := by unfold spStep; rw [if_pos (.inr h)]
      rw [e, sp_full]; simp [bear, h]
    · have e : spStep (b, left, false) n = (b + 1, left - n, false) := by unfold spStep; rw [if_neg (by simp; omega)]
      rw [e]; have := sp_bear r (b + 1) (left - n); simp only [bear, if_neg h]; exact ⟨by rw [this.1]; omega, this.2⟩
theorem sp_bd : ∀ (l : List Int) (b left C : Int), (∀ n ∈ l, 0 ≤ n) → 0 ≤ left → left ≤ C → ∀ f : Bool, 0 ≤ (l.foldl spStep (b, left, f)).2.1 ∧ (l.foldl spStep (b, left, f)).2.1 ≤ C ∧ b ≤ (l.foldl spStep (b, left, f)).1 ∧ (l.foldl spStep (b, left, f)).1 ≤ b + l.length
  | [], b, left, C, _, h0, h1, f => by simp; omega
  | n :: r, b, left, C, hn, h0, h1, f => by
    have hn0 := hn n (by simp)
    rw [List.foldl_cons]
    by_cases h : f = true ∨ left < n
    · have e : spStep (b, left, f) n = (b, left, true) := by unfold spStep; rw [if_pos h]
      rw [e]
      have := sp_bd r b left C (fun n h => hn n (by simp [h])) h0 h1 true
      simp only [List.length_cons] at this ⊢; omega
    · have e : spStep (b, left, f) n = (b + 1, left - n, false) := by unfold spStep; rw [if_neg h]
      rw [e]
      simp only [not_or] at h
      have := sp_bd r (b + 1) (left - n) C (fun n h => hn n (by simp [h])) (by omega) (by omega) false
      simp only [List.length_cons] at this ⊢; omega
def twL (x : Life) (l : List (List Int)) : List Int := l.map fun r => (twRes r x.exp).1
def twE (x : Life) (l : List (List Int)) : List Int := l.map fun r => (twRes r x.exp).2
def spendRes (x : Life) (l : List (List Int)) : Int × Int × Int :=
  if fst0 [lifeErr x, chkRecs l] = 0 then
    (if fst0 (twE x l) = 0 then ((bear (2 * x.cap) (twL x l)).1, (bear (2 * x.cap) (twL x l)).2, 0) else (0, 0, fst0 (twE x l)))
  else (0, 0, fst0 [lifeErr x, chkRecs l])
theorem chkRecs_zero {l : List (List Int)} (h : chkRecs l = 0) : l.length ≤ 256 ∧ ∀ r ∈ l, chkLoads r = 0 := by
  unfold chkRecs at h
  split at h
  · cases h
  · refine ⟨by omega, fun r hr => (fst0_zero _).1 h _ (List.mem_map_of_mem hr)⟩
theorem fst0_map_drop {α : Type} {l : List α} {k : Nat} {x : α} (g : α → Int) (h : l[k]? = some x) : fst0 ((l.map g).drop k) = if g x = 0 then fst0 ((l.map g).drop (k + 1)) else g x :=
  fst0_drop _ _ _ (by rw [List.getElem?_map, h]; rfl)
theorem spend_1 {x : Life} {l : List (List Int)} (h : ¬ fst0 [lifeErr x, if 256 < l.length then 5 else 0] = 0) : spendRes x l = (0, 0, fst0 [lifeErr x, if 256 < l.length then 5 else 0]) := by
  have e : fst0 [lifeErr x, chkRecs l] = fst0 [lifeErr x, if 256 < l.length then 5 else 0] := by
    unfold chkRecs
    simp only [fst0] at h ⊢
    split
    · rename_i h0; simp only [h0, if_true] at h; split
      · rfl
      · rename_i h1; rw [if_neg h1] at h; simp at h
    · rfl
  unfold spendRes
  rw [e, if_neg h]
theorem spend_2 {x : Life} {l : List (List Int)} (h : fst0 [lifeErr x, if 256 < l.length then 5 else 0] = 0) (h2 : ¬ fst0 (l.map chkLoads) = 0) : spendRes x l = (0, 0, fst0 (l.map chkLoads)) := by
  have h3 := fst0_two h
  have hl : ¬ 256 < l.length := by intro hc; have := h3.2; rw [if_pos hc] at this; cases this
  have e : fst0 [lifeErr x, chkRecs l] = fst0 (l.map chkLoads) := by
    unfold chkRecs; rw [if_neg hl]; simp only [fst0, h3.1, if_true]
    split
    · rename_i h; exact h.symm
    · rfl
  unfold spendRes
  rw [e, if_neg h2]
theorem spend_ok {x : Life} {l : List (List Int)} (h : fst0 [lifeErr x, if 256 < l.length then 5 else 0] = 0) (h2 : fst0 (l.map chkLoads) = 0) : fst0 [lifeErr x, chkRecs l] = 0 := by
  have h3 := fst0_two h
  have hl : ¬ 256 < l.length := by intro hc; have := h3.2; rw [if_pos hc] at this; cases this
  unfold chkRecs; rw [if_neg hl, h2, h3.1]; rfl
end Go.Nac
namespace Go.Nac
theorem bear_drop {l : List Int} {k : Nat} {n left : Int} (h : l[k]? = some n) : bear left (l.drop k) = if left < n then (0, left) else ((bear (left - n) (l.drop (k + 1))).1 + 1, (bear (left - n) (l.drop (k + 1))).2) := by
  obtain ⟨h1, h2⟩ := List.getElem?_eq_some_iff.1 h
  rw [List.drop_eq_getElem_cons h1, h2]; rfl
theorem chkM_ok {t : Int} (h : (chkM t).2 = 0) : t ≤ 1152921504606846976 ∧ (chkM t).1 = t ∧ sat t = t := by
  unfold chkM at *
  split at h
  · cases h
  · rename_i h1; rw [if_neg h1]; exact ⟨by omega, rfl, sat_id (by omega)⟩
end Go.Nac

