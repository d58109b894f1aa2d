import Derived.Test.YtdlngmbgalmdeaaP
set_option linter.unusedVariables false
namespace Go.Nac
def sumI : List Int → Int
  | [] => 0
  | x :: r => x + sumI r
theorem sumI_nonneg {l : List Int} (h : ∀ x ∈ l, 0 ≤ x) : 0 ≤ sumI l := by
  induction l with
  | nil => simp [sumI]
  | cons x l ih => simp only [sumI]; have := h x (by simp); have := ih fun y hy => h y (by simp [hy]); omega
def sat (x : Int) : Int := if 1152921504606846976 < x then 1152921504606846977 else x
/-- A total, or none above the limit. -/
def chkM (x : Int) : Int × Int := if 1152921504606846976 < x then (0, 4) else (x, 0)
def MRel (m : Int × Bool) (t : Int) : Prop := (m.2 = true ∧ 1152921504606846976 < t) ∨ (m.2 = false ∧ m.1 = t ∧ t ≤ 1152921504606846976)
theorem MRel.add {m : Int × Bool} {t x : Int} (h : MRel m t) (hx : 0 ≤ x) : MRel (madd m x) (t + x) := by
  unfold madd
  rcases h with ⟨h1, h2⟩ | ⟨h1, h2, h3⟩
  · rw [if_pos (.inl h1)]; exact .inl ⟨rfl, by omega⟩
  · by_cases hf : 1152921504606846976 - m.1 < x
    · rw [if_pos (.inr hf)]; exact .inl ⟨rfl, by omega⟩
    · rw [if_neg (by simp [h1, hf])]; exact .inr ⟨rfl, by simp only []; omega, by omega⟩
theorem MRel.fold {xs : List Int} : ∀ {m : Int × Bool} {t : Int}, MRel m t → (∀ x ∈ xs, 0 ≤ x) → MRel (xs.foldl madd m) (t + sumI xs) := by
  induction xs with
  | nil => intro m t h _; simpa [sumI] using h
  | cons x xs ih =>
    intro m t h hx
    have := ih (h.add (hx x (by simp))) fun y hy => hx y (by simp [hy])
    simpa [sumI, Int.add_assoc] using this
theorem MRel.res {m : Int × Bool} {t : Int} (h : MRel m t) : mres m = chkM t := by
  unfold mres chkM
  rcases h with ⟨h1, h2⟩ | ⟨h1, h2, h3⟩
  · rw [if_pos h1, if_pos h2]
  · rw [if_neg (by simp [h1]), if_neg (by omega), h2]
theorem MRel.zero : MRel (0, false) 0 := .inr ⟨rfl, rfl, by decide⟩
def powC (e : Int) (l : List Cyc) : List Int := l.map fun c => powW (c.hi - c.lo) e.toNat
def powH (e : Int) (l : List Rev) : List Int := (halfs l).map fun x => powW x e.toNat
def sumC (e : Int) (l : List Cyc) : Int := sumI (powC e l)
def sumH (e : Int) (l : List Rev) : Int := sumI (powH e l)
theorem powC_nn {e : Int} {l : List Cyc} (he : 1 ≤ e ∧ e ≤ 3) (hs : ∀ c ∈ l, smallC c) : ∀ x ∈ powC e l, 0 ≤ x ∧ x ≤ 281474976710656 := by
  intro x hx
  obtain ⟨c, hc, rfl⟩ := List.mem_map.1 hx
  exact pow_bd he (hs c hc).1 (hs c hc).2.1
theorem powH_nn {e : Int} {l : List Rev} (he : 1 ≤ e ∧ e ≤ 3) (hs : ∀ r ∈ l, smallR r) : ∀ x ∈ powH e l, 0 ≤ x ∧ x ≤ 281474976710656 := by
  intro x hx
  obtain ⟨c, hc, rfl⟩ := List.mem_map.1 hx
  exact pow_bd he (halfs_bd l hs c hc).1 (halfs_bd l hs c hc).2
theorem sumI_scale (t : Int) (l : List Int) : sumI (l.map (t * ·)) = t * sumI l := by
  induction l with
  | nil => simp [sumI]
  | cons x l ih => simp only [List.map_cons, sumI, ih, Int.mul_add]
theorem cycDmg_rel {e times : Int} {l : List Cyc} (ht : 0 ≤ times) (he : 1 ≤ e ∧ e ≤ 3) (hs : ∀ c ∈ l, smallC c) {m : Int × Bool} {t : Int} (hm : MRel m t) : MRel (cycDmg e times m l) (t + times * sumC e l) := by
  have := MRel.fold (xs := (powC e l).map (times * ·)) hm fun x hx => by
    obtain ⟨y, hy, rfl⟩ := List.mem_map.1 hx
    exact Int.mul_nonneg ht (powC_nn he hs y hy).1
  rw [sumI_scale] at this
  have e1 : ((powC e l).map (times * ·)).foldl madd m = cycDmg e times m l := by
    unfold cycDmg powC
    rw [List.map_map, List.foldl_map]; rfl
  rw [e1] at this
  exact this
theorem halfDmg_rel {e : Int} {l : List Rev} (he : 1 ≤ e ∧ e ≤ 3) (hs : ∀ r ∈ l, smallR r) {m : Int × Bool} {t : Int} (hm : MRel m t) : MRel (halfDmg e m l) (t + sumH e l) := by
  have := MRel.fold (xs := powH e l) hm fun x hx => (powH_nn he hs x hx).1
  have e1 : (powH e l).foldl madd m = halfDmg e m l := by
    unfold halfDmg powH
    rw [List.foldl_map]
  rw [e1] at this
  exact this
theorem sumC_nn {e : Int} {l : List Cyc} (he : 1 ≤ e ∧ e ≤ 3) (hs : ∀ c ∈ l, smallC c) : 0 ≤ sumC e l := sumI_nonneg fun x hx => (powC_nn he hs x hx).1
theorem sumH_nn {e : Int} {l : List Rev} (he : 1 ≤ e ∧ e ≤ 3) (hs : ∀ r ∈ l, smallR r) : 0 ≤ sumH e l := sumI_nonneg fun x hx => (powH_nn he hs x hx).1
theorem dmg_chk {l : List Cyc} {e : Int} (he : 1 ≤ e ∧ e ≤ 3) (hs : ∀ c ∈ l, smallC c) : mres (cycDmg e 1 (0, false) l) = chkM (sumC e l) := by
  rw [(cycDmg_rel (by omega) he hs MRel.zero).res]; congr 1; omega
/-- Twice the damage of loads. -/
def sumT (l : List Int) (e : Int) : Int := 2 * sumC e (countOf (revsOf (points l))).1 + sumH e (countOf (revsOf (points l))).2.reverse
theorem tw_chk {l : List Int} {e : Int} (h : chkLoads l = 0) (he : 1 ≤ e ∧ e ≤ 3) : twRes l e = chkM (sumT l e) := by
  have hsr := small_revs' h
  have hs2 : ∀ r ∈ (countOf (revsOf (points l))).2.reverse, smallR r := fun c hc => hsr c (count_mem _ c (by simpa using hc))
  unfold twRes
  rw [(halfDmg_rel he hs2 (cycDmg_rel (by omega) he (count_small hsr) MRel.zero)).res]
  congr 1; unfold sumT; omega
end Go.Nac
set_option linter.unusedVariables false
namespace Go.Nac
def wq (n q : Int) : Nat → Int
  | 0 => q
  | k + 1 => wq n q k / n
end Go.Nac
set_option linter.unusedVariables false
namespace Go.Nac
theorem dmgRes_eq (l : List Cyc) (e : Int) : dmgRes l e = if fst0 [chkCycs l, rng e 1 3] = 0 then chkM (sumC e l) else (0, fst0 [chkCycs l, rng e 1 3]) := by
  unfold dmgRes
  split
  · rename_i h
    exact dmg_chk (rng_zero.1 (fst0_two h).2) (chkCycs_small (fst0_two h).1)
  · rfl
theorem smallR_of {l : List Rev} (h : chkRevs l = 0) : ∀ r ∈ l, smallR r := fun r hr => (turns_good _ _ _ (chkRevs_zero.1 h).2 r hr).2
theorem eqvRes_eq (l : List Cyc) (e n : Int) : eqvRes l e n = if fst0 [fst0 [chkCycs l, rng e 1 3], rng n 1 999999999] = 0 then (if (chkM (sumC e l)).2 = 0 then rootOf (sumC e l / n) e else 0, (chkM (sumC e l)).2) else (0, fst0 [fst0 [chkCycs l, rng e 1 3], rng n 1 999999999]) := by
  unfold eqvRes
  rw [dmgRes_eq]
  have h4 : ¬ fst0 [chkCycs l, rng e 1 3] = 4 := by
    have h1 := chkCycs_val l
    have h2 := rng_val e 1 3
    simp only [fst0]
    split
    · split <;> omega
    · omega
  generalize fst0 [chkCycs l, rng e 1 3] = o at h4 ⊢
  by_cases h : o = 0
  · subst h
    have hr := rng_val n 1 999999999
    have hc : chkM (sumC e l) = (0, 4) ∨ chkM (sumC e l) = (sumC e l, 0) := by unfold chkM; split <;> simp
    rcases hr with hr | hr <;> rcases hc with hc | hc <;> simp [fst0, hr, hc]
  · simp [fst0, h, h4]
end Go.Nac
set_option linter.unusedVariables false
namespace Go.Nac
end Go.Nac
set_option linter.unusedVariables false
namespace Go.Nac
def chkRecs (l : List (List Int)) : Int := if 256 < l.length then 5 else fst0 (l.map chkLoads)
def spStep (s : Int × Int × Bool) (n : Int) : Int × Int × Bool := if s.2.2 = true ∨ s.2.1 < n then (s.1, s.2.1, true) else (s.1 + 1, s.2.1 - n, false)
def bear (left : Int) : List Int → Int × Int
  | [] => (0, left)
  | n :: r => if left < n then (0, left) else ((bear (left - n) r).1 + 1, (bear (left - n) r).2)
theorem sp_full : ∀ (l : List Int) (b left : Int), l.foldl spStep (b, left, true) = (b, left, true)
  | [], _, _ => rfl
  | n :: r, b, left => by rw [List.foldl_cons]; unfold spStep; simp only [true_or, if_true]; exact sp_full r b left
theorem sp_bear : ∀ (l : List Int) (b left : Int), (l.foldl spStep (b, left, false)).1 = b + (bear left l).1 ∧ (l.foldl spStep (b, left, false)).2.1 = (bear left l).2
  | [], b, left => by simp [bear]
  | n :: r, b, left => by
    rw [List.foldl_cons]
    by_cases h : left < n
    · have e : spStep (b, left, false) n = (b, left, true) := by unfold spStep; rw [if_pos (.inr h)]
      rw [e, sp_full]; simp [bear, h]
    · have e : spStep (b, left, false) n = (b + 1, left - n, false) := by unfold spStep; rw [if_neg (by simp; omega)]
      rw [e]; have := sp_bear r (b + 1) (left - n); simp only [bear, if_neg h]; exact ⟨by rw [this.1]; omega, this.2⟩
theorem sp_bd : ∀ (l : List Int) (b left C : Int), (∀ n ∈ l, 0 ≤ n) → 0 ≤ left → left ≤ C → ∀ f : Bool, 0 ≤ (l.foldl spStep (b, left, f)).2.1 ∧ (l.foldl spStep (b, left, f)).2.1 ≤ C ∧ b ≤ (l.foldl spStep (b, left, f)).1 ∧ (l.foldl spStep (b, left, f)).1 ≤ b + l.length
  | [], b, left, C, _, h0, h1, f => by simp; omega
  | n :: r, b, left, C, hn, h0, h1, f => by
    have hn0 := hn n (by simp)
    rw [List.foldl_cons]
    by_cases h : f = true ∨ left < n
    · have e : spStep (b, left, f) n = (b, left, true) := by unfold spStep; rw [if_pos h]
      rw [e]
      have := sp_bd r b left C (fun n h => hn n (by simp [h])) h0 h1 true
      simp only [List.length_cons] at this ⊢; omega
    · have e : spStep (b, left, f) n = (b + 1, left - n, false) := by unfold spStep; rw [if_neg h]
      rw [e]
      simp only [not_or] at h
      have := sp_bd r (b + 1) (left - n) C (fun n h => hn n (by simp [h])) (by omega) (by omega) false
      simp only [List.length_cons] at this ⊢; omega
def twL (x : Life) (l : List (List Int)) : List Int := l.map fun r => (twRes r x.exp).1
def twE (x : Life) (l : List (List Int)) : List Int := l.map fun r => (twRes r x.exp).2
def spendRes (x : Life) (l : List (List Int)) : Int × Int × Int :=
  if fst0 [lifeErr x, chkRecs l] = 0 then
    (if fst0 (twE x l) = 0 then ((bear (2 * x.cap) (twL x l)).1, (bear (2 * x.cap) (twL x l)).2, 0) else (0, 0, fst0 (twE x l)))
  else (0, 0, fst0 [lifeErr x, chkRecs l])
theorem fst0_map_drop {α : Type} {l : List α} {k : Nat} {x : α} (g : α → Int) (h : l[k]? = some x) : fst0 ((l.map g).drop k) = if g x = 0 then fst0 ((l.map g).drop (k + 1)) else g x :=
  fst0_drop _ _ _ (by rw [List.getElem?_map, h]; rfl)
theorem spend_1 {x : Life} {l : List (List Int)} (h : ¬ fst0 [lifeErr x, if 256 < l.length then 5 else 0] = 0) : spendRes x l = (0, 0, fst0 [lifeErr x, if 256 < l.length then 5 else 0]) := by
  have e : fst0 [lifeErr x, chkRecs l] = fst0 [lifeErr x, if 256 < l.length then 5 else 0] := by
    unfold chkRecs
    simp only [fst0] at h ⊢
    split
    · rename_i h0; simp only [h0, if_true] at h; split
      · rfl
      · rename_i h1; rw [if_neg h1] at h; simp at h
    · rfl
  unfold spendRes
  rw [e, if_neg h]
theorem spend_2 {x : Life} {l : List (List Int)} (h : fst0 [lifeErr x, if 256 < l.length then 5 else 0] = 0) (h2 : ¬ fst0 (l.map chkLoads) = 0) : spendRes x l = (0, 0, fst0 (l.map chkLoads)) := by
  have h3 := fst0_two h
  have hl : ¬ 256 < l.length := by intro hc; have := h3.2; rw [if_pos hc] at this; cases this
  have e : fst0 [lifeErr x, chkRecs l] = fst0 (l.map chkLoads) := by
    unfold chkRecs; rw [if_neg hl]; simp only [fst0, h3.1, if_true]
    split
    · rename_i h; exact h.symm
    · rfl
  unfold spendRes
  rw [e, if_neg h2]
theorem spend_ok {x : Life} {l : List (List Int)} (h : fst0 [lifeErr x, if 256 < l.length then 5 else 0] = 0) (h2 : fst0 (l.map chkLoads) = 0) : fst0 [lifeErr x, chkRecs l] = 0 := by
  have h3 := fst0_two h
  have hl : ¬ 256 < l.length := by intro hc; have := h3.2; rw [if_pos hc] at this; cases this
  unfold chkRecs; rw [if_neg hl, h2, h3.1]; rfl
end Go.Nac
namespace Go.Nac
end Go.Nac
set_option linter.unusedVariables false
namespace Go.Nac
/-- Upside down: the top is above (s) or below (not s) the one under it, and so on by turns; indices rise. -/
def zig : Bool → List Rev → Prop
  | _, [] => True
  | _, [x] => goodR x
  | s, y :: x :: r => goodR y ∧ x.at_ < y.at_ ∧ (if s = true then x.ld < y.ld else y.ld < x.ld) ∧ zig (!s) (x :: r)
theorem zig_tail {s : Bool} {y : Rev} {r : List Rev} (h : zig s (y :: r)) : zig (!s) r := by
  cases r with
  | nil => trivial
  | cons x r => exact h.2.2.2
theorem zig_top {s : Bool} {y : Rev} {r : List Rev} (h : zig s (y :: r)) : goodR y := by
  cases r with
  | nil => exact h
  | cons x r => exact h.1
theorem zig_push {s : Bool} {y x : Rev} {r : List Rev} (hy : goodR y) (ha : x.at_ < y.at_) (hl : if s = true then x.ld < y.ld else y.ld < x.ld) (h : zig (!s) (x :: r)) : zig s (y :: x :: r) := ⟨hy, ha, hl, h⟩
theorem closes_iff {a b c d : Rev} : closesB a b c d = true ↔ apartI b c ≤ apartI a b ∧ apartI b c ≤ apartI c d := by simp [closesB]
/-- What closes lies between its neighbours. -/
theorem closes_zig {s : Bool} {a b c d : Rev} {r : List Rev} (h : zig s (d :: c :: b :: a :: r)) (hc : closesB a b c d = true) :
    (s = true → c.ld < d.ld ∧ c.ld < b.ld ∧ a.ld < b.ld ∧ a.ld ≤ c.ld ∧ b.ld ≤ d.ld) ∧ (s = false → d.ld < c.ld ∧ b.ld < c.ld ∧ b.ld < a.ld ∧ c.ld ≤ a.ld ∧ d.ld ≤ b.ld) := by
  obtain ⟨_, _, h1, _, _, h2, _, _, h3, _⟩ := h
  obtain ⟨k1, k2⟩ := closes_iff.1 hc
  unfold apartI at k1 k2
  cases s
  · simp only [Bool.not_false, Bool.not_true, if_true, Bool.false_eq_true, if_false] at h1 h2 h3
    refine ⟨fun h => (by cases h), fun _ => ?_⟩
    omega
  · simp only [Bool.not_false, Bool.not_true, if_true, Bool.false_eq_true, if_false] at h1 h2 h3
    refine ⟨fun _ => ?_, fun h => (by cases h)⟩
    omega
theorem zig_close {s : Bool} {a b c d : Rev} {r : List Rev} (h : zig s (d :: c :: b :: a :: r)) (hc : closesB a b c d = true) : zig s (d :: a :: r) := by
  have k := closes_zig h hc
  obtain ⟨g, a1, _, _, a2, _, _, a3, _, h4⟩ := h
  refine zig_push g (by omega) ?_ (by simpa using h4)
  cases s
  · have := k.2 rfl; simp; omega
  · have := k.1 rfl; simp; omega
theorem mk_good {s : Bool} {b c d : Rev} {r : List Rev} (h : zig s (d :: c :: b :: r)) : goodC (mkCyc b c) := by
  obtain ⟨g, a1, _, g2, a2, h2, h3⟩ := h
  have g3 := zig_top h3
  unfold goodR at g2 g3
  unfold goodC mkCyc
  simp only []
  cases s
  · simp only [Bool.not_false, if_true] at h2; omega
  · simp only [Bool.not_true, Bool.false_eq_true, if_false] at h2; omega
theorem drain_zig : ∀ (st : List Rev) (s : Bool), zig s st → zig s (drain st).2 ∧ (drain st).2.head? = st.head? ∧ ∀ c ∈ (drain st).1, goodC c := by
  intro st
  induction st using drain.induct with
  | case1 d c b a r h ih =>
    intro s hz
    rw [drain_yes h]
    have := ih s (zig_close hz h)
    refine ⟨this.1, this.2.1, fun x hx => ?_⟩
    rcases List.mem_cons.1 hx with rfl | hx
    · exact mk_good hz
    · exact this.2.2 x hx
  | case2 d c b a r h => intro s hz; rw [drain_no (by simpa using h)]; exact ⟨hz, rfl, by simp⟩
  | case3 st h =>
    intro s hz
    rw [drain]
    · exact ⟨hz, rfl, by simp⟩
    · exact h
theorem count_append (l : List Rev) (x : Rev) : countOf (l ++ [x]) = countStep (countOf l) x := by unfold countOf; rw [List.foldl_append]; rfl
theorem count_zig : ∀ (L : List Rev) (s : Bool), zig s L → zig s (countOf L.reverse).2 ∧ (countOf L.reverse).2.head? = L.head? ∧ ∀ c ∈ (countOf L.reverse).1, goodC c
  | [], s, _ => ⟨trivial, rfl, by simp [countOf]⟩
  | x :: L, s, h => by
    obtain ⟨h1, h2, h3⟩ := count_zig L (!s) (zig_tail h)
    rw [List.reverse_cons, count_append]
    have hz : zig s (x :: (countOf L.reverse).2) := by
      cases L with
      | nil => simpa [countOf] using h
      | cons y L =>
        cases hst : (countOf (y :: L).reverse).2 with
        | nil => rw [hst] at h2; cases h2
        | cons z st =>
          rw [hst] at h1 h2
          simp at h2; subst h2
          exact zig_push h.1 h.2.1 h.2.2.1 h1
    have := drain_zig _ s hz
    refine ⟨this.1, this.2.1, fun c hc => ?_⟩
    rcases List.mem_append.1 hc with hc | hc
    · exact h3 c hc
    · exact this.2.2 c hc
/-- From the checks to turns, and back. -/
def dirOf (a b : Rev) : Bool := decide (a.ld < b.ld)
theorem turns_zig : ∀ (l : List Rev) (st : List Rev) (s : Bool), zig s st → turnsFrom (st.tail.head?) (st.head?) l → ∃ s, zig s (l.reverse ++ st)
  | [], st, s, h, _ => ⟨s, by simpa using h⟩
  | r :: rs, st, s, h, ht => by
    obtain ⟨g, hn, ht⟩ := ht
    have key : ∃ s', zig s' (r :: st) := by
      cases st with
      | nil => exact ⟨true, g⟩
      | cons x st =>
        obtain ⟨ha, hne, htr⟩ := hn x rfl
        cases st with
        | nil => exact ⟨dirOf x r, zig_push g ha (by unfold dirOf; by_cases h : x.ld < r.ld <;> simp [h]; omega) (by simpa [zig] using h)⟩
        | cons z st =>
          have := htr z rfl
          refine ⟨!s, zig_push g ha ?_ (by simpa using h)⟩
          have h1 := h.2.2.1
          unfold trn at this
          rw [decide_eq_true_eq] at this
          cases s
          · simp at h1 ⊢; omega
          · simp at h1 ⊢; omega
    obtain ⟨s', hs⟩ := key
    have := turns_zig rs (r :: st) s' hs (by simpa using ht)
    simpa using this
theorem zig_turns : ∀ (l : List Rev) (st : List Rev) (s : Bool), zig s (l.reverse ++ st) → turnsFrom (st.tail.head?) (st.head?) l
  | [], st, s, h => trivial
  | r :: rs, st, s, h => by
    have e : (r :: rs).reverse ++ st = rs.reverse ++ (r :: st) := by simp
    rw [e] at h
    have h2 := zig_turns rs (r :: st) s h
    have h3 : ∀ (L M : List Rev) (s : Bool), zig s (L ++ M) → ∃ s', zig s' M := by
      intro L
      induction L with
      | nil => intro M s h; exact ⟨s, h⟩
      | cons x L ih => intro M s h; exact ih M _ (zig_tail h)
    obtain ⟨s', h4⟩ := h3 _ _ _ h
    refine ⟨zig_top h4, ?_, by simpa using h2⟩
    intro q hq
    cases st with
    | nil => cases hq
    | cons x st =>
      simp at hq; subst hq
      refine ⟨h4.2.1, ?_, ?_⟩
      · have := h4.2.2.1; cases s' <;> simp at this <;> omega
      · intro z hz
        cases st with
        | nil => cases hz
        | cons w st =>
          simp at hz; subst hz
          have k1 := h4.2.2.1
          have k2 := h4.2.2.2.2.2.1
          unfold trn; rw [decide_eq_true_eq]
          cases s' <;> simp at k1 k2 <;> omega
theorem chk_zig {l : List Rev} : chkRevs l = 0 ↔ l.length ≤ 40000 ∧ ∃ s, zig s l.reverse := by
  rw [chkRevs_zero]
  constructor
  · rintro ⟨h1, h2⟩
    obtain ⟨s, h⟩ := turns_zig l [] true trivial h2
    exact ⟨h1, s, by simpa using h⟩
  · rintro ⟨h1, s, h⟩
    exact ⟨h1, zig_turns l [] s (by simpa using h)⟩
/-- What remains turns; the cycles are ones. -/
theorem count_chk {l : List Rev} (h : chkRevs l = 0) : chkRevs (countOf l).2.reverse = 0 ∧ chkCycs (countOf l).1 = 0 := by
  obtain ⟨h1, s, h2⟩ := chk_zig.1 h
  have := count_zig l.reverse s h2
  rw [List.reverse_reverse] at this
  have hl := count_len l
  exact ⟨chk_zig.2 ⟨by simp; omega, s, by simpa using this.1⟩, chkCycs_zero.2 ⟨by omega, this.2.2⟩⟩
/-- The reversals of points turn. -/
theorem revStep_zig {o : List Rev} {p : Rev} (s : Bool) (h : zig s o.reverse) (hp : goodR p) (ha : ∀ x ∈ o, x.at_ < p.at_) : ∃ s', zig s' (revStep o p).reverse := by
  unfold revStep
  split
  · exact ⟨true, hp⟩
  · rename_i a r e
    split
    · exact ⟨s, h⟩
    · rename_i hne
      have hm : a ∈ o := by have : a ∈ o.reverse := by rw [e]; simp
                            simpa using this
      split
      · refine ⟨dirOf a p, ?_⟩
        rw [List.reverse_append, e]
        exact zig_push hp (ha a hm) (by unfold dirOf; by_cases h : a.ld < p.ld <;> simp [h]; omega) (by rw [e] at h; simpa [zig] using h)
      · rename_i b r2
        rw [e] at h
        have h1 := h.2.2.1
        split
        · rename_i ht
          refine ⟨!s, ?_⟩
          rw [List.reverse_append, e]
          refine zig_push hp (ha a hm) ?_ (by simpa using h)
          unfold trn at ht; rw [decide_eq_true_eq] at ht
          cases s <;> simp at h1 ⊢ <;> omega
        · rename_i ht
          refine ⟨s, ?_⟩
          have eo : o = r2.reverse ++ [b] ++ [a] := by have := congrArg List.reverse e; simpa using this
          have ed : o.dropLast = r2.reverse ++ [b] := by rw [eo]; simp
          rw [ed]
          have hb : b ∈ o := by rw [eo]; simp
          have er : (r2.reverse ++ [b] ++ [p]).reverse = p :: b :: r2 := by simp
          rw [er]
          refine zig_push hp (ha b hb) ?_ h.2.2.2
          unfold trn at ht; rw [decide_eq_true_eq] at ht
          cases s <;> simp at h1 ⊢ <;> omega
theorem revs_zig : ∀ (ps o : List Rev) (s : Bool), zig s o.reverse → (∀ x ∈ ps, goodR x) → (∀ x ∈ o, ∀ p ∈ ps, x.at_ < p.at_) → ps.Pairwise (fun x y => x.at_ < y.at_) → ∃ s', zig s' (ps.foldl revStep o).reverse
  | [], o, s, h, _, _, _ => ⟨s, h⟩
  | p :: ps, o, s, h, hg, ha, hp => by
    obtain ⟨s', h'⟩ := revStep_zig s h (hg p (by simp)) (fun x hx => ha x hx p (by simp))
    rw [List.foldl_cons]
    rw [List.pairwise_cons] at hp
    refine revs_zig ps _ s' h' (fun x hx => hg x (by simp [hx])) ?_ hp.2
    intro x hx q hq
    rcases revStep_mem o p x hx with hx | rfl
    · exact ha x hx q (by simp [hq])
    · exact hp.1 q hq
theorem points_pairwise (l : List Int) : (points l).Pairwise (fun x y => x.at_ < y.at_) := by
  unfold points
  rw [List.pairwise_map]
  rw [List.pairwise_iff_getElem]
  intro i j hi hj hij
  simp at hi hj ⊢
  exact hij
theorem revs_chk {l : List Int} (h : chkLoads l = 0) : chkRevs (revsOf (points l)) = 0 := by
  have hl := chkLoads_zero.1 h
  refine chk_zig.2 ⟨?_, ?_⟩
  · have : (revsOf (points l)).length ≤ (points l).length := by
      have : ∀ (ps o : List Rev), (ps.foldl revStep o).length ≤ o.length + ps.length := by
        intro ps
        induction ps with
        | nil => intro o; simp
        | cons p ps ih =>
          intro o
          rw [List.foldl_cons]
          have h1 := ih (revStep o p)
          have h2 : (revStep o p).length ≤ o.length + 1 := by
            unfold revStep
            split
            · rename_i e; simp
            · split
              · omega
              · split
                · simp
                · split
                  · simp
                  · simp
          simp only [List.length_cons]; omega
      have := this (points l) []; rw [List.length_nil, Nat.zero_add] at this; exact this
    have : (points l).length = l.length := by simp [points]
    omega
  · exact revs_zig (points l) [] true trivial (fun x hx => by have := points_mem hx; unfold goodR; have h2 := hl.2 _ this.1; omega) (by simp) (points_pairwise l)
end Go.Nac
set_option linter.unusedVariables false
namespace Go.Nac
def cntC (l : List Int) : List Cyc := (countOf (revsOf (points l))).1
def cntR (l : List Int) : List Rev := (countOf (revsOf (points l))).2.reverse
theorem drain_cyc (st : List Rev) : ∀ c ∈ (drain st).1, ∃ b ∈ st, ∃ d ∈ st, c = mkCyc b d := by
  induction st using drain.induct with
  | case1 d c b a r h ih =>
    rw [drain_yes h]; intro x hx
    rcases List.mem_cons.1 hx with rfl | hx
    · exact ⟨b, by simp, c, by simp, rfl⟩
    · obtain ⟨y, hy, z, hz, e⟩ := ih x hx
      have sub : ∀ w, w ∈ d :: a :: r → w ∈ d :: c :: b :: a :: r := fun w hw => by
        simp only [List.mem_cons] at hw ⊢
        rcases hw with h | h | h <;> simp [h]
      exact ⟨y, sub y hy, z, sub z hz, e⟩
  | case2 d c b a r h => rw [drain_no (by simpa using h)]; simp
  | case3 st h => rw [drain]; · simp
                  · exact h
theorem count_cyc (l : List Rev) : ∀ c ∈ (countOf l).1, ∃ b ∈ l, ∃ d ∈ l, c = mkCyc b d := by
  unfold countOf
  have : ∀ (l : List Rev) (s : List Cyc × List Rev) (A : List Rev), (∀ c ∈ s.1, ∃ b ∈ A, ∃ d ∈ A, c = mkCyc b d) → (∀ x ∈ s.2, x ∈ A) → (∀ x ∈ l, x ∈ A) → ∀ c ∈ (l.foldl countStep s).1, ∃ b ∈ A, ∃ d ∈ A, c = mkCyc b d := by
    intro l
    induction l with
    | nil => intro s A h _ _; exact h
    | cons y l ih =>
      intro s A h1 h2 h3
      rw [List.foldl_cons]
      have hst : ∀ x ∈ y :: s.2, x ∈ A := fun x hx => by
        rcases List.mem_cons.1 hx with rfl | hx
        · exact h3 _ (by simp)
        · exact h2 x hx
      refine ih _ A (fun c hc => ?_) (fun x hx => hst x (drain_mem _ x hx)) (fun x hx => h3 x (by simp [hx]))
      rcases List.mem_append.1 hc with hc | hc
      · exact h1 c hc
      · obtain ⟨b, hb, d, hd, e⟩ := drain_cyc _ c hc
        exact ⟨b, hst b hb, d, hst d hd, e⟩
  exact this l ([], []) l (by simp) (by simp) (fun x hx => hx)
theorem sumI_le {l : List Int} {B : Int} (h : ∀ x ∈ l, x ≤ B) : sumI l ≤ l.length * B := by
  induction l with
  | nil => simp [sumI]
  | cons x l ih =>
    have h1 := h x (by simp)
    have h2 := ih fun y hy => h y (by simp [hy])
    simp only [sumI, List.length_cons]
    have : ((l.length + 1 : Nat) : Int) * B = l.length * B + B := by rw [Int.natCast_add, Int.add_mul]; simp
    omega
theorem cntC_len (l : List Int) : 2 * (cntC l).length ≤ l.length ∧ (cntR l).length ≤ l.length := by
  have h1 := count_len (revsOf (points l))
  have h2 : ∀ (ps o : List Rev), (ps.foldl revStep o).length ≤ o.length + ps.length := by
    intro ps
    induction ps with
    | nil => intro o; simp
    | cons p ps ih =>
      intro o
      rw [List.foldl_cons]
      have h1 := ih (revStep o p)
      have h2 : (revStep o p).length ≤ o.length + 1 := by
        unfold revStep
        split
        · simp
        · split
          · omega
          · split
            · simp
            · split
              · simp
              · simp
      simp only [List.length_cons]; omega
  have h3 := h2 (points l) []
  have h4 : (points l).length = l.length := by simp [points]
  have h5 : ((points l).foldl revStep []).length = (revsOf (points l)).length := rfl
  simp only [List.length_nil] at h3
  unfold cntC cntR
  rw [List.length_reverse]; omega
theorem cntC_bd {l : List Int} {B : Int} (h : ∀ x ∈ l, -B ≤ x ∧ x ≤ B) : ∀ c ∈ cntC l, 0 ≤ c.hi - c.lo ∧ c.hi - c.lo ≤ 2 * B := by
  intro c hc
  obtain ⟨b, hb, d, hd, rfl⟩ := count_cyc _ c hc
  have h1 := h _ (points_mem (revs_mem _ b hb)).1
  have h2 := h _ (points_mem (revs_mem _ d hd)).1
  unfold mkCyc; simp only []; omega
theorem sumT_bd {l : List Int} {e : Int} (h : chkLoads l = 0) (he : 1 ≤ e ∧ e ≤ 3) (hl : l.length ≤ 24) : 0 ≤ sumT l e ∧ sumT l e ≤ 1152921504606846976 := by
  have hsr := small_revs' h
  have hs2 : ∀ r ∈ (countOf (revsOf (points l))).2.reverse, smallR r := fun c hc => hsr c (count_mem _ c (by simpa using hc))
  have hlen := cntC_len l
  have h1 := sumC_nn he (count_small hsr)
  have h2 := sumH_nn he hs2
  have h3 := sumI_le (fun x hx => (powC_nn he (count_small hsr) x hx).2)
  have h4 := sumI_le (fun x hx => (powH_nn he hs2 x hx).2)
  have e1 : (powC e (countOf (revsOf (points l))).1).length = (cntC l).length := by simp [powC, cntC]
  have e2 : (powH e (countOf (revsOf (points l))).2.reverse).length ≤ (cntR l).length := by simp [powH, cntR, halfs_len]
  rw [e1] at h3
  unfold sumC at h1
  unfold sumH at h2
  unfold sumT sumC sumH
  omega
theorem sumC_bd {l : List Int} {e : Int} (h : chkLoads l = 0) (he : 1 ≤ e ∧ e ≤ 3) (hl : l.length ≤ 24) : 0 ≤ sumC e (cntC l) ∧ sumC e (cntC l) ≤ 1152921504606846976 := by
  have h1 := sumT_bd h he hl
  have hsr := small_revs' h
  have hs2 : ∀ r ∈ (countOf (revsOf (points l))).2.reverse, smallR r := fun c hc => hsr c (count_mem _ c (by simpa using hc))
  have h2 := sumH_nn he hs2
  have h3 := sumC_nn he (count_small hsr)
  unfold sumT at h1
  unfold cntC
  omega
theorem sumC_small {l : List Int} {e : Int} (he : 1 ≤ e ∧ e ≤ 3) (hl : l.length ≤ 12) (hb : ∀ x ∈ l, -500 ≤ x ∧ x ≤ 500) : sumC e (cntC l) ≤ 6 * pwI 1000 e := by
  have hlen := cntC_len l
  have hc := cntC_bd hb
  have h3 : sumI (powC e (cntC l)) ≤ (powC e (cntC l)).length * pwI 1000 e := sumI_le fun x hx => by
    obtain ⟨c, hm, rfl⟩ := List.mem_map.1 hx
    have := hc c hm
    rw [powW_pwI he (by omega) (by omega)]
    exact pwI_mono (by omega) (by omega)
  have e1 : (powC e (cntC l)).length = (cntC l).length := by simp [powC]
  rw [e1] at h3
  have h5 : 0 ≤ pwI 1000 e := by rcases (by omega : e = 1 ∨ e = 2 ∨ e = 3) with rfl | rfl | rfl <;> decide
  have h6 : ((cntC l).length : Int) * pwI 1000 e ≤ 6 * pwI 1000 e := Int.mul_le_mul_of_nonneg_right (by omega) h5
  unfold sumC; omega
theorem pwI_lt {y e : Int} (he : 1 ≤ e ∧ e ≤ 3) (h : 0 ≤ y) : pwI y e < pwI (y + 1) e := by
  have h2 : (y + 1) * (y + 1) = y * y + 2 * y + 1 := by rw [Int.add_mul, Int.mul_add]; omega
  have h0 : 0 ≤ y * y := Int.mul_nonneg h h
  rcases (by omega : e = 1 ∨ e = 2 ∨ e = 3) with rfl | rfl | rfl
  · simp only [pwI_1]; omega
  · simp only [pwI_2]; omega
  · simp only [pwI_3]
    have h3 : y * y * y ≤ y * y * (y + 1) := Int.mul_le_mul_of_nonneg_left (by omega) h0
    have h4 : y * y * (y + 1) < (y + 1) * (y + 1) * (y + 1) := Int.mul_lt_mul_of_pos_right (by omega) (by omega)
    omega
theorem root_ex {e : Int} (he : 1 ≤ e ∧ e ≤ 3) (n : Nat) : ∃ r, IsRoot n e r := by
  induction n with
  | zero =>
    refine ⟨0, by omega, ?_, ?_⟩ <;> rcases (by omega : e = 1 ∨ e = 2 ∨ e = 3) with rfl | rfl | rfl <;> decide
  | succ n ih =>
    obtain ⟨r, h1, h2, h3⟩ := ih
    by_cases h : ((n + 1 : Nat) : Int) < pwI (r + 1) e
    · exact ⟨r, h1, by omega, h⟩
    · have := pwI_lt he (by omega : 0 ≤ r + 1)
      exact ⟨r + 1, by omega, by omega, by omega⟩
theorem root_is {n e : Int} (he : 1 ≤ e ∧ e ≤ 3) (hn : 0 ≤ n) : IsRoot n e (rootOf n e) := by
  obtain ⟨r, h⟩ := root_ex he n.toNat
  rw [Int.toNat_of_nonneg hn] at h
  rw [rootOf_eq h]; exact h
theorem root_small {l : List Int} {e m : Int} (h : chkLoads l = 0) (he : 1 ≤ e ∧ e ≤ 3) (hl : l.length ≤ 12) (hb : ∀ x ∈ l, -500 ≤ x ∧ x ≤ 500) (hm : 1 ≤ m ∧ m ≤ 20) :
    0 ≤ rootOf (sumC e (cntC l) / m) e ∧ rootOf (sumC e (cntC l) / m) e ≤ 6000 ∧ m * pwI (rootOf (sumC e (cntC l) / m) e) e ≤ sumC e (cntC l) ∧ sumC e (cntC l) < m * pwI (rootOf (sumC e (cntC l) / m) e + 1) e := by
  have h0 := (sumC_bd h he (by omega)).1
  have h1 := sumC_small he hl hb
  generalize sumC e (cntC l) = d at h0 h1 ⊢
  have hq : 0 ≤ d / m := Int.ediv_nonneg h0 (by omega)
  have hqd : d / m ≤ d := Int.ediv_le_self _ h0
  obtain ⟨r0, r1, r2⟩ := root_is he hq
  generalize rootOf (d / m) e = r at r0 r1 r2 ⊢
  refine ⟨r0, ?_, ?_, ?_⟩
  · apply Classical.byContradiction
    intro hc
    have := pwI_mono (e := e) (by omega : (0 : Int) ≤ 6001) (by omega : 6001 ≤ r)
    rcases (by omega : e = 1 ∨ e = 2 ∨ e = 3) with rfl | rfl | rfl
    · simp only [pwI_1] at *; omega
    · simp only [pwI_2] at *; omega
    · simp only [pwI_3] at *; omega
  · have := (Int.le_ediv_iff_mul_le (by omega : (0 : Int) < m)).1 r1
    rw [Int.mul_comm]; exact this
  · have := (Int.ediv_lt_iff_lt_mul (by omega : (0 : Int) < m)).1 r2
    rw [Int.mul_comm]; exact this
theorem bear3 {C t : Int} (hC : 0 ≤ C) (ht : 0 ≤ t) : 0 ≤ (bear C [t, t, t]).1 ∧ (bear C [t, t, t]).1 ≤ 3 ∧ (bear C [t, t, t]).2 = C - (bear C [t, t, t]).1 * t ∧ 0 ≤ (bear C [t, t, t]).2 ∧ (t = 0 → (bear C [t, t, t]).1 = 3) ∧ (0 < t → (bear C [t, t, t]).1 = min (C / t) 3) := by
  have key : 0 < t → ∀ k : Int, k * t ≤ C → C < (k + 1) * t → C / t = k := fun h k h1 h2 => by
    have h3 := (Int.le_ediv_iff_mul_le h).2 h1
    have h4 := (Int.ediv_lt_iff_lt_mul h).2 h2
    omega
  by_cases h1 : C < t
  · have hb : bear C [t, t, t] = (0, C) := by simp [bear, h1]
    rw [hb]; simp only []
    refine ⟨by omega, by omega, by omega, hC, by intro h0; omega, fun h => ?_⟩
    rw [key h 0 (by omega) (by omega)]; omega
  · by_cases h2 : C - t < t
    · have hb : bear C [t, t, t] = (1, C - t) := by simp [bear, h1, h2]
      rw [hb]; simp only []
      refine ⟨by omega, by omega, by omega, by omega, by intro h0; omega, fun h => ?_⟩
      rw [key h 1 (by omega) (by omega)]; omega
    · by_cases h3 : C - t - t < t
      · have hb : bear C [t, t, t] = (2, C - t - t) := by simp [bear, h1, h2, h3]
        rw [hb]; simp only []
        refine ⟨by omega, by omega, by omega, by omega, by intro h0; omega, fun h => ?_⟩
        rw [key h 2 (by omega) (by omega)]; omega
      · have hb : bear C [t, t, t] = (3, C - t - t - t) := by simp [bear, h1, h2, h3]
        rw [hb]; simp only []
        refine ⟨by omega, by omega, by omega, by omega, fun _ => trivial, fun h => ?_⟩
        have : (3 : Int) ≤ C / t := (Int.le_ediv_iff_mul_le h).2 (by omega)
        omega
theorem rep_more {C t : Int} (ht : 0 < t) : 2 * C / t ≤ 2 * (C + 1) / t := Int.ediv_le_ediv ht (by omega)
end Go.Nac

