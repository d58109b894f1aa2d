import Derived.Test.YtdlngmbgalmdeaaP
set_option linter.unusedVariables false
namespace Go.Nac
def sumI : List Int → Int
  | [] => 0
  | x :: r => x + sumI r
def sat (x : Int) : Int := if 1152921504606846976 < x then 1152921504606846977 else x
/-- A total, or none above the limit. -/
def chkM (x : Int) : Int × Int := if 1152921504606846976 < x then (0, 4) else (x, 0)
def MRel (m : Int × Bool) (t : Int) : Prop := (m.2 = true ∧ 1152921504606846976 < t) ∨ (m.2 = false ∧ m.1 = t ∧ t ≤ 1152921504606846976)
theorem MRel.add {m : Int × Bool} {t x : Int} (h : MRel m t) (hx : 0 ≤ x) : MRel (madd m x) (t + x) := by
  unfold madd
  rcases h with ⟨h1, h2⟩ | ⟨h1, h2, h3⟩
  · rw [if_pos (.inl h1)]; exact .inl ⟨rfl, by omega⟩
  · by_cases hf : 1152921504606846976 - m.1 < x
    · rw [if_pos (.inr hf)]; exact .inl ⟨rfl, by omega⟩
    · rw [if_neg (by simp [h1, hf])]; exact .inr ⟨rfl, by simp only []; omega, by omega⟩
theorem MRel.res {m : Int × Bool} {t : Int} (h : MRel m t) : mres m = chkM t := by
  unfold mres chkM
  rcases h with ⟨h1, h2⟩ | ⟨h1, h2, h3⟩
  · rw [if_pos h1, if_pos h2]
  · rw [if_neg (by simp [h1]), if_neg (by omega), h2]
theorem MRel.zero : MRel (0, false) 0 := .inr ⟨rfl, rfl, by decide⟩
def powC (e : Int) (l : List Cyc) : List Int := l.map fun c => powW (c.hi - c.lo) e.toNat
def powH (e : Int) (l : List Rev) : List Int := (halfs l).map fun x => powW x e.toNat
def sumC (e : Int) (l : List Cyc) : Int := sumI (powC e l)
def sumH (e : Int) (l : List Rev) : Int := sumI (powH e l)
/-- Twice the damage of loads. -/
def sumT (l : List Int) (e : Int) : Int := 2 * sumC e (countOf (revsOf (points l))).1 + sumH e (countOf (revsOf (points l))).2.reverse
end Go.Nac
set_option linter.unusedVariables false
namespace Go.Nac
def wq (n q : Int) : Nat → Int
  | 0 => q
  | k + 1 => wq n q k / n
end Go.Nac
set_option linter.unusedVariables false
namespace Go.Nac
theorem smallR_of {l : List Rev} (h : chkRevs l = 0) : ∀ r ∈ l, smallR r := fun r hr => (turns_good _ _ _ (chkRevs_zero.1 h).2 r hr).2
end Go.Nac
set_option linter.unusedVariables false
namespace Go.Nac
end Go.Nac
set_option linter.unusedVariables false
namespace Go.Nac
def chkRecs (l : List (List Int)) : Int := if 256 < l.length then 5 else fst0 (l.map chkLoads)
def spStep (s : Int × Int × Bool) (n : Int) : Int × Int × Bool := if s.2.2 = true ∨ s.2.1 < n then (s.1, s.2.1, true) else (s.1 + 1, s.2.1 - n, false)
def bear (left : Int) : List Int → Int × Int
  | [] => (0, left)
  | n :: r => if left < n then (0, left) else ((bear (left - n) r).1 + 1, (bear (left - n) r).2)
def twL (x : Life) (l : List (List Int)) : List Int := l.map fun r => (twRes r x.exp).1
def twE (x : Life) (l : List (List Int)) : List Int := l.map fun r => (twRes r x.exp).2
def spendRes (x : Life) (l : List (List Int)) : Int × Int × Int :=
  if fst0 [lifeErr x, chkRecs l] = 0 then
    (if fst0 (twE x l) = 0 then ((bear (2 * x.cap) (twL x l)).1, (bear (2 * x.cap) (twL x l)).2, 0) else (0, 0, fst0 (twE x l)))
  else (0, 0, fst0 [lifeErr x, chkRecs l])
end Go.Nac
namespace Go.Nac
end Go.Nac
set_option linter.unusedVariables false
namespace Go.Nac
/-- Upside down: the top is above (s) or below (not s) the one under it, and so on by turns; indices rise. -/
def zig : Bool → List Rev → Prop
  | _, [] => True
  | _, [x] => goodR x
  | s, y :: x :: r => goodR y ∧ x.at_ < y.at_ ∧ (if s = true then x.ld < y.ld else y.ld < x.ld) ∧ zig (!s) (x :: r)
theorem zig_tail {s : Bool} {y : Rev} {r : List Rev} (h : zig s (y :: r)) : zig (!s) r := by
  cases r with
  | nil => trivial
  | cons x r => exact h.2.2.2
theorem zig_top {s : Bool} {y : Rev} {r : List Rev} (h : zig s (y :: r)) : goodR y := by
  cases r with
  | nil => exact h
  | cons x r => exact h.1
theorem zig_push {s : Bool} {y x : Rev} {r : List Rev} (hy : goodR y) (ha : x.at_ < y.at_) (hl : if s = true then x.ld < y.ld else y.ld < x.ld) (h : zig (!s) (x :: r)) : zig s (y :: x :: r) := ⟨hy, ha, hl, h⟩
theorem closes_iff {a b c d : Rev} : closesB a b c d = true ↔ apartI b c ≤ apartI a b ∧ apartI b c ≤ apartI c d := by simp [closesB]
/-- What closes lies between its neighbours. -/
theorem closes_zig {s : Bool} {a b c d : Rev} {r : List Rev} (h : zig s (d :: c :: b :: a :: r)) (hc : closesB a b c d = true) :
    (s = true → c.ld < d.ld ∧ c.ld < b.ld ∧ a.ld < b.ld ∧ a.ld ≤ c.ld ∧ b.ld ≤ d.ld) ∧ (s = false → d.ld < c.ld ∧ b.ld < c.ld ∧ b.ld < a.ld ∧ c.ld ≤ a.ld ∧ d.ld ≤ b.ld) := by
  obtain ⟨_, _, h1, _, _, h2, _, _, h3, _⟩ := h
  obtain ⟨k1, k2⟩ := closes_iff.1 hc
  unfold apartI at k1 k2
  cases s
  · simp only [Bool.not_false, Bool.not_true, if_true, Bool.false_eq_true, if_false] at h1 h2 h3
    refine ⟨fun h => (by cases h), fun _ => ?_⟩
    omega
  · simp only [Bool.not_false, Bool.not_true, if_true, Bool.false_eq_true, if_false] at h1 h2 h3
    refine ⟨fun _ => ?_, fun h => (by cases h)⟩
    omega
theorem zig_close {s : Bool} {a b c d : Rev} {r : List Rev} (h : zig s (d :: c :: b :: a :: r)) (hc : closesB a b c d = true) : zig s (d :: a :: r) := by
  have k := closes_zig h hc
  obtain ⟨g, a1, _, _, a2, _, _, a3, _, h4⟩ := h
  refine zig_push g (by omega) ?_ (by simpa using h4)
  cases s
  · have := k.2 rfl; simp; omega
  · have := k.1 rfl; simp; omega
theorem mk_good {s : Bool} {b c d : Rev} {r : List Rev} (h : zig s (d :: c :: b :: r)) : goodC (mkCyc b c) := by
  obtain ⟨g, a1, _, g2, a2, h2, h3⟩ := h
  have g3 := zig_top h3
  unfold goodR at g2 g3
  unfold goodC mkCyc
  simp only []
  cases s
  · simp only [Bool.not_false, if_true] at h2; omega
  · simp only [Bool.not_true, Bool.false_eq_true, if_false] at h2; omega
theorem drain_zig : ∀ (st : List Rev) (s : Bool), zig s st → zig s (drain st).2 ∧ (drain st).2.head? = st.head? ∧ ∀ c ∈ (drain st).1, goodC c := by
  intro st
  induction st using drain.induct with
  | case1 d c b a r h ih =>
    intro s hz
    rw [drain_yes h]
    have := ih s (zig_close hz h)
    refine ⟨this.1, this.2.1, fun x hx => ?_⟩
    rcases List.mem_cons.1 hx with rfl | hx
    · exact mk_good hz
    · exact this.2.2 x hx
  | case2 d c b a r h => intro s hz; rw [drain_no (by simpa using h)]; exact ⟨hz, rfl, by simp⟩
  | case3 st h =>
    intro s hz
    rw [drain]
    · exact ⟨hz, rfl, by simp⟩
    · exact h
theorem count_append (l : List Rev) (x : Rev) : countOf (l ++ [x]) = countStep (countOf l) x := by unfold countOf; rw [List.foldl_append]; rfl
theorem count_zig : ∀ (L : List Rev) (s : Bool), zig s L → zig s (countOf L.reverse).2 ∧ (countOf L.reverse).2.head? = L.head? ∧ ∀ c ∈ (countOf L.reverse).1, goodC c
  | [], s, _ => ⟨trivial, rfl, by simp [countOf]⟩
  | x :: L, s, h => by
    obtain ⟨h1, h2, h3⟩ := count_zig L (!s) (zig_tail h)
    rw [List.reverse_cons, count_append]
    have hz : zig s (x :: (countOf L.reverse).2) := by
      cases L with
      | nil => simpa [countOf] using h
      | cons y L =>
        cases hst : (countOf (y :: L).reverse).2 with
        | nil => rw [hst] at h2; cases h2
        | cons z st =>
          rw [hst] at h1 h2
          simp at h2; subst h2
          exact zig_push h.1 h.2.1 h.2.2.1 h1
    have := drain_zig _ s hz
    refine ⟨this.1, this.2.1, fun c hc => ?_⟩
    rcases List.mem_append.1 hc with hc | hc
    · exact h3 c hc
    · exact this.2.2 c hc
/-- From the checks to turns, and back. -/
def dirOf (a b : Rev) : Bool := decide (a.ld < b.ld)
theorem turns_zig : ∀ (l : List Rev) (st : List Rev) (s : Bool), zig s st → turnsFrom (st.tail.head?) (st.head?) l → ∃ s, zig s (l.reverse ++ st)
  | [], st, s, h, _ => ⟨s, by simpa using h⟩
  | r :: rs, st, s, h, ht => by
    obtain ⟨g, hn, ht⟩ := ht
    have key : ∃ s', zig s' (r :: st) := by
      cases st with
      | nil => exact ⟨true, g⟩
      | cons x st =>
        obtain ⟨ha, hne, htr⟩ := hn x rfl
        cases st with
        | nil => exact ⟨dirOf x r, zig_push g ha (by unfold dirOf; by_cases h : x.ld < r.ld <;> simp [h]; omega) (by simpa [zig] using h)⟩
        | cons z st =>
          have := htr z rfl
          refine ⟨!s, zig_push g ha ?_ (by simpa using h)⟩
          have h1 := h.2.2.1
          unfold trn at this
          rw [decide_eq_true_eq] at this
          cases s
          · simp at h1 ⊢; omega
          · simp at h1 ⊢; omega
    obtain ⟨s', hs⟩ := key
    have := turns_zig rs (r :: st) s' hs (by simpa using ht)
    simpa using this
theorem zig_turns : ∀ (l : List Rev) (st : List Rev) (s : Bool), zig s (l.reverse ++ st) → turnsFrom (st.tail.head?) (st.head?) l
  | [], st, s, h => trivial
  | r :: rs, st, s, h => by
    have e : (r :: rs).reverse ++ st = rs.reverse ++ (r :: st) := by simp
    rw [e] at h
    have h2 := zig_turns rs (r :: st) s h
    have h3 : ∀ (L M : List Rev) (s : Bool), zig s (L ++ M) → ∃ s', zig s' M := by
      intro L
      induction L with
      | nil => intro M s h; exact ⟨s, h⟩
      | cons x L ih => intro M s h; exact ih M _ (zig_tail h)
    obtain ⟨s', h4⟩ := h3 _ _ _ h
    refine ⟨zig_top h4, ?_, by simpa using h2⟩
    intro q hq
    cases st with
    | nil => cases hq
    | cons x st =>
      simp at hq; subst hq
      refine ⟨h4.2.1, ?_, ?_⟩
      · have := h4.2.2.1; cases s' <;> simp at this <;> omega
      · intro z hz
        cases st with
        | nil => cases hz
        | cons w st =>
          simp at hz; subst hz
          have k1 := h4.2.2.1
          have k2 := h4.2.2.2.2.2.1
          unfold trn; rw [decide_eq_true_eq]
          cases s' <;> simp at k1 k2 <;> omega
theorem chk_zig {l : List Rev} : chkRevs l = 0 ↔ l.length ≤ 40000 ∧ ∃ s, zig s l.reverse := by
  rw [chkRevs_zero]
  constructor
  · rintro ⟨h1, h2⟩
    obtain ⟨s, h⟩ := turns_zig l [] true trivial h2
    exact ⟨h1, s, by simpa using h⟩
  · rintro ⟨h1, s, h⟩
    exact ⟨h1, zig_turns l [] s (by simpa using h)⟩
/-- What remains turns; the cycles are ones. -/
theorem count_chk {l : List Rev} (h : chkRevs l = 0) : chkRevs (countOf l).2.reverse = 0 ∧ chkCycs (countOf l).1 = 0 := by
  obtain ⟨h1, s, h2⟩ := chk_zig.1 h
  have := count_zig l.reverse s h2
  rw [List.reverse_reverse] at this
  have hl := count_len l
  exact ⟨chk_zig.2 ⟨by simp; omega, s, by simpa using this.1⟩, chkCycs_zero.2 ⟨by omega, this.2.2⟩⟩
/-- The reversals of points turn. -/
theorem revStep_zig {o : List Rev} {p : Rev} (s : Bool) (h : zig s o.reverse) (hp : goodR p) (ha : ∀ x ∈ o, x.at_ < p.at_) : ∃ s', zig s' (revStep o p).reverse := by
  unfold revStep
  split
  · exact ⟨true, hp⟩
  · rename_i a r e
    split
    · exact ⟨s, h⟩
    · rename_i hne
      have hm : a ∈ o := by have : a ∈ o.reverse := by rw [e]; simp
                            simpa using this
      split
      · refine ⟨dirOf a p, ?_⟩
        rw [List.reverse_append, e]
        exact zig_push hp (ha a hm) (by unfold dirOf; by_cases h : a.ld < p.ld <;> simp [h]; omega) (by rw [e] at h; simpa [zig] using h)
      · rename_i b r2
        rw [e] at h
        have h1 := h.2.2.1
        split
        · rename_i ht
          refine ⟨!s, ?_⟩
          rw [List.reverse_append, e]
          refine zig_push hp (ha a hm) ?_ (by simpa using h)
          unfold trn at ht; rw [decide_eq_true_eq] at ht
          cases s <;> simp at h1 ⊢ <;> omega
        · rename_i ht
          refine ⟨s, ?_⟩
          have eo : o = r2.reverse ++ [b] ++ [a] := by have := congrArg List.reverse e; simpa using this
          have ed : o.dropLast = r2.reverse ++ [b] := by rw [eo]; simp
          rw [ed]
          have hb : b ∈ o := by rw [eo]; simp
          have er : (r2.reverse ++ [b] ++ [p]).reverse = p :: b :: r2 := by simp
          rw [er]
          refine zig_push hp (ha b hb) ?_ h.2.2.2
          unfold trn at ht; rw [decide_eq_true_eq] at ht
          cases s <;> simp at h1 ⊢ <;> omega
theorem revs_zig : ∀ (ps o : List Rev) (s : Bool), zig s o.reverse → (∀ x ∈ ps, goodR x) → (∀ x ∈ o, ∀ p ∈ ps, x.at_ < p.at_) → ps.Pairwise (fun x y => x.at_ < y.at_) → ∃ s', zig s' (ps.foldl revStep o).reverse
  | [], o, s, h, _, _, _ => ⟨s, h⟩
  | p :: ps, o, s, h, hg, ha, hp => by
    obtain ⟨s', h'⟩ := revStep_zig s h (hg p (by simp)) (fun x hx => ha x hx p (by simp))
    rw [List.foldl_cons]
    rw [List.pairwise_cons] at hp
    refine revs_zig ps _ s' h' (fun x hx => hg x (by simp [hx])) ?_ hp.2
    intro x hx q hq
    rcases revStep_mem o p x hx with hx | rfl
    · exact ha x hx q (by simp [hq])
    · exact hp.1 q hq
theorem points_pairwise (l : List Int) : (points l).Pairwise (fun x y => x.at_ < y.at_) := by
  unfold points
  rw [List.pairwise_map]
  rw [List.pairwise_iff_getElem]
  intro i j hi hj hij
  simp at hi hj ⊢
  exact hij
theorem revs_chk {l : List Int} (h : chkLoads l = 0) : chkRevs (revsOf (points l)) = 0 := by
  have hl := chkLoads_zero.1 h
  refine chk_zig.2 ⟨?_, ?_⟩
  · have : (revsOf (points l)).length ≤ (points l).length := by
      have : ∀ (ps o : List Rev), (ps.foldl revStep o).length ≤ o.length + ps.length := by
        intro ps
        induction ps with
        | nil => intro o; simp
        | cons p ps ih =>
          intro o
          rw [List.foldl_cons]
          have h1 := ih (revStep o p)
          have h2 : (revStep o p).length ≤ o.length + 1 := by
            unfold revStep
            split
            · rename_i e; simp
            · split
              · omega
              · split
                · simp
                · split
                  · simp
                  · simp
          simp only [List.length_cons]; omega
      have := this (points l) []; rw [List.length_nil, Nat.zero_add] at this; exact this
    have : (points l).length = l.length := by simp [points]
    omega
  · exact revs_zig (points l) [] true trivial (fun x hx => by have := points_mem hx; unfold goodR; have h2 := hl.2 _ this.1; omega) (by simp) (points_pairwise l)
end Go.Nac
set_option linter.unusedVariables false
namespace Go.Nac
def cntC (l : List Int) : List Cyc := (countOf (revsOf (points l))).1
def cntR (l : List Int) : List Rev := (countOf (revsOf (points l))).2.reverse
theorem drain_cyc (st : List Rev) : ∀ c ∈ (drain st).1, ∃ b ∈ st, ∃ d ∈ st, c = mkCyc b d := by
  induction st using drain.induct with
  | case1 d c b a r h ih =>
    rw [drain_yes h]; intro x hx
    rcases List.mem_cons.1 hx with rfl | hx
    · exact ⟨b, by simp, c, by simp, rfl⟩
    · obtain ⟨y, hy, z, hz, e⟩ := ih x hx
      have sub : ∀ w, w ∈ d :: a :: r → w ∈ d :: c :: b :: a :: r := fun w hw => by
        simp only [List.mem_cons] at hw ⊢
        rcases hw with h | h | h <;> simp [h]
      exact ⟨y, sub y hy, z, sub z hz, e⟩
  | case2 d c b a r h => rw [drain_no (by simpa using h)]; simp
  | case3 st h => rw [drain]; · simp
                  · exact h
theorem count_cyc (l : List Rev) : ∀ c ∈ (countOf l).1, ∃ b ∈ l, ∃ d ∈ l, c = mkCyc b d := by
  unfold countOf
  have : ∀ (l : List Rev) (s : List Cyc × List Rev) (A : List Rev), (∀ c ∈ s.1, ∃ b ∈ A, ∃ d ∈ A, c = mkCyc b d) → (∀ x ∈ s.2, x ∈ A) → (∀ x ∈ l, x ∈ A) → ∀ c ∈ (l.foldl countStep s).1, ∃ b ∈ A, ∃ d ∈ A, c = mkCyc b d := by
    intro l
    induction l with
    | nil => intro s A h _ _; exact h
    | cons y l ih =>
      intro s A h1 h2 h3
      rw [List.foldl_cons]
      have hst : ∀ x ∈ y :: s.2, x ∈ A := fun x hx => by
        rcases List.mem_cons.1 hx with rfl | hx
        · exact h3 _ (by simp)
        · exact h2 x hx
      refine ih _ A (fun c hc => ?_) (fun x hx => hst x (drain_mem _ x hx)) (fun x hx => h3 x (by simp [hx]))
      rcases List.mem_append.1 hc with hc | hc
      · exact h1 c hc
      · obtain ⟨b, hb, d, hd, e⟩ := drain_cyc _ c hc
        exact ⟨b, hst b hb, d, hst d hd, e⟩
  exact this l ([], []) l (by simp) (by simp) (fun x hx => hx)
theorem cntC_len (l : List Int) : 2 * (cntC l).length ≤ l.length ∧ (cntR l).length ≤ l.length := by
  have h1 := count_len (revsOf (points l))
  have h2 : ∀ (ps o : List Rev), (ps.foldl revStep o).length ≤ o.length + ps.length := by
    intro ps
    induction ps with
    | nil => intro o; simp
    | cons p ps ih =>
      intro o
      rw [List.foldl_cons]
      have h1 := ih (revStep o p)
      have h2 : (revStep o p).length ≤ o.length + 1 := by
        unfold revStep
        split
        · simp
        · split
          · omega
          · split
            · simp
            · split
              · simp
              · simp
      simp only [List.length_cons]; omega
  have h3 := h2 (points l) []
  have h4 : (points l).length = l.length := by simp [points]
  have h5 : ((points l).foldl revStep []).length = (revsOf (points l)).length := rfl
  simp only [List.length_nil] at h3
  unfold cntC cntR
  rw [List.length_reverse]; omega
end Go.Nac
set_option linter.unusedVariables false
namespace Go.Nac
inductive Stp : List (Int × Int) → List Int → List Int → Prop
  | dup (x : Int) (s : List Int) : Stp [] (x :: x :: s) (x :: s)
  | mid (a b c : Int) (s : List Int) (h : (a ≤ b ∧ b ≤ c) ∨ (c ≤ b ∧ b ≤ a)) : Stp [] (a :: b :: c :: s) (a :: c :: s)
  | up (a b c d : Int) (s : List Int) (h : a ≤ c ∧ c < b ∧ b ≤ d) : Stp [(c, b)] (a :: b :: c :: d :: s) (a :: d :: s)
  | dn (a b c d : Int) (s : List Int) (h : d ≤ b ∧ b < c ∧ c ≤ a) : Stp [(b, c)] (a :: b :: c :: d :: s) (a :: d :: s)
  | cons (x : Int) {E : List (Int × Int)} {l m : List Int} (h : Stp E l m) : Stp E (x :: l) (x :: m)
inductive Red : List (Int × Int) → List Int → List Int → Prop
  | refl (l : List Int) : Red [] l l
  | step {E F : List (Int × Int)} {l m n : List Int} (h : Stp E l m) (k : Red F m n) : Red (E ++ F) l n
theorem Stp.len {E : List (Int × Int)} {l m : List Int} (h : Stp E l m) : m.length < l.length := by
  induction h with
  | cons x h ih => simp; exact ih
  | _ => simp
theorem Stp.head {E : List (Int × Int)} {x : Int} {l m : List Int} (h : Stp E (x :: l) m) : ∃ m', m = x :: m' := by
  cases h <;> exact ⟨_, rfl⟩
theorem Red.one {E : List (Int × Int)} {l m : List Int} (h : Stp E l m) : Red E l m := by have := Red.step h (.refl m); rwa [List.append_nil] at this
theorem Red.trans {E F : List (Int × Int)} {l m n : List Int} (h : Red E l m) (k : Red F m n) : Red (E ++ F) l n := by
  induction h with
  | refl => exact k
  | step s _ ih => rw [List.append_assoc]; exact .step s (ih k)
theorem Red.cons {E : List (Int × Int)} {l m : List Int} (x : Int) (h : Red E l m) : Red E (x :: l) (x :: m) := by
  induction h with
  | refl => exact .refl _
  | step s _ ih => exact .step (.cons x s) ih
theorem Red.left {E : List (Int × Int)} {l m : List Int} (p : List Int) (h : Red E l m) : Red E (p ++ l) (p ++ m) := by
  induction p with
  | nil => exact h
  | cons x p ih => exact ih.cons x
theorem Stp.right {E : List (Int × Int)} {l m : List Int} (h : Stp E l m) (s : List Int) : Stp E (l ++ s) (m ++ s) := by
  induction h with
  | dup x t => exact .dup x (t ++ s)
  | mid a b c t h => exact .mid a b c (t ++ s) h
  | up a b c d t h => exact .up a b c d (t ++ s) h
  | dn a b c d t h => exact .dn a b c d (t ++ s) h
  | cons x _ ih => exact .cons x ih
theorem Red.right {E : List (Int × Int)} {l m : List Int} (h : Red E l m) (s : List Int) : Red E (l ++ s) (m ++ s) := by
  induction h with
  | refl => exact .refl _
  | step k _ ih => exact .step (k.right s) ih
/-- Two ways meet again. -/
def Meets (E F : List (Int × Int)) (m n : List Int) : Prop := ∃ q E' F', Red E' m q ∧ Red F' n q ∧ (E ++ E').Perm (F ++ F')
theorem Meets.symm {E F : List (Int × Int)} {m n : List Int} (h : Meets E F m n) : Meets F E n m := by
  obtain ⟨q, E', F', h1, h2, h3⟩ := h; exact ⟨q, F', E', h2, h1, h3.symm⟩
theorem Meets.same {E : List (Int × Int)} {m : List Int} : Meets E E m m := ⟨m, [], [], .refl _, .refl _, .refl _⟩
theorem Meets.cons {E F : List (Int × Int)} {m n : List Int} (x : Int) (h : Meets E F m n) : Meets E F (x :: m) (x :: n) := by
  obtain ⟨q, E', F', h1, h2, h3⟩ := h; exact ⟨x :: q, E', F', h1.cons x, h2.cons x, h3⟩
theorem Meets.mk {E F E' F' : List (Int × Int)} {m n q : List Int} (h : Stp E' m q) (k : Stp F' n q) (hp : (E ++ E').Perm (F ++ F')) : Meets E F m n := ⟨q, E', F', .one h, .one k, hp⟩
theorem perm_sw {α : Type} (A B : List α) : (A ++ B).Perm (B ++ A) := List.perm_append_comm
theorem meets_dup {F : List (Int × Int)} {x : Int} {s n : List Int} (k : Stp F (x :: x :: s) n) : Meets [] F (x :: s) n := by
  cases k with
  | dup => exact .same
  | mid _ _ c s h => exact .same
  | up _ _ c d s h => omega
  | dn _ _ c d s h => omega
  | cons _ k =>
    obtain ⟨m', rfl⟩ := k.head
    exact .mk k (.dup x m') (by simp)
theorem meets_mid {F : List (Int × Int)} {a b c : Int} {s n : List Int} (h : (a ≤ b ∧ b ≤ c) ∨ (c ≤ b ∧ b ≤ a)) (k : Stp F (a :: b :: c :: s) n) : Meets [] F (a :: c :: s) n := by
  cases k with
  | dup => exact .same
  | mid => exact .same
  | up _ _ _ d s g => omega
  | dn _ _ _ d s g => omega
  | cons _ k =>
    cases k with
    | dup => exact .same
    | mid _ _ d s g =>
      by_cases e : b = c
      · subst e; exact .same
      · exact .mk (.mid a c d s (by omega)) (.mid a b d s (by omega)) (by simp)
    | up _ _ d e s g => exact .mk (.up a c d e s (by omega)) (.mid a b e s (by omega)) (by simp)
    | dn _ _ d e s g => exact .mk (.dn a c d e s (by omega)) (.mid a b e s (by omega)) (by simp)
    | cons _ k =>
      obtain ⟨m', rfl⟩ := k.head
      exact .mk (.cons a k) (.mid a b c m' h) (by simp)
theorem meets_up {F : List (Int × Int)} {a b c d : Int} {s n : List Int} (h : a ≤ c ∧ c < b ∧ b ≤ d) (k : Stp F (a :: b :: c :: d :: s) n) : Meets [(c, b)] F (a :: d :: s) n := by
  cases k with
  | dup => omega
  | mid _ _ _ _ g => omega
  | up => exact .same
  | dn _ _ _ _ _ g => omega
  | cons _ k =>
    cases k with
    | dup => omega
    | mid _ _ _ _ g => omega
    | up _ _ _ e s g => omega
    | dn _ _ _ e s g =>
      have : d = b := by omega
      subst this; exact .same
    | cons _ k =>
      cases k with
      | dup => omega
      | mid _ _ e s g => exact .mk (.mid a d e s (by omega)) (.up a b c e s (by omega)) (by simp)
      | up _ _ e f s g => exact .mk (.up a d e f s (by omega)) (.up a b c f s (by omega)) (perm_sw _ _)
      | dn _ _ e f s g => omega
      | cons _ k =>
        obtain ⟨m', rfl⟩ := k.head
        exact .mk (.cons a k) (.up a b c d m' h) (perm_sw _ _)
theorem meets_dn {F : List (Int × Int)} {a b c d : Int} {s n : List Int} (h : d ≤ b ∧ b < c ∧ c ≤ a) (k : Stp F (a :: b :: c :: d :: s) n) : Meets [(b, c)] F (a :: d :: s) n := by
  cases k with
  | dup => omega
  | mid _ _ _ _ g => omega
  | up _ _ _ _ _ g => omega
  | dn => exact .same
  | cons _ k =>
    cases k with
    | dup => omega
    | mid _ _ _ _ g => omega
    | up _ _ _ e s g =>
      have : d = b := by omega
      subst this; exact .same
    | dn _ _ _ e s g => omega
    | cons _ k =>
      cases k with
      | dup => omega
      | mid _ _ e s g => exact .mk (.mid a d e s (by omega)) (.dn a b c e s (by omega)) (by simp)
      | up _ _ e f s g => omega
      | dn _ _ e f s g => exact .mk (.dn a d e f s (by omega)) (.dn a b c f s (by omega)) (perm_sw _ _)
      | cons _ k =>
        obtain ⟨m', rfl⟩ := k.head
        exact .mk (.cons a k) (.dn a b c d m' h) (perm_sw _ _)
theorem meets {E F : List (Int × Int)} {l m n : List Int} (h : Stp E l m) : Stp F l n → Meets E F m n := by
  induction h generalizing F n with
  | dup x s => exact meets_dup
  | mid a b c s h => exact meets_mid h
  | up a b c d s h => exact meets_up h
  | dn a b c d s h => exact meets_dn h
  | @cons x E l m h ih =>
    intro k
    cases k with
    | dup => exact (meets_dup (.cons _ h)).symm
    | mid _ _ _ _ g => exact (meets_mid g (.cons _ h)).symm
    | up _ _ _ _ _ g => exact (meets_up g (.cons _ h)).symm
    | dn _ _ _ _ _ g => exact (meets_dn g (.cons _ h)).symm
    | cons _ k => exact (ih k).cons x
def Norm (l : List Int) : Prop := ∀ E m, ¬ Stp E l m
theorem norm_ex : ∀ (k : Nat) (l : List Int), l.length ≤ k → ∃ E n, Red E l n ∧ Norm n
  | 0, l, h => by
    have : l = [] := List.eq_nil_of_length_eq_zero (by omega)
    subst this; exact ⟨[], [], .refl _, fun E m h => by cases h⟩
  | k + 1, l, h => by
    by_cases hn : Norm l
    · exact ⟨[], l, .refl _, hn⟩
    · unfold Norm at hn
      simp only [Classical.not_forall, Classical.not_not] at hn
      obtain ⟨E, m, hs⟩ := hn
      obtain ⟨F, n, h1, h2⟩ := norm_ex k m (by have := hs.len; omega)
      exact ⟨E ++ F, n, .step hs h1, h2⟩
theorem red_unique : ∀ (k : Nat) (l : List Int), l.length ≤ k → ∀ {E F : List (Int × Int)} {m n : List Int}, Red E l m → Norm m → Red F l n → Norm n → m = n ∧ E.Perm F := by
  intro k
  induction k with
  | zero =>
    intro l hl E F m n h1 n1 h2 n2
    have : l = [] := List.eq_nil_of_length_eq_zero (by omega)
    subst this
    cases h1 with
    | refl =>
      cases h2 with
      | refl => exact ⟨rfl, .refl _⟩
      | step s _ => exact absurd s (n1 _ _)
    | step s _ => cases s
  | succ k ih =>
    intro l hl E F m n h1 n1 h2 n2
    cases h1 with
    | refl =>
      cases h2 with
      | refl => exact ⟨rfl, .refl _⟩
      | step s _ => exact absurd s (n1 _ _)
    | @step e1 E1 _ m1 _ s1 r1 =>
      cases h2 with
      | refl => exact absurd s1 (n2 _ _)
      | @step e2 E2 _ m2 _ s2 r2 =>
        have hl1 := s1.len; have hl2 := s2.len
        obtain ⟨q, G1, G2, g1, g2, g3⟩ := meets s1 s2
        obtain ⟨G, n3, g4, g5⟩ := norm_ex q.length q (Nat.le_refl _)
        obtain ⟨a1, a2⟩ := ih m1 (by omega) r1 n1 (g1.trans g4) g5
        obtain ⟨b1, b2⟩ := ih m2 (by omega) r2 n2 (g2.trans g4) g5
        refine ⟨a1.trans b1.symm, ?_⟩
        have c1 : (e1 ++ E1).Perm (e1 ++ (G1 ++ G)) := a2.append_left e1
        have c2 : (e2 ++ E2).Perm (e2 ++ (G2 ++ G)) := b2.append_left e2
        refine c1.trans (.trans ?_ c2.symm)
        rw [← List.append_assoc, ← List.append_assoc]
        exact g3.append_right G
theorem Red.unique {E F : List (Int × Int)} {l m n : List Int} (h1 : Red E l m) (n1 : Norm m) (h2 : Red F l n) (n2 : Norm n) : m = n ∧ E.Perm F := red_unique l.length l (Nat.le_refl _) h1 n1 h2 n2
/-- Backwards. -/
theorem Stp.back {E : List (Int × Int)} {l m : List Int} (h : Stp E l m) : Stp E l.reverse m.reverse := by
  have ctx : ∀ {E : List (Int × Int)} {l m : List Int} (p : List Int), Stp E l m → Stp E (p ++ l) (p ++ m) := by
    intro E l m p h
    induction p with
    | nil => exact h
    | cons x p ih => exact .cons x ih
  induction h with
  | dup x s => simp only [List.reverse_cons, List.append_assoc, List.cons_append, List.nil_append]; exact ctx _ (.dup x [])
  | mid a b c s h => simp only [List.reverse_cons, List.append_assoc, List.cons_append, List.nil_append]; exact ctx _ (.mid c b a [] (by omega))
  | up a b c d s h => simp only [List.reverse_cons, List.append_assoc, List.cons_append, List.nil_append]; exact ctx _ (.dn d c b a [] (by omega))
  | dn a b c d s h => simp only [List.reverse_cons, List.append_assoc, List.cons_append, List.nil_append]; exact ctx _ (.up d c b a [] (by omega))
  | cons x _ ih => rw [List.reverse_cons, List.reverse_cons]; exact ih.right [x]
theorem Red.back {E : List (Int × Int)} {l m : List Int} (h : Red E l m) : Red E l.reverse m.reverse := by
  induction h with
  | refl => exact .refl _
  | step s _ ih => exact .step s.back ih
theorem Norm.back {l : List Int} (h : Norm l) : Norm l.reverse := fun E m s => by
  have := s.back; rw [List.reverse_reverse] at this; exact h _ _ this
theorem Stp.mem {E : List (Int × Int)} {l m : List Int} (h : Stp E l m) : ∀ x ∈ m, x ∈ l := by
  induction h with
  | cons x _ ih => intro y hy; rcases List.mem_cons.1 hy with rfl | hy; · simp
                   · simp [ih y hy]
  | dup => intro y hy; exact List.mem_cons_of_mem _ hy
  | mid => intro y hy; simp only [List.mem_cons] at hy ⊢; rcases hy with h | h | h <;> simp [h]
  | up => intro y hy; simp only [List.mem_cons] at hy ⊢; rcases hy with h | h | h <;> simp [h]
  | dn => intro y hy; simp only [List.mem_cons] at hy ⊢; rcases hy with h | h | h <;> simp [h]
theorem Red.mem {E : List (Int × Int)} {l m : List Int} (h : Red E l m) : ∀ x ∈ m, x ∈ l := by
  induction h with
  | refl => exact fun x hx => hx
  | step s _ ih => exact fun x hx => s.mem x (ih x hx)
theorem Red.head {E : List (Int × Int)} {x : Int} {l m : List Int} (h : Red E (x :: l) m) : ∃ m', m = x :: m' := by
  generalize hl : x :: l = L at h
  induction h generalizing l with
  | refl => exact ⟨l, hl.symm⟩
  | step s _ ih =>
    subst hl
    obtain ⟨m', rfl⟩ := s.head
    exact ih rfl
theorem Norm.tail {x : Int} {l : List Int} (h : Norm (x :: l)) : Norm l := fun E m s => h _ _ (.cons x s)
end Go.Nac
set_option linter.unusedVariables false
namespace Go.Nac
def lds (l : List Rev) : List Int := l.map Rev.ld
def vals (l : List Cyc) : List (Int × Int) := l.map fun c => (c.lo, c.hi)
theorem lds_append (a b : List Rev) : lds (a ++ b) = lds a ++ lds b := by simp [lds]
theorem lds_rev (a : List Rev) : lds a.reverse = (lds a).reverse := by simp [lds]
theorem vals_append (a b : List Cyc) : vals (a ++ b) = vals a ++ vals b := by simp [vals]
theorem red_drain : ∀ (st : List Rev) (s : Bool), zig s st → Red (vals (drain st).1) (lds st.reverse) (lds (drain st).2.reverse) := by
  intro st
  induction st using drain.induct with
  | case1 d c b a r h ih =>
    intro s hz
    have := ih s (zig_close hz h)
    rw [drain_yes h]
    have k := closes_zig hz h
    have e : vals (mkCyc b c :: (drain (d :: a :: r)).1) = [(min b.ld c.ld, max b.ld c.ld)] ++ vals (drain (d :: a :: r)).1 := rfl
    simp only []
    rw [e]
    refine .step ?_ this
    have ctx : ∀ {E : List (Int × Int)} {l m : List Int} (p : List Int), Stp E l m → Stp E (p ++ l) (p ++ m) := by
      intro E l m p h
      induction p with
      | nil => exact h
      | cons x p ih => exact .cons x ih
    have e1 : lds (d :: c :: b :: a :: r).reverse = lds r.reverse ++ [a.ld, b.ld, c.ld, d.ld] := by simp [lds]
    have e2 : lds (d :: a :: r).reverse = lds r.reverse ++ [a.ld, d.ld] := by simp [lds]
    rw [e1, e2]
    refine ctx _ ?_
    cases s
    · have := k.2 rfl
      rw [show min b.ld c.ld = b.ld by omega, show max b.ld c.ld = c.ld by omega]
      exact .dn _ _ _ _ [] (by omega)
    · have := k.1 rfl
      rw [show min b.ld c.ld = c.ld by omega, show max b.ld c.ld = b.ld by omega]
      exact .up _ _ _ _ [] (by omega)
  | case2 d c b a r h => intro s hz; rw [drain_no (by simpa using h)]; exact .refl _
  | case3 st h =>
    intro s hz
    rw [drain]
    · exact .refl _
    · exact h
theorem count_push {x : Rev} {L : List Rev} {s : Bool} (h : zig s (x :: L)) : zig s (x :: (countOf L.reverse).2) := by
  obtain ⟨h1, h2, _⟩ := count_zig L (!s) (zig_tail h)
  cases L with
  | nil => simpa [countOf] using h
  | cons y L =>
    cases hst : (countOf (y :: L).reverse).2 with
    | nil => rw [hst] at h2; cases h2
    | cons z st =>
      rw [hst] at h1 h2
      simp at h2; subst h2
      exact zig_push h.1 h.2.1 h.2.2.1 h1
theorem red_count' : ∀ (L : List Rev) (s : Bool), zig s L → Red (vals (countOf L.reverse).1) (lds L.reverse) (lds (countOf L.reverse).2.reverse)
  | [], s, _ => .refl _
  | x :: L, s, h => by
    have ih := red_count' L (!s) (zig_tail h)
    have hd := red_drain _ s (count_push h)
    rw [List.reverse_cons, count_append]
    have e : (countStep (countOf L.reverse) x).1 = (countOf L.reverse).1 ++ (drain (x :: (countOf L.reverse).2)).1 := rfl
    have e2 : (countStep (countOf L.reverse) x).2 = (drain (x :: (countOf L.reverse).2)).2 := rfl
    rw [e, e2, vals_append, lds_append]
    rw [List.reverse_cons, lds_append] at hd
    exact (ih.right (lds [x])).trans hd
theorem red_count {l : List Rev} (h : chkRevs l = 0) : Red (vals (countOf l).1) (lds l) (lds (countOf l).2.reverse) := by
  obtain ⟨_, s, h2⟩ := chk_zig.1 h
  have := red_count' l.reverse s h2
  rwa [List.reverse_reverse] at this
/-- Nothing more closes. -/
def irr : List Rev → Prop
  | d :: c :: b :: a :: r => closesB a b c d = false ∧ irr (c :: b :: a :: r)
  | _ => True
theorem irr_tail {x : Rev} {st : List Rev} (h : irr (x :: st)) : irr st := by
  match st, h with
  | [], _ => trivial
  | [_], _ => trivial
  | [_, _], _ => trivial
  | c :: b :: a :: r, h => exact h.2
theorem drain_irr : ∀ (st : List Rev), irr st.tail → irr (drain st).2 := by
  intro st
  induction st using drain.induct with
  | case1 d c b a r h ih =>
    intro hi
    rw [drain_yes h]
    exact ih (irr_tail (irr_tail hi))
  | case2 d c b a r h => intro hi; rw [drain_no (by simpa using h)]; exact ⟨by simpa using h, hi⟩
  | case3 st h =>
    intro hi
    rw [drain]
    · match st, h with
      | [], _ => trivial
      | [_], _ => trivial
      | [_, _], _ => trivial
      | [_, _, _], _ => trivial
      | d :: c :: b :: a :: r, h => exact absurd rfl (h d c b a r)
    · exact h
theorem count_irr : ∀ (L : List Rev), irr (countOf L.reverse).2
  | [] => trivial
  | x :: L => by
    rw [List.reverse_cons, count_append]
    exact drain_irr _ (count_irr L)
theorem norm_zig {E : List (Int × Int)} {l m : List Int} (h : Stp E l m) : ∀ (st : List Rev) (s : Bool), l = lds st → zig s st → irr st → False := by
  induction h with
  | dup x t =>
    intro st s e hz _
    match st, e, hz with
    | a :: b :: r, e, hz =>
      simp [lds] at e
      have := hz.2.2.1
      cases s <;> simp at this <;> omega
  | mid a b c t h =>
    intro st s e hz _
    match st, e, hz with
    | x :: y :: z :: r, e, hz =>
      simp [lds] at e
      have h1 := hz.2.2.1
      have h2 := hz.2.2.2.2.2.1
      cases s <;> simp at h1 h2 <;> omega
  | up a b c d t h =>
    intro st s e hz hi
    match st, e, hz, hi with
    | x :: y :: z :: w :: r, e, hz, hi =>
      simp [lds] at e
      have := hi.1
      rw [Bool.eq_false_iff] at this
      refine this (closes_iff.2 ?_)
      unfold apartI
      omega
  | dn a b c d t h =>
    intro st s e hz hi
    match st, e, hz, hi with
    | x :: y :: z :: w :: r, e, hz, hi =>
      simp [lds] at e
      have := hi.1
      rw [Bool.eq_false_iff] at this
      refine this (closes_iff.2 ?_)
      unfold apartI
      omega
  | cons x _ ih =>
    intro st s e hz hi
    match st, e, hz, hi with
    | y :: r, e, hz, hi =>
      simp only [lds, List.map_cons, List.cons.injEq] at e
      exact ih r (!s) e.2 (zig_tail hz) (irr_tail hi)
theorem norm_count {l : List Rev} (h : chkRevs l = 0) : Norm (lds (countOf l).2.reverse) := by
  obtain ⟨_, s, h2⟩ := chk_zig.1 h
  have h3 := (count_zig l.reverse s h2).1
  have h4 := count_irr l.reverse
  rw [List.reverse_reverse] at h3 h4
  have : Norm (lds (countOf l).2) := fun E m k => norm_zig k _ s rfl h3 h4
  rw [lds_rev]; exact this.back
end Go.Nac
set_option linter.unusedVariables false
namespace Go.Nac
def gtP (q p : Pnt) : Bool := decide (p.x < q.x) || (decide (q.x = p.x) && decide (p.y < q.y))
def posP (p : Pnt) (out : List Pnt) : Nat → Nat
  | 0 => 0
  | k + 1 => match out[k]? with
    | some q => if gtP q p = true then posP p out k else k + 1
    | none => k + 1
theorem posP_le (p : Pnt) (out : List Pnt) (k : Nat) : posP p out k ≤ k := by
  induction k with
  | zero => exact Nat.le_refl _
  | succ k ih => simp only [posP]; split; · split <;> omega
                 · omega
def insP (out : List Pnt) (p : Pnt) : List Pnt := out.take (posP p out out.length) ++ p :: out.drop (posP p out out.length)
def pntOf (c : Cyc) : Pnt := ⟨c.lo, c.hi⟩
def valS (l : List Cyc) : List Pnt := l.foldl (fun o c => insP o (pntOf c)) []
theorem valS_snoc {l : List Cyc} {k : Nat} {c : Cyc} (h : l[k]? = some c) : valS (l.take (k + 1)) = insP (valS (l.take k)) (pntOf c) := by
  obtain ⟨h1, h2⟩ := List.getElem?_eq_some_iff.1 h
  unfold valS
  rw [List.take_succ_eq_append_getElem h1, h2, List.foldl_append]; rfl
def LeP (a b : Pnt) : Prop := gtP a b = false
theorem LeP.iff {a b : Pnt} : LeP a b ↔ a.x < b.x ∨ (a.x = b.x ∧ a.y ≤ b.y) := by unfold LeP gtP; simp; omega
theorem insP_perm (out : List Pnt) (p : Pnt) : (insP out p).Perm (p :: out) := by
  unfold insP
  refine List.perm_middle.trans ?_
  rw [List.take_append_drop]
theorem pos_spec (p : Pnt) (out : List Pnt) : ∀ k, k ≤ out.length → (∀ i, posP p out k ≤ i → i < k → ∀ q, out[i]? = some q → gtP q p = true) ∧ (∀ q, 0 < posP p out k → out[posP p out k - 1]? = some q → gtP q p = false)
  | 0, _ => ⟨fun i _ h => by omega, fun q h => by simp [posP] at h⟩
  | k + 1, hk => by
    have ih := pos_spec p out k (by omega)
    obtain ⟨q, hq⟩ : ∃ q, out[k]? = some q := ⟨_, List.getElem?_eq_getElem (by omega)⟩
    simp only [posP, hq]
    by_cases hg : gtP q p = true
    · rw [if_pos hg]
      refine ⟨fun i h1 h2 r hr => ?_, ih.2⟩
      by_cases e : i = k
      · subst e; rw [hq] at hr; cases hr; exact hg
      · exact ih.1 i h1 (by omega) r hr
    · rw [if_neg hg]
      refine ⟨fun i h1 h2 => by omega, fun r _ hr => ?_⟩
      simp only [Nat.add_sub_cancel] at hr
      rw [hq] at hr; cases hr
      simpa using hg
theorem insP_sorted {out : List Pnt} {p : Pnt} (h : out.Pairwise LeP) : (insP out p).Pairwise LeP := by
  obtain ⟨h1, h2⟩ := pos_spec p out out.length (Nat.le_refl _)
  have hle := posP_le p out out.length
  generalize hn : posP p out out.length = n at h1 h2 hle
  unfold insP
  rw [hn, List.pairwise_append]
  have hs : (out.take n ++ out.drop n).Pairwise LeP := by rw [List.take_append_drop]; exact h
  rw [List.pairwise_append] at hs
  refine ⟨hs.1, ?_, ?_⟩
  · rw [List.pairwise_cons]
    refine ⟨fun q hq => ?_, hs.2.1⟩
    obtain ⟨i, hi, e⟩ := List.getElem_of_mem hq
    have := h1 (n + i) (by omega) (by simp at hi; omega) q (by rw [← e, List.getElem_drop]; exact List.getElem?_eq_getElem _)
    rw [LeP.iff]; unfold gtP at this; simp at this; omega
  · intro a ha b hb
    rcases List.mem_cons.1 hb with rfl | hb
    · have hn0 : 0 < n := by
        cases n with
        | zero => simp at ha
        | succ n => omega
      obtain ⟨q, hq⟩ : ∃ q, out[n - 1]? = some q := ⟨_, List.getElem?_eq_getElem (by omega)⟩
      have hqp := h2 q hn0 hq
      obtain ⟨i, hi, e⟩ := List.getElem_of_mem ha
      rw [List.getElem_take] at e
      have hi' : i < n := by simp at hi; omega
      by_cases ei : i = n - 1
      · subst ei
        have : q = a := by rw [← e]; exact (Option.some.inj (by rw [← hq]; exact (List.getElem?_eq_getElem _)))
        rw [← this]; exact hqp
      · have h3 := (List.pairwise_iff_getElem.1 h) i (n - 1) (by omega) (by omega) (by omega)
        rw [e] at h3
        have : out[n - 1]'(by omega) = q := Option.some.inj (by rw [← hq]; exact (List.getElem?_eq_getElem _).symm)
        rw [this] at h3
        rw [LeP.iff] at h3
        have h4 : LeP q b := hqp
        rw [LeP.iff] at h4 ⊢
        omega
    · exact hs.2.2 a ha b hb
theorem valS_fold : ∀ (l : List Cyc) (o : List Pnt), o.Pairwise LeP → (l.foldl (fun o c => insP o (pntOf c)) o).Pairwise LeP ∧ (l.foldl (fun o c => insP o (pntOf c)) o).Perm (l.map pntOf ++ o)
  | [], o, h => ⟨h, .refl _⟩
  | c :: l, o, h => by
    obtain ⟨h1, h2⟩ := valS_fold l (insP o (pntOf c)) (insP_sorted h)
    refine ⟨h1, h2.trans ?_⟩
    refine ((insP_perm o (pntOf c)).append_left _).trans ?_
    rw [List.map_cons, List.cons_append]
    exact List.perm_middle
theorem valS_sorted (l : List Cyc) : (valS l).Pairwise LeP := (valS_fold l [] .nil).1
theorem valS_perm (l : List Cyc) : (valS l).Perm (l.map pntOf) := by have := (valS_fold l [] .nil).2; rwa [List.append_nil] at this
theorem valS_len (l : List Cyc) : (valS l).length = l.length := by have := (valS_perm l).length_eq; simpa using this
theorem valS_eq {a b : List Cyc} (h : (vals a).Perm (vals b)) : valS a = valS b := by
  have hm : ∀ l : List Cyc, l.map pntOf = (vals l).map fun p => ⟨p.1, p.2⟩ := fun l => by unfold vals; rw [List.map_map]; rfl
  have hp : (valS a).Perm (valS b) := by
    refine (valS_perm a).trans (.trans ?_ (valS_perm b).symm)
    rw [hm, hm]; exact h.map _
  refine List.Perm.eq_of_pairwise (le := LeP) (fun x y _ _ h1 h2 => ?_) (valS_sorted a) (valS_sorted b) hp
  rw [LeP.iff] at h1 h2
  cases x; cases y; simp at h1 h2 ⊢; omega
end Go.Nac
set_option linter.unusedVariables false
namespace Go.Nac
def mapR (f : Int → Int) (r : Rev) : Rev := ⟨r.at_, f r.ld⟩
def negC (c : Cyc) : Cyc := ⟨c.from_, c.to_, -c.hi, -c.lo⟩
def dblC (c : Cyc) : Cyc := ⟨c.from_, c.to_, 2 * c.lo, 2 * c.hi⟩
/-- The greatest and the least stay. -/
theorem Stp.ext {E : List (Int × Int)} {l m : List Int} (h : Stp E l m) : ∀ z ∈ l, (∃ w ∈ m, z ≤ w) ∧ (∃ w ∈ m, w ≤ z) := by
  have self : ∀ {m : List Int} {z : Int}, z ∈ m → (∃ w ∈ m, z ≤ w) ∧ (∃ w ∈ m, w ≤ z) := fun h => ⟨⟨_, h, Int.le_refl _⟩, ⟨_, h, Int.le_refl _⟩⟩
  induction h with
  | dup x s => intro z hz; exact self (by simp only [List.mem_cons] at hz ⊢; rcases hz with h | h | h <;> simp [h])
  | mid a b c s h =>
    intro z hz
    simp only [List.mem_cons] at hz
    rcases hz with h1 | h1 | h1
    · exact self (by simp [h1])
    · rcases h with h | h
      · exact ⟨⟨c, by simp, by omega⟩, ⟨a, by simp, by omega⟩⟩
      · exact ⟨⟨a, by simp, by omega⟩, ⟨c, by simp, by omega⟩⟩
    · exact self (by rcases h1 with h1 | h1 <;> simp [h1])
  | up a b c d s h =>
    intro z hz
    simp only [List.mem_cons] at hz
    rcases hz with h1 | h1 | h1 | h1
    · exact self (by simp [h1])
    · exact ⟨⟨d, by simp, by omega⟩, ⟨a, by simp, by omega⟩⟩
    · exact ⟨⟨d, by simp, by omega⟩, ⟨a, by simp, by omega⟩⟩
    · exact self (by rcases h1 with h1 | h1 <;> simp [h1])
  | dn a b c d s h =>
    intro z hz
    simp only [List.mem_cons] at hz
    rcases hz with h1 | h1 | h1 | h1
    · exact self (by simp [h1])
    · exact ⟨⟨a, by simp, by omega⟩, ⟨d, by simp, by omega⟩⟩
    · exact ⟨⟨a, by simp, by omega⟩, ⟨d, by simp, by omega⟩⟩
    · exact self (by rcases h1 with h1 | h1 <;> simp [h1])
  | cons x h ih =>
    intro z hz
    rcases List.mem_cons.1 hz with rfl | hz
    · exact self (by simp)
    · obtain ⟨⟨w, h1, h2⟩, ⟨v, h3, h4⟩⟩ := ih z hz
      exact ⟨⟨w, by simp [h1], h2⟩, ⟨v, by simp [h3], h4⟩⟩
theorem Red.ext {E : List (Int × Int)} {l m : List Int} (h : Red E l m) : ∀ z ∈ l, (∃ w ∈ m, z ≤ w) ∧ (∃ w ∈ m, w ≤ z) := by
  induction h with
  | refl => exact fun z hz => ⟨⟨z, hz, Int.le_refl _⟩, ⟨z, hz, Int.le_refl _⟩⟩
  | step s _ ih =>
    intro z hz
    obtain ⟨⟨w, h1, h2⟩, ⟨v, h3, h4⟩⟩ := s.ext z hz
    obtain ⟨⟨w', k1, k2⟩, _⟩ := ih w h1
    obtain ⟨_, ⟨v', k3, k4⟩⟩ := ih v h3
    exact ⟨⟨w', k1, by omega⟩, ⟨v', k3, by omega⟩⟩
theorem zig_at : ∀ (L : List Rev) (s : Bool), zig s L → L.Pairwise fun x y => y.at_ < x.at_
  | [], _, _ => .nil
  | [x], _, _ => by simp
  | x :: y :: L, s, h => by
    have ih := zig_at (y :: L) _ h.2.2.2
    rw [List.pairwise_cons]
    refine ⟨fun z hz => ?_, ih⟩
    rcases List.mem_cons.1 hz with rfl | hz
    · exact h.2.1
    · rw [List.pairwise_cons] at ih
      have := ih.1 z hz; have := h.2.1; omega
end Go.Nac
set_option linter.unusedVariables false
namespace Go.Nac
theorem cntR_chk {l : List Int} (h : chkLoads l = 0) : chkRevs (cntR l) = 0 ∧ chkCycs (cntC l) = 0 := by
  have := count_chk (revs_chk h)
  exact ⟨this.1, this.2⟩
theorem revs_ne {l : List Int} : (revsOf (points l)).length = 2 * (cntC l).length + (cntR l).length := by
  have := count_len (revsOf (points l)); unfold cntC cntR; rw [List.length_reverse]; omega
def joinL (a b : List Int) : List Rev := revsOf (cntR a ++ (cntR b).map (shR a.length))
end Go.Nac
set_option linter.unusedVariables false
namespace Go.Nac
def ends (cs : List Cyc) : List Int := cs.flatMap fun c => [c.from_, c.to_]
def ats (l : List Rev) : List Int := l.map Rev.at_
/-- A map of whole numbers, by what it says. -/
def IM (es : List (Value × Value)) (g : Int → Int) : Prop := AllInt es ∧ ∀ x, (find (.int .i64 x) es).getD (.int .i64 0) = .int .i64 (g x)
theorem IM.nil : IM [] (fun _ => 0) := ⟨(by intro e he; cases he), fun x => rfl⟩
theorem IM.upd {es : List (Value × Value)} {g : Int → Int} (h : IM es g) (x v : Int) : IM (upd (.int .i64 x) (.int .i64 v) es) (fun y => if y = x then v else g y) := by
  refine ⟨h.1.upd _ _, fun y => ?_⟩
  rw [find_upd]
  by_cases e : y = x
  · subst e; simp
  · simp only [if_neg e]; exact h.2 y
theorem IM.congr {es : List (Value × Value)} {g g' : Int → Int} (h : IM es g) (e : ∀ x, g x = g' x) : IM es g' := ⟨h.1, fun x => by rw [h.2 x, e x]⟩
def atF (l : List Rev) : Int → Int := l.foldl (fun f r => fun y => if y = r.at_ then r.ld else f y) (fun _ => 0)
def seenF (L : List Int) : Int → Int := fun y => L.count y
/-- Crossings of a level. -/
def xN (lv : Int) : List Int → Nat
  | a :: b :: r => (if a ≤ lv ∧ lv < b then 1 else 0) + xN lv (b :: r)
  | _ => 0
def inB (lv : Int) (E : List (Int × Int)) : Nat := (E.filter fun p => decide (p.1 ≤ lv) && decide (lv < p.2)).length
def upB (lv : Int) (cs : List Cyc) : List Cyc := cs.filter fun c => decide (c.lo ≤ lv) && decide (lv < c.hi)
end Go.Nac
set_option linter.unusedVariables false
namespace Go.Nac
def stepsOk (t : Int) : List Rev → Prop
  | x :: y :: r => t ≤ apartI x y ∧ stepsOk t (y :: r)
  | _ => True
theorem stepsOk_tail {t : Int} {x : Rev} {l : List Rev} (h : stepsOk t (x :: l)) : stepsOk t l := by
  cases l with
  | nil => trivial
  | cons y l => exact h.2
theorem stepsOk_join {t : Int} : ∀ {P : List Rev} {q p : Rev} {R : List Rev}, stepsOk t (P ++ [q]) → t ≤ apartI q p → stepsOk t (p :: R) → stepsOk t (P ++ q :: p :: R)
  | [], q, p, R, _, h2, h3 => ⟨h2, h3⟩
  | [x], q, p, R, h1, h2, h3 => ⟨h1.1, h2, h3⟩
  | x :: y :: P, q, p, R, h1, h2, h3 => ⟨h1.1, stepsOk_join (P := y :: P) h1.2 h2 h3⟩
theorem stepsOk_left {t : Int} : ∀ {P R : List Rev}, stepsOk t (P ++ R) → stepsOk t P
  | [], _, _ => trivial
  | [_], _, _ => trivial
  | x :: y :: P, R, h => ⟨h.1, stepsOk_left (P := y :: P) h.2⟩
theorem stepsOk_cat {t : Int} {P : List Rev} {q : Rev} {R : List Rev} (h1 : stepsOk t (P ++ [q])) (h2 : stepsOk t (q :: R)) : stepsOk t (P ++ q :: R) := by
  cases R with
  | nil => exact h1
  | cons p R => exact stepsOk_join h1 h2.1 h2.2
def btw (x y z : Rev) : Prop := (x.ld ≤ z.ld ∧ z.ld ≤ y.ld) ∨ (y.ld ≤ z.ld ∧ z.ld ≤ x.ld)
/-- A stack, and the list that still has what is not small between. -/
inductive Bmp (t : Int) : List Rev → List Rev → Prop
  | one (x : Rev) : Bmp t [x] [x]
  | cons (y x : Rev) (st sp B : List Rev) (h : Bmp t (x :: st) (x :: sp)) (hB : B = [] ∨ stepsOk t (y :: (B ++ [x]))) (hb : ∀ z ∈ B, btw x y z) : Bmp t (y :: x :: st) (y :: (B ++ x :: sp))
theorem Bmp.head {t : Int} {y : Rev} {st sp : List Rev} (h : Bmp t (y :: st) sp) : ∃ sp', sp = y :: sp' := by cases h <;> exact ⟨_, rfl⟩
theorem Bmp.inv {t : Int} {y x : Rev} {st sp : List Rev} (h : Bmp t (y :: x :: st) sp) : ∃ sp' B, sp = y :: (B ++ x :: sp') ∧ Bmp t (x :: st) (x :: sp') ∧ (B = [] ∨ stepsOk t (y :: (B ++ [x]))) ∧ ∀ z ∈ B, btw x y z := by
  cases h with | cons _ _ _ sp' B h hB hb => exact ⟨sp', B, rfl, h, hB, hb⟩
theorem seg_ok {t : Int} {y x : Rev} {B : List Rev} (hB : B = [] ∨ stepsOk t (y :: (B ++ [x]))) (h : t ≤ apartI y x) : stepsOk t (y :: (B ++ [x])) := by
  rcases hB with rfl | hB
  · exact ⟨h, trivial⟩
  · exact hB
theorem apart_comm (a b : Rev) : apartI a b = apartI b a := by unfold apartI; omega
/-- A cycle that is not small stays. -/
theorem bmp_large {t : Int} {s : Bool} {a b c d : Rev} {r sp : List Rev} (hz : zig s (d :: c :: b :: a :: r)) (hc : closesB a b c d = true) (ht : t ≤ apartI b c) (h : Bmp t (d :: c :: b :: a :: r) sp) : Bmp t (d :: a :: r) sp := by
  obtain ⟨sp1, B1, rfl, h1, o1, b1⟩ := h.inv
  obtain ⟨sp2, B2, e2, h2, o2, b2⟩ := h1.inv
  obtain ⟨sp3, B3, e3, h3, o3, b3⟩ := h2.inv
  simp only [List.cons.injEq, true_and] at e2 e3
  subst e2; subst e3
  have k := closes_iff.1 hc
  have kz := closes_zig hz hc
  have q1 := seg_ok o1 (by rw [apart_comm]; omega)
  have q2 := seg_ok o2 (by rw [apart_comm]; exact ht)
  have q3 := seg_ok o3 (by rw [apart_comm]; omega)
  have e : d :: (B1 ++ c :: (B2 ++ b :: (B3 ++ a :: sp3))) = d :: ((B1 ++ c :: (B2 ++ b :: B3)) ++ a :: sp3) := by simp
  rw [e]
  refine .cons d a r sp3 _ h3 (.inr ?_) ?_
  · have e2 : d :: ((B1 ++ c :: (B2 ++ b :: B3)) ++ [a]) = (d :: B1) ++ c :: (B2 ++ b :: (B3 ++ [a])) := by simp
    rw [e2]
    refine stepsOk_cat (by simpa using q1) ?_
    have e3 : c :: (B2 ++ b :: (B3 ++ [a])) = (c :: B2) ++ b :: (B3 ++ [a]) := by simp
    rw [e3]
    exact stepsOk_cat (by simpa using q2) q3
  · intro z hz'
    simp only [List.mem_append, List.mem_cons] at hz'
    have hk : (a.ld ≤ c.ld ∧ c.ld < b.ld ∧ b.ld ≤ d.ld) ∨ (d.ld ≤ b.ld ∧ b.ld < c.ld ∧ c.ld ≤ a.ld) := by
      cases s
      · have := kz.2 rfl; omega
      · have := kz.1 rfl; omega
    rcases hz' with h | h | h | h | h
    · have := b1 z h; unfold btw at this ⊢; omega
    · subst h; unfold btw; omega
    · have := b2 z h; unfold btw at this ⊢; omega
    · subst h; unfold btw; omega
    · have := b3 z h; unfold btw at this ⊢; omega
theorem zig_close_in : ∀ (P : List Rev) (s : Bool) {p b c q : Rev} {R : List Rev}, zig s (P ++ q :: c :: b :: p :: R) → closesB p b c q = true → zig s (P ++ q :: p :: R)
  | [], s, p, b, c, q, R, h, hc => zig_close h hc
  | [x], s, p, b, c, q, R, h, hc => ⟨h.1, h.2.1, h.2.2.1, zig_close_in [] (!s) h.2.2.2 hc⟩
  | x :: y :: P, s, p, b, c, q, R, h, hc => ⟨h.1, h.2.1, h.2.2.1, zig_close_in (y :: P) (!s) h.2.2.2 hc⟩
theorem zig_drop : ∀ (P : List Rev) (s : Bool) {R : List Rev}, zig s (P ++ R) → ∃ s', zig s' R
  | [], s, R, h => ⟨s, h⟩
  | x :: P, s, R, h => zig_drop P _ (zig_tail h)
theorem red_close_in {P : List Rev} {s : Bool} {p b c q : Rev} {R : List Rev} (h : zig s (P ++ q :: c :: b :: p :: R)) (hc : closesB p b c q = true) :
    Red [(min b.ld c.ld, max b.ld c.ld)] (lds (P ++ q :: c :: b :: p :: R).reverse) (lds (P ++ q :: p :: R).reverse) := by
  obtain ⟨s', hz⟩ := zig_drop P s h
  have k := closes_zig hz hc
  have e1 : lds (P ++ q :: c :: b :: p :: R).reverse = lds R.reverse ++ (p.ld :: b.ld :: c.ld :: q.ld :: lds P.reverse) := by simp [lds]
  have e2 : lds (P ++ q :: p :: R).reverse = lds R.reverse ++ (p.ld :: q.ld :: lds P.reverse) := by simp [lds]
  rw [e1, e2]
  refine .left _ (.one ?_)
  cases s'
  · have := k.2 rfl
    rw [show min b.ld c.ld = b.ld by omega, show max b.ld c.ld = c.ld by omega]
    exact .dn _ _ _ _ _ (by omega)
  · have := k.1 rfl
    rw [show min b.ld c.ld = c.ld by omega, show max b.ld c.ld = b.ld by omega]
    exact .up _ _ _ _ _ (by omega)
/-- A small cycle goes. -/
theorem bmp_small {t : Int} {s : Bool} {a b c d : Rev} {r sp : List Rev} (hz : zig s (d :: c :: b :: a :: r)) (hzp : zig s sp) (hc : closesB a b c d = true) (ht : apartI b c < t) (h : Bmp t (d :: c :: b :: a :: r) sp) :
    ∃ sp1, Bmp t (d :: a :: r) sp1 ∧ zig s sp1 ∧ sp1 = sp.filter (fun x => !(decide (b.at_ = x.at_) || decide (c.at_ = x.at_))) ∧ Red [(min b.ld c.ld, max b.ld c.ld)] (lds sp.reverse) (lds sp1.reverse) := by
  obtain ⟨sp1, B1, rfl, h1, o1, b1⟩ := h.inv
  obtain ⟨sp2, B2, e2, h2, o2, b2⟩ := h1.inv
  obtain ⟨sp3, B3, e3, h3, o3, b3⟩ := h2.inv
  simp only [List.cons.injEq, true_and] at e2 e3
  subst e2; subst e3
  have k := closes_iff.1 hc
  have kz := closes_zig hz hc
  have hB2 : B2 = [] := by
    rcases o2 with h | h
    · exact h
    · cases B2 with
      | nil => rfl
      | cons z B2 =>
        have q1 := h.1
        have q2 := b2 z (by simp)
        unfold btw at q2
        unfold apartI at q1 ht
        omega
  subst hB2
  simp only [List.nil_append] at hzp ⊢
  -- the neighbours
  obtain ⟨P, q, eP⟩ : ∃ P q, d :: B1 = P ++ [q] := by
    rcases List.eq_nil_or_concat (d :: B1) with h | ⟨P, q, h⟩
    · cases h
    · exact ⟨P, q, by rw [h, List.concat_eq_append]⟩
  obtain ⟨p, R, eR⟩ : ∃ p R, B3 ++ [a] = p :: R := by cases B3 with | nil => exact ⟨a, [], rfl⟩ | cons x B => exact ⟨x, B ++ [a], rfl⟩
  have e0 : d :: (B1 ++ c :: b :: (B3 ++ a :: sp3)) = P ++ q :: c :: b :: p :: (R ++ sp3) := by
    have e1 : d :: (B1 ++ c :: b :: (B3 ++ a :: sp3)) = (d :: B1) ++ c :: b :: ((B3 ++ [a]) ++ sp3) := by simp
    rw [e1, eP, eR]; simp
  have e9 : d :: ((B1 ++ B3) ++ a :: sp3) = P ++ q :: p :: (R ++ sp3) := by
    have e1 : d :: ((B1 ++ B3) ++ a :: sp3) = (d :: B1) ++ ((B3 ++ [a]) ++ sp3) := by simp
    rw [e1, eP, eR]; simp
  have hq : apartI b c ≤ apartI c q ∧ (B1 ≠ [] → t ≤ apartI c q) := by
    rcases o1 with h | h
    · subst h
      have : q = d := by have := congrArg List.getLast? eP; simp at this; exact this.symm
      subst this; exact ⟨k.2, fun h => absurd rfl h⟩
    · have e1 : d :: (B1 ++ [c]) = P ++ q :: [c] := by rw [← List.cons_append, eP]; simp
      rw [e1] at h
      have : ∀ (P : List Rev), stepsOk t (P ++ q :: [c]) → t ≤ apartI q c := by
        intro P
        induction P with
        | nil => intro h; exact h.1
        | cons x P ih => intro h; exact ih (stepsOk_tail h)
      have := this P h
      rw [apart_comm] at this
      exact ⟨by omega, fun _ => this⟩
  have hp : apartI b c ≤ apartI p b ∧ (B3 ≠ [] → t ≤ apartI p b) := by
    rcases o3 with h | h
    · subst h
      simp only [List.nil_append, List.cons.injEq] at eR
      obtain ⟨rfl, _⟩ := eR
      exact ⟨k.1, fun h => absurd rfl h⟩
    · rw [eR] at h
      have := h.1
      rw [apart_comm] at this
      exact ⟨by omega, fun _ => this⟩
  have hcl : closesB p b c q = true := closes_iff.2 ⟨hp.1, hq.1⟩
  rw [e0] at hzp
  refine ⟨d :: ((B1 ++ B3) ++ a :: sp3), ?_, ?_, ?_, ?_⟩
  · refine .cons d a r sp3 _ h3 ?_ ?_
    · by_cases hn : B1 = [] ∧ B3 = []
      · exact .inl (by simp [hn])
      · right
        have e1 : d :: ((B1 ++ B3) ++ [a]) = P ++ q :: p :: R := by
          have e1 : d :: ((B1 ++ B3) ++ [a]) = (d :: B1) ++ (B3 ++ [a]) := by simp
          rw [e1, eP, eR]; simp
        rw [e1]
        refine stepsOk_join ?_ ?_ ?_
        · rw [← eP]
          rcases o1 with h | h
          · subst h; trivial
          · have : stepsOk t ((d :: B1) ++ [c]) := by simpa using h
            exact stepsOk_left this
        · obtain ⟨s', hz'⟩ := zig_drop P s hzp
          have kk := closes_zig hz' hcl
          have hkk : (p.ld ≤ c.ld ∧ c.ld < b.ld ∧ b.ld ≤ q.ld) ∨ (q.ld ≤ b.ld ∧ b.ld < c.ld ∧ c.ld ≤ p.ld) := by
            cases s'
            · have := kk.2 rfl; omega
            · have := kk.1 rfl; omega
          by_cases h3 : B3 = []
          · have h1 : B1 ≠ [] := fun h => hn ⟨h, h3⟩
            have := hq.2 h1
            unfold apartI at this ⊢; omega
          · have := hp.2 h3
            unfold apartI at this ⊢; omega
        · rw [← eR]
          rcases o3 with h | h
          · subst h; trivial
          · exact stepsOk_tail h
    · intro z hz'
      have hk : (a.ld ≤ c.ld ∧ c.ld < b.ld ∧ b.ld ≤ d.ld) ∨ (d.ld ≤ b.ld ∧ b.ld < c.ld ∧ c.ld ≤ a.ld) := by
        cases s
        · have := kz.2 rfl; omega
        · have := kz.1 rfl; omega
      rcases List.mem_append.1 hz' with h | h
      · have := b1 z h; unfold btw at this ⊢; omega
      · have := b3 z h; unfold btw at this ⊢; omega
  · rw [e9]; exact zig_close_in P s hzp hcl
  · rw [e9, e0]
    have hat := zig_at _ _ hzp
    rw [List.pairwise_append] at hat
    obtain ⟨_, hat2, hat3⟩ := hat
    rw [List.pairwise_cons, List.pairwise_cons, List.pairwise_cons] at hat2
    obtain ⟨g1, g2, g3, _⟩ := hat2
    rw [List.filter_append, List.filter_cons_of_pos, List.filter_cons_of_neg, List.filter_cons_of_neg]
    · rw [List.filter_eq_self.2, List.filter_eq_self.2]
      · intro x hx
        have x1 := g2 x (by simp only [List.mem_cons] at hx ⊢; exact .inr hx)
        have x2 := g3 x (by simpa using hx)
        simp; omega
      · intro x hx
        have x1 := hat3 x hx c (by simp)
        have x2 := hat3 x hx b (by simp)
        simp; omega
    · simp
    · simp
    · have x1 := g1 c (by simp)
      have x2 := g1 b (by simp)
      simp; omega
  · rw [e9, e0]; exact red_close_in hzp hcl
def isSmall (t : Int) (c : Cyc) : Bool := decide (c.hi - c.lo < t)
theorem mk_range (b c : Rev) : (mkCyc b c).hi - (mkCyc b c).lo = apartI b c := by unfold mkCyc apartI; simp only []; omega
theorem inSmall_cons (t : Int) (c : Cyc) (cs : List Cyc) (x : Int) : inSmall t (c :: cs) x = ((isSmall t c && (decide (c.from_ = x) || decide (c.to_ = x))) || inSmall t cs x) := by simp [inSmall, isSmall]
theorem inSmall_app (t : Int) (A B : List Cyc) (x : Int) : inSmall t (A ++ B) x = (inSmall t A x || inSmall t B x) := by simp [inSmall]
theorem drain_keep (t : Int) : ∀ (st : List Rev) (s : Bool) (sp : List Rev), zig s st → zig s sp → Bmp t st sp →
    ∃ sp', Bmp t (drain st).2 sp' ∧ zig s sp' ∧ sp' = sp.filter (fun x => !inSmall t (drain st).1 x.at_) ∧ Red (vals ((drain st).1.filter (isSmall t))) (lds sp.reverse) (lds sp'.reverse) := by
  intro st
  induction st using drain.induct with
  | case1 d c b a r h ih =>
    intro s sp hz hzp hb
    rw [drain_yes h]
    by_cases ht : apartI b c < t
    · obtain ⟨sp1, h1, h2, h3, h4⟩ := bmp_small hz hzp h ht hb
      obtain ⟨sp', k1, k2, k3, k4⟩ := ih s sp1 (zig_close hz h) h2 h1
      have hsm : isSmall t (mkCyc b c) = true := by unfold isSmall; rw [mk_range]; simp [ht]
      refine ⟨sp', k1, k2, ?_, ?_⟩
      · rw [k3, h3, List.filter_filter]
        congr 1; funext x
        rw [inSmall_cons, hsm]
        simp only [mkCyc, Bool.true_and, Bool.not_or]
        rw [Bool.and_comm]; rfl
      · rw [List.filter_cons_of_pos hsm]
        exact h4.trans k4
    · obtain ⟨sp', k1, k2, k3, k4⟩ := ih s sp (zig_close hz h) hzp (bmp_large hz h (by omega) hb)
      have hsm : isSmall t (mkCyc b c) = false := by unfold isSmall; rw [mk_range]; simp; omega
      refine ⟨sp', k1, k2, ?_, ?_⟩
      · rw [k3]
        congr 1; funext x
        rw [inSmall_cons, hsm]; simp
      · rw [List.filter_cons_of_neg (by simp [hsm])]
        exact k4
  | case2 d c b a r h =>
    intro s sp hz hzp hb
    rw [drain_no (by simpa using h)]
    exact ⟨sp, hb, hzp, (List.filter_eq_self.2 (by simp [inSmall])).symm, .refl _⟩
  | case3 st h =>
    intro s sp hz hzp hb
    rw [drain]
    · exact ⟨sp, hb, hzp, (List.filter_eq_self.2 (by simp [inSmall])).symm, .refl _⟩
    · exact h
theorem count_ends_at (l : List Rev) (t x : Int) (h : inSmall t (countOf l).1 x = true) : ∃ r ∈ l, r.at_ = x := by
  unfold inSmall at h
  rw [List.any_eq_true] at h
  obtain ⟨c, hc, h2⟩ := h
  obtain ⟨b, hb, d, hd, rfl⟩ := count_cyc _ c hc
  simp only [mkCyc, Bool.and_eq_true, Bool.or_eq_true] at h2
  rcases h2.2 with h | h
  · exact ⟨b, hb, of_decide_eq_true h⟩
  · exact ⟨d, hd, of_decide_eq_true h⟩
theorem count_keep (t : Int) : ∀ (L : List Rev) (s : Bool) (x : Rev), zig s (x :: L) →
    ∃ sp, Bmp t (countOf (x :: L).reverse).2 sp ∧ zig s sp ∧ sp.head? = some x ∧ sp = (x :: L).filter (fun y => !inSmall t (countOf (x :: L).reverse).1 y.at_) ∧ Red (vals ((countOf (x :: L).reverse).1.filter (isSmall t))) (lds (x :: L).reverse) (lds sp.reverse)
  | [], s, x, h => by
    have e : countOf [x].reverse = ([], [x]) := by simp [countOf, countStep, drain_short]
    rw [e]
    exact ⟨[x], .one x, h, rfl, by simp [inSmall], .refl _⟩
  | y :: L, s, x, h => by
    obtain ⟨sp, h1, h2, h3, h4, h5⟩ := count_keep t L (!s) y (zig_tail h)
    have hpu := count_push h
    have hat := zig_at _ _ h
    rw [List.pairwise_cons] at hat
    -- the new top
    obtain ⟨sp0, rfl⟩ : ∃ sp0, sp = y :: sp0 := by cases sp with | nil => cases h3 | cons a r => simp at h3; subst h3; exact ⟨r, rfl⟩
    have hst : ∃ st0, (countOf (y :: L).reverse).2 = y :: st0 := by
      have := (count_zig (y :: L) (!s) (zig_tail h)).2.1
      cases e : (countOf (y :: L).reverse).2 with
      | nil => rw [e] at this; cases this
      | cons a r => rw [e] at this; simp at this; subst this; exact ⟨r, rfl⟩
    obtain ⟨st0, est⟩ := hst
    have hb2 : Bmp t (x :: (countOf (y :: L).reverse).2) (x :: y :: sp0) := by
      rw [est] at h1 ⊢
      exact .cons x y st0 sp0 [] h1 (.inl rfl) (by simp)
    have hzp : zig s (x :: y :: sp0) := ⟨h.1, h.2.1, h.2.2.1, h2⟩
    obtain ⟨sp', k1, k2, k3, k4⟩ := drain_keep t _ s _ hpu hzp hb2
    have ec : countOf (x :: y :: L).reverse = countStep (countOf (y :: L).reverse) x := by rw [List.reverse_cons, count_append]
    have ec1 : (countOf (x :: y :: L).reverse).1 = (countOf (y :: L).reverse).1 ++ (drain (x :: (countOf (y :: L).reverse).2)).1 := by rw [ec]; rfl
    have ec2 : (countOf (x :: y :: L).reverse).2 = (drain (x :: (countOf (y :: L).reverse).2)).2 := by rw [ec]; rfl
    rw [ec1, ec2]
    have hxn : inSmall t (countOf (y :: L).reverse).1 x.at_ = false := by
      rw [Bool.eq_false_iff]
      intro hx
      obtain ⟨r, hr, e⟩ := count_ends_at _ _ _ hx
      have := hat.1 r (List.mem_reverse.1 hr)
      omega
    refine ⟨sp', k1, k2, ?_, ?_, ?_⟩
    · obtain ⟨st', hst'⟩ : ∃ st', (drain (x :: (countOf (y :: L).reverse).2)).2 = x :: st' := by
        have := (drain_zig _ s hpu).2.1
        cases e : (drain (x :: (countOf (y :: L).reverse).2)).2 with
        | nil => rw [e] at this; cases this
        | cons a r => rw [e] at this; simp at this; subst this; exact ⟨r, rfl⟩
      rw [hst'] at k1
      obtain ⟨sp'', rfl⟩ := k1.head
      rfl
    · rw [k3]
      have e1 : (x :: y :: L).filter (fun z => !inSmall t ((countOf (y :: L).reverse).1 ++ (drain (x :: (countOf (y :: L).reverse).2)).1) z.at_) = ((x :: y :: L).filter (fun z => !inSmall t (countOf (y :: L).reverse).1 z.at_)).filter (fun z => !inSmall t (drain (x :: (countOf (y :: L).reverse).2)).1 z.at_) := by
        rw [List.filter_filter]
        congr 1; funext z
        rw [inSmall_app, Bool.not_or, Bool.and_comm]
      have e2 : (x :: y :: L).filter (fun z => !inSmall t (countOf (y :: L).reverse).1 z.at_) = x :: y :: sp0 := by
        rw [List.filter_cons_of_pos (by rw [hxn]; rfl), ← h4]
      rw [e1, e2]
    · rw [List.filter_append, vals_append]
      refine .trans (E := vals ((countOf (y :: L).reverse).1.filter (isSmall t))) (m := lds (x :: y :: sp0).reverse) ?_ k4
      have q1 : lds (x :: y :: L).reverse = lds (y :: L).reverse ++ lds [x] := by rw [List.reverse_cons, lds_append]
      have q2 : lds (x :: y :: sp0).reverse = lds (y :: sp0).reverse ++ lds [x] := by rw [List.reverse_cons, lds_append]
      rw [q1, q2]
      exact h5.right _
/-- What is filtered counts as the rest. -/
theorem filt_law {r : List Rev} (h : chkRevs r = 0) (t : Int) : chkRevs (filt r t) = 0 ∧ (vals (countOf (filt r t)).1).Perm (vals ((countOf r).1.filter fun c => !isSmall t c)) ∧ lds (countOf (filt r t)).2.reverse = lds (countOf r).2.reverse := by
  obtain ⟨hl, s, hz⟩ := chk_zig.1 h
  have key : zig s (filt r t).reverse ∧ Red (vals ((countOf r).1.filter (isSmall t))) (lds r) (lds (filt r t)) := by
    cases e : r.reverse with
    | nil =>
      have : r = [] := by simpa using e
      subst this
      exact ⟨trivial, .refl _⟩
    | cons x L =>
      rw [e] at hz
      obtain ⟨sp, h1, h2, h3, h4, h5⟩ := count_keep t L s x hz
      rw [← e, List.reverse_reverse] at h4 h5
      have e2 : sp.reverse = filt r t := by
        rw [h4]; unfold filt
        rw [← List.filter_reverse, List.reverse_reverse]
      rw [e2] at h5
      refine ⟨?_, h5⟩
      rw [← e2, List.reverse_reverse]
      exact h2
  have hf : chkRevs (filt r t) = 0 := chk_zig.2 ⟨Nat.le_trans (List.length_filter_le _ _) hl, s, key.1⟩
  have := Red.unique (red_count h) (norm_count h) (key.2.trans (red_count hf)) (norm_count hf)
  refine ⟨hf, ?_, this.1.symm⟩
  have hp : (vals (countOf r).1).Perm (vals ((countOf r).1.filter (isSmall t)) ++ vals ((countOf r).1.filter fun c => !isSmall t c)) := by
    rw [← vals_append]
    exact (List.filter_append_perm _ _).symm.map _
  exact (List.perm_append_left_iff _).1 (this.2.symm.trans hp)
theorem filt_again {r : List Rev} (h : chkRevs r = 0) (t : Int) : filt (filt r t) t = filt r t := by
  obtain ⟨h1, h2, _⟩ := filt_law h t
  have hbig : ∀ c ∈ (countOf (filt r t)).1, isSmall t c = false := by
    intro c hc
    have h3 : (c.lo, c.hi) ∈ vals (countOf (filt r t)).1 := List.mem_map.2 ⟨c, hc, rfl⟩
    have h4 := h2.mem_iff.1 h3
    obtain ⟨c', hc', e⟩ := List.mem_map.1 h4
    have h5 := (List.mem_filter.1 hc').2
    simp only [Prod.mk.injEq] at e
    unfold isSmall at h5 ⊢
    rw [e.1, e.2] at h5
    simpa using h5
  have : ∀ x, inSmall t (countOf (filt r t)).1 x = false := by
    intro x
    rw [Bool.eq_false_iff]
    intro hx
    unfold inSmall at hx
    rw [List.any_eq_true] at hx
    obtain ⟨c, hc, h3⟩ := hx
    have := hbig c hc
    unfold isSmall at this
    rw [this] at h3
    simp at h3
  conv => lhs; unfold filt
  exact List.filter_eq_self.2 fun x _ => by have h9 := this x.at_; unfold filt at h9; rw [h9]; rfl
theorem filt_sub {r : List Rev} {t u : Int} (h : t ≤ u) : (filt r u).Sublist (filt r t) := by
  have e : filt r u = (filt r t).filter fun x => !inSmall u (countOf r).1 x.at_ := by
    unfold filt
    rw [List.filter_filter]
    congr 1; funext x
    have hmono : inSmall t (countOf r).1 x.at_ = true → inSmall u (countOf r).1 x.at_ = true := by
      unfold inSmall
      rw [List.any_eq_true, List.any_eq_true]
      rintro ⟨c, hc, h2⟩
      refine ⟨c, hc, ?_⟩
      simp only [Bool.and_eq_true, decide_eq_true_eq] at h2 ⊢
      exact ⟨by omega, h2.2⟩
    cases e1 : inSmall t (countOf r).1 x.at_ <;> cases e2 : inSmall u (countOf r).1 x.at_ <;> simp_all
  rw [e]; exact List.filter_sublist
end Go.Nac
namespace Go.Nac
theorem sub_skip {l m : List Rev} {x y : Rev} {k j : Nat} (h : (l.drop k).Sublist (m.drop j)) (hx : l[k]? = some x) (hy : m[j]? = some y) (hne : y ≠ x) : (l.drop k).Sublist (m.drop (j + 1)) := by
  obtain ⟨a1, a2⟩ := List.getElem?_eq_some_iff.1 hx
  obtain ⟨b1, b2⟩ := List.getElem?_eq_some_iff.1 hy
  rw [List.drop_eq_getElem_cons a1, a2] at h ⊢
  rw [List.drop_eq_getElem_cons b1, b2] at h
  cases h with
  | cons _ h => exact h
  | cons_cons _ h => exact absurd rfl hne
theorem sub_take {l m : List Rev} {x : Rev} {k j : Nat} (h : (l.drop k).Sublist (m.drop j)) (hx : l[k]? = some x) (hy : m[j]? = some x) : (l.drop (k + 1)).Sublist (m.drop (j + 1)) := by
  obtain ⟨a1, a2⟩ := List.getElem?_eq_some_iff.1 hx
  obtain ⟨b1, b2⟩ := List.getElem?_eq_some_iff.1 hy
  rw [List.drop_eq_getElem_cons a1, a2] at h
  rw [List.drop_eq_getElem_cons b1, b2] at h
  exact h.of_cons_cons
theorem sub_ex {l m : List Rev} {x : Rev} {k j : Nat} (h : (l.drop k).Sublist (m.drop j)) (hx : l[k]? = some x) : j < m.length := by
  have h1 := (List.getElem?_eq_some_iff.1 hx).1
  have := h.length_le
  simp at this; omega
def larges (t : Int) (cs : List Cyc) : List Cyc := cs.filter fun c => !isSmall t c
end Go.Nac

