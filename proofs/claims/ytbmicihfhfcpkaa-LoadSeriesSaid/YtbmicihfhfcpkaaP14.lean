import Derived.Test.YtbmicihfhfcpkaaP
import GoSem.Core.Float
set_option linter.unusedVariables false
namespace Go.Nac
def sumI : List Int → Int
  | [] => 0
  | x :: r => x + sumI r
def sat (x : Int) : Int := if 1152921504606846976 < x then 1152921504606846977 else x
/-- A total, or none above the limit. -/
def chkM (x : Int) : Int × Int := if 1152921504606846976 < x then (0, 4) else (x, 0)
def MRel (m : Int × Bool) (t : Int) : Prop := (m.2 = true ∧ 1152921504606846976 < t) ∨ (m.2 = false ∧ m.1 = t ∧ t ≤ 1152921504606846976)
theorem MRel.add {m : Int × Bool} {t x : Int} (h : MRel m t) (hx : 0 ≤ x) : MRel (madd m x) (t + x) := by
  unfold madd
  rcases h with ⟨h1, h2⟩ | ⟨h1, h2, h3⟩
  · rw [if_pos (.inl h1)]; exact .inl ⟨rfl, by omega⟩
  · by_cases hf : 1152921504606846976 - m.1 < x
    · rw [if_pos (.inr hf)]; exact .inl ⟨rfl, by omega⟩
    · rw [if_neg (by simp [h1, hf])]; exact .inr ⟨rfl, by simp only []; omega, by omega⟩
theorem MRel.res {m : Int × Bool} {t : Int} (h : MRel m t) : mres m = chkM t := by
  unfold mres chkM
  rcases h with ⟨h1, h2⟩ | ⟨h1, h2, h3⟩
  · rw [if_pos h1, if_pos h2]
  · rw [if_neg (by simp [h1]), if_neg (by omega), h2]
theorem MRel.zero : MRel (0, false) 0 := .inr ⟨rfl, rfl, by decide⟩
def powC (e : Int) (l : List Cyc) : List Int := l.map fun c => powW (c.hi - c.lo) e.toNat
def powH (e : Int) (l : List Rev) : List Int := (halfs l).map fun x => powW x e.toNat
def sumC (e : Int) (l : List Cyc) : Int := sumI (powC e l)
def sumH (e : Int) (l : List Rev) : Int := sumI (powH e l)
/-- Twice the damage of loads. -/
def sumT (l : List Int) (e : Int) : Int := 2 * sumC e (countOf (revsOf (points l))).1 + sumH e (countOf (revsOf (points l))).2.reverse
end Go.Nac
set_option linter.unusedVariables false
namespace Go.Nac
def wq (n q : Int) : Nat → Int
  | 0 => q
  | k + 1 => wq n q k / n
end Go.Nac
set_option linter.unusedVariables false
namespace Go.Nac
theorem smallR_of {l : List Rev} (h : chkRevs l = 0) : ∀ r ∈ l, smallR r := fun r hr => (turns_good _ _ _ (chkRevs_zero.1 h).2 r hr).2
end Go.Nac
set_option linter.unusedVariables false
namespace Go.Nac
end Go.Nac
set_option linter.unusedVariables false
namespace Go.Nac
def chkRecs (l : List (List Int)) : Int := if 256 < l.length then 5 else fst0 (l.map chkLoads)
def spStep (s : Int × Int × Bool) (n : Int) : Int × Int × Bool := if s.2.2 = true ∨ s.2.1 < n then (s.1, s.2.1, true) else (s.1 + 1, s.2.1 - n, false)
def bear (left : Int) : List Int → Int × Int
  | [] => (0, left)
  | n :: r => if left < n then (0, left) else ((bear (left - n) r).1 + 1, (bear (left - n) r).2)
def twL (x : Life) (l : List (List Int)) : List Int := l.map fun r => (twRes r x.exp).1
def twE (x : Life) (l : List (List Int)) : List Int := l.map fun r => (twRes r x.exp).2
def spendRes (x : Life) (l : List (List Int)) : Int × Int × Int :=
  if fst0 [lifeErr x, chkRecs l] = 0 then
    (if fst0 (twE x l) = 0 then ((bear (2 * x.cap) (twL x l)).1, (bear (2 * x.cap) (twL x l)).2, 0) else (0, 0, fst0 (twE x l)))
  else (0, 0, fst0 [lifeErr x, chkRecs l])
end Go.Nac
namespace Go.Nac
end Go.Nac
set_option linter.unusedVariables false
namespace Go.Nac
/-- Upside down: the top is above (s) or below (not s) the one under it, and so on by turns; indices rise. -/
def zig : Bool → List Rev → Prop
  | _, [] => True
  | _, [x] => goodR x
  | s, y :: x :: r => goodR y ∧ x.at_ < y.at_ ∧ (if s = true then x.ld < y.ld else y.ld < x.ld) ∧ zig (!s) (x :: r)
/-- From the checks to turns, and back. -/
def dirOf (a b : Rev) : Bool := decide (a.ld < b.ld)
end Go.Nac
set_option linter.unusedVariables false
namespace Go.Nac
def cntC (l : List Int) : List Cyc := (countOf (revsOf (points l))).1
def cntR (l : List Int) : List Rev := (countOf (revsOf (points l))).2.reverse
end Go.Nac
set_option linter.unusedVariables false
namespace Go.Nac
inductive Stp : List (Int × Int) → List Int → List Int → Prop
  | dup (x : Int) (s : List Int) : Stp [] (x :: x :: s) (x :: s)
  | mid (a b c : Int) (s : List Int) (h : (a ≤ b ∧ b ≤ c) ∨ (c ≤ b ∧ b ≤ a)) : Stp [] (a :: b :: c :: s) (a :: c :: s)
  | up (a b c d : Int) (s : List Int) (h : a ≤ c ∧ c < b ∧ b ≤ d) : Stp [(c, b)] (a :: b :: c :: d :: s) (a :: d :: s)
  | dn (a b c d : Int) (s : List Int) (h : d ≤ b ∧ b < c ∧ c ≤ a) : Stp [(b, c)] (a :: b :: c :: d :: s) (a :: d :: s)
  | cons (x : Int) {E : List (Int × Int)} {l m : List Int} (h : Stp E l m) : Stp E (x :: l) (x :: m)
inductive Red : List (Int × Int) → List Int → List Int → Prop
  | refl (l : List Int) : Red [] l l
  | step {E F : List (Int × Int)} {l m n : List Int} (h : Stp E l m) (k : Red F m n) : Red (E ++ F) l n
theorem Stp.len {E : List (Int × Int)} {l m : List Int} (h : Stp E l m) : m.length < l.length := by
  induction h with
  | cons x h ih => simp; exact ih
  | _ => simp
theorem Stp.head {E : List (Int × Int)} {x : Int} {l m : List Int} (h : Stp E (x :: l) m) : ∃ m', m = x :: m' := by
  cases h <;> exact ⟨_, rfl⟩
theorem Red.one {E : List (Int × Int)} {l m : List Int} (h : Stp E l m) : Red E l m := by have := Red.step h (.refl m); rwa [List.append_nil] at this
theorem Red.trans {E F : List (Int × Int)} {l m n : List Int} (h : Red E l m) (k : Red F m n) : Red (E ++ F) l n := by
  induction h with
  | refl => exact k
  | step s _ ih => rw [List.append_assoc]; exact .step s (ih k)
theorem Red.cons {E : List (Int × Int)} {l m : List Int} (x : Int) (h : Red E l m) : Red E (x :: l) (x :: m) := by
  induction h with
  | refl => exact .refl _
  | step s _ ih => exact .step (.cons x s) ih
theorem Red.left {E : List (Int × Int)} {l m : List Int} (p : List Int) (h : Red E l m) : Red E (p ++ l) (p ++ m) := by
  induction p with
  | nil => exact h
  | cons x p ih => exact ih.cons x
theorem Stp.right {E : List (Int × Int)} {l m : List Int} (h : Stp E l m) (s : List Int) : Stp E (l ++ s) (m ++ s) := by
  induction h with
  | dup x t => exact .dup x (t ++ s)
  | mid a b c t h => exact .mid a b c (t ++ s) h
  | up a b c d t h => exact .up a b c d (t ++ s) h
  | dn a b c d t h => exact .dn a b c d (t ++ s) h
  | cons x _ ih => exact .cons x ih
theorem Red.right {E : List (Int × Int)} {l m : List Int} (h : Red E l m) (s : List Int) : Red E (l ++ s) (m ++ s) := by
  induction h with
  | refl => exact .refl _
  | step k _ ih => exact .step (k.right s) ih
/-- Two ways meet again. -/
def Meets (E F : List (Int × Int)) (m n : List Int) : Prop := ∃ q E' F', Red E' m q ∧ Red F' n q ∧ (E ++ E').Perm (F ++ F')
theorem Meets.symm {E F : List (Int × Int)} {m n : List Int} (h : Meets E F m n) : Meets F E n m := by
  obtain ⟨q, E', F', h1, h2, h3⟩ := h; exact ⟨q, F', E', h2, h1, h3.symm⟩
theorem Meets.same {E : List (Int × Int)} {m : List Int} : Meets E E m m := ⟨m, [], [], .refl _, .refl _, .refl _⟩
theorem Meets.cons {E F : List (Int × Int)} {m n : List Int} (x : Int) (h : Meets E F m n) : Meets E F (x :: m) (x :: n) := by
  obtain ⟨q, E', F', h1, h2, h3⟩ := h; exact ⟨x :: q, E', F', h1.cons x, h2.cons x, h3⟩
theorem Meets.mk {E F E' F' : List (Int × Int)} {m n q : List Int} (h : Stp E' m q) (k : Stp F' n q) (hp : (E ++ E').Perm (F ++ F')) : Meets E F m n := ⟨q, E', F', .one h, .one k, hp⟩
theorem perm_sw {α : Type} (A B : List α) : (A ++ B).Perm (B ++ A) := List.perm_append_comm
theorem meets_dup {F : List (Int × Int)} {x : Int} {s n : List Int} (k : Stp F (x :: x :: s) n) : Meets [] F (x :: s) n := by
  cases k with
  | dup => exact .same
  | mid _ _ c s h => exact .same
  | up _ _ c d s h => omega
  | dn _ _ c d s h => omega
  | cons _ k =>
    obtain ⟨m', rfl⟩ := k.head
    exact .mk k (.dup x m') (by simp)
theorem meets_mid {F : List (Int × Int)} {a b c : Int} {s n : List Int} (h : (a ≤ b ∧ b ≤ c) ∨ (c ≤ b ∧ b ≤ a)) (k : Stp F (a :: b :: c :: s) n) : Meets [] F (a :: c :: s) n := by
  cases k with
  | dup => exact .same
  | mid => exact .same
  | up _ _ _ d s g => omega
  | dn _ _ _ d s g => omega
  | cons _ k =>
    cases k with
    | dup => exact .same
    | mid _ _ d s g =>
      by_cases e : b = c
      · subst e; exact .same
      · exact .mk (.mid a c d s (by omega)) (.mid a b d s (by omega)) (by simp)
    | up _ _ d e s g => exact .mk (.up a c d e s (by omega)) (.mid a b e s (by omega)) (by simp)
    | dn _ _ d e s g => exact .mk (.dn a c d e s (by omega)) (.mid a b e s (by omega)) (by simp)
    | cons _ k =>
      obtain ⟨m', rfl⟩ := k.head
      exact .mk (.cons a k) (.mid a b c m' h) (by simp)
theorem meets_up {F : List (Int × Int)} {a b c d : Int} {s n : List Int} (h : a ≤ c ∧ c < b ∧ b ≤ d) (k : Stp F (a :: b :: c :: d :: s) n) : Meets [(c, b)] F (a :: d :: s) n := by
  cases k with
  | dup => omega
  | mid _ _ _ _ g => omega
  | up => exact .same
  | dn _ _ _ _ _ g => omega
  | cons _ k =>
    cases k with
    | dup => omega
    | mid _ _ _ _ g => omega
    | up _ _ _ e s g => omega
    | dn _ _ _ e s g =>
      have : d = b := by omega
      subst this; exact .same
    | cons _ k =>
      cases k with
      | dup => omega
      | mid _ _ e s g => exact .mk (.mid a d e s (by omega)) (.up a b c e s (by omega)) (by simp)
      | up _ _ e f s g => exact .mk (.up a d e f s (by omega)) (.up a b c f s (by omega)) (perm_sw _ _)
      | dn _ _ e f s g => omega
      | cons _ k =>
        obtain ⟨m', rfl⟩ := k.head
        exact .mk (.cons a k) (.up a b c d m' h) (perm_sw _ _)
theorem meets_dn {F : List (Int × Int)} {a b c d : Int} {s n : List Int} (h : d ≤ b ∧ b < c ∧ c ≤ a) (k : Stp F (a :: b :: c :: d :: s) n) : Meets [(b, c)] F (a :: d :: s) n := by
  cases k with
  | dup => omega
  | mid _ _ _ _ g => omega
  | up _ _ _ _ _ g => omega
  | dn => exact .same
  | cons _ k =>
    cases k with
    | dup => omega
    | mid _ _ _ _ g => omega
    | up _ _ _ e s g =>
      have : d = b := by omega
      subst this; exact .same
    | dn _ _ _ e s g => omega
    | cons _ k =>
      cases k with
      | dup => omega
      | mid _ _ e s g => exact .mk (.mid a d e s (by omega)) (.dn a b c e s (by omega)) (by simp)
      | up _ _ e f s g => omega
      | dn _ _ e f s g => exact .mk (.dn a d e f s (by omega)) (.dn a b c f s (by omega)) (perm_sw _ _)
      | cons _ k =>
        obtain ⟨m', rfl⟩ := k.head
        exact .mk (.cons a k) (.dn a b c d m' h) (perm_sw _ _)
theorem meets {E F : List (Int × Int)} {l m n : List Int} (h : Stp E l m) : Stp F l n → Meets E F m n := by
  induction h generalizing F n with
  | dup x s => exact meets_dup
  | mid a b c s h => exact meets_mid h
  | up a b c d s h => exact meets_up h
  | dn a b c d s h => exact meets_dn h
  | @cons x E l m h ih =>
    intro k
    cases k with
    | dup => exact (meets_dup (.cons _ h)).symm
    | mid _ _ _ _ g => exact (meets_mid g (.cons _ h)).symm
    | up _ _ _ _ _ g => exact (meets_up g (.cons _ h)).symm
    | dn _ _ _ _ _ g => exact (meets_dn g (.cons _ h)).symm
    | cons _ k => exact (ih k).cons x
def Norm (l : List Int) : Prop := ∀ E m, ¬ Stp E l m
theorem norm_ex : ∀ (k : Nat) (l : List Int), l.length ≤ k → ∃ E n, Red E l n ∧ Norm n
  | 0, l, h => by
    have : l = [] := List.eq_nil_of_length_eq_zero (by omega)
    subst this; exact ⟨[], [], .refl _, fun E m h => by cases h⟩
  | k + 1, l, h => by
    by_cases hn : Norm l
    · exact ⟨[], l, .refl _, hn⟩
    · unfold Norm at hn
      simp only [Classical.not_forall, Classical.not_not] at hn
      obtain ⟨E, m, hs⟩ := hn
      obtain ⟨F, n, h1, h2⟩ := norm_ex k m (by have := hs.len; omega)
      exact ⟨E ++ F, n, .step hs h1, h2⟩
theorem red_unique : ∀ (k : Nat) (l : List Int), l.length ≤ k → ∀ {E F : List (Int × Int)} {m n : List Int}, Red E l m → Norm m → Red F l n → Norm n → m = n ∧ E.Perm F := by
  intro k
  induction k with
  | zero =>
    intro l hl E F m n h1 n1 h2 n2
    have : l = [] := List.eq_nil_of_length_eq_zero (by omega)
    subst this
    cases h1 with
    | refl =>
      cases h2 with
      | refl => exact ⟨rfl, .refl _⟩
      | step s _ => exact absurd s (n1 _ _)
    | step s _ => cases s
  | succ k ih =>
    intro l hl E F m n h1 n1 h2 n2
    cases h1 with
    | refl =>
      cases h2 with
      | refl => exact ⟨rfl, .refl _⟩
      | step s _ => exact absurd s (n1 _ _)
    | @step e1 E1 _ m1 _ s1 r1 =>
      cases h2 with
      | refl => exact absurd s1 (n2 _ _)
      | @step e2 E2 _ m2 _ s2 r2 =>
        have hl1 := s1.len; have hl2 := s2.len
        obtain ⟨q, G1, G2, g1, g2, g3⟩ := meets s1 s2
        obtain ⟨G, n3, g4, g5⟩ := norm_ex q.length q (Nat.le_refl _)
        obtain ⟨a1, a2⟩ := ih m1 (by omega) r1 n1 (g1.trans g4) g5
        obtain ⟨b1, b2⟩ := ih m2 (by omega) r2 n2 (g2.trans g4) g5
        refine ⟨a1.trans b1.symm, ?_⟩
        have c1 : (e1 ++ E1).Perm (e1 ++ (G1 ++ G)) := a2.append_left e1
        have c2 : (e2 ++ E2).Perm (e2 ++ (G2 ++ G)) := b2.append_left e2
        refine c1.trans (.trans ?_ c2.symm)
        rw [← List.append_assoc, ← List.append_assoc]
        exact g3.append_right G
theorem Red.unique {E F : List (Int × Int)} {l m n : List Int} (h1 : Red E l m) (n1 : Norm m) (h2 : Red F l n) (n2 : Norm n) : m = n ∧ E.Perm F := red_unique l.length l (Nat.le_refl _) h1 n1 h2 n2
/-- Backwards. -/
theorem Stp.back {E : List (Int × Int)} {l m : List Int} (h : Stp E l m) : Stp E l.reverse m.reverse := by
  have ctx : ∀ {E : List (Int × Int)} {l m : List Int} (p : List Int), Stp E l m → Stp E (p ++ l) (p ++ m) := by
    intro E l m p h
    induction p with
    | nil => exact h
    | cons x p ih => exact .cons x ih
  induction h with
  | dup x s => simp only [List.reverse_cons, List.append_assoc, List.cons_append, List.nil_append]; exact ctx _ (.dup x [])
  | mid a b c s h => simp only [List.reverse_cons, List.append_assoc, List.cons_append, List.nil_append]; exact ctx _ (.mid c b a [] (by omega))
  | up a b c d s h => simp only [List.reverse_cons, List.append_assoc, List.cons_append, List.nil_append]; exact ctx _ (.dn d c b a [] (by omega))
  | dn a b c d s h => simp only [List.reverse_cons, List.append_assoc, List.cons_append, List.nil_append]; exact ctx _ (.up d c b a [] (by omega))
  | cons x _ ih => rw [List.reverse_cons, List.reverse_cons]; exact ih.right [x]
theorem Red.back {E : List (Int × Int)} {l m : List Int} (h : Red E l m) : Red E l.reverse m.reverse := by
  induction h with
  | refl => exact .refl _
  | step s _ ih => exact .step s.back ih
theorem Norm.back {l : List Int} (h : Norm l) : Norm l.reverse := fun E m s => by
  have := s.back; rw [List.reverse_reverse] at this; exact h _ _ this
theorem Stp.mem {E : List (Int × Int)} {l m : List Int} (h : Stp E l m) : ∀ x ∈ m, x ∈ l := by
  induction h with
  | cons x _ ih => intro y hy; rcases List.mem_cons.1 hy with rfl | hy; · simp
                   · simp [ih y hy]
  | dup => intro y hy; exact List.mem_cons_of_mem _ hy
  | mid => intro y hy; simp only [List.mem_cons] at hy ⊢; rcases hy with h | h | h <;> simp [h]
  | up => intro y hy; simp only [List.mem_cons] at hy ⊢; rcases hy with h | h | h <;> simp [h]
  | dn => intro y hy; simp only [List.mem_cons] at hy ⊢; rcases hy with h | h | h <;> simp [h]
theorem Red.mem {E : List (Int × Int)} {l m : List Int} (h : Red E l m) : ∀ x ∈ m, x ∈ l := by
  induction h with
  | refl => exact fun x hx => hx
  | step s _ ih => exact fun x hx => s.mem x (ih x hx)
theorem Red.head {E : List (Int × Int)} {x : Int} {l m : List Int} (h : Red E (x :: l) m) : ∃ m', m = x :: m' := by
  generalize hl : x :: l = L at h
  induction h generalizing l with
  | refl => exact ⟨l, hl.symm⟩
  | step s _ ih =>
    subst hl
    obtain ⟨m', rfl⟩ := s.head
    exact ih rfl
theorem Red.last {E : List (Int × Int)} {x : Int} {l m : List Int} (h : Red E (l ++ [x]) m) : ∃ m', m = m' ++ [x] := by
  have := h.back
  rw [List.reverse_append] at this
  obtain ⟨m', hm⟩ := this.head
  exact ⟨m'.reverse, by rw [← List.reverse_reverse m, hm]; simp⟩
theorem Norm.tail {x : Int} {l : List Int} (h : Norm (x :: l)) : Norm l := fun E m s => h _ _ (.cons x s)
end Go.Nac
set_option linter.unusedVariables false
namespace Go.Nac
def lds (l : List Rev) : List Int := l.map Rev.ld
def vals (l : List Cyc) : List (Int × Int) := l.map fun c => (c.lo, c.hi)
/-- Nothing more closes. -/
def irr : List Rev → Prop
  | d :: c :: b :: a :: r => closesB a b c d = false ∧ irr (c :: b :: a :: r)
  | _ => True
end Go.Nac
set_option linter.unusedVariables false
namespace Go.Nac
def gtP (q p : Pnt) : Bool := decide (p.x < q.x) || (decide (q.x = p.x) && decide (p.y < q.y))
def posP (p : Pnt) (out : List Pnt) : Nat → Nat
  | 0 => 0
  | k + 1 => match out[k]? with
    | some q => if gtP q p = true then posP p out k else k + 1
    | none => k + 1
def insP (out : List Pnt) (p : Pnt) : List Pnt := out.take (posP p out out.length) ++ p :: out.drop (posP p out out.length)
def pntOf (c : Cyc) : Pnt := ⟨c.lo, c.hi⟩
def valS (l : List Cyc) : List Pnt := l.foldl (fun o c => insP o (pntOf c)) []
def LeP (a b : Pnt) : Prop := gtP a b = false
end Go.Nac
set_option linter.unusedVariables false
namespace Go.Nac
def mapR (f : Int → Int) (r : Rev) : Rev := ⟨r.at_, f r.ld⟩
def negC (c : Cyc) : Cyc := ⟨c.from_, c.to_, -c.hi, -c.lo⟩
def dblC (c : Cyc) : Cyc := ⟨c.from_, c.to_, 2 * c.lo, 2 * c.hi⟩
/-- The greatest and the least stay. -/
theorem Stp.ext {E : List (Int × Int)} {l m : List Int} (h : Stp E l m) : ∀ z ∈ l, (∃ w ∈ m, z ≤ w) ∧ (∃ w ∈ m, w ≤ z) := by
  have self : ∀ {m : List Int} {z : Int}, z ∈ m → (∃ w ∈ m, z ≤ w) ∧ (∃ w ∈ m, w ≤ z) := fun h => ⟨⟨_, h, Int.le_refl _⟩, ⟨_, h, Int.le_refl _⟩⟩
  induction h with
  | dup x s => intro z hz; exact self (by simp only [List.mem_cons] at hz ⊢; rcases hz with h | h | h <;> simp [h])
  | mid a b c s h =>
    intro z hz
    simp only [List.mem_cons] at hz
    rcases hz with h1 | h1 | h1
    · exact self (by simp [h1])
    · rcases h with h | h
      · exact ⟨⟨c, by simp, by omega⟩, ⟨a, by simp, by omega⟩⟩
      · exact ⟨⟨a, by simp, by omega⟩, ⟨c, by simp, by omega⟩⟩
    · exact self (by rcases h1 with h1 | h1 <;> simp [h1])
  | up a b c d s h =>
    intro z hz
    simp only [List.mem_cons] at hz
    rcases hz with h1 | h1 | h1 | h1
    · exact self (by simp [h1])
    · exact ⟨⟨d, by simp, by omega⟩, ⟨a, by simp, by omega⟩⟩
    · exact ⟨⟨d, by simp, by omega⟩, ⟨a, by simp, by omega⟩⟩
    · exact self (by rcases h1 with h1 | h1 <;> simp [h1])
  | dn a b c d s h =>
    intro z hz
    simp only [List.mem_cons] at hz
    rcases hz with h1 | h1 | h1 | h1
    · exact self (by simp [h1])
    · exact ⟨⟨a, by simp, by omega⟩, ⟨d, by simp, by omega⟩⟩
    · exact ⟨⟨a, by simp, by omega⟩, ⟨d, by simp, by omega⟩⟩
    · exact self (by rcases h1 with h1 | h1 <;> simp [h1])
  | cons x h ih =>
    intro z hz
    rcases List.mem_cons.1 hz with rfl | hz
    · exact self (by simp)
    · obtain ⟨⟨w, h1, h2⟩, ⟨v, h3, h4⟩⟩ := ih z hz
      exact ⟨⟨w, by simp [h1], h2⟩, ⟨v, by simp [h3], h4⟩⟩
theorem Red.ext {E : List (Int × Int)} {l m : List Int} (h : Red E l m) : ∀ z ∈ l, (∃ w ∈ m, z ≤ w) ∧ (∃ w ∈ m, w ≤ z) := by
  induction h with
  | refl => exact fun z hz => ⟨⟨z, hz, Int.le_refl _⟩, ⟨z, hz, Int.le_refl _⟩⟩
  | step s _ ih =>
    intro z hz
    obtain ⟨⟨w, h1, h2⟩, ⟨v, h3, h4⟩⟩ := s.ext z hz
    obtain ⟨⟨w', k1, k2⟩, _⟩ := ih w h1
    obtain ⟨_, ⟨v', k3, k4⟩⟩ := ih v h3
    exact ⟨⟨w', k1, by omega⟩, ⟨v', k3, by omega⟩⟩
end Go.Nac
set_option linter.unusedVariables false
namespace Go.Nac
def joinL (a b : List Int) : List Rev := revsOf (cntR a ++ (cntR b).map (shR a.length))
end Go.Nac
set_option linter.unusedVariables false
namespace Go.Nac
def ends (cs : List Cyc) : List Int := cs.flatMap fun c => [c.from_, c.to_]
def ats (l : List Rev) : List Int := l.map Rev.at_
/-- A map of whole numbers, by what it says. -/
def IM (es : List (Value × Value)) (g : Int → Int) : Prop := AllInt es ∧ ∀ x, (find (.int .i64 x) es).getD (.int .i64 0) = .int .i64 (g x)
theorem IM.nil : IM [] (fun _ => 0) := ⟨(by intro e he; cases he), fun x => rfl⟩
theorem IM.upd {es : List (Value × Value)} {g : Int → Int} (h : IM es g) (x v : Int) : IM (upd (.int .i64 x) (.int .i64 v) es) (fun y => if y = x then v else g y) := by
  refine ⟨h.1.upd _ _, fun y => ?_⟩
  rw [find_upd]
  by_cases e : y = x
  · subst e; simp
  · simp only [if_neg e]; exact h.2 y
theorem IM.congr {es : List (Value × Value)} {g g' : Int → Int} (h : IM es g) (e : ∀ x, g x = g' x) : IM es g' := ⟨h.1, fun x => by rw [h.2 x, e x]⟩
def atF (l : List Rev) : Int → Int := l.foldl (fun f r => fun y => if y = r.at_ then r.ld else f y) (fun _ => 0)
def seenF (L : List Int) : Int → Int := fun y => L.count y
/-- Crossings of a level. -/
def xN (lv : Int) : List Int → Nat
  | a :: b :: r => (if a ≤ lv ∧ lv < b then 1 else 0) + xN lv (b :: r)
  | _ => 0
def inB (lv : Int) (E : List (Int × Int)) : Nat := (E.filter fun p => decide (p.1 ≤ lv) && decide (lv < p.2)).length
def upB (lv : Int) (cs : List Cyc) : List Cyc := cs.filter fun c => decide (c.lo ≤ lv) && decide (lv < c.hi)
end Go.Nac
set_option linter.unusedVariables false
namespace Go.Nac
def stepsOk (t : Int) : List Rev → Prop
  | x :: y :: r => t ≤ apartI x y ∧ stepsOk t (y :: r)
  | _ => True
def btw (x y z : Rev) : Prop := (x.ld ≤ z.ld ∧ z.ld ≤ y.ld) ∨ (y.ld ≤ z.ld ∧ z.ld ≤ x.ld)
/-- A stack, and the list that still has what is not small between. -/
inductive Bmp (t : Int) : List Rev → List Rev → Prop
  | one (x : Rev) : Bmp t [x] [x]
  | cons (y x : Rev) (st sp B : List Rev) (h : Bmp t (x :: st) (x :: sp)) (hB : B = [] ∨ stepsOk t (y :: (B ++ [x]))) (hb : ∀ z ∈ B, btw x y z) : Bmp t (y :: x :: st) (y :: (B ++ x :: sp))
theorem Bmp.head {t : Int} {y : Rev} {st sp : List Rev} (h : Bmp t (y :: st) sp) : ∃ sp', sp = y :: sp' := by cases h <;> exact ⟨_, rfl⟩
theorem Bmp.inv {t : Int} {y x : Rev} {st sp : List Rev} (h : Bmp t (y :: x :: st) sp) : ∃ sp' B, sp = y :: (B ++ x :: sp') ∧ Bmp t (x :: st) (x :: sp') ∧ (B = [] ∨ stepsOk t (y :: (B ++ [x]))) ∧ ∀ z ∈ B, btw x y z := by
  cases h with | cons _ _ _ sp' B h hB hb => exact ⟨sp', B, rfl, h, hB, hb⟩
def isSmall (t : Int) (c : Cyc) : Bool := decide (c.hi - c.lo < t)
end Go.Nac
namespace Go.Nac
def larges (t : Int) (cs : List Cyc) : List Cyc := cs.filter fun c => !isSmall t c
end Go.Nac
set_option linter.unusedVariables false
set_option linter.unusedSimpArgs false
namespace Go.Nac
open Ieee
theorem dbl_least : double.leastPlace = -1074 := by decide
theorem dbl_binade : double.binade = 4503599627370496 := by decide
theorem dbl_inf : double.infRung = 9218868437227405312 := by decide
theorem dbl_sign : double.signWeight = 9223372036854775808 := by decide
theorem dbl_frac : double.fractionBits = 52 := rfl
theorem cut_none (way : Toward) (neg : Bool) (n : Nat) : way.cut neg n 0 = n := by cases way <;> simp [Toward.cut, Nat.mod_one]
theorem cut_two (neg : Bool) (a d : Nat) (ha : a ≠ 0) : Toward.even.cut neg (2 * a) (d + 1) = Toward.even.cut neg a d := by
  unfold Toward.cut
  have h1 : (2 * a).log2 = a.log2 + 1 := Nat.log2_two_mul ha
  have h2 : (1 <<< min (d + 1) ((2 * a).log2 + 2) : Nat) = 2 * (1 <<< min d (a.log2 + 2)) := by
    rw [h1, show min (d + 1) (a.log2 + 1 + 2) = min d (a.log2 + 2) + 1 from by omega, Nat.shiftLeft_eq, Nat.shiftLeft_eq, Nat.pow_succ]; omega
  have h3 : 0 < (1 <<< min d (a.log2 + 2) : Nat) := by rw [Nat.shiftLeft_eq]; exact Nat.mul_pos (by decide) (Nat.pow_pos (by decide))
  simp only [h2]
  generalize (1 <<< min d (a.log2 + 2) : Nat) = g at h3
  have h4 : 2 * a / (2 * g) = a / g := Nat.mul_div_mul_left a g (by decide)
  have h5 : 2 * a % (2 * g) = 2 * (a % g) := Nat.mul_mod_mul_left 2 a g
  rw [h4, h5]
  have e1 : decide (2 * g < 2 * (2 * (a % g))) = decide (g < 2 * (a % g)) := decide_eq_decide.2 (by omega)
  have e2 : (2 * g == 2 * (2 * (a % g))) = (g == 2 * (a % g)) := by rw [Bool.eq_iff_iff]; simp only [beq_iff_eq]; omega
  rw [e1, e2]
theorem nearest_two (neg : Bool) (a : Nat) (p : Int) (ha : a ≠ 0) : double.nearest neg (2 * a) p = double.nearest neg a (p + 1) := by
  unfold Format.nearest
  rw [if_neg (by omega), if_neg ha, Nat.log2_two_mul ha, dbl_least, dbl_frac]
  have e : max (p + ((a.log2 + 1 : Nat) : Int) - ((52 : Nat) : Int)) (-1074) = max (p + 1 + (a.log2 : Int) - ((52 : Nat) : Int)) (-1074) := by congr 1; omega
  simp only [e]
  generalize max (p + 1 + (a.log2 : Int) - ((52 : Nat) : Int)) (-1074) = last
  congr 3
  by_cases h : last ≤ p
  · rw [show (last - p).toNat = 0 from by omega, show (last - (p + 1)).toNat = 0 from by omega, cut_none, cut_none, show (p + 1 - last).toNat = (p - last).toNat + 1 from by omega,
      Nat.shiftLeft_eq, Nat.shiftLeft_eq, Nat.pow_succ]
    rw [Nat.mul_comm 2 a, Nat.mul_assoc, Nat.mul_comm 2]
  · rw [show (p - last).toNat = 0 from by omega, show (p + 1 - last).toNat = 0 from by omega, show (last - p).toNat = (last - (p + 1)).toNat + 1 from by omega]
    exact cut_two neg a _ ha
theorem nearest_pow (neg : Bool) (a : Nat) (k : Nat) : ∀ p : Int, double.nearest neg (a * 2 ^ k) p = double.nearest neg a (p + k) := by
  by_cases ha : a = 0
  · intro p; subst ha; simp [Format.nearest]
  induction k with
  | zero => intro p; simp
  | succ k ih =>
    intro p
    have : a * 2 ^ (k + 1) = 2 * (a * 2 ^ k) := by rw [Nat.pow_succ, Nat.mul_comm 2, Nat.mul_assoc]
    rw [this, nearest_two _ _ _ (Nat.mul_ne_zero ha (by simp)), ih]
    congr 1; omega
theorem read_word (neg : Bool) {r : Nat} (h : r < 9223372036854775808) : double.read (double.word neg r) = if r < 4503599627370496 then .number neg r (-1074)
    else if r < 9218868437227405312 then .number neg (4503599627370496 + r % 4503599627370496) (-1074 + (r / 4503599627370496 - 1 : Nat))
    else if r = 9218868437227405312 then .infinity neg else .nan neg (r - 9218868437227405312) := by
  unfold Format.read Format.word
  rw [dbl_sign, dbl_binade, dbl_inf, dbl_least]
  have h1 : ((if neg = true then 9223372036854775808 + r else r) / 9223372036854775808 % 2 == 1) = neg := by
    cases neg
    · simp only [Bool.false_eq_true, if_false]; rw [Nat.div_eq_of_lt h]; rfl
    · simp only [if_true]; rw [Nat.add_div_left _ (by decide), Nat.div_eq_of_lt h]; rfl
  have h2 : (if neg = true then 9223372036854775808 + r else r) % 9223372036854775808 = r := by
    cases neg
    · simp only [Bool.false_eq_true, if_false]; exact Nat.mod_eq_of_lt h
    · simp only [if_true]; rw [Nat.add_mod_left]; exact Nat.mod_eq_of_lt h
  simp only [h1, h2]
theorem read_nearest (neg : Bool) {a : Nat} {p : Int} (ha : a < 2 ^ 53) (hp : -1074 ≤ p) (hq : p ≤ 970) :
    ∃ (k : Nat) (l : Int), double.read (double.nearest neg a p) = .number neg (a * 2 ^ k) l ∧ l + k = p ∧ -1074 ≤ l := by
  by_cases h0 : a = 0
  · subst h0
    refine ⟨(p + 1074).toNat, -1074, ?_, by omega, Int.le_refl _⟩
    unfold Format.nearest
    rw [if_pos rfl, read_word _ (by decide), if_pos (by decide)]
    simp
  have hlog : a.log2 ≤ 52 := by
    have := (Nat.log2_lt h0 (k := 53)).2 ha; omega
  obtain ⟨last, hl⟩ : ∃ last, last = max (p + (a.log2 : Int) - 52) (-1074) := ⟨_, rfl⟩
  refine ⟨(p - last).toNat, last, ?_, by omega, by omega⟩
  unfold Format.nearest
  rw [if_neg h0, dbl_least, dbl_frac, dbl_binade, dbl_inf]
  simp only [show ((52 : Nat) : Int) = 52 from rfl, ← hl]
  rw [show (last - p).toNat = 0 from by omega, cut_none, Nat.shiftLeft_eq]
  have hk : a.log2 + (p - last).toNat ≤ 52 := by omega
  have hlt : a * 2 ^ (p - last).toNat < 2 ^ 53 := by
    have h1 : a < 2 ^ (a.log2 + 1) := Nat.lt_log2_self
    calc a * 2 ^ (p - last).toNat < 2 ^ (a.log2 + 1) * 2 ^ (p - last).toNat := Nat.mul_lt_mul_of_pos_right h1 (Nat.pow_pos (by decide))
      _ = 2 ^ (a.log2 + 1 + (p - last).toNat) := (Nat.pow_add ..).symm
      _ ≤ 2 ^ 53 := Nat.pow_le_pow_right (by decide) (by omega)
  by_cases hc : last = -1074
  · rw [hc] at hlt ⊢
    simp only [show (-1074 - -1074 : Int).toNat = 0 from rfl, Nat.zero_mul, Nat.zero_add]
    generalize a * 2 ^ (p - -1074).toNat = n at hlt
    rw [Nat.min_eq_left (by omega), read_word _ (by omega)]
    by_cases hn : n < 4503599627370496
    · rw [if_pos hn]
    · rw [if_neg hn, if_pos (by omega)]
      have e1 : n / 4503599627370496 = 1 := by omega
      have e2 : 4503599627370496 + n % 4503599627370496 = n := by omega
      rw [e1, e2]; rfl
  · have hle : last = p + (a.log2 : Int) - 52 := by omega
    have hge : 2 ^ 52 ≤ a * 2 ^ (p - last).toNat := by
      have h1 : 2 ^ a.log2 ≤ a := Nat.log2_self_le h0
      calc 2 ^ 52 = 2 ^ a.log2 * 2 ^ (p - last).toNat := by rw [← Nat.pow_add]; congr 1; omega
        _ ≤ a * 2 ^ (p - last).toNat := Nat.mul_le_mul_right _ h1
    generalize a * 2 ^ (p - last).toNat = n at hlt hge
    obtain ⟨j, hj⟩ : ∃ j : Nat, j = (last - -1074).toNat := ⟨_, rfl⟩
    rw [← hj]
    have hj1 : 1 ≤ j ∧ j ≤ 2044 := by omega
    have hj2 : last = -1074 + j := by omega
    have hr : j * 4503599627370496 + n < 9218868437227405312 := by omega
    rw [Nat.min_eq_left (Nat.le_of_lt hr), read_word _ (by omega), if_neg (by omega), if_pos hr]
    have e1 : (j * 4503599627370496 + n) / 4503599627370496 = j + 1 := by omega
    have e2 : 4503599627370496 + (j * 4503599627370496 + n) % 4503599627370496 = n := by omega
    rw [e1, e2, hj2]; simp
@[irreducible] def uE : Nat := 1100
theorem uE_eq : uE = 1100 := by unfold uE; rfl
/-- The value of a datum, in units of 2 ^ (-1100). -/
def fV (s : Bool) (m : Nat) (l : Int) : Int := signed s m (l + 1100).toNat
theorem signed_eq (s : Bool) (m u : Nat) : signed s m u = if s = true then -((m * 2 ^ u : Nat) : Int) else ((m * 2 ^ u : Nat) : Int) := by
  unfold signed; rw [Nat.shiftLeft_eq]
theorem signed_mul (s : Bool) (m u k : Nat) : signed s m (u + k) = signed s m u * 2 ^ k := by
  rw [signed_eq, signed_eq]
  cases s <;> simp [Nat.pow_add, Int.natCast_mul, Int.mul_assoc, Int.neg_mul]
theorem fV_pow (s : Bool) (a k : Nat) {l p : Int} (h : l + k = p) (hl : -1100 ≤ l) : fV s (a * 2 ^ k) l = fV s a p := by
  unfold fV
  rw [signed_eq, signed_eq]
  have : a * 2 ^ k * 2 ^ (l + 1100).toNat = a * 2 ^ (p + 1100).toNat := by
    rw [Nat.mul_assoc, ← Nat.pow_add]; congr 2; omega
  rw [this]
theorem cmp_lt {a b : Int} : (compare a b = .lt) = (a < b) := by
  apply propext
  simp only [compare, compareOfLessAndEq]
  split
  · simp [*]
  · split <;> simp [*]
theorem cmp_eq {a b : Int} : (compare a b = .eq) = (a = b) := by
  apply propext
  simp only [compare, compareOfLessAndEq]
  split
  · constructor
    · intro h; cases h
    · intro h; omega
  · split <;> simp [*]
theorem cmp_gt {a b : Int} : (compare a b = .gt) = (b < a) := by
  apply propext
  simp only [compare, compareOfLessAndEq]
  split
  · constructor
    · intro h; cases h
    · intro h; omega
  · split
    · constructor
      · intro h; cases h
      · intro h; omega
    · constructor
      · intro; omega
      · intro; rfl
theorem cmp_mul (a b : Int) (k : Nat) : compare (a * 2 ^ k) (b * 2 ^ k) = compare a b := by
  have hk : (0 : Int) < 2 ^ k := Int.pow_pos (by decide)
  have lt : ∀ {x y : Int}, x < y → compare x y = .lt := fun h => cmp_lt.mpr h
  have gt : ∀ {x y : Int}, y < x → compare x y = .gt := fun h => cmp_gt.mpr h
  rcases Int.lt_trichotomy a b with h | h | h
  · rw [lt h, lt (Int.mul_lt_mul_of_pos_right h hk)]
  · rw [h]
    rw [show compare b b = .eq from cmp_eq.mpr rfl, show compare (b * 2 ^ k) (b * 2 ^ k) = .eq from cmp_eq.mpr rfl]
  · rw [gt h, gt (Int.mul_lt_mul_of_pos_right h hk)]
theorem order_fV {s t : Bool} {m n : Nat} {i j : Int} (hi : -1100 ≤ i) (hj : -1100 ≤ j) : (Datum.number s m i).order (.number t n j) = some (compare (fV s m i) (fV t n j)) := by
  show some (compare (signed s m (i - min i j).toNat) (signed t n (j - min i j).toNat)) = _
  congr 1
  rw [← cmp_mul _ _ (min i j + 1100).toNat, ← signed_mul, ← signed_mul]
  unfold fV
  congr 2 <;> omega
/-- 16. -/
abbrev c16 : Nat := 4625196817309499392
theorem read_c16 : double.read c16 = .number false 4503599627370496 (-48) := by decide
theorem mul16 {s : Bool} {a : Nat} {p : Int} (ha : a < 2 ^ 53) (hp : -1074 ≤ p) (hq : p ≤ 970) : double.mul c16 (double.nearest s a p) = some (double.nearest s a (p + 4)) ∧ double.mul (double.nearest s a p) c16 = some (double.nearest s a (p + 4)) := by
  obtain ⟨k, l, h1, h2, h3⟩ := read_nearest s ha hp hq
  have key : ∀ q : Int, q = l + -48 → double.nearest s (a * 2 ^ k * 2 ^ 52) q = double.nearest s a (p + 4) := by
    intro q hq
    rw [nearest_pow, nearest_pow]; congr 1; omega
  unfold Format.mul
  rw [h1, read_c16]
  refine ⟨?_, ?_⟩
  · show some (double.nearest (false ^^ s) (4503599627370496 * (a * 2 ^ k)) (-48 + l)) = _
    rw [Bool.false_xor, Nat.mul_comm]
    exact congrArg some (key _ (by omega))
  · show some (double.nearest (s ^^ false) (a * 2 ^ k * 4503599627370496) (l + -48)) = _
    rw [Bool.xor_false]
    exact congrArg some (key _ (by omega))
theorem sub_same {b : Nat} {s : Bool} {m : Nat} {l : Int} (h : double.read b = .number s m l) : double.sub b b = some 0 := by
  unfold Format.sub
  rw [h]
  show some (double.nearest (if signed s m (l - min l l).toNat + signed (!s) m (l - min l l).toNat = 0 then s && !s else _) _ _) = _
  have : signed s m (l - min l l).toNat + signed (!s) m (l - min l l).toNat = 0 := by
    rw [signed_eq, signed_eq]; cases s <;> simp <;> omega
  rw [if_pos this, this]
  have e : (s && !s) = false := by cases s <;> rfl
  rw [e]
  rfl
theorem order_zero : double.order 0 0 = some .eq := by decide
/-- The whole part of a number. -/
def fTr (s : Bool) (m : Nat) (p : Int) : Int := signed s (m * 2 ^ p.toNat / 2 ^ (-p).toNat) 0
theorem signed_zero (s : Bool) (m : Nat) : signed s m 0 = if s = true then -(m : Int) else (m : Int) := by rw [signed_eq]; simp
theorem cut_zero_div (s : Bool) (n d : Nat) : Toward.zero.cut s n d = n / 2 ^ d := by
  unfold Toward.cut
  simp only [Bool.toNat_false, Nat.add_zero]
  rw [Nat.shiftLeft_eq, Nat.one_mul]
  rcases Nat.le_total d (n.log2 + 2) with h | h
  · rw [Nat.min_eq_left h]
  · rw [Nat.min_eq_right h]
    have hn : n < 2 ^ (n.log2 + 2) := Nat.lt_of_lt_of_le Nat.lt_log2_self (Nat.pow_le_pow_right (by decide) (by omega))
    rw [Nat.div_eq_of_lt hn, Nat.div_eq_of_lt (Nat.lt_of_lt_of_le hn (Nat.pow_le_pow_right (by decide) h))]
theorem cut_down_div (s : Bool) (n d : Nat) : Toward.down.cut s n d = n / 2 ^ d + (s && n % 2 ^ d != 0).toNat := by
  unfold Toward.cut
  simp only []
  rw [Nat.shiftLeft_eq, Nat.one_mul]
  rcases Nat.le_total d (n.log2 + 2) with h | h
  · rw [Nat.min_eq_left h]
  · rw [Nat.min_eq_right h]
    have hn : n < 2 ^ (n.log2 + 2) := Nat.lt_of_lt_of_le Nat.lt_log2_self (Nat.pow_le_pow_right (by decide) (by omega))
    have hn2 : n < 2 ^ d := Nat.lt_of_lt_of_le hn (Nat.pow_le_pow_right (by decide) h)
    rw [Nat.div_eq_of_lt hn, Nat.div_eq_of_lt hn2, Nat.mod_eq_of_lt hn, Nat.mod_eq_of_lt hn2]
theorem tr_pow (s : Bool) (a k : Nat) {l p : Int} (h : l + k = p) : fTr s (a * 2 ^ k) l = fTr s a p := by
  unfold fTr
  congr 1
  rcases Int.le_total 0 l with hl | hl
  · rw [show (-l).toNat = 0 from by omega, show (-p).toNat = 0 from by omega, Nat.mul_assoc, ← Nat.pow_add]
    congr 3; omega
  · rw [show l.toNat = 0 from by omega, Nat.pow_zero, Nat.mul_one]
    rcases Int.le_total 0 p with hp | hp
    · rw [show (-p).toNat = 0 from by omega, Nat.pow_zero, Nat.div_one]
      have : a * 2 ^ k = a * 2 ^ p.toNat * 2 ^ (-l).toNat := by rw [Nat.mul_assoc, ← Nat.pow_add]; congr 2; omega
      rw [this, Nat.mul_div_cancel _ (Nat.pow_pos (by decide))]
    · rw [show p.toNat = 0 from by omega, Nat.pow_zero, Nat.mul_one]
      rw [show (-l).toNat = (-p).toNat + k from by omega, Nat.pow_add, Nat.mul_div_mul_right _ _ (Nat.pow_pos (by decide))]
theorem toInt_nearest {s : Bool} {a : Nat} {p : Int} (ha : a < 2 ^ 53) (hp : -1074 ≤ p) (hq : p ≤ 970) : (double.read (double.nearest s a p)).toInt .zero = some (fTr s a p) := by
  obtain ⟨k, l, h1, h2, h3⟩ := read_nearest s ha hp hq
  rw [h1]
  show some (signed s (Toward.zero.cut s ((a * 2 ^ k) <<< l.toNat) (-l).toNat) 0) = _
  rw [cut_zero_div, Nat.shiftLeft_eq, ← tr_pow s a k h2]; rfl
/-- Is it whole? -/
def fWhole (s : Bool) (m : Nat) (p : Int) : Bool := decide (fTr s m p * 2 ^ uE = fV s m p)
theorem fV_int (n : Int) : fV (decide (n < 0)) n.natAbs 0 = n * 2 ^ uE := by
  unfold fV
  rw [signed_eq, show ((0 : Int) + 1100).toNat = uE from uE_eq.symm]
  generalize uE = u
  by_cases h : n < 0
  · simp only [h, decide_true, if_true]
    rw [Int.natCast_mul, Int.natCast_pow, ← Int.neg_mul]
    have e : -((n.natAbs : Nat) : Int) = n := by omega
    rw [e]; rfl
  · simp only [h, decide_false, Bool.false_eq_true, if_false]
    rw [Int.natCast_mul, Int.natCast_pow]
    have e : ((n.natAbs : Nat) : Int) = n := by omega
    rw [e]; rfl
theorem order_nearest {s t : Bool} {a b : Nat} {p q : Int} (ha : a < 2 ^ 53) (hp : -1074 ≤ p) (hp' : p ≤ 970) (hb : b < 2 ^ 53) (hq : -1074 ≤ q) (hq' : q ≤ 970) :
    double.order (double.nearest s a p) (double.nearest t b q) = some (compare (fV s a p) (fV t b q)) := by
  obtain ⟨k, l, h1, h2, h3⟩ := read_nearest s ha hp hp'
  obtain ⟨j, i, g1, g2, g3⟩ := read_nearest t hb hq hq'
  unfold Format.order
  rw [h1, g1, order_fV (by omega) (by omega), fV_pow s a k h2 (by omega), fV_pow t b j g2 (by omega)]
theorem order_const {s t : Bool} {a n : Nat} {p j : Int} (ha : a < 2 ^ 53) (hp : -1074 ≤ p) (hp' : p ≤ 970) {c : Nat} (hc : double.read c = .number t n j) (hj : -1100 ≤ j) :
    double.order (double.nearest s a p) c = some (compare (fV s a p) (fV t n j)) := by
  obtain ⟨k, l, h1, h2, h3⟩ := read_nearest s ha hp hp'
  unfold Format.order
  rw [h1, hc, order_fV (by omega) hj, fV_pow s a k h2 (by omega)]
/-- The floor. -/
def fFl (s : Bool) (m : Nat) (p : Int) : Nat := m * 2 ^ p.toNat / 2 ^ (-p).toNat + (s && m * 2 ^ p.toNat % 2 ^ (-p).toNat != 0).toNat
theorem floor_nearest {s : Bool} {a : Nat} {p : Int} (ha : a < 2 ^ 53) (hp : -1074 ≤ p) (hq : p ≤ 970) : ∃ (k : Nat) (l : Int), l + (k : Int) = p ∧ -1074 ≤ l ∧ double.write ((double.read (double.nearest s a p)).integral .down) = double.nearest s (fFl s (a * 2 ^ k) l) 0 := by
  obtain ⟨k, l, h1, h2, h3⟩ := read_nearest s ha hp hq
  refine ⟨k, l, h2, h3, ?_⟩
  rw [h1]
  show double.nearest s (Toward.down.cut s ((a * 2 ^ k) <<< l.toNat) (-l).toNat) 0 = _
  rw [cut_down_div, Nat.shiftLeft_eq]; rfl
theorem natAbs_fTr (s : Bool) (m : Nat) (p : Int) : (fTr s m p).natAbs = m * 2 ^ p.toNat / 2 ^ (-p).toNat := by
  unfold fTr; rw [signed_zero]
  generalize m * 2 ^ p.toNat / 2 ^ (-p).toNat = n
  cases s <;> simp
theorem fV_zero (s : Bool) (n u : Nat) (hu : u = 1100) : fV s n 0 = signed s n u := by subst hu; rfl
/-- A number equals its floor if it is whole, and only then. -/
theorem floor_whole {s : Bool} {m : Nat} {p : Int} (hp : -1100 ≤ p) : (fV s (fFl s m p) 0 = fV s m p) ↔ (fTr s m p * 2 ^ uE = fV s m p) := by
  obtain ⟨u, hu⟩ : ∃ u : Nat, u = 1100 := ⟨_, rfl⟩
  have e1 : fTr s m p * 2 ^ uE = signed s (m * 2 ^ p.toNat / 2 ^ (-p).toNat) u := by
    rw [uE_eq, ← hu]; unfold fTr; rw [← signed_mul, Nat.zero_add]
  rw [e1, fV_zero s _ u hu]
  obtain ⟨d, hd⟩ : ∃ d : Nat, d = (-p).toNat := ⟨_, rfl⟩
  obtain ⟨n, hn⟩ : ∃ n : Nat, n = m * 2 ^ p.toNat := ⟨_, rfl⟩
  have hdu : d ≤ u := by omega
  have e2 : fV s m p = signed s n (u - d) := by
    unfold fV
    rw [signed_eq, signed_eq, hn, Nat.mul_assoc, ← Nat.pow_add]
    have : (p + 1100).toNat = p.toNat + (u - d) := by omega
    rw [this]
  rw [e2]
  unfold fFl
  rw [← hd, ← hn]
  have key : ∀ F : Nat, (signed s F u = signed s n (u - d)) ↔ F * 2 ^ d = n := by
    intro F
    have h1 : signed s F u = signed s (F * 2 ^ d) (u - d) := by
      rw [signed_eq, signed_eq, Nat.mul_assoc, ← Nat.pow_add, show d + (u - d) = u from by omega]
    rw [h1, signed_eq, signed_eq]
    have hpos : 0 < 2 ^ (u - d) := Nat.pow_pos (by decide)
    have h2 : (F * 2 ^ d * 2 ^ (u - d) = n * 2 ^ (u - d)) ↔ F * 2 ^ d = n := ⟨fun h => Nat.eq_of_mul_eq_mul_right hpos h, fun h => by rw [h]⟩
    rw [← h2]
    cases s
    · simp only [Bool.false_eq_true, if_false]; exact Int.ofNat_inj
    · simp only [if_true]; exact ⟨fun h => Int.ofNat_inj.1 (Int.neg_inj.1 h), fun h => by rw [h]⟩
  rw [key, key]
  have hpos : 0 < 2 ^ d := Nat.pow_pos (by decide)
  have hdm := Nat.div_add_mod n (2 ^ d)
  have hml := Nat.mod_lt n hpos
  by_cases hz : n % 2 ^ d = 0
  · rw [hz]; simp
  · have e3 : ∀ F, F * 2 ^ d = n → False := fun F h => hz (by rw [← h, Nat.mul_mod_left])
    exact ⟨fun h => (e3 _ h).elim, fun h => (e3 _ h).elim⟩
theorem fV_le {s : Bool} {m : Nat} {p : Int} (hp : -1100 ≤ p) {b : Nat} (h1 : ¬ fV s m p < fV true b 0) (h2 : ¬ fV false b 0 < fV s m p) : m * 2 ^ p.toNat / 2 ^ (-p).toNat ≤ b ∧ m * 2 ^ p.toNat ≤ b * 2 ^ (-p).toNat := by
  obtain ⟨u, hu⟩ : ∃ u : Nat, u = 1100 := ⟨_, rfl⟩
  rw [fV_zero _ _ u hu] at h1 h2
  obtain ⟨d, hd⟩ : ∃ d : Nat, d = (-p).toNat := ⟨_, rfl⟩
  obtain ⟨n, hn⟩ : ∃ n : Nat, n = m * 2 ^ p.toNat := ⟨_, rfl⟩
  have hdu : d ≤ u := by omega
  have e2 : fV s m p = signed s n (u - d) := by
    unfold fV
    rw [signed_eq, signed_eq, hn, Nat.mul_assoc, ← Nat.pow_add]
    have : (p + 1100).toNat = p.toNat + (u - d) := by omega
    rw [this]
  rw [e2] at h1 h2
  rw [← hd, ← hn]
  have hb : ∀ t, signed t b u = signed t (b * 2 ^ d) (u - d) := fun t => by
    rw [signed_eq, signed_eq, Nat.mul_assoc, ← Nat.pow_add, show d + (u - d) = u from by omega]
  rw [hb, signed_eq, signed_eq] at h1 h2
  have hpos : 0 < 2 ^ (u - d) := Nat.pow_pos (by decide)
  have : n * 2 ^ (u - d) ≤ b * 2 ^ d * 2 ^ (u - d) := by
    cases s
    · simp only [Bool.false_eq_true, if_false] at h2; omega
    · simp only [if_true] at h1; omega
  have h3 : n ≤ b * 2 ^ d := Nat.le_of_mul_le_mul_right this hpos
  exact ⟨Nat.div_le_of_le_mul (by rw [Nat.mul_comm]; exact h3), h3⟩
theorem read_single {x : Nat} {s : Bool} {m : Nat} {e : Int} (h : single.read x = .number s m e) : m < 2 ^ 53 ∧ -149 ≤ e ∧ e ≤ 104 := by
  unfold Format.read at h
  have e1 : single.signWeight = 2147483648 := by decide
  have e2 : single.binade = 8388608 := by decide
  have e3 : single.infRung = 2139095040 := by decide
  have e4 : single.leastPlace = -149 := by decide
  rw [e1, e2, e3, e4] at h
  simp only at h
  split at h
  · cases h; exact ⟨by omega, by omega, by omega⟩
  · split at h
    · cases h; exact ⟨by omega, by omega, by omega⟩
    · split at h <;> cases h
/-- The error of a sample. -/
def smpE (x : Nat) : Int :=
  match single.read x with
  | .number s m e => if fV s m (e + 4) < fV true 32768 0 ∨ fV false 32768 0 < fV s m (e + 4) ∨ fWhole s m (e + 4) = false then 3 else 0
  | _ => 1
/-- A sample in sixteenths. -/
def six (x : Nat) : Int :=
  match single.read x with
  | .number s m e => fTr s m (e + 4)
  | _ => 0
/-- Is it not 0? -/
def nz (x : Nat) : Bool :=
  match single.read x with
  | .number _ m _ => m != 0
  | _ => true
theorem six_small {x : Nat} (h : smpE x = 0) : -32768 ≤ six x ∧ six x ≤ 32768 := by
  unfold smpE at h; unfold six
  cases hr : single.read x with
  | number s m e =>
    rw [hr] at h
    simp only at h ⊢
    obtain ⟨_, h1, _⟩ := read_single hr
    split at h
    · cases h
    · rename_i hc
      simp only [not_or] at hc
      have := (fV_le (by omega) hc.1 hc.2.1).1
      rw [← natAbs_fTr s m (e + 4)] at this
      omega
  | infinity s => rw [hr] at h; cases h
  | nan s t => rw [hr] at h; cases h
end Go.Nac
set_option linter.unusedVariables false
namespace Go.Nac
structure Spn where
  fr : Int
  to_ : Int
  deriving DecidableEq
def encSpn (x : Spn) : PV := .agg [.I x.fr, .I x.to_]
theorem encSpn_eq (x : Spn) : encSpn x = .agg [.I x.fr, .I x.to_] := rfl
theorem encSpn_low {n : Nat} (l : List Spn) : lowL n (l.map encSpn) = True := eq_true (lowL_map _ _ fun r => by simp [encSpn, PV.low, lowL])
theorem encSpn_ok (l : List Spn) : (l.map encSpn).all (okElem 2) = true := by rw [List.all_eq_true]; intro x hx; obtain ⟨y, _, rfl⟩ := List.mem_map.1 hx; rfl
/-- A sample. -/
abbrev encF (b : Nat) : PV := .s (.float .f32 b)
theorem encF_low {n : Nat} (l : List Nat) : lowL n (l.map encF) = True := eq_true (lowL_map _ _ fun r => by simp [PV.low])
theorem encF_ok (l : List Nat) : (l.map encF).all (okElem 1) = true := by rw [List.all_eq_true]; intro x hx; obtain ⟨y, _, rfl⟩ := List.mem_map.1 hx; rfl
structure Ser where
  name : ByteArray
  start : Int
  samples : List Nat
  gaps : List Spn
def encSer (x : Ser) : PV := .agg [.s (.string x.name), .I x.start, .fs (x.samples.map encF), .fs (x.gaps.map encSpn)]
theorem encSer_eq (x : Ser) : encSer x = .agg [.s (.string x.name), .I x.start, .fs (x.samples.map encF), .fs (x.gaps.map encSpn)] := rfl
def letterB (c : Nat) : Bool := decide (97 ≤ c ∧ c ≤ 122) || decide (65 ≤ c ∧ c ≤ 90)
def chOk (i c : Nat) : Bool := letterB c || (decide (i ≠ 0) && (decide (c = 95) || decide (48 ≤ c ∧ c ≤ 57)))
def chAt (s : ByteArray) (i : Nat) : Nat := (s[i]?.getD 0).toNat
def nameOk (s : ByteArray) : Bool := decide (s.size ≠ 0) && decide (s.size ≤ 24) && (List.range s.size).all fun i => chOk i (chAt s i)
theorem nameOk_bad {s : ByteArray} {i : Nat} (h : i < s.size) (hc : chOk i (chAt s i) = false) : nameOk s = false := by
  unfold nameOk
  have : ((List.range s.size).all fun i => chOk i (chAt s i)) = false := by
    rw [List.all_eq_false]; exact ⟨i, by simpa using h, by simp [hc]⟩
  rw [this, Bool.and_false]
theorem nameOk_good {s : ByteArray} (h0 : s.size ≠ 0) (h1 : s.size ≤ 24) (h : ∀ i, i < s.size → chOk i (chAt s i) = true) : nameOk s = true := by
  unfold nameOk
  have : ((List.range s.size).all fun i => chOk i (chAt s i)) = true := by
    rw [List.all_eq_true]; intro i hi; exact h i (by simpa using hi)
  simp [this, h0, h1]
theorem nameOk_zero {s : ByteArray} (h0 : s.size = 0) : nameOk s = false := by simp [nameOk, h0]
theorem nameOk_long {s : ByteArray} (h0 : 24 < s.size) : nameOk s = false := by simp [nameOk]; omega
def chkSpn (s : Spn) : Int := if s.fr < 0 ∨ s.to_ ≤ s.fr ∨ 40000 < s.to_ then 14 else 0
def chkSpnsF (last : Int) : List Spn → Int
  | [] => 0
  | s :: r => if chkSpn s = 0 then (if s.fr ≤ last then 11 else chkSpnsF s.to_ r) else 14
def chkSpns (l : List Spn) : Int := if 1024 < l.length then 5 else chkSpnsF (-1) l
/-- The end of the span before the k-th. -/
def lastTo (l : List Spn) (k : Nat) : Int := if k = 0 then -1 else match l[k - 1]? with | some s => s.to_ | none => -1
theorem lastTo_zero (l : List Spn) : lastTo l 0 = -1 := rfl
theorem lastTo_succ {l : List Spn} {k : Nat} {s : Spn} (h : l[k]? = some s) : lastTo l (k + 1) = s.to_ := by simp [lastTo, h]
theorem chkSpnsF_drop {l : List Spn} {k : Nat} {s : Spn} (h : l[k]? = some s) (last : Int) : chkSpnsF last (l.drop k) = if chkSpn s = 0 then (if s.fr ≤ last then 11 else chkSpnsF s.to_ (l.drop (k + 1))) else 14 := by
  obtain ⟨h1, h2⟩ := List.getElem?_eq_some_iff.1 h
  rw [List.drop_eq_getElem_cons h1, h2, chkSpnsF]
theorem chkSpnsF_end {l : List Spn} {k : Nat} (h : l.length ≤ k) (last : Int) : chkSpnsF last (l.drop k) = 0 := by
  rw [List.drop_eq_nil_of_le h]; rfl
theorem chkSpn_ok {s : Spn} (h : chkSpn s = 0) : 0 ≤ s.fr ∧ s.fr < s.to_ ∧ s.to_ ≤ 40000 := by
  unfold chkSpn at h; split at h
  · cases h
  · omega
/-- Valid gaps lie behind one another. -/
theorem chkSpnsF_ok {l : List Spn} : ∀ {last : Int}, chkSpnsF last l = 0 → (∀ s : Spn, s ∈ l → 0 ≤ s.fr ∧ s.fr < s.to_ ∧ last < s.fr) ∧ ∀ s : Spn, s ∈ l → ∀ z : Spn, l.getLast? = some z → s.to_ ≤ z.to_ := by
  induction l with
  | nil => intro last _; exact ⟨fun s h => absurd h (by simp), fun s h => absurd h (by simp)⟩
  | cons a l ih =>
    intro last h
    rw [chkSpnsF] at h
    split at h
    · rename_i h0
      split at h
      · cases h
      · rename_i h1
        obtain ⟨g1, g2⟩ := ih h
        have ha := chkSpn_ok h0
        refine ⟨fun s hs => ?_, fun s hs z hz => ?_⟩
        · rcases List.mem_cons.1 hs with rfl | hs
          · exact ⟨ha.1, ha.2.1, by omega⟩
          · have := g1 s hs; exact ⟨this.1, this.2.1, by omega⟩
        · cases l with
          | nil => simp at hz hs; subst hz; subst hs; exact Int.le_refl _
          | cons b l =>
            have hz' : (b :: l).getLast? = some z := by simpa using hz
            rcases List.mem_cons.1 hs with rfl | hs
            · have h3 := g2 b (by simp) z hz'
              have h4 := g1 b (by simp)
              omega
            · exact g2 s hs z hz'
    · cases h
def gapAt (g : List Spn) (i : Int) : Bool := g.any fun s => decide (s.fr ≤ i ∧ i < s.to_)
theorem gapAt_snoc (l : List Spn) (k : Nat) (s : Spn) (h : l[k]? = some s) (i : Int) : gapAt (l.take (k + 1)) i = (gapAt (l.take k) i || decide (s.fr ≤ i ∧ i < s.to_)) := by
  obtain ⟨h1, h2⟩ := List.getElem?_eq_some_iff.1 h
  unfold gapAt
  rw [List.take_succ_eq_append_getElem h1, h2, List.any_append]; simp
def chkGap (l : List Nat) (g : List Spn) : Int := if (List.range l.length).any (fun i => nz (l.getD i 0) && gapAt g i) then 17 else 0
theorem chkGap_bad {l : List Nat} {g : List Spn} {i x : Nat} (h : l[i]? = some x) (h1 : nz x = true) (h2 : gapAt g i = true) : chkGap l g = 17 := by
  unfold chkGap
  rw [if_pos]
  rw [List.any_eq_true]
  refine ⟨i, by simpa using (List.getElem?_eq_some_iff.1 h).1, ?_⟩
  rw [List.getD_eq_getElem?_getD, h]; simp [h1, h2]
theorem chkGap_good {l : List Nat} {g : List Spn} (h : ∀ (i x : Nat), l[i]? = some x → (nz x && gapAt g i) = false) : chkGap l g = 0 := by
  unfold chkGap
  rw [if_neg]
  rw [Bool.not_eq_true, List.any_eq_false]
  intro i hi
  have hi : i < l.length := by simpa using hi
  have := h i _ (List.getElem?_eq_getElem hi)
  rw [List.getD_eq_getElem?_getD, List.getElem?_eq_getElem hi]; simpa using this
def chkLast (l : List Nat) (g : List Spn) : Int := match g.getLast? with | some z => if (l.length : Int) < z.to_ then 14 else 0 | none => 0
def chkSer (s : Ser) : Int :=
  if nameOk s.name = false then 8 else if ¬ rng s.start 0 999999999 = 0 then 3 else if 40000 < s.samples.length then 5 else
  if ¬ fst0 (s.samples.map smpE) = 0 then fst0 (s.samples.map smpE) else if ¬ chkSpns s.gaps = 0 then chkSpns s.gaps else
  if ¬ chkLast s.samples s.gaps = 0 then 14 else chkGap s.samples s.gaps
/-- The loads of the first k samples. -/
def loadsK (l : List Nat) (g : List Spn) (k : Nat) : List Int := ((l.take k).zipIdx.filter fun p => !gapAt g p.2).map fun p => six p.1
theorem loadsK_snoc {l : List Nat} {g : List Spn} {k x : Nat} (h : l[k]? = some x) : loadsK l g (k + 1) = loadsK l g k ++ if gapAt g k = true then [] else [six x] := by
  obtain ⟨h1, h2⟩ := List.getElem?_eq_some_iff.1 h
  unfold loadsK
  rw [List.take_succ_eq_append_getElem h1, h2, List.zipIdx_append, List.filter_append, List.map_append]
  congr 1
  have hl : (l.take k).length = k := by simp; omega
  simp only [List.zipIdx_cons, List.zipIdx_nil, hl, Nat.zero_add]
  by_cases hg : gapAt g k = true
  · simp [hg]
  · simp [hg]
theorem loadsK_len (l : List Nat) (g : List Spn) (k : Nat) : (loadsK l g k).length ≤ k := by
  unfold loadsK
  rw [List.length_map]
  refine Nat.le_trans (List.length_filter_le _ _) ?_
  simp; omega
theorem fst0_all {l : List Int} (h : fst0 l = 0) : ∀ x ∈ l, x = 0 := by
  induction l with
  | nil => intro x hx; cases hx
  | cons a l ih =>
    simp only [fst0] at h
    split at h
    · rename_i ha
      intro x hx
      rcases List.mem_cons.1 hx with rfl | hx
      · exact ha
      · exact ih h x hx
    · rename_i ha; exact absurd h ha
end Go.Nac
set_option linter.unusedVariables false
namespace Go.Nac
def goneRow (n : Nat) (g : List Spn) (k : Nat) : List PV := (List.range n).map fun (i : Nat) => PV.B (gapAt (g.take k) (i : Int))
def innRow (n : Nat) (g : List Spn) (k : Nat) (x : Spn) (j : Nat) : List PV := (List.range n).map fun (i : Nat) => PV.B (gapAt (g.take k) (i : Int) || decide (x.fr ≤ (i : Int) ∧ (i : Int) < (j : Int)))
theorem goneRow_len (n : Nat) (g : List Spn) (k : Nat) : (goneRow n g k).length = n := by simp [goneRow]
theorem innRow_len (n : Nat) (g : List Spn) (k : Nat) (x : Spn) (j : Nat) : (innRow n g k x j).length = n := by simp [innRow]
theorem goneRow_low {m : Nat} (n : Nat) (g : List Spn) (k : Nat) : lowL m (goneRow n g k) = True := eq_true (lowL_map _ _ fun i => by simp [PV.low])
theorem gone_zero (n : Nat) (g : List Spn) : goneRow n g 0 = List.replicate n (PV.B false) := by
  apply List.ext_getElem?
  intro i
  simp only [goneRow, List.getElem?_map, List.getElem?_replicate]
  by_cases h : i < n
  · rw [List.getElem?_range h, if_pos h]; rfl
  · rw [List.getElem?_eq_none (by simpa using h), if_neg h]; rfl
theorem inn_start {n : Nat} {g : List Spn} {k : Nat} {x : Spn} {a : Nat} (h : x.fr = a) : innRow n g k x a = goneRow n g k := by
  unfold innRow goneRow
  refine List.map_congr_left fun i _ => ?_
  rw [h, decide_eq_false (by omega), Bool.or_false]
theorem inn_end {n : Nat} {g : List Spn} {k : Nat} {x : Spn} {b : Nat} (hx : g[k]? = some x) (h : x.to_ = b) : innRow n g k x b = goneRow n g (k + 1) := by
  unfold innRow goneRow
  refine List.map_congr_left fun i _ => ?_
  rw [gapAt_snoc g k x hx, h]
theorem inn_get {n : Nat} {g : List Spn} {k : Nat} {x : Spn} {j i : Nat} (h : i < n) : (innRow n g k x j)[i]? = some (.B (gapAt (g.take k) i || decide (x.fr ≤ (i : Int) ∧ (i : Int) < (j : Int)))) := by
  simp only [innRow, List.getElem?_map]; rw [List.getElem?_range h]; rfl
theorem gone_get {n : Nat} {g : List Spn} {k : Nat} {i : Nat} (h : i < n) : (goneRow n g k)[i]? = some (.B (gapAt (g.take k) i)) := by
  simp only [goneRow, List.getElem?_map]; rw [List.getElem?_range h]; rfl
theorem inn_set {n : Nat} {g : List Spn} {k : Nat} {x : Spn} {j : Nat} (ha : x.fr ≤ j) (hj : j < n) : (innRow n g k x j).set j (.B true) = innRow n g k x (j + 1) := by
  apply List.ext_getElem?
  intro i
  by_cases e : i = j
  · subst e
    rw [List.getElem?_set_self (by rw [innRow_len]; exact hj), inn_get hj]
    rw [decide_eq_true (by omega), Bool.or_true]
  · rw [List.getElem?_set_ne (Ne.symm e)]
    by_cases h : i < n
    · rw [inn_get h, inn_get h]
      have e2 : decide (x.fr ≤ (i : Int) ∧ (i : Int) < (j : Int)) = decide (x.fr ≤ (i : Int) ∧ (i : Int) < ((j + 1 : Nat) : Int)) := decide_eq_decide.2 (by omega)
      rw [e2]
    · rw [List.getElem?_eq_none (by rw [innRow_len]; omega), List.getElem?_eq_none (by rw [innRow_len]; omega)]
/-- No sample before the k-th is not 0 where it is gone. -/
def gapFree (l : List Nat) (g : List Spn) (k : Nat) : Prop := ∀ (i x : Nat), i < k → l[i]? = some x → (nz x && gapAt g i) = false
theorem gapFree_zero (l : List Nat) (g : List Spn) : gapFree l g 0 := fun i x h => absurd h (by omega)
theorem gapFree_succ {l : List Nat} {g : List Spn} {k x : Nat} (h : gapFree l g k) (h1 : l[k]? = some x) (h2 : (nz x && gapAt g k) = false) : gapFree l g (k + 1) := by
  intro i y hi hy
  rcases Nat.lt_or_ge i k with h3 | h3
  · exact h i y h3 hy
  · have : i = k := by omega
    subst this; rw [h1] at hy; cases hy; exact h2
theorem gapFree_end {l : List Nat} {g : List Spn} {k : Nat} (h : gapFree l g k) (hk : l.length ≤ k) : chkGap l g = 0 :=
  chkGap_good fun i x hx => h i x (by have := (List.getElem?_eq_some_iff.1 hx).1; omega) hx
def serA (s : Ser) : Int := fst0 [if nameOk s.name = false then 8 else 0, rng s.start 0 999999999, if 40000 < s.samples.length then 5 else 0]
def serB (s : Ser) : Int :=
  if ¬ fst0 (s.samples.map smpE) = 0 then fst0 (s.samples.map smpE) else if ¬ chkSpns s.gaps = 0 then chkSpns s.gaps else
  if ¬ chkLast s.samples s.gaps = 0 then 14 else chkGap s.samples s.gaps
theorem rng_cases (n a b : Int) : rng n a b = 0 ∨ rng n a b = 3 := by unfold rng; split <;> simp
theorem chkSer_eq (s : Ser) : chkSer s = if serA s = 0 then serB s else serA s := by
  unfold chkSer serA serB
  simp only [fst0]
  rcases rng_cases s.start 0 999999999 with h | h <;> cases hn : nameOk s.name <;> by_cases hl : 40000 < s.samples.length <;> simp [h, hl]
theorem serA_zero {s : Ser} (h : serA s = 0) : nameOk s.name = true ∧ rng s.start 0 999999999 = 0 ∧ s.samples.length ≤ 40000 := by
  unfold serA at h
  simp only [fst0] at h
  rcases rng_cases s.start 0 999999999 with h1 | h1 <;> cases hn : nameOk s.name <;> by_cases hl : 40000 < s.samples.length <;> simp [h1, hl, hn] at h ⊢ <;> omega
/-- Valid gaps lie within the samples. -/
theorem gaps_in {l : List Nat} {g : List Spn} (h1 : chkSpns g = 0) (h2 : chkLast l g = 0) : ∀ x : Spn, x ∈ g → 0 ≤ x.fr ∧ x.fr < x.to_ ∧ x.to_ ≤ l.length := by
  unfold chkSpns at h1
  split at h1
  · cases h1
  · obtain ⟨g1, g2⟩ := chkSpnsF_ok h1
    intro x hx
    have h3 := g1 x hx
    refine ⟨h3.1, h3.2.1, ?_⟩
    unfold chkLast at h2
    cases hz : g.getLast? with
    | none => rw [List.getLast?_eq_none_iff] at hz; subst hz; cases hx
    | some z =>
      rw [hz] at h2
      simp only at h2
      have := g2 x hx z hz
      split at h2
      · cases h2
      · omega
theorem chkLast_nil {l : List Nat} : chkLast l [] = 0 := rfl
theorem chkLast_some {l : List Nat} {g : List Spn} {z : Spn} (h : g[g.length - 1]? = some z) : chkLast l g = if (l.length : Int) < z.to_ then 14 else 0 := by
  unfold chkLast
  rw [List.getLast?_eq_getElem?, h]
end Go.Nac

